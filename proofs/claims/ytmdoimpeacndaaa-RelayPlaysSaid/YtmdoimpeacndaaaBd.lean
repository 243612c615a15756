/- What the reach of an argument bounds: how long its lists and strings are. No program is named here. -/
import Derived.Test.YtmdoimpeacndaaaData
namespace Go.Proofs.Ytmdoimpeacndaaa

def bdM : Nat := 140737488355328

def bdT {α : Type} (_ : α) : Prop := True

def bdStr (s : ByteArray) : Prop := s.size ≤ bdM

def bdSl {α : Type} [Inhabited α] (B : α → Prop) (l : List α) : Prop := l.length ≤ bdM ∧ ∀ k, k < l.length → B (l.getD k default)

def bdDOp (x : DOp) : Prop := bdStr x.key ∧ bdStr x.val

def bdDBatch (x : DBatch) : Prop := (bdSl bdDOp) x.ops

def bdDEntry (x : DEntry) : Prop := bdDBatch x.batch

def bdDMember (_ : DMember) : Prop := True

def bdDConf (x : DConf) : Prop := (bdSl bdDMember) x.members

def bdDPair (x : DPair) : Prop := bdStr x.key ∧ bdStr x.val

def bdDMsg (x : DMsg) : Prop := bdStr x.key ∧ bdStr x.to_ ∧ bdDConf x.conf ∧ bdDBatch x.batch ∧ (bdSl bdDEntry) x.entries ∧ (bdSl bdT) x.stamps ∧ (bdSl bdDPair) x.pairs

end Go.Proofs.Ytmdoimpeacndaaa
