/- What the reach of an argument bounds: how long its lists and strings are. No program is named here. -/
import Derived.Test.YtglfajjcgbfehaaGreatData
namespace Go.Proofs.YtglfajjcgbfehaaGreat

def bdM : Nat := 140737488355328

def bdT {α : Type} (_ : α) : Prop := True

def bdStr (s : ByteArray) : Prop := s.size ≤ bdM

def bdSl {α : Type} [Inhabited α] (B : α → Prop) (l : List α) : Prop := l.length ≤ bdM ∧ ∀ k, k < l.length → B (l.getD k default)

end Go.Proofs.YtglfajjcgbfehaaGreat
