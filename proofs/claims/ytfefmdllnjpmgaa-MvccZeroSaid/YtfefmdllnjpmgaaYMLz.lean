/- Many versions: MvccZero's plain law. -/
import Derived.Test.YtfefmdllnjpmgaaYMWZero
import Derived.Test.YtfefmdllnjpmgaaYO
import Derived.Test.YtfefmdllnjpmgaaYP
namespace Go.Proofs.Ytfefmdllnjpmgaa
structure bdEOp (x : EOp) : Prop where
 key : bdStr x.key
 val : bdStr x.val
 del : bdT x.del

theorem awake16 : F_law16_awake = some true := by kernel_rfl

theorem pure_MvccZero (ts : Int) (l : List EOp) (k : ByteArray) (_ : inU ts) (_ : bdSl bdEOp l) (_ : bdStr k) : F_law16_MvccZero ts l k = some true := by
 unfold F_law16_MvccZero
 rw [awake16]
 split
 ·rfl
 ·rfl

end Go.Proofs.Ytfefmdllnjpmgaa
