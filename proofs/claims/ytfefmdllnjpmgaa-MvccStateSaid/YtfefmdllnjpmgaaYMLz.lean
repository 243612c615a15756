/- Many versions: MvccZero's plain law. -/
import Derived.Test.YtfefmdllnjpmgaaYMWZero
import Derived.Test.YtfefmdllnjpmgaaYO
import Derived.Test.YtfefmdllnjpmgaaYP
namespace Go.Proofs.Ytfefmdllnjpmgaa
structure bdEOp (x : EOp) : Prop where
 key : bdStr x.key
 val : bdStr x.val
 del : bdT x.del

theorem awake16 : F_law16_awake = some true := by kernel_rfl

end Go.Proofs.Ytfefmdllnjpmgaa
