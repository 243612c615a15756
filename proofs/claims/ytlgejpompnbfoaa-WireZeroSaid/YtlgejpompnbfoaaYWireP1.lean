/- WireReads: the plain law. -/
import Derived.Test.YtlgejpompnbfoaaYW4
import Derived.Test.YtlgejpompnbfoaaYWP
namespace Go.Proofs.Ytlgejpompnbfoaa
theorem awake02 : F_law02_awake = some true := by kernel_rfl

end Go.Proofs.Ytlgejpompnbfoaa
