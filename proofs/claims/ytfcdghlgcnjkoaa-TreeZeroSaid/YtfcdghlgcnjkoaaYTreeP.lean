/- Trees: they stay level. -/
import Derived.Test.YtfcdghlgcnjkoaaYTreeW
import Derived.Test.YtfcdghlgcnjkoaaYK
import Derived.Test.YtfcdghlgcnjkoaaYO
namespace Go.Proofs.Ytfcdghlgcnjkoaa

theorem awake15 : F_law15_awake = some true := by kernel_rfl

end Go.Proofs.Ytfcdghlgcnjkoaa
