/- Trees: TreeFlat. -/
import Derived.Test.YtfcdghlgcnjkoaaYTreeP4
namespace Go.Proofs.Ytfcdghlgcnjkoaa

section
variable {H : Type} {enc : Go.TypeId × Go.Value → H}
end
end Go.Proofs.Ytfcdghlgcnjkoaa
