/- The order of texts; rows in that order. No program is named here. -/
import Derived.Test.YtfcdghlgcnjkoaaYP
namespace Go.Proofs.Ytfcdghlgcnjkoaa

end Go.Proofs.Ytfcdghlgcnjkoaa
