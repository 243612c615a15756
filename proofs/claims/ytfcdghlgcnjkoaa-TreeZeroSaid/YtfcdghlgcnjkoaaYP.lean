/- Plain functions: how their loops are told. No program is named here. -/
import Derived.Test.YtfcdghlgcnjkoaaYB
import Derived.Test.YtfcdghlgcnjkoaaBd
namespace Go.Proofs.Ytfcdghlgcnjkoaa

end Go.Proofs.Ytfcdghlgcnjkoaa
