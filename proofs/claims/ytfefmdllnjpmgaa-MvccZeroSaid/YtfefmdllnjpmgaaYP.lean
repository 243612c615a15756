/- Plain functions: how their loops are told. No program is named here. -/
import Derived.Test.YtfefmdllnjpmgaaYB
import Derived.Test.YtfefmdllnjpmgaaBd
namespace Go.Proofs.Ytfefmdllnjpmgaa

end Go.Proofs.Ytfefmdllnjpmgaa
