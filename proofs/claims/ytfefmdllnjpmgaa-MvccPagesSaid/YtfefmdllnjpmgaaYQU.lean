/- Regions as in YQ; a slot that the region assigns later reads as it did ahead of it. No program is named here. -/
import Derived.Test.YtfefmdllnjpmgaaYQ
namespace Go.Proofs.Ytfefmdllnjpmgaa
end Go.Proofs.Ytfefmdllnjpmgaa
