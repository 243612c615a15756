/- Regions as in YQ; a slot that the region assigns later reads as it did ahead of it. No program is named here. -/
import Derived.Test.YtghkhndlpfmpfaaYQ
namespace Go.Proofs.Ytghkhndlpfmpfaa
end Go.Proofs.Ytghkhndlpfmpfaa
