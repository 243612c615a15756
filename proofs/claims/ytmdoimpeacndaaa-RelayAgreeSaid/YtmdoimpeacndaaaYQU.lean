/- Regions as in YQ; a slot that the region assigns later reads as it did ahead of it. No program is named here. -/
import Derived.Test.YtmdoimpeacndaaaYQ
namespace Go.Proofs.Ytmdoimpeacndaaa
end Go.Proofs.Ytmdoimpeacndaaa
