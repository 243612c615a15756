/- Regions as in YQ; a slot that the region assigns later reads as it did ahead of it. No program is named here. -/
import Derived.Test.YtdofpehcojboeaaYQ
namespace Go.Proofs.Ytdofpehcojboeaa
end Go.Proofs.Ytdofpehcojboeaa
