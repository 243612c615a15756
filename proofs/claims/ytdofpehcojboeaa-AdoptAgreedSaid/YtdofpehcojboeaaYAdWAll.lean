/- Adopting: the law AdoptAll walked. -/
import Derived.Test.YtdofpehcojboeaaYAd6
namespace Go.Proofs.Ytdofpehcojboeaa
open Go.RowKit
end Go.Proofs.Ytdofpehcojboeaa
