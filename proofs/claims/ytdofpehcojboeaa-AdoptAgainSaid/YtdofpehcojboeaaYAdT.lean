/- Adopting: the laws, plain. -/
import Derived.Test.YtdofpehcojboeaaYAdS
import Derived.Test.YtdofpehcojboeaaYAdWPlays
namespace Go.Proofs.Ytdofpehcojboeaa

theorem awake18 : F_law18_awake = some true := by kernel_rfl

-- what is the same as itself
-- how far two logs are twins
-- how much there is
end Go.Proofs.Ytdofpehcojboeaa
