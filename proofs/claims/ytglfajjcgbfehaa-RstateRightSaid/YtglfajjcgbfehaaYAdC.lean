/- Operations: what is wrong with them. -/
import Derived.Test.YtglfajjcgbfehaaYRfWR
import Derived.Test.YtglfajjcgbfehaaYOpsC
import Derived.Test.YtglfajjcgbfehaaYO
import Derived.Test.YtglfajjcgbfehaaYP
namespace Go.Proofs.Ytglfajjcgbfehaa
-- what is wrong
end Go.Proofs.Ytglfajjcgbfehaa
