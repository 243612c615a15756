/- Many versions: the document's store. -/
import Derived.Test.YtglfajjcgbfehaaGreatYMv1
import Derived.Test.YtglfajjcgbfehaaGreatYRv
namespace Go.Proofs.YtglfajjcgbfehaaGreat
open Go.RowKit
end Go.Proofs.YtglfajjcgbfehaaGreat
