/- The walks of 'wire': what reads parts of a message. -/
import Derived.Test.YthomnhhjgcabkaaWire1
import Derived.Test.YthomnhhjgcabkaaW3
namespace Go.Proofs.Ythomnhhjgcabkaa
open Go.RowKit

-- (no (*catena/wire.Reader).Big in this seat)

end Go.Proofs.Ythomnhhjgcabkaa
