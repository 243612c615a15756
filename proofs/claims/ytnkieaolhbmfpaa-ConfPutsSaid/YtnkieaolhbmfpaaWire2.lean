/- The walks of 'wire': what reads parts of a message. -/
import Derived.Test.YtnkieaolhbmfpaaWire1
import Derived.Test.YtnkieaolhbmfpaaW3
namespace Go.Proofs.Ytnkieaolhbmfpaa
open Go.RowKit

-- (no (*catena/wire.Reader).Text in this seat)

-- (no (*catena/wire.Reader).Flag in this seat)

end Go.Proofs.Ytnkieaolhbmfpaa
