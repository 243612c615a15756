/- Numbers, texts and flags there and back: what is written is read so, what is read is written so. No program is named here. -/
import Derived.Test.YtlgejpompnbfoaaWire1
import Derived.Test.YtlgejpompnbfoaaYP
namespace Go.Proofs.Ytlgejpompnbfoaa

-- an error stays
end Go.Proofs.Ytlgejpompnbfoaa
