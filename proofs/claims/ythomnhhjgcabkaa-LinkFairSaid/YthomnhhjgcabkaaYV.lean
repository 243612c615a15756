/- Numbers, texts and flags there and back: what is written is read so, what is read is written so. No program is named here. -/
import Derived.Test.YthomnhhjgcabkaaWire1
import Derived.Test.YthomnhhjgcabkaaYP
namespace Go.Proofs.Ythomnhhjgcabkaa

-- an error stays
end Go.Proofs.Ythomnhhjgcabkaa
