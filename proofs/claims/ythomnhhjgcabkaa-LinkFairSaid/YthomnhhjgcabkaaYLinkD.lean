/- Links: LinkPlays. -/
import Derived.Test.YthomnhhjgcabkaaYLinkC
namespace Go.Proofs.Ythomnhhjgcabkaa
open Go.RowKit
end Go.Proofs.Ythomnhhjgcabkaa
