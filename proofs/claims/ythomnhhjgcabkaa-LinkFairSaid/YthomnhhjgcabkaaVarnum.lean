/- The walks of 'varnum' and its reference: numbers as bytes. -/
import Derived.Test.YthomnhhjgcabkaaW1
import Derived.Test.YthomnhhjgcabkaaData
import Derived.Test.YthomnhhjgcabkaaProg
namespace Go.Proofs.Ythomnhhjgcabkaa
open Go.RowKit

end Go.Proofs.Ythomnhhjgcabkaa
