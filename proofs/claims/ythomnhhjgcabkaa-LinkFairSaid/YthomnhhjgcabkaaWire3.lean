/- The walks of wire's Writer. -/
import Derived.Test.YthomnhhjgcabkaaBld
import Derived.Test.YthomnhhjgcabkaaWire2
namespace Go.Proofs.Ythomnhhjgcabkaa
open Go.RowKit

end Go.Proofs.Ythomnhhjgcabkaa
