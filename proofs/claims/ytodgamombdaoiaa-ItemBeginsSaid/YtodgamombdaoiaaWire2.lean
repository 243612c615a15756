/- The walks of 'wire': what reads parts of a message. -/
import Derived.Test.YtodgamombdaoiaaWire1
import Derived.Test.YtodgamombdaoiaaW3
namespace Go.Proofs.Ytodgamombdaoiaa
open Go.RowKit

end Go.Proofs.Ytodgamombdaoiaa
