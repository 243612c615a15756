/- Operations read out of bytes. -/
import Derived.Test.YtodgamombdaoiaaYOps
namespace Go.Proofs.Ytodgamombdaoiaa
open Go.RowKit
end Go.Proofs.Ytodgamombdaoiaa
