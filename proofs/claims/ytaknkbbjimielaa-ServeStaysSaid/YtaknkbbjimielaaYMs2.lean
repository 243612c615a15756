/- Messages: their own parts, and whether two are the same. -/
import Derived.Test.YtaknkbbjimielaaYMs
namespace Go.Proofs.Ytaknkbbjimielaa
open Go.RowKit
end Go.Proofs.Ytaknkbbjimielaa
