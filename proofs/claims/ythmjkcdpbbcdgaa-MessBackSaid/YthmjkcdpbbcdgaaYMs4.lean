/- Messages read, for the document. -/
import Derived.Test.YthmjkcdpbbcdgaaYMs2
namespace Go.Proofs.Ythmjkcdpbbcdgaa
open Go.RowKit
end Go.Proofs.Ythmjkcdpbbcdgaa
