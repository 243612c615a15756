/- Writers and readers of the program and the document: what their plain functions come to. -/
import Derived.Test.YtlgejpompnbfoaaYWire
import Derived.Test.YtlgejpompnbfoaaYV
namespace Go.Proofs.Ytlgejpompnbfoaa

-- loops that read and write lists
section lists
variable {α R : Type} {f : DReaderR → α × DReaderR}
end lists
end Go.Proofs.Ytlgejpompnbfoaa
