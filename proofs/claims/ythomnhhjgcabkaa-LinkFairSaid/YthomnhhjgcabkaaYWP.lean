/- Writers and readers of the program and the document: what their plain functions come to. -/
import Derived.Test.YthomnhhjgcabkaaYWire
import Derived.Test.YthomnhhjgcabkaaYV
namespace Go.Proofs.Ythomnhhjgcabkaa

-- loops that read and write lists
section lists
variable {α R : Type} {f : DReaderR → α × DReaderR}
end lists
end Go.Proofs.Ythomnhhjgcabkaa
