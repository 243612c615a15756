/- NoteReads: the plain law. -/
import Derived.Test.YtbfglbbbkcpgeaaYNoteX
namespace Go.Proofs.Ytbfglbbbkcpgeaa

end Go.Proofs.Ytbfglbbbkcpgeaa
