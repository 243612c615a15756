/- Trees: the document's, and going through. -/
import Derived.Test.YtfcdghlgcnjkoaaYTreeP2
namespace Go.Proofs.Ytfcdghlgcnjkoaa

section
variable {k : ByteArray}
end
-- the document's tree
-- going through a tree
end Go.Proofs.Ytfcdghlgcnjkoaa
