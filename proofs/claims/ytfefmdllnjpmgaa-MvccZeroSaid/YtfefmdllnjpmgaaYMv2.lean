/- Many versions: the document's store. -/
import Derived.Test.YtfefmdllnjpmgaaYMv1
import Derived.Test.YtfefmdllnjpmgaaYQU
import Derived.Test.YtfefmdllnjpmgaaYRw
namespace Go.Proofs.Ytfefmdllnjpmgaa
open Go.RowKit
end Go.Proofs.Ytfefmdllnjpmgaa
