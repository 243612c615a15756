/- Many versions: the law MvccState walked. -/
import Derived.Test.YtfefmdllnjpmgaaYMW
namespace Go.Proofs.Ytfefmdllnjpmgaa
open Go.RowKit
end Go.Proofs.Ytfefmdllnjpmgaa
