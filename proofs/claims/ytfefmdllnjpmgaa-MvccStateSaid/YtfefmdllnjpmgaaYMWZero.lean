/- Many versions: the law MvccZero walked. -/
import Derived.Test.YtfefmdllnjpmgaaYMW
namespace Go.Proofs.Ytfefmdllnjpmgaa
open Go.RowKit
end Go.Proofs.Ytfefmdllnjpmgaa
