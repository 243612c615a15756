/- The walks of 'ops' and its reference, as far as checking goes; keys. -/
import Derived.Test.YtmdoimpeacndaaaSt5
import Derived.Test.YtmdoimpeacndaaaData
import Derived.Test.YtmdoimpeacndaaaProg
namespace Go.Proofs.Ytmdoimpeacndaaa
open Go.RowKit

end Go.Proofs.Ytmdoimpeacndaaa
