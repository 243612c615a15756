/- Stores into elements of owned slices. No program is named here. -/
import Derived.Test.YtghkhndlpfmpfaaYR
import Derived.Test.YtghkhndlpfmpfaaW1
namespace Go.Proofs.Ytghkhndlpfmpfaa
open Go.RowKit
section
variable {ds : List Deferred} {P : Program} (T : Tab P) {ops : Array Oper} {Q : Exit → Act → World → Prop} {a : Act} {w : World} {rest : List Oper} {o : Oper} {n : Nat} {S : Slots} {G : List GV}
variable {I0 D : Dm} {w0 : World} {I : Dm} {cs : List Ch}
end
end Go.Proofs.Ytghkhndlpfmpfaa
