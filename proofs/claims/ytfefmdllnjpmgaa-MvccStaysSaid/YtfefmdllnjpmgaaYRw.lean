/- Elements of owned slices with parts: stores into them, looks at them in regions of any order; slices of bytes that a string came to. No program is named here. -/
import Derived.Test.YtfefmdllnjpmgaaYQU
import Derived.Test.YtfefmdllnjpmgaaYS
import Derived.Laws.IdiomStrings
namespace Go.Proofs.Ytfefmdllnjpmgaa
open Go.RowKit

section
variable {I0 D : Dm} {w0 : World} {I : Dm} {w : World} {cs : List Ch} {α : Type} {R : Rp α}
section
variable {ds : List Deferred} {P : Program} (T : Tab P) {ops : Array Oper} {Q : Exit → Act → World → Prop} {a : Act} {rest : List Oper} {o : Oper} {n : Nat} {S : Slots} {G : List GV}
end
end

-- slices of bytes that a string came to
section
variable {I0 D : Dm} {w0 : World} {I : Dm} {w : World} {cs : List Ch} {v : Value} {l : List Int}
section
variable {ds : List Deferred} {P : Program} (T : Tab P) {ops : Array Oper} {Q : Exit → Act → World → Prop} {a : Act} {rest : List Oper} {o : Oper} {n : Nat} {S : Slots} {G : List GV}
end
end
end Go.Proofs.Ytfefmdllnjpmgaa
