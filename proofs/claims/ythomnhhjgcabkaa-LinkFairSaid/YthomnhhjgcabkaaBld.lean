/- A row of bytes of the walk's own, appended to by strings, read out as a string; an object that holds one (strings.Builder at the head of a block). No program is named here. -/
import Derived.Test.YthomnhhjgcabkaaW1
import Derived.Lib.AppendStr
import Derived.Lib.UnsafeStr
import Derived.Lib.Builder
namespace Go.Proofs.Ythomnhhjgcabkaa
open Go.RowKit
variable {ds : List Deferred}

section
variable {P : Program} {I0 D : Dm} {w0 : World} {I : Dm} {w : World} {cs : List Ch}

end

section
variable {P : Program} {ops : Array Oper} {Q : Exit → Act → World → Prop} {a : Act} {w : World} {rest : List Oper} {o : Oper} {n : Nat} {S : Slots} {G : List GV}
variable {I0 D : Dm} {w0 : World} {I : Dm} {cs : List Ch}

end

section
variable {P : Program} {ev : Operand → Option Value} {o : Oper} {w : World}
end

section
variable {P : Program} {ops : Array Oper} {Q : Exit → Act → World → Prop} {a : Act} {w : World} {rest : List Oper} {o : Oper} {n : Nat} {S : Slots} {G : List GV}
variable {I0 D : Dm} {w0 : World} {I : Dm} {cs : List Ch}

end

end Go.Proofs.Ythomnhhjgcabkaa
