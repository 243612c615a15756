/- Rules for numbers' bits, new slices, a store into an element, bytes as a string. No program is named here. -/
import Derived.Test.YthomnhhjgcabkaaQS
import Derived.Laws.MakeOwn
import Derived.Scope
import Derived.Laws.BytesString
namespace Go.Proofs.Ythomnhhjgcabkaa
open Go.RowKit
variable {ds : List Deferred}

section
variable {Q : Exit → Act → World → Prop} {a : Act} {w : World}
end

section
variable {P : Program} {ev : Operand → Option Value} {o : Oper} {w : World}
end

section
variable {P : Program} (T : Tab P) {ops : Array Oper} {Q : Exit → Act → World → Prop} {a : Act} {w : World} {rest : List Oper} {o : Oper} {n : Nat} {S : Slots} {G : List GV}
variable {I0 D : Dm} {w0 : World} {I : Dm} {cs : List Ch}

end

end Go.Proofs.Ythomnhhjgcabkaa
