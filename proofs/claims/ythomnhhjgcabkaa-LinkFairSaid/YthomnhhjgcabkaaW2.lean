/- Functions that defer one closure; closures that recover. No program is named here. -/
import Derived.Test.YthomnhhjgcabkaaW1
import Derived.Defers
import Derived.Recover
import Derived.Laws.Pointers
namespace Go.Proofs.Ythomnhhjgcabkaa
open Go.RowKit
variable {ds : List Deferred}

section
variable {P : Program} {ev : Operand → Option Value} {o : Oper} {w : World}
end

section
variable {P : Program} {Q : Exit → Act → World → Prop} {a : Act} {w : World} {n : Nat} {S : Slots}

end

section
variable {P : Program} {ops : Array Oper} {Q : Exit → Act → World → Prop} {a : Act} {w : World} {rest : List Oper} {o : Oper} {n : Nat} {S : Slots} {G : List GV}

end

end Go.Proofs.Ythomnhhjgcabkaa
