/- A deferred closure that hands what it recovers to a method of what it captured. No program is named here. -/
import Derived.Test.YthomnhhjgcabkaaW2
namespace Go.Proofs.Ythomnhhjgcabkaa
open Go.RowKit

section
variable {P : Program} {ops : Array Oper} {Q : Exit → Act → List Frame → World → Prop} {a : Act} {w : World} {cs : List Frame} {i : Nat} {rest : List Nat} {o : Oper}
end

end Go.Proofs.Ythomnhhjgcabkaa
