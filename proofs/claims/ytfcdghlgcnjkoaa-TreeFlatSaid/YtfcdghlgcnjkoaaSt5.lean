/- A region that draws its order, by one fact for each operation's value and world: each operation keeps the facts of those that need not come behind it. No order is walked. -/
import Derived.Test.YtfcdghlgcnjkoaaSt4
namespace Go.Proofs.Ytfcdghlgcnjkoaa
open Go.RowKit
variable {ds : List Deferred}

section frules
variable {P : Program} (T : Tab P) {ops : Array Oper} {all : List Oper} {C : World → Prop} {F : Nat → Value → World → Prop} {a : Act} {w : World} {o : Oper} {n k : Nat} {S : Slots}

end frules

end Go.Proofs.Ytfcdghlgcnjkoaa
