/- A law's arguments opened for the plain functions: readings without ranges, the ranges beside them. No program is named here. -/
import Derived.Test.YthmjkcdpbbcdgaaGreatOpen3
import Derived.Test.YthmjkcdpbbcdgaaGreatYB
namespace Go.Proofs.YthmjkcdpbbcdgaaGreat
open Go.RowKit Go.ChangeShapes Go.WideShapes Go.ChangeAt Go.Deep

section
variable {P : Program} {t : TypeId}
end
section
variable {H : Type} {enc : TypeId × Value → H} {P : Program} {w : World} {base base0 : Nat} {spare : Nat → Bool} {held : Bool} {r : Reach} {v : Value} {d : DataW H} {p : List MemPlace} {t : TypeId}
end
/-- no memory of the walk's own: all that stands may be read -/
theorem St.base (w : World) : St (fun k => k < w.heap.size) NoD w [] := St.none _ w fun _ h => h

end Go.Proofs.YthmjkcdpbbcdgaaGreat
