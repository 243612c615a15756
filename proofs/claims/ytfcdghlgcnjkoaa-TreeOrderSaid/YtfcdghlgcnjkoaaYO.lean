/- A law's arguments opened for the plain functions: readings without ranges, the ranges beside them. No program is named here. -/
import Derived.Test.YtfcdghlgcnjkoaaOpen3
import Derived.Test.YtfcdghlgcnjkoaaYB
namespace Go.Proofs.Ytfcdghlgcnjkoaa
open Go.RowKit Go.ChangeShapes Go.WideShapes Go.ChangeAt Go.Deep

section
variable {P : Program} {t : TypeId}
theorem opensN_string (ht : P.underlying t = some .string) : OpensB P t NS bdStr := fun h => by
 obtain ⟨y, h1, h2⟩ := opens_string ht h
 exact ⟨y, ⟨h1.1, trivial⟩, h2⟩

end
section
variable {H : Type} {enc : TypeId × Value → H} {P : Program} {w : World} {base base0 : Nat} {spare : Nat → Bool} {held : Bool} {r : Reach} {v : Value} {d : DataW H} {p : List MemPlace} {t : TypeId}
end
/-- no memory of the walk's own: all that stands may be read -/
theorem St.base (w : World) : St (fun k => k < w.heap.size) NoD w [] := St.none _ w fun _ h => h

theorem St.sl {w : World} {cs : List Ch} {α : Type} {R : Rp α} {v : Value} {l : List α} (hs : slRep R AnyA w v l) (h : St (fun k => k < w.heap.size) NoD w cs) : St (fun k => k < w.heap.size) NoD w (SlC R v l :: cs) :=
 h.cons (f := fun _ => False) ⟨fun _ => id, hs.all⟩ fun _ => id

end Go.Proofs.Ytfcdghlgcnjkoaa
