/- A law's arguments opened for the plain functions: readings without ranges, the ranges beside them. No program is named here. -/
import Derived.Test.YtfcdghlgcnjkoaaOpen3
import Derived.Test.YtfcdghlgcnjkoaaYB
namespace Go.Proofs.Ytfcdghlgcnjkoaa
open Go.RowKit Go.ChangeShapes Go.WideShapes Go.ChangeAt Go.Deep

section
variable {P : Program} {t : TypeId}
end
section
variable {H : Type} {enc : TypeId × Value → H} {P : Program} {w : World} {base base0 : Nat} {spare : Nat → Bool} {held : Bool} {r : Reach} {v : Value} {d : DataW H} {p : List MemPlace} {t : TypeId}
theorem argN_i64 (ht : P.underlying t = some (.int .i64)) (hv : Value.okWide P w r base0 t v) (h : DataW.Trod enc P w base spare held t v d p) : ∃ x : Int, v = .int .i64 x ∧ inI x := by
 obtain ⟨n, rfl, h1⟩ := arg_i64 ht hv h
 exact ⟨n, rfl, by unfold i64ok at h1; unfold inI; omega⟩

end
/-- no memory of the walk's own: all that stands may be read -/
theorem St.base (w : World) : St (fun k => k < w.heap.size) NoD w [] := St.none _ w fun _ h => h

end Go.Proofs.Ytfcdghlgcnjkoaa
