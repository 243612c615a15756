/- Arguments opened: from the form's own reading of an argument to ours. No program is named here. -/
import Derived.Test.YthmjkcdpbbcdgaaBase
import Derived.OpenShut
import Derived.ShutString
import Derived.ChangeOld
import Derived.Deep.Fields
namespace Go.Proofs.Ythmjkcdpbbcdgaa
open Go.RowKit Go.ChangeShapes Go.WideShapes Go.ChangeAt Go.Deep

section
variable {H : Type} {enc : TypeId × Value → H} {P : Program} {w : World} {base base0 : Nat} {spare : Nat → Bool} {held : Bool} {r : Reach} {v : Value} {d : DataW H} {p : List MemPlace}

end

section
variable {H : Type} {enc : TypeId × Value → H} {P : Program} {w : World} {base base0 : Nat} {spare : Nat → Bool} {held : Bool} {r : Reach} {v : Value} {d : DataW H} {p : List MemPlace}
theorem arg_string {t : TypeId} (ht : P.underlying t = some .string) (hv : Value.okWide P w r base0 t v) (h : DataW.Trod enc P w base spare held t v d p) : ∃ s : ByteArray, v = .string s ∧ s.size ≤ maxLen := by
 obtain ⟨s, rfl, _, _, hs⟩ := Go.ChangeMaps.open_string ht hv h
 exact ⟨s, rfl, hs⟩

end

end Go.Proofs.Ythmjkcdpbbcdgaa
