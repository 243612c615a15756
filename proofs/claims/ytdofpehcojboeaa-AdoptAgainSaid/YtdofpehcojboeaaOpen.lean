/- Arguments opened: from the form's own reading of an argument to ours. No program is named here. -/
import Derived.Test.YtdofpehcojboeaaBase
import Derived.OpenShut
import Derived.ShutString
import Derived.ChangeOld
import Derived.Deep.Fields
namespace Go.Proofs.Ytdofpehcojboeaa
open Go.RowKit Go.ChangeShapes Go.WideShapes Go.ChangeAt Go.Deep

section
variable {H : Type} {enc : TypeId × Value → H} {P : Program} {w : World} {base base0 : Nat} {spare : Nat → Bool} {held : Bool} {r : Reach} {v : Value} {d : DataW H} {p : List MemPlace}

end

section
variable {H : Type} {enc : TypeId × Value → H} {P : Program} {w : World} {base base0 : Nat} {spare : Nat → Bool} {held : Bool} {r : Reach} {v : Value} {d : DataW H} {p : List MemPlace}
theorem arg_u8 {t : TypeId} (ht : P.underlying t = some (.int .u8)) (hv : Value.okWide P w r base0 t v) (h : DataW.Trod enc P w base spare held t v d p) : ∃ n : Nat, v = .int .u8 n ∧ n < 256 := by
 obtain ⟨x, rfl, _, _, wx⟩ := open_int ht hv h
 simp only [Lit.wf, Bool.and_eq_true, decide_eq_true_eq] at wx
 obtain ⟨h1, h2⟩ : (0 : Int) ≤ x ∧ x ≤ 255 := ⟨wx.1, wx.2⟩
 exact ⟨x.toNat, by congr 1; omega, by omega⟩

end

end Go.Proofs.Ytdofpehcojboeaa
