/- Arguments opened: from the form's own reading of an argument to ours. No program is named here. -/
import Derived.Test.YtglfajjcgbfehaaBase
import Derived.OpenShut
import Derived.ShutString
import Derived.ChangeOld
import Derived.Deep.Fields
namespace Go.Proofs.Ytglfajjcgbfehaa
open Go.RowKit Go.ChangeShapes Go.WideShapes Go.ChangeAt Go.Deep

theorem u64_nat {x : Int} (h : (Lit.int .u64 x).wf = true) : ∃ n : Nat, x = n ∧ n < 18446744073709551616 := by
 obtain ⟨h1, h2⟩ := bounds_u64 h
 exact ⟨x.toNat, by omega, by omega⟩

section
variable {H : Type} {enc : TypeId × Value → H} {P : Program} {w : World} {base base0 : Nat} {spare : Nat → Bool} {held : Bool} {r : Reach} {v : Value} {d : DataW H} {p : List MemPlace}

theorem arg_u64 {t : TypeId} (ht : P.underlying t = some (.int .u64)) (hv : Value.okWide P w r base0 t v) (h : DataW.Trod enc P w base spare held t v d p) : ∃ n : Nat, v = .int .u64 n ∧ n < 18446744073709551616 := by
 obtain ⟨x, rfl, _, _, wx⟩ := open_int ht hv h
 obtain ⟨h1, h2⟩ : (0 : Int) ≤ x ∧ x ≤ 18446744073709551615 := by
  simpa [Lit.wf, IntKind.min, IntKind.max, IntKind.signed, IntKind.bits] using wx
 exact ⟨x.toNat, by congr 1; omega, by omega⟩

end

section
variable {H : Type} {enc : TypeId × Value → H} {P : Program} {w : World} {base base0 : Nat} {spare : Nat → Bool} {held : Bool} {r : Reach} {v : Value} {d : DataW H} {p : List MemPlace}
theorem arg_u8 {t : TypeId} (ht : P.underlying t = some (.int .u8)) (hv : Value.okWide P w r base0 t v) (h : DataW.Trod enc P w base spare held t v d p) : ∃ n : Nat, v = .int .u8 n ∧ n < 256 := by
 obtain ⟨x, rfl, _, _, wx⟩ := open_int ht hv h
 simp only [Lit.wf, Bool.and_eq_true, decide_eq_true_eq] at wx
 obtain ⟨h1, h2⟩ : (0 : Int) ≤ x ∧ x ≤ 255 := ⟨wx.1, wx.2⟩
 exact ⟨x.toNat, by congr 1; omega, by omega⟩

end

end Go.Proofs.Ytglfajjcgbfehaa
