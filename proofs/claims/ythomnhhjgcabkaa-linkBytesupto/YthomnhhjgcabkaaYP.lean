/- Plain functions: how their loops are told. No program is named here. -/
import Derived.Test.YthomnhhjgcabkaaYB
import Derived.Test.YthomnhhjgcabkaaBd
namespace Go.Proofs.Ythomnhhjgcabkaa

theorem iter_rule {σ R : Type} {body : (σ → Option R) → σ → Option R} (μ : σ → Nat) (out : σ → Option R) (P : σ → Prop)
  (h : ∀ rc s, P s → (∀ s', P s' → μ s' < μ s → rc s' = out s') → body rc s = out s) : ∀ n s, P s → μ s < n → iter body n s = out s
 | 0, s, _, hn => by omega
 | n + 1, s, hp, hn => h _ s hp fun s' hp' hm => iter_rule μ out P h n s' hp' (by omega)

theorem chk_t {β : Type} {p : Prop} [Decidable p] {k : Option β} (h : p) : chk p k = k := if_pos h

theorem getD_lt {α : Type} {d : α} {l : List α} {k : Nat} (h : k < l.length) : l.getD k d = l[k] := by rw [List.getD_eq_getElem?_getD, List.getElem?_eq_getElem h]; rfl

theorem drop_cons {α : Type} {d : α} {l : List α} {k : Nat} (h : k < l.length) : l.drop k = l.getD k d :: l.drop (k + 1) := by rw [getD_lt h]; exact List.drop_eq_getElem_cons h

theorem take_snoc {α : Type} {d : α} {l : List α} {k : Nat} (h : k < l.length) : l.take (k + 1) = l.take k ++ [l.getD k d] := by rw [getD_lt h, List.take_append_getElem h]

theorem toNat_cast {k : Nat} : ((k : Int)).toNat = k := rfl

theorem toNat_cast1 {k : Nat} : ((k : Int) + 1).toNat = k + 1 := rfl

end Go.Proofs.Ythomnhhjgcabkaa
