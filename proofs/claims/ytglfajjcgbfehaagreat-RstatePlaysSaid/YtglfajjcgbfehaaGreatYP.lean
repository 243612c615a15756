/- Plain functions: how their loops are told. No program is named here. -/
import Derived.Test.YtglfajjcgbfehaaGreatYB
import Derived.Test.YtglfajjcgbfehaaGreatBd
namespace Go.Proofs.YtglfajjcgbfehaaGreat

theorem iter_rule {σ R : Type} {body : (σ → Option R) → σ → Option R} (μ : σ → Nat) (out : σ → Option R) (P : σ → Prop)
  (h : ∀ rc s, P s → (∀ s', P s' → μ s' < μ s → rc s' = out s') → body rc s = out s) : ∀ n s, P s → μ s < n → iter body n s = out s
 | 0, s, _, hn => by omega
 | n + 1, s, hp, hn => h _ s hp fun s' hp' hm => iter_rule μ out P h n s' hp' (by omega)

/-- a loop that counts up to n -/
theorem iter_up {R : Type} {body : (Int → Option R) → Int → Option R} (n : Nat) (out : Nat → Option R) (hn : n ≤ bdM)
  (h : ∀ (rc : Int → Option R) (k : Nat), k ≤ n → (k < n → rc ((k : Int) + 1) = out (k + 1)) → body rc (k : Int) = out k) : iter body FU 0 = out 0 := by
 have := iter_rule (body := body) (fun s => n - s.toNat) (fun s => out s.toNat) (fun s => 0 ≤ s ∧ s ≤ n) (fun rc s ⟨h1, h2⟩ hrc => by
  obtain ⟨k, rfl⟩ := Int.eq_ofNat_of_zero_le h1
  rw [Int.toNat_natCast]
  refine h rc k (by omega) fun hk => ?_
  have := hrc ((k : Int) + 1) ⟨by omega, by omega⟩ (by simp only [Int.toNat_natCast]; omega)
  rw [this, show ((k : Int) + 1).toNat = k + 1 by omega]) FU 0 ⟨by omega, by omega⟩ (by unfold FU; unfold bdM at hn; omega)
 simpa using this

/-- a loop that counts up to n and carries a state -/
theorem iter_up2 {σ R : Type} {body : (Int × σ → Option R) → Int × σ → Option R} (n : Nat) (out : Nat → σ → Option R) (P : Nat → σ → Prop) (hn : n ≤ bdM) {s0 : σ} (h0 : P 0 s0)
  (h : ∀ (rc : Int × σ → Option R) (k : Nat) (s : σ), k ≤ n → P k s → (∀ s', k < n → P (k + 1) s' → rc ((k : Int) + 1, s') = out (k + 1) s') → body rc ((k : Int), s) = out k s) : iter body FU (0, s0) = out 0 s0 := by
 have := iter_rule (body := body) (fun s => n - s.1.toNat) (fun s => out s.1.toNat s.2) (fun s => 0 ≤ s.1 ∧ s.1 ≤ n ∧ P s.1.toNat s.2) (fun rc ⟨i, s⟩ ⟨h1, h2, h3⟩ hrc => by
  simp only at h1 h2 h3 hrc ⊢
  obtain ⟨k, rfl⟩ := Int.eq_ofNat_of_zero_le h1
  rw [Int.toNat_natCast] at h3 ⊢
  refine h rc k s (by omega) h3 fun s' hk hp => ?_
  have e : ((k : Int) + 1).toNat = k + 1 := by omega
  have := hrc ((k : Int) + 1, s') ⟨by omega, by omega, by simp only [e]; exact hp⟩ (by simp only [Int.toNat_natCast]; omega)
  rw [this]; simp only [e]) FU (0, s0) ⟨by simp, by simp, h0⟩ (by unfold FU; unfold bdM at hn; simp only; omega)
 simpa using this

theorem chk_t {β : Type} {p : Prop} [Decidable p] {k : Option β} (h : p) : chk p k = k := if_pos h

theorem gif_true {α : Type} {x : Option α} {d : α} : gif true x d = x := rfl

theorem gif_false {α : Type} {x : Option α} {d : α} : gif false x d = some d := rfl

theorem gif_some {α : Type} {p : Bool} {x d : α} : gif p (some x) d = some (if p = true then x else d) := by cases p <;> rfl

theorem getD_lt {α : Type} {d : α} {l : List α} {k : Nat} (h : k < l.length) : l.getD k d = l[k] := by rw [List.getD_eq_getElem?_getD, List.getElem?_eq_getElem h]; rfl

theorem drop_cons {α : Type} {d : α} {l : List α} {k : Nat} (h : k < l.length) : l.drop k = l.getD k d :: l.drop (k + 1) := by rw [getD_lt h]; exact List.drop_eq_getElem_cons h

theorem take_snoc {α : Type} {d : α} {l : List α} {k : Nat} (h : k < l.length) : l.take (k + 1) = l.take k ++ [l.getD k d] := by rw [getD_lt h, List.take_append_getElem h]

theorem toNat_cast {k : Nat} : ((k : Int)).toNat = k := rfl

theorem toNat_cast1 {k : Nat} : ((k : Int) + 1).toNat = k + 1 := rfl

end Go.Proofs.YtglfajjcgbfehaaGreat
