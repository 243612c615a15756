/- Adopting: the laws, plain. -/
import Derived.Test.YtdofpehcojboeaaYAdS
import Derived.Test.YtdofpehcojboeaaYAdWPlays
namespace Go.Proofs.Ytdofpehcojboeaa

theorem awake18 : F_law18_awake = some true := by kernel_rfl

-- what is the same as itself
theorem sameOps_refl (l : List EOp) (h : l.length ≤ 1000) : F_ref06_SameOps l l = some true := by
 unfold F_ref06_SameOps
 rw [if_neg (by rw [bne_self_eq_false]; decide)]
 refine iter_up l.length (fun _ => some true) (by unfold bdM; omega) fun rc i hi hrc => ?_
 simp only [F_ref06_SameOps_l1, toNat_cast]
 by_cases c : i < l.length
 ·rw [if_pos (by rw [decide_eq_true (by omega)]; rfl), chk_t (by omega), chk_t (by omega), if_neg (by rw [eqEOp_iff.2 rfl]; decide), chk_t (by unfold inI; omega)]
  exact hrc c
 ·rw [if_neg (by rw [decide_eq_false (by omega)]; decide)]

theorem same08_refl (e : EEntry) (h : e.batch.ops.length ≤ 1000) : F_ref08_Same e e = some true := by
 unfold F_ref08_Same F_ref06_Same
 rw [beq_self_eq_true, beq_self_eq_true, beq_self_eq_true, gif_true, show (true && true) = true from rfl, gif_true, sameOps_refl _ h]
 rfl

theorem runT_notes : ∀ (l L : List EEntry) (n : Nat) (x : ENote), (∀ e ∈ L, e.batch.ops.length ≤ 1000) → (∀ e ∈ l, e.batch.ops.length ≤ 1000) → x ∈ (runT L n l).2.1 → ∃ m e, x = noteE m e ∧ n ≤ m ∧ e.batch.ops.length ≤ 1000
 | [], _, _, _, _, _, h => by cases h
 | e :: r, L, n, x, hL, hl, h => by
  by_cases c : here L n (oneS L n e)
  ·rw [runT_here c] at h
   obtain ⟨m, y, h1, h2, h3⟩ := runT_notes r L (n + 1) x hL (fun z hz => hl z (by simp [hz])) h
   exact ⟨m, y, h1, by omega, h3⟩
  ·by_cases c2 : setC L n (oneS L n e) = 0
   ·rw [runT_put c c2] at h
    have hop : (oneS L n e).batch.ops.length ≤ 4 := (batchCheck_ok (setC_ok.1 c2).chk).2.2.2.2.1
    rcases List.mem_cons.1 h with rfl | h
    ·exact ⟨n, _, rfl, Nat.le_refl _, by omega⟩
    ·have hP : ∀ z ∈ putE L n (oneS L n e), z.batch.ops.length ≤ 1000 := by
      intro z hz
      unfold putE at hz
      split at hz
      ·split at hz
       ·exact hL z hz
       ·rename_i q _
        rcases List.mem_append.1 hz with hz | hz
        ·exact hL z (List.mem_of_mem_take hz)
        ·rcases List.mem_cons.1 hz with rfl | hz
         ·exact hL (L.getD n default) (by rw [getD_lt q.1]; exact List.getElem_mem _)
         ·obtain ⟨y, y1, rfl⟩ := List.mem_map.1 hz
          exact hL y (List.mem_of_mem_drop y1)
      ·rcases List.mem_append.1 hz with hz | hz
       ·exact hL z (List.mem_of_mem_take hz)
       ·obtain rfl := List.mem_singleton.1 hz; omega
     obtain ⟨m, y, h1, h2, h3⟩ := runT_notes r _ (n + 1) x hP (fun z hz => hl z (by simp [hz])) h
     exact ⟨m, y, h1, by omega, h3⟩
   ·rw [runT_stop c c2] at h; cases h

-- how far two logs are twins
def baseS : List EEntry → List EEntry → Nat
 | a :: x, b :: y => if tw a b = true then baseS x y + 1 else 0
 | _, _ => 0

theorem base_at {own other : List EEntry} {k : Nat} (h1 : k < own.length) (h2 : k < other.length) : baseS (own.drop k) (other.drop k) = if tw (own.getD k default) (other.getD k default) = true then baseS (own.drop (k + 1)) (other.drop (k + 1)) + 1 else 0 := by
 rw [drop_cons (d := default) h1, drop_cons (d := default) h2]; rfl

theorem base_end {own other : List EEntry} {k : Nat} (h : ¬ (k < own.length ∧ k < other.length)) : baseS (own.drop k) (other.drop k) = 0 := by
 by_cases c : k < own.length
 ·rw [show other.drop k = [] from List.drop_eq_nil_of_le (by omega), drop_cons (d := default) c]; rfl
 ·rw [show own.drop k = [] from List.drop_eq_nil_of_le (by omega)]; rfl

theorem adopt_Base (own other : List EEntry) (h1 : own.length ≤ 1000) (h2 : other.length ≤ 1000) : F_adopt_Base own other = some (baseS own other : Int) := by
 unfold F_adopt_Base
 refine (iter_up (min own.length other.length) (fun k => some ((k + baseS (own.drop k) (other.drop k) : Nat) : Int)) (by unfold bdM; omega) fun rc k hk hrc => ?_).trans (by simp)
 unfold F_adopt_Base_l1
 dsimp only
 rw [toNat_cast]
 by_cases c : k < own.length ∧ k < other.length
 ·rw [if_pos (decide_eq_true (by omega)), chk_t (by omega), chk_t (by omega)]
  show (F_item_Twins (own.getD k default) (other.getD k default)).bind _ = _
  rw [item_Twins, Option.bind_some, base_at c.1 c.2]
  by_cases t : tw (own.getD k default) (other.getD k default) = true
  ·rw [if_neg (by rw [t]; decide), if_pos t, chk_t (by unfold inI; omega), hrc (by omega)]
   congr 1; omega
  ·rw [if_pos (by simpa using t), if_neg t]; rfl
 ·rw [if_neg (by rw [decide_eq_false (by omega)]; decide), base_end c]
  congr 1; omega

theorem base_ge {own other : List EEntry} : ∀ (k : Nat), k ≤ own.length → k ≤ other.length → (∀ j, j < k → tw (own.getD j default) (other.getD j default) = true) → baseS own other = k + baseS (own.drop k) (other.drop k)
 | 0, _, _, _ => by simp
 | k + 1, h1, h2, h => by
  rw [base_ge k (by omega) (by omega) fun j hj => h j (by omega), base_at (by omega) (by omega), if_pos (h k (by omega))]; omega

-- how much there is
end Go.Proofs.Ytdofpehcojboeaa
