/- Trees: TreeFlat. -/
import Derived.Test.YtfcdghlgcnjkoaaYTreeP4
namespace Go.Proofs.Ytfcdghlgcnjkoaa

/-- the fewest keys of a tree of depth n; of depth n + 1 -/
def lst : Nat → Nat × Nat
 | 0 => (0, 1)
 | n + 1 => ((lst n).2, (lst n).1 + (lst n).2 + 1)

theorem lst_bd : ∀ n, (lst n).1 + 1 ≤ 2 ^ n ∧ (lst n).2 + 1 ≤ 2 ^ (n + 1)
 | 0 => ⟨by decide, by decide⟩
 | n + 1 => by
  obtain ⟨h1, h2⟩ := lst_bd n
  refine ⟨h2, ?_⟩
  simp only [lst]
  rw [Nat.pow_succ 2 (n + 1)]
  rw [Nat.pow_succ] at h2 ⊢
  omega

theorem lst_le (n : Nat) : (lst n).1 ≤ (lst n).2 := by
 cases n with
 | zero => decide
 | succ n => simp only [lst]; omega

theorem lst_mono {m : Nat} : ∀ {n : Nat}, m ≤ n → (lst m).1 ≤ (lst n).1
 | 0, h => by rw [Nat.le_zero.1 h]; exact Nat.le_refl _
 | n + 1, h => by
  by_cases e : m = n + 1
  ·rw [e]; exact Nat.le_refl _
  ·exact Nat.le_trans (lst_mono (n := n) (by omega)) (lst_le n)

theorem lst_node {a b n : Nat} {p q : Nat} (ha : (lst p).1 ≤ a) (hb : (lst q).1 ≤ b) (h1 : p = n ∧ n ≤ q + 1) : (lst (n + 1)).1 ≤ a + b + 1 := by
 obtain ⟨rfl, h⟩ := h1
 cases p with
 | zero => simp only [lst]; omega
 | succ p =>
  have := lst_mono (m := p) (n := q) (by omega)
  simp only [lst] at *
  omega

theorem deep_size : ∀ {t : TT Int}, avl t → ∃ n : Nat, deepT t = (n : Int) ∧ (lst n).1 ≤ sizeT t
 | .nil, _ => ⟨0, rfl, Nat.le_refl _⟩
 | .node k x d l r, ⟨hl, hr, hd, h1, h2⟩ => by
  obtain ⟨a, ea, la⟩ := deep_size hl
  obtain ⟨b, eb, lb⟩ := deep_size hr
  rw [ea, eb] at h1 h2 hd
  simp only [dC, sizeT]
  by_cases c : b ≤ a
  ·exact ⟨a + 1, by omega, lst_node la lb ⟨rfl, by omega⟩⟩
  ·refine ⟨b + 1, by omega, ?_⟩
   have := lst_node (n := b) lb la ⟨rfl, by omega⟩
   omega

theorem Least_eq (n : Nat) (hn : n ≤ 40) : F_ref15_Least (n : Int) = some ((lst n).1 : Int) := by
 unfold F_ref15_Least
 refine (iter_rule (fun s : Int × Int × Int => n - s.2.2.toNat) (fun _ => some ((lst n).1 : Int)) (fun s => ∃ j : Nat, j ≤ n ∧ s = (((lst j).1 : Int), ((lst j).2 : Int), (j : Int))) ?_ FU _ ⟨0, Nat.zero_le _, rfl⟩ (by unfold FU; simp only; omega))
 rintro rc _ ⟨j, hj, rfl⟩ hrc
 simp only [F_ref15_Least_l1]
 by_cases c : j < n
 ·obtain ⟨b1, b2⟩ := lst_bd j
  have e1 : 2 ^ j ≤ 2 ^ 40 := Nat.pow_le_pow_right (by decide) (by omega)
  have e2 : 2 ^ (j + 1) ≤ 2 ^ 41 := Nat.pow_le_pow_right (by decide) (by omega)
  rw [if_pos (by rw [decide_eq_true (show (j : Int) < (n : Int) by omega), decide_eq_true (show (j : Int) < 40 by omega)]; rfl), chk_t (by unfold inI; omega), chk_t (by unfold inI; omega), chk_t (by unfold inI; omega)]
  refine hrc _ ⟨j + 1, c, by simp only [lst]; refine Prod.ext rfl (Prod.ext ?_ ?_) <;> simp⟩ (by simp only [toNat_cast1, toNat_cast]; omega)
 ·obtain rfl : j = n := by omega
  rw [if_neg (by rw [decide_eq_false (show ¬ (j : Int) < (j : Int) by omega)]; rintro ⟨⟩)]

theorem flat_ok {t : Etree_Tree_int} (h : trOk t) (hz : (rowsT t.top).length ≤ 700) : ∃ m : Nat, deepT t.top = (m : Int) ∧ m ≤ 40 ∧ (lst m).1 ≤ (rowsT t.top).length ∧ (m = 0 ↔ (rowsT t.top).length = 0) := by
 obtain ⟨m, e, hm⟩ := deep_size h.avl
 have d := deep_ok h.avl
 rw [rows_len] at hz ⊢
 refine ⟨m, e, ?_, hm, ?_⟩
 ·by_cases c : m ≤ 40
  ·exact c
  ·have h1 := lst_mono (m := 16) (n := m) (by omega)
   have h2 : (lst 16).1 = 2583 := by decide
   omega
 ·constructor
  ·intro e0
   rw [d.2.2 (by omega)]; rfl
  ·intro e0
   omega

theorem TreeFlat_k3 {rc : Int × Etree_Tree_int → Option Bool} {k : Nat} (hk : k < 100) {t : Etree_Tree_int} (h : trOk t) (hz : (rowsT t.top).length ≤ 700) (hrc : rc ((k : Int) + 1, t) = some true) : F_law15_TreeFlat_k3 (k : Int) rc t = some true := by
 obtain ⟨m, e, h1, h2, h3⟩ := flat_ok h hz
 unfold F_law15_TreeFlat_k3
 have hc : (decide ((m : Int) < 0) || decide ((m : Int) > 40)) = false := by rw [decide_eq_false (by omega), decide_eq_false (by omega)]; rfl
 rw [tree_Depth h, Option.bind_some, e]
 simp only [hc]
 rw [show (!false) = true from rfl, gif_true, tree_Len h, Option.bind_some, gif_true, Least_eq m h1, Option.bind_some, decide_eq_false (by omega), if_neg (by decide), chk_t (by unfold inI; omega), hrc]

theorem TreeFlat_l2 (l : List Elaw15_Act) {t : Etree_Tree_int} (h : trOk t) (hz : (rowsT t.top).length ≤ 600) : iter (F_law15_TreeFlat_l2 l) FU (0, t) = some true := by
 refine iter_up2 (min l.length 100) (fun _ _ => some true) (fun k s => trOk s ∧ (rowsT s.top).length ≤ 600 + k) (by unfold bdM; omega) ⟨h, hz⟩ fun rc k s hk hp hrc => ?_
 clear h hz t
 obtain ⟨h, hz⟩ := hp
 simp only [F_law15_TreeFlat_l2, toNat_cast]
 by_cases c : k < min l.length 100
 ·have c2 : k < l.length := by omega
  have hb : (rowsT s.top).length < big := by unfold big; omega
  rw [if_pos (by rw [decide_eq_true (show (k : Int) < (l.length : Int) by omega), decide_eq_true (show (k : Int) < 100 by omega)]; rfl), chk_t (by omega)]
  split
  ·rw [chk_t (by omega)]
   obtain ⟨t', e1, e2, e3⟩ := tree_Del h hb (l.getD k default).k
   rw [e1, Option.bind_some]
   have hl := del_len (k := (l.getD k default).k) (rowsT s.top)
   rw [← e3] at hl
   have hl2 : (rowsT t'.top).length ≤ 600 + (k + 1) := by split at hl <;> omega
   exact TreeFlat_k3 (by omega) e2 (show (rowsT t'.top).length ≤ 700 by omega) (hrc t' c ⟨e2, hl2⟩)
  ·rw [chk_t (by omega), chk_t (by omega)]
   obtain ⟨t', e1, e2, e3⟩ := tree_Put h hb (l.getD k default).k (l.getD k default).v
   rw [e1, Option.bind_some]
   have hl := ins_len (k := (l.getD k default).k) (v := (l.getD k default).v) (rowsT s.top)
   rw [← e3] at hl
   have hl2 : (rowsT t'.top).length ≤ 600 + (k + 1) := by split at hl <;> omega
   exact TreeFlat_k3 (by omega) e2 (show (rowsT t'.top).length ≤ 700 by omega) (hrc t' c ⟨e2, hl2⟩)
 ·obtain ⟨m, e, h1, h2, h3⟩ := flat_ok h (by omega)
  rw [if_neg (by
   intro e
   rw [Bool.and_eq_true] at e
   have e1 := of_decide_eq_true e.1; have e2 := of_decide_eq_true e.2
   omega)]
  have hc : (decide ((m : Int) ≥ 0) && decide ((m : Int) ≤ 40)) = true := by rw [decide_eq_true (by omega), decide_eq_true (by omega)]; rfl
  have hc2 : decide (((rowsT s.top).length : Int) ≥ ((lst m).1 : Int)) = true := decide_eq_true (by omega)
  have hc3 : (((m : Int) == 0) == (((rowsT s.top).length : Int) == 0)) = true := by
   rw [beq_iff_eq, Bool.eq_iff_iff, beq_iff_eq, beq_iff_eq]
   omega
  rw [tree_Depth h, Option.bind_some, e]
  simp only [hc]
  rw [gif_true, tree_Len h, Option.bind_some, gif_true, Least_eq m h1, Option.bind_some]
  simp only [hc2, Bool.and_true]
  rw [gif_true, Option.bind_some]
  simp only [hc3]
  rw [show (true && true) = true from rfl, gif_true, awake15]; rfl

theorem pure_TreeFlat (l : List Elaw15_Act) (n : Int) (_ : bdSl bdElaw15_Act l) (hn : inH n) : F_law15_TreeFlat l n = some true := by
 unfold F_law15_TreeFlat
 rw [new_eq, Option.bind_some]
 unfold inH at hn
 obtain ⟨m, rfl⟩ := Int.eq_ofNat_of_zero_le hn.1
 have e : (m : Int).tmod 600 = ((m % 600 : Nat) : Int) := Int.tmod_eq_emod_of_nonneg (by omega)
 have hm : m % 600 < 600 := Nat.mod_lt _ (by decide)
 refine iter_up2 (m % 600) (fun _ _ => some true) (fun k s => trOk s ∧ (rowsT s.top).length ≤ k) (by unfold bdM; omega) ⟨new_ok, Nat.le_refl _⟩ fun rc k s hk hp hrc => ?_
 obtain ⟨h, hz⟩ := hp
 simp only [F_law15_TreeFlat_l1]
 rw [chk_t (by unfold inI; omega), e]
 by_cases c : k < m % 600
 ·have hb : (rowsT s.top).length < big := by unfold big; omega
  have e1 : (k : Int).tdiv 256 = ((k / 256 : Nat) : Int) := Int.tdiv_eq_ediv_of_nonneg (by omega)
  have e2 : (k : Int).tmod 256 = ((k % 256 : Nat) : Int) := Int.tmod_eq_emod_of_nonneg (by omega)
  rw [if_pos (decide_eq_true (by omega)), e1, e2, chk_t (by unfold inI; omega), chk_t (by unfold inB; omega), chk_t (by unfold inB; omega)]
  obtain ⟨t', f1, f2, f3⟩ := tree_Put h hb (strI [((k / 256 : Nat) : Int), ((k % 256 : Nat) : Int)]) (k : Int)
  rw [f1, Option.bind_some, chk_t (by unfold inI; omega)]
  have hl := ins_len (k := strI [((k / 256 : Nat) : Int), ((k % 256 : Nat) : Int)]) (v := (k : Int)) (rowsT s.top)
  rw [← f3] at hl
  exact hrc t' c ⟨f2, by split at hl <;> omega⟩
 ·rw [if_neg (by rw [decide_eq_false (by omega)]; decide)]
  exact TreeFlat_l2 l h (by omega)

section
variable {H : Type} {enc : Go.TypeId × Go.Value → H}
end
end Go.Proofs.Ytfcdghlgcnjkoaa
