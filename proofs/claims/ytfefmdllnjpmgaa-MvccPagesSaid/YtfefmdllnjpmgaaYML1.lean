/- Many versions: what the laws share. -/
import Derived.Test.YtfefmdllnjpmgaaYMS2
import Derived.Test.YtfefmdllnjpmgaaYMLz
namespace Go.Proofs.Ytfefmdllnjpmgaa
structure bdElaw16_Act (x : Elaw16_Act) : Prop where
 c : inI x.c
 t : inU x.t
 ops : (bdSl bdEOp) x.ops
 k : bdStr x.k
 to_ : bdStr x.to_
 n : inI x.n

theorem few_some (l : List Elaw16_Act) : ∃ b, F_law16_few l = some b := by
 unfold F_law16_few
 by_cases q : ∃ i, i < l.length ∧ i < 40 ∧ 20 < (l.getD i default).ops.length
 ·-- the first one that is too long
  have h : ∀ n i, i ≤ 40 → i ≤ l.length → 40 - i < n → ∃ b, iter (F_law16_few_l1 l) n (i : Int) = some b := by
   intro n
   induction n with
   | zero => intro i _ _ h; omega
   | succ n ih =>
    intro i h1 h2 h3
    show ∃ b, F_law16_few_l1 l (iter (F_law16_few_l1 l) n) (i : Int) = some b
    unfold F_law16_few_l1
    dsimp only
    by_cases c : i < l.length ∧ i < 40
    ·rw [if_pos (by rw [decide_eq_true (show (i : Int) < (l.length : Int) by omega), decide_eq_true (show (i : Int) < 40 by omega)]; rfl), chk_t (by omega)]
     by_cases d : decide (((l.getD (i : Int).toNat default).ops.length : Int) > 20) = true
     ·rw [if_pos d]; exact ⟨_, rfl⟩
     ·rw [if_neg d, chk_t (by unfold inI; omega)]
      exact ih (i + 1) (by omega) (by omega) (by omega)
    ·rw [if_neg (by
      intro e
      rw [Bool.and_eq_true] at e
      have e1 := of_decide_eq_true e.1; have e2 := of_decide_eq_true e.2
      omega)]
     exact ⟨_, rfl⟩
  exact h FU 0 (by omega) (by omega) (by unfold FU; omega)
 ·refine ⟨true, iter_up (min l.length 40) (fun _ => some true) (by unfold bdM; omega) fun rc k hk hrc => ?_⟩
  simp only [F_law16_few_l1, toNat_cast]
  by_cases c : k < min l.length 40
  ·rw [if_pos (by rw [decide_eq_true (show (k : Int) < (l.length : Int) by omega), decide_eq_true (show (k : Int) < 40 by omega)]; rfl), chk_t (by omega), if_neg (by
    intro e
    have := of_decide_eq_true e
    exact q ⟨k, by omega, by omega, by omega⟩), chk_t (by unfold inI; omega)]
   exact hrc c
  ·rw [if_neg (by
    intro e
    rw [Bool.and_eq_true] at e
    have e1 := of_decide_eq_true e.1; have e2 := of_decide_eq_true e.2
    omega)]

def newS : Emvcc_Store := { (default : Emvcc_Store) with t := some newT }

theorem mvNew : F_mvcc_New = some newS := rfl

theorem mvNew_ok : mvOk newS newT [] := ⟨rfl, new_ok, rfl, fun r h => (by cases h), rfl, Int.le_refl _⟩

theorem eqEPair_refl (x : EPair) : eqEPair x x = true := eqEPair_iff.2 rfl

theorem samePairs_refl (l : List EPair) (h : l.length ≤ big) : F_ref06_SamePairs l l = some true := by
 unfold F_ref06_SamePairs
 rw [if_neg (by rw [bne_self_eq_false]; decide)]
 unfold big at h
 refine iter_up l.length (fun _ => some true) (by unfold bdM; omega) fun rc i hi hrc => ?_
 simp only [F_ref06_SamePairs_l1, toNat_cast]
 by_cases c : i < l.length
 ·rw [if_pos (by rw [decide_eq_true (by omega)]; rfl), chk_t (by omega), chk_t (by omega), if_neg (by rw [eqEPair_refl]; decide), chk_t (by unfold inI; omega)]
  exact hrc c
 ·rw [if_neg (by rw [decide_eq_false (by omega)]; decide)]

-- what a key has behind a version more
end Go.Proofs.Ytfefmdllnjpmgaa
