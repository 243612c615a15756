/- Notes: what is wrong with them. -/
import Derived.Test.YtglfajjcgbfehaaGreatYNote
import Derived.Test.YtglfajjcgbfehaaGreatYConfP
import Derived.Test.YtglfajjcgbfehaaGreatYRsT
namespace Go.Proofs.YtglfajjcgbfehaaGreat
structure bdEPin (x : EPin) : Prop where
 id : inI x.id
 at_ : inU x.at_
 left : inI x.left

structure bdEAnswer (x : EAnswer) : Prop where
 client : inI x.client
 req : inI x.req
 e : inI x.e
 pin : inI x.pin

structure bdENote (x : ENote) : Prop where
 k : inI x.k
 n : inI x.n
 at_ : inU x.at_
 conf : bdEConf x.conf
 legit : (bdSl inI) x.legit
 entry : bdEEntry x.entry
 pin : bdEPin x.pin
 said : bdEAnswer x.said

def may (n : Int) : Bool := decide (0 ≤ n) && decide (n ≤ 1073741824)

def legitChk (a : Option Int) : List Int → Int
 | [] => 0
 | x :: r => if x < 0 ∨ x ≥ 4 then 1 else if (match a with | none => false | some a => decide (a ≥ x)) = true then 18 else legitChk (some x) r

def notUp (a : Option Int) (x : Int) : Bool := match a with | none => false | some a => decide (a ≥ x)

theorem legitChk_cons (a : Option Int) (x : Int) (r : List Int) : legitChk a (x :: r) = if x < 0 ∨ x ≥ 4 then 1 else if notUp a x = true then 18 else legitChk (some x) r := rfl

def legitCheck (l : List Int) : Int := if l.length > 4 then 6 else legitChk none l

def saidCheck (a : EAnswer) : Int := if a.client < 0 ∨ a.client ≥ 3 then 1 else if (!may a.req || !may a.pin) = true then 5 else if a.e < 0 ∨ a.e > 21 then 1 else 0

def noteCheck (n : ENote) : Int :=
 if n.k = 1 then (if confCheck n.conf ≠ 0 then confCheck n.conf else legitCheck n.legit)
 else if n.k = 2 then (if may n.n = true then batchCheck n.entry.batch else 5)
 else if n.k = 3 ∨ n.k = 4 ∨ n.k = 5 ∨ n.k = 7 then (if may n.n = true then 0 else 5)
 else if n.k = 6 then (if (may n.pin.id && may n.pin.left) = true then 0 else 5)
 else if n.k = 8 then saidCheck n.said else 11

theorem may_of {n : Int} (h : may n = true) : 0 ≤ n ∧ n ≤ 1073741824 := by simpa [may] using h

def aheadI (l : List Int) (k : Nat) : Option Int := if k = 0 then none else some (l.getD (k - 1) default)

theorem notUp_at (l : List Int) (k : Nat) (x : Int) : (decide ((k : Int) > 0) && decide (l.getD ((k : Int) - 1).toNat default ≥ x)) = notUp (aheadI l k) x := by
 unfold aheadI
 by_cases hk0 : k = 0
 ·subst hk0; rfl
 ·rw [if_neg hk0, decide_eq_true (by omega : (k : Int) > 0), show ((k : Int) - 1).toNat = k - 1 by omega]; rfl

theorem ref10_legit_l1 (l : List Int) (hl : l.length ≤ 4) (rc : Int → Option Int) (k : Nat) (hk : k ≤ l.length) (hrc : k < l.length → rc ((k : Int) + 1) = some (legitChk (aheadI l (k + 1)) (l.drop (k + 1)))) : F_ref10_legit_l1 l rc (k : Int) = some (legitChk (aheadI l k) (l.drop k)) := by
 unfold F_ref10_legit_l1
 dsimp only
 rw [toNat_cast]
 by_cases hk' : k < l.length
 ·have ho1 : aheadI l (k + 1) = some (l.getD k default) := by unfold aheadI; rw [if_neg (by omega), Nat.add_sub_cancel]
  rw [if_pos (decide_eq_true (by omega)), chk_t (by omega), chk_t (fun _ => by omega), drop_cons (d := default) hk', legitChk_cons, ← ho1, ← notUp_at]
  by_cases c1 : l.getD k default < 0 ∨ l.getD k default ≥ 4
  ·rw [if_pos (by simpa using c1), if_pos c1]
  rw [if_neg (by simpa using c1), if_neg c1, chk_t (fun _ => by unfold inI; omega), chk_t (fun h => by have := of_decide_eq_true h; omega), chk_t (fun _ => by omega)]
  by_cases c4 : (decide ((k : Int) > 0) && decide (l.getD ((k : Int) - 1).toNat default ≥ l.getD k default)) = true
  ·rw [if_pos c4, if_pos c4]
  rw [if_neg c4, if_neg c4, chk_t (by unfold inI; omega), hrc hk']
 ·rw [if_neg (by rw [decide_eq_false (by omega)]; decide), List.drop_eq_nil_of_le (by omega)]; rfl

theorem ref10_legit (l : List Int) : F_ref10_legit l = some (legitCheck l) := by
 unfold F_ref10_legit legitCheck
 by_cases hl : l.length > 4
 ·rw [if_pos (decide_eq_true (by omega)), if_pos hl]
 ·rw [if_neg (by rw [decide_eq_false (by omega)]; decide), if_neg hl]
  exact (iter_up l.length (fun k => some (legitChk (aheadI l k) (l.drop k))) (by unfold bdM; omega) fun rc k hk hrc => ref10_legit_l1 l (by omega) rc k hk hrc).trans rfl

theorem note_legit_l1 (l : List Int) (hl : l.length ≤ 4) (rc : Int → Option Int) (k : Nat) (hk : k ≤ l.length) (hrc : k < l.length → rc ((k : Int) + 1) = some (legitChk (aheadI l (k + 1)) (l.drop (k + 1)))) : F_note_each_int__note_legit_1_l1 l l rc (k : Int) = some (legitChk (aheadI l k) (l.drop k)) := by
 unfold F_note_each_int__note_legit_1_l1 F_note_legit_1
 dsimp only
 rw [toNat_cast]
 by_cases hk' : k < l.length
 ·have ho1 : aheadI l (k + 1) = some (l.getD k default) := by unfold aheadI; rw [if_neg (by omega), Nat.add_sub_cancel]
  rw [if_pos (decide_eq_true (by omega)), chk_t (by omega), drop_cons (d := default) hk', legitChk_cons, ← ho1, ← notUp_at]
  by_cases c1 : l.getD k default < 0 ∨ l.getD k default ≥ 4
  ·rw [if_pos (by simpa using c1), if_pos c1]; rfl
  rw [if_neg (by simpa using c1), if_neg c1, chk_t (fun _ => by unfold inI; omega), chk_t (fun h => by have := of_decide_eq_true h; omega)]
  by_cases c4 : (decide ((k : Int) > 0) && decide (l.getD ((k : Int) - 1).toNat default ≥ l.getD k default)) = true
  ·rw [if_pos c4, if_pos c4]; rfl
  rw [if_neg c4, if_neg c4, Option.bind_some, if_neg (by decide), chk_t (by unfold inI; omega), hrc hk']
 ·rw [if_neg (by rw [decide_eq_false (by omega)]; decide), List.drop_eq_nil_of_le (by omega)]; rfl

theorem note_legit (l : List Int) : F_note_legit l = some (legitCheck l) := by
 unfold F_note_legit legitCheck
 by_cases hl : l.length > 4
 ·rw [if_pos (decide_eq_true (by omega)), if_pos hl]
 ·rw [if_neg (by rw [decide_eq_false (by omega)]; decide), if_neg hl]
  have : F_note_each_int__note_legit_1 l l = some (legitChk none l) := (iter_up l.length (fun k => some (legitChk (aheadI l k) (l.drop k))) (by unfold bdM; omega) fun rc k hk hrc => note_legit_l1 l (by omega) rc k hk hrc).trans rfl
  rw [this]; rfl

def rangeChk : List Int → Int
 | [] => 0
 | x :: r => if may x = true then rangeChk r else 5

theorem note_range0 (l : List Int) (hl : l.length ≤ 4) : F_note_range0 l = some (rangeChk l) := by
 have : F_note_each_int__note_range0_1 l = some (rangeChk l) := by
  refine (iter_up l.length (fun k => some (rangeChk (l.drop k))) (by unfold bdM; omega) fun rc k hk hrc => ?_).trans (by rw [List.drop_zero])
  unfold F_note_each_int__note_range0_1_l1 F_note_range0_1
  dsimp only
  rw [toNat_cast]
  by_cases hk' : k < l.length
  ·rw [if_pos (decide_eq_true (by omega)), chk_t (by omega), drop_cons (d := default) hk']
   show _ = some (if may (l.getD k default) = true then _ else 5)
   by_cases c1 : may (l.getD k default) = true
   ·have := may_of c1
    rw [if_neg (by rw [decide_eq_false (by omega), decide_eq_false (by omega)]; decide), if_pos c1, Option.bind_some, if_neg (by decide), chk_t (by unfold inI; omega), hrc hk']
   ·have c2 : l.getD k default < 0 ∨ l.getD k default > 1073741824 := by
     unfold may at c1
     rw [Bool.and_eq_true, decide_eq_true_eq, decide_eq_true_eq] at c1; omega
    rw [if_pos (by rw [Bool.or_eq_true, decide_eq_true_eq, decide_eq_true_eq]; exact c2), if_neg c1]; rfl
  ·rw [if_neg (by rw [decide_eq_false (by omega)]; decide), List.drop_eq_nil_of_le (by omega)]; rfl
 unfold F_note_range0
 rw [this]; rfl

theorem ref10_may (n : Int) : F_ref10_may n = some (may n) := rfl

theorem ref10_said (a : EAnswer) : F_ref10_said a = some (saidCheck a) := by
 unfold F_ref10_said saidCheck
 by_cases c1 : a.client < 0 ∨ a.client ≥ 3
 ·rw [if_pos (by simpa using c1), if_pos c1]
 rw [if_neg (by simpa using c1), if_neg c1, ref10_may, Option.bind_some, ref10_may, gif_some, Option.bind_some]
 have e : (!may a.req || !(if (!!may a.req) = true then may a.pin else default)) = (!may a.req || !may a.pin) := by cases may a.req <;> rfl
 rw [e]
 by_cases c2 : (!may a.req || !may a.pin) = true
 ·rw [if_pos c2, if_pos c2]
 rw [if_neg c2, if_neg c2]
 by_cases c3 : a.e < 0 ∨ a.e > 21
 ·rw [if_pos (by simpa using c3), if_pos c3]
 ·rw [if_neg (by simpa using c3), if_neg c3]

theorem rangeChk2 (x y : Int) : rangeChk [x, y] = if (!may x || !may y) = true then 5 else 0 := by
 show (if may x = true then (if may y = true then 0 else 5) else 5) = _
 cases may x <;> cases may y <;> rfl

theorem note_said (a : EAnswer) : F_note_said a = some (saidCheck a) := by
 unfold F_note_said saidCheck
 by_cases c1 : a.client < 0 ∨ a.client ≥ 3
 ·rw [if_pos (by simpa using c1), if_pos c1]
 rw [if_neg (by simpa using c1), if_neg c1, note_range0 _ (by simp), Option.bind_some, rangeChk2]
 by_cases c2 : (!may a.req || !may a.pin) = true
 ·rw [if_pos c2, if_pos c2]; rfl
 rw [if_neg c2, if_neg c2, if_neg (by decide)]
 by_cases c3 : a.e < 0 ∨ a.e > 21
 ·rw [if_pos (by simpa using c3), if_pos c3]
 ·rw [if_neg (by simpa using c3), if_neg c3]

theorem note_Check_k1 (n : ENote) (x : Bool) : F_note_Check_k1 n x = some (if x = true then (if may n.n = true then 0 else 5) else if n.k = 6 then (if (may n.pin.id && may n.pin.left) = true then 0 else 5) else if n.k = 8 then saidCheck n.said else 11) := by
 unfold F_note_Check_k1
 rw [note_range0 _ (by simp), note_range0 _ (by simp), note_said, Option.bind_some, Option.bind_some, Option.bind_some, rangeChk2]
 by_cases c : x = true
 ·rw [if_pos c, if_pos c]; rfl
 rw [if_neg c, if_neg c]
 by_cases c6 : n.k = 6
 ·rw [if_pos (by rw [c6]; rfl), if_pos c6]; cases may n.pin.id <;> cases may n.pin.left <;> rfl
 rw [if_neg (by simpa using c6), if_neg c6]
 by_cases c8 : n.k = 8
 ·rw [if_pos (by rw [c8]; rfl), if_pos c8]
 ·rw [if_neg (by simpa using c8), if_neg c8]

theorem ref10_Check_k1 (n : ENote) (x : Bool) : F_ref10_Check_k1 n x = some (if x = true then (if may n.n = true then 0 else 5) else if n.k = 6 then (if (may n.pin.id && may n.pin.left) = true then 0 else 5) else if n.k = 8 then saidCheck n.said else 11) := by
 unfold F_ref10_Check_k1
 rw [ref10_may, ref10_may, ref10_may, ref10_said]
 simp only [Option.bind_some, gif_some]
 by_cases c : x = true
 ·rw [if_pos c, if_pos c]; cases may n.n <;> rfl
 rw [if_neg c, if_neg c]
 by_cases c6 : n.k = 6
 ·rw [if_pos (by rw [c6]; rfl), if_pos c6]; cases may n.pin.id <;> cases may n.pin.left <;> rfl
 rw [if_neg (by simpa using c6), if_neg c6]
 by_cases c8 : n.k = 8
 ·rw [if_pos (by rw [c8]; rfl), if_pos c8]
 ·rw [if_neg (by simpa using c8), if_neg c8]

theorem note_Check (n : ENote) : F_note_Check n = some (noteCheck n) := by
 unfold F_note_Check noteCheck
 rw [conf_Check, note_legit, note_range0 _ (by simp), item_Check]
 simp only [Option.bind_some, note_Check_k1]
 by_cases c1 : n.k = 1
 ·rw [if_pos (by rw [c1]; rfl), if_pos c1]
  by_cases h : confCheck n.conf = 0
  ·rw [h]; rfl
  ·rw [if_pos (bne_iff_ne.2 h), if_pos h]
 rw [if_neg (by simpa using c1), if_neg c1]
 by_cases c2 : n.k = 2
 ·rw [if_pos (by rw [c2]; rfl), if_pos c2, show rangeChk [n.n] = if may n.n = true then 0 else 5 from rfl]
  cases may n.n <;> rfl
 rw [if_neg (by simpa using c2), if_neg c2]
 by_cases c3 : n.k = 3
 ·simp [c3]
 by_cases c4 : n.k = 4
 ·simp [c4]
 by_cases c5 : n.k = 5
 ·simp [c5]
 by_cases c7 : n.k = 7
 ·simp [c7]
 simp [c3, c4, c5, c7]

theorem ref10_Check (n : ENote) : F_ref10_Check n = some (noteCheck n) := by
 unfold F_ref10_Check noteCheck
 rw [ref07_Check, ref10_legit, ref10_may, ref08_Check]
 simp only [Option.bind_some, ref10_Check_k1]
 by_cases c1 : n.k = 1
 ·rw [if_pos (by rw [c1]; rfl), if_pos c1]
  by_cases h : confCheck n.conf = 0
  ·rw [h]; rfl
  ·rw [if_pos (bne_iff_ne.2 h), if_pos h]
 rw [if_neg (by simpa using c1), if_neg c1]
 by_cases c2 : n.k = 2
 ·rw [if_pos (by rw [c2]; rfl), if_pos c2]
  cases may n.n <;> rfl
 rw [if_neg (by simpa using c2), if_neg c2]
 by_cases c3 : n.k = 3
 ·simp [c3]
 by_cases c4 : n.k = 4
 ·simp [c4]
 by_cases c5 : n.k = 5
 ·simp [c5]
 by_cases c7 : n.k = 7
 ·simp [c7]
 simp [c3, c4, c5, c7]

theorem noteCheck_1 {n : ENote} (hk : n.k = 1) (h : noteCheck n = 0) : confCheck n.conf = 0 ∧ legitCheck n.legit = 0 := by
 unfold noteCheck at h
 rw [if_pos hk] at h
 by_cases c : confCheck n.conf = 0
 ·rw [if_neg (fun x => x c)] at h; exact ⟨c, h⟩
 ·rw [if_pos c] at h; exact absurd h c

theorem noteCheck_n {n : ENote} (hk : n.k = 3 ∨ n.k = 4 ∨ n.k = 5 ∨ n.k = 7) (h : noteCheck n = 0) : 0 ≤ n.n ∧ n.n ≤ 1073741824 := by
 unfold noteCheck at h
 rw [if_neg (by omega), if_neg (by omega), if_pos hk] at h
 by_cases c : may n.n = true
 ·exact may_of c
 ·rw [if_neg c] at h; cases h

theorem noteCheck_4 {n : ENote} (hk : n.k = 4) (h : noteCheck n = 0) : 0 ≤ n.n ∧ n.n ≤ 1073741824 := noteCheck_n (.inr (.inl hk)) h

end Go.Proofs.YtglfajjcgbfehaaGreat
