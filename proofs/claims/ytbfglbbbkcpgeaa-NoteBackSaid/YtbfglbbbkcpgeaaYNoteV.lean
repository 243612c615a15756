/- Notes: what is wrong, their bytes. (Printed by notev.py.) -/
import Derived.Test.YtbfglbbbkcpgeaaYNote2
import Derived.Test.YtbfglbbbkcpgeaaYOpsW
import Derived.Test.YtbfglbbbkcpgeaaYConfV
namespace Go.Proofs.Ytbfglbbbkcpgeaa
structure bdEPin (x : EPin) : Prop where
 id : inI x.id
 at_ : inU x.at_
 left : inI x.left

structure bdEAnswer (x : EAnswer) : Prop where
 client : inI x.client
 req : inI x.req
 e : inI x.e
 pin : inI x.pin

structure bdENote (x : ENote) : Prop where
 k : inI x.k
 n : inI x.n
 at_ : inU x.at_
 conf : bdEConf x.conf
 legit : (bdSl inI) x.legit
 entry : bdEEntry x.entry
 pin : bdEPin x.pin
 said : bdEAnswer x.said

def may (n : Int) : Bool := decide (0 ≤ n) && decide (n ≤ 1073741824)

def legitChk (a : Option Int) : List Int → Int
 | [] => 0
 | x :: r => if x < 0 ∨ x ≥ 4 then 1 else if (match a with | none => false | some a => decide (a ≥ x)) = true then 18 else legitChk (some x) r

def notUp (a : Option Int) (x : Int) : Bool := match a with | none => false | some a => decide (a ≥ x)

theorem legitChk_cons (a : Option Int) (x : Int) (r : List Int) : legitChk a (x :: r) = if x < 0 ∨ x ≥ 4 then 1 else if notUp a x = true then 18 else legitChk (some x) r := rfl

def legitCheck (l : List Int) : Int := if l.length > 4 then 6 else legitChk none l

def saidCheck (a : EAnswer) : Int := if a.client < 0 ∨ a.client ≥ 3 then 1 else if (!may a.req || !may a.pin) = true then 5 else if a.e < 0 ∨ a.e > 21 then 1 else 0

def noteCheck (n : ENote) : Int :=
 if n.k = 1 then (if confCheck n.conf ≠ 0 then confCheck n.conf else legitCheck n.legit)
 else if n.k = 2 then (if may n.n = true then batchCheck n.entry.batch else 5)
 else if n.k = 3 ∨ n.k = 4 ∨ n.k = 5 ∨ n.k = 7 then (if may n.n = true then 0 else 5)
 else if n.k = 6 then (if (may n.pin.id && may n.pin.left) = true then 0 else 5)
 else if n.k = 8 then saidCheck n.said else 11

theorem may_of {n : Int} (h : may n = true) : 0 ≤ n ∧ n ≤ 1073741824 := by simpa [may] using h

def aheadI (l : List Int) (k : Nat) : Option Int := if k = 0 then none else some (l.getD (k - 1) default)

theorem notUp_at (l : List Int) (k : Nat) (x : Int) : (decide ((k : Int) > 0) && decide (l.getD ((k : Int) - 1).toNat default ≥ x)) = notUp (aheadI l k) x := by
 unfold aheadI
 by_cases hk0 : k = 0
 ·subst hk0; rfl
 ·rw [if_neg hk0, decide_eq_true (by omega : (k : Int) > 0), show ((k : Int) - 1).toNat = k - 1 by omega]; rfl

theorem ref10_legit_l1 (l : List Int) (hl : l.length ≤ 4) (rc : Int → Option Int) (k : Nat) (hk : k ≤ l.length) (hrc : k < l.length → rc ((k : Int) + 1) = some (legitChk (aheadI l (k + 1)) (l.drop (k + 1)))) : F_ref10_legit_l1 l rc (k : Int) = some (legitChk (aheadI l k) (l.drop k)) := by
 unfold F_ref10_legit_l1
 dsimp only
 rw [toNat_cast]
 by_cases hk' : k < l.length
 ·have ho1 : aheadI l (k + 1) = some (l.getD k default) := by unfold aheadI; rw [if_neg (by omega), Nat.add_sub_cancel]
  rw [if_pos (decide_eq_true (by omega)), chk_t (by omega), chk_t (fun _ => by omega), drop_cons (d := default) hk', legitChk_cons, ← ho1, ← notUp_at]
  by_cases c1 : l.getD k default < 0 ∨ l.getD k default ≥ 4
  ·rw [if_pos (by simpa using c1), if_pos c1]
  rw [if_neg (by simpa using c1), if_neg c1, chk_t (fun _ => by unfold inI; omega), chk_t (fun h => by have := of_decide_eq_true h; omega), chk_t (fun _ => by omega)]
  by_cases c4 : (decide ((k : Int) > 0) && decide (l.getD ((k : Int) - 1).toNat default ≥ l.getD k default)) = true
  ·rw [if_pos c4, if_pos c4]
  rw [if_neg c4, if_neg c4, chk_t (by unfold inI; omega), hrc hk']
 ·rw [if_neg (by rw [decide_eq_false (by omega)]; decide), List.drop_eq_nil_of_le (by omega)]; rfl

theorem ref10_legit (l : List Int) : F_ref10_legit l = some (legitCheck l) := by
 unfold F_ref10_legit legitCheck
 by_cases hl : l.length > 4
 ·rw [if_pos (decide_eq_true (by omega)), if_pos hl]
 ·rw [if_neg (by rw [decide_eq_false (by omega)]; decide), if_neg hl]
  exact (iter_up l.length (fun k => some (legitChk (aheadI l k) (l.drop k))) (by unfold bdM; omega) fun rc k hk hrc => ref10_legit_l1 l (by omega) rc k hk hrc).trans rfl

theorem note_legit_l1 (l : List Int) (hl : l.length ≤ 4) (rc : Int → Option Int) (k : Nat) (hk : k ≤ l.length) (hrc : k < l.length → rc ((k : Int) + 1) = some (legitChk (aheadI l (k + 1)) (l.drop (k + 1)))) : F_note_each_int__note_legit_1_l1 l l rc (k : Int) = some (legitChk (aheadI l k) (l.drop k)) := by
 unfold F_note_each_int__note_legit_1_l1 F_note_legit_1
 dsimp only
 rw [toNat_cast]
 by_cases hk' : k < l.length
 ·have ho1 : aheadI l (k + 1) = some (l.getD k default) := by unfold aheadI; rw [if_neg (by omega), Nat.add_sub_cancel]
  rw [if_pos (decide_eq_true (by omega)), chk_t (by omega), drop_cons (d := default) hk', legitChk_cons, ← ho1, ← notUp_at]
  by_cases c1 : l.getD k default < 0 ∨ l.getD k default ≥ 4
  ·rw [if_pos (by simpa using c1), if_pos c1]; rfl
  rw [if_neg (by simpa using c1), if_neg c1, chk_t (fun _ => by unfold inI; omega), chk_t (fun h => by have := of_decide_eq_true h; omega)]
  by_cases c4 : (decide ((k : Int) > 0) && decide (l.getD ((k : Int) - 1).toNat default ≥ l.getD k default)) = true
  ·rw [if_pos c4, if_pos c4]; rfl
  rw [if_neg c4, if_neg c4, Option.bind_some, if_neg (by decide), chk_t (by unfold inI; omega), hrc hk']
 ·rw [if_neg (by rw [decide_eq_false (by omega)]; decide), List.drop_eq_nil_of_le (by omega)]; rfl

theorem note_legit (l : List Int) : F_note_legit l = some (legitCheck l) := by
 unfold F_note_legit legitCheck
 by_cases hl : l.length > 4
 ·rw [if_pos (decide_eq_true (by omega)), if_pos hl]
 ·rw [if_neg (by rw [decide_eq_false (by omega)]; decide), if_neg hl]
  have : F_note_each_int__note_legit_1 l l = some (legitChk none l) := (iter_up l.length (fun k => some (legitChk (aheadI l k) (l.drop k))) (by unfold bdM; omega) fun rc k hk hrc => note_legit_l1 l (by omega) rc k hk hrc).trans rfl
  rw [this]; rfl

def rangeChk : List Int → Int
 | [] => 0
 | x :: r => if may x = true then rangeChk r else 5

theorem note_range0 (l : List Int) (hl : l.length ≤ 4) : F_note_range0 l = some (rangeChk l) := by
 have : F_note_each_int__note_range0_1 l = some (rangeChk l) := by
  refine (iter_up l.length (fun k => some (rangeChk (l.drop k))) (by unfold bdM; omega) fun rc k hk hrc => ?_).trans (by rw [List.drop_zero])
  unfold F_note_each_int__note_range0_1_l1 F_note_range0_1
  dsimp only
  rw [toNat_cast]
  by_cases hk' : k < l.length
  ·rw [if_pos (decide_eq_true (by omega)), chk_t (by omega), drop_cons (d := default) hk']
   show _ = some (if may (l.getD k default) = true then _ else 5)
   by_cases c1 : may (l.getD k default) = true
   ·have := may_of c1
    rw [if_neg (by rw [decide_eq_false (by omega), decide_eq_false (by omega)]; decide), if_pos c1, Option.bind_some, if_neg (by decide), chk_t (by unfold inI; omega), hrc hk']
   ·have c2 : l.getD k default < 0 ∨ l.getD k default > 1073741824 := by
     unfold may at c1
     rw [Bool.and_eq_true, decide_eq_true_eq, decide_eq_true_eq] at c1; omega
    rw [if_pos (by rw [Bool.or_eq_true, decide_eq_true_eq, decide_eq_true_eq]; exact c2), if_neg c1]; rfl
  ·rw [if_neg (by rw [decide_eq_false (by omega)]; decide), List.drop_eq_nil_of_le (by omega)]; rfl
 unfold F_note_range0
 rw [this]; rfl

theorem ref10_may (n : Int) : F_ref10_may n = some (may n) := rfl

theorem ref10_said (a : EAnswer) : F_ref10_said a = some (saidCheck a) := by
 unfold F_ref10_said saidCheck
 by_cases c1 : a.client < 0 ∨ a.client ≥ 3
 ·rw [if_pos (by simpa using c1), if_pos c1]
 rw [if_neg (by simpa using c1), if_neg c1, ref10_may, Option.bind_some, ref10_may, gif_some, Option.bind_some]
 have e : (!may a.req || !(if (!!may a.req) = true then may a.pin else default)) = (!may a.req || !may a.pin) := by cases may a.req <;> rfl
 rw [e]
 by_cases c2 : (!may a.req || !may a.pin) = true
 ·rw [if_pos c2, if_pos c2]
 rw [if_neg c2, if_neg c2]
 by_cases c3 : a.e < 0 ∨ a.e > 21
 ·rw [if_pos (by simpa using c3), if_pos c3]
 ·rw [if_neg (by simpa using c3), if_neg c3]

theorem rangeChk2 (x y : Int) : rangeChk [x, y] = if (!may x || !may y) = true then 5 else 0 := by
 show (if may x = true then (if may y = true then 0 else 5) else 5) = _
 cases may x <;> cases may y <;> rfl

theorem note_said (a : EAnswer) : F_note_said a = some (saidCheck a) := by
 unfold F_note_said saidCheck
 by_cases c1 : a.client < 0 ∨ a.client ≥ 3
 ·rw [if_pos (by simpa using c1), if_pos c1]
 rw [if_neg (by simpa using c1), if_neg c1, note_range0 _ (by simp), Option.bind_some, rangeChk2]
 by_cases c2 : (!may a.req || !may a.pin) = true
 ·rw [if_pos c2, if_pos c2]; rfl
 rw [if_neg c2, if_neg c2, if_neg (by decide)]
 by_cases c3 : a.e < 0 ∨ a.e > 21
 ·rw [if_pos (by simpa using c3), if_pos c3]
 ·rw [if_neg (by simpa using c3), if_neg c3]

theorem note_Check_k1 (n : ENote) (x : Bool) : F_note_Check_k1 n x = some (if x = true then (if may n.n = true then 0 else 5) else if n.k = 6 then (if (may n.pin.id && may n.pin.left) = true then 0 else 5) else if n.k = 8 then saidCheck n.said else 11) := by
 unfold F_note_Check_k1
 rw [note_range0 _ (by simp), note_range0 _ (by simp), note_said, Option.bind_some, Option.bind_some, Option.bind_some, rangeChk2]
 by_cases c : x = true
 ·rw [if_pos c, if_pos c]; rfl
 rw [if_neg c, if_neg c]
 by_cases c6 : n.k = 6
 ·rw [if_pos (by rw [c6]; rfl), if_pos c6]; cases may n.pin.id <;> cases may n.pin.left <;> rfl
 rw [if_neg (by simpa using c6), if_neg c6]
 by_cases c8 : n.k = 8
 ·rw [if_pos (by rw [c8]; rfl), if_pos c8]
 ·rw [if_neg (by simpa using c8), if_neg c8]

theorem ref10_Check_k1 (n : ENote) (x : Bool) : F_ref10_Check_k1 n x = some (if x = true then (if may n.n = true then 0 else 5) else if n.k = 6 then (if (may n.pin.id && may n.pin.left) = true then 0 else 5) else if n.k = 8 then saidCheck n.said else 11) := by
 unfold F_ref10_Check_k1
 rw [ref10_may, ref10_may, ref10_may, ref10_said]
 simp only [Option.bind_some, gif_some]
 by_cases c : x = true
 ·rw [if_pos c, if_pos c]; cases may n.n <;> rfl
 rw [if_neg c, if_neg c]
 by_cases c6 : n.k = 6
 ·rw [if_pos (by rw [c6]; rfl), if_pos c6]; cases may n.pin.id <;> cases may n.pin.left <;> rfl
 rw [if_neg (by simpa using c6), if_neg c6]
 by_cases c8 : n.k = 8
 ·rw [if_pos (by rw [c8]; rfl), if_pos c8]
 ·rw [if_neg (by simpa using c8), if_neg c8]

theorem note_Check (n : ENote) : F_note_Check n = some (noteCheck n) := by
 unfold F_note_Check noteCheck
 rw [conf_Check, note_legit, note_range0 _ (by simp), item_Check]
 simp only [Option.bind_some, note_Check_k1]
 by_cases c1 : n.k = 1
 ·rw [if_pos (by rw [c1]; rfl), if_pos c1]
  by_cases h : confCheck n.conf = 0
  ·rw [h]; rfl
  ·rw [if_pos (bne_iff_ne.2 h), if_pos h]
 rw [if_neg (by simpa using c1), if_neg c1]
 by_cases c2 : n.k = 2
 ·rw [if_pos (by rw [c2]; rfl), if_pos c2, show rangeChk [n.n] = if may n.n = true then 0 else 5 from rfl]
  cases may n.n <;> rfl
 rw [if_neg (by simpa using c2), if_neg c2]
 by_cases c3 : n.k = 3
 ·simp [c3]
 by_cases c4 : n.k = 4
 ·simp [c4]
 by_cases c5 : n.k = 5
 ·simp [c5]
 by_cases c7 : n.k = 7
 ·simp [c7]
 simp [c3, c4, c5, c7]

theorem ref10_Check (n : ENote) : F_ref10_Check n = some (noteCheck n) := by
 unfold F_ref10_Check noteCheck
 rw [ref07_Check, ref10_legit, ref10_may, ref08_Check]
 simp only [Option.bind_some, ref10_Check_k1]
 by_cases c1 : n.k = 1
 ·rw [if_pos (by rw [c1]; rfl), if_pos c1]
  by_cases h : confCheck n.conf = 0
  ·rw [h]; rfl
  ·rw [if_pos (bne_iff_ne.2 h), if_pos h]
 rw [if_neg (by simpa using c1), if_neg c1]
 by_cases c2 : n.k = 2
 ·rw [if_pos (by rw [c2]; rfl), if_pos c2]
  cases may n.n <;> rfl
 rw [if_neg (by simpa using c2), if_neg c2]
 by_cases c3 : n.k = 3
 ·simp [c3]
 by_cases c4 : n.k = 4
 ·simp [c4]
 by_cases c5 : n.k = 5
 ·simp [c5]
 by_cases c7 : n.k = 7
 ·simp [c7]
 simp [c3, c4, c5, c7]

theorem noteCheck_k {n : ENote} (h : noteCheck n = 0) : n.k = 1 ∨ n.k = 2 ∨ n.k = 3 ∨ n.k = 4 ∨ n.k = 5 ∨ n.k = 6 ∨ n.k = 7 ∨ n.k = 8 := by
 unfold noteCheck at h
 by_cases c1 : n.k = 1
 ·omega
 by_cases c2 : n.k = 2
 ·omega
 by_cases c3 : n.k = 3 ∨ n.k = 4 ∨ n.k = 5 ∨ n.k = 7
 ·omega
 by_cases c6 : n.k = 6
 ·omega
 by_cases c8 : n.k = 8
 ·omega
 rw [if_neg c1, if_neg c2, if_neg c3, if_neg c6, if_neg c8] at h
 cases h

theorem noteCheck_1 {n : ENote} (hk : n.k = 1) (h : noteCheck n = 0) : confCheck n.conf = 0 ∧ legitCheck n.legit = 0 := by
 unfold noteCheck at h
 rw [if_pos hk] at h
 by_cases c : confCheck n.conf = 0
 ·rw [if_neg (fun x => x c)] at h; exact ⟨c, h⟩
 ·rw [if_pos c] at h; exact absurd h c

theorem noteCheck_2 {n : ENote} (hk : n.k = 2) (h : noteCheck n = 0) : (0 ≤ n.n ∧ n.n ≤ 1073741824) ∧ batchCheck n.entry.batch = 0 := by
 unfold noteCheck at h
 rw [if_neg (by omega), if_pos hk] at h
 by_cases c : may n.n = true
 ·rw [if_pos c] at h; exact ⟨may_of c, h⟩
 ·rw [if_neg c] at h; cases h

theorem noteCheck_n {n : ENote} (hk : n.k = 3 ∨ n.k = 4 ∨ n.k = 5 ∨ n.k = 7) (h : noteCheck n = 0) : 0 ≤ n.n ∧ n.n ≤ 1073741824 := by
 unfold noteCheck at h
 rw [if_neg (by omega), if_neg (by omega), if_pos hk] at h
 by_cases c : may n.n = true
 ·exact may_of c
 ·rw [if_neg c] at h; cases h

theorem noteCheck_3 {n : ENote} (hk : n.k = 3) (h : noteCheck n = 0) : 0 ≤ n.n ∧ n.n ≤ 1073741824 := noteCheck_n (.inl hk) h

theorem noteCheck_4 {n : ENote} (hk : n.k = 4) (h : noteCheck n = 0) : 0 ≤ n.n ∧ n.n ≤ 1073741824 := noteCheck_n (.inr (.inl hk)) h

theorem noteCheck_5 {n : ENote} (hk : n.k = 5) (h : noteCheck n = 0) : 0 ≤ n.n ∧ n.n ≤ 1073741824 := noteCheck_n (.inr (.inr (.inl hk))) h

theorem noteCheck_7 {n : ENote} (hk : n.k = 7) (h : noteCheck n = 0) : 0 ≤ n.n ∧ n.n ≤ 1073741824 := noteCheck_n (.inr (.inr (.inr hk))) h

theorem noteCheck_6 {n : ENote} (hk : n.k = 6) (h : noteCheck n = 0) : (0 ≤ n.pin.id ∧ n.pin.id ≤ 1073741824) ∧ 0 ≤ n.pin.left ∧ n.pin.left ≤ 1073741824 := by
 unfold noteCheck at h
 rw [if_neg (by omega), if_neg (by omega), if_neg (by omega), if_pos hk] at h
 by_cases c : (may n.pin.id && may n.pin.left) = true
 ·rw [Bool.and_eq_true] at c; exact ⟨may_of c.1, may_of c.2⟩
 ·rw [if_neg c] at h; cases h

theorem noteCheck_8 {n : ENote} (hk : n.k = 8) (h : noteCheck n = 0) : (0 ≤ n.said.client ∧ n.said.client < 3) ∧ (0 ≤ n.said.req ∧ n.said.req ≤ 1073741824) ∧ (0 ≤ n.said.e ∧ n.said.e ≤ 21) ∧ 0 ≤ n.said.pin ∧ n.said.pin ≤ 1073741824 := by
 unfold noteCheck at h
 rw [if_neg (by omega), if_neg (by omega), if_neg (by omega), if_neg (by omega), if_pos hk] at h
 unfold saidCheck at h
 by_cases c1 : n.said.client < 0 ∨ n.said.client ≥ 3
 ·rw [if_pos c1] at h; cases h
 rw [if_neg c1] at h
 by_cases c2 : (!may n.said.req || !may n.said.pin) = true
 ·rw [if_pos c2] at h; cases h
 rw [if_neg c2] at h
 by_cases c3 : n.said.e < 0 ∨ n.said.e > 21
 ·rw [if_pos c3] at h; cases h
 have c2' : may n.said.req = true ∧ may n.said.pin = true := by
  revert c2; cases may n.said.req <;> cases may n.said.pin <;> simp
 have := may_of c2'.1; have := may_of c2'.2
 exact ⟨by omega, by omega, by omega, by omega⟩

theorem legitChk_ok : ∀ (l : List Int) (a : Option Int), legitChk a l = 0 → ∀ x ∈ l, 0 ≤ x ∧ x < 4
 | [], _, _, x, h => by cases h
 | y :: r, a, h, x, hx => by
  rw [legitChk_cons] at h
  by_cases c1 : y < 0 ∨ y ≥ 4
  ·rw [if_pos c1] at h; cases h
  rw [if_neg c1] at h
  by_cases c2 : notUp a y = true
  ·rw [if_pos c2] at h; cases h
  rw [if_neg c2] at h
  rcases List.mem_cons.1 hx with rfl | hx
  ·omega
  ·exact legitChk_ok r _ h x hx

theorem legitCheck_ok {l : List Int} (h : legitCheck l = 0) : l.length ≤ 4 ∧ ∀ x ∈ l, 0 ≤ x ∧ x < 4 := by
 unfold legitCheck at h
 by_cases c : l.length > 4
 ·rw [if_pos c] at h; cases h
 ·rw [if_neg c] at h; exact ⟨by omega, legitChk_ok _ _ h⟩

theorem note_Put_2 (n : ENote) (hb : bdENote n) (hk : n.k = 2) (h0 : noteCheck n = 0) : ∃ s, bL s = vputL n.k.toNat ++ (vputL (n.n).toNat ++ ((vputL (entryB n.entry).length ++ entryB n.entry))) ∧ F_note_Put n = some (s, 0) := by
 have hm := noteCheck_2 hk h0
 have hv0 := vputL_len n.k.toNat
 have hv1 : (vputL (n.n).toNat).length ≤ 9 := by exact vputL_len _
 have hv2 : ((vputL (entryB n.entry).length ++ entryB n.entry)).length ≤ 220 := by have := entryB_len hm.2; have := vputL_len (entryB n.entry).length; rw [List.length_append]; omega
 obtain ⟨y0, e0, w0⟩ := wW_num (x := default) (z := n.k) Wt.w0 (by omega) (by unfold inI; omega) (by simp)
 obtain ⟨pp, t1, t2, t3, t4, _⟩ := entryPut_both n.entry hb.entry.ts
 have t5 := t4 hm.2
 obtain ⟨y1, e1, w1⟩ := wW_num (z := n.n) w0 (by omega) (by unfold inI; omega) (by simp only [List.length_append, List.nil_append]; omega)
 have hsz : pp.1.size ≤ 205 := by rw [← bL_len, t5]; exact entryB_len hm.2
 obtain ⟨y2, e2, w2⟩ := wW_text pp.1 w1 (by simp only [List.length_append, List.nil_append]; omega)
 obtain ⟨s, ed, wd⟩ := wW_done w2
 refine ⟨s, ?_, ?_⟩
 ·rw [wd, show pp.1.size = (entryB n.entry).length by rw [← bL_len, t5], t5]; simp only [List.append_assoc, List.nil_append]
 unfold F_note_Put
 rw [note_Check, h0, Option.bind_some, if_neg (by decide), F_wire_New, Option.bind_some, e0, Option.bind_some]
 rw [if_neg (by rw [hk]; decide)]
 rw [if_pos (by rw [hk]; rfl)]
 rw [t1, Option.bind_some, e1, Option.bind_some, e2, Option.bind_some, F_note_Put_k1, ed]; rfl

theorem ref10_Put_2 (n : ENote) (hb : bdENote n) (hk : n.k = 2) (h0 : noteCheck n = 0) : ∃ s, bL s = vputL n.k.toNat ++ (vputL (n.n).toNat ++ ((vputL (entryB n.entry).length ++ entryB n.entry))) ∧ F_ref10_Put n = some (s, 0) := by
 have hm := noteCheck_2 hk h0
 have hv0 := vputL_len n.k.toNat
 have hv1 : (vputL (n.n).toNat).length ≤ 9 := by exact vputL_len _
 have hv2 : ((vputL (entryB n.entry).length ++ entryB n.entry)).length ≤ 220 := by have := entryB_len hm.2; have := vputL_len (entryB n.entry).length; rw [List.length_append]; omega
 obtain ⟨y0, e0, w0⟩ := w2_num (x := default) (z := n.k) Wt.r0 (by omega) (by unfold inI; omega) (by simp)
 obtain ⟨pp, t1, t2, t3, t4, _⟩ := entryPut_both n.entry hb.entry.ts
 have t5 := t4 hm.2
 obtain ⟨y1, e1, w1⟩ := w2_num (z := n.n) w0 (by omega) (by unfold inI; omega) (by simp only [List.length_append, List.nil_append]; omega)
 have hsz : pp.1.size ≤ 205 := by rw [← bL_len, t5]; exact entryB_len hm.2
 obtain ⟨y2, e2, w2⟩ := w2_text pp.1 w1 (by simp only [List.length_append, List.nil_append]; omega)
 obtain ⟨s, ed, wd⟩ := w2_done w2
 refine ⟨s, ?_, ?_⟩
 ·rw [wd, show pp.1.size = (entryB n.entry).length by rw [← bL_len, t5], t5]; simp only [List.append_assoc, List.nil_append]
 unfold F_ref10_Put
 rw [ref10_Check, h0, Option.bind_some, if_neg (by decide), e0, Option.bind_some]
 rw [if_neg (by rw [hk]; decide)]
 rw [if_pos (by rw [hk]; rfl)]
 rw [e1, Option.bind_some, t2, Option.bind_some, e2, Option.bind_some]; unfold F_ref10_Put_k1; rw [show ({ s := y2.s, e := y2.e } : Eref02_Writer) = y2 from rfl, ed]; rfl

theorem note_Put_3 (n : ENote) (hb : bdENote n) (hk : n.k = 3) (h0 : noteCheck n = 0) : ∃ s, bL s = vputL n.k.toNat ++ (vputL (n.n).toNat ++ (vputL (n.at_).toNat)) ∧ F_note_Put n = some (s, 0) := by
 have hm := noteCheck_3 hk h0
 have hv0 := vputL_len n.k.toNat
 have hv1 : (vputL (n.n).toNat).length ≤ 9 := by exact vputL_len _
 have hv2 : (vputL (n.at_).toNat).length ≤ 9 := by exact vputL_len _
 obtain ⟨y0, e0, w0⟩ := wW_num (x := default) (z := n.k) Wt.w0 (by omega) (by unfold inI; omega) (by simp)
 obtain ⟨y1, e1, w1⟩ := wW_num (z := n.n) w0 (by omega) (by unfold inI; omega) (by simp only [List.length_append, List.nil_append]; omega)
 obtain ⟨y2, e2, w2⟩ := wW_big (z := n.at_) w1 (hb.at_) (by simp only [List.length_append, List.nil_append]; omega)
 obtain ⟨s, ed, wd⟩ := wW_done w2
 refine ⟨s, ?_, ?_⟩
 ·rw [wd]; simp only [List.append_assoc, List.nil_append]
 unfold F_note_Put
 rw [note_Check, h0, Option.bind_some, if_neg (by decide), F_wire_New, Option.bind_some, e0, Option.bind_some]
 rw [if_neg (by rw [hk]; decide)]
 rw [if_neg (by rw [hk]; decide)]
 rw [if_pos (by rw [hk]; rfl)]
 rw [e1, Option.bind_some, e2, Option.bind_some, F_note_Put_k1, ed]; rfl

theorem ref10_Put_3 (n : ENote) (hb : bdENote n) (hk : n.k = 3) (h0 : noteCheck n = 0) : ∃ s, bL s = vputL n.k.toNat ++ (vputL (n.n).toNat ++ (vputL (n.at_).toNat)) ∧ F_ref10_Put n = some (s, 0) := by
 have hm := noteCheck_3 hk h0
 have hv0 := vputL_len n.k.toNat
 have hv1 : (vputL (n.n).toNat).length ≤ 9 := by exact vputL_len _
 have hv2 : (vputL (n.at_).toNat).length ≤ 9 := by exact vputL_len _
 obtain ⟨y0, e0, w0⟩ := w2_num (x := default) (z := n.k) Wt.r0 (by omega) (by unfold inI; omega) (by simp)
 obtain ⟨y1, e1, w1⟩ := w2_num (z := n.n) w0 (by omega) (by unfold inI; omega) (by simp only [List.length_append, List.nil_append]; omega)
 obtain ⟨y2, e2, w2⟩ := w2_big (z := n.at_) w1 (hb.at_) (by simp only [List.length_append, List.nil_append]; omega)
 obtain ⟨s, ed, wd⟩ := w2_done w2
 refine ⟨s, ?_, ?_⟩
 ·rw [wd]; simp only [List.append_assoc, List.nil_append]
 unfold F_ref10_Put
 rw [ref10_Check, h0, Option.bind_some, if_neg (by decide), e0, Option.bind_some]
 rw [if_neg (by rw [hk]; decide)]
 rw [if_neg (by rw [hk]; decide)]
 rw [if_pos (by rw [hk]; rfl)]
 rw [e1, Option.bind_some, e2, Option.bind_some]; unfold F_ref10_Put_k1; rw [show ({ s := y2.s, e := y2.e } : Eref02_Writer) = y2 from rfl, ed]; rfl

theorem note_Put_4 (n : ENote) (hb : bdENote n) (hk : n.k = 4) (h0 : noteCheck n = 0) : ∃ s, bL s = vputL n.k.toNat ++ (vputL (n.at_).toNat ++ (vputL (n.n).toNat)) ∧ F_note_Put n = some (s, 0) := by
 have hm := noteCheck_4 hk h0
 have hv0 := vputL_len n.k.toNat
 have hv1 : (vputL (n.at_).toNat).length ≤ 9 := by exact vputL_len _
 have hv2 : (vputL (n.n).toNat).length ≤ 9 := by exact vputL_len _
 obtain ⟨y0, e0, w0⟩ := wW_num (x := default) (z := n.k) Wt.w0 (by omega) (by unfold inI; omega) (by simp)
 obtain ⟨y1, e1, w1⟩ := wW_big (z := n.at_) w0 (hb.at_) (by simp only [List.length_append, List.nil_append]; omega)
 obtain ⟨y2, e2, w2⟩ := wW_num (z := n.n) w1 (by omega) (by unfold inI; omega) (by simp only [List.length_append, List.nil_append]; omega)
 obtain ⟨s, ed, wd⟩ := wW_done w2
 refine ⟨s, ?_, ?_⟩
 ·rw [wd]; simp only [List.append_assoc, List.nil_append]
 unfold F_note_Put
 rw [note_Check, h0, Option.bind_some, if_neg (by decide), F_wire_New, Option.bind_some, e0, Option.bind_some]
 rw [if_neg (by rw [hk]; decide)]
 rw [if_neg (by rw [hk]; decide)]
 rw [if_neg (by rw [hk]; decide)]
 rw [if_pos (by rw [hk]; rfl)]
 rw [e1, Option.bind_some, F_note_Put_k2, e2, Option.bind_some, F_note_Put_k1, ed]; rfl

theorem ref10_Put_4 (n : ENote) (hb : bdENote n) (hk : n.k = 4) (h0 : noteCheck n = 0) : ∃ s, bL s = vputL n.k.toNat ++ (vputL (n.at_).toNat ++ (vputL (n.n).toNat)) ∧ F_ref10_Put n = some (s, 0) := by
 have hm := noteCheck_4 hk h0
 have hv0 := vputL_len n.k.toNat
 have hv1 : (vputL (n.at_).toNat).length ≤ 9 := by exact vputL_len _
 have hv2 : (vputL (n.n).toNat).length ≤ 9 := by exact vputL_len _
 obtain ⟨y0, e0, w0⟩ := w2_num (x := default) (z := n.k) Wt.r0 (by omega) (by unfold inI; omega) (by simp)
 obtain ⟨y1, e1, w1⟩ := w2_big (z := n.at_) w0 (hb.at_) (by simp only [List.length_append, List.nil_append]; omega)
 obtain ⟨y2, e2, w2⟩ := w2_num (z := n.n) w1 (by omega) (by unfold inI; omega) (by simp only [List.length_append, List.nil_append]; omega)
 obtain ⟨s, ed, wd⟩ := w2_done w2
 refine ⟨s, ?_, ?_⟩
 ·rw [wd]; simp only [List.append_assoc, List.nil_append]
 unfold F_ref10_Put
 rw [ref10_Check, h0, Option.bind_some, if_neg (by decide), e0, Option.bind_some]
 rw [if_neg (by rw [hk]; decide)]
 rw [if_neg (by rw [hk]; decide)]
 rw [if_neg (by rw [hk]; decide)]
 rw [if_pos (by rw [hk]; rfl)]
 rw [e1, Option.bind_some, e2, Option.bind_some]; unfold F_ref10_Put_k1; rw [show ({ s := y2.s, e := y2.e } : Eref02_Writer) = y2 from rfl, ed]; rfl

theorem note_Put_5 (n : ENote) (hb : bdENote n) (hk : n.k = 5) (h0 : noteCheck n = 0) : ∃ s, bL s = vputL n.k.toNat ++ (vputL (n.n).toNat) ∧ F_note_Put n = some (s, 0) := by
 have hm := noteCheck_5 hk h0
 have hv0 := vputL_len n.k.toNat
 have hv1 : (vputL (n.n).toNat).length ≤ 9 := by exact vputL_len _
 obtain ⟨y0, e0, w0⟩ := wW_num (x := default) (z := n.k) Wt.w0 (by omega) (by unfold inI; omega) (by simp)
 obtain ⟨y1, e1, w1⟩ := wW_num (z := n.n) w0 (by omega) (by unfold inI; omega) (by simp only [List.length_append, List.nil_append]; omega)
 obtain ⟨s, ed, wd⟩ := wW_done w1
 refine ⟨s, ?_, ?_⟩
 ·rw [wd]; simp only [List.append_assoc, List.nil_append]
 unfold F_note_Put
 rw [note_Check, h0, Option.bind_some, if_neg (by decide), F_wire_New, Option.bind_some, e0, Option.bind_some]
 rw [if_neg (by rw [hk]; decide)]
 rw [if_neg (by rw [hk]; decide)]
 rw [if_neg (by rw [hk]; decide)]
 rw [if_neg (by rw [hk]; decide)]
 rw [if_pos (by rw [hk]; rfl)]
 unfold F_note_Put_k4
 rw [if_pos (by rw [hk]; rfl), F_note_Put_k2, e1, Option.bind_some, F_note_Put_k1, ed]; rfl

theorem ref10_Put_5 (n : ENote) (hb : bdENote n) (hk : n.k = 5) (h0 : noteCheck n = 0) : ∃ s, bL s = vputL n.k.toNat ++ (vputL (n.n).toNat) ∧ F_ref10_Put n = some (s, 0) := by
 have hm := noteCheck_5 hk h0
 have hv0 := vputL_len n.k.toNat
 have hv1 : (vputL (n.n).toNat).length ≤ 9 := by exact vputL_len _
 obtain ⟨y0, e0, w0⟩ := w2_num (x := default) (z := n.k) Wt.r0 (by omega) (by unfold inI; omega) (by simp)
 obtain ⟨y1, e1, w1⟩ := w2_num (z := n.n) w0 (by omega) (by unfold inI; omega) (by simp only [List.length_append, List.nil_append]; omega)
 obtain ⟨s, ed, wd⟩ := w2_done w1
 refine ⟨s, ?_, ?_⟩
 ·rw [wd]; simp only [List.append_assoc, List.nil_append]
 unfold F_ref10_Put
 rw [ref10_Check, h0, Option.bind_some, if_neg (by decide), e0, Option.bind_some]
 rw [if_neg (by rw [hk]; decide)]
 rw [if_neg (by rw [hk]; decide)]
 rw [if_neg (by rw [hk]; decide)]
 rw [if_neg (by rw [hk]; decide)]
 rw [if_pos (by rw [hk]; rfl)]
 unfold F_ref10_Put_k3
 rw [if_pos (by rw [hk]; rfl), e1, Option.bind_some]; unfold F_ref10_Put_k1; rw [show ({ s := y1.s, e := y1.e } : Eref02_Writer) = y1 from rfl, ed]; rfl

theorem note_Put_6 (n : ENote) (hb : bdENote n) (hk : n.k = 6) (h0 : noteCheck n = 0) : ∃ s, bL s = vputL n.k.toNat ++ (vputL (n.pin.id).toNat ++ (vputL (n.pin.at_).toNat ++ (vputL (n.pin.left).toNat))) ∧ F_note_Put n = some (s, 0) := by
 have hm := noteCheck_6 hk h0
 have hv0 := vputL_len n.k.toNat
 have hv1 : (vputL (n.pin.id).toNat).length ≤ 9 := by exact vputL_len _
 have hv2 : (vputL (n.pin.at_).toNat).length ≤ 9 := by exact vputL_len _
 have hv3 : (vputL (n.pin.left).toNat).length ≤ 9 := by exact vputL_len _
 obtain ⟨y0, e0, w0⟩ := wW_num (x := default) (z := n.k) Wt.w0 (by omega) (by unfold inI; omega) (by simp)
 obtain ⟨y1, e1, w1⟩ := wW_num (z := n.pin.id) w0 (by omega) (by unfold inI; omega) (by simp only [List.length_append, List.nil_append]; omega)
 obtain ⟨y2, e2, w2⟩ := wW_big (z := n.pin.at_) w1 (hb.pin.at_) (by simp only [List.length_append, List.nil_append]; omega)
 obtain ⟨y3, e3, w3⟩ := wW_num (z := n.pin.left) w2 (by omega) (by unfold inI; omega) (by simp only [List.length_append, List.nil_append]; omega)
 obtain ⟨s, ed, wd⟩ := wW_done w3
 refine ⟨s, ?_, ?_⟩
 ·rw [wd]; simp only [List.append_assoc, List.nil_append]
 unfold F_note_Put
 rw [note_Check, h0, Option.bind_some, if_neg (by decide), F_wire_New, Option.bind_some, e0, Option.bind_some]
 rw [if_neg (by rw [hk]; decide)]
 rw [if_neg (by rw [hk]; decide)]
 rw [if_neg (by rw [hk]; decide)]
 rw [if_neg (by rw [hk]; decide)]
 rw [if_neg (by rw [hk]; decide)]
 unfold F_note_Put_k4
 rw [if_neg (by rw [hk]; decide), if_pos (by rw [hk]; rfl), e1, Option.bind_some, e2, Option.bind_some, e3, Option.bind_some, F_note_Put_k1, ed]; rfl

theorem ref10_Put_6 (n : ENote) (hb : bdENote n) (hk : n.k = 6) (h0 : noteCheck n = 0) : ∃ s, bL s = vputL n.k.toNat ++ (vputL (n.pin.id).toNat ++ (vputL (n.pin.at_).toNat ++ (vputL (n.pin.left).toNat))) ∧ F_ref10_Put n = some (s, 0) := by
 have hm := noteCheck_6 hk h0
 have hv0 := vputL_len n.k.toNat
 have hv1 : (vputL (n.pin.id).toNat).length ≤ 9 := by exact vputL_len _
 have hv2 : (vputL (n.pin.at_).toNat).length ≤ 9 := by exact vputL_len _
 have hv3 : (vputL (n.pin.left).toNat).length ≤ 9 := by exact vputL_len _
 obtain ⟨y0, e0, w0⟩ := w2_num (x := default) (z := n.k) Wt.r0 (by omega) (by unfold inI; omega) (by simp)
 obtain ⟨y1, e1, w1⟩ := w2_num (z := n.pin.id) w0 (by omega) (by unfold inI; omega) (by simp only [List.length_append, List.nil_append]; omega)
 obtain ⟨y2, e2, w2⟩ := w2_big (z := n.pin.at_) w1 (hb.pin.at_) (by simp only [List.length_append, List.nil_append]; omega)
 obtain ⟨y3, e3, w3⟩ := w2_num (z := n.pin.left) w2 (by omega) (by unfold inI; omega) (by simp only [List.length_append, List.nil_append]; omega)
 obtain ⟨s, ed, wd⟩ := w2_done w3
 refine ⟨s, ?_, ?_⟩
 ·rw [wd]; simp only [List.append_assoc, List.nil_append]
 unfold F_ref10_Put
 rw [ref10_Check, h0, Option.bind_some, if_neg (by decide), e0, Option.bind_some]
 rw [if_neg (by rw [hk]; decide)]
 rw [if_neg (by rw [hk]; decide)]
 rw [if_neg (by rw [hk]; decide)]
 rw [if_neg (by rw [hk]; decide)]
 rw [if_neg (by rw [hk]; decide)]
 unfold F_ref10_Put_k3
 rw [if_neg (by rw [hk]; decide), if_pos (by rw [hk]; rfl), e1, Option.bind_some, e2, Option.bind_some, e3, Option.bind_some]; unfold F_ref10_Put_k1; rw [show ({ s := y3.s, e := y3.e } : Eref02_Writer) = y3 from rfl, ed]; rfl

theorem note_Put_7 (n : ENote) (hb : bdENote n) (hk : n.k = 7) (h0 : noteCheck n = 0) : ∃ s, bL s = vputL n.k.toNat ++ (vputL (n.n).toNat) ∧ F_note_Put n = some (s, 0) := by
 have hm := noteCheck_7 hk h0
 have hv0 := vputL_len n.k.toNat
 have hv1 : (vputL (n.n).toNat).length ≤ 9 := by exact vputL_len _
 obtain ⟨y0, e0, w0⟩ := wW_num (x := default) (z := n.k) Wt.w0 (by omega) (by unfold inI; omega) (by simp)
 obtain ⟨y1, e1, w1⟩ := wW_num (z := n.n) w0 (by omega) (by unfold inI; omega) (by simp only [List.length_append, List.nil_append]; omega)
 obtain ⟨s, ed, wd⟩ := wW_done w1
 refine ⟨s, ?_, ?_⟩
 ·rw [wd]; simp only [List.append_assoc, List.nil_append]
 unfold F_note_Put
 rw [note_Check, h0, Option.bind_some, if_neg (by decide), F_wire_New, Option.bind_some, e0, Option.bind_some]
 rw [if_neg (by rw [hk]; decide)]
 rw [if_neg (by rw [hk]; decide)]
 rw [if_neg (by rw [hk]; decide)]
 rw [if_neg (by rw [hk]; decide)]
 rw [if_neg (by rw [hk]; decide)]
 unfold F_note_Put_k4
 rw [if_pos (by rw [hk]; rfl), F_note_Put_k2, e1, Option.bind_some, F_note_Put_k1, ed]; rfl

theorem ref10_Put_7 (n : ENote) (hb : bdENote n) (hk : n.k = 7) (h0 : noteCheck n = 0) : ∃ s, bL s = vputL n.k.toNat ++ (vputL (n.n).toNat) ∧ F_ref10_Put n = some (s, 0) := by
 have hm := noteCheck_7 hk h0
 have hv0 := vputL_len n.k.toNat
 have hv1 : (vputL (n.n).toNat).length ≤ 9 := by exact vputL_len _
 obtain ⟨y0, e0, w0⟩ := w2_num (x := default) (z := n.k) Wt.r0 (by omega) (by unfold inI; omega) (by simp)
 obtain ⟨y1, e1, w1⟩ := w2_num (z := n.n) w0 (by omega) (by unfold inI; omega) (by simp only [List.length_append, List.nil_append]; omega)
 obtain ⟨s, ed, wd⟩ := w2_done w1
 refine ⟨s, ?_, ?_⟩
 ·rw [wd]; simp only [List.append_assoc, List.nil_append]
 unfold F_ref10_Put
 rw [ref10_Check, h0, Option.bind_some, if_neg (by decide), e0, Option.bind_some]
 rw [if_neg (by rw [hk]; decide)]
 rw [if_neg (by rw [hk]; decide)]
 rw [if_neg (by rw [hk]; decide)]
 rw [if_neg (by rw [hk]; decide)]
 rw [if_neg (by rw [hk]; decide)]
 unfold F_ref10_Put_k3
 rw [if_pos (by rw [hk]; rfl), e1, Option.bind_some]; unfold F_ref10_Put_k1; rw [show ({ s := y1.s, e := y1.e } : Eref02_Writer) = y1 from rfl, ed]; rfl

theorem note_Put_8 (n : ENote) (hb : bdENote n) (hk : n.k = 8) (h0 : noteCheck n = 0) : ∃ s, bL s = vputL n.k.toNat ++ (vputL (n.said.client).toNat ++ (vputL (n.said.req).toNat ++ (vputL (n.said.e).toNat ++ (vputL (n.said.pin).toNat)))) ∧ F_note_Put n = some (s, 0) := by
 have hm := noteCheck_8 hk h0
 have hv0 := vputL_len n.k.toNat
 have hv1 : (vputL (n.said.client).toNat).length ≤ 9 := by exact vputL_len _
 have hv2 : (vputL (n.said.req).toNat).length ≤ 9 := by exact vputL_len _
 have hv3 : (vputL (n.said.e).toNat).length ≤ 9 := by exact vputL_len _
 have hv4 : (vputL (n.said.pin).toNat).length ≤ 9 := by exact vputL_len _
 obtain ⟨y0, e0, w0⟩ := wW_num (x := default) (z := n.k) Wt.w0 (by omega) (by unfold inI; omega) (by simp)
 obtain ⟨y1, e1, w1⟩ := wW_num (z := n.said.client) w0 (by omega) (by unfold inI; omega) (by simp only [List.length_append, List.nil_append]; omega)
 obtain ⟨y2, e2, w2⟩ := wW_num (z := n.said.req) w1 (by omega) (by unfold inI; omega) (by simp only [List.length_append, List.nil_append]; omega)
 obtain ⟨y3, e3, w3⟩ := wW_num (z := n.said.e) w2 (by omega) (by unfold inI; omega) (by simp only [List.length_append, List.nil_append]; omega)
 obtain ⟨y4, e4, w4⟩ := wW_num (z := n.said.pin) w3 (by omega) (by unfold inI; omega) (by simp only [List.length_append, List.nil_append]; omega)
 obtain ⟨s, ed, wd⟩ := wW_done w4
 refine ⟨s, ?_, ?_⟩
 ·rw [wd]; simp only [List.append_assoc, List.nil_append]
 unfold F_note_Put
 rw [note_Check, h0, Option.bind_some, if_neg (by decide), F_wire_New, Option.bind_some, e0, Option.bind_some]
 rw [if_neg (by rw [hk]; decide)]
 rw [if_neg (by rw [hk]; decide)]
 rw [if_neg (by rw [hk]; decide)]
 rw [if_neg (by rw [hk]; decide)]
 rw [if_neg (by rw [hk]; decide)]
 unfold F_note_Put_k4
 rw [if_neg (by rw [hk]; decide), if_neg (by rw [hk]; decide), if_pos (by rw [hk]; rfl), e1, Option.bind_some, e2, Option.bind_some, e3, Option.bind_some, e4, Option.bind_some, F_note_Put_k1, ed]; rfl

theorem ref10_Put_8 (n : ENote) (hb : bdENote n) (hk : n.k = 8) (h0 : noteCheck n = 0) : ∃ s, bL s = vputL n.k.toNat ++ (vputL (n.said.client).toNat ++ (vputL (n.said.req).toNat ++ (vputL (n.said.e).toNat ++ (vputL (n.said.pin).toNat)))) ∧ F_ref10_Put n = some (s, 0) := by
 have hm := noteCheck_8 hk h0
 have hv0 := vputL_len n.k.toNat
 have hv1 : (vputL (n.said.client).toNat).length ≤ 9 := by exact vputL_len _
 have hv2 : (vputL (n.said.req).toNat).length ≤ 9 := by exact vputL_len _
 have hv3 : (vputL (n.said.e).toNat).length ≤ 9 := by exact vputL_len _
 have hv4 : (vputL (n.said.pin).toNat).length ≤ 9 := by exact vputL_len _
 obtain ⟨y0, e0, w0⟩ := w2_num (x := default) (z := n.k) Wt.r0 (by omega) (by unfold inI; omega) (by simp)
 obtain ⟨y1, e1, w1⟩ := w2_num (z := n.said.client) w0 (by omega) (by unfold inI; omega) (by simp only [List.length_append, List.nil_append]; omega)
 obtain ⟨y2, e2, w2⟩ := w2_num (z := n.said.req) w1 (by omega) (by unfold inI; omega) (by simp only [List.length_append, List.nil_append]; omega)
 obtain ⟨y3, e3, w3⟩ := w2_num (z := n.said.e) w2 (by omega) (by unfold inI; omega) (by simp only [List.length_append, List.nil_append]; omega)
 obtain ⟨y4, e4, w4⟩ := w2_num (z := n.said.pin) w3 (by omega) (by unfold inI; omega) (by simp only [List.length_append, List.nil_append]; omega)
 obtain ⟨s, ed, wd⟩ := w2_done w4
 refine ⟨s, ?_, ?_⟩
 ·rw [wd]; simp only [List.append_assoc, List.nil_append]
 unfold F_ref10_Put
 rw [ref10_Check, h0, Option.bind_some, if_neg (by decide), e0, Option.bind_some]
 rw [if_neg (by rw [hk]; decide)]
 rw [if_neg (by rw [hk]; decide)]
 rw [if_neg (by rw [hk]; decide)]
 rw [if_neg (by rw [hk]; decide)]
 rw [if_neg (by rw [hk]; decide)]
 unfold F_ref10_Put_k3
 rw [if_neg (by rw [hk]; decide), if_neg (by rw [hk]; decide), e1, Option.bind_some, e2, Option.bind_some, e3, Option.bind_some, e4, Option.bind_some]; unfold F_ref10_Put_k1; rw [show ({ s := y4.s, e := y4.e } : Eref02_Writer) = y4 from rfl, ed]; rfl

end Go.Proofs.Ytbfglbbbkcpgeaa
