/- Entries: twins, lists that are right, how many are stamped. -/
import Derived.Test.YtmdoimpeacndaaaYAdC
namespace Go.Proofs.Ytmdoimpeacndaaa
structure bdEOp (x : EOp) : Prop where
 key : bdStr x.key
 val : bdStr x.val
 del : bdT x.del

structure bdEBatch (x : EBatch) : Prop where
 client : inI x.client
 req : inI x.req
 ops : (bdSl bdEOp) x.ops

structure bdEEntry (x : EEntry) : Prop where
 batch : bdEBatch x.batch
 ts : inU x.ts

theorem item_Check (e : EEntry) : F_item_Check e = some (batchCheck e.batch) := by unfold F_item_Check; rw [ops_Check]; rfl

theorem ref08_Check (e : EEntry) : F_ref08_Check e = some (batchCheck e.batch) := by unfold F_ref08_Check; rw [ref06_Check]; rfl

def tw (a b : EEntry) : Bool := (a.batch.client == b.batch.client) && (a.batch.req == b.batch.req)

theorem tw_self (a : EEntry) : tw a a = true := by simp [tw]

theorem ref08_Twins (a b : EEntry) : F_ref08_Twins a b = some (tw a b) := rfl

theorem item_Twins (a b : EEntry) : F_item_Twins a b = some (tw a b) := rfl

def follow (pre : List EEntry) (e : EEntry) : Bool := (!(pre.length == 0)) && ((e.ts != 0) && (((pre.getD (pre.length - 1) default).ts == 0) || decide ((pre.getD (pre.length - 1) default).ts ≥ e.ts)))

def rightF : List EEntry → List EEntry → Int
 | _, [] => 0
 | pre, e :: r => if batchCheck e.batch ≠ 0 then batchCheck e.batch else if (pre.any (fun x => tw x e) || follow pre e) = true then 18 else rightF (pre ++ [e]) r

theorem rightF_cons (pre : List EEntry) (e : EEntry) (r : List EEntry) : rightF pre (e :: r) = if batchCheck e.batch ≠ 0 then batchCheck e.batch else if (pre.any (fun x => tw x e) || follow pre e) = true then 18 else rightF (pre ++ [e]) r := rfl

def rightL (l : List EEntry) : Int := rightF [] l

theorem rightF_at {l : List EEntry} {k : Nat} (hk : k < l.length) : rightF (l.take k) (l.drop k) = if batchCheck (l.getD k default).batch ≠ 0 then batchCheck (l.getD k default).batch else if ((l.take k).any (fun x => tw x (l.getD k default)) || follow (l.take k) (l.getD k default)) = true then 18 else rightF (l.take (k + 1)) (l.drop (k + 1)) := by
 rw [drop_cons (d := default) hk, rightF_cons, ← take_snoc hk]

theorem follow_at {l : List EEntry} {k : Nat} (hk : k ≤ l.length) (e : EEntry) : follow (l.take k) e = (decide ((k : Int) > 0) && ((e.ts != 0) && (((l.getD ((k : Int) - 1).toNat default).ts == 0) || decide ((l.getD ((k : Int) - 1).toNat default).ts ≥ e.ts)))) := by
 unfold follow
 rw [List.length_take, Nat.min_eq_left hk]
 by_cases h : k = 0
 ·subst h; rfl
 ·have e1 : ((k : Int) - 1).toNat = k - 1 := by omega
  have e2 : (l.take k).getD (k - 1) default = l.getD (k - 1) default := by
   rw [List.getD_eq_getElem?_getD, List.getD_eq_getElem?_getD, List.getElem?_take_of_lt (by omega)]
  have e3 : (k == 0) = false := by rw [beq_eq_false_iff_ne]; exact h
  rw [e1, e2, e3, decide_eq_true (by omega : (k : Int) > 0)]; rfl

theorem any_snoc {l : List EEntry} {k : Nat} (hk : k < l.length) (f : EEntry → Bool) : (l.take (k + 1)).any f = ((l.take k).any f || f (l.getD k default)) := by rw [take_snoc (d := default) hk, List.any_append]; simp

theorem any_drop {l : List EEntry} {k n : Nat} (hk : k < n) (hn : n ≤ l.length) (f : EEntry → Bool) : ((l.take n).drop k).any f = (f (l.getD k default) || ((l.take n).drop (k + 1)).any f) := by
 rw [drop_cons (d := default) (by rw [List.length_take]; omega), List.any_cons]
 have : (l.take n).getD k default = l.getD k default := by rw [List.getD_eq_getElem?_getD, List.getD_eq_getElem?_getD, List.getElem?_take_of_lt hk]
 rw [this]

theorem ref08_Right_l1 (l : List EEntry) (hl : l.length ≤ bdM) (rc : Int → Option Int) (k : Nat) (hk : k ≤ l.length) (hrc : k < l.length → rc ((k : Int) + 1) = some (rightF (l.take (k + 1)) (l.drop (k + 1)))) : F_ref08_Right_l1 l rc (k : Int) = some (rightF (l.take k) (l.drop k)) := by
 unfold F_ref08_Right_l1
 dsimp only
 by_cases h : k < l.length
 ·rw [if_pos (decide_eq_true (by omega)), chk_t (by omega)]
  show ((F_ref08_Check (l.getD k default)).bind _) = _
  rw [ref08_Check, Option.bind_some, rightF_at h]
  by_cases hb : batchCheck (l.getD k default).batch = 0
  ·rw [hb, if_neg (by decide), if_neg (by decide)]
   refine (iter_up (n := k) (fun j => some (if (((l.take k).drop j).any (fun x => tw x (l.getD k default)) || follow (l.take k) (l.getD k default)) = true then 18 else rightF (l.take (k + 1)) (l.drop (k + 1)))) (by omega) fun rc2 j hj hrc2 => ?_).trans (by rw [List.drop_zero])
   unfold F_ref08_Right_l2
   dsimp only
   by_cases hj' : j < k
   ·rw [if_pos (decide_eq_true (by omega)), chk_t (by omega), chk_t (by omega)]
    show ((F_ref08_Twins (l.getD j default) (l.getD k default)).bind _) = _
    rw [ref08_Twins, Option.bind_some, any_drop hj' hk]
    by_cases ht : tw (l.getD j default) (l.getD k default) = true
    ·rw [if_pos ht, ht]; rfl
    ·rw [if_neg ht, Bool.eq_false_iff.2 ht, Bool.false_or, chk_t (by unfold inI; unfold bdM at hl; omega), hrc2 hj']
   ·rw [if_neg (by rw [decide_eq_false (by omega)]; decide), List.drop_eq_nil_of_le (by rw [List.length_take]; omega), List.any_nil, Bool.false_or, follow_at hk]
    rw [chk_t (fun _ => by omega), chk_t (fun _ => by unfold inI; unfold bdM at hl; omega)]
    have hg : ∀ {b c : Bool}, (((decide ((k : Int) > 0)) && b) && c) = true → 0 ≤ (k : Int) - 1 ∧ (k : Int) - 1 < (l.length : Int) := fun h => by
     simp only [Bool.and_eq_true, decide_eq_true_eq] at h; omega
    rw [chk_t (fun h => by simp only [Bool.and_eq_true, decide_eq_true_eq] at h; omega), chk_t (fun _ => by unfold inI; unfold bdM at hl; omega), chk_t hg, chk_t (fun _ => by omega), chk_t (by unfold inI; unfold bdM at hl; omega), hrc h]
    rw [show ((k : Int)).toNat = k from rfl, Bool.and_assoc]
    split <;> rfl
  ·rw [if_pos (bne_iff_ne.2 hb), if_pos hb]
 ·rw [if_neg (by rw [decide_eq_false (by omega)]; decide), List.drop_eq_nil_of_le (by omega)]; rfl

theorem ref08_Right (l : List EEntry) (hl : l.length ≤ bdM) : F_ref08_Right l = some (rightL l) := by
 unfold F_ref08_Right
 refine (iter_up l.length (fun k => some (rightF (l.take k) (l.drop k))) hl fun rc k hk hrc => ref08_Right_l1 l hl rc k hk hrc).trans ?_
 rw [List.take_zero, List.drop_zero]; rfl

theorem mget_mset {α β : Type} [DecidableEq α] : ∀ (l : List (α × β)) (k j : α) (v : β), mget (mset l k v) j = if k = j then some v else mget l j
 | [], k, j, v => rfl
 | p :: r, k, j, v => by
  unfold mset
  by_cases h : p.1 = k
  ·rw [if_pos h]; unfold mget
   by_cases h2 : k = j
   ·rw [if_pos h2, if_pos h2]
   ·rw [if_neg h2, if_neg h2, if_neg (by rw [h]; exact h2)]
  ·rw [if_neg h]
   show (if p.1 = j then some p.2 else mget (mset r k v) j) = if k = j then some v else (if p.1 = j then some p.2 else mget r j)
   rw [mget_mset r k j v]
   by_cases h2 : p.1 = j
   ·rw [if_pos h2, if_pos h2, if_neg (by rw [← h2]; exact fun e => h e.symm)]
   ·rw [if_neg h2, if_neg h2]

def seenOk (l : List EEntry) (k : Nat) (m : List (List Int × Bool)) : Prop := ∀ c r : Int, (mget m [c, r]).getD false = (l.take k).any (fun x => x.batch.client == c && x.batch.req == r)

theorem item_Right_l1 (l : List EEntry) (hl : l.length ≤ bdM) (rc : Int × List (List Int × Bool) → Option Int) (k : Nat) (m : List (List Int × Bool)) (hk : k ≤ l.length) (hm : seenOk l k m) (hrc : ∀ m', k < l.length → seenOk l (k + 1) m' → rc ((k : Int) + 1, m') = some (rightF (l.take (k + 1)) (l.drop (k + 1)))) : F_item_Right_l1 l rc ((k : Int), m) = some (rightF (l.take k) (l.drop k)) := by
 unfold F_item_Right_l1
 dsimp only
 by_cases h : k < l.length
 ·rw [if_pos (decide_eq_true (by omega)), chk_t (by omega)]
  show ((F_item_Check (l.getD k default)).bind _) = _
  rw [item_Check, Option.bind_some, rightF_at h]
  by_cases hb : batchCheck (l.getD k default).batch = 0
  ·rw [hb, if_neg (by decide), if_neg (by decide)]
   have hI : inI ((k : Int) + 1) := by unfold inI; unfold bdM at hl; omega
   have hI' : inI ((k : Int) - 1) := by unfold inI; unfold bdM at hl; omega
   obtain ⟨c1, c2, c3, c4, _, _⟩ := batchCheck_ok hb
   have hof : ∀ e : EEntry, F_item_of ({ e with batch := ({ client := e.batch.client, req := e.batch.req, ops := e.batch.ops } : EBatch) } : EEntry) = some [e.batch.client, e.batch.req] := fun _ => rfl
   simp only [hof, toNat_cast]
   generalize hE : l.getD k default = e at *
   have hok : ([e.batch.client, e.batch.req].length = 2 ∧ inI ([e.batch.client, e.batch.req].getD 0 0) ∧ inI ([e.batch.client, e.batch.req].getD 1 0)) := ⟨rfl, by show inI e.batch.client; unfold inI; omega, by show inI e.batch.req; unfold inI; omega⟩
   have hs : (mget m [e.batch.client, e.batch.req]).getD false = (l.take k).any (fun x => tw x e) := hm _ _
   rw [Option.bind_some, chk_t hok, hs, chk_t (fun _ => hI'), chk_t (fun h => by simp only [Bool.and_eq_true, decide_eq_true_eq] at h; omega), follow_at hk]
   have hnext : chk ([e.batch.client, e.batch.req].length = 2 ∧ inI ([e.batch.client, e.batch.req].getD 0 0) ∧ inI ([e.batch.client, e.batch.req].getD 1 0)) (chk (inI ((k : Int) + 1)) (rc ((k : Int) + 1, mset m [e.batch.client, e.batch.req] true))) = some (rightF (l.take (k + 1)) (l.drop (k + 1))) := by
    rw [chk_t hok, chk_t hI]
    refine hrc _ h fun c r => ?_
    rw [mget_mset, any_snoc h, hE]
    by_cases he : [e.batch.client, e.batch.req] = [c, r]
    ·rw [if_pos he]
     simp only [List.cons.injEq, and_true] at he
     simp [he.1, he.2]
    ·rw [if_neg he, hm]
     have : (e.batch.client == c && e.batch.req == r) = false := by
      rw [Bool.eq_false_iff]; intro x
      simp only [Bool.and_eq_true, beq_iff_eq] at x
      exact he (by rw [x.1, x.2])
     rw [this, Bool.or_false]
   generalize (l.take k).any (fun x => tw x e) = t
   rw [show F_item_follows (l.getD ((k : Int) - 1).toNat default).ts e.ts = some ((e.ts == 0) || (((l.getD ((k : Int) - 1).toNat default).ts != 0) && (decide ((l.getD ((k : Int) - 1).toNat default).ts < e.ts)))) from rfl, gif_some, Option.bind_some]
   rw [Option.bind_some, hnext]
   generalize (l.getD ((k : Int) - 1).toNat default).ts = u
   have key : (t || ((decide ((k : Int) > 0)) && !(if ((!t) && (decide ((k : Int) > 0))) = true then ((e.ts == 0) || ((u != 0) && (decide (u < e.ts)))) else default))) = (t || (decide ((k : Int) > 0) && ((e.ts != 0) && ((u == 0) || decide (u ≥ e.ts))))) := by
    cases t
    ·by_cases h0 : (k : Int) > 0
     ·rw [decide_eq_true h0, if_pos (show (!false && true) = true from rfl), Bool.false_or, Bool.true_and, Bool.false_or, Bool.true_and]
      have a3 : decide (u ≥ e.ts) = !decide (u < e.ts) := by
       by_cases h5 : u < e.ts
       ·rw [decide_eq_true h5, decide_eq_false (by omega)]; rfl
       ·rw [decide_eq_false h5, decide_eq_true (by omega)]; rfl
      rw [a3, bne, bne]
      cases (e.ts == 0) <;> cases (u == 0) <;> cases decide (u < e.ts) <;> rfl
     ·rw [decide_eq_false h0]; rfl
    ·rfl
   rw [key]
   split <;> rfl
  ·rw [if_pos (bne_iff_ne.2 hb), if_pos hb]
 ·rw [if_neg (by rw [decide_eq_false (by omega)]; decide), List.drop_eq_nil_of_le (by omega)]; rfl

theorem item_Right (l : List EEntry) (hl : l.length ≤ bdM) : F_item_Right l = some (rightL l) := by
 unfold F_item_Right
 refine (iter_up2 l.length (fun k _ => some (rightF (l.take k) (l.drop k))) (seenOk l) hl (fun c r => by simp [mget]) fun rc k m hk hm hrc => item_Right_l1 l hl rc k m hk hm fun m' h1 h2 => hrc m' h1 h2).trans ?_
 rw [List.take_zero, List.drop_zero]; rfl

def stampF : List EEntry → Nat
 | [] => 0
 | e :: r => if e.ts = 0 then 0 else stampF r + 1

theorem stampF_le : ∀ l : List EEntry, stampF l ≤ l.length
 | [] => Nat.le_refl _
 | e :: r => by
  have := stampF_le r
  unfold stampF; split <;> simp <;> omega

theorem stamp_loop (l : List EEntry) (hl : l.length ≤ bdM) (body : (Int → Option Int) → Int → Option Int) (h : ∀ rc (x : Int), body rc x = if (decide (x < (l.length : Int))) = true then (chk ((0 : Int) ≤ x ∧ x < (l.length : Int)) (if (((l.getD (x).toNat default).ts) == 0) = true then (some x) else (chk (inI (x + 1)) (rc (x + 1))))) else (some (l.length : Int))) : iter body FU 0 = some (stampF l : Int) := by
 refine (iter_up l.length (fun k => some ((k + stampF (l.drop k) : Nat) : Int)) hl fun rc k hk hrc => ?_).trans (by rw [Nat.zero_add, List.drop_zero])
 rw [h]
 by_cases hk' : k < l.length
 ·rw [if_pos (decide_eq_true (by omega)), chk_t (by omega), toNat_cast, drop_cons (d := default) hk']
  unfold stampF
  by_cases h0 : (l.getD k default).ts = 0
  ·rw [h0, if_pos (by rfl), if_pos rfl]; rfl
  ·rw [if_neg (by rw [beq_iff_eq]; exact h0), if_neg h0, chk_t (by unfold inI; unfold bdM at hl; omega), hrc hk']
   congr 2; omega
 ·rw [if_neg (by rw [decide_eq_false (by omega)]; decide), List.drop_eq_nil_of_le (by omega)]
  congr 2; unfold stampF; omega

theorem item_Stamped (l : List EEntry) (hl : l.length ≤ bdM) : F_item_Stamped l = some (stampF l : Int) := stamp_loop l hl _ fun rc x => rfl

def lastF (l : List EEntry) : Int := if stampF l = 0 then 0 else (l.getD (stampF l - 1) default).ts

def muchS (l : List EEntry) (k : Nat) : Nat := (((l.drop k).take (200 - k)).map fun e => e.batch.ops.length).sum

theorem muchS_at {l : List EEntry} {k : Nat} (h : k < l.length) (h2 : k < 200) : muchS l k = (l.getD k default).batch.ops.length + muchS l (k + 1) := by
 unfold muchS
 rw [drop_cons (d := default) h, show 200 - k = (200 - (k + 1)) + 1 by omega, List.take_succ_cons, List.map_cons, List.sum_cons]

theorem muchS_end {l : List EEntry} {k : Nat} (h : ¬ (k < l.length ∧ k < 200)) : muchS l k = 0 := by
 unfold muchS
 by_cases h1 : k < l.length
 ·rw [show 200 - k = 0 by omega]; rfl
 ·rw [List.drop_eq_nil_of_le (by omega), List.take_nil]; rfl

theorem law08_Much (l : List EEntry) (hl : bdSl bdEEntry l) : F_law08_Much l = some ((l.length + muchS l 0 : Nat) : Int) := by
 unfold F_law08_Much
 have hb := hl.1
 refine (iter_up3 (σ := Int) l.length (fun k n => some (n + (muchS l k : Nat))) (fun k n => k ≤ 200 ∧ 0 ≤ n ∧ n ≤ (bdM : Int) * (k + 1)) hb ⟨by omega, by omega, by omega⟩ fun rc k n hk hp hrc => ?_).trans (by congr 1)
 unfold F_law08_Much_l1
 dsimp only
 obtain ⟨p1, p2, p3⟩ := hp
 by_cases h : k < l.length ∧ k < 200
 ·have h3 : (l.getD k default).batch.ops.length ≤ bdM := (hl.2 k h.1).batch.ops.1
  rw [if_pos (by simp only [Bool.and_eq_true, decide_eq_true_eq]; omega), chk_t (by omega), toNat_cast]
  generalize hm : (l.getD k default).batch.ops.length = m at *
  have h4 : n + (m : Int) ≤ (bdM : Int) * (((k + 1 : Nat) : Int) + 1) := by
   rw [Int.mul_add] at p3 ⊢; unfold bdM at *; omega
  rw [chk_t (by unfold inI; unfold bdM at *; omega), chk_t (by unfold inI; unfold bdM at *; omega), hrc _ h.1 ⟨by omega, by omega, h4⟩, muchS_at h.1 h.2, hm]
  congr 1; omega
 ·rw [if_neg (by simp only [Bool.and_eq_true, decide_eq_true_eq]; omega), muchS_end h]; simp

theorem stampF_pos : ∀ (l : List EEntry) (k : Nat), k < stampF l → (l.getD k default).ts ≠ 0
 | [], k, h => by unfold stampF at h; omega
 | e :: r, 0, h => by
  unfold stampF at h
  split at h
  ·omega
  ·rename_i h1; exact h1
 | e :: r, k + 1, h => by
  unfold stampF at h
  split at h
  ·omega
  ·rw [List.getD_cons_succ]; exact stampF_pos r k (by omega)

end Go.Proofs.Ytmdoimpeacndaaa
