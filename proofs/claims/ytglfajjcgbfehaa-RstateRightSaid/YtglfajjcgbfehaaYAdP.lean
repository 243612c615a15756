/- Entries: twins, lists that are right, how many are stamped. -/
import Derived.Test.YtglfajjcgbfehaaYAdC
namespace Go.Proofs.Ytglfajjcgbfehaa
structure bdEOp (x : EOp) : Prop where
 key : bdStr x.key
 val : bdStr x.val
 del : bdT x.del

structure bdEBatch (x : EBatch) : Prop where
 client : inI x.client
 req : inI x.req
 ops : (bdSl bdEOp) x.ops

structure bdEEntry (x : EEntry) : Prop where
 batch : bdEBatch x.batch
 ts : inU x.ts

theorem item_Check (e : EEntry) : F_item_Check e = some (batchCheck e.batch) := by unfold F_item_Check; rw [ops_Check]; rfl

theorem ref08_Check (e : EEntry) : F_ref08_Check e = some (batchCheck e.batch) := by unfold F_ref08_Check; rw [ref06_Check]; rfl

def tw (a b : EEntry) : Bool := (a.batch.client == b.batch.client) && (a.batch.req == b.batch.req)

theorem ref08_Twins (a b : EEntry) : F_ref08_Twins a b = some (tw a b) := rfl

theorem item_Twins (a b : EEntry) : F_item_Twins a b = some (tw a b) := rfl

def follow (pre : List EEntry) (e : EEntry) : Bool := (!(pre.length == 0)) && ((e.ts != 0) && (((pre.getD (pre.length - 1) default).ts == 0) || decide ((pre.getD (pre.length - 1) default).ts ≥ e.ts)))

def rightF : List EEntry → List EEntry → Int
 | _, [] => 0
 | pre, e :: r => if batchCheck e.batch ≠ 0 then batchCheck e.batch else if (pre.any (fun x => tw x e) || follow pre e) = true then 18 else rightF (pre ++ [e]) r

theorem rightF_cons (pre : List EEntry) (e : EEntry) (r : List EEntry) : rightF pre (e :: r) = if batchCheck e.batch ≠ 0 then batchCheck e.batch else if (pre.any (fun x => tw x e) || follow pre e) = true then 18 else rightF (pre ++ [e]) r := rfl

def rightL (l : List EEntry) : Int := rightF [] l

theorem rightF_at {l : List EEntry} {k : Nat} (hk : k < l.length) : rightF (l.take k) (l.drop k) = if batchCheck (l.getD k default).batch ≠ 0 then batchCheck (l.getD k default).batch else if ((l.take k).any (fun x => tw x (l.getD k default)) || follow (l.take k) (l.getD k default)) = true then 18 else rightF (l.take (k + 1)) (l.drop (k + 1)) := by
 rw [drop_cons (d := default) hk, rightF_cons, ← take_snoc hk]

theorem follow_at {l : List EEntry} {k : Nat} (hk : k ≤ l.length) (e : EEntry) : follow (l.take k) e = (decide ((k : Int) > 0) && ((e.ts != 0) && (((l.getD ((k : Int) - 1).toNat default).ts == 0) || decide ((l.getD ((k : Int) - 1).toNat default).ts ≥ e.ts)))) := by
 unfold follow
 rw [List.length_take, Nat.min_eq_left hk]
 by_cases h : k = 0
 ·subst h; rfl
 ·have e1 : ((k : Int) - 1).toNat = k - 1 := by omega
  have e2 : (l.take k).getD (k - 1) default = l.getD (k - 1) default := by
   rw [List.getD_eq_getElem?_getD, List.getD_eq_getElem?_getD, List.getElem?_take_of_lt (by omega)]
  have e3 : (k == 0) = false := by rw [beq_eq_false_iff_ne]; exact h
  rw [e1, e2, e3, decide_eq_true (by omega : (k : Int) > 0)]; rfl

theorem any_drop {l : List EEntry} {k n : Nat} (hk : k < n) (hn : n ≤ l.length) (f : EEntry → Bool) : ((l.take n).drop k).any f = (f (l.getD k default) || ((l.take n).drop (k + 1)).any f) := by
 rw [drop_cons (d := default) (by rw [List.length_take]; omega), List.any_cons]
 have : (l.take n).getD k default = l.getD k default := by rw [List.getD_eq_getElem?_getD, List.getD_eq_getElem?_getD, List.getElem?_take_of_lt hk]
 rw [this]

theorem ref08_Right_l1 (l : List EEntry) (hl : l.length ≤ bdM) (rc : Int → Option Int) (k : Nat) (hk : k ≤ l.length) (hrc : k < l.length → rc ((k : Int) + 1) = some (rightF (l.take (k + 1)) (l.drop (k + 1)))) : F_ref08_Right_l1 l rc (k : Int) = some (rightF (l.take k) (l.drop k)) := by
 unfold F_ref08_Right_l1
 dsimp only
 by_cases h : k < l.length
 ·rw [if_pos (decide_eq_true (by omega)), chk_t (by omega)]
  show ((F_ref08_Check (l.getD k default)).bind _) = _
  rw [ref08_Check, Option.bind_some, rightF_at h]
  by_cases hb : batchCheck (l.getD k default).batch = 0
  ·rw [hb, if_neg (by decide), if_neg (by decide)]
   refine (iter_up (n := k) (fun j => some (if (((l.take k).drop j).any (fun x => tw x (l.getD k default)) || follow (l.take k) (l.getD k default)) = true then 18 else rightF (l.take (k + 1)) (l.drop (k + 1)))) (by omega) fun rc2 j hj hrc2 => ?_).trans (by rw [List.drop_zero])
   unfold F_ref08_Right_l2
   dsimp only
   by_cases hj' : j < k
   ·rw [if_pos (decide_eq_true (by omega)), chk_t (by omega), chk_t (by omega)]
    show ((F_ref08_Twins (l.getD j default) (l.getD k default)).bind _) = _
    rw [ref08_Twins, Option.bind_some, any_drop hj' hk]
    by_cases ht : tw (l.getD j default) (l.getD k default) = true
    ·rw [if_pos ht, ht]; rfl
    ·rw [if_neg ht, Bool.eq_false_iff.2 ht, Bool.false_or, chk_t (by unfold inI; unfold bdM at hl; omega), hrc2 hj']
   ·rw [if_neg (by rw [decide_eq_false (by omega)]; decide), List.drop_eq_nil_of_le (by rw [List.length_take]; omega), List.any_nil, Bool.false_or, follow_at hk]
    rw [chk_t (fun _ => by omega), chk_t (fun _ => by unfold inI; unfold bdM at hl; omega)]
    have hg : ∀ {b c : Bool}, (((decide ((k : Int) > 0)) && b) && c) = true → 0 ≤ (k : Int) - 1 ∧ (k : Int) - 1 < (l.length : Int) := fun h => by
     simp only [Bool.and_eq_true, decide_eq_true_eq] at h; omega
    rw [chk_t (fun h => by simp only [Bool.and_eq_true, decide_eq_true_eq] at h; omega), chk_t (fun _ => by unfold inI; unfold bdM at hl; omega), chk_t hg, chk_t (fun _ => by omega), chk_t (by unfold inI; unfold bdM at hl; omega), hrc h]
    rw [show ((k : Int)).toNat = k from rfl, Bool.and_assoc]
    split <;> rfl
  ·rw [if_pos (bne_iff_ne.2 hb), if_pos hb]
 ·rw [if_neg (by rw [decide_eq_false (by omega)]; decide), List.drop_eq_nil_of_le (by omega)]; rfl

theorem ref08_Right (l : List EEntry) (hl : l.length ≤ bdM) : F_ref08_Right l = some (rightL l) := by
 unfold F_ref08_Right
 refine (iter_up l.length (fun k => some (rightF (l.take k) (l.drop k))) hl fun rc k hk hrc => ref08_Right_l1 l hl rc k hk hrc).trans ?_
 rw [List.take_zero, List.drop_zero]; rfl

theorem mget_mset {α β : Type} [DecidableEq α] : ∀ (l : List (α × β)) (k j : α) (v : β), mget (mset l k v) j = if k = j then some v else mget l j
 | [], k, j, v => rfl
 | p :: r, k, j, v => by
  unfold mset
  by_cases h : p.1 = k
  ·rw [if_pos h]; unfold mget
   by_cases h2 : k = j
   ·rw [if_pos h2, if_pos h2]
   ·rw [if_neg h2, if_neg h2, if_neg (by rw [h]; exact h2)]
  ·rw [if_neg h]
   show (if p.1 = j then some p.2 else mget (mset r k v) j) = if k = j then some v else (if p.1 = j then some p.2 else mget r j)
   rw [mget_mset r k j v]
   by_cases h2 : p.1 = j
   ·rw [if_pos h2, if_pos h2, if_neg (by rw [← h2]; exact fun e => h e.symm)]
   ·rw [if_neg h2, if_neg h2]

def stampF : List EEntry → Nat
 | [] => 0
 | e :: r => if e.ts = 0 then 0 else stampF r + 1

theorem stampF_le : ∀ l : List EEntry, stampF l ≤ l.length
 | [] => Nat.le_refl _
 | e :: r => by
  have := stampF_le r
  unfold stampF; split <;> simp <;> omega

theorem stamp_loop (l : List EEntry) (hl : l.length ≤ bdM) (body : (Int → Option Int) → Int → Option Int) (h : ∀ rc (x : Int), body rc x = if (decide (x < (l.length : Int))) = true then (chk ((0 : Int) ≤ x ∧ x < (l.length : Int)) (if (((l.getD (x).toNat default).ts) == 0) = true then (some x) else (chk (inI (x + 1)) (rc (x + 1))))) else (some (l.length : Int))) : iter body FU 0 = some (stampF l : Int) := by
 refine (iter_up l.length (fun k => some ((k + stampF (l.drop k) : Nat) : Int)) hl fun rc k hk hrc => ?_).trans (by rw [Nat.zero_add, List.drop_zero])
 rw [h]
 by_cases hk' : k < l.length
 ·rw [if_pos (decide_eq_true (by omega)), chk_t (by omega), toNat_cast, drop_cons (d := default) hk']
  unfold stampF
  by_cases h0 : (l.getD k default).ts = 0
  ·rw [h0, if_pos (by rfl), if_pos rfl]; rfl
  ·rw [if_neg (by rw [beq_iff_eq]; exact h0), if_neg h0, chk_t (by unfold inI; unfold bdM at hl; omega), hrc hk']
   congr 2; omega
 ·rw [if_neg (by rw [decide_eq_false (by omega)]; decide), List.drop_eq_nil_of_le (by omega)]
  congr 2; unfold stampF; omega

theorem item_Stamped (l : List EEntry) (hl : l.length ≤ bdM) : F_item_Stamped l = some (stampF l : Int) := stamp_loop l hl _ fun rc x => rfl

def lastF (l : List EEntry) : Int := if stampF l = 0 then 0 else (l.getD (stampF l - 1) default).ts

theorem stampF_pos : ∀ (l : List EEntry) (k : Nat), k < stampF l → (l.getD k default).ts ≠ 0
 | [], k, h => by unfold stampF at h; omega
 | e :: r, 0, h => by
  unfold stampF at h
  split at h
  ·omega
  ·rename_i h1; exact h1
 | e :: r, k + 1, h => by
  unfold stampF at h
  split at h
  ·omega
  ·rw [List.getD_cons_succ]; exact stampF_pos r k (by omega)

end Go.Proofs.Ytglfajjcgbfehaa
