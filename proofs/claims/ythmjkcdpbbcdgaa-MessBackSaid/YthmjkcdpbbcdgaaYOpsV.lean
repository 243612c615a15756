/- Operations and entries: what is wrong, bytes, there and back. -/
import Derived.Test.YthmjkcdpbbcdgaaYItem
import Derived.Test.YthmjkcdpbbcdgaaYWP
namespace Go.Proofs.Ythmjkcdpbbcdgaa
structure bdEOp (x : EOp) : Prop where
 key : bdStr x.key
 val : bdStr x.val
 del : bdT x.del

structure bdEBatch (x : EBatch) : Prop where
 client : inI x.client
 req : inI x.req
 ops : (bdSl bdEOp) x.ops

structure bdEEntry (x : EEntry) : Prop where
 batch : bdEBatch x.batch
 ts : inU x.ts

instance : DecidableEq EOp := fun _ _ => decidable_of_iff _ eqEOp_iff

theorem eqEOp_dec (x y : EOp) : eqEOp x y = decide (x = y) := by
 by_cases h : x = y
 ·rw [decide_eq_true h]; exact eqEOp_iff.2 h
 ·rw [decide_eq_false h, Bool.eq_false_iff]; exact fun e => h (eqEOp_iff.1 e)

theorem seqB_size0 (s : ByteArray) : seqB s ⟨#[]⟩ = decide (s.size = 0) := by
 by_cases h : s.size = 0
 ·have : s = ⟨#[]⟩ := bL_inj (List.eq_nil_of_length_eq_zero (by rw [bL_len]; exact h))
  rw [decide_eq_true h]; exact seqB_iff.2 this
 ·rw [decide_eq_false h, Bool.eq_false_iff]; exact fun e => h (by rw [seqB_iff.1 e]; rfl)

/-- a loop that counts up to n and carries a state ahead of the count -/
theorem iter_up3 {σ R : Type} {body : (σ × Int → Option R) → σ × Int → Option R} (n : Nat) (out : Nat → σ → Option R) (P : Nat → σ → Prop) (hn : n ≤ bdM) {s0 : σ} (h0 : P 0 s0)
  (h : ∀ (rc : σ × Int → Option R) (k : Nat) (s : σ), k ≤ n → P k s → (∀ s', k < n → P (k + 1) s' → rc (s', (k : Int) + 1) = out (k + 1) s') → body rc (s, (k : Int)) = out k s) : iter body FU (s0, 0) = out 0 s0 := by
 have := iter_rule (body := body) (fun s => n - s.2.toNat) (fun s => out s.2.toNat s.1) (fun s => 0 ≤ s.2 ∧ s.2 ≤ n ∧ P s.2.toNat s.1) (fun rc ⟨s, i⟩ ⟨h1, h2, h3⟩ hrc => by
  simp only at h1 h2 h3 hrc ⊢
  obtain ⟨k, rfl⟩ := Int.eq_ofNat_of_zero_le h1
  rw [Int.toNat_natCast] at h3 ⊢
  refine h rc k s (by omega) h3 fun s' hk hp => ?_
  have e : ((k : Int) + 1).toNat = k + 1 := by omega
  have := hrc (s', (k : Int) + 1) ⟨by omega, by omega, by simp only [e]; exact hp⟩ (by simp only [Int.toNat_natCast]; omega)
  rw [this]; simp only [e]) FU (s0, 0) ⟨by simp, by simp, h0⟩ (by unfold FU; unfold bdM at hn; simp only; omega)
 simpa using this

-- what is wrong
def notBehind (a : Option ByteArray) (k : ByteArray) : Bool := match a with | none => false | some a => !sltB a k

def opsChk : Option ByteArray → List EOp → Int
 | _, [] => 0
 | a, o :: r => if o.key.size < 1 ∨ o.key.size > 8 then 10 else if o.val.size > 8 then 3 else if (o.del && !decide (o.val.size = 0)) = true then 4 else if notBehind a o.key = true then 18 else opsChk (some o.key) r

theorem opsChk_cons (a : Option ByteArray) (o : EOp) (r : List EOp) : opsChk a (o :: r) = if o.key.size < 1 ∨ o.key.size > 8 then 10 else if o.val.size > 8 then 3 else if (o.del && !decide (o.val.size = 0)) = true then 4 else if notBehind a o.key = true then 18 else opsChk (some o.key) r := rfl

def batchCheck (b : EBatch) : Int := if b.client < 0 ∨ b.client ≥ 3 then 1 else if b.req < 1 ∨ b.req > 1073741824 then 5 else if b.ops.length > 4 then 6 else opsChk none b.ops

theorem keys_Check (k : ByteArray) : F_keys_Check k = some (if k.size < 1 ∨ k.size > 8 then 10 else 0) := by
 unfold F_keys_Check
 rw [seqB_size0]
 simp only [Bool.or_eq_true, decide_eq_true_eq]
 by_cases h : k.size < 1 ∨ k.size > 8
 ·rw [if_pos (by omega), if_pos h]
 ·rw [if_neg (by omega), if_neg h]

def aheadOf (l : List EOp) (k : Nat) : Option ByteArray := if k = 0 then none else some (l.getD (k - 1) default).key

theorem ops_Check_l1 (b : EBatch) (hl : b.ops.length ≤ 4) (rc : ByteArray × Int → Option Int) (k : Nat) (a : ByteArray) (hk : k ≤ b.ops.length) (ha : k ≠ 0 → aheadOf b.ops k = some a) (hrc : ∀ a', k < b.ops.length → aheadOf b.ops (k + 1) = some a' → rc (a', (k : Int) + 1) = some (opsChk (aheadOf b.ops (k + 1)) (b.ops.drop (k + 1)))) : F_ops_Check_l1 b rc (a, (k : Int)) = some (opsChk (aheadOf b.ops k) (b.ops.drop k)) := by
 simp only [F_ops_Check_l1, decide_eq_true_eq, toNat_cast]
 split
 ·rename_i h
  have hk' : k < b.ops.length := by omega
  rw [chk_t (by omega), drop_cons (d := default) hk', opsChk_cons]
  have ho1 : aheadOf b.ops (k + 1) = some (b.ops.getD k default).key := by unfold aheadOf; rw [if_neg (by omega), Nat.add_sub_cancel]
  generalize b.ops.getD k default = o at *
  unfold F_ops_one
  rw [keys_Check, Option.bind_some, seqB_size0]
  by_cases c1 : o.key.size < 1 ∨ o.key.size > 8
  ·rw [if_pos c1, if_pos c1]; rfl
  rw [if_neg c1, if_neg c1, if_neg (by decide)]
  by_cases c2 : o.val.size > 8
  ·rw [if_pos (decide_eq_true (by omega)), if_pos c2]; rfl
  rw [if_neg (by rw [decide_eq_false (by omega)]; decide), if_neg c2]
  by_cases c3 : (o.del && !decide (o.val.size = 0)) = true
  ·rw [if_pos c3, if_pos c3]; rfl
  rw [if_neg c3, if_neg c3]
  have e : (!((k : Int) == 0) && (!sltB a o.key)) = notBehind (aheadOf b.ops k) o.key := by
   by_cases hk0 : k = 0
   ·subst hk0; rfl
   ·rw [ha hk0, show ((k : Int) == 0) = false from by rw [beq_eq_false_iff_ne]; omega]; rfl
  rw [e]
  by_cases c4 : notBehind (aheadOf b.ops k) o.key = true
  ·rw [if_pos c4, if_pos c4]; rfl
  rw [if_neg c4, if_neg c4, Option.bind_some, if_neg (by decide), chk_t (by unfold inI; omega), hrc _ hk' ho1, ho1]
 ·rw [List.drop_eq_nil_of_le (by omega)]; rfl

theorem ops_Check (b : EBatch) : F_ops_Check b = some (batchCheck b) := by
 unfold F_ops_Check batchCheck
 simp only [Bool.or_eq_true, decide_eq_true_eq]
 split; · rfl
 split; · rfl
 by_cases hl : b.ops.length > 4
 ·rw [if_pos (by omega), if_pos hl]
 ·rw [if_neg (by omega), if_neg hl]
  exact (iter_up3 (σ := ByteArray) b.ops.length (fun k _ => some (opsChk (aheadOf b.ops k) (b.ops.drop k))) (fun k a => k ≠ 0 → aheadOf b.ops k = some a) (by unfold bdM; omega) (fun h => absurd rfl h) fun rc k a hk ha hrc => ops_Check_l1 b (by omega) rc k a hk ha fun a' h1 h2 => hrc a' h1 fun _ => h2).trans rfl

def opOk (o : EOp) : Prop := o.key.size ≤ 8 ∧ o.val.size ≤ 8

theorem opsChk_ok : ∀ (l : List EOp) (a : Option ByteArray), opsChk a l = 0 → ∀ o ∈ l, opOk o
 | [], _, _, o, h => by cases h
 | x :: r, a, h, o, ho => by
  rw [opsChk_cons] at h
  split at h; · cases h
  split at h; · cases h
  by_cases c3 : (x.del && !decide (x.val.size = 0)) = true
  ·rw [if_pos c3] at h; cases h
  rw [if_neg c3] at h
  by_cases c4 : notBehind a x.key = true
  ·rw [if_pos c4] at h; cases h
  rw [if_neg c4] at h
  rcases List.mem_cons.1 ho with rfl | ho
  ·exact ⟨by omega, by omega⟩
  ·exact opsChk_ok r _ h o ho

theorem batchCheck_ok {b : EBatch} (h : batchCheck b = 0) : 0 ≤ b.client ∧ b.client < 3 ∧ 1 ≤ b.req ∧ b.req ≤ 1073741824 ∧ b.ops.length ≤ 4 ∧ ∀ o ∈ b.ops, opOk o := by
 unfold batchCheck at h
 split at h; · cases h
 split at h; · cases h
 split at h; · cases h
 exact ⟨by omega, by omega, by omega, by omega, by omega, opsChk_ok _ _ h⟩

-- bytes
def flagB (b : Bool) : List Nat := [if b then 1 else 0]

def textB (s : ByteArray) : List Nat := vputL s.size ++ bL s

def opB (o : EOp) : List Nat := textB o.key ++ (flagB o.del ++ textB o.val)

def batchB (b : EBatch) : List Nat := vputL b.client.toNat ++ (vputL b.req.toNat ++ (vputL b.ops.length ++ b.ops.flatMap opB))

theorem textB_len (s : ByteArray) : (textB s).length ≤ 9 + s.size := by have := vputL_len s.size; unfold textB; rw [List.length_append, bL_len]; omega

theorem flagB_len (b : Bool) : (flagB b).length = 1 := rfl

theorem opB_len {o : EOp} (h : opOk o) : (opB o).length ≤ 40 := by
 have := textB_len o.key; have := textB_len o.val; obtain ⟨h1, h2⟩ := h
 unfold opB; simp only [List.length_append, flagB_len]; omega

theorem flatB_len {α : Type} (B : α → List Nat) (m : Nat) : ∀ (l : List α), (∀ a ∈ l, (B a).length ≤ m) → (l.flatMap B).length ≤ l.length * m
 | [], _ => Nat.zero_le _
 | a :: r, h => by
  have := flatB_len B m r fun x hx => h x (by simp [hx])
  have := h a (by simp)
  rw [List.flatMap_cons, List.length_append, List.length_cons, Nat.succ_mul]; omega

theorem batchB_len {b : EBatch} (h : batchCheck b = 0) : (batchB b).length ≤ 187 := by
 obtain ⟨_, _, _, _, h1, h2⟩ := batchCheck_ok h
 have := flatB_len opB 40 b.ops fun o ho => opB_len (h2 o ho)
 have := vputL_len b.client.toNat; have := vputL_len b.req.toNat; have := vputL_len b.ops.length
 unfold batchB; simp only [List.length_append]; omega

theorem textB_lt (s : ByteArray) : ∀ x ∈ textB s, x < 256 := fun x h => by
 rcases List.mem_append.1 h with h | h
 ·exact vputL_lt _ _ h
 ·exact bL_lt _ _ h

theorem flagB_lt (b : Bool) : ∀ x ∈ flagB b, x < 256 := fun x h => by
 cases b <;> simp [flagB] at h <;> omega

theorem opB_lt (o : EOp) : ∀ x ∈ opB o, x < 256 := fun x h => by
 unfold opB at h
 simp only [List.mem_append] at h
 rcases h with h | h | h
 ·exact textB_lt _ _ h
 ·exact flagB_lt _ _ h
 ·exact textB_lt _ _ h

theorem batchB_lt (b : EBatch) : ∀ x ∈ batchB b, x < 256 := fun x h => by
 unfold batchB at h
 simp only [List.mem_append, List.mem_flatMap] at h
 rcases h with h | h | h | ⟨o, _, h⟩
 ·exact vputL_lt _ _ h
 ·exact vputL_lt _ _ h
 ·exact vputL_lt _ _ h
 ·exact opB_lt _ _ h

theorem bytesOf {l : List Nat} (h : ∀ x ∈ l, x < 256) : ∃ s : ByteArray, bL s = l := ⟨strB l, bL_strB h⟩

theorem ops_Put (b : EBatch) (h0 : batchCheck b = 0) : ∃ s, bL s = batchB b ∧ F_ops_Put b = some (s, 0) := by
 obtain ⟨c1, c2, c3, c4, c5, cm⟩ := batchCheck_ok h0
 obtain ⟨s, hs⟩ := bytesOf (batchB_lt b)
 have ha := vputL_len b.client.toNat; have hb := vputL_len b.req.toNat; have hc := vputL_len b.ops.length
 obtain ⟨y1, e1, w1⟩ := wW_num (x := default) (z := b.client) Wt.w0 (by omega) (by unfold inI; omega) (by simp)
 obtain ⟨y2, e2, w2⟩ := wW_num (z := b.req) w1 (by omega) (by unfold inI; omega) (by simp only [List.nil_append]; omega)
 obtain ⟨y3, e3, w3⟩ := wW_num (z := (b.ops.length : Int)) w2 (by omega) (by unfold inI; omega) (by simp only [List.nil_append, List.length_append]; omega)
 refine ⟨s, hs, ?_⟩
 unfold F_ops_Put
 rw [ops_Check, h0, Option.bind_some, if_neg (by decide), F_wire_New, Option.bind_some, e1, Option.bind_some, e2, Option.bind_some, e3, Option.bind_some]
 refine wWloop b.ops (by unfold bdM; omega) opB _ _ (fun rc k y hk hy => ?_) (fun rc y hy => ?_) y3 w3
 ·have hm := cm (b.ops.getD k default) (by rw [getD_lt hk]; exact List.getElem_mem hk)
  have hml : ((b.ops.take k).flatMap opB).length ≤ 160 := by
   have := flatB_len opB 40 (b.ops.take k) fun o ho => opB_len (cm o (List.mem_of_mem_take ho))
   rw [List.length_take] at this
   have : min k b.ops.length ≤ 4 := by omega
   omega
  have hkl := textB_len (b.ops.getD k default).key
  obtain ⟨m1, m2⟩ := hm
  obtain ⟨z1, f1, v1⟩ := wW_text (b.ops.getD k default).key hy (by simp only [List.length_append, List.nil_append, toNat_cast]; omega)
  obtain ⟨z2, f2, v2⟩ := wW_flag (b.ops.getD k default).del v1 (by have := hkl; unfold textB at this; simp only [List.length_append, List.nil_append, toNat_cast] at this ⊢; omega)
  obtain ⟨z3, f3, v3⟩ := wW_text (b.ops.getD k default).val v2 (by have := hkl; unfold textB at this; simp only [List.length_append, List.nil_append, toNat_cast, List.length_cons, List.length_nil] at this ⊢; omega)
  refine ⟨z3, ?_, ?_⟩
  ·rw [show opB (b.ops.getD k default) = textB (b.ops.getD k default).key ++ (flagB (b.ops.getD k default).del ++ textB (b.ops.getD k default).val) from rfl, ← List.append_assoc, ← List.append_assoc]; exact v3
  ·simp only [F_ops_Put_l1, decide_eq_true_eq, toNat_cast]
   rw [if_pos (by omega), chk_t (by omega), f1, Option.bind_some, f2, Option.bind_some, f3, Option.bind_some, chk_t (by unfold inI; omega)]
 ·simp only [F_ops_Put_l1, decide_eq_true_eq]
  rw [if_neg (by omega)]
  obtain ⟨t, e4, w4⟩ := wW_done hy
  rw [e4, Option.bind_some]
  have : t = s := bL_inj (by rw [w4, hs, batchB]; simp only [List.append_assoc, List.nil_append, toNat_cast])
  rw [this]

end Go.Proofs.Ythmjkcdpbbcdgaa
