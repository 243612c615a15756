/- Operations: what is wrong with them. -/
import Derived.Test.YtglfajjcgbfehaaGreatYMv2
import Derived.Test.YtglfajjcgbfehaaGreatYRi
import Derived.Test.YtglfajjcgbfehaaGreatYO
import Derived.Test.YtglfajjcgbfehaaGreatYP
namespace Go.Proofs.YtglfajjcgbfehaaGreat
instance : DecidableEq EOp := fun _ _ => decidable_of_iff _ eqEOp_iff

theorem seqB_size0 (s : ByteArray) : seqB s ⟨#[]⟩ = decide (s.size = 0) := by
 by_cases h : s.size = 0
 ·have : s = ⟨#[]⟩ := by cases s with | mk d => (cases Array.eq_empty_of_size_eq_zero h; rfl)
  rw [decide_eq_true h]; exact seqB_iff.2 this
 ·rw [decide_eq_false h, Bool.eq_false_iff]; exact fun e => h (by rw [seqB_iff.1 e]; rfl)

/-- a loop that counts up to n and carries a state ahead of the count -/
theorem iter_up3 {σ R : Type} {body : (σ × Int → Option R) → σ × Int → Option R} (n : Nat) (out : Nat → σ → Option R) (P : Nat → σ → Prop) (hn : n ≤ bdM) {s0 : σ} (h0 : P 0 s0)
  (h : ∀ (rc : σ × Int → Option R) (k : Nat) (s : σ), k ≤ n → P k s → (∀ s', k < n → P (k + 1) s' → rc (s', (k : Int) + 1) = out (k + 1) s') → body rc (s, (k : Int)) = out k s) : iter body FU (s0, 0) = out 0 s0 := by
 have := iter_rule (body := body) (fun s => n - s.2.toNat) (fun s => out s.2.toNat s.1) (fun s => 0 ≤ s.2 ∧ s.2 ≤ n ∧ P s.2.toNat s.1) (fun rc ⟨s, i⟩ ⟨h1, h2, h3⟩ hrc => by
  simp only at h1 h2 h3 hrc ⊢
  obtain ⟨k, rfl⟩ := Int.eq_ofNat_of_zero_le h1
  rw [Int.toNat_natCast] at h3 ⊢
  refine h rc k s (by omega) h3 fun s' hk hp => ?_
  have e : ((k : Int) + 1).toNat = k + 1 := by omega
  have := hrc (s', (k : Int) + 1) ⟨by omega, by omega, by simp only [e]; exact hp⟩ (by simp only [Int.toNat_natCast]; omega)
  rw [this]; simp only [e]) FU (s0, 0) ⟨by simp, by simp, h0⟩ (by unfold FU; unfold bdM at hn; simp only; omega)
 simpa using this

-- what is wrong
def notBehind (a : Option ByteArray) (k : ByteArray) : Bool := match a with | none => false | some a => !sltB a k

def opsChk : Option ByteArray → List EOp → Int
 | _, [] => 0
 | a, o :: r => if o.key.size < 1 ∨ o.key.size > 8 then 10 else if o.val.size > 8 then 3 else if (o.del && !decide (o.val.size = 0)) = true then 4 else if notBehind a o.key = true then 18 else opsChk (some o.key) r

theorem opsChk_cons (a : Option ByteArray) (o : EOp) (r : List EOp) : opsChk a (o :: r) = if o.key.size < 1 ∨ o.key.size > 8 then 10 else if o.val.size > 8 then 3 else if (o.del && !decide (o.val.size = 0)) = true then 4 else if notBehind a o.key = true then 18 else opsChk (some o.key) r := rfl

def batchCheck (b : EBatch) : Int := if b.client < 0 ∨ b.client ≥ 3 then 1 else if b.req < 1 ∨ b.req > 1073741824 then 5 else if b.ops.length > 4 then 6 else opsChk none b.ops

theorem keys_Check (k : ByteArray) : F_keys_Check k = some (if k.size < 1 ∨ k.size > 8 then 10 else 0) := by
 unfold F_keys_Check
 rw [seqB_size0]
 simp only [Bool.or_eq_true, decide_eq_true_eq]
 by_cases h : k.size < 1 ∨ k.size > 8
 ·rw [if_pos (by omega), if_pos h]
 ·rw [if_neg (by omega), if_neg h]

theorem ref05_Check (k : ByteArray) : F_ref05_Check k = some (if k.size < 1 ∨ k.size > 8 then 10 else 0) := by
 unfold F_ref05_Check
 simp only [Bool.or_eq_true, decide_eq_true_eq]
 by_cases h : k.size < 1 ∨ k.size > 8
 ·rw [if_pos (by omega), if_pos h]
 ·rw [if_neg (by omega), if_neg h]

def aheadOf (l : List EOp) (k : Nat) : Option ByteArray := if k = 0 then none else some (l.getD (k - 1) default).key

theorem ref06_Check_l1 (b : EBatch) (hl : b.ops.length ≤ 4) (rc : Int → Option Int) (k : Nat) (hk : k ≤ b.ops.length) (hrc : k < b.ops.length → rc ((k : Int) + 1) = some (opsChk (aheadOf b.ops (k + 1)) (b.ops.drop (k + 1)))) : F_ref06_Check_l1 b rc (k : Int) = some (opsChk (aheadOf b.ops k) (b.ops.drop k)) := by
 unfold F_ref06_Check_l1
 dsimp only
 rw [toNat_cast]
 by_cases hk' : k < b.ops.length
 ·rw [if_pos (decide_eq_true (by omega)), chk_t (by omega), drop_cons (d := default) hk', opsChk_cons, ref05_Check, Option.bind_some, seqB_size0]
  generalize ho : b.ops.getD k default = o at *
  by_cases c1 : o.key.size < 1 ∨ o.key.size > 8
  ·rw [if_pos c1, if_pos c1]; rfl
  rw [if_neg c1, if_neg c1, if_neg (by decide)]
  by_cases c2 : o.val.size > 8
  ·rw [if_pos (decide_eq_true (by omega)), if_pos c2]
  rw [if_neg (by rw [decide_eq_false (by omega)]; decide), if_neg c2]
  by_cases c3 : (o.del && !decide (o.val.size = 0)) = true
  ·rw [if_pos c3, if_pos c3]
  rw [if_neg c3, if_neg c3, chk_t (fun _ => by unfold inI; omega), chk_t (fun h => by have := of_decide_eq_true h; omega)]
  have e : ((decide ((k : Int) > 0)) && (!sltB (b.ops.getD ((k : Int) - 1).toNat default).key o.key)) = notBehind (aheadOf b.ops k) o.key := by
   unfold aheadOf
   by_cases hk0 : k = 0
   ·subst hk0; rfl
   ·rw [if_neg hk0, decide_eq_true (by omega : (k : Int) > 0), show ((k : Int) - 1).toNat = k - 1 by omega]; rfl
  rw [e]
  by_cases c4 : notBehind (aheadOf b.ops k) o.key = true
  ·rw [if_pos c4, if_pos c4]
  rw [if_neg c4, if_neg c4, chk_t (by unfold inI; omega), hrc hk']
  unfold aheadOf
  rw [if_neg (by omega), Nat.add_sub_cancel, ho]
 ·rw [if_neg (by rw [decide_eq_false (by omega)]; decide), List.drop_eq_nil_of_le (by omega)]; rfl

theorem ref06_Check (b : EBatch) : F_ref06_Check b = some (batchCheck b) := by
 unfold F_ref06_Check batchCheck
 simp only [Bool.or_eq_true, decide_eq_true_eq]
 split; · rfl
 split; · rfl
 by_cases hl : b.ops.length > 4
 ·rw [if_pos (by omega), if_pos hl]
 ·rw [if_neg (by omega), if_neg hl]
  exact (iter_up b.ops.length (fun k => some (opsChk (aheadOf b.ops k) (b.ops.drop k))) (by unfold bdM; omega) fun rc k hk hrc => ref06_Check_l1 b (by omega) rc k hk hrc).trans rfl

theorem ops_Check_l1 (b : EBatch) (hl : b.ops.length ≤ 4) (rc : ByteArray × Int → Option Int) (k : Nat) (a : ByteArray) (hk : k ≤ b.ops.length) (ha : k ≠ 0 → aheadOf b.ops k = some a) (hrc : ∀ a', k < b.ops.length → aheadOf b.ops (k + 1) = some a' → rc (a', (k : Int) + 1) = some (opsChk (aheadOf b.ops (k + 1)) (b.ops.drop (k + 1)))) : F_ops_Check_l1 b rc (a, (k : Int)) = some (opsChk (aheadOf b.ops k) (b.ops.drop k)) := by
 simp only [F_ops_Check_l1, decide_eq_true_eq, toNat_cast]
 split
 ·rename_i h
  have hk' : k < b.ops.length := by omega
  rw [chk_t (by omega), drop_cons (d := default) hk', opsChk_cons]
  have ho1 : aheadOf b.ops (k + 1) = some (b.ops.getD k default).key := by unfold aheadOf; rw [if_neg (by omega), Nat.add_sub_cancel]
  generalize b.ops.getD k default = o at *
  unfold F_ops_one
  rw [keys_Check, Option.bind_some, seqB_size0]
  by_cases c1 : o.key.size < 1 ∨ o.key.size > 8
  ·rw [if_pos c1, if_pos c1]; rfl
  rw [if_neg c1, if_neg c1, if_neg (by decide)]
  by_cases c2 : o.val.size > 8
  ·rw [if_pos (decide_eq_true (by omega)), if_pos c2]; rfl
  rw [if_neg (by rw [decide_eq_false (by omega)]; decide), if_neg c2]
  by_cases c3 : (o.del && !decide (o.val.size = 0)) = true
  ·rw [if_pos c3, if_pos c3]; rfl
  rw [if_neg c3, if_neg c3]
  have e : (!((k : Int) == 0) && (!sltB a o.key)) = notBehind (aheadOf b.ops k) o.key := by
   by_cases hk0 : k = 0
   ·subst hk0; rfl
   ·rw [ha hk0, show ((k : Int) == 0) = false from by rw [beq_eq_false_iff_ne]; omega]; rfl
  rw [e]
  by_cases c4 : notBehind (aheadOf b.ops k) o.key = true
  ·rw [if_pos c4, if_pos c4]; rfl
  rw [if_neg c4, if_neg c4, Option.bind_some, if_neg (by decide), chk_t (by unfold inI; omega), hrc _ hk' ho1, ho1]
 ·rw [List.drop_eq_nil_of_le (by omega)]; rfl

theorem ops_Check (b : EBatch) : F_ops_Check b = some (batchCheck b) := by
 unfold F_ops_Check batchCheck
 simp only [Bool.or_eq_true, decide_eq_true_eq]
 split; · rfl
 split; · rfl
 by_cases hl : b.ops.length > 4
 ·rw [if_pos (by omega), if_pos hl]
 ·rw [if_neg (by omega), if_neg hl]
  exact (iter_up3 (σ := ByteArray) b.ops.length (fun k _ => some (opsChk (aheadOf b.ops k) (b.ops.drop k))) (fun k a => k ≠ 0 → aheadOf b.ops k = some a) (by unfold bdM; omega) (fun h => absurd rfl h) fun rc k a hk ha hrc => ops_Check_l1 b (by omega) rc k a hk ha fun a' h1 h2 => hrc a' h1 fun _ => h2).trans rfl

def opOk (o : EOp) : Prop := o.key.size ≤ 8 ∧ o.val.size ≤ 8

theorem opsChk_ok : ∀ (l : List EOp) (a : Option ByteArray), opsChk a l = 0 → ∀ o ∈ l, opOk o
 | [], _, _, o, h => by cases h
 | x :: r, a, h, o, ho => by
  rw [opsChk_cons] at h
  split at h; · cases h
  split at h; · cases h
  by_cases c3 : (x.del && !decide (x.val.size = 0)) = true
  ·rw [if_pos c3] at h; cases h
  rw [if_neg c3] at h
  by_cases c4 : notBehind a x.key = true
  ·rw [if_pos c4] at h; cases h
  rw [if_neg c4] at h
  rcases List.mem_cons.1 ho with rfl | ho
  ·exact ⟨by omega, by omega⟩
  ·exact opsChk_ok r _ h o ho

theorem batchCheck_ok {b : EBatch} (h : batchCheck b = 0) : 0 ≤ b.client ∧ b.client < 3 ∧ 1 ≤ b.req ∧ b.req ≤ 1073741824 ∧ b.ops.length ≤ 4 ∧ ∀ o ∈ b.ops, opOk o := by
 unfold batchCheck at h
 split at h; · cases h
 split at h; · cases h
 split at h; · cases h
 exact ⟨by omega, by omega, by omega, by omega, by omega, opsChk_ok _ _ h⟩

end Go.Proofs.YtglfajjcgbfehaaGreat
