/- Operations and entries: read out of bytes, there and back; the same. -/
import Derived.Test.YthmjkcdpbbcdgaaGreatYOpsV
namespace Go.Proofs.YthmjkcdpbbcdgaaGreat

-- there and back
-- the same
theorem eqOps (l1 l2 : List EOp) (hl : l1.length = l2.length) (hb : l1.length ≤ bdM) (body : (Int → Option Bool) → Int → Option Bool)
  (h : ∀ rc (k : Nat), body rc (k : Int) = if k < l1.length then (if (!eqEOp (l1.getD k default) (l2.getD k default)) = true then some false else rc ((k : Int) + 1)) else some true) : iter body FU 0 = some (decide (l1 = l2)) := by
 refine (iter_up l1.length (fun k => some (decide (l1.drop k = l2.drop k))) hb fun rc k hk hrc => ?_).trans (by simp only [List.drop_zero])
 rw [h]
 split
 ·rename_i h1
  rw [drop_cons (d := default) h1, drop_cons (d := default) (l := l2) (by omega)]
  by_cases he : l1.getD k default = l2.getD k default
  ·rw [he, eqEOp_dec, decide_eq_true rfl, if_neg (by decide), hrc h1]
   congr 1
   exact decide_eq_decide.2 ⟨fun e => by rw [e], fun e => (List.cons.inj e).2⟩
  ·rw [eqEOp_dec, decide_eq_false he, if_pos (by decide)]
   congr 1
   exact (decide_eq_false fun e => he (List.cons.inj e).1).symm
 ·rw [List.drop_eq_nil_of_le (by omega), List.drop_eq_nil_of_le (by omega)]; rfl

theorem ref06_SameOps (a b : List EOp) (ha : a.length ≤ bdM) : F_ref06_SameOps a b = some (decide (a = b)) := by
 unfold F_ref06_SameOps
 simp only [bne_iff_ne]
 split
 ·rename_i h; congr 1; exact (decide_eq_false fun e => by rw [e] at h; simp at h).symm
 ·rename_i h
  have h3 : a.length = b.length := by
   have : (a.length : Int) = b.length := Decidable.not_not.1 h
   omega
  refine eqOps a b h3 ha _ fun rc k => ?_
  simp only [F_ref06_SameOps_l1, Bool.and_eq_true, decide_eq_true_eq, toNat_cast]
  by_cases hk : k < a.length
  ·rw [if_pos ⟨by omega, by omega⟩, if_pos hk, chk_t (by omega), chk_t (by omega), chk_t (by unfold inI; unfold bdM at ha; omega)]
  ·rw [if_neg (by omega), if_neg hk]

theorem slices_EqOps (a b : List EOp) (ha : a.length ≤ bdM) : F_slices_Equal_api_Op_api_Op a b = some (decide (a = b)) := by
 unfold F_slices_Equal_api_Op_api_Op
 simp only [bne_iff_ne]
 split
 ·rename_i h; congr 1; exact (decide_eq_false fun e => by rw [e] at h; simp at h).symm
 ·rename_i h
  have h3 : a.length = b.length := by
   have : (a.length : Int) = b.length := Decidable.not_not.1 h
   omega
  refine eqOps a b h3 ha _ fun rc k => ?_
  simp only [F_slices_Equal_api_Op_api_Op_l1, decide_eq_true_eq, toNat_cast]
  by_cases hk : k < a.length
  ·rw [if_pos (by omega), if_pos hk, chk_t (by omega), chk_t (by omega), chk_t (by unfold inI; unfold bdM at ha; omega)]
  ·rw [if_neg (by omega), if_neg hk]

def sameBatch (a b : EBatch) : Bool := decide (a.client = b.client ∧ a.req = b.req ∧ a.ops = b.ops)

def sameEntry (a b : EEntry) : Bool := decide (a.ts = b.ts ∧ sameBatch a.batch b.batch = true)

theorem sameBatch_self (a : EBatch) : sameBatch a a = true := decide_eq_true ⟨rfl, rfl, rfl⟩

theorem sameEntry_self (a : EEntry) : sameEntry a a = true := decide_eq_true ⟨rfl, sameBatch_self _⟩

theorem ref06_Same (a b : EBatch) (ha : a.ops.length ≤ bdM) : F_ref06_Same a b = some (sameBatch a b) := by
 unfold F_ref06_Same sameBatch
 rw [ref06_SameOps _ _ ha, gif_some, Option.bind_some]
 congr 1
 by_cases h1 : a.client = b.client <;> by_cases h2 : a.req = b.req <;> simp [h1, h2]

theorem ops_Same (a b : EBatch) (ha : a.ops.length ≤ bdM) : F_ops_Same a b = some (sameBatch a b) := by
 unfold F_ops_Same sameBatch
 rw [slices_EqOps _ _ ha, gif_some, Option.bind_some]
 congr 1
 by_cases h1 : a.client = b.client <;> by_cases h2 : a.req = b.req <;> simp [h1, h2]

theorem ref08_Same (a b : EEntry) (ha : a.batch.ops.length ≤ bdM) : F_ref08_Same a b = some (sameEntry a b) := by
 unfold F_ref08_Same sameEntry
 rw [ref06_Same _ _ ha, gif_some, Option.bind_some]
 congr 1
 by_cases h1 : a.ts = b.ts <;> simp [h1]

theorem item_Same (a b : EEntry) (ha : a.batch.ops.length ≤ bdM) : F_item_Same a b = some (sameEntry a b) := by
 unfold F_item_Same sameEntry
 rw [ops_Same _ _ ha, gif_some, Option.bind_some]
 congr 1
 by_cases h1 : a.ts = b.ts <;> simp [h1]

-- entries
theorem item_Check (e : EEntry) : F_item_Check e = some (batchCheck e.batch) := by unfold F_item_Check; rw [ops_Check]; rfl

theorem ref08_Check (e : EEntry) : F_ref08_Check e = some (batchCheck e.batch) := by unfold F_ref08_Check; rw [ref06_Check]; rfl

def entryB (e : EEntry) : List Nat := vputL e.ts.toNat ++ (vputL (batchB e.batch).length ++ batchB e.batch)

theorem entryB_len {e : EEntry} (h : batchCheck e.batch = 0) : (entryB e).length ≤ 205 := by
 have := batchB_len h; have := vputL_len e.ts.toNat; have := vputL_len (batchB e.batch).length
 unfold entryB; simp only [List.length_append]; omega

theorem entryPut_both (e : EEntry) (ht : inU e.ts) : ∃ p, F_item_Put e = some p ∧ F_ref08_Put e = some p ∧ p.2 = batchCheck e.batch ∧ (batchCheck e.batch = 0 → bL p.1 = entryB e) ∧ (batchCheck e.batch ≠ 0 → p.1 = ⟨#[]⟩) := by
 obtain ⟨p, h1, h2, h3, h4, h5⟩ := opsPut_both e.batch
 unfold F_item_Put F_ref08_Put
 rw [h1, Option.bind_some, h2, Option.bind_some]
 by_cases h : batchCheck e.batch = 0
 ·have hn : ¬ (p.2 != 0) = true := by rw [h3, h]; decide
  rw [if_neg hn, if_neg hn, F_wire_New, Option.bind_some]
  have hb := h4 h
  have hsz : p.1.size ≤ 187 := by have := batchB_len h; rw [← hb, bL_len] at this; exact this
  have hv := vputL_len e.ts.toNat
  obtain ⟨y1, e1, w1⟩ := wW_big (x := default) (z := e.ts) Wt.w0 ht (by simp)
  obtain ⟨y2, e2, w2⟩ := wW_text p.1 w1 (by simp only [List.nil_append]; omega)
  obtain ⟨t, e3, w3⟩ := wW_done w2
  obtain ⟨z1, f1, v1⟩ := w2_big (x := default) (z := e.ts) Wt.r0 ht (by simp)
  obtain ⟨z2, f2, v2⟩ := w2_text p.1 v1 (by simp only [List.nil_append]; omega)
  obtain ⟨u, f3, v3⟩ := w2_done v2
  rw [e1, Option.bind_some, e2, Option.bind_some, e3, Option.bind_some, f1, Option.bind_some, f2, Option.bind_some, f3]
  have : u = t := bL_inj (v3.trans w3.symm)
  subst this
  refine ⟨(u, 0), rfl, rfl, h.symm, fun _ => ?_, fun x => absurd h x⟩
  show bL u = _
  rw [w3, entryB, ← hb, bL_len]; rfl
 ·have hn : (p.2 != 0) = true := by rw [h3]; exact bne_iff_ne.2 h
  rw [if_pos hn, if_pos hn, h3]
  exact ⟨_, rfl, rfl, rfl, fun x => absurd x h, fun _ => rfl⟩

end Go.Proofs.YthmjkcdpbbcdgaaGreat
