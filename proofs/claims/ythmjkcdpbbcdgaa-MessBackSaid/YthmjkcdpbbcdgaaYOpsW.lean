/- Operations and entries: read out of bytes, there and back; the same. -/
import Derived.Test.YthmjkcdpbbcdgaaYOpsV
namespace Go.Proofs.Ythmjkcdpbbcdgaa

def opRd (r : DReaderR) : EOp × DReaderR := (⟨rTextV r 8, rTextV (rFlag (rText r 8)) 8, rFlagV (rText r 8)⟩, rText (rFlag (rText r 8)) 8)

theorem opRd_ok (r : DReaderR) (h : rdOk r) : rdOk (opRd r).2 := rText_ok (rFlag_ok (rText_ok h))

def batchEnd (client req : Int) (l : List EOp) (r : DReaderR) : EBatch × Int :=
 if rEnd r ≠ 0 then (default, rEnd r) else if batchCheck ⟨client, req, l⟩ ≠ 0 then (default, batchCheck ⟨client, req, l⟩) else (⟨client, req, l⟩, 0)

def batchOf (s : ByteArray) : EBatch × Int :=
 batchEnd (rNumV ⟨s, 0, 0⟩ 2) (rNumV (rNum ⟨s, 0, 0⟩ 2) 1073741824) (listRd opRd (rNumV (rNum (rNum ⟨s, 0, 0⟩ 2) 1073741824) 4).toNat (rNum (rNum (rNum ⟨s, 0, 0⟩ 2) 1073741824) 4)).1 (listRd opRd (rNumV (rNum (rNum ⟨s, 0, 0⟩ 2) 1073741824) 4).toNat (rNum (rNum (rNum ⟨s, 0, 0⟩ 2) 1073741824) 4)).2

theorem i8 : inI 8 := by unfold inI; omega

theorem ops_Of_loop (n0 n1 n2 : Int × Ewire_Reader) (n : Nat) (hn : n2.1 = (n : Int)) (hn4 : n ≤ 4) (r : DReaderR) (hr : rdOk r) : iter (F_ops_Of_l1 n0 n1 n2) FU (0, r.s, r.at_, r.e, true, []) = some (batchEnd n0.1 n1.1 (listRd opRd n r).1 (listRd opRd n r).2) := by
 refine wRloop (f := opRd) n (by unfold bdM; omega) (fun l r => some (batchEnd n0.1 n1.1 l r)) opRd_ok (fun rc k r l h1 hk h3 => ?_) r hr
 unfold F_ops_Of_l1
 show (if (decide ((k : Int) < n2.1)) = true then (F_wire_Reader_Text (ofRw r) 8).bind _ else (F_wire_Reader_End (ofRw r)).bind _) = _
 rw [wR_text h1 i8, wR_end h1, Option.bind_some, Option.bind_some, wR_flag (rText_ok h1), Option.bind_some, wR_text (rFlag_ok (rText_ok h1)) i8, Option.bind_some, hn]
 by_cases hk1 : k < n
 ·rw [if_pos (decide_eq_true (by omega)), if_pos hk1, chk_t (by rw [h3]; show ((k + 1 : Nat) : Int) * 40 ≤ _; omega), chk_t (by unfold inI; omega)]; rfl
 ·rw [if_neg (by rw [decide_eq_false (by omega)]; exact Bool.false_ne_true), if_neg hk1]
  unfold batchEnd
  by_cases g1 : rEnd r = 0
  ·rw [g1, if_neg (by decide), ops_Check, Option.bind_some]
   rw [if_neg (show ¬ (0 : Int) ≠ 0 by decide)]
   by_cases g2 : batchCheck ⟨n0.1, n1.1, l⟩ = 0
   ·rw [g2]; rfl
   ·rw [if_pos (bne_iff_ne.2 g2), if_pos g2]
  ·rw [if_pos (bne_iff_ne.2 g1), if_pos g1]

theorem ops_Of (s : ByteArray) (hs : s.size ≤ maxLen) : F_ops_Of s = some (batchOf s) := by
 have k0 := start_ok s hs
 have k1 := rNum_ok (most := 2) k0
 have k2 := rNum_ok (most := 1073741824) k1
 have k3 := rNum_ok (most := 4) k2
 obtain ⟨n, hn⟩ := rNumV_nat (rNum (rNum ⟨s, 0, 0⟩ 2) 1073741824) 4
 have hn4 := (rNumV_le (r := rNum (rNum ⟨s, 0, 0⟩ 2) 1073741824) (most := 4) (by decide)).2
 rw [hn] at hn4
 unfold F_ops_Of
 rw [wR_open s hs, Option.bind_some, wR_num k0 (by unfold inI; omega), Option.bind_some, wR_num k1 (by unfold inI; omega), Option.bind_some, wR_num k2 (by unfold inI; omega), Option.bind_some]
 refine (ops_Of_loop (rNumV ⟨s, 0, 0⟩ 2, ofRw (rNum ⟨s, 0, 0⟩ 2)) (rNumV (rNum ⟨s, 0, 0⟩ 2) 1073741824, ofRw (rNum (rNum ⟨s, 0, 0⟩ 2) 1073741824)) (rNumV (rNum (rNum ⟨s, 0, 0⟩ 2) 1073741824) 4, ofRw (rNum (rNum (rNum ⟨s, 0, 0⟩ 2) 1073741824) 4)) n hn (by omega) _ k3).trans ?_
 unfold batchOf
 rw [hn]; rfl

-- there and back
theorem opRd_there (a : EOp) (r : DReaderR) (q : List Nat) (h : opOk a) (hr : Rd r (opB a ++ q)) : (opRd r).1 = a ∧ Rd (opRd r).2 q := by
 obtain ⟨h1, h2⟩ := h
 have e : opB a ++ q = vputL a.key.size ++ (bL a.key ++ ((if a.del then 1 else 0) :: (vputL a.val.size ++ (bL a.val ++ q)))) := by
  unfold opB textB flagB; simp only [List.append_assoc, List.singleton_append, List.cons_append, List.nil_append]
 rw [e] at hr
 obtain ⟨v1, r1⟩ := hr.text (most := 8) (by omega) (by decide)
 obtain ⟨v2, r2⟩ := r1.flag
 obtain ⟨v3, r3⟩ := r2.text (most := 8) (by omega) (by decide)
 refine ⟨?_, r3⟩
 unfold opRd; rw [v1, v2, v3]

theorem opRd_e0 (r : DReaderR) (h : (opRd r).2.e = 0) : r.e = 0 := rText_e0 (rFlag_e0 (rText_e0 h))

theorem opRd_back (r : DReaderR) (q : List Nat) (hr : Rd r q) (h : (opRd r).2.e = 0) : ∃ q', q = opB (opRd r).1 ++ q' ∧ Rd (opRd r).2 q' ∧ opOk (opRd r).1 := by
 have e2 := rText_e0 h
 have e1 := rFlag_e0 e2
 obtain ⟨q1, a1, a2, a3⟩ := hr.text_back e1
 obtain ⟨q2, b1, b2⟩ := a3.flag_back e2
 obtain ⟨q3, c1, c2, c3⟩ := b2.text_back h
 refine ⟨q3, ?_, c3, by show (rTextV r 8).size ≤ 8; omega, by show (rTextV (rFlag (rText r 8)) 8).size ≤ 8; omega⟩
 rw [a1, b1, c1]
 unfold opB textB flagB opRd; simp only [List.append_assoc, List.singleton_append, List.cons_append, List.nil_append]

theorem batchOf_there (b : EBatch) (s : ByteArray) (h0 : batchCheck b = 0) (hs : bL s = batchB b) : batchOf s = (b, 0) := by
 obtain ⟨c1, c2, c3, c4, c5, cm⟩ := batchCheck_ok h0
 have hsz : s.size ≤ maxLen := by have := batchB_len h0; rw [← hs, bL_len] at this; unfold maxLen; omega
 have h := Rd.start s hsz
 rw [hs, batchB] at h
 obtain ⟨v1, r1⟩ := h.num (most := 2) (by omega) (by decide)
 obtain ⟨v2, r2⟩ := r1.num (most := 1073741824) (by omega) (by decide)
 obtain ⟨v3, r3⟩ := r2.num (most := 4) (by omega) (by decide)
 obtain ⟨v4, r4⟩ := listRd_there (f := opRd) opB opOk opRd_there b.ops _ [] cm (by rw [List.append_nil]; exact r3)
 unfold batchOf
 rw [v3, toNat_cast, v4, v1, v2]
 unfold batchEnd
 have e : (⟨(b.client.toNat : Int), (b.req.toNat : Int), b.ops⟩ : EBatch) = b := by
  obtain ⟨x, y, z⟩ := b
  simp only at c1 c3 ⊢
  rw [Int.toNat_of_nonneg c1, Int.toNat_of_nonneg (by omega)]
 rw [e, r4.end, if_neg (by simp), h0, if_neg (by simp)]

theorem batchOf_back (s : ByteArray) (hs : s.size ≤ maxLen) (h0 : (batchOf s).2 = 0) : batchCheck (batchOf s).1 = 0 ∧ bL s = batchB (batchOf s).1 := by
 unfold batchOf at h0 ⊢
 unfold batchEnd at h0 ⊢
 split at h0; · exact absurd h0 (by assumption)
 split at h0; · exact absurd h0 (by assumption)
 rename_i h1 h2
 rw [if_neg h1, if_neg h2]
 have e4 := rEnd_e (Decidable.not_not.1 h1)
 have e3 := listRd_e0 opRd_e0 _ _ e4
 have e2 := rNum_e0 e3
 have e1 := rNum_e0 e2
 obtain ⟨a, q1, a1, a2, a3, a4⟩ := (Rd.start s hs).num_back e1
 obtain ⟨b, q2, b1, b2, b3, b4⟩ := a4.num_back e2
 obtain ⟨c, q3, c1, c2, c3, c4⟩ := b4.num_back e3
 obtain ⟨q4, d1, d2, d3⟩ := listRd_back opB opOk opRd_e0 opRd_back _ _ _ c4 e4
 have hq : q4 = [] := by
  have := d2.end
  rw [Decidable.not_not.1 h1] at this
  by_cases hq : q4 = []
  ·exact hq
  ·rw [if_neg hq] at this; cases this
 refine ⟨Decidable.not_not.1 h2, ?_⟩
 unfold batchB
 dsimp only
 rw [listRd_len, a1, b1, toNat_cast, toNat_cast, c1, toNat_cast, a3, b3, c3, d1, hq, List.append_nil, c1, toNat_cast]

theorem batchOf_err (s : ByteArray) (h : (batchOf s).2 ≠ 0) : (batchOf s).1 = default := by
 unfold batchOf batchEnd at h ⊢
 split; · rfl
 split; · rfl
 rename_i h1 h2
 rw [if_neg h1, if_neg h2] at h
 exact absurd rfl h

-- the same
theorem eqOps (l1 l2 : List EOp) (hl : l1.length = l2.length) (hb : l1.length ≤ bdM) (body : (Int → Option Bool) → Int → Option Bool)
  (h : ∀ rc (k : Nat), body rc (k : Int) = if k < l1.length then (if (!eqEOp (l1.getD k default) (l2.getD k default)) = true then some false else rc ((k : Int) + 1)) else some true) : iter body FU 0 = some (decide (l1 = l2)) := by
 refine (iter_up l1.length (fun k => some (decide (l1.drop k = l2.drop k))) hb fun rc k hk hrc => ?_).trans (by simp only [List.drop_zero])
 rw [h]
 split
 ·rename_i h1
  rw [drop_cons (d := default) h1, drop_cons (d := default) (l := l2) (by omega)]
  by_cases he : l1.getD k default = l2.getD k default
  ·rw [he, eqEOp_dec, decide_eq_true rfl, if_neg (by decide), hrc h1]
   congr 1
   exact decide_eq_decide.2 ⟨fun e => by rw [e], fun e => (List.cons.inj e).2⟩
  ·rw [eqEOp_dec, decide_eq_false he, if_pos (by decide)]
   congr 1
   exact (decide_eq_false fun e => he (List.cons.inj e).1).symm
 ·rw [List.drop_eq_nil_of_le (by omega), List.drop_eq_nil_of_le (by omega)]; rfl

theorem ref06_SameOps (a b : List EOp) (ha : a.length ≤ bdM) : F_ref06_SameOps a b = some (decide (a = b)) := by
 unfold F_ref06_SameOps
 simp only [bne_iff_ne]
 split
 ·rename_i h; congr 1; exact (decide_eq_false fun e => by rw [e] at h; simp at h).symm
 ·rename_i h
  have h3 : a.length = b.length := by
   have : (a.length : Int) = b.length := Decidable.not_not.1 h
   omega
  refine eqOps a b h3 ha _ fun rc k => ?_
  simp only [F_ref06_SameOps_l1, Bool.and_eq_true, decide_eq_true_eq, toNat_cast]
  by_cases hk : k < a.length
  ·rw [if_pos ⟨by omega, by omega⟩, if_pos hk, chk_t (by omega), chk_t (by omega), chk_t (by unfold inI; unfold bdM at ha; omega)]
  ·rw [if_neg (by omega), if_neg hk]

def sameBatch (a b : EBatch) : Bool := decide (a.client = b.client ∧ a.req = b.req ∧ a.ops = b.ops)

def sameEntry (a b : EEntry) : Bool := decide (a.ts = b.ts ∧ sameBatch a.batch b.batch = true)

theorem sameBatch_self (a : EBatch) : sameBatch a a = true := decide_eq_true ⟨rfl, rfl, rfl⟩

theorem sameEntry_self (a : EEntry) : sameEntry a a = true := decide_eq_true ⟨rfl, sameBatch_self _⟩

theorem ref06_Same (a b : EBatch) (ha : a.ops.length ≤ bdM) : F_ref06_Same a b = some (sameBatch a b) := by
 unfold F_ref06_Same sameBatch
 rw [ref06_SameOps _ _ ha, gif_some, Option.bind_some]
 congr 1
 by_cases h1 : a.client = b.client <;> by_cases h2 : a.req = b.req <;> simp [h1, h2]

theorem ref08_Same (a b : EEntry) (ha : a.batch.ops.length ≤ bdM) : F_ref08_Same a b = some (sameEntry a b) := by
 unfold F_ref08_Same sameEntry
 rw [ref06_Same _ _ ha, gif_some, Option.bind_some]
 congr 1
 by_cases h1 : a.ts = b.ts <;> simp [h1]

-- entries
theorem item_Check (e : EEntry) : F_item_Check e = some (batchCheck e.batch) := by unfold F_item_Check; rw [ops_Check]; rfl

def entryB (e : EEntry) : List Nat := vputL e.ts.toNat ++ (vputL (batchB e.batch).length ++ batchB e.batch)

theorem entryB_len {e : EEntry} (h : batchCheck e.batch = 0) : (entryB e).length ≤ 205 := by
 have := batchB_len h; have := vputL_len e.ts.toNat; have := vputL_len (batchB e.batch).length
 unfold entryB; simp only [List.length_append]; omega

def entryOf (s : ByteArray) : EEntry × Int :=
 if rEnd (rText (rBig ⟨s, 0, 0⟩) 65536) ≠ 0 then (default, rEnd (rText (rBig ⟨s, 0, 0⟩) 65536))
 else if (batchOf (rTextV (rBig ⟨s, 0, 0⟩) 65536)).2 ≠ 0 then (default, (batchOf (rTextV (rBig ⟨s, 0, 0⟩) 65536)).2)
 else (⟨(batchOf (rTextV (rBig ⟨s, 0, 0⟩) 65536)).1, rBigV ⟨s, 0, 0⟩⟩, 0)

theorem rTextV_size (r : DReaderR) (h : rdOk r) (most : Int) : (rTextV r most).size ≤ maxLen := by
 have h1 := (rBig_ok h).2.2.1
 unfold rTextV
 split
 ·exact Nat.zero_le _
 ·rw [ByteArray.size_extract]; omega

theorem item_Of (s : ByteArray) (hs : s.size ≤ maxLen) : F_item_Of s = some (entryOf s) := by
 have k0 := start_ok s hs
 have k1 := rBig_ok k0
 have k2 := rText_ok (most := 65536) k1
 unfold F_item_Of entryOf
 rw [wR_open s hs, Option.bind_some, wR_big k0, Option.bind_some, wR_text k1 (by unfold inI; omega), Option.bind_some, wR_end k2, Option.bind_some, ops_Of _ (rTextV_size _ k1 _), Option.bind_some]
 by_cases h : rEnd (rText (rBig ⟨s, 0, 0⟩) 65536) = 0
 ·rw [h, if_neg (show ¬ ((0 : Int) != 0) = true by decide), if_neg (show ¬ (0 : Int) ≠ 0 by decide)]
  by_cases h2 : (batchOf (rTextV (rBig ⟨s, 0, 0⟩) 65536)).2 = 0
  ·rw [if_neg (by rw [h2]; decide), if_neg (fun x => x h2)]
  ·rw [if_pos (bne_iff_ne.2 h2), if_pos h2]
 ·rw [if_pos (bne_iff_ne.2 h), if_pos h]

theorem entryOf_there (e : EEntry) (s : ByteArray) (h0 : batchCheck e.batch = 0) (ht : inU e.ts) (hs : bL s = entryB e) : entryOf s = (e, 0) := by
 have hsz : s.size ≤ maxLen := by have := entryB_len h0; rw [← hs, bL_len] at this; unfold maxLen; omega
 obtain ⟨t, hb⟩ := bytesOf (batchB_lt e.batch)
 have h := Rd.start s hsz
 have e1 : entryB e = vputL e.ts.toNat ++ (vputL t.size ++ (bL t ++ [])) := by unfold entryB; rw [← hb, bL_len, List.append_nil]
 rw [hs, e1] at h
 unfold inU at ht
 have htl : t.size ≤ 187 := by have := batchB_len h0; rw [← hb, bL_len] at this; exact this
 obtain ⟨v1, r1⟩ := h.big (by omega)
 obtain ⟨v2, r2⟩ := r1.text (most := 65536) (by omega) (by decide)
 unfold entryOf
 rw [r2.end, if_neg (by simp), v2, batchOf_there e.batch t h0 hb, if_neg (by simp), v1]
 obtain ⟨eb, et⟩ := e
 dsimp only at ht ⊢
 rw [Int.toNat_of_nonneg ht.1]

theorem entryOf_back (s : ByteArray) (hs : s.size ≤ maxLen) (h0 : (entryOf s).2 = 0) : batchCheck (entryOf s).1.batch = 0 ∧ bL s = entryB (entryOf s).1 ∧ inU (entryOf s).1.ts := by
 unfold entryOf at h0 ⊢
 split at h0; · exact absurd h0 (by assumption)
 split at h0; · exact absurd h0 (by assumption)
 rename_i h1 h2
 rw [if_neg h1, if_neg h2]
 have k0 := start_ok s hs
 have e2 := rEnd_e (Decidable.not_not.1 h1)
 have e1 := rText_e0 e2
 obtain ⟨q1, a1, a2⟩ := (Rd.start s hs).big_back e1
 obtain ⟨q2, b1, b2, b3⟩ := a2.text_back e2
 obtain ⟨c1, c2⟩ := batchOf_back _ (rTextV_size _ (rBig_ok k0) _) (Decidable.not_not.1 h2)
 have hq : q2 = [] := by
  have := b3.end
  rw [Decidable.not_not.1 h1] at this
  by_cases hq : q2 = []
  ·exact hq
  ·rw [if_neg hq] at this; cases this
 refine ⟨c1, ?_, ?_⟩
 ·unfold entryB
  dsimp only
  rw [← c2, bL_len, toNat_cast, a1, b1, hq, List.append_nil]
 ·have := rBigV_lt ⟨s, 0, 0⟩; unfold inU; dsimp only; omega

theorem entryOf_err (s : ByteArray) (h : (entryOf s).2 ≠ 0) : (entryOf s).1 = default := by
 unfold entryOf at h ⊢
 split; · rfl
 split; · rfl
 rename_i h1 h2
 rw [if_neg h1, if_neg h2] at h
 exact absurd rfl h

end Go.Proofs.Ythmjkcdpbbcdgaa
