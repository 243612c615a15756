/- Lists of entries: whether they are right, how many have timestamps, the last one; the laws of layer 8. -/
import Derived.Test.YtodgamombdaoiaaYItem1
import Derived.Test.YtodgamombdaoiaaYOpsW
namespace Go.Proofs.Ytodgamombdaoiaa

theorem awake08 : F_law08_awake = some true := by kernel_rfl

theorem pure_ItemReads_k1 (s : ByteArray) (hs : s.size ≤ maxLen) : F_law08_ItemReads_k1 s = some true := by
 unfold F_law08_ItemReads_k1
 have hl : (entryOf s).1.batch.ops.length ≤ bdM := by
  by_cases h : (entryOf s).2 = 0
  ·have := (batchCheck_ok (entryOf_back s hs h).1).2.2.2.2.1; unfold bdM; omega
  ·rw [entryOf_err s h]; exact Nat.zero_le _
 rw [item_Of s hs, ref08_Of s hs, Option.bind_some, Option.bind_some, ref08_Same _ _ hl, sameEntry_self, Option.bind_some, if_neg (by simp), awake08]
 by_cases h : (entryOf s).2 = 0
 ·obtain ⟨h1, h2, h3⟩ := entryOf_back s hs h
  obtain ⟨p, q1, _, q3, q4, _⟩ := entryPut_both (entryOf s).1 h3
  have e : p.1 = s := bL_inj ((q4 h1).trans h2.symm)
  rw [q1, Option.bind_some, e, q3, h1, h, seqB_iff.2 rfl]; rfl
 ·have h3 : inU (entryOf s).1.ts := by rw [entryOf_err s h]; unfold inU; exact ⟨Int.le_refl _, by decide⟩
  obtain ⟨p, q1, _⟩ := entryPut_both (entryOf s).1 h3
  rw [q1, Option.bind_some, bne_iff_ne.2 h]; rfl

theorem pure_ItemReads (a : EEntry) (s : ByteArray) (ha : bdEEntry a) (hs : bdStr s) : F_law08_ItemReads a s = some true := by
 unfold F_law08_ItemReads
 have hs' : s.size ≤ maxLen := Nat.le_trans hs (by unfold bdM maxLen; decide)
 split
 ·rw [awake08]; rfl
 obtain ⟨p, h1, _, h3, h4, _⟩ := entryPut_both a ha.ts
 rw [h1, Option.bind_some, pure_ItemReads_k1 s hs']
 split
 ·rename_i h
  have h0 : batchCheck a.batch = 0 := by rw [← h3]; simpa using h
  have hb := h4 h0
  have hsz : p.1.size ≤ maxLen := by have := entryB_len h0; rw [← hb, bL_len] at this; unfold maxLen; omega
  rw [item_Of _ hsz, Option.bind_some, entryOf_there a p.1 h0 ha.ts hb]
  dsimp only
  rw [show (!((0 : Int) != 0)) = true from rfl, gif_true, ref08_Same a a ha.batch.ops.1, sameEntry_self, Option.bind_some]
  rfl
 ·rfl

-- lists
-- a beginning
end Go.Proofs.Ytodgamombdaoiaa
