/- NoteReads: the plain law. -/
import Derived.Test.YtbfglbbbkcpgeaaYNoteX
namespace Go.Proofs.Ytbfglbbbkcpgeaa

def lens (n : ENote) : Prop := n.conf.members.length ≤ bdM ∧ n.legit.length ≤ bdM ∧ n.entry.batch.ops.length ≤ bdM

theorem lens_base (k : Int) : lens (base k) := ⟨Nat.zero_le _, Nat.zero_le _, Nat.zero_le _⟩

theorem confOf_len2 (s : ByteArray) (hs : s.size ≤ maxLen) : (confOf s).1.members.length ≤ bdM := by
 by_cases h : (confOf s).2 = 0
 ·have := (confCheck_ok (confOf_back s hs h).1).2.2.2.1; unfold bdM; omega
 ·rw [confOf_err s h]; exact Nat.zero_le _

theorem entryOf_len2 (s : ByteArray) (hs : s.size ≤ maxLen) : (entryOf s).1.batch.ops.length ≤ bdM := by
 by_cases h : (entryOf s).2 = 0
 ·have := (batchCheck_ok (entryOf_back s hs h).1).2.2.2.2.1; unfold bdM; omega
 ·rw [entryOf_err s h]; exact Nat.zero_le _

theorem noteRd_len (k : Int) (r : DReaderR) (hr : rdOk r) : lens (noteRd k r).2.2 := by
 have n4 := rNumV_le (r := rText r 65536) (most := 4) (by decide)
 unfold noteRd noteRd1 noteRd2 noteRd3 noteRd4 noteRd5 noteRd6 noteRd8
 (repeat' split)
 ·exact lens_base k
 ·exact ⟨confOf_len2 _ (rTextV_size _ hr _), Nat.zero_le _, Nat.zero_le _⟩
 ·refine ⟨confOf_len2 _ (rTextV_size _ hr _), ?_, Nat.zero_le _⟩
  show (listRd idRd _ _).1.length ≤ bdM
  rw [listRd_len]; unfold bdM; omega
 ·exact ⟨Nat.zero_le _, Nat.zero_le _, Nat.zero_le _⟩
 ·exact ⟨Nat.zero_le _, Nat.zero_le _, entryOf_len2 _ (rTextV_size _ (rNum_ok hr) _)⟩
 ·exact ⟨Nat.zero_le _, Nat.zero_le _, Nat.zero_le _⟩
 ·exact ⟨Nat.zero_le _, Nat.zero_le _, Nat.zero_le _⟩
 ·exact ⟨Nat.zero_le _, Nat.zero_le _, Nat.zero_le _⟩
 ·exact ⟨Nat.zero_le _, Nat.zero_le _, Nat.zero_le _⟩
 ·exact ⟨Nat.zero_le _, Nat.zero_le _, Nat.zero_le _⟩
 ·exact lens_base k

theorem noteFin_len (x : Int × DReaderR × ENote) (h : lens x.2.2) : lens (noteFin x).1 := by
 unfold noteFin noteEnd
 (repeat' split)
 ·exact lens_base 0
 ·exact lens_base 0
 ·exact lens_base 0
 ·exact h

theorem noteOf_len (s : ByteArray) (hs : s.size ≤ maxLen) : lens (noteOf s).1 := by
 unfold noteOf
 split
 ·exact lens_base 0
 ·exact noteFin_len _ (noteRd_len _ _ (rNum_ok (start_ok s hs)))

theorem pure_NoteReads (s : ByteArray) (hs : bdStr s) : F_law10_NoteReads s = some true := by
 have hm : s.size ≤ maxLen := by unfold bdStr bdM at hs; unfold maxLen; omega
 obtain ⟨l1, l2, l3⟩ := noteOf_len s hm
 unfold F_law10_NoteReads
 rw [note_Of s hm, ref10_Of s hm, Option.bind_some, Option.bind_some, ref10_Same _ _ l1 l2 l3, Option.bind_some, sameNote_self, awake10]
 split
 ·rfl
 ·simp; rfl

end Go.Proofs.Ytbfglbbbkcpgeaa
