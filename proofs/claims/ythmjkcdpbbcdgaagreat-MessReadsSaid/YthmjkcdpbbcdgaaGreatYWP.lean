/- Writers and readers of the program and the document: what their plain functions come to. -/
import Derived.Test.YthmjkcdpbbcdgaaGreatYWire
import Derived.Test.YthmjkcdpbbcdgaaGreatYV
namespace Go.Proofs.YthmjkcdpbbcdgaaGreat

theorem wR_open (s : ByteArray) (h : s.size ≤ maxLen) : F_wire_Open s = some (ofRw ⟨s, 0, 0⟩) := chk_t h

theorem wR_num {r : DReaderR} (h : rdOk r) {most : Int} (hm : inI most) : F_wire_Reader_Num (ofRw r) most = some (rNumV r most, ofRw (rNum r most)) := chk_t ⟨⟨rfl, h⟩, hm⟩

theorem wR_big {r : DReaderR} (h : rdOk r) : F_wire_Reader_Big (ofRw r) = some ((rBigV r : Int), ofRw (rBig r)) := chk_t ⟨rfl, h⟩

theorem wR_text {r : DReaderR} (h : rdOk r) {most : Int} (hm : inI most) : F_wire_Reader_Text (ofRw r) most = some (rTextV r most, ofRw (rText r most)) := chk_t ⟨⟨rfl, h⟩, hm⟩

theorem wR_flag {r : DReaderR} (h : rdOk r) : F_wire_Reader_Flag (ofRw r) = some (rFlagV r, ofRw (rFlag r)) := chk_t ⟨rfl, h⟩

theorem wR_end {r : DReaderR} (h : rdOk r) : F_wire_Reader_End (ofRw r) = some (rEnd r) := chk_t ⟨rfl, h⟩

theorem wR_err {r : DReaderR} : F_wire_Reader_Err (ofRw r) = some r.e := chk_t rfl

theorem r2_num {r : DReaderR} (h : rdOk r) {most : Int} (hm : inI most) : F_ref02_Reader_Num (ofR2 r) most = some (rNumV r most, ofR2 (rNum r most)) := chk_t ⟨h, hm⟩

theorem r2_big {r : DReaderR} (h : rdOk r) : F_ref02_Reader_Big (ofR2 r) = some ((rBigV r : Int), ofR2 (rBig r)) := chk_t h

theorem r2_text {r : DReaderR} (h : rdOk r) {most : Int} (hm : inI most) : F_ref02_Reader_Text (ofR2 r) most = some (rTextV r most, ofR2 (rText r most)) := chk_t ⟨h, hm⟩

theorem r2_flag {r : DReaderR} (h : rdOk r) : F_ref02_Reader_Flag (ofR2 r) = some (rFlagV r, ofR2 (rFlag r)) := chk_t h

theorem r2_end {r : DReaderR} (h : rdOk r) : F_ref02_Reader_End (ofR2 r) = some (rEnd r) := chk_t h

theorem rNumV_nat (r : DReaderR) (most : Int) : ∃ n : Nat, rNumV r most = n := by
 unfold rNumV; split
 ·exact ⟨0, rfl⟩
 ·exact ⟨_, rfl⟩

theorem rNumV_le {r : DReaderR} {most : Int} (hm : 0 ≤ most) : 0 ≤ rNumV r most ∧ rNumV r most ≤ most := by
 by_cases h : (rNum r most).e = 0
 ·obtain ⟨_, _, h2, _, h3⟩ := rNum_of h
  omega
 ·unfold rNumV; rw [if_pos h]; omega

theorem start_ok (s : ByteArray) (h : s.size ≤ maxLen) : rdOk ⟨s, 0, 0⟩ := ⟨Int.le_refl _, Int.natCast_nonneg _, h, Int.le_refl _, by show (0 : Int) ≤ 21; decide⟩

-- loops that read and write lists
def listRd {α : Type} (f : DReaderR → α × DReaderR) : Nat → DReaderR → List α × DReaderR
 | 0, r => ([], r)
 | k + 1, r => ((f r).1 :: (listRd f k (f r).2).1, (listRd f k (f r).2).2)

section lists
variable {α R : Type} {f : DReaderR → α × DReaderR}
theorem listRd_len : ∀ (n : Nat) (r : DReaderR), (listRd f n r).1.length = n
 | 0, _ => rfl
 | n + 1, r => by simp [listRd, listRd_len n]

theorem listRd_e0 (hf : ∀ r, (f r).2.e = 0 → r.e = 0) : ∀ (n : Nat) (r : DReaderR), (listRd f n r).2.e = 0 → r.e = 0
 | 0, _, h => h
 | n + 1, r, h => hf r (listRd_e0 hf n _ h)

theorem listRd_back (B : α → List Nat) (ok : α → Prop) (h0 : ∀ r, (f r).2.e = 0 → r.e = 0) (hf : ∀ r q, Rd r q → (f r).2.e = 0 → ∃ q', q = B (f r).1 ++ q' ∧ Rd (f r).2 q' ∧ ok (f r).1) : ∀ (n : Nat) (r : DReaderR) (q : List Nat), Rd r q → (listRd f n r).2.e = 0 → ∃ q', q = (listRd f n r).1.flatMap B ++ q' ∧ Rd (listRd f n r).2 q' ∧ ∀ a ∈ (listRd f n r).1, ok a
 | 0, r, q, h, _ => ⟨q, rfl, h, fun a ha => (by cases ha)⟩
 | n + 1, r, q, h, he => by
  obtain ⟨q1, h1, h2, h3⟩ := hf r q h (listRd_e0 h0 n _ he)
  obtain ⟨q2, h4, h5, h6⟩ := listRd_back B ok h0 hf n _ q1 h2 he
  refine ⟨q2, ?_, h5, fun a ha => ?_⟩
  ·show q = ((f r).1 :: (listRd f n (f r).2).1).flatMap B ++ q2
   rw [List.flatMap_cons, List.append_assoc, ← h4]; exact h1
  ·rcases List.mem_cons.1 (show a ∈ (f r).1 :: (listRd f n (f r).2).1 from ha) with rfl | ha
   ·exact h3
   ·exact h6 a ha

theorem wRloop {body : (Int × ByteArray × Int × Int × Bool × List α → Option R) → Int × ByteArray × Int × Int × Bool × List α → Option R} (n : Nat) (hn : n ≤ bdM) (fin : List α → DReaderR → Option R) (hok : ∀ r, rdOk r → rdOk (f r).2)
  (h : ∀ rc (k : Nat) (r : DReaderR) (l : List α), rdOk r → k ≤ n → l.length = k → body rc ((k : Int), r.s, r.at_, r.e, true, l) = if k < n then rc ((k : Int) + 1, (f r).2.s, (f r).2.at_, (f r).2.e, true, l ++ [(f r).1]) else fin l r)
  (r : DReaderR) (hr : rdOk r) : iter body FU (0, r.s, r.at_, r.e, true, []) = fin (listRd f n r).1 (listRd f n r).2 := by
 refine (iter_up2 (σ := ByteArray × Int × Int × Bool × List α) n (fun k st => fin (st.2.2.2.2 ++ (listRd f (n - k) ⟨st.1, st.2.1, st.2.2.1⟩).1) (listRd f (n - k) ⟨st.1, st.2.1, st.2.2.1⟩).2) (fun k st => rdOk ⟨st.1, st.2.1, st.2.2.1⟩ ∧ st.2.2.2.1 = true ∧ st.2.2.2.2.length = k) hn (s0 := (r.s, r.at_, r.e, true, [])) ⟨hr, rfl, rfl⟩ fun rc k st hk hp hrc => ?_).trans (by rw [List.nil_append, Nat.sub_zero])
 obtain ⟨t, a, e, md, l⟩ := st
 obtain ⟨h1, h2, h3⟩ := hp
 change md = true at h2
 subst h2
 refine (h rc k ⟨t, a, e⟩ l h1 hk h3).trans ?_
 by_cases hk1 : k < n
 ·rw [if_pos hk1]
  refine (hrc ((f ⟨t, a, e⟩).2.s, (f ⟨t, a, e⟩).2.at_, (f ⟨t, a, e⟩).2.e, true, l ++ [(f ⟨t, a, e⟩).1]) hk1 ⟨hok _ h1, rfl, by rw [List.length_append]; show l.length + 1 = _; rw [show l.length = k from h3]⟩).trans ?_
  rw [show n - k = (n - (k + 1)) + 1 by omega]
  show fin ((l ++ _) ++ _) _ = fin (l ++ (_ :: _)) _
  rw [List.append_assoc]; rfl
 ·rw [if_neg hk1, show n - k = 0 by omega]
  show _ = fin (l ++ []) ⟨t, a, e⟩
  rw [List.append_nil]

theorem r2loop {body : (Int × ByteArray × Int × Int × List α → Option R) → Int × ByteArray × Int × Int × List α → Option R} (n : Nat) (hn : n ≤ bdM) (fin : List α → DReaderR → Option R) (hok : ∀ r, rdOk r → rdOk (f r).2)
  (h : ∀ rc (k : Nat) (r : DReaderR) (l : List α), rdOk r → k ≤ n → l.length = k → body rc ((k : Int), r.s, r.at_, r.e, l) = if k < n then rc ((k : Int) + 1, (f r).2.s, (f r).2.at_, (f r).2.e, l ++ [(f r).1]) else fin l r)
  (r : DReaderR) (hr : rdOk r) : iter body FU (0, r.s, r.at_, r.e, []) = fin (listRd f n r).1 (listRd f n r).2 := by
 refine (iter_up2 (σ := ByteArray × Int × Int × List α) n (fun k st => fin (st.2.2.2 ++ (listRd f (n - k) ⟨st.1, st.2.1, st.2.2.1⟩).1) (listRd f (n - k) ⟨st.1, st.2.1, st.2.2.1⟩).2) (fun k st => rdOk ⟨st.1, st.2.1, st.2.2.1⟩ ∧ st.2.2.2.length = k) hn (s0 := (r.s, r.at_, r.e, [])) ⟨hr, rfl⟩ fun rc k st hk hp hrc => ?_).trans (by rw [List.nil_append, Nat.sub_zero])
 obtain ⟨t, a, e, l⟩ := st
 obtain ⟨h1, h3⟩ := hp
 refine (h rc k ⟨t, a, e⟩ l h1 hk h3).trans ?_
 by_cases hk1 : k < n
 ·rw [if_pos hk1]
  refine (hrc ((f ⟨t, a, e⟩).2.s, (f ⟨t, a, e⟩).2.at_, (f ⟨t, a, e⟩).2.e, l ++ [(f ⟨t, a, e⟩).1]) hk1 ⟨hok _ h1, by rw [List.length_append]; show l.length + 1 = _; rw [show l.length = k from h3]⟩).trans ?_
  rw [show n - k = (n - (k + 1)) + 1 by omega]
  show fin ((l ++ _) ++ _) _ = fin (l ++ (_ :: _)) _
  rw [List.append_assoc]; rfl
 ·rw [if_neg hk1, show n - k = 0 by omega]
  show _ = fin (l ++ []) ⟨t, a, e⟩
  rw [List.append_nil]

end lists
theorem rText_ok {r : DReaderR} {most : Int} (h : rdOk r) : rdOk (rText r most) := by
 have h1 := rBig_ok h
 unfold rText
 split; · exact h1
 split; · exact ⟨h1.1, h1.2.1, h1.2.2.1, (by decide : (0 : Int) ≤ 3), (by decide : (3 : Int) ≤ 21)⟩
 split; · exact ⟨h1.1, h1.2.1, h1.2.2.1, (by decide : (0 : Int) ≤ 2), (by decide : (2 : Int) ≤ 21)⟩
 obtain ⟨a, b, c, d, e⟩ := h1
 exact ⟨by show 0 ≤ (rBig r).at_ + (rBigV r : Int); omega, by show (rBig r).at_ + (rBigV r : Int) ≤ ((rBig r).s.size : Int); omega, c, d, e⟩

theorem rFlag_ok {r : DReaderR} (h : rdOk r) : rdOk (rFlag r) := by
 obtain ⟨a, b, c, d, e⟩ := h
 unfold rFlag
 split; · exact ⟨a, b, c, d, e⟩
 split; · exact ⟨a, b, c, (by decide : (0 : Int) ≤ 2), (by decide : (2 : Int) ≤ 21)⟩
 split; · exact ⟨a, b, c, (by decide : (0 : Int) ≤ 4), (by decide : (4 : Int) ≤ 21)⟩
 exact ⟨by show 0 ≤ r.at_ + 1; omega, by show r.at_ + 1 ≤ (r.s.size : Int); omega, c, d, e⟩

end Go.Proofs.YthmjkcdpbbcdgaaGreat
