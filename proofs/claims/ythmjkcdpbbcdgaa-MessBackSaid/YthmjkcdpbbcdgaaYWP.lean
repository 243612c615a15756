/- Writers and readers of the program and the document: what their plain functions come to. -/
import Derived.Test.YthmjkcdpbbcdgaaYWire
import Derived.Test.YthmjkcdpbbcdgaaYV
namespace Go.Proofs.Ythmjkcdpbbcdgaa

theorem Wt.w0 : Wt (toWw default) [] := ⟨rfl, rfl⟩

theorem wW_num {x : Ewire_Writer} {l : List Nat} {z : Int} (h : Wt (toWw x) l) (hz : 0 ≤ z) (hi : inI z) (hl : l.length + 9 ≤ 140737488355328) : ∃ y, F_wire_Writer_Num x z = some y ∧ Wt (toWw y) (l ++ vputL z.toNat) :=
 ⟨_, chk_t ⟨hi, fun _ => by rw [h.size]; exact hl⟩, h.num' hz⟩

theorem wW_big {x : Ewire_Writer} {l : List Nat} {z : Int} (h : Wt (toWw x) l) (hi : inU z) (hl : l.length + 9 ≤ 140737488355328) : ∃ y, F_wire_Writer_Big x z = some y ∧ Wt (toWw y) (l ++ vputL z.toNat) :=
 ⟨_, chk_t ⟨hi, fun _ => by rw [h.size]; exact hl⟩, by have := h.put (vput z.toNat); rw [bL_vput] at this; exact this⟩

theorem wW_text {x : Ewire_Writer} {l : List Nat} (t : ByteArray) (h : Wt (toWw x) l) (hl : l.length + (9 + t.size) ≤ 140737488355328) : ∃ y, F_wire_Writer_Text x t = some y ∧ Wt (toWw y) (l ++ (vputL t.size ++ bL t)) :=
 ⟨_, chk_t ⟨by unfold maxLen; omega, fun _ => by rw [h.size]; exact hl⟩, h.text t⟩

theorem wW_flag {x : Ewire_Writer} {l : List Nat} (b : Bool) (h : Wt (toWw x) l) (hl : l.length + 1 ≤ 140737488355328) : ∃ y, F_wire_Writer_Flag x b = some y ∧ Wt (toWw y) (l ++ [if b then 1 else 0]) :=
 ⟨_, chk_t (fun _ => by rw [h.size]; exact hl), h.flag b⟩

theorem wW_done {x : Ewire_Writer} {l : List Nat} (h : Wt (toWw x) l) : ∃ s, F_wire_Writer_Done x = some (s, 0) ∧ bL s = l := ⟨_, by rw [F_wire_Writer_Done, show x.e = 0 from h.1], h.done⟩

theorem wR_open (s : ByteArray) (h : s.size ≤ maxLen) : F_wire_Open s = some (ofRw ⟨s, 0, 0⟩) := chk_t h

theorem wR_num {r : DReaderR} (h : rdOk r) {most : Int} (hm : inI most) : F_wire_Reader_Num (ofRw r) most = some (rNumV r most, ofRw (rNum r most)) := chk_t ⟨⟨rfl, h⟩, hm⟩

theorem wR_big {r : DReaderR} (h : rdOk r) : F_wire_Reader_Big (ofRw r) = some ((rBigV r : Int), ofRw (rBig r)) := chk_t ⟨rfl, h⟩

theorem wR_text {r : DReaderR} (h : rdOk r) {most : Int} (hm : inI most) : F_wire_Reader_Text (ofRw r) most = some (rTextV r most, ofRw (rText r most)) := chk_t ⟨⟨rfl, h⟩, hm⟩

theorem wR_flag {r : DReaderR} (h : rdOk r) : F_wire_Reader_Flag (ofRw r) = some (rFlagV r, ofRw (rFlag r)) := chk_t ⟨rfl, h⟩

theorem wR_end {r : DReaderR} (h : rdOk r) : F_wire_Reader_End (ofRw r) = some (rEnd r) := chk_t ⟨rfl, h⟩

theorem wR_err {r : DReaderR} : F_wire_Reader_Err (ofRw r) = some r.e := chk_t rfl

theorem rNumV_nat (r : DReaderR) (most : Int) : ∃ n : Nat, rNumV r most = n := by
 unfold rNumV; split
 ·exact ⟨0, rfl⟩
 ·exact ⟨_, rfl⟩

theorem rNumV_le {r : DReaderR} {most : Int} (hm : 0 ≤ most) : 0 ≤ rNumV r most ∧ rNumV r most ≤ most := by
 by_cases h : (rNum r most).e = 0
 ·obtain ⟨_, _, h2, _, h3⟩ := rNum_of h
  omega
 ·unfold rNumV; rw [if_pos h]; omega

theorem start_ok (s : ByteArray) (h : s.size ≤ maxLen) : rdOk ⟨s, 0, 0⟩ := ⟨Int.le_refl _, Int.natCast_nonneg _, h, Int.le_refl _, by show (0 : Int) ≤ 21; decide⟩

-- loops that read and write lists
def listRd {α : Type} (f : DReaderR → α × DReaderR) : Nat → DReaderR → List α × DReaderR
 | 0, r => ([], r)
 | k + 1, r => ((f r).1 :: (listRd f k (f r).2).1, (listRd f k (f r).2).2)

section lists
variable {α R : Type} {f : DReaderR → α × DReaderR}
theorem listRd_len : ∀ (n : Nat) (r : DReaderR), (listRd f n r).1.length = n
 | 0, _ => rfl
 | n + 1, r => by simp [listRd, listRd_len n]

theorem listRd_there (B : α → List Nat) (ok : α → Prop) (hf : ∀ a r q, ok a → Rd r (B a ++ q) → (f r).1 = a ∧ Rd (f r).2 q) : ∀ (l : List α) (r : DReaderR) (q : List Nat), (∀ a ∈ l, ok a) → Rd r (l.flatMap B ++ q) → (listRd f l.length r).1 = l ∧ Rd (listRd f l.length r).2 q
 | [], r, q, _, h => ⟨rfl, h⟩
 | a :: l, r, q, hm, h => by
  rw [List.flatMap_cons, List.append_assoc] at h
  obtain ⟨v, r1⟩ := hf a r _ (hm a (by simp)) h
  obtain ⟨v2, r2⟩ := listRd_there B ok hf l _ q (fun x hx => hm x (by simp [hx])) r1
  exact ⟨by rw [List.length_cons]; show (f r).1 :: (listRd f l.length (f r).2).1 = _; rw [v, v2], r2⟩

theorem listRd_e0 (hf : ∀ r, (f r).2.e = 0 → r.e = 0) : ∀ (n : Nat) (r : DReaderR), (listRd f n r).2.e = 0 → r.e = 0
 | 0, _, h => h
 | n + 1, r, h => hf r (listRd_e0 hf n _ h)

theorem listRd_back (B : α → List Nat) (ok : α → Prop) (h0 : ∀ r, (f r).2.e = 0 → r.e = 0) (hf : ∀ r q, Rd r q → (f r).2.e = 0 → ∃ q', q = B (f r).1 ++ q' ∧ Rd (f r).2 q' ∧ ok (f r).1) : ∀ (n : Nat) (r : DReaderR) (q : List Nat), Rd r q → (listRd f n r).2.e = 0 → ∃ q', q = (listRd f n r).1.flatMap B ++ q' ∧ Rd (listRd f n r).2 q' ∧ ∀ a ∈ (listRd f n r).1, ok a
 | 0, r, q, h, _ => ⟨q, rfl, h, fun a ha => (by cases ha)⟩
 | n + 1, r, q, h, he => by
  obtain ⟨q1, h1, h2, h3⟩ := hf r q h (listRd_e0 h0 n _ he)
  obtain ⟨q2, h4, h5, h6⟩ := listRd_back B ok h0 hf n _ q1 h2 he
  refine ⟨q2, ?_, h5, fun a ha => ?_⟩
  ·show q = ((f r).1 :: (listRd f n (f r).2).1).flatMap B ++ q2
   rw [List.flatMap_cons, List.append_assoc, ← h4]; exact h1
  ·rcases List.mem_cons.1 (show a ∈ (f r).1 :: (listRd f n (f r).2).1 from ha) with rfl | ha
   ·exact h3
   ·exact h6 a ha

theorem wRloop {body : (Int × ByteArray × Int × Int × Bool × List α → Option R) → Int × ByteArray × Int × Int × Bool × List α → Option R} (n : Nat) (hn : n ≤ bdM) (fin : List α → DReaderR → Option R) (hok : ∀ r, rdOk r → rdOk (f r).2)
  (h : ∀ rc (k : Nat) (r : DReaderR) (l : List α), rdOk r → k ≤ n → l.length = k → body rc ((k : Int), r.s, r.at_, r.e, true, l) = if k < n then rc ((k : Int) + 1, (f r).2.s, (f r).2.at_, (f r).2.e, true, l ++ [(f r).1]) else fin l r)
  (r : DReaderR) (hr : rdOk r) : iter body FU (0, r.s, r.at_, r.e, true, []) = fin (listRd f n r).1 (listRd f n r).2 := by
 refine (iter_up2 (σ := ByteArray × Int × Int × Bool × List α) n (fun k st => fin (st.2.2.2.2 ++ (listRd f (n - k) ⟨st.1, st.2.1, st.2.2.1⟩).1) (listRd f (n - k) ⟨st.1, st.2.1, st.2.2.1⟩).2) (fun k st => rdOk ⟨st.1, st.2.1, st.2.2.1⟩ ∧ st.2.2.2.1 = true ∧ st.2.2.2.2.length = k) hn (s0 := (r.s, r.at_, r.e, true, [])) ⟨hr, rfl, rfl⟩ fun rc k st hk hp hrc => ?_).trans (by rw [List.nil_append, Nat.sub_zero])
 obtain ⟨t, a, e, md, l⟩ := st
 obtain ⟨h1, h2, h3⟩ := hp
 change md = true at h2
 subst h2
 refine (h rc k ⟨t, a, e⟩ l h1 hk h3).trans ?_
 by_cases hk1 : k < n
 ·rw [if_pos hk1]
  refine (hrc ((f ⟨t, a, e⟩).2.s, (f ⟨t, a, e⟩).2.at_, (f ⟨t, a, e⟩).2.e, true, l ++ [(f ⟨t, a, e⟩).1]) hk1 ⟨hok _ h1, rfl, by rw [List.length_append]; show l.length + 1 = _; rw [show l.length = k from h3]⟩).trans ?_
  rw [show n - k = (n - (k + 1)) + 1 by omega]
  show fin ((l ++ _) ++ _) _ = fin (l ++ (_ :: _)) _
  rw [List.append_assoc]; rfl
 ·rw [if_neg hk1, show n - k = 0 by omega]
  show _ = fin (l ++ []) ⟨t, a, e⟩
  rw [List.append_nil]

theorem wWloop {body : (Int × Ewire_Writer → Option R) → Int × Ewire_Writer → Option R} [Inhabited α] (l : List α) (hl : l.length ≤ bdM) (B : α → List Nat) (pre : List Nat) (out : Option R)
  (h1 : ∀ rc (k : Nat) (y : Ewire_Writer), k < l.length → Wt (toWw y) (pre ++ (l.take k).flatMap B) → ∃ y', Wt (toWw y') ((pre ++ (l.take k).flatMap B) ++ B (l.getD k default)) ∧ body rc ((k : Int), y) = rc ((k : Int) + 1, y'))
  (h2 : ∀ rc (y : Ewire_Writer), Wt (toWw y) (pre ++ l.flatMap B) → body rc ((l.length : Int), y) = out) (y : Ewire_Writer) (hy : Wt (toWw y) pre) : iter body FU (0, y) = out := by
 refine iter_up2 (σ := Ewire_Writer) l.length (fun _ _ => out) (fun k y => Wt (toWw y) (pre ++ (l.take k).flatMap B)) hl (by simpa using hy) fun rc k y hk hy hrc => ?_
 by_cases hk1 : k < l.length
 ·obtain ⟨y', h3, h4⟩ := h1 rc k y hk1 hy
  rw [h4]
  refine hrc y' hk1 ?_
  rw [take_snoc (d := default) hk1, List.flatMap_append, ← List.append_assoc]
  simpa using h3
 ·have : k = l.length := by omega
  subst this
  exact h2 rc y (by rw [List.take_length] at hy; exact hy)

end lists
theorem rText_ok {r : DReaderR} {most : Int} (h : rdOk r) : rdOk (rText r most) := by
 have h1 := rBig_ok h
 unfold rText
 split; · exact h1
 split; · exact ⟨h1.1, h1.2.1, h1.2.2.1, (by decide : (0 : Int) ≤ 3), (by decide : (3 : Int) ≤ 21)⟩
 split; · exact ⟨h1.1, h1.2.1, h1.2.2.1, (by decide : (0 : Int) ≤ 2), (by decide : (2 : Int) ≤ 21)⟩
 obtain ⟨a, b, c, d, e⟩ := h1
 exact ⟨by show 0 ≤ (rBig r).at_ + (rBigV r : Int); omega, by show (rBig r).at_ + (rBigV r : Int) ≤ ((rBig r).s.size : Int); omega, c, d, e⟩

theorem rFlag_ok {r : DReaderR} (h : rdOk r) : rdOk (rFlag r) := by
 obtain ⟨a, b, c, d, e⟩ := h
 unfold rFlag
 split; · exact ⟨a, b, c, d, e⟩
 split; · exact ⟨a, b, c, (by decide : (0 : Int) ≤ 2), (by decide : (2 : Int) ≤ 21)⟩
 split; · exact ⟨a, b, c, (by decide : (0 : Int) ≤ 4), (by decide : (4 : Int) ≤ 21)⟩
 exact ⟨by show 0 ≤ r.at_ + 1; omega, by show r.at_ + 1 ≤ (r.s.size : Int); omega, c, d, e⟩

end Go.Proofs.Ythmjkcdpbbcdgaa
