/- Notes there and back; NoteBack. (Printed by noteb.py.) -/
import Derived.Test.YtbfglbbbkcpgeaaYNoteR
namespace Go.Proofs.Ytbfglbbbkcpgeaa

def tailB (n : ENote) : List Nat :=
  if n.k = 1 then (vputL (confB n.conf).length ++ confB n.conf) ++ (vputL n.legit.length ++ n.legit.flatMap idB)
   else if n.k = 2 then vputL n.n.toNat ++ (vputL (entryB n.entry).length ++ entryB n.entry)
   else if n.k = 3 then vputL n.n.toNat ++ vputL n.at_.toNat
   else if n.k = 4 then vputL n.at_.toNat ++ vputL n.n.toNat
   else if n.k = 6 then vputL n.pin.id.toNat ++ (vputL n.pin.at_.toNat ++ vputL n.pin.left.toNat)
   else if n.k = 8 then vputL n.said.client.toNat ++ (vputL n.said.req.toNat ++ (vputL n.said.e.toNat ++ vputL n.said.pin.toNat))
   else vputL n.n.toNat

theorem noteB_tail (n : ENote) : noteB n = vputL n.k.toNat ++ tailB n := rfl

theorem idRd_there (a : Int) (r : DReaderR) (q : List Nat) (h : 0 ≤ a ∧ a < 4) (hr : Rd r (idB a ++ q)) : (idRd r).1 = a ∧ Rd (idRd r).2 q := by
  unfold idB at hr
  obtain ⟨v, r1⟩ := hr.num (most := 3) (by omega) (by decide)
  exact ⟨by show rNumV r 3 = a; rw [v]; omega, r1⟩

theorem idRd_back (r : DReaderR) (q : List Nat) (h : Rd r q) (he : (idRd r).2.e = 0) : ∃ q', q = idB (idRd r).1 ++ q' ∧ Rd (idRd r).2 q' ∧ inI (idRd r).1 := by
  obtain ⟨a, q1, a1, a2, a3, a4⟩ := h.num_back (most := 3) he
  refine ⟨q1, ?_, a4, ?_⟩
  · show q = vputL (rNumV r 3).toNat ++ q1
    rw [a1, toNat_cast, a3]
  · show inI (rNumV r 3); rw [a1]; unfold inI; omega

def RdN (x : Int × DReaderR × ENote) (n : ENote) : Prop := x.1 = 0 ∧ Rd x.2.1 [] ∧ x.2.2 = n

theorem there_1 (n : ENote) (hb : bdENote n) (hk : n.k = 1) (h0 : noteCheck n = 0) (r : DReaderR) (h : Rd r (tailB n)) : RdN (noteRd1 1 r) (cleanNote n) := by
  obtain ⟨hc, hg⟩ := noteCheck_1 hk h0
  obtain ⟨g1, g2⟩ := legitCheck_ok hg
  obtain ⟨_, _, _, c4, _, _⟩ := confCheck_ok hc
  obtain ⟨t, ht⟩ := bytesOf (confB_lt n.conf)
  have hcl := confB_len c4
  have hts : t.size = (confB n.conf).length := by rw [← bL_len, ht]
  unfold tailB at h
  rw [if_pos hk, ← hts, ← ht, List.append_assoc] at h
  obtain ⟨v1, r1⟩ := h.text (most := 65536) (by omega) (by decide)
  obtain ⟨v2, r2⟩ := r1.num (most := 4) (by omega) (by decide)
  obtain ⟨v3, r3⟩ := listRd_there (f := idRd) idB (fun a => 0 ≤ a ∧ a < 4) idRd_there n.legit _ [] g2 (by rw [List.append_nil]; exact r2)
  have hco := confOf_there n.conf t hc hb.conf.floor ht
  unfold noteRd1
  rw [if_neg (fun x => x r1.e), v1, hco, if_neg (show ¬ (0 : Int) ≠ 0 by decide), v2, toNat_cast]
  refine ⟨r3.e, r3, ?_⟩
  show ({ base 1 with conf := n.conf, legit := (listRd idRd n.legit.length _).1 } : ENote) = _
  rw [v3]
  unfold cleanNote
  rw [if_pos hk, hk]; rfl

theorem there_2 (n : ENote) (hb : bdENote n) (hk : n.k = 2) (h0 : noteCheck n = 0) (r : DReaderR) (h : Rd r (tailB n)) : RdN (noteRd2 2 r) (cleanNote n) := by
  obtain ⟨hn, hc⟩ := noteCheck_2 hk h0
  have hbl : ∀ b ∈ entryB n.entry, b < 256 := fun b hb => by
    unfold entryB at hb
    simp only [List.mem_append] at hb
    rcases hb with h | h | h
    · exact vputL_lt _ _ h
    · exact vputL_lt _ _ h
    · exact batchB_lt _ _ h
  obtain ⟨t, ht⟩ := bytesOf hbl
  have hcl := entryB_len hc
  have hts : t.size = (entryB n.entry).length := by rw [← bL_len, ht]
  unfold tailB at h
  rw [if_neg (by omega), if_pos hk, ← hts, ← ht] at h
  obtain ⟨v1, r1⟩ := h.num (most := 1073741824) (by omega) (by decide)
  obtain ⟨v2, r2⟩ := Rd.text (most := 65536) (l := []) (t := t) (by rw [List.append_nil]; exact r1) (by omega) (by decide)
  have hco := entryOf_there n.entry t hc hb.entry.ts ht
  unfold noteRd2
  rw [if_neg (fun x => x r2.e), v2, hco, v1]
  refine ⟨rfl, r2, ?_⟩
  unfold cleanNote
  rw [if_neg (by omega), if_pos hk, hk, Int.toNat_of_nonneg hn.1]; rfl

theorem there_3 (n : ENote) (hb : bdENote n) (hk : n.k = 3) (h0 : noteCheck n = 0) (r : DReaderR) (h : Rd r (tailB n)) : RdN (noteRd3 3 r) (cleanNote n) := by
  have hm := noteCheck_3 hk h0
  have hat : inU n.at_ := hb.at_
  unfold inU at hat
  unfold tailB at h
  rw [if_neg (by omega), if_neg (by omega), if_pos hk] at h
  obtain ⟨v0, r0⟩ := Rd.num (n := (n.n).toNat) (most := 1073741824) h (by omega) (by decide)
  obtain ⟨v1, r1⟩ := Rd.big (n := (n.at_).toNat) (show Rd _ (_ ++ []) by rw [List.append_nil]; exact r0) (by omega)
  refine ⟨r1.e, r1, ?_⟩
  unfold noteRd3
  dsimp only
  rw [v0, v1]
  unfold cleanNote
  rw [if_neg (by omega), if_neg (by omega), if_pos (.inl hk), hk, Int.toNat_of_nonneg (by omega : 0 ≤ n.n), Int.toNat_of_nonneg (by omega : 0 ≤ n.at_)]; rfl

theorem there_4 (n : ENote) (hb : bdENote n) (hk : n.k = 4) (h0 : noteCheck n = 0) (r : DReaderR) (h : Rd r (tailB n)) : RdN (noteRd4 4 r) (cleanNote n) := by
  have hm := noteCheck_4 hk h0
  have hat : inU n.at_ := hb.at_
  unfold inU at hat
  unfold tailB at h
  rw [if_neg (by omega), if_neg (by omega), if_neg (by omega), if_pos hk] at h
  obtain ⟨v0, r0⟩ := Rd.big (n := (n.at_).toNat) h (by omega)
  obtain ⟨v1, r1⟩ := Rd.num (n := (n.n).toNat) (most := 1073741824) (show Rd _ (_ ++ []) by rw [List.append_nil]; exact r0) (by omega) (by decide)
  refine ⟨r1.e, r1, ?_⟩
  unfold noteRd4
  dsimp only
  rw [v0, v1]
  unfold cleanNote
  rw [if_neg (by omega), if_neg (by omega), if_pos (.inr hk), hk, Int.toNat_of_nonneg (by omega : 0 ≤ n.at_), Int.toNat_of_nonneg (by omega : 0 ≤ n.n)]; rfl

theorem there_5 (n : ENote) (hb : bdENote n) (hk : n.k = 5) (h0 : noteCheck n = 0) (r : DReaderR) (h : Rd r (tailB n)) : RdN (noteRd5 5 r) (cleanNote n) := by
  have hm := noteCheck_5 hk h0
  unfold tailB at h
  rw [if_neg (by omega), if_neg (by omega), if_neg (by omega), if_neg (by omega), if_neg (by omega), if_neg (by omega)] at h
  obtain ⟨v0, r0⟩ := Rd.num (n := (n.n).toNat) (most := 1073741824) (show Rd _ (_ ++ []) by rw [List.append_nil]; exact h) (by omega) (by decide)
  refine ⟨r0.e, r0, ?_⟩
  unfold noteRd5
  dsimp only
  rw [v0]
  unfold cleanNote
  rw [if_neg (by omega), if_neg (by omega), if_neg (by omega), if_pos (.inl hk), hk, Int.toNat_of_nonneg (by omega : 0 ≤ n.n)]; rfl

theorem there_6 (n : ENote) (hb : bdENote n) (hk : n.k = 6) (h0 : noteCheck n = 0) (r : DReaderR) (h : Rd r (tailB n)) : RdN (noteRd6 6 r) (cleanNote n) := by
  have hm := noteCheck_6 hk h0
  have hat : inU n.pin.at_ := hb.pin.at_
  unfold inU at hat
  unfold tailB at h
  rw [if_neg (by omega), if_neg (by omega), if_neg (by omega), if_neg (by omega), if_pos hk] at h
  obtain ⟨v0, r0⟩ := Rd.num (n := (n.pin.id).toNat) (most := 1073741824) h (by omega) (by decide)
  obtain ⟨v1, r1⟩ := Rd.big (n := (n.pin.at_).toNat) r0 (by omega)
  obtain ⟨v2, r2⟩ := Rd.num (n := (n.pin.left).toNat) (most := 1073741824) (show Rd _ (_ ++ []) by rw [List.append_nil]; exact r1) (by omega) (by decide)
  refine ⟨r2.e, r2, ?_⟩
  unfold noteRd6
  dsimp only
  rw [v0, v1, v2]
  unfold cleanNote
  rw [if_neg (by omega), if_neg (by omega), if_neg (by omega), if_neg (by omega), if_pos hk, hk, Int.toNat_of_nonneg (by omega : 0 ≤ n.pin.id), Int.toNat_of_nonneg (by omega : 0 ≤ n.pin.at_), Int.toNat_of_nonneg (by omega : 0 ≤ n.pin.left)]; rfl

theorem there_7 (n : ENote) (hb : bdENote n) (hk : n.k = 7) (h0 : noteCheck n = 0) (r : DReaderR) (h : Rd r (tailB n)) : RdN (noteRd5 7 r) (cleanNote n) := by
  have hm := noteCheck_7 hk h0
  unfold tailB at h
  rw [if_neg (by omega), if_neg (by omega), if_neg (by omega), if_neg (by omega), if_neg (by omega), if_neg (by omega)] at h
  obtain ⟨v0, r0⟩ := Rd.num (n := (n.n).toNat) (most := 1073741824) (show Rd _ (_ ++ []) by rw [List.append_nil]; exact h) (by omega) (by decide)
  refine ⟨r0.e, r0, ?_⟩
  unfold noteRd5
  dsimp only
  rw [v0]
  unfold cleanNote
  rw [if_neg (by omega), if_neg (by omega), if_neg (by omega), if_pos (.inr hk), hk, Int.toNat_of_nonneg (by omega : 0 ≤ n.n)]; rfl

theorem there_8 (n : ENote) (hb : bdENote n) (hk : n.k = 8) (h0 : noteCheck n = 0) (r : DReaderR) (h : Rd r (tailB n)) : RdN (noteRd8 8 r) (cleanNote n) := by
  have hm := noteCheck_8 hk h0
  unfold tailB at h
  rw [if_neg (by omega), if_neg (by omega), if_neg (by omega), if_neg (by omega), if_neg (by omega), if_pos hk] at h
  obtain ⟨v0, r0⟩ := Rd.num (n := (n.said.client).toNat) (most := 2) h (by omega) (by decide)
  obtain ⟨v1, r1⟩ := Rd.num (n := (n.said.req).toNat) (most := 1073741824) r0 (by omega) (by decide)
  obtain ⟨v2, r2⟩ := Rd.num (n := (n.said.e).toNat) (most := 21) r1 (by omega) (by decide)
  obtain ⟨v3, r3⟩ := Rd.num (n := (n.said.pin).toNat) (most := 1073741824) (show Rd _ (_ ++ []) by rw [List.append_nil]; exact r2) (by omega) (by decide)
  refine ⟨r3.e, r3, ?_⟩
  unfold noteRd8
  dsimp only
  rw [v0, v1, v2, v3]
  unfold cleanNote
  rw [if_neg (by omega), if_neg (by omega), if_neg (by omega), if_neg (by omega), if_neg (by omega), if_pos hk, hk, Int.toNat_of_nonneg (by omega : 0 ≤ n.said.client), Int.toNat_of_nonneg (by omega : 0 ≤ n.said.req), Int.toNat_of_nonneg (by omega : 0 ≤ n.said.e), Int.toNat_of_nonneg (by omega : 0 ≤ n.said.pin)]; rfl

theorem there_k (n : ENote) (hb : bdENote n) (h0 : noteCheck n = 0) (r : DReaderR) (h : Rd r (tailB n)) : RdN (noteRd n.k r) (cleanNote n) := by
  rcases noteCheck_k h0 with hk | hk | hk | hk | hk | hk | hk | hk
  · have := there_1 n hb hk h0 r h; rw [hk]; exact this
  · have := there_2 n hb hk h0 r h; rw [hk]; exact this
  · have := there_3 n hb hk h0 r h; rw [hk]; exact this
  · have := there_4 n hb hk h0 r h; rw [hk]; exact this
  · have := there_5 n hb hk h0 r h; rw [hk]; exact this
  · have := there_6 n hb hk h0 r h; rw [hk]; exact this
  · have := there_7 n hb hk h0 r h; rw [hk]; exact this
  · have := there_8 n hb hk h0 r h; rw [hk]; exact this

theorem noteCheck_clean (n : ENote) : noteCheck (cleanNote n) = noteCheck n := by
  unfold cleanNote
  by_cases c1 : n.k = 1
  · rw [if_pos c1]; unfold noteCheck; rw [if_pos c1, if_pos c1]
  by_cases c2 : n.k = 2
  · rw [if_neg c1, if_pos c2]; unfold noteCheck; rw [if_neg c1, if_pos c2, if_neg c1, if_pos c2]
  by_cases c3 : n.k = 3 ∨ n.k = 4
  · have c : n.k = 3 ∨ n.k = 4 ∨ n.k = 5 ∨ n.k = 7 := by omega
    rw [if_neg c1, if_neg c2, if_pos c3]; unfold noteCheck; rw [if_neg c1, if_neg c2, if_pos c, if_neg c1, if_neg c2, if_pos c]
  by_cases c4 : n.k = 5 ∨ n.k = 7
  · have c : n.k = 3 ∨ n.k = 4 ∨ n.k = 5 ∨ n.k = 7 := by omega
    rw [if_neg c1, if_neg c2, if_neg c3, if_pos c4]; unfold noteCheck; rw [if_neg c1, if_neg c2, if_pos c, if_neg c1, if_neg c2, if_pos c]
  have c : ¬ (n.k = 3 ∨ n.k = 4 ∨ n.k = 5 ∨ n.k = 7) := by omega
  by_cases c6 : n.k = 6
  · rw [if_neg c1, if_neg c2, if_neg c3, if_neg c4, if_pos c6]; unfold noteCheck; rw [if_neg c1, if_neg c2, if_neg c, if_pos c6, if_neg c1, if_neg c2, if_neg c, if_pos c6]
  by_cases c8 : n.k = 8
  · rw [if_neg c1, if_neg c2, if_neg c3, if_neg c4, if_neg c6, if_pos c8]; unfold noteCheck; rw [if_neg c1, if_neg c2, if_neg c, if_neg c6, if_pos c8, if_neg c1, if_neg c2, if_neg c, if_neg c6]
  rw [if_neg c1, if_neg c2, if_neg c3, if_neg c4, if_neg c6, if_neg c8]
  unfold noteCheck
  rw [if_neg c1, if_neg c2, if_neg c, if_neg c6, if_neg c8]; rfl

theorem noteFin_there (x : Int × DReaderR × ENote) (n : ENote) (h : RdN x n) (h0 : noteCheck n = 0) : noteFin x = (n, 0) := by
  obtain ⟨h1, h2, h3⟩ := h
  unfold noteFin noteEnd
  rw [if_neg (fun y => y h1), h2.end, if_pos rfl, if_neg (fun y => y rfl), h3, if_neg (fun y => y h0)]

theorem noteOf_there (n : ENote) (s : ByteArray) (hb : bdENote n) (h0 : noteCheck n = 0) (hm : s.size ≤ maxLen) (hs : bL s = noteB n) : noteOf s = (cleanNote n, 0) := by
  have hk := noteCheck_k h0
  have h := Rd.start s hm
  rw [hs, noteB_tail] at h
  obtain ⟨v1, r1⟩ := h.num (most := 8) (by omega) (by decide)
  rw [Int.toNat_of_nonneg (by omega)] at v1
  unfold noteOf
  rw [v1, if_neg (fun y => by have := y.2; omega)]
  exact noteFin_there _ _ (there_k n hb h0 _ r1) ((noteCheck_clean n).trans h0)

-- back
theorem back_1 (r : DReaderR) (q : List Nat) (hr : rdOk r) (h : Rd r q) (he : (noteRd1 1 r).1 = 0) : ∃ q', q = tailB (noteRd1 1 r).2.2 ++ q' ∧ Rd (noteRd1 1 r).2.1 q' := by
  unfold noteRd1 at he ⊢
  by_cases h1 : (rText r 65536).e = 0
  · rw [if_neg (fun y => y h1)] at he ⊢
    by_cases h2 : (confOf (rTextV r 65536)).2 = 0
    · rw [if_neg (fun y => y h2)] at he ⊢
      dsimp only at he ⊢
      have e1 := listRd_e0 (f := idRd) (fun r h => rNum_e0 h) _ _ he
      obtain ⟨q1, a1, a2, a3⟩ := h.text_back h1
      obtain ⟨b, q2, b1, b2, b3, b4⟩ := a3.num_back e1
      obtain ⟨q3, c1, c2, _⟩ := listRd_back (f := idRd) idB inI (fun r h => rNum_e0 h) idRd_back _ _ q2 b4 he
      obtain ⟨d1, d2, d3⟩ := confOf_back _ (rTextV_size _ hr _) h2
      refine ⟨q3, ?_, c2⟩
      show q = ((vputL (confB (confOf (rTextV r 65536)).1).length ++ confB (confOf (rTextV r 65536)).1) ++ (vputL (listRd idRd (rNumV (rText r 65536) 4).toNat (rNum (rText r 65536) 4)).1.length ++ (listRd idRd (rNumV (rText r 65536) 4).toNat (rNum (rText r 65536) 4)).1.flatMap idB)) ++ q3
      rw [← d2, bL_len, listRd_len, b1, toNat_cast]
      rw [b1, toNat_cast] at c1
      rw [a1, b3, c1]
      simp only [List.append_assoc]
    · rw [if_pos h2] at he; exact absurd he h2
  · rw [if_pos h1] at he; exact absurd he h1

theorem back_2 (r : DReaderR) (q : List Nat) (hr : rdOk r) (h : Rd r q) (he : (noteRd2 2 r).1 = 0) : ∃ q', q = tailB (noteRd2 2 r).2.2 ++ q' ∧ Rd (noteRd2 2 r).2.1 q' := by
  unfold noteRd2 at he ⊢
  by_cases h1 : (rText (rNum r 1073741824) 65536).e = 0
  · rw [if_neg (fun y => y h1)] at he ⊢
    dsimp only at he ⊢
    obtain ⟨b, q1, b1, b2, b3, b4⟩ := h.num_back (rText_e0 h1)
    obtain ⟨q2, a1, a2, a3⟩ := b4.text_back h1
    obtain ⟨d1, d2, d3⟩ := entryOf_back _ (rTextV_size _ (rNum_ok hr) _) he
    refine ⟨q2, ?_, a3⟩
    show q = (vputL (rNumV r 1073741824).toNat ++ (vputL (entryB (entryOf (rTextV (rNum r 1073741824) 65536)).1).length ++ entryB (entryOf (rTextV (rNum r 1073741824) 65536)).1)) ++ q2
    rw [← d2, bL_len, b1, toNat_cast, b3, a1]
    simp only [List.append_assoc]
  · rw [if_pos h1] at he; exact absurd he h1

theorem back_3 (r : DReaderR) (q : List Nat) (h : Rd r q) (he : (noteRd3 3 r).1 = 0) : ∃ q', q = tailB (noteRd3 3 r).2.2 ++ q' ∧ Rd (noteRd3 3 r).2.1 q' := by
  have he1 : (rBig (rNum r 1073741824)).e = 0 := he
  have he0 := rBig_e0 he1
  obtain ⟨a0, q0, b0, _, d0, e0⟩ := h.num_back he0
  obtain ⟨q1, d1, e1⟩ := e0.big_back he1
  refine ⟨q1, ?_, e1⟩
  show q = (vputL ((rNumV r 1073741824)).toNat ++ (vputL (((rBigV (rNum r 1073741824) : Nat) : Int)).toNat)) ++ q1
  rw [b0, toNat_cast, toNat_cast, d0, d1]; simp only [List.append_assoc]

theorem back_4 (r : DReaderR) (q : List Nat) (h : Rd r q) (he : (noteRd4 4 r).1 = 0) : ∃ q', q = tailB (noteRd4 4 r).2.2 ++ q' ∧ Rd (noteRd4 4 r).2.1 q' := by
  have he1 : (rNum (rBig r) 1073741824).e = 0 := he
  have he0 := rNum_e0 he1
  obtain ⟨q0, d0, e0⟩ := h.big_back he0
  obtain ⟨a1, q1, b1, _, d1, e1⟩ := e0.num_back he1
  refine ⟨q1, ?_, e1⟩
  show q = (vputL (((rBigV r : Nat) : Int)).toNat ++ (vputL ((rNumV (rBig r) 1073741824)).toNat)) ++ q1
  rw [toNat_cast, b1, toNat_cast, d0, d1]; simp only [List.append_assoc]

theorem back_5 (r : DReaderR) (q : List Nat) (h : Rd r q) (he : (noteRd5 5 r).1 = 0) : ∃ q', q = tailB (noteRd5 5 r).2.2 ++ q' ∧ Rd (noteRd5 5 r).2.1 q' := by
  have he0 : (rNum r 1073741824).e = 0 := he
  obtain ⟨a0, q0, b0, _, d0, e0⟩ := h.num_back he0
  refine ⟨q0, ?_, e0⟩
  show q = (vputL ((rNumV r 1073741824)).toNat) ++ q0
  rw [b0, toNat_cast, d0]

theorem back_6 (r : DReaderR) (q : List Nat) (h : Rd r q) (he : (noteRd6 6 r).1 = 0) : ∃ q', q = tailB (noteRd6 6 r).2.2 ++ q' ∧ Rd (noteRd6 6 r).2.1 q' := by
  have he2 : (rNum (rBig (rNum r 1073741824)) 1073741824).e = 0 := he
  have he1 := rNum_e0 he2
  have he0 := rBig_e0 he1
  obtain ⟨a0, q0, b0, _, d0, e0⟩ := h.num_back he0
  obtain ⟨q1, d1, e1⟩ := e0.big_back he1
  obtain ⟨a2, q2, b2, _, d2, e2⟩ := e1.num_back he2
  refine ⟨q2, ?_, e2⟩
  show q = (vputL ((rNumV r 1073741824)).toNat ++ (vputL (((rBigV (rNum r 1073741824) : Nat) : Int)).toNat ++ (vputL ((rNumV (rBig (rNum r 1073741824)) 1073741824)).toNat))) ++ q2
  rw [b0, toNat_cast, toNat_cast, b2, toNat_cast, d0, d1, d2]; simp only [List.append_assoc]

theorem back_7 (r : DReaderR) (q : List Nat) (h : Rd r q) (he : (noteRd5 7 r).1 = 0) : ∃ q', q = tailB (noteRd5 7 r).2.2 ++ q' ∧ Rd (noteRd5 7 r).2.1 q' := by
  have he0 : (rNum r 1073741824).e = 0 := he
  obtain ⟨a0, q0, b0, _, d0, e0⟩ := h.num_back he0
  refine ⟨q0, ?_, e0⟩
  show q = (vputL ((rNumV r 1073741824)).toNat) ++ q0
  rw [b0, toNat_cast, d0]

theorem back_8 (r : DReaderR) (q : List Nat) (h : Rd r q) (he : (noteRd8 8 r).1 = 0) : ∃ q', q = tailB (noteRd8 8 r).2.2 ++ q' ∧ Rd (noteRd8 8 r).2.1 q' := by
  have he3 : (rNum (rNum (rNum (rNum r 2) 1073741824) 21) 1073741824).e = 0 := he
  have he2 := rNum_e0 he3
  have he1 := rNum_e0 he2
  have he0 := rNum_e0 he1
  obtain ⟨a0, q0, b0, _, d0, e0⟩ := h.num_back he0
  obtain ⟨a1, q1, b1, _, d1, e1⟩ := e0.num_back he1
  obtain ⟨a2, q2, b2, _, d2, e2⟩ := e1.num_back he2
  obtain ⟨a3, q3, b3, _, d3, e3⟩ := e2.num_back he3
  refine ⟨q3, ?_, e3⟩
  show q = (vputL ((rNumV r 2)).toNat ++ (vputL ((rNumV (rNum r 2) 1073741824)).toNat ++ (vputL ((rNumV (rNum (rNum r 2) 1073741824) 21)).toNat ++ (vputL ((rNumV (rNum (rNum (rNum r 2) 1073741824) 21) 1073741824)).toNat)))) ++ q3
  rw [b0, toNat_cast, b1, toNat_cast, b2, toNat_cast, b3, toNat_cast, d0, d1, d2, d3]; simp only [List.append_assoc]

theorem back_k (k : Int) (hk : 0 ≤ k ∧ k ≤ 8) (hk0 : k ≠ 0) (r : DReaderR) (q : List Nat) (hr : rdOk r) (h : Rd r q) (he : (noteRd k r).1 = 0) : ∃ q', q = tailB (noteRd k r).2.2 ++ q' ∧ Rd (noteRd k r).2.1 q' := by
  rcases kinds k hk with rfl | rfl | rfl | rfl | rfl | rfl | rfl | rfl | rfl
  · exact absurd rfl hk0
  · exact back_1 r q hr h he
  · exact back_2 r q hr h he
  · exact back_3 r q h he
  · exact back_4 r q h he
  · exact back_5 r q h he
  · exact back_6 r q h he
  · exact back_7 r q h he
  · exact back_8 r q h he

theorem noteRd_k (k : Int) (hk : 0 ≤ k ∧ k ≤ 8) (r : DReaderR) : (noteRd k r).2.2.k = k := by
  unfold noteRd noteRd1 noteRd2 noteRd3 noteRd4 noteRd5 noteRd6 noteRd8
  (repeat' split) <;> rfl

theorem inI0 : inI 0 := by unfold inI; omega

theorem bd0EConf : bdEConf default := ⟨inI0, ⟨Nat.zero_le _, fun k hk => absurd hk (Nat.not_lt_zero _)⟩, by show inU 0; unfold inU; omega⟩

theorem conf_bd2 (s : ByteArray) (hs : s.size ≤ maxLen) : bdEConf (confOf s).1 := by
  by_cases h : (confOf s).2 = 0
  · obtain ⟨h1, _, h3⟩ := confOf_back s hs h
    obtain ⟨c1, c2, c3, c4, cm, _⟩ := confCheck_ok h1
    refine ⟨by unfold inI; omega, ⟨by unfold bdM; omega, fun k hk => ?_⟩, h3⟩
    have := cm ((confOf s).1.members.getD k default) (by rw [getD_lt hk]; exact List.getElem_mem hk)
    exact ⟨by unfold inI; omega, by unfold inI; omega⟩
  · rw [confOf_err s h]; exact bd0EConf

theorem bd0EEntry : bdEEntry default := ⟨⟨inI0, inI0, ⟨Nat.zero_le _, fun k hk => absurd hk (Nat.not_lt_zero _)⟩⟩, by show inU 0; unfold inU; omega⟩

theorem bd0EPin : bdEPin default := ⟨inI0, by show inU 0; unfold inU; omega, inI0⟩

theorem bd0EAnswer : bdEAnswer default := ⟨inI0, inI0, inI0, inI0⟩

theorem bd0L : bdSl inI [] := ⟨Nat.zero_le _, fun k hk => absurd hk (Nat.not_lt_zero _)⟩

theorem inU0 : inU 0 := by unfold inU; omega

theorem entry_bd2 (s : ByteArray) (hs : s.size ≤ maxLen) : bdEEntry (entryOf s).1 := by
  by_cases h : (entryOf s).2 = 0
  · obtain ⟨h1, _, h3⟩ := entryOf_back s hs h
    obtain ⟨c1, c2, c3, c4, c5, cm⟩ := batchCheck_ok h1
    refine ⟨⟨by unfold inI; omega, by unfold inI; omega, ⟨by unfold bdM; omega, fun k hk => ?_⟩⟩, h3⟩
    obtain ⟨o1, o2⟩ := cm ((entryOf s).1.batch.ops.getD k default) (by rw [getD_lt hk]; exact List.getElem_mem hk)
    exact ⟨by unfold bdStr bdM; omega, by unfold bdStr bdM; omega, trivial⟩
  · rw [entryOf_err s h]; exact bd0EEntry

theorem inI_num (r : DReaderR) (most : Int) (h : 0 ≤ most ∧ most ≤ 1073741824) : inI (rNumV r most) := by
  have := rNumV_le (r := r) (most := most) h.1; unfold inI; omega

theorem inU_big (r : DReaderR) : inU (rBigV r : Int) := by have := rBigV_lt r; unfold inU; omega

theorem legit_bd : ∀ (n : Nat) (r : DReaderR), ∀ x ∈ (listRd idRd n r).1, inI x
  | 0, _, x, h => by cases h
  | n + 1, r, x, h => by
    have h' : x ∈ (idRd r).1 :: (listRd idRd n (idRd r).2).1 := h
    rcases List.mem_cons.1 h' with h | h
    · rw [h]; exact inI_num r 3 (by decide)
    · exact legit_bd n _ x h

theorem noteRd_bd (k : Int) (hk : 0 ≤ k ∧ k ≤ 8) (r : DReaderR) (hr : rdOk r) : bdENote (noteRd k r).2.2 := by
  have hkI : inI k := by unfold inI; omega
  have n4 := rNumV_le (r := rText r 65536) (most := 4) (by decide)
  have hM : (0 : Int) ≤ 1073741824 ∧ (1073741824 : Int) ≤ 1073741824 := by decide
  unfold noteRd noteRd1 noteRd2 noteRd3 noteRd4 noteRd5 noteRd6 noteRd8
  (repeat' split)
  · exact ⟨hkI, inI0, inU0, bd0EConf, bd0L, bd0EEntry, bd0EPin, bd0EAnswer⟩
  · exact ⟨hkI, inI0, inU0, conf_bd2 _ (rTextV_size _ hr _), bd0L, bd0EEntry, bd0EPin, bd0EAnswer⟩
  · refine ⟨hkI, inI0, inU0, conf_bd2 _ (rTextV_size _ hr _), ⟨?_, fun j hj => ?_⟩, bd0EEntry, bd0EPin, bd0EAnswer⟩
    · show (listRd idRd _ _).1.length ≤ bdM
      rw [listRd_len]; unfold bdM; omega
    · have hj' : j < (listRd idRd (rNumV (rText r 65536) 4).toNat (rNum (rText r 65536) 4)).1.length := hj
      refine legit_bd (rNumV (rText r 65536) 4).toNat (rNum (rText r 65536) 4) _ ?_
      show (listRd idRd (rNumV (rText r 65536) 4).toNat (rNum (rText r 65536) 4)).1.getD j default ∈ _
      rw [getD_lt hj']; exact List.getElem_mem hj'
  · exact ⟨hkI, inI_num _ _ hM, inU0, bd0EConf, bd0L, bd0EEntry, bd0EPin, bd0EAnswer⟩
  · exact ⟨hkI, inI_num _ _ hM, inU0, bd0EConf, bd0L, entry_bd2 _ (rTextV_size _ (rNum_ok hr) _), bd0EPin, bd0EAnswer⟩
  · exact ⟨hkI, inI_num _ _ hM, inU_big _, bd0EConf, bd0L, bd0EEntry, bd0EPin, bd0EAnswer⟩
  · exact ⟨hkI, inI_num _ _ hM, inU_big _, bd0EConf, bd0L, bd0EEntry, bd0EPin, bd0EAnswer⟩
  · exact ⟨hkI, inI_num _ _ hM, inU0, bd0EConf, bd0L, bd0EEntry, bd0EPin, bd0EAnswer⟩
  · exact ⟨hkI, inI0, inU0, bd0EConf, bd0L, bd0EEntry, ⟨inI_num _ _ hM, inU_big _, inI_num _ _ hM⟩, bd0EAnswer⟩
  · exact ⟨hkI, inI0, inU0, bd0EConf, bd0L, bd0EEntry, bd0EPin, ⟨inI_num _ _ (by decide), inI_num _ _ hM, inI_num _ _ (by decide), inI_num _ _ hM⟩⟩
  · exact ⟨hkI, inI0, inU0, bd0EConf, bd0L, bd0EEntry, bd0EPin, bd0EAnswer⟩

theorem noteRd_e0 (k : Int) (hk : 0 ≤ k ∧ k ≤ 8) (r : DReaderR) (h : (noteRd k r).1 = 0) : r.e = 0 := by
  rcases kinds k hk with rfl | rfl | rfl | rfl | rfl | rfl | rfl | rfl | rfl
  · exact h
  · change (noteRd1 1 r).1 = 0 at h
    unfold noteRd1 at h
    by_cases h1 : (rText r 65536).e = 0
    · exact rText_e0 h1
    · rw [if_pos h1] at h; exact absurd h h1
  · change (noteRd2 2 r).1 = 0 at h
    unfold noteRd2 at h
    by_cases h1 : (rText (rNum r 1073741824) 65536).e = 0
    · exact rNum_e0 (rText_e0 h1)
    · rw [if_pos h1] at h; exact absurd h h1
  · exact rNum_e0 (rBig_e0 h)
  · exact rBig_e0 (rNum_e0 h)
  · exact rNum_e0 h
  · exact rNum_e0 (rBig_e0 (rNum_e0 h))
  · exact rNum_e0 h
  · exact rNum_e0 (rNum_e0 (rNum_e0 (rNum_e0 h)))

theorem note_size (n : ENote) (hb : bdENote n) (h0 : noteCheck n = 0) (s : ByteArray) (hs : bL s = noteB n) : s.size ≤ maxLen := by
  have : (noteB n).length ≤ 400 := by
    rw [noteB_tail, List.length_append]
    have hv0 := vputL_len n.k.toNat
    have ht : (tailB n).length ≤ 380 := by
      unfold tailB
      by_cases c1 : n.k = 1
      · rw [if_pos c1]
        obtain ⟨hc, hg⟩ := noteCheck_1 c1 h0
        have g1 := (legitCheck_ok hg).1
        have c4 := (confCheck_ok hc).2.2.2.1
        have := confB_len c4; have := idB_len n.legit; have := vputL_len (confB n.conf).length; have := vputL_len n.legit.length
        simp only [List.length_append]; omega
      rw [if_neg c1]
      by_cases c2 : n.k = 2
      · rw [if_pos c2]
        have := entryB_len (noteCheck_2 c2 h0).2; have := vputL_len n.n.toNat; have := vputL_len (entryB n.entry).length
        simp only [List.length_append]; omega
      rw [if_neg c2]
      have := vputL_len n.n.toNat; have := vputL_len n.at_.toNat; have := vputL_len n.pin.id.toNat; have := vputL_len n.pin.at_.toNat; have := vputL_len n.pin.left.toNat
      have := vputL_len n.said.client.toNat; have := vputL_len n.said.req.toNat; have := vputL_len n.said.e.toNat; have := vputL_len n.said.pin.toNat
      by_cases c3 : n.k = 3
      · rw [if_pos c3, List.length_append]; omega
      rw [if_neg c3]
      by_cases c4 : n.k = 4
      · rw [if_pos c4, List.length_append]; omega
      rw [if_neg c4]
      by_cases c6 : n.k = 6
      · rw [if_pos c6]; simp only [List.length_append]; omega
      rw [if_neg c6]
      by_cases c8 : n.k = 8
      · rw [if_pos c8]; simp only [List.length_append]; omega
      rw [if_neg c8]; omega
    omega
  rw [← hs, bL_len] at this; unfold maxLen; omega

theorem noteOf_back (s : ByteArray) (hs : s.size ≤ maxLen) (h0 : (noteOf s).2 = 0) : noteCheck (noteOf s).1 = 0 ∧ bL s = noteB (noteOf s).1 ∧ bdENote (noteOf s).1 := by
  have k0 := start_ok s hs
  have k1 := rNum_ok (most := 8) k0
  have kz := rNumV_le (r := ⟨s, 0, 0⟩) (most := 8) (by decide)
  unfold noteOf at h0 ⊢
  by_cases h : (rNum ⟨s, 0, 0⟩ 8).e = 0 ∧ rNumV ⟨s, 0, 0⟩ 8 = 0
  · rw [if_pos h] at h0; cases h0
  rw [if_neg h] at h0 ⊢
  have hb0 := noteRd_bd (rNumV ⟨s, 0, 0⟩ 8) kz (rNum ⟨s, 0, 0⟩ 8) k1
  have hkk := noteRd_k (rNumV ⟨s, 0, 0⟩ 8) kz (rNum ⟨s, 0, 0⟩ 8)
  unfold noteFin at h0 ⊢
  by_cases h1 : (noteRd (rNumV ⟨s, 0, 0⟩ 8) (rNum ⟨s, 0, 0⟩ 8)).1 = 0
  · rw [if_neg (fun y => y h1)] at h0 ⊢
    unfold noteEnd at h0 ⊢
    by_cases h2 : rEnd (noteRd (rNumV ⟨s, 0, 0⟩ 8) (rNum ⟨s, 0, 0⟩ 8)).2.1 = 0
    · rw [if_neg (fun y => y h2)] at h0 ⊢
      by_cases h3 : noteCheck (noteRd (rNumV ⟨s, 0, 0⟩ 8) (rNum ⟨s, 0, 0⟩ 8)).2.2 = 0
      · rw [if_neg (fun y => y h3)]
        refine ⟨h3, ?_, hb0⟩
        have he : (rNum ⟨s, 0, 0⟩ 8).e = 0 := noteRd_e0 _ kz _ h1
        obtain ⟨a, q1, a1, a2, a3, a4⟩ := (Rd.start s hs).num_back he
        obtain ⟨q2, b1, b2⟩ := back_k _ kz (fun y => h ⟨he, y⟩) _ q1 k1 a4 h1
        have hq : q2 = [] := by
          have := b2.end
          rw [h2] at this
          by_cases hq : q2 = []
          · exact hq
          · rw [if_neg hq] at this; cases this
        rw [hq, List.append_nil] at b1
        rw [noteB_tail, ← b1, hkk, a1, toNat_cast]
        exact a3
      · rw [if_pos h3] at h0; exact absurd h0 h3
    · rw [if_pos h2] at h0; exact absurd h0 h2
  · rw [if_pos h1] at h0; exact absurd h0 h1

theorem noteOf_err (s : ByteArray) (h : (noteOf s).2 ≠ 0) : (noteOf s).1 = default := by
  unfold noteOf noteFin noteEnd at h ⊢
  split; · rfl
  split; · rfl
  split; · rfl
  split; · rfl
  rename_i h1 h2 h3 h4
  rw [if_neg h1, if_neg h2, if_neg h3, if_neg h4] at h
  exact absurd rfl h

theorem pure_NoteBack_k1 (s : ByteArray) (hs : s.size ≤ maxLen) : F_law10_NoteBack_k1 s = some true := by
  unfold F_law10_NoteBack_k1
  rw [note_Of s hs, Option.bind_some]
  by_cases h : (noteOf s).2 = 0
  · rw [if_neg (by rw [h]; decide)]
    obtain ⟨h1, h2, h3⟩ := noteOf_back s hs h
    obtain ⟨t, h4, h5⟩ := note_Put _ h3 h1
    have : t = s := bL_inj (h4.trans h2.symm)
    rw [h5, Option.bind_some, this]
    have hss : seqB s s = true := seqB_iff.2 rfl
    simp only [hss, beq_self_eq_true, Bool.and_self, gif_true, awake10, Option.bind_some]
  · rw [if_pos (bne_iff_ne.2 h), noteOf_err s h, ref10_Same _ _ (Nat.zero_le _) (Nat.zero_le _) (Nat.zero_le _), Option.bind_some, sameNote_self, gif_true, awake10]; rfl

theorem pure_NoteBack (a : ENote) (s : ByteArray) (ha : bdENote a) (hs : bdStr s) : F_law10_NoteBack a s = some true := by
  have hm : s.size ≤ maxLen := by unfold bdStr bdM at hs; unfold maxLen; omega
  unfold F_law10_NoteBack F_law10_much
  rw [Option.bind_some]
  split
  · rw [awake10]; rfl
  have l1 : a.conf.members.length ≤ bdM := ha.conf.members.1
  have l2 : a.legit.length ≤ bdM := ha.legit.1
  have l3 : a.entry.batch.ops.length ≤ bdM := ha.entry.batch.ops.1
  obtain ⟨q1, q2, q3⟩ := cleanNote_bd a l1 l2 l3
  obtain ⟨p, h1, _, h3, h4⟩ := notePut_both a ha
  rw [h1, Option.bind_some]
  simp only [beq_iff_eq]
  split
  · rename_i h0
    rw [h3] at h0
    have hb := h4 h0
    have hsz : p.1.size ≤ maxLen := note_size a ha h0 p.1 hb
    rw [note_Of _ hsz, Option.bind_some, noteOf_there a p.1 ha h0 hsz hb]
    simp only [bne_self_eq_false, Bool.not_false, gif_true, ref10_Clean, ref10_Same _ _ q1 q2 q3, Option.bind_some, sameNote_self, Bool.not_true, Bool.or_self, Bool.false_eq_true, if_false]
    exact pure_NoteBack_k1 s hm
  · exact pure_NoteBack_k1 s hm

end Go.Proofs.Ytbfglbbbkcpgeaa
