/- Notes: put by both; their own parts; the same; NotePuts. -/
import Derived.Test.YtbfglbbbkcpgeaaYNoteV
namespace Go.Proofs.Ytbfglbbbkcpgeaa

theorem awake10 : F_law10_awake = some true := by kernel_rfl

def idB (x : Int) : List Nat := vputL x.toNat

theorem idB_len (l : List Int) : (l.flatMap idB).length ≤ l.length * 9 := flatB_len idB 9 l fun a _ => vputL_len _

def noteB (n : ENote) : List Nat := vputL n.k.toNat ++
  (if n.k = 1 then (vputL (confB n.conf).length ++ confB n.conf) ++ (vputL n.legit.length ++ n.legit.flatMap idB)
   else if n.k = 2 then vputL n.n.toNat ++ (vputL (entryB n.entry).length ++ entryB n.entry)
   else if n.k = 3 then vputL n.n.toNat ++ vputL n.at_.toNat
   else if n.k = 4 then vputL n.at_.toNat ++ vputL n.n.toNat
   else if n.k = 6 then vputL n.pin.id.toNat ++ (vputL n.pin.at_.toNat ++ vputL n.pin.left.toNat)
   else if n.k = 8 then vputL n.said.client.toNat ++ (vputL n.said.req.toNat ++ (vputL n.said.e.toNat ++ vputL n.said.pin.toNat))
   else vputL n.n.toNat)

theorem confB_lt (c : EConf) : ∀ b ∈ confB c, b < 256 := fun b hb => by
  unfold confB memsB memB at hb
  simp only [List.mem_append, List.mem_flatMap] at hb
  rcases hb with h | h | ⟨m, _, h | h⟩ | h <;> exact vputL_lt _ _ h

theorem note_Put_1 (n : ENote) (hb : bdENote n) (hk : n.k = 1) (h0 : noteCheck n = 0) : ∃ s, bL s = noteB n ∧ F_note_Put n = some (s, 0) := by
  obtain ⟨hc, hg⟩ := noteCheck_1 hk h0
  obtain ⟨g1, g2⟩ := legitCheck_ok hg
  obtain ⟨_, _, _, c4, _, _⟩ := confCheck_ok hc
  have hv0 := vputL_len n.k.toNat
  have hv1 := vputL_len n.legit.length
  have hcl := confB_len c4
  obtain ⟨p, p1, p2⟩ := conf_Put n.conf hb.conf hc
  have hps : p.size = (confB n.conf).length := by rw [← bL_len, p1]
  have hv2 := vputL_len p.size
  obtain ⟨y0, e0, w0⟩ := wW_num (x := default) (z := n.k) Wt.w0 (by omega) (by unfold inI; omega) (by simp)
  obtain ⟨y1, e1, w1⟩ := wW_text p w0 (by simp only [List.nil_append]; omega)
  obtain ⟨y2, e2, w2⟩ := wW_num (z := (n.legit.length : Int)) w1 (by omega) (by unfold inI; omega) (by simp only [List.length_append, List.nil_append, bL_len]; omega)
  have hB : noteB n = (([] ++ vputL n.k.toNat) ++ (vputL p.size ++ bL p)) ++ vputL n.legit.length ++ n.legit.flatMap idB := by
    unfold noteB; rw [if_pos hk, hps, p1]; simp only [List.append_assoc, List.nil_append]
  obtain ⟨s, hs⟩ : ∃ s : ByteArray, bL s = noteB n := bytesOf fun x hx => by
    rw [hB] at hx
    simp only [List.mem_append, List.nil_append, List.mem_flatMap] at hx
    rcases hx with ((h | h | h) | h) | ⟨m, _, h⟩
    · exact vputL_lt _ _ h
    · exact vputL_lt _ _ h
    · exact bL_lt _ _ h
    · exact vputL_lt _ _ h
    · exact vputL_lt _ _ h
  refine ⟨s, hs, ?_⟩
  unfold F_note_Put
  rw [note_Check, h0, Option.bind_some, if_neg (by decide), F_wire_New, Option.bind_some, e0, Option.bind_some, if_pos (by rw [hk]; rfl), p2, Option.bind_some, e1, Option.bind_some, e2, Option.bind_some]
  refine wWloop n.legit (by unfold bdM; omega) idB _ _ (fun rc k y hk hy => ?_) (fun rc y hy => ?_) y2 w2
  · have hm := g2 (n.legit.getD k default) (by rw [getD_lt hk]; exact List.getElem_mem hk)
    have hml := idB_len (n.legit.take k)
    rw [List.length_take] at hml
    obtain ⟨z1, f1, v1⟩ := wW_num (z := n.legit.getD k default) hy (by omega) (by unfold inI; omega) (by simp only [List.length_append, List.nil_append, bL_len, toNat_cast]; omega)
    refine ⟨z1, v1, ?_⟩
    simp only [F_note_Put_l3, decide_eq_true_eq, toNat_cast]
    rw [if_pos (by omega), chk_t (by omega), f1, Option.bind_some, chk_t (by unfold inI; omega)]
  · simp only [F_note_Put_l3, decide_eq_true_eq]
    rw [if_neg (by omega)]
    obtain ⟨t, e4, w4⟩ := wW_done hy
    unfold F_note_Put_k1
    rw [e4, Option.bind_some]
    have : t = s := bL_inj (by rw [w4, hs, hB]; simp only [List.append_assoc, List.nil_append, toNat_cast])
    rw [this]

theorem ref10_Put_1 (n : ENote) (hb : bdENote n) (hk : n.k = 1) (h0 : noteCheck n = 0) : ∃ s, bL s = noteB n ∧ F_ref10_Put n = some (s, 0) := by
  obtain ⟨hc, hg⟩ := noteCheck_1 hk h0
  obtain ⟨g1, g2⟩ := legitCheck_ok hg
  obtain ⟨_, _, _, c4, _, _⟩ := confCheck_ok hc
  have hv0 := vputL_len n.k.toNat
  have hv1 := vputL_len n.legit.length
  have hcl := confB_len c4
  obtain ⟨p, p1, p2⟩ := ref07_Put n.conf hb.conf hc
  have hps : p.size = (confB n.conf).length := by rw [← bL_len, p1]
  have hv2 := vputL_len p.size
  obtain ⟨y0, e0, w0⟩ := w2_num (x := default) (z := n.k) Wt.r0 (by omega) (by unfold inI; omega) (by simp)
  obtain ⟨y1, e1, w1⟩ := w2_text p w0 (by simp only [List.nil_append]; omega)
  obtain ⟨y2, e2, w2⟩ := w2_num (z := (n.legit.length : Int)) w1 (by omega) (by unfold inI; omega) (by simp only [List.length_append, List.nil_append, bL_len]; omega)
  have hB : noteB n = (([] ++ vputL n.k.toNat) ++ (vputL p.size ++ bL p)) ++ vputL n.legit.length ++ n.legit.flatMap idB := by
    unfold noteB; rw [if_pos hk, hps, p1]; simp only [List.append_assoc, List.nil_append]
  obtain ⟨s, hs⟩ : ∃ s : ByteArray, bL s = noteB n := bytesOf fun x hx => by
    rw [hB] at hx
    simp only [List.mem_append, List.nil_append, List.mem_flatMap] at hx
    rcases hx with ((h | h | h) | h) | ⟨m, _, h⟩
    · exact vputL_lt _ _ h
    · exact vputL_lt _ _ h
    · exact bL_lt _ _ h
    · exact vputL_lt _ _ h
    · exact vputL_lt _ _ h
  refine ⟨s, hs, ?_⟩
  unfold F_ref10_Put
  rw [ref10_Check, h0, Option.bind_some, if_neg (by decide), e0, Option.bind_some, if_pos (by rw [hk]; rfl), p2, Option.bind_some, e1, Option.bind_some, e2, Option.bind_some]
  refine w2loop n.legit (by unfold bdM; omega) idB _ _ (fun rc k y hk hy => ?_) (fun rc y hy => ?_) y2 w2
  · have hm := g2 (n.legit.getD k default) (by rw [getD_lt hk]; exact List.getElem_mem hk)
    have hml := idB_len (n.legit.take k)
    rw [List.length_take] at hml
    obtain ⟨z1, f1, v1⟩ := w2_num (z := n.legit.getD k default) hy (by omega) (by unfold inI; omega) (by simp only [List.length_append, List.nil_append, bL_len, toNat_cast]; omega)
    refine ⟨z1, v1, ?_⟩
    simp only [F_ref10_Put_l2, decide_eq_true_eq, toNat_cast]
    rw [if_pos (by omega), chk_t (by omega), show ({ s := y.s, e := y.e } : Eref02_Writer) = y from rfl, f1, Option.bind_some, chk_t (by unfold inI; omega)]
  · simp only [F_ref10_Put_l2, decide_eq_true_eq]
    rw [if_neg (by omega)]
    obtain ⟨t, e4, w4⟩ := w2_done hy
    unfold F_ref10_Put_k1
    rw [show ({ s := y.s, e := y.e } : Eref02_Writer) = y from rfl, e4, Option.bind_some]
    have : t = s := bL_inj (by rw [w4, hs, hB]; simp only [List.append_assoc, List.nil_append, toNat_cast])
    rw [this]

theorem note_Put (n : ENote) (hb : bdENote n) (h0 : noteCheck n = 0) : ∃ s, bL s = noteB n ∧ F_note_Put n = some (s, 0) := by
  rcases noteCheck_k h0 with hk | hk | hk | hk | hk | hk | hk | hk
  · exact note_Put_1 n hb hk h0
  · have := note_Put_2 n hb hk h0; unfold noteB; simp only [hk] at this ⊢; simpa using this
  · have := note_Put_3 n hb hk h0; unfold noteB; simp only [hk] at this ⊢; simpa using this
  · have := note_Put_4 n hb hk h0; unfold noteB; simp only [hk] at this ⊢; simpa using this
  · have := note_Put_5 n hb hk h0; unfold noteB; simp only [hk] at this ⊢; simpa using this
  · have := note_Put_6 n hb hk h0; unfold noteB; simp only [hk] at this ⊢; simpa using this
  · have := note_Put_7 n hb hk h0; unfold noteB; simp only [hk] at this ⊢; simpa using this
  · have := note_Put_8 n hb hk h0; unfold noteB; simp only [hk] at this ⊢; simpa using this

theorem ref10_Put (n : ENote) (hb : bdENote n) (h0 : noteCheck n = 0) : ∃ s, bL s = noteB n ∧ F_ref10_Put n = some (s, 0) := by
  rcases noteCheck_k h0 with hk | hk | hk | hk | hk | hk | hk | hk
  · exact ref10_Put_1 n hb hk h0
  · have := ref10_Put_2 n hb hk h0; unfold noteB; simp only [hk] at this ⊢; simpa using this
  · have := ref10_Put_3 n hb hk h0; unfold noteB; simp only [hk] at this ⊢; simpa using this
  · have := ref10_Put_4 n hb hk h0; unfold noteB; simp only [hk] at this ⊢; simpa using this
  · have := ref10_Put_5 n hb hk h0; unfold noteB; simp only [hk] at this ⊢; simpa using this
  · have := ref10_Put_6 n hb hk h0; unfold noteB; simp only [hk] at this ⊢; simpa using this
  · have := ref10_Put_7 n hb hk h0; unfold noteB; simp only [hk] at this ⊢; simpa using this
  · have := ref10_Put_8 n hb hk h0; unfold noteB; simp only [hk] at this ⊢; simpa using this

theorem notePut_both (n : ENote) (hb : bdENote n) : ∃ p, F_note_Put n = some p ∧ F_ref10_Put n = some p ∧ p.2 = noteCheck n ∧ (noteCheck n = 0 → bL p.1 = noteB n) := by
  by_cases h : noteCheck n = 0
  · obtain ⟨s, h1, h2⟩ := note_Put n hb h
    obtain ⟨t, h3, h4⟩ := ref10_Put n hb h
    have : s = t := bL_inj (h1.trans h3.symm)
    subst this
    exact ⟨(s, 0), h2, h4, h.symm, fun _ => h1⟩
  · have h1 : (noteCheck n != 0) = true := bne_iff_ne.2 h
    refine ⟨(⟨#[]⟩, noteCheck n), ?_, ?_, rfl, fun x => absurd x h⟩
    · unfold F_note_Put; rw [note_Check, Option.bind_some, if_pos h1]
    · unfold F_ref10_Put; rw [ref10_Check, Option.bind_some, if_pos h1]

-- its own parts
def cleanNote (n : ENote) : ENote :=
  if n.k = 1 then { (default : ENote) with k := n.k, conf := n.conf, legit := n.legit }
  else if n.k = 2 then { (default : ENote) with k := n.k, n := n.n, entry := n.entry }
  else if n.k = 3 ∨ n.k = 4 then { (default : ENote) with k := n.k, n := n.n, at_ := n.at_ }
  else if n.k = 5 ∨ n.k = 7 then { (default : ENote) with k := n.k, n := n.n }
  else if n.k = 6 then { (default : ENote) with k := n.k, pin := n.pin }
  else if n.k = 8 then { (default : ENote) with k := n.k, said := n.said }
  else default

theorem ref10_Clean (n : ENote) : F_ref10_Clean n = some (cleanNote n) := by
  unfold F_ref10_Clean F_ref10_Clean_k2 F_ref10_Clean_k3 F_ref10_Clean_k1 cleanNote
  by_cases c1 : n.k = 1
  · simp [c1]; (repeat' constructor)
  by_cases c2 : n.k = 2
  · simp [c2]; (repeat' constructor)
  by_cases c3 : n.k = 3
  · simp [c3]; (repeat' constructor)
  by_cases c4 : n.k = 4
  · simp [c4]; (repeat' constructor)
  by_cases c5 : n.k = 5
  · simp [c5]; (repeat' constructor)
  by_cases c6 : n.k = 6
  · simp [c6]; (repeat' constructor)
  by_cases c7 : n.k = 7
  · simp [c7]; (repeat' constructor)
  by_cases c8 : n.k = 8
  · simp [c8]; (repeat' constructor)
  simp [c1, c2, c3, c4, c5, c6, c7, c8]

-- the same
theorem eqInts (l1 l2 : List Int) (hl : l1.length = l2.length) (hb : l1.length ≤ bdM) (body : (Int → Option Bool) → Int → Option Bool)
    (h : ∀ rc (k : Nat), body rc (k : Int) = if k < l1.length then (if ((l1.getD k default) != (l2.getD k default)) = true then some false else rc ((k : Int) + 1)) else some true) : iter body FU 0 = some (decide (l1 = l2)) := by
  refine (iter_up l1.length (fun k => some (decide (l1.drop k = l2.drop k))) hb fun rc k hk hrc => ?_).trans (by simp only [List.drop_zero])
  rw [h]
  by_cases h1 : k < l1.length
  · rw [if_pos h1, drop_cons (d := default) h1, drop_cons (d := default) (l := l2) (by omega)]
    by_cases he : l1.getD k default = l2.getD k default
    · rw [he, if_neg (by simp), hrc h1]
      congr 1
      exact decide_eq_decide.2 ⟨fun e => by rw [e], fun e => (List.cons.inj e).2⟩
    · rw [if_pos (bne_iff_ne.2 he)]
      congr 1
      exact (decide_eq_false fun e => he (List.cons.inj e).1).symm
  · rw [if_neg h1, List.drop_eq_nil_of_le (by omega), List.drop_eq_nil_of_le (by omega)]; rfl

theorem ref10_SameInts (a b : List Int) (ha : a.length ≤ bdM) : F_ref10_SameInts a b = some (decide (a = b)) := by
  unfold F_ref10_SameInts
  simp only [bne_iff_ne]
  split
  · rename_i h; congr 1; exact (decide_eq_false fun e => by rw [e] at h; simp at h).symm
  · rename_i h
    have h3 : a.length = b.length := by
      have : (a.length : Int) = b.length := Decidable.not_not.1 h
      omega
    refine eqInts a b h3 ha _ fun rc k => ?_
    unfold F_ref10_SameInts_l1
    dsimp only
    rw [toNat_cast]
    by_cases hk : k < a.length
    · rw [if_pos (by rw [decide_eq_true (by omega), decide_eq_true (by omega)]; rfl), if_pos hk, chk_t (by omega), chk_t (by omega), chk_t (by unfold inI; unfold bdM at ha; omega)]
    · rw [if_neg (by rw [decide_eq_false (by omega)]; exact Bool.false_ne_true), if_neg hk]

def sameNote (a b : ENote) : Bool := ((((((a.k == b.k) && (a.n == b.n)) && (a.at_ == b.at_)) && sameConf a.conf b.conf) && decide (a.legit = b.legit)) && sameEntry a.entry b.entry) && eqEPin a.pin b.pin && eqEAnswer a.said b.said

theorem sameNote_self (a : ENote) : sameNote a a = true := by
  unfold sameNote
  rw [sameConf_self, sameEntry_self, eqEPin_iff.2 rfl, eqEAnswer_iff.2 rfl]
  simp

theorem and_if (p x : Bool) : (p && (if p = true then x else default)) = (p && x) := by cases p <;> rfl

theorem ref10_Same (a b : ENote) (h1 : a.conf.members.length ≤ bdM) (h2 : a.legit.length ≤ bdM) (h3 : a.entry.batch.ops.length ≤ bdM) : F_ref10_Same a b = some (sameNote a b) := by
  unfold F_ref10_Same sameNote
  rw [ref07_Same _ _ h1, gif_some, Option.bind_some, and_if, ref10_SameInts _ _ h2, gif_some, Option.bind_some, and_if, ref08_Same _ _ h3, gif_some, Option.bind_some, and_if]

theorem cleanNote_bd (n : ENote) (h1 : n.conf.members.length ≤ bdM) (h2 : n.legit.length ≤ bdM) (h3 : n.entry.batch.ops.length ≤ bdM) : (cleanNote n).conf.members.length ≤ bdM ∧ (cleanNote n).legit.length ≤ bdM ∧ (cleanNote n).entry.batch.ops.length ≤ bdM := by
  unfold cleanNote
  (repeat' split) <;> (refine ⟨?_, ?_, ?_⟩ <;> first | assumption | exact Nat.zero_le _)

end Go.Proofs.Ytbfglbbbkcpgeaa
