/- Messages read out of bytes: the whole. -/
import Derived.Test.YthmjkcdpbbcdgaaYMsT
import Derived.Test.YthmjkcdpbbcdgaaYMsR
namespace Go.Proofs.Ythmjkcdpbbcdgaa

theorem confOf_len2 (s : ByteArray) (hs : s.size ≤ maxLen) : (confOf s).1.members.length ≤ bdM := by
 by_cases h : (confOf s).2 = 0
 ·have := (confCheck_ok (confOf_back s hs h).1).2.2.2.1; unfold bdM; omega
 ·rw [confOf_err s h]; exact Nat.zero_le _

theorem batchOf_len2 (s : ByteArray) (hs : s.size ≤ maxLen) : (batchOf s).1.ops.length ≤ bdM := by
 by_cases h : (batchOf s).2 = 0
 ·have := (batchCheck_ok (batchOf_back s hs h).1).2.2.2.2.1; unfold bdM; omega
 ·rw [batchOf_err s h]; exact Nat.zero_le _

theorem entryOf_len2 (s : ByteArray) (hs : s.size ≤ maxLen) : (entryOf s).1.batch.ops.length ≤ bdM := by
 by_cases h : (entryOf s).2 = 0
 ·have := (batchCheck_ok (entryOf_back s hs h).1).2.2.2.2.1; unfold bdM; omega
 ·rw [entryOf_err s h]; exact Nat.zero_le _

theorem several_len : ∀ (n : Nat) (r : DReaderR), rdOk r → (severalR n r).1.length ≤ n ∧ ∀ e ∈ (severalR n r).1, e.batch.ops.length ≤ bdM
 | 0, _, _ => ⟨Nat.zero_le _, fun e h => by cases h⟩
 | n + 1, r, h => by
  unfold severalR
  split; · exact ⟨Nat.zero_le _, fun e h => by cases h⟩
  split; · exact ⟨Nat.zero_le _, fun e h => by cases h⟩
  split; · exact ⟨Nat.zero_le _, fun e h => by cases h⟩
  obtain ⟨g1, g2⟩ := several_len n _ (rText_ok (most := 65536) h)
  refine ⟨Nat.succ_le_succ g1, fun e he => ?_⟩
  rcases List.mem_cons.1 he with rfl | he
  ·exact entryOf_len2 _ (rTextV_size _ h _)
  ·exact g2 e he

structure okM (m : EMsg) (k : Nat) : Prop where
 s : m.stamps.length ≤ 8 * k
 e : m.entries.length ≤ 4
 p : m.pairs.length ≤ 32
 c : m.conf.members.length ≤ bdM
 o : m.batch.ops.length ≤ bdM
 eo : ∀ e ∈ m.entries, e.batch.ops.length ≤ bdM

theorem okM.S {m : EMsg} {k : Nat} (h : okM m k) (hk : k ≤ 7) : bdS m := by
 have e1 := h.s; have e2 := h.e; have e3 := h.p
 exact ⟨h.c, h.o, by unfold bdM; omega, fun j hj => h.eo _ (by rw [getD_lt hj]; exact List.getElem_mem _), by unfold bdM; omega, by unfold bdM; omega⟩

theorem okM.up {m : EMsg} {k j : Nat} (h : okM m k) (hk : k ≤ j) : okM m j := ⟨by have := h.s; omega, h.e, h.p, h.c, h.o, h.eo⟩

theorem part_okM {r : DReaderR} {m : EMsg} {k c : Nat} (hr : rdOk r) (h : okM m k) : okM (partR r m c).2.1 (k + 1) := by
 have h' := h.up (Nat.le_succ k)
 have n4 := rNumV_le (r := r) (most := 4) (by decide)
 have n8 := rNumV_le (r := r) (most := 8) (by decide)
 have n32 := rNumV_le (r := r) (most := 32) (by decide)
 unfold partR
 split <;> first | exact h' | exact ⟨h'.s, h'.e, h'.p, h'.c, h'.o, h'.eo⟩ | skip
 ·unfold innerR; split
  ·exact ⟨h'.s, h'.e, h'.p, Nat.zero_le _, h'.o, h'.eo⟩
  ·exact ⟨h'.s, h'.e, h'.p, confOf_len2 _ (rTextV_size _ hr _), h'.o, h'.eo⟩
 ·unfold innerR; split
  ·exact ⟨h'.s, h'.e, h'.p, h'.c, Nat.zero_le _, h'.eo⟩
  ·exact ⟨h'.s, h'.e, h'.p, h'.c, batchOf_len2 _ (rTextV_size _ hr _), h'.eo⟩
 ·obtain ⟨g1, g2⟩ := several_len (rNumV r 4).toNat (rNum r 4) (rNum_ok hr)
  exact ⟨h'.s, Nat.le_trans g1 (by omega), h'.p, h'.c, h'.o, g2⟩
 ·refine ⟨?_, h'.e, h'.p, h'.c, h'.o, h'.eo⟩
  have := h.s
  show (m.stamps ++ (listRd bigRd (rNumV r 8).toNat (rNum r 8)).1).length ≤ _
  rw [List.length_append, listRd_len]; omega
 ·refine ⟨h'.s, h'.e, ?_, h'.c, h'.o, h'.eo⟩
  show (listRd pairRd (rNumV r 32).toNat (rNum r 32)).1.length ≤ _
  rw [listRd_len]; omega

theorem part_ok {r : DReaderR} {m : EMsg} {c : Nat} (hr : rdOk r) : rdOk (partR r m c).2.2 := by
 unfold partR
 split <;> first | exact hr | exact rNum_ok hr | exact rBig_ok hr | exact rFlag_ok hr | exact rText_ok hr | exact several_ok _ _ (rNum_ok hr) | exact listRd_ok bigRd_ok _ _ (rNum_ok hr) | exact listRd_ok pairRd_ok _ _ (rNum_ok hr) | (unfold innerR; split <;> exact rText_ok hr)

/-- other parts stay -/
theorem part_keep {r : DReaderR} {m : EMsg} {c : Nat} : (c ≠ 69 → (partR r m c).2.1.entries = m.entries) ∧ (c ≠ 82 → (partR r m c).2.1.pairs = m.pairs) ∧ (partR r m c).2.1.k = m.k := by
 unfold partR
 split <;> first | exact ⟨fun _ => rfl, fun _ => rfl, rfl⟩ | exact ⟨fun h => absurd rfl h, fun _ => rfl, rfl⟩ | exact ⟨fun _ => rfl, fun h => absurd rfl h, rfl⟩ | (unfold innerR; split <;> exact ⟨fun _ => rfl, fun _ => rfl, rfl⟩)

def ofL : List Nat → DReaderR → EMsg → Int × EMsg × DReaderR
 | [], r, m => (0, m, r)
 | c :: L, r, m => if (partR r m c).1 ≠ 0 then ((partR r m c).1, default, (partR r m c).2.2) else ofL L (partR r m c).2.2 (partR r m c).2.1

def msgEnd (q : Int × EMsg × DReaderR) : EMsg × Int :=
 if q.1 ≠ 0 then (default, q.1) else if rEnd q.2.2 ≠ 0 then (default, rEnd q.2.2) else if msgCheck q.2.1 ≠ 0 then (default, msgCheck q.2.1) else (q.2.1, 0)

def msgOf (s : ByteArray) : EMsg × Int :=
 if (rNum ⟨s, 0, 0⟩ 15).e ≠ 0 then (default, (rNum ⟨s, 0, 0⟩ 15).e)
 else if rNumV ⟨s, 0, 0⟩ 15 = 0 then (default, 11)
 else msgEnd (ofL (lettersK (rNumV ⟨s, 0, 0⟩ 15)) (rNum ⟨s, 0, 0⟩ 15) { (default : EMsg) with k := rNumV ⟨s, 0, 0⟩ 15 })

theorem msgEnd_0 (r : DReaderR) (m : EMsg) : msgEnd (0, m, r) = if rEnd r ≠ 0 then (default, rEnd r) else if msgCheck m ≠ 0 then (default, msgCheck m) else (m, 0) := if_neg (fun h => h rfl)

theorem mess_Of_loop (p : ByteArray) (L : List Nat) (h4 : p.size = L.length) (h5 : L.length ≤ 7) (h6 : ∀ k, k < L.length → runeAt p k = (L.getD k 0 : Nat) ∧ nxP p k = k + 1 ∧ byteAt p k = L.getD k 0) (h7 : ∀ c ∈ L, c ∈ okL) :
  ∀ (fu k : Nat) (r : DReaderR) (m : EMsg), rdOk r → okM m k → k ≤ L.length → L.length - k < fu → iter (F_mess_Of_l1 (p, true)) fu (r.s, r.at_, r.e, true, m, k) = some (msgEnd (ofL (L.drop k) r m))
 | 0, _, _, _, _, _, _, hf => by omega
 | fu + 1, k, r, m, h1, h2, hk, hf => by
  have hrec := mess_Of_loop p L h4 h5 h6 h7 fu
  show F_mess_Of_l1 (p, true) (iter (F_mess_Of_l1 (p, true)) fu) _ = _
  generalize iter (F_mess_Of_l1 (p, true)) fu = rc at hrec ⊢
  unfold F_mess_Of_l1
  show (if (decide (k < p.size)) = true then chk (k < p.size) ((F_mess_read (ofRw r) m (runeAt p k)).bind _) else (F_wire_Reader_End (ofRw r)).bind _) = _
  by_cases hk1 : k < L.length
  ·obtain ⟨e1, e2, e3⟩ := h6 k hk1
   have hm : L.getD k 0 ∈ okL := h7 _ (by rw [getD_lt hk1]; exact List.getElem_mem _)
   rw [if_pos (decide_eq_true (by omega)), chk_t (by omega), e1, mess_read h1 (by have := h2.s; omega) hm, Option.bind_some, drop_cons (d := 0) hk1, ofL]
   by_cases c1 : (partR r m (L.getD k 0)).1 ≠ 0
   ·rw [if_pos c1, if_pos (bne_iff_ne.2 c1)]
    show _ = some (if (partR r m (L.getD k 0)).1 ≠ 0 then (default, (partR r m (L.getD k 0)).1) else _)
    rw [if_pos c1]
   ·rw [if_neg c1, if_neg (fun x => c1 (bne_iff_ne.1 x)), e2]
    exact hrec (k + 1) (partR r m (L.getD k 0)).2.2 (partR r m (L.getD k 0)).2.1 (part_ok h1) (part_okM h1 h2) hk1 (by omega)
  ·rw [if_neg (by rw [decide_eq_false (by omega)]; exact Bool.false_ne_true), List.drop_eq_nil_of_le (by omega), ofL, msgEnd_0, wR_end h1, Option.bind_some, F_mess_or__mess_Of_1]
   by_cases c1 : rEnd r ≠ 0
   ·rw [if_pos (bne_iff_ne.2 c1), if_pos c1, Option.bind_some, if_pos (bne_iff_ne.2 c1)]
   ·have hb := h2.S (by omega)
    rw [if_neg (fun x => c1 (bne_iff_ne.1 x)), if_neg c1, F_mess_Of_1, mess_Check m hb.e hb.p, Option.bind_some, Option.bind_some, Option.bind_some]
    by_cases c2 : msgCheck m ≠ 0
    ·rw [if_pos (bne_iff_ne.2 c2), if_pos c2]
    ·rw [if_neg (fun x => c2 (bne_iff_ne.1 x)), if_neg c2]

theorem okM_start (k : Int) : okM { (default : EMsg) with k := k } 0 := ⟨Nat.zero_le _, Nat.zero_le _, Nat.zero_le _, Nat.zero_le _, Nat.zero_le _, fun e h => by cases h⟩

theorem mess_Of (s : ByteArray) (hs : s.size ≤ maxLen) : F_mess_Of s = some (msgOf s) := by
 have k0 := start_ok s hs
 have hv := rNumV_le (r := ⟨s, 0, 0⟩) (most := 15) (by decide)
 unfold F_mess_Of msgOf
 rw [wR_open s hs, Option.bind_some, wR_num k0 i15, Option.bind_some, wR_err, Option.bind_some]
 by_cases c1 : (rNum ⟨s, 0, 0⟩ 15).e ≠ 0
 ·rw [if_pos (bne_iff_ne.2 c1), if_pos c1]
 rw [if_neg (fun x => c1 (bne_iff_ne.1 x)), if_neg c1]
 by_cases c2 : rNumV ⟨s, 0, 0⟩ 15 = 0
 ·rw [if_pos c2, (parts_no (k := rNumV ⟨s, 0, 0⟩ 15) (by omega)).1]; rfl
 ·rw [if_neg c2]
  obtain ⟨p, h1, _, _, ⟨h4, h5, h6⟩, h7⟩ := parts_yes (k := rNumV ⟨s, 0, 0⟩ 15) (by omega)
  rw [h1, Option.bind_some, if_neg (show ¬ (!(p, true).2) = true from Bool.false_ne_true)]
  exact mess_Of_loop p _ h4 h5 h6 h7 FU 0 (rNum ⟨s, 0, 0⟩ 15) _ (rNum_ok k0) (okM_start _) (Nat.zero_le _) (lt_FU (by unfold bdM; omega))

-- the document's
theorem letters_P (k : Int) : (lettersK k).Nodup ∧ (lettersK k).length ≤ 7 := by
 by_cases h : 1 ≤ k ∧ k ≤ 15
 ·have : k = 1 ∨ k = 2 ∨ k = 3 ∨ k = 4 ∨ k = 5 ∨ k = 6 ∨ k = 7 ∨ k = 8 ∨ k = 9 ∨ k = 10 ∨ k = 11 ∨ k = 12 ∨ k = 13 ∨ k = 14 ∨ k = 15 := by omega
  rcases this with rfl | rfl | rfl | rfl | rfl | rfl | rfl | rfl | rfl | rfl | rfl | rfl | rfl | rfl | rfl <;> decide
 ·have : lettersK k = [] := by
   unfold lettersK
   rw [if_neg (by omega), if_neg (by omega), if_neg (by omega), if_neg (by omega), if_neg (by omega), if_neg (by omega), if_neg (by omega), if_neg (by omega), if_neg (by omega), if_neg (by omega), if_neg (by omega), if_neg (by omega), if_neg (by omega), if_neg (by omega)]
  rw [this]; decide

theorem letters_nd (k : Int) : (lettersK k).Nodup := (letters_P k).1

theorem ofL_okM : ∀ (L : List Nat) (r : DReaderR) (m : EMsg) (k : Nat), rdOk r → okM m k → k + L.length ≤ 7 → bdS (ofL L r m).2.1
 | [], _, _, _, _, h, hk => h.S (by simpa using hk)
 | c :: L, r, m, k, hr, h, hk => by
  unfold ofL
  split
  ·exact ⟨Nat.zero_le _, Nat.zero_le _, Nat.zero_le _, fun j hj => absurd hj (Nat.not_lt_zero _), Nat.zero_le _, Nat.zero_le _⟩
  ·exact ofL_okM L _ _ (k + 1) (part_ok hr) (part_okM hr h) (by rw [List.length_cons] at hk; omega)

theorem bdS_dft : bdS default := ⟨Nat.zero_le _, Nat.zero_le _, Nat.zero_le _, fun j hj => absurd hj (Nat.not_lt_zero _), Nat.zero_le _, Nat.zero_le _⟩

theorem letters_7 (k : Int) : (lettersK k).length ≤ 7 := (letters_P k).2

theorem msgOf_S (s : ByteArray) (hs : s.size ≤ maxLen) : bdS (msgOf s).1 := by
 have k0 := start_ok s hs
 unfold msgOf msgEnd
 (repeat' split) <;> first | exact bdS_dft | exact ofL_okM _ _ _ 0 (rNum_ok k0) (okM_start _) (by have := letters_7 (rNumV ⟨s, 0, 0⟩ 15); omega)

end Go.Proofs.Ythmjkcdpbbcdgaa
