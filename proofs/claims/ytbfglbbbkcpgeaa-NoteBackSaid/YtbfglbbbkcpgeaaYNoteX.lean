/- Notes read out of bytes, there and back; NoteReads, NoteBack. (Printed by notex.py.) -/
import Derived.Test.YtbfglbbbkcpgeaaYNoteW
namespace Go.Proofs.Ytbfglbbbkcpgeaa

def base (k : Int) : ENote := { (default : ENote) with k := k }

def idRd (r : DReaderR) : Int × DReaderR := (rNumV r 3, rNum r 3)

def noteRd1 (k : Int) (r : DReaderR) : Int × DReaderR × ENote :=
 if (rText r 65536).e ≠ 0 then ((rText r 65536).e, rText r 65536, base k)
 else if (confOf (rTextV r 65536)).2 ≠ 0 then ((confOf (rTextV r 65536)).2, rText r 65536, { base k with conf := (confOf (rTextV r 65536)).1 })
 else ((listRd idRd (rNumV (rText r 65536) 4).toNat (rNum (rText r 65536) 4)).2.e, (listRd idRd (rNumV (rText r 65536) 4).toNat (rNum (rText r 65536) 4)).2, { base k with conf := (confOf (rTextV r 65536)).1, legit := (listRd idRd (rNumV (rText r 65536) 4).toNat (rNum (rText r 65536) 4)).1 })

def noteRd2 (k : Int) (r : DReaderR) : Int × DReaderR × ENote :=
 if (rText (rNum r 1073741824) 65536).e ≠ 0 then ((rText (rNum r 1073741824) 65536).e, rText (rNum r 1073741824) 65536, { base k with n := rNumV r 1073741824 })
 else ((entryOf (rTextV (rNum r 1073741824) 65536)).2, rText (rNum r 1073741824) 65536, { base k with n := rNumV r 1073741824, entry := (entryOf (rTextV (rNum r 1073741824) 65536)).1 })

def noteRd3 (k : Int) (r : DReaderR) : Int × DReaderR × ENote := ((rBig (rNum r 1073741824)).e, (rBig (rNum r 1073741824)), { base k with n := rNumV r 1073741824, at_ := (rBigV (rNum r 1073741824) : Int) })

def noteRd4 (k : Int) (r : DReaderR) : Int × DReaderR × ENote := ((rNum (rBig r) 1073741824).e, (rNum (rBig r) 1073741824), { base k with at_ := (rBigV r : Int), n := rNumV (rBig r) 1073741824 })

def noteRd5 (k : Int) (r : DReaderR) : Int × DReaderR × ENote := ((rNum r 1073741824).e, (rNum r 1073741824), { base k with n := rNumV r 1073741824 })

def noteRd6 (k : Int) (r : DReaderR) : Int × DReaderR × ENote := ((rNum (rBig (rNum r 1073741824)) 1073741824).e, (rNum (rBig (rNum r 1073741824)) 1073741824), { base k with pin := ⟨rNumV r 1073741824, (rBigV (rNum r 1073741824) : Int), rNumV (rBig (rNum r 1073741824)) 1073741824⟩ })

def noteRd8 (k : Int) (r : DReaderR) : Int × DReaderR × ENote := ((rNum (rNum (rNum (rNum r 2) 1073741824) 21) 1073741824).e, (rNum (rNum (rNum (rNum r 2) 1073741824) 21) 1073741824), { base k with said := ⟨rNumV r 2, rNumV (rNum r 2) 1073741824, rNumV (rNum (rNum r 2) 1073741824) 21, rNumV (rNum (rNum (rNum r 2) 1073741824) 21) 1073741824⟩ })

def noteRd (k : Int) (r : DReaderR) : Int × DReaderR × ENote :=
 if k = 1 then noteRd1 k r else if k = 2 then noteRd2 k r else if k = 3 then noteRd3 k r else if k = 4 then noteRd4 k r else if k = 5 ∨ k = 7 then noteRd5 k r else if k = 6 then noteRd6 k r else if k = 8 then noteRd8 k r else (r.e, r, base k)

def noteEnd (r : DReaderR) (n : ENote) : ENote × Int := if rEnd r ≠ 0 then (default, rEnd r) else if noteCheck n ≠ 0 then (default, noteCheck n) else (n, 0)

def noteFin (x : Int × DReaderR × ENote) : ENote × Int := if x.1 ≠ 0 then (default, x.1) else noteEnd x.2.1 x.2.2

def noteOf (s : ByteArray) : ENote × Int := if (rNum ⟨s, 0, 0⟩ 8).e = 0 ∧ rNumV ⟨s, 0, 0⟩ 8 = 0 then (default, 11) else noteFin (noteRd (rNumV ⟨s, 0, 0⟩ 8) (rNum ⟨s, 0, 0⟩ 8))

theorem iM : inI 1073741824 := by unfold inI; omega

theorem i64K : inI 65536 := by unfold inI; omega

theorem idRd_ok (r : DReaderR) (h : rdOk r) : rdOk (idRd r).2 := rNum_ok h

-- the program
theorem note_read_k1 (r : DReaderR) (n : ENote) : F_note_read_k1 r.s r.at_ r.e true n = some (r.e, ofRw r, n) := by
 unfold F_note_read_k1
 rw [show ({ s := r.s, at_ := r.at_, e := r.e, made := true } : Ewire_Reader) = ofRw r from rfl, wR_err]; rfl

theorem note_read_loop (n0 : Int × Ewire_Reader) (nb : ENote) (hb : nb.legit = []) (n : Nat) (hn : n0.1 = (n : Int)) (hn4 : n ≤ 4) (r : DReaderR) (hr : rdOk r) : iter (F_note_read_l3 n0) FU (0, r.s, r.at_, r.e, true, nb) = some ((listRd idRd n r).2.e, ofRw (listRd idRd n r).2, { nb with legit := (listRd idRd n r).1 }) := by
 refine (iter_up2 (σ := ByteArray × Int × Int × Bool × ENote) n (fun k st => some ((listRd idRd (n - k) ⟨st.1, st.2.1, st.2.2.1⟩).2.e, ofRw (listRd idRd (n - k) ⟨st.1, st.2.1, st.2.2.1⟩).2, { nb with legit := st.2.2.2.2.legit ++ (listRd idRd (n - k) ⟨st.1, st.2.1, st.2.2.1⟩).1 })) (fun k st => rdOk ⟨st.1, st.2.1, st.2.2.1⟩ ∧ st.2.2.2.1 = true ∧ st.2.2.2.2.legit.length = k ∧ st.2.2.2.2 = { nb with legit := st.2.2.2.2.legit }) (by unfold bdM; omega) (s0 := (r.s, r.at_, r.e, true, nb)) ⟨hr, rfl, by rw [hb]; rfl, rfl⟩ fun rc k st hk hp hrc => ?_).trans (by rw [hb, List.nil_append, Nat.sub_zero])
 obtain ⟨t, a, e, md, nn⟩ := st
 obtain ⟨h1, h2, h3, h4⟩ := hp
 change rdOk ⟨t, a, e⟩ at h1
 change md = true at h2
 change nn.legit.length = k at h3
 change nn = { nb with legit := nn.legit } at h4
 subst h2
 unfold F_note_read_l3
 show (if (decide ((k : Int) < n0.1)) = true then (F_wire_Reader_Num (ofRw ⟨t, a, e⟩) 3).bind _ else F_note_read_k1 (DReaderR.mk t a e).s (DReaderR.mk t a e).at_ (DReaderR.mk t a e).e true nn) = _
 rw [wR_num h1 (by unfold inI; omega), Option.bind_some, note_read_k1, hn]
 by_cases hk1 : k < n
 ·rw [if_pos (decide_eq_true (by omega)), chk_t (by rw [h3]; show ((k + 1 : Nat) : Int) * 8 ≤ _; omega), chk_t (by unfold inI; omega)]
  refine (hrc ((rNum ⟨t, a, e⟩ 3).s, (rNum ⟨t, a, e⟩ 3).at_, (rNum ⟨t, a, e⟩ 3).e, true, { nn with legit := nn.legit ++ [rNumV ⟨t, a, e⟩ 3] }) hk1 ⟨rNum_ok h1, rfl, by show (nn.legit ++ [_]).length = _; rw [List.length_append, h3]; rfl, by rw [h4]⟩).trans ?_
  rw [show n - k = (n - (k + 1)) + 1 by omega]
  show some (_, _, { nb with legit := (nn.legit ++ [_]) ++ _ }) = some (_, _, { nb with legit := nn.legit ++ (_ :: _) })
  rw [List.append_assoc]; rfl
 ·rw [if_neg (by rw [decide_eq_false (by omega)]; exact Bool.false_ne_true), show n - k = 0 by omega]
  show _ = some ((DReaderR.mk t a e).e, ofRw ⟨t, a, e⟩, { nb with legit := nn.legit ++ [] })
  rw [List.append_nil, ← h4]

theorem note_read_1 (r : DReaderR) (hr : rdOk r) : F_note_read (ofRw r) (base 1) = some ((noteRd1 1 r).1, ofRw (noteRd1 1 r).2.1, (noteRd1 1 r).2.2) := by
 have k1 := rText_ok (most := 65536) hr
 unfold F_note_read F_note_inner_api_Conf__conf_Of noteRd1
 rw [if_pos (by decide), wR_text hr i64K, Option.bind_some, wR_err, Option.bind_some, conf_Of _ (rTextV_size _ hr _), Option.bind_some]
 by_cases h1 : (rText r 65536).e = 0
 ·rw [if_neg (show ¬ (rText r 65536).e ≠ 0 from fun x => x h1), if_neg (by rw [h1]; decide), Option.bind_some]
  dsimp only
  by_cases h2 : (confOf (rTextV r 65536)).2 = 0
  ·rw [if_neg (show ¬ (confOf (rTextV r 65536)).2 ≠ 0 from fun x => x h2), if_neg (by rw [h2]; decide), wR_num k1 (by unfold inI; omega), Option.bind_some]
   obtain ⟨n, hn⟩ := rNumV_nat (rText r 65536) 4
   have hn4 := (rNumV_le (r := rText r 65536) (most := 4) (by decide)).2
   rw [hn] at hn4 ⊢
   exact note_read_loop ((n : Int), ofRw (rNum (rText r 65536) 4)) { base 1 with conf := (confOf (rTextV r 65536)).1 } rfl n rfl (by omega) (rNum (rText r 65536) 4) (rNum_ok k1)
  ·rw [if_pos h2, if_pos (bne_iff_ne.2 h2)]
 ·rw [if_pos h1, if_pos (bne_iff_ne.2 h1), Option.bind_some, if_pos (bne_iff_ne.2 h1)]

theorem note_read_2 (r : DReaderR) (hr : rdOk r) : F_note_read (ofRw r) (base 2) = some ((noteRd2 2 r).1, ofRw (noteRd2 2 r).2.1, (noteRd2 2 r).2.2) := by
 have k1 := rNum_ok (most := 1073741824) hr
 unfold F_note_read F_note_inner_api_Entry__item_Of noteRd2
 rw [if_neg (by decide), if_pos (by decide), wR_num hr iM, Option.bind_some]
 dsimp only
 rw [wR_text k1 i64K, Option.bind_some, wR_err, Option.bind_some, item_Of _ (rTextV_size _ k1 _), Option.bind_some]
 by_cases h1 : (rText (rNum r 1073741824) 65536).e = 0
 ·rw [if_neg (show ¬ (rText (rNum r 1073741824) 65536).e ≠ 0 from fun x => x h1), if_neg (by rw [h1]; decide)]; rfl
 ·rw [if_pos h1, if_pos (bne_iff_ne.2 h1)]; rfl

theorem note_read_3 (r : DReaderR) (hr : rdOk r) : F_note_read (ofRw r) (base 3) = some ((noteRd3 3 r).1, ofRw (noteRd3 3 r).2.1, (noteRd3 3 r).2.2) := by
 unfold F_note_read noteRd3
 rw [if_neg (by decide), if_neg (by decide)]
 rw [if_pos (by decide), wR_num hr iM, Option.bind_some, wR_big (rNum_ok hr) , Option.bind_some]
 exact note_read_k1 (rBig (rNum r 1073741824)) _

theorem note_read_4 (r : DReaderR) (hr : rdOk r) : F_note_read (ofRw r) (base 4) = some ((noteRd4 4 r).1, ofRw (noteRd4 4 r).2.1, (noteRd4 4 r).2.2) := by
 unfold F_note_read noteRd4
 rw [if_neg (by decide), if_neg (by decide), if_neg (by decide)]
 rw [if_pos (by decide), wR_big hr , Option.bind_some]
 unfold F_note_read_k2
 dsimp only
 rw [show (({ s := (ofRw (rBig r)).s, at_ := (ofRw (rBig r)).at_, e := (ofRw (rBig r)).e, made := (ofRw (rBig r)).made } : Ewire_Reader)) = ofRw (rBig r) from rfl, wR_num (rBig_ok hr) iM, Option.bind_some]
 exact note_read_k1 (rNum (rBig r) 1073741824) _

theorem note_read_5 (r : DReaderR) (hr : rdOk r) : F_note_read (ofRw r) (base 5) = some ((noteRd5 5 r).1, ofRw (noteRd5 5 r).2.1, (noteRd5 5 r).2.2) := by
 unfold F_note_read noteRd5
 rw [if_neg (by decide), if_neg (by decide), if_neg (by decide), if_neg (by decide)]
 rw [if_pos (by decide)]
 unfold F_note_read_k4 F_note_read_k2
 rw [if_pos (by decide), show (({ s := (ofRw r).s, at_ := (ofRw r).at_, e := (ofRw r).e, made := (ofRw r).made } : Ewire_Reader)) = ofRw r from rfl, wR_num hr iM, Option.bind_some]
 exact note_read_k1 (rNum r 1073741824) _

theorem note_read_6 (r : DReaderR) (hr : rdOk r) : F_note_read (ofRw r) (base 6) = some ((noteRd6 6 r).1, ofRw (noteRd6 6 r).2.1, (noteRd6 6 r).2.2) := by
 unfold F_note_read noteRd6
 rw [if_neg (by decide), if_neg (by decide), if_neg (by decide), if_neg (by decide), if_neg (by decide)]
 unfold F_note_read_k4
 rw [if_neg (by decide), if_pos (by decide), wR_num hr iM, Option.bind_some, wR_big (rNum_ok hr) , Option.bind_some, wR_num (rBig_ok (rNum_ok hr)) iM, Option.bind_some]
 exact note_read_k1 (rNum (rBig (rNum r 1073741824)) 1073741824) _

theorem note_read_7 (r : DReaderR) (hr : rdOk r) : F_note_read (ofRw r) (base 7) = some ((noteRd5 7 r).1, ofRw (noteRd5 7 r).2.1, (noteRd5 7 r).2.2) := by
 unfold F_note_read noteRd5
 rw [if_neg (by decide), if_neg (by decide), if_neg (by decide), if_neg (by decide), if_neg (by decide)]
 unfold F_note_read_k4 F_note_read_k2
 rw [if_pos (by decide), show (({ s := (ofRw r).s, at_ := (ofRw r).at_, e := (ofRw r).e, made := (ofRw r).made } : Ewire_Reader)) = ofRw r from rfl, wR_num hr iM, Option.bind_some]
 exact note_read_k1 (rNum r 1073741824) _

theorem note_read_8 (r : DReaderR) (hr : rdOk r) : F_note_read (ofRw r) (base 8) = some ((noteRd8 8 r).1, ofRw (noteRd8 8 r).2.1, (noteRd8 8 r).2.2) := by
 unfold F_note_read noteRd8
 rw [if_neg (by decide), if_neg (by decide), if_neg (by decide), if_neg (by decide), if_neg (by decide)]
 unfold F_note_read_k4
 rw [if_neg (by decide), if_neg (by decide), if_pos (by decide), wR_num hr (by unfold inI; omega), Option.bind_some, wR_num (rNum_ok hr) iM, Option.bind_some, wR_num (rNum_ok (rNum_ok hr)) (by unfold inI; omega), Option.bind_some, wR_num (rNum_ok (rNum_ok (rNum_ok hr))) iM, Option.bind_some]
 exact note_read_k1 (rNum (rNum (rNum (rNum r 2) 1073741824) 21) 1073741824) _

theorem note_read_0 (r : DReaderR) : F_note_read (ofRw r) (base 0) = some (r.e, ofRw r, base 0) := by
 unfold F_note_read F_note_read_k4
 rw [if_neg (by decide), if_neg (by decide), if_neg (by decide), if_neg (by decide), if_neg (by decide), if_neg (by decide), if_neg (by decide), if_neg (by decide)]
 exact note_read_k1 r _

theorem kinds (z : Int) (h : 0 ≤ z ∧ z ≤ 8) : z = 0 ∨ z = 1 ∨ z = 2 ∨ z = 3 ∨ z = 4 ∨ z = 5 ∨ z = 6 ∨ z = 7 ∨ z = 8 := by omega

theorem note_read (r : DReaderR) (hr : rdOk r) (k : Int) (hk : 0 ≤ k ∧ k ≤ 8) : F_note_read (ofRw r) (base k) = some ((noteRd k r).1, ofRw (noteRd k r).2.1, (noteRd k r).2.2) := by
 rcases kinds k hk with rfl | rfl | rfl | rfl | rfl | rfl | rfl | rfl | rfl
 ·exact note_read_0 r
 ·exact note_read_1 r hr
 ·exact note_read_2 r hr
 ·exact note_read_3 r hr
 ·exact note_read_4 r hr
 ·exact note_read_5 r hr
 ·exact note_read_6 r hr
 ·exact note_read_7 r hr
 ·exact note_read_8 r hr

theorem listRd_ok {α : Type} {f : DReaderR → α × DReaderR} (hf : ∀ r, rdOk r → rdOk (f r).2) : ∀ (n : Nat) (r : DReaderR), rdOk r → rdOk (listRd f n r).2
 | 0, _, h => h
 | n + 1, r, h => listRd_ok hf n _ (hf r h)

theorem noteRd_ok (k : Int) (r : DReaderR) (hr : rdOk r) : rdOk (noteRd k r).2.1 := by
 unfold noteRd noteRd1 noteRd2 noteRd3 noteRd4 noteRd5 noteRd6 noteRd8
 (repeat' split)
 ·exact rText_ok hr
 ·exact rText_ok hr
 ·exact listRd_ok idRd_ok _ _ (rNum_ok (rText_ok hr))
 ·exact rText_ok (rNum_ok hr)
 ·exact rText_ok (rNum_ok hr)
 ·exact rBig_ok (rNum_ok hr)
 ·exact rNum_ok (rBig_ok hr)
 ·exact rNum_ok hr
 ·exact rNum_ok (rBig_ok (rNum_ok hr))
 ·exact rNum_ok (rNum_ok (rNum_ok (rNum_ok hr)))
 ·exact hr

theorem note_Of_k1 (x : Int × DReaderR × ENote) (e : Int) : F_note_Of_k1 (x.1, ofRw x.2.1, x.2.2) e = some (if e ≠ 0 then (default, e) else if noteCheck x.2.2 ≠ 0 then (default, noteCheck x.2.2) else (x.2.2, 0)) := by
 unfold F_note_Of_k1 F_note_Of_k2
 dsimp only
 rw [note_Check, Option.bind_some]
 by_cases h : e = 0
 ·rw [if_pos (show (e == 0) = true by rw [h]; rfl), if_neg (show ¬ e ≠ 0 from fun y => y h)]
  by_cases h2 : noteCheck x.2.2 = 0
  ·rw [if_neg (show ¬ (noteCheck x.2.2 != 0) = true by rw [h2]; decide), if_neg (show ¬ noteCheck x.2.2 ≠ 0 from fun y => y h2)]
  ·rw [if_pos (show (noteCheck x.2.2 != 0) = true from bne_iff_ne.2 h2), if_pos h2]
 ·rw [if_neg (show ¬ (e == 0) = true by simpa using h), if_pos (show (e != 0) = true from bne_iff_ne.2 h), if_pos h]

theorem note_Of (s : ByteArray) (hs : s.size ≤ maxLen) : F_note_Of s = some (noteOf s) := by
 have k0 := start_ok s hs
 have k1 := rNum_ok (most := 8) k0
 have kz := rNumV_le (r := ⟨s, 0, 0⟩) (most := 8) (by decide)
 unfold F_note_Of noteOf
 rw [wR_open s hs, Option.bind_some, wR_num k0 i8, Option.bind_some, wR_err, Option.bind_some]
 by_cases h : (rNum ⟨s, 0, 0⟩ 8).e = 0 ∧ rNumV ⟨s, 0, 0⟩ 8 = 0
 ·rw [if_pos h, if_pos (by rw [h.1, h.2]; rfl)]
 rw [if_neg h, if_neg (by simpa using h)]
 have hrd := note_read _ k1 _ kz
 have hok := noteRd_ok (rNumV ⟨s, 0, 0⟩ 8) _ k1
 unfold base at hrd
 dsimp only
 rw [hrd, Option.bind_some]
 generalize noteRd (rNumV ⟨s, 0, 0⟩ 8) (rNum ⟨s, 0, 0⟩ 8) = x at *
 show (if (x.1 == 0) = true then (F_wire_Reader_End (ofRw x.2.1)).bind (fun e => F_note_Of_k1 (x.1, ofRw x.2.1, x.2.2) e) else F_note_Of_k1 (x.1, ofRw x.2.1, x.2.2) x.1) = _
 by_cases h1 : x.1 = 0
 ·rw [if_pos (by rw [h1]; rfl), wR_end hok, Option.bind_some, note_Of_k1]
  unfold noteFin noteEnd
  rw [if_neg (show ¬ x.1 ≠ 0 from fun y => y h1)]
 ·rw [if_neg (by simpa using h1), note_Of_k1]
  unfold noteFin
  rw [if_pos h1, if_pos h1]

-- the document
end Go.Proofs.Ytbfglbbbkcpgeaa
