/- Segments there and back: LinkBytes. -/
import Derived.Test.YthomnhhjgcabkaaYLinkF
import Derived.Test.YthomnhhjgcabkaaYLinkP2
namespace Go.Proofs.Ythomnhhjgcabkaa

def nums0 (s : ESeg) : DWriterR := wNum (wNum (wNum (wNum (wNum (wNum ⟨ByteArray.empty, 0⟩ s.boot) s.stream) s.seq) s.ackBoot) s.ackStream) s.ackSeq

def putW (s : ESeg) : DWriterR := wText (wFlag (nums0 s) s.has) s.body

def putR (s : ESeg) : ByteArray × Int := if (putW s).e ≠ 0 then (⟨#[]⟩, (putW s).e) else if (s.body.size : Int) > 65536 then (⟨#[]⟩, 3) else (wDone (putW s), 0)

theorem wPut_sz (w : DWriterR) (t : ByteArray) : (wPut w t).s.size ≤ w.s.size + t.size := by
 unfold wPut; split
 ·show (w.s ++ t).size ≤ _; rw [ByteArray.size_append]; omega
 ·omega

theorem wNum_sz (w : DWriterR) (n : Int) : (wNum w n).s.size ≤ w.s.size + 9 := by
 unfold wNum; split
 ·show w.s.size ≤ _; omega
 ·have := wPut_sz w (vput n.toNat); have := vput_le n.toNat; omega

theorem wFlag_sz (w : DWriterR) (b : Bool) : (wFlag w b).s.size ≤ w.s.size + 9 := by
 unfold wFlag; have := wPut_sz w (vput (if b then 1 else 0)); have := vput_le (if b then 1 else 0); omega

theorem wPut_e (w : DWriterR) (t : ByteArray) : (wPut w t).e = w.e := by unfold wPut; split <;> rfl

theorem wNum_e0 {w : DWriterR} {n : Int} (h : (wNum w n).e = 0) : w.e = 0 ∧ 0 ≤ n := by
 unfold wNum at h
 split at h
 ·cases h
 ·rename_i hc
  rw [wPut_e] at h
  exact ⟨h, by omega⟩

theorem pw_num (w : DWriterR) (n : Int) (hn : inI n) (hs : w.s.size + 9 ≤ 140737488355328) : F_wire_Writer_Num (ofWw w) n = some (ofWw (wNum w n)) := chk_t ⟨hn, fun _ => hs⟩

theorem p2_num (w : DWriterR) (n : Int) (hn : inI n) (hs : w.s.size + 9 ≤ 140737488355328) : F_ref02_Writer_Num (ofW2 w) n = some (ofW2 (wNum w n)) := chk_t ⟨hn, by unfold maxLen; show w.s.size + 9 ≤ _; omega⟩

theorem nums_sz (s : ESeg) : (nums0 s).s.size ≤ 54 := by
 unfold nums0
 have h0 : (⟨ByteArray.empty, 0⟩ : DWriterR).s.size = 0 := rfl
 have h1 := wNum_sz ⟨ByteArray.empty, 0⟩ s.boot
 have h2 := wNum_sz (wNum ⟨ByteArray.empty, 0⟩ s.boot) s.stream
 have h3 := wNum_sz (wNum (wNum ⟨ByteArray.empty, 0⟩ s.boot) s.stream) s.seq
 have h4 := wNum_sz (wNum (wNum (wNum ⟨ByteArray.empty, 0⟩ s.boot) s.stream) s.seq) s.ackBoot
 have h5 := wNum_sz (wNum (wNum (wNum (wNum ⟨ByteArray.empty, 0⟩ s.boot) s.stream) s.seq) s.ackBoot) s.ackStream
 have h6 := wNum_sz (wNum (wNum (wNum (wNum (wNum ⟨ByteArray.empty, 0⟩ s.boot) s.stream) s.seq) s.ackBoot) s.ackStream) s.ackSeq
 omega

theorem fin_eq (s : ESeg) : (if ((putW s).e != 0) = true then (some ((⟨#[]⟩ : ByteArray), (putW s).e)) else (if (decide ((s.body.size : Int) > 65536)) = true then (some (⟨#[]⟩, 3)) else (some (wDone (putW s), 0)))) = some (putR s) := by
 unfold putR
 by_cases h1 : (putW s).e = 0
 ·rw [if_neg (show ¬ ((putW s).e != 0) = true by rw [h1]; decide), if_neg (show ¬ (putW s).e ≠ 0 from fun x => x h1)]
  by_cases h2 : (s.body.size : Int) > 65536
  ·rw [if_pos (decide_eq_true h2), if_pos h2]
  ·rw [if_neg (show ¬ decide ((s.body.size : Int) > 65536) = true by rw [decide_eq_false h2]; decide), if_neg h2]
 ·rw [if_pos (bne_iff_ne.2 h1), if_pos h1]

theorem link_Put (s : ESeg) (hb : bdESeg s) (hsz : s.body.size ≤ 1048576) : F_link_Put s = some (putR s) := by
 have h0 : (⟨ByteArray.empty, 0⟩ : DWriterR).s.size = 0 := rfl
 have h1 := wNum_sz ⟨ByteArray.empty, 0⟩ s.boot
 have h2 := wNum_sz (wNum ⟨ByteArray.empty, 0⟩ s.boot) s.stream
 have h3 := wNum_sz (wNum (wNum ⟨ByteArray.empty, 0⟩ s.boot) s.stream) s.seq
 have h4 := wNum_sz (wNum (wNum (wNum ⟨ByteArray.empty, 0⟩ s.boot) s.stream) s.seq) s.ackBoot
 have h5 := wNum_sz (wNum (wNum (wNum (wNum ⟨ByteArray.empty, 0⟩ s.boot) s.stream) s.seq) s.ackBoot) s.ackStream
 have h6 := nums_sz s
 have h7 := wFlag_sz (nums0 s) s.has
 unfold F_link_Put
 rw [show F_wire_New = some (ofWw ⟨ByteArray.empty, 0⟩) from rfl, Option.bind_some, pw_num _ _ hb.boot (by omega), Option.bind_some, pw_num _ _ hb.stream (by omega), Option.bind_some, pw_num _ _ hb.seq (by omega), Option.bind_some, pw_num _ _ hb.ackBoot (by omega), Option.bind_some, pw_num _ _ hb.ackStream (by omega), Option.bind_some, pw_num _ _ hb.ackSeq (by omega), Option.bind_some]
 show ((F_wire_Writer_Flag (ofWw (nums0 s)) s.has).bind _) = _
 rw [show F_wire_Writer_Flag (ofWw (nums0 s)) s.has = some (ofWw (wFlag (nums0 s) s.has)) from chk_t fun _ => by show (nums0 s).s.size + 1 ≤ _; omega, Option.bind_some,
  show F_wire_Writer_Text (ofWw (wFlag (nums0 s) s.has)) s.body = some (ofWw (putW s)) from chk_t ⟨by unfold maxLen; omega, fun _ => by show (wFlag (nums0 s) s.has).s.size + _ ≤ _; omega⟩, Option.bind_some]
 exact fin_eq s

theorem ref22_Put (s : ESeg) (hb : bdESeg s) (hsz : s.body.size ≤ 1048576) : F_ref22_Put s = some (putR s) := by
 have h6 := nums_sz s
 have h7 := wFlag_sz (nums0 s) s.has
 have hl : (numsS s).length = 6 := rfl
 unfold F_ref22_Put
 have hIn : ∀ k, k < 6 → inI ((numsS s).getD k 0) := by
  intro k hk
  have : k = 0 ∨ k = 1 ∨ k = 2 ∨ k = 3 ∨ k = 4 ∨ k = 5 := by omega
  rcases this with rfl | rfl | rfl | rfl | rfl | rfl
  ·exact hb.boot
  ·exact hb.stream
  ·exact hb.seq
  ·exact hb.ackBoot
  ·exact hb.ackStream
  ·exact hb.ackSeq
 let W : Nat → DWriterR := fun k => ((numsS s).take k).foldl wNum ⟨ByteArray.empty, 0⟩
 have hW : ∀ k, k < 6 → W (k + 1) = wNum (W k) ((numsS s).getD k 0) := by
  intro k hk
  show ((numsS s).take (k + 1)).foldl wNum _ = _
  rw [take_snoc (d := 0) (by rw [hl]; exact hk), List.foldl_append]; rfl
 have hWs : ∀ k, k ≤ 6 → (W k).s.size ≤ 9 * k := by
  intro k
  induction k with
  | zero => intro _; exact Nat.le_refl 0
  | succ k ih => intro hk; rw [hW k (by omega)]; have := wNum_sz (W k) ((numsS s).getD k 0); have := ih (by omega); omega
 refine iter_rule (body := F_ref22_Put_l1 s) (fun x : Int × ByteArray × Int => 6 - x.1.toNat) (fun _ => some (putR s)) (fun x => ∃ k : Nat, k ≤ 6 ∧ x = ((k : Int), (W k).s, (W k).e)) ?_ FU _ ⟨0, by omega, rfl⟩ (by unfold FU; simp only; omega)
 rintro rc x ⟨k, hk, rfl⟩ hrc
 unfold F_ref22_Put_l1
 dsimp only
 by_cases h : k < 6
 ·rw [if_pos (decide_eq_true (by omega)), chk_t (by show (0 : Int) ≤ (k : Int) ∧ (k : Int) < 6; omega), toNat_cast]
  show ((F_ref02_Writer_Num (ofW2 (W k)) ((numsS s).getD k 0)).bind _) = _
  rw [p2_num _ _ (hIn k h) (by have := hWs k (by omega); omega), Option.bind_some, chk_t (by unfold inI; omega), ← hW k h]
  exact hrc _ ⟨k + 1, by omega, by simp [ofW2]⟩ (by simp only [toNat_cast1, toNat_cast]; omega)
 ·rw [if_neg (by rw [decide_eq_false (by omega)]; decide)]
  obtain rfl : k = 6 := by omega
  show ((F_ref02_Writer_Flag (ofW2 (nums0 s)) s.has).bind _) = _
  rw [show F_ref02_Writer_Flag (ofW2 (nums0 s)) s.has = some (ofW2 (wFlag (nums0 s) s.has)) from chk_t (by unfold maxLen; show (nums0 s).s.size + 9 ≤ _; omega), Option.bind_some,
   show F_ref02_Writer_Text (ofW2 (wFlag (nums0 s) s.has)) s.body = some (ofW2 (putW s)) from chk_t ⟨by unfold maxLen; omega, by unfold maxLen; show (wFlag (nums0 s) s.has).s.size + 9 + _ ≤ _; omega⟩, Option.bind_some]
  exact fin_eq s

-- read
def rd1 (s : ByteArray) : DReaderR := rNum ⟨s, 0, 0⟩ 1073741824

def rd2 (s : ByteArray) : DReaderR := rNum (rd1 s) 1073741824

def rd3 (s : ByteArray) : DReaderR := rNum (rd2 s) 1073741824

def rd4 (s : ByteArray) : DReaderR := rNum (rd3 s) 1073741824

def rd5 (s : ByteArray) : DReaderR := rNum (rd4 s) 1073741824

def rd6 (s : ByteArray) : DReaderR := rNum (rd5 s) 1073741824

def rd7 (s : ByteArray) : DReaderR := rFlag (rd6 s)

def rd8 (s : ByteArray) : DReaderR := rText (rd7 s) 65536

def segR (s : ByteArray) : ESeg := { boot := rNumV ⟨s, 0, 0⟩ 1073741824, stream := rNumV (rd1 s) 1073741824, seq := rNumV (rd2 s) 1073741824, ackBoot := rNumV (rd3 s) 1073741824, ackStream := rNumV (rd4 s) 1073741824, ackSeq := rNumV (rd5 s) 1073741824, has := rFlagV (rd6 s), body := rTextV (rd7 s) 65536 }

def sgR (s : ByteArray) : ESeg × Int := if rEnd (rd8 s) ≠ 0 then (default, rEnd (rd8 s)) else (segR s, 0)

theorem iMq : inI 1073741824 := by unfold inI; omega

theorem iT : inI 65536 := by unfold inI; omega

theorem of_end (s : ByteArray) : (if (rEnd (rd8 s) != 0) = true then (some ((default : ESeg), rEnd (rd8 s))) else (some (segR s, 0))) = some (sgR s) := by
 unfold sgR
 by_cases h : rEnd (rd8 s) = 0
 ·rw [h]; rfl
 ·rw [if_pos (bne_iff_ne.2 h), if_pos h]

theorem link_Of (s : ByteArray) (hs : s.size ≤ maxLen) : F_link_Of s = some (sgR s) := by
 have k0 := start_ok s hs
 have k1 : rdOk (rd1 s) := rNum_ok (most := 1073741824) k0
 have k2 : rdOk (rd2 s) := rNum_ok (most := 1073741824) k1
 have k3 : rdOk (rd3 s) := rNum_ok (most := 1073741824) k2
 have k4 : rdOk (rd4 s) := rNum_ok (most := 1073741824) k3
 have k5 : rdOk (rd5 s) := rNum_ok (most := 1073741824) k4
 have k6 : rdOk (rd6 s) := rNum_ok (most := 1073741824) k5
 have k7 : rdOk (rd7 s) := rFlag_ok k6
 have k8 : rdOk (rd8 s) := rText_ok k7
 have h1 : ∀ r, rdOk r → F_link_Of_1 (ofRw r) = some (rNumV r 1073741824, ofRw (rNum r 1073741824)) := fun r hr => by unfold F_link_Of_1; rw [wR_num hr iMq]; rfl
 unfold F_link_Of
 rw [wR_open s hs, Option.bind_some, show F_link_Of_1 (ofRw ⟨s, 0, 0⟩) = some (rNumV ⟨s, 0, 0⟩ 1073741824, ofRw (rd1 s)) from h1 _ k0, Option.bind_some, show F_link_Of_1 (ofRw (rd1 s)) = some (rNumV (rd1 s) 1073741824, ofRw (rd2 s)) from h1 _ k1, Option.bind_some, show F_link_Of_1 (ofRw (rd2 s)) = some (rNumV (rd2 s) 1073741824, ofRw (rd3 s)) from h1 _ k2, Option.bind_some, show F_link_Of_1 (ofRw (rd3 s)) = some (rNumV (rd3 s) 1073741824, ofRw (rd4 s)) from h1 _ k3, Option.bind_some, show F_link_Of_1 (ofRw (rd4 s)) = some (rNumV (rd4 s) 1073741824, ofRw (rd5 s)) from h1 _ k4, Option.bind_some, show F_link_Of_1 (ofRw (rd5 s)) = some (rNumV (rd5 s) 1073741824, ofRw (rd6 s)) from h1 _ k5, Option.bind_some]
 rw [show F_wire_Reader_Flag (ofRw (rd6 s)) = some (rFlagV (rd6 s), ofRw (rd7 s)) from wR_flag k6, Option.bind_some, show F_wire_Reader_Text (ofRw (rd7 s)) 65536 = some (rTextV (rd7 s) 65536, ofRw (rd8 s)) from wR_text k7 iT, Option.bind_some, wR_end k8, Option.bind_some]
 exact of_end s

theorem ref22_Of (s : ByteArray) (hs : s.size ≤ maxLen) : F_ref22_Of s = some (sgR s) := by
 have k0 := start_ok s hs
 have k1 : rdOk (rd1 s) := rNum_ok (most := 1073741824) k0
 have k2 : rdOk (rd2 s) := rNum_ok (most := 1073741824) k1
 have k3 : rdOk (rd3 s) := rNum_ok (most := 1073741824) k2
 have k4 : rdOk (rd4 s) := rNum_ok (most := 1073741824) k3
 have k5 : rdOk (rd5 s) := rNum_ok (most := 1073741824) k4
 have k6 : rdOk (rd6 s) := rNum_ok (most := 1073741824) k5
 have k7 : rdOk (rd7 s) := rFlag_ok k6
 have k8 : rdOk (rd8 s) := rText_ok k7
 unfold F_ref22_Of
 rw [show F_ref02_Reader_Num ({ (default : Eref02_Reader) with s := s } : Eref02_Reader) 1073741824 = some (rNumV ⟨s, 0, 0⟩ 1073741824, ofR2 (rd1 s)) from r2_num k0 iMq, Option.bind_some,
  show F_ref02_Reader_Num (ofR2 (rd1 s)) 1073741824 = some (rNumV (rd1 s) 1073741824, ofR2 (rd2 s)) from r2_num k1 iMq, Option.bind_some,
  show F_ref02_Reader_Num (ofR2 (rd2 s)) 1073741824 = some (rNumV (rd2 s) 1073741824, ofR2 (rd3 s)) from r2_num k2 iMq, Option.bind_some,
  show F_ref02_Reader_Num (ofR2 (rd3 s)) 1073741824 = some (rNumV (rd3 s) 1073741824, ofR2 (rd4 s)) from r2_num k3 iMq, Option.bind_some,
  show F_ref02_Reader_Num (ofR2 (rd4 s)) 1073741824 = some (rNumV (rd4 s) 1073741824, ofR2 (rd5 s)) from r2_num k4 iMq, Option.bind_some,
  show F_ref02_Reader_Num (ofR2 (rd5 s)) 1073741824 = some (rNumV (rd5 s) 1073741824, ofR2 (rd6 s)) from r2_num k5 iMq, Option.bind_some,
  show F_ref02_Reader_Flag (ofR2 (rd6 s)) = some (rFlagV (rd6 s), ofR2 (rd7 s)) from r2_flag k6, Option.bind_some, show F_ref02_Reader_Text (ofR2 (rd7 s)) 65536 = some (rTextV (rd7 s) 65536, ofR2 (rd8 s)) from r2_text k7 iT, Option.bind_some, r2_end k8, Option.bind_some]
 exact of_end s

-- there and back
def segB (s : ESeg) : List Nat := vputL s.boot.toNat ++ (vputL s.stream.toNat ++ (vputL s.seq.toNat ++ (vputL s.ackBoot.toNat ++ (vputL s.ackStream.toNat ++ (vputL s.ackSeq.toNat ++ ((if s.has then 1 else 0) :: (vputL s.body.size ++ bL s.body)))))))

structure segOk (s : ESeg) : Prop where
 boot : 0 ≤ s.boot
 stream : 0 ≤ s.stream
 seq : 0 ≤ s.seq
 ackBoot : 0 ≤ s.ackBoot
 ackStream : 0 ≤ s.ackStream
 ackSeq : 0 ≤ s.ackSeq

theorem putW_ok {s : ESeg} (h : segOk s) : Wt (putW s) (segB s) := by
 have w := ((((((Wt.start.num' h.boot).num' h.stream).num' h.seq).num' h.ackBoot).num' h.ackStream).num' h.ackSeq |>.flag s.has).text s.body
 have e : segB s = [] ++ vputL s.boot.toNat ++ vputL s.stream.toNat ++ vputL s.seq.toNat ++ vputL s.ackBoot.toNat ++ vputL s.ackStream.toNat ++ vputL s.ackSeq.toNat ++ [if s.has then 1 else 0] ++ (vputL s.body.size ++ bL s.body) := by
  unfold segB; simp only [List.append_assoc, List.nil_append, List.singleton_append, List.cons_append]
 rw [e]; exact w

theorem putW_e0 {s : ESeg} (h : (putW s).e = 0) : segOk s := by
 unfold putW wText wFlag at h
 rw [wPut_e, wPut_e] at h
 unfold nums0 at h
 obtain ⟨h, h6⟩ := wNum_e0 h
 obtain ⟨h, h5⟩ := wNum_e0 h
 obtain ⟨h, h4⟩ := wNum_e0 h
 obtain ⟨h, h3⟩ := wNum_e0 h
 obtain ⟨h, h2⟩ := wNum_e0 h
 obtain ⟨h, h1⟩ := wNum_e0 h
 exact ⟨h1, h2, h3, h4, h5, h6⟩

theorem putR_of {s : ESeg} (h : segOk s) (hs : (s.body.size : Int) ≤ 65536) : ∃ t, putR s = (t, 0) ∧ bL t = segB s := by
 have w := putW_ok h
 refine ⟨wDone (putW s), ?_, w.done⟩
 unfold putR
 rw [if_neg (by rw [w.1]; decide), if_neg (by omega)]

theorem putR_0 {s : ESeg} (h : (putR s).2 = 0) : segOk s ∧ (s.body.size : Int) ≤ 65536 ∧ bL (putR s).1 = segB s := by
 have h0 : (putW s).e = 0 ∧ ¬ (s.body.size : Int) > 65536 := by
  unfold putR at h
  split at h
  ·rename_i h1; exact absurd h h1
  ·rename_i h1
   split at h
   ·cases h
   ·rename_i h2; exact ⟨Decidable.not_not.1 h1, h2⟩
 have h1 := putW_e0 h0.1
 obtain ⟨t, h2, h3⟩ := putR_of h1 (by omega)
 rw [h2]
 exact ⟨h1, by omega, h3⟩

theorem ofR_there {a : ESeg} {t : ByteArray} (h : segOk a) (hs : (a.body.size : Int) ≤ 65536) (hm : a.boot ≤ 1073741824 ∧ a.stream ≤ 1073741824 ∧ a.seq ≤ 1073741824 ∧ a.ackBoot ≤ 1073741824 ∧ a.ackStream ≤ 1073741824 ∧ a.ackSeq ≤ 1073741824) (ht : bL t = segB a) (htz : t.size ≤ maxLen) : sgR t = (a, 0) := by
 obtain ⟨m1, m2, m3, m4, m5, m6⟩ := hm
 have r0 := Rd.start t htz
 rw [ht, segB] at r0
 obtain ⟨v1, r1⟩ := r0.num (most := 1073741824) (by have := h.boot; omega) (by decide)
 obtain ⟨v2, r2⟩ := r1.num (most := 1073741824) (by have := h.stream; omega) (by decide)
 obtain ⟨v3, r3⟩ := r2.num (most := 1073741824) (by have := h.seq; omega) (by decide)
 obtain ⟨v4, r4⟩ := r3.num (most := 1073741824) (by have := h.ackBoot; omega) (by decide)
 obtain ⟨v5, r5⟩ := r4.num (most := 1073741824) (by have := h.ackStream; omega) (by decide)
 obtain ⟨v6, r6⟩ := r5.num (most := 1073741824) (by have := h.ackSeq; omega) (by decide)
 obtain ⟨v7, r7⟩ := r6.flag
 obtain ⟨v8, r8⟩ := Rd.text (t := a.body) (l := []) (most := 65536) (by rw [List.append_nil]; exact r7) hs (by decide)
 have he : rEnd (rd8 t) = 0 := by
  have := r8.end
  rw [if_pos rfl] at this
  exact this
 unfold sgR
 rw [if_neg (by rw [he]; decide)]
 have e : segR t = a := by
  have h1 := h.boot; have h2 := h.stream; have h3 := h.seq; have h4 := h.ackBoot; have h5 := h.ackStream; have h6 := h.ackSeq
  obtain ⟨b1, b2, b3, b4, b5, b6, b7, b8⟩ := a
  simp only at h1 h2 h3 h4 h5 h6 v1 v2 v3 v4 v5 v6 v7 v8
  show (⟨rNumV ⟨t, 0, 0⟩ 1073741824, rNumV (rd1 t) 1073741824, rNumV (rd2 t) 1073741824, rNumV (rd3 t) 1073741824, rNumV (rd4 t) 1073741824, rNumV (rd5 t) 1073741824, rFlagV (rd6 t), rTextV (rd7 t) 65536⟩ : ESeg) = _
  rw [show rNumV ⟨t, 0, 0⟩ 1073741824 = _ from v1, show rNumV (rd1 t) 1073741824 = _ from v2, show rNumV (rd2 t) 1073741824 = _ from v3, show rNumV (rd3 t) 1073741824 = _ from v4, show rNumV (rd4 t) 1073741824 = _ from v5, show rNumV (rd5 t) 1073741824 = _ from v6, show rFlagV (rd6 t) = _ from v7, show rTextV (rd7 t) 65536 = _ from v8]
  rw [Int.toNat_of_nonneg h1, Int.toNat_of_nonneg h2, Int.toNat_of_nonneg h3, Int.toNat_of_nonneg h4, Int.toNat_of_nonneg h5, Int.toNat_of_nonneg h6]
 rw [e]

theorem ofR_back {s : ByteArray} (hs : s.size ≤ maxLen) (h : (sgR s).2 = 0) : segOk (sgR s).1 ∧ ((sgR s).1.body.size : Int) ≤ 65536 ∧ bL s = segB (sgR s).1 ∧ bdESeg (sgR s).1 := by
 unfold sgR at h ⊢
 split at h
 ·rename_i h1; exact absurd h h1
 rename_i h1
 rw [if_neg h1]
 have he : rEnd (rd8 s) = 0 := Decidable.not_not.1 h1
 have e8 : (rd8 s).e = 0 := rEnd_e he
 have e7 : (rd7 s).e = 0 := rText_e0 e8
 have e6 : (rd6 s).e = 0 := rFlag_e0 e7
 have e5 : (rd5 s).e = 0 := rNum_e0 e6
 have e4 : (rd4 s).e = 0 := rNum_e0 e5
 have e3 : (rd3 s).e = 0 := rNum_e0 e4
 have e2 : (rd2 s).e = 0 := rNum_e0 e3
 have e1 : (rd1 s).e = 0 := rNum_e0 e2
 obtain ⟨a1, q1, x1, y1, z1, r1⟩ := (Rd.start s hs).num_back e1
 obtain ⟨a2, q2, x2, y2, z2, r2⟩ := r1.num_back e2
 obtain ⟨a3, q3, x3, y3, z3, r3⟩ := r2.num_back e3
 obtain ⟨a4, q4, x4, y4, z4, r4⟩ := r3.num_back e4
 obtain ⟨a5, q5, x5, y5, z5, r5⟩ := r4.num_back e5
 obtain ⟨a6, q6, x6, y6, z6, r6⟩ := r5.num_back e6
 obtain ⟨q7, z7, r7⟩ := r6.flag_back e7
 obtain ⟨q8, z8, y8, r8⟩ := r7.text_back e8
 have hq : q8 = [] := by
  have hx : rEnd (rd8 s) = _ := r8.end
  rw [he] at hx
  by_cases hq : q8 = []
  ·exact hq
  ·rw [if_neg hq] at hx; cases hx
 have hB : bL s = segB (segR s) := by
  unfold segB segR
  dsimp only
  rw [show rNumV ⟨s, 0, 0⟩ 1073741824 = _ from x1, show rNumV (rd1 s) 1073741824 = _ from x2, show rNumV (rd2 s) 1073741824 = _ from x3, show rNumV (rd3 s) 1073741824 = _ from x4, show rNumV (rd4 s) 1073741824 = _ from x5, show rNumV (rd5 s) 1073741824 = _ from x6]
  simp only [toNat_cast]
  rw [z1, z2, z3, z4, z5, z6, z7]
  congr 6
  rw [show (q7 : List Nat) = _ from z8, hq, List.append_nil]; rfl
 refine ⟨⟨?_, ?_, ?_, ?_, ?_, ?_⟩, y8, hB, ⟨?_, ?_, ?_, ?_, ?_, ?_, trivial, ?_⟩⟩
 ·show 0 ≤ rNumV ⟨s, 0, 0⟩ 1073741824; rw [x1]; omega
 ·show 0 ≤ rNumV (rd1 s) 1073741824; rw [show rNumV (rd1 s) 1073741824 = _ from x2]; omega
 ·show 0 ≤ rNumV (rd2 s) 1073741824; rw [show rNumV (rd2 s) 1073741824 = _ from x3]; omega
 ·show 0 ≤ rNumV (rd3 s) 1073741824; rw [show rNumV (rd3 s) 1073741824 = _ from x4]; omega
 ·show 0 ≤ rNumV (rd4 s) 1073741824; rw [show rNumV (rd4 s) 1073741824 = _ from x5]; omega
 ·show 0 ≤ rNumV (rd5 s) 1073741824; rw [show rNumV (rd5 s) 1073741824 = _ from x6]; omega
 ·show inI (rNumV ⟨s, 0, 0⟩ 1073741824); rw [x1]; unfold inI; omega
 ·show inI (rNumV (rd1 s) 1073741824); rw [show rNumV (rd1 s) 1073741824 = _ from x2]; unfold inI; omega
 ·show inI (rNumV (rd2 s) 1073741824); rw [show rNumV (rd2 s) 1073741824 = _ from x3]; unfold inI; omega
 ·show inI (rNumV (rd3 s) 1073741824); rw [show rNumV (rd3 s) 1073741824 = _ from x4]; unfold inI; omega
 ·show inI (rNumV (rd4 s) 1073741824); rw [show rNumV (rd4 s) 1073741824 = _ from x5]; unfold inI; omega
 ·show inI (rNumV (rd5 s) 1073741824); rw [show rNumV (rd5 s) 1073741824 = _ from x6]; unfold inI; omega
 ·show (rTextV (rd7 s) 65536).size ≤ bdM; unfold bdM; have : ((rTextV (rd7 s) 65536).size : Int) ≤ 65536 := y8; omega

theorem pure_LinkBytes_k1 (a : ESeg) (ha : bdESeg a) (hsz : a.body.size ≤ 1048576) : F_law22_LinkBytes_k1 a (putR a) = some true := by
 unfold F_law22_LinkBytes_k1
 rw [awake22]
 by_cases hc : (((putR a).2 != 0) || (decide ([a.stream, a.seq, a.ackBoot, a.ackStream, a.ackSeq].foldl max a.boot > 1073741824))) = true
 ·rw [if_pos hc]; rfl
 ·rw [if_neg hc]
  rw [Bool.not_eq_true, Bool.or_eq_false_iff] at hc
  have h0 : (putR a).2 = 0 := by simpa using hc.1
  have hm := of_decide_eq_false hc.2
  simp only [List.foldl_cons, List.foldl_nil] at hm
  obtain ⟨h1, h2, h3⟩ := putR_0 h0
  have htz : (putR a).1.size ≤ maxLen := by
   have := congrArg List.length h3
   rw [bL_len] at this
   have q1 := vputL_len a.boot.toNat; have q2 := vputL_len a.stream.toNat; have q3 := vputL_len a.seq.toNat; have q4 := vputL_len a.ackBoot.toNat; have q5 := vputL_len a.ackStream.toNat; have q6 := vputL_len a.ackSeq.toNat; have q7 := vputL_len a.body.size
   unfold segB at this
   simp only [List.length_append, List.length_cons, bL_len] at this
   unfold maxLen; omega
  have e := ofR_there h1 h2 (t := (putR a).1) (by omega) h3 htz
  rw [link_Of _ htz, Option.bind_some, e]
  dsimp only
  rw [eqESeg_iff.2 rfl]; rfl

theorem pure_LinkBytes (a : ESeg) (s : ByteArray) (ha : bdESeg a) (hs : bdStr s) (hsz : a.body.size ≤ 1048576) : F_law22_LinkBytes a s = some true := by
 have hs' : s.size ≤ maxLen := Nat.le_trans hs (by unfold bdM maxLen; decide)
 unfold F_law22_LinkBytes
 rw [link_Put a ha hsz, ref22_Put a ha hsz, Option.bind_some, Option.bind_some, link_Of s hs', ref22_Of s hs', Option.bind_some, Option.bind_some]
 rw [if_neg (by simp [seqB_iff, eqESeg_iff.2 rfl, seqB_iff.2 rfl]), pure_LinkBytes_k1 a ha hsz]
 by_cases h : (sgR s).2 = 0
 ·rw [if_pos (by rw [h]; rfl)]
  obtain ⟨h1, h2, h3, h4⟩ := ofR_back hs' h
  obtain ⟨t, h5, h6⟩ := putR_of h1 h2
  have e : t = s := bL_inj (h6.trans h3.symm)
  rw [link_Put _ h4 (by omega), h5, Option.bind_some, e, if_neg (by simp [seqB_iff.2 rfl])]
 ·rw [if_neg (by rw [beq_iff_eq]; exact h)]

end Go.Proofs.Ythomnhhjgcabkaa
