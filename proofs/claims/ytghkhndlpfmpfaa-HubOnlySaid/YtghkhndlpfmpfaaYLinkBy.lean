/- Segments there and back: LinkBytes. -/
import Derived.Test.YtghkhndlpfmpfaaYHb4
import Derived.Test.YtghkhndlpfmpfaaYLinkP2
namespace Go.Proofs.Ytghkhndlpfmpfaa

def nums0 (s : ESeg) : DWriterR := wNum (wNum (wNum (wNum (wNum (wNum ⟨ByteArray.empty, 0⟩ s.boot) s.stream) s.seq) s.ackBoot) s.ackStream) s.ackSeq

def putW (s : ESeg) : DWriterR := wText (wFlag (nums0 s) s.has) s.body

def putR (s : ESeg) : ByteArray × Int := if (putW s).e ≠ 0 then (⟨#[]⟩, (putW s).e) else if (s.body.size : Int) > 65536 then (⟨#[]⟩, 3) else (wDone (putW s), 0)

theorem wPut_sz (w : DWriterR) (t : ByteArray) : (wPut w t).s.size ≤ w.s.size + t.size := by
 unfold wPut; split
 ·show (w.s ++ t).size ≤ _; rw [ByteArray.size_append]; omega
 ·omega

theorem wNum_sz (w : DWriterR) (n : Int) : (wNum w n).s.size ≤ w.s.size + 9 := by
 unfold wNum; split
 ·show w.s.size ≤ _; omega
 ·have := wPut_sz w (vput n.toNat); have := vput_le n.toNat; omega

theorem wFlag_sz (w : DWriterR) (b : Bool) : (wFlag w b).s.size ≤ w.s.size + 9 := by
 unfold wFlag; have := wPut_sz w (vput (if b then 1 else 0)); have := vput_le (if b then 1 else 0); omega

theorem pw_num (w : DWriterR) (n : Int) (hn : inI n) (hs : w.s.size + 9 ≤ 140737488355328) : F_wire_Writer_Num (ofWw w) n = some (ofWw (wNum w n)) := chk_t ⟨hn, fun _ => hs⟩

theorem nums_sz (s : ESeg) : (nums0 s).s.size ≤ 54 := by
 unfold nums0
 have h0 : (⟨ByteArray.empty, 0⟩ : DWriterR).s.size = 0 := rfl
 have h1 := wNum_sz ⟨ByteArray.empty, 0⟩ s.boot
 have h2 := wNum_sz (wNum ⟨ByteArray.empty, 0⟩ s.boot) s.stream
 have h3 := wNum_sz (wNum (wNum ⟨ByteArray.empty, 0⟩ s.boot) s.stream) s.seq
 have h4 := wNum_sz (wNum (wNum (wNum ⟨ByteArray.empty, 0⟩ s.boot) s.stream) s.seq) s.ackBoot
 have h5 := wNum_sz (wNum (wNum (wNum (wNum ⟨ByteArray.empty, 0⟩ s.boot) s.stream) s.seq) s.ackBoot) s.ackStream
 have h6 := wNum_sz (wNum (wNum (wNum (wNum (wNum ⟨ByteArray.empty, 0⟩ s.boot) s.stream) s.seq) s.ackBoot) s.ackStream) s.ackSeq
 omega

theorem fin_eq (s : ESeg) : (if ((putW s).e != 0) = true then (some ((⟨#[]⟩ : ByteArray), (putW s).e)) else (if (decide ((s.body.size : Int) > 65536)) = true then (some (⟨#[]⟩, 3)) else (some (wDone (putW s), 0)))) = some (putR s) := by
 unfold putR
 by_cases h1 : (putW s).e = 0
 ·rw [if_neg (show ¬ ((putW s).e != 0) = true by rw [h1]; decide), if_neg (show ¬ (putW s).e ≠ 0 from fun x => x h1)]
  by_cases h2 : (s.body.size : Int) > 65536
  ·rw [if_pos (decide_eq_true h2), if_pos h2]
  ·rw [if_neg (show ¬ decide ((s.body.size : Int) > 65536) = true by rw [decide_eq_false h2]; decide), if_neg h2]
 ·rw [if_pos (bne_iff_ne.2 h1), if_pos h1]

theorem link_Put (s : ESeg) (hb : bdESeg s) (hsz : s.body.size ≤ 1048576) : F_link_Put s = some (putR s) := by
 have h0 : (⟨ByteArray.empty, 0⟩ : DWriterR).s.size = 0 := rfl
 have h1 := wNum_sz ⟨ByteArray.empty, 0⟩ s.boot
 have h2 := wNum_sz (wNum ⟨ByteArray.empty, 0⟩ s.boot) s.stream
 have h3 := wNum_sz (wNum (wNum ⟨ByteArray.empty, 0⟩ s.boot) s.stream) s.seq
 have h4 := wNum_sz (wNum (wNum (wNum ⟨ByteArray.empty, 0⟩ s.boot) s.stream) s.seq) s.ackBoot
 have h5 := wNum_sz (wNum (wNum (wNum (wNum ⟨ByteArray.empty, 0⟩ s.boot) s.stream) s.seq) s.ackBoot) s.ackStream
 have h6 := nums_sz s
 have h7 := wFlag_sz (nums0 s) s.has
 unfold F_link_Put
 rw [show F_wire_New = some (ofWw ⟨ByteArray.empty, 0⟩) from rfl, Option.bind_some, pw_num _ _ hb.boot (by omega), Option.bind_some, pw_num _ _ hb.stream (by omega), Option.bind_some, pw_num _ _ hb.seq (by omega), Option.bind_some, pw_num _ _ hb.ackBoot (by omega), Option.bind_some, pw_num _ _ hb.ackStream (by omega), Option.bind_some, pw_num _ _ hb.ackSeq (by omega), Option.bind_some]
 show ((F_wire_Writer_Flag (ofWw (nums0 s)) s.has).bind _) = _
 rw [show F_wire_Writer_Flag (ofWw (nums0 s)) s.has = some (ofWw (wFlag (nums0 s) s.has)) from chk_t fun _ => by show (nums0 s).s.size + 1 ≤ _; omega, Option.bind_some,
  show F_wire_Writer_Text (ofWw (wFlag (nums0 s) s.has)) s.body = some (ofWw (putW s)) from chk_t ⟨by unfold maxLen; omega, fun _ => by show (wFlag (nums0 s) s.has).s.size + _ ≤ _; omega⟩, Option.bind_some]
 exact fin_eq s

-- read
def rd1 (s : ByteArray) : DReaderR := rNum ⟨s, 0, 0⟩ 1073741824

def rd2 (s : ByteArray) : DReaderR := rNum (rd1 s) 1073741824

def rd3 (s : ByteArray) : DReaderR := rNum (rd2 s) 1073741824

def rd4 (s : ByteArray) : DReaderR := rNum (rd3 s) 1073741824

def rd5 (s : ByteArray) : DReaderR := rNum (rd4 s) 1073741824

def rd6 (s : ByteArray) : DReaderR := rNum (rd5 s) 1073741824

def rd7 (s : ByteArray) : DReaderR := rFlag (rd6 s)

def rd8 (s : ByteArray) : DReaderR := rText (rd7 s) 65536

def segR (s : ByteArray) : ESeg := { boot := rNumV ⟨s, 0, 0⟩ 1073741824, stream := rNumV (rd1 s) 1073741824, seq := rNumV (rd2 s) 1073741824, ackBoot := rNumV (rd3 s) 1073741824, ackStream := rNumV (rd4 s) 1073741824, ackSeq := rNumV (rd5 s) 1073741824, has := rFlagV (rd6 s), body := rTextV (rd7 s) 65536 }

def sgR (s : ByteArray) : ESeg × Int := if rEnd (rd8 s) ≠ 0 then (default, rEnd (rd8 s)) else (segR s, 0)

theorem iMq : inI 1073741824 := by unfold inI; omega

theorem iT : inI 65536 := by unfold inI; omega

theorem of_end (s : ByteArray) : (if (rEnd (rd8 s) != 0) = true then (some ((default : ESeg), rEnd (rd8 s))) else (some (segR s, 0))) = some (sgR s) := by
 unfold sgR
 by_cases h : rEnd (rd8 s) = 0
 ·rw [h]; rfl
 ·rw [if_pos (bne_iff_ne.2 h), if_pos h]

theorem link_Of (s : ByteArray) (hs : s.size ≤ maxLen) : F_link_Of s = some (sgR s) := by
 have k0 := start_ok s hs
 have k1 : rdOk (rd1 s) := rNum_ok (most := 1073741824) k0
 have k2 : rdOk (rd2 s) := rNum_ok (most := 1073741824) k1
 have k3 : rdOk (rd3 s) := rNum_ok (most := 1073741824) k2
 have k4 : rdOk (rd4 s) := rNum_ok (most := 1073741824) k3
 have k5 : rdOk (rd5 s) := rNum_ok (most := 1073741824) k4
 have k6 : rdOk (rd6 s) := rNum_ok (most := 1073741824) k5
 have k7 : rdOk (rd7 s) := rFlag_ok k6
 have k8 : rdOk (rd8 s) := rText_ok k7
 have h1 : ∀ r, rdOk r → F_link_Of_1 (ofRw r) = some (rNumV r 1073741824, ofRw (rNum r 1073741824)) := fun r hr => by unfold F_link_Of_1; rw [wR_num hr iMq]; rfl
 unfold F_link_Of
 rw [wR_open s hs, Option.bind_some, show F_link_Of_1 (ofRw ⟨s, 0, 0⟩) = some (rNumV ⟨s, 0, 0⟩ 1073741824, ofRw (rd1 s)) from h1 _ k0, Option.bind_some, show F_link_Of_1 (ofRw (rd1 s)) = some (rNumV (rd1 s) 1073741824, ofRw (rd2 s)) from h1 _ k1, Option.bind_some, show F_link_Of_1 (ofRw (rd2 s)) = some (rNumV (rd2 s) 1073741824, ofRw (rd3 s)) from h1 _ k2, Option.bind_some, show F_link_Of_1 (ofRw (rd3 s)) = some (rNumV (rd3 s) 1073741824, ofRw (rd4 s)) from h1 _ k3, Option.bind_some, show F_link_Of_1 (ofRw (rd4 s)) = some (rNumV (rd4 s) 1073741824, ofRw (rd5 s)) from h1 _ k4, Option.bind_some, show F_link_Of_1 (ofRw (rd5 s)) = some (rNumV (rd5 s) 1073741824, ofRw (rd6 s)) from h1 _ k5, Option.bind_some]
 rw [show F_wire_Reader_Flag (ofRw (rd6 s)) = some (rFlagV (rd6 s), ofRw (rd7 s)) from wR_flag k6, Option.bind_some, show F_wire_Reader_Text (ofRw (rd7 s)) 65536 = some (rTextV (rd7 s) 65536, ofRw (rd8 s)) from wR_text k7 iT, Option.bind_some, wR_end k8, Option.bind_some]
 exact of_end s

-- there and back
def segB (s : ESeg) : List Nat := vputL s.boot.toNat ++ (vputL s.stream.toNat ++ (vputL s.seq.toNat ++ (vputL s.ackBoot.toNat ++ (vputL s.ackStream.toNat ++ (vputL s.ackSeq.toNat ++ ((if s.has then 1 else 0) :: (vputL s.body.size ++ bL s.body)))))))

structure segOk (s : ESeg) : Prop where
 boot : 0 ≤ s.boot
 stream : 0 ≤ s.stream
 seq : 0 ≤ s.seq
 ackBoot : 0 ≤ s.ackBoot
 ackStream : 0 ≤ s.ackStream
 ackSeq : 0 ≤ s.ackSeq

theorem putW_ok {s : ESeg} (h : segOk s) : Wt (putW s) (segB s) := by
 have w := ((((((Wt.start.num' h.boot).num' h.stream).num' h.seq).num' h.ackBoot).num' h.ackStream).num' h.ackSeq |>.flag s.has).text s.body
 have e : segB s = [] ++ vputL s.boot.toNat ++ vputL s.stream.toNat ++ vputL s.seq.toNat ++ vputL s.ackBoot.toNat ++ vputL s.ackStream.toNat ++ vputL s.ackSeq.toNat ++ [if s.has then 1 else 0] ++ (vputL s.body.size ++ bL s.body) := by
  unfold segB; simp only [List.append_assoc, List.nil_append, List.singleton_append, List.cons_append]
 rw [e]; exact w

theorem putR_of {s : ESeg} (h : segOk s) (hs : (s.body.size : Int) ≤ 65536) : ∃ t, putR s = (t, 0) ∧ bL t = segB s := by
 have w := putW_ok h
 refine ⟨wDone (putW s), ?_, w.done⟩
 unfold putR
 rw [if_neg (by rw [w.1]; decide), if_neg (by omega)]

theorem ofR_there {a : ESeg} {t : ByteArray} (h : segOk a) (hs : (a.body.size : Int) ≤ 65536) (hm : a.boot ≤ 1073741824 ∧ a.stream ≤ 1073741824 ∧ a.seq ≤ 1073741824 ∧ a.ackBoot ≤ 1073741824 ∧ a.ackStream ≤ 1073741824 ∧ a.ackSeq ≤ 1073741824) (ht : bL t = segB a) (htz : t.size ≤ maxLen) : sgR t = (a, 0) := by
 obtain ⟨m1, m2, m3, m4, m5, m6⟩ := hm
 have r0 := Rd.start t htz
 rw [ht, segB] at r0
 obtain ⟨v1, r1⟩ := r0.num (most := 1073741824) (by have := h.boot; omega) (by decide)
 obtain ⟨v2, r2⟩ := r1.num (most := 1073741824) (by have := h.stream; omega) (by decide)
 obtain ⟨v3, r3⟩ := r2.num (most := 1073741824) (by have := h.seq; omega) (by decide)
 obtain ⟨v4, r4⟩ := r3.num (most := 1073741824) (by have := h.ackBoot; omega) (by decide)
 obtain ⟨v5, r5⟩ := r4.num (most := 1073741824) (by have := h.ackStream; omega) (by decide)
 obtain ⟨v6, r6⟩ := r5.num (most := 1073741824) (by have := h.ackSeq; omega) (by decide)
 obtain ⟨v7, r7⟩ := r6.flag
 obtain ⟨v8, r8⟩ := Rd.text (t := a.body) (l := []) (most := 65536) (by rw [List.append_nil]; exact r7) hs (by decide)
 have he : rEnd (rd8 t) = 0 := by
  have := r8.end
  rw [if_pos rfl] at this
  exact this
 unfold sgR
 rw [if_neg (by rw [he]; decide)]
 have e : segR t = a := by
  have h1 := h.boot; have h2 := h.stream; have h3 := h.seq; have h4 := h.ackBoot; have h5 := h.ackStream; have h6 := h.ackSeq
  obtain ⟨b1, b2, b3, b4, b5, b6, b7, b8⟩ := a
  simp only at h1 h2 h3 h4 h5 h6 v1 v2 v3 v4 v5 v6 v7 v8
  show (⟨rNumV ⟨t, 0, 0⟩ 1073741824, rNumV (rd1 t) 1073741824, rNumV (rd2 t) 1073741824, rNumV (rd3 t) 1073741824, rNumV (rd4 t) 1073741824, rNumV (rd5 t) 1073741824, rFlagV (rd6 t), rTextV (rd7 t) 65536⟩ : ESeg) = _
  rw [show rNumV ⟨t, 0, 0⟩ 1073741824 = _ from v1, show rNumV (rd1 t) 1073741824 = _ from v2, show rNumV (rd2 t) 1073741824 = _ from v3, show rNumV (rd3 t) 1073741824 = _ from v4, show rNumV (rd4 t) 1073741824 = _ from v5, show rNumV (rd5 t) 1073741824 = _ from v6, show rFlagV (rd6 t) = _ from v7, show rTextV (rd7 t) 65536 = _ from v8]
  rw [Int.toNat_of_nonneg h1, Int.toNat_of_nonneg h2, Int.toNat_of_nonneg h3, Int.toNat_of_nonneg h4, Int.toNat_of_nonneg h5, Int.toNat_of_nonneg h6]
 rw [e]

end Go.Proofs.Ytghkhndlpfmpfaa
