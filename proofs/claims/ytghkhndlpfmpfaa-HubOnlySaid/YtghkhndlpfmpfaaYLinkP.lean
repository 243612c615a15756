/- Links: what both sides come to; LinkPlays, LinkZero. -/
import Derived.Test.YtghkhndlpfmpfaaYHb4
import Derived.Test.YtghkhndlpfmpfaaYO
import Derived.Test.YtghkhndlpfmpfaaYWP
namespace Go.Proofs.Ytghkhndlpfmpfaa

structure bdESeg (x : ESeg) : Prop where
 boot : inI x.boot
 stream : inI x.stream
 seq : inI x.seq
 ackBoot : inI x.ackBoot
 ackStream : inI x.ackStream
 ackSeq : inI x.ackSeq
 has : bdT x.has
 body : bdStr x.body

/-- the program's link as the document tells it -/
structure lkOk (l : Elink_Link) : Prop where
 boot : 1 ≤ l.boot ∧ l.boot ≤ 1073741824
 stream : 1 ≤ l.stream ∧ l.stream ≤ 1073741824
 str2 : l.stream ≤ 1 ∨ l.stream ≤ l.peer.boot
 first : 0 ≤ l.q.first ∧ l.q.first ≤ 1073741824
 len : l.q.l.length ≤ 8
 told : 0 ≤ l.q.told ∧ l.q.told ≤ 4
 pboot : 0 ≤ l.peer.boot ∧ l.peer.boot ≤ 1073741824
 pstream : 0 ≤ l.peer.stream ∧ l.peer.stream ≤ 1073741824
 pnext : 0 ≤ l.peer.next ∧ l.peer.next ≤ 1073741825

-- sending
def sendL (l : Elink_Link) (s : ByteArray) : Int × Elink_Link := if (s.size : Int) > 65536 then (3, l) else if l.q.l.length ≥ 8 then (6, l) else (0, { l with q := { l.q with l := l.q.l ++ [s] } })

theorem none_of {l : Elink_Link} (h : lkOk l) : F_link_Link_none l = some false := by
 unfold F_link_Link_none
 rw [show (l.boot == 0) = false by rw [beq_eq_false_iff_ne]; have := h.boot; omega]

theorem link_Send {l : Elink_Link} (h : lkOk l) (s : ByteArray) : F_link_Link_Send l s = some (sendL l s) := by
 have hl := h.len
 unfold F_link_Link_Send sendL
 rw [none_of h, Option.bind_some, if_neg (by decide)]
 by_cases c1 : (s.size : Int) > 65536
 ·rw [if_pos (decide_eq_true c1), if_pos c1]
 rw [if_neg (by rw [decide_eq_false c1]; decide), if_neg c1]
 by_cases c2 : l.q.l.length ≥ 8
 ·rw [if_pos (decide_eq_true (by omega)), if_pos c2]
 rw [if_neg (by rw [decide_eq_false (by omega)]; decide), if_neg c2, chk_t (by simp only [List.length_cons, List.length_nil]; omega)]

-- what goes out
def headL (l : Elink_Link) : ESeg := { boot := l.boot, stream := l.stream, seq := l.q.first, ackBoot := l.peer.boot, ackStream := l.peer.stream, ackSeq := l.peer.next, has := false, body := ByteArray.empty }

def segL (l : Elink_Link) (i : Nat) : ESeg := { headL l with seq := l.q.first + (i : Int), has := true, body := l.q.l.getD i default }

/-- the segments of the places k, k + 1 .. up to n -/
def segsL (l : Elink_Link) (k n : Nat) : List ESeg := (List.range' k (n - k)).map (segL l)

theorem segsL_step {l : Elink_Link} {k n : Nat} (h : k < n) : segsL l k n = segL l k :: segsL l (k + 1) n := by
 unfold segsL
 rw [show n - k = (n - (k + 1)) + 1 by omega, List.range'_succ, List.map_cons]

theorem segsL_end {l : Elink_Link} {k n : Nat} (h : n ≤ k) : segsL l k n = [] := by
 unfold segsL
 rw [show n - k = 0 by omega]; rfl

def winL (l : Elink_Link) : Nat := min l.q.l.length 4

def fromL (l : Elink_Link) (again : Bool) : Nat := if again = true then 0 else l.q.told.toNat

def outsL (l : Elink_Link) (again : Bool) : List ESeg := if (segsL l (fromL l again) (winL l)).length = 0 ∧ l.owes = true then [headL l] else segsL l (fromL l again) (winL l)

def outL (l : Elink_Link) : Elink_Link := { l with q := { l.q with told := max l.q.told (min (l.q.l.length : Int) 4) }, owes := false }

theorem out_ok {l : Elink_Link} (h : lkOk l) : lkOk (outL l) := ⟨h.boot, h.stream, h.str2, h.first, h.len, by have := h.told; show 0 ≤ max l.q.told _ ∧ max l.q.told _ ≤ 4; omega, h.pboot, h.pstream, h.pnext⟩

theorem segsL_len (l : Elink_Link) (k n : Nat) : (segsL l k n).length = n - k := by unfold segsL; rw [List.length_map, List.length_range']

theorem texts_1 {l : Elink_Link} (h : lkOk l) (k : Nat) (hk : k ≤ 4) : ∀ out : List ESeg, out.length ≤ 10 → F_link_Link_texts_1 F_link_Link_Out_y2 (true, out) (k : Int) l = some (true, out ++ segsL l k (winL l)) := by
 intro out ho
 have hl := h.len; have hf := h.first
 unfold F_link_Link_texts_1
 refine (iter_rule (fun s : Int × (Bool × List ESeg) => 8 - s.1.toNat) (fun s => some (true, s.2.2 ++ segsL l s.1.toNat (winL l))) (fun s => 0 ≤ s.1 ∧ s.1 ≤ 4 ∧ s.2.1 = true ∧ s.2.2.length ≤ 10 + s.1.toNat) ?_ FU _ ⟨by simp only; omega, by simp only; omega, rfl, by simp only; omega⟩ (by unfold FU; simp only; omega)).trans (by simp only [toNat_cast])
 rintro rc ⟨i, b, o⟩ ⟨h1, h2, h3, h4⟩ hrc
 simp only at h1 h2 h3 h4 hrc
 subst h3
 obtain ⟨j, rfl⟩ := Int.eq_ofNat_of_zero_le h1
 simp only [F_link_Link_texts_1_l1, toNat_cast] at *
 by_cases hj : j < winL l
 ·have hj' : j < l.q.l.length := by unfold winL at hj; omega
  rw [if_pos (decide_eq_true (by unfold winL at hj; omega)), show F_link_Link_head l = some (headL l) from rfl, Option.bind_some, chk_t (by show inI (l.q.first + (j : Int)); unfold inI; omega), chk_t (by omega)]
  rw [chk_t (by trivial)]
  show ((F_link_Link_Out_y2 (segL l j) o).bind _) = _
  rw [show F_link_Link_Out_y2 (segL l j) o = some (true, o ++ [segL l j]) from chk_t (by simp only [List.length_cons, List.length_nil]; omega), Option.bind_some, if_neg (by simp), chk_t (by unfold inI; omega)]
  rw [hrc ((j : Int) + 1, (true, o ++ [segL l j])) ⟨by simp only; omega, by unfold winL at hj; simp only; omega, rfl, by simp only [List.length_append, List.length_cons, List.length_nil]; omega⟩ (by simp only; omega)]
  simp only [toNat_cast1]
  rw [segsL_step hj, List.append_assoc]; rfl
 ·rw [if_neg (by rw [decide_eq_false (by unfold winL at hj; omega)]; decide), segsL_end (by omega), List.append_nil]

theorem Out_k3 (l : Elink_Link) (o : List ESeg) : F_link_Link_Out_k3 l o = some (o, outL l) := rfl

theorem Out_k1 {l : Elink_Link} (h : lkOk l) (k : Nat) (hk : k ≤ 4) : F_link_Link_Out_k1 l (k : Int) = some (if (segsL l k (winL l)).length = 0 ∧ l.owes = true then [headL l] else segsL l k (winL l), outL l) := by
 unfold F_link_Link_Out_k1
 rw [show F_link_Link_texts l (k : Int) = some (k : Int) from rfl, Option.bind_some, texts_1 h k hk [] (by simp), Option.bind_some, if_pos rfl]
 simp only [List.nil_append]
 by_cases hc : (segsL l k (winL l)).length = 0 ∧ l.owes = true
 ·rw [if_pos (by rw [hc.1, hc.2]; rfl), if_pos hc, show F_link_Link_head l = some (headL l) from rfl, Option.bind_some, chk_t (by rw [hc.1]; simp only [List.length_cons, List.length_nil]; omega), Out_k3]
  rw [List.eq_nil_of_length_eq_zero hc.1]; rfl
 ·rw [if_neg (by rw [Bool.and_eq_true, beq_iff_eq]; exact fun e => hc ⟨by omega, e.2⟩), if_neg hc, Out_k3]

theorem link_Out {l : Elink_Link} (h : lkOk l) (again : Bool) : F_link_Link_Out l again = some (outsL l again, outL l) := by
 have ht := h.told
 unfold F_link_Link_Out
 rw [none_of h, Option.bind_some, if_neg (by decide)]
 cases again with
 | true => exact Out_k1 h 0 (by omega)
 | false =>
  show F_link_Link_Out_k1 l l.q.told = some (if (segsL l l.q.told.toNat (winL l)).length = 0 ∧ l.owes = true then [headL l] else segsL l l.q.told.toNat (winL l), outL l)
  obtain ⟨t, ht2⟩ := Int.eq_ofNat_of_zero_le ht.1
  rw [ht2]
  exact Out_k1 h t (by omega)

-- what comes in
def mayS (s : ESeg) : Bool := decide ((0 ≤ s.boot ∧ s.boot ≤ 1073741824) ∧ (0 ≤ s.stream ∧ s.stream ≤ 1073741824) ∧ (0 ≤ s.seq ∧ s.seq ≤ 1073741824) ∧ (0 ≤ s.ackBoot ∧ s.ackBoot ≤ 1073741824) ∧ (0 ≤ s.ackStream ∧ s.ackStream ≤ 1073741824) ∧ (0 ≤ s.ackSeq ∧ s.ackSeq ≤ 1073741824) ∧ s.boot > 0)

def learnL (l : Elink_Link) (s : ESeg) : Elink_Link :=
 if s.boot > l.peer.boot then (if l.peer.boot > 0 then { l with stream := l.stream + 1, q := { l.q with first := 0, told := 0 }, peer := ⟨s.boot, s.stream, 0⟩ } else { l with peer := ⟨s.boot, s.stream, 0⟩ })
 else if s.stream > l.peer.stream then { l with peer := { l.peer with stream := s.stream, next := 0 } } else l

def uptoK (l : Elink_Link) (n : Int) : Nat := min (n - l.q.first).toNat l.q.l.length

def uptoL (l : Elink_Link) (n : Int) : Elink_Link := { l with q := { first := l.q.first + (uptoK l n : Int), l := l.q.l.drop (uptoK l n), told := max (l.q.told - (uptoK l n : Int)) 0 } }

def takeL (l : Elink_Link) (s : ESeg) : Elink_Link := if s.ackBoot = l.boot ∧ s.ackStream = l.stream then uptoL l s.ackSeq else l

def tellL (l : Elink_Link) (s : ESeg) : List ByteArray × Int × Elink_Link :=
 if s.has = false then ([], 0, l) else if s.ackBoot = l.boot ∧ s.stream = l.peer.stream ∧ s.seq = l.peer.next then ([s.body], 0, { l with peer := { l.peer with next := l.peer.next + 1 }, owes := true }) else ([], 0, { l with owes := true })

def inL (l : Elink_Link) (s : ESeg) : List ByteArray × Int × Elink_Link :=
 if mayS s = false then ([], 1, l) else if s.boot < l.peer.boot then ([], 0, l) else tellL (takeL (learnL l s) s) s

theorem learn_ok {l : Elink_Link} (h : lkOk l) {s : ESeg} (hs : mayS s = true) (hb : ¬ s.boot < l.peer.boot) : lkOk (learnL l s) := by
 have hs' := of_decide_eq_true hs
 have h1 := h.stream; have h2 := h.str2; have h3 := h.pboot; have h4 := h.pnext; have h5 := h.pstream
 unfold learnL
 split
 ·split
  ·exact ⟨h.boot, by show 1 ≤ l.stream + 1 ∧ l.stream + 1 ≤ 1073741824; omega, by show l.stream + 1 ≤ 1 ∨ l.stream + 1 ≤ s.boot; omega, by show (0 : Int) ≤ 0 ∧ (0 : Int) ≤ _; omega, h.len, by show (0 : Int) ≤ 0 ∧ (0 : Int) ≤ _; omega, by show 0 ≤ s.boot ∧ s.boot ≤ 1073741824; omega, by show 0 ≤ s.stream ∧ s.stream ≤ 1073741824; omega, by show (0 : Int) ≤ 0 ∧ (0 : Int) ≤ _; omega⟩
  ·exact ⟨h.boot, h.stream, by show l.stream ≤ 1 ∨ l.stream ≤ s.boot; omega, h.first, h.len, h.told, by show 0 ≤ s.boot ∧ s.boot ≤ 1073741824; omega, by show 0 ≤ s.stream ∧ s.stream ≤ 1073741824; omega, by show (0 : Int) ≤ 0 ∧ (0 : Int) ≤ _; omega⟩
 ·split
  ·exact ⟨h.boot, h.stream, h.str2, h.first, h.len, h.told, h.pboot, by show 0 ≤ s.stream ∧ s.stream ≤ 1073741824; omega, by show (0 : Int) ≤ 0 ∧ (0 : Int) ≤ _; omega⟩
  ·exact h

theorem take_ok {l : Elink_Link} (h : lkOk l) {s : ESeg} (hs : mayS s = true) : lkOk (takeL l s) := by
 have hs' := of_decide_eq_true hs
 have h1 := h.first; have h2 := h.told; have h3 := h.len
 unfold takeL
 split
 ·have hk : (uptoK l s.ackSeq : Int) ≤ 0 ∨ l.q.first + (uptoK l s.ackSeq : Int) ≤ s.ackSeq := by unfold uptoK; omega
  exact ⟨h.boot, h.stream, h.str2, by show 0 ≤ l.q.first + (uptoK l s.ackSeq : Int) ∧ l.q.first + (uptoK l s.ackSeq : Int) ≤ 1073741824; omega, by show (l.q.l.drop _).length ≤ 8; rw [List.length_drop]; omega, by show 0 ≤ max (l.q.told - (uptoK l s.ackSeq : Int)) 0 ∧ max (l.q.told - (uptoK l s.ackSeq : Int)) 0 ≤ 4; omega, h.pboot, h.pstream, h.pnext⟩
 ·exact h

theorem tell_ok {l : Elink_Link} (h : lkOk l) {s : ESeg} (hs : mayS s = true) : lkOk (tellL l s).2.2 := by
 have hs' := of_decide_eq_true hs
 unfold tellL
 split; · exact h
 split
 ·rename_i h2
  exact ⟨h.boot, h.stream, h.str2, h.first, h.len, h.told, h.pboot, h.pstream, by have := h.pnext; show 0 ≤ l.peer.next + 1 ∧ l.peer.next + 1 ≤ 1073741825; omega⟩
 ·exact ⟨h.boot, h.stream, h.str2, h.first, h.len, h.told, h.pboot, h.pstream, h.pnext⟩

theorem in_ok {l : Elink_Link} (h : lkOk l) (s : ESeg) : lkOk (inL l s).2.2 := by
 unfold inL
 split; · exact h
 split; · exact h
 rename_i h1 h2
 have hs : mayS s = true := by simpa using h1
 exact tell_ok (take_ok (learn_ok h hs h2) hs) hs

end Go.Proofs.Ytghkhndlpfmpfaa
