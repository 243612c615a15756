/- Links: what comes in; LinkPlays. -/
import Derived.Test.YthomnhhjgcabkaaYLinkP
namespace Go.Proofs.Ythomnhhjgcabkaa
structure bdElaw22_Act (x : Elaw22_Act) : Prop where
 k : inI x.k
 s : bdStr x.s
 again : bdT x.again
 seg : bdESeg x.seg

def numsS (s : ESeg) : List Int := [s.boot, s.stream, s.seq, s.ackBoot, s.ackStream, s.ackSeq]

def okZ (z : Int) : Bool := !(decide (z < 0) || decide (z > 1073741824))

theorem okZ_iff {z : Int} : okZ z = true ↔ 0 ≤ z ∧ z ≤ 1073741824 := by
 unfold okZ
 simp only [Bool.not_eq_true', Bool.or_eq_false_iff, decide_eq_false_iff_not]; omega

theorem okZ_no {z : Int} (h : ¬ okZ z = true) : (decide (z < 0) || decide (z > 1073741824)) = true := by
 cases hx : (decide (z < 0) || decide (z > 1073741824)) with
 | true => rfl
 | false => exact absurd (by unfold okZ; rw [hx]; rfl) h

theorem mayS_eq (s : ESeg) : mayS s = ((numsS s).all okZ && decide (s.boot > 0)) := by
 unfold mayS numsS
 rw [Bool.eq_iff_iff]
 simp only [List.all_cons, List.all_nil, Bool.and_eq_true, decide_eq_true_eq, okZ_iff]
 constructor <;> (intro h; simp_all)

theorem link_may (s : ESeg) : F_link_may s = some (mayS s) := by
 unfold F_link_may
 refine (iter_up 6 (fun k => some (((numsS s).drop k).all okZ && decide (s.boot > 0))) (by unfold bdM; omega) fun rc k hk hrc => ?_).trans (by rw [mayS_eq]; rfl)
 unfold F_link_may_l1
 dsimp only
 by_cases h : k < 6
 ·rw [if_pos (decide_eq_true (by omega)), chk_t (by omega), toNat_cast, drop_cons (d := 0) (show k < (numsS s).length from h), List.all_cons]
  show (if (decide ((numsS s).getD k 0 < 0) || decide ((numsS s).getD k 0 > 1073741824)) = true then _ else _) = _
  generalize (numsS s).getD k 0 = z
  by_cases hz : okZ z = true
  ·rw [hz, if_neg (by unfold okZ at hz; simpa using hz), chk_t (by unfold inI; omega), hrc h, Bool.true_and]
  ·rw [Bool.eq_false_iff.2 hz, if_pos (okZ_no hz)]; rfl
 ·rw [if_neg (by rw [decide_eq_false (by omega)]; decide), List.drop_eq_nil_of_le (by show 6 ≤ k; omega)]; rfl

theorem link_learn {l : Elink_Link} (h : lkOk l) (s : ESeg) : F_link_Link_learn l s = some (learnL l s) := by
 have h1 := h.stream
 unfold F_link_Link_learn learnL
 by_cases c1 : s.boot > l.peer.boot
 ·rw [if_pos (decide_eq_true c1), if_pos c1]
  by_cases c2 : l.peer.boot > 0
  ·rw [if_pos (decide_eq_true c2), if_pos c2, chk_t (by unfold inI; omega)]; rfl
  ·rw [if_neg (by rw [decide_eq_false c2]; decide), if_neg c2]; rfl
 ·rw [if_neg (by rw [decide_eq_false c1]; decide), if_neg c1]
  by_cases c2 : s.stream > l.peer.stream
  ·rw [if_pos (decide_eq_true c2), if_pos c2]
  ·rw [if_neg (by rw [decide_eq_false c2]; decide), if_neg c2]

theorem link_upto {l : Elink_Link} (h : lkOk l) {n : Int} (hn : 0 ≤ n ∧ n ≤ 1073741824) : F_link_queue_string_upto l n = some (uptoL l n) := by
 have h1 := h.first; have h2 := h.told; have h3 := h.len
 have e : min (max (n - l.q.first) 0) (l.q.l.length : Int) = (uptoK l n : Int) := by unfold uptoK; omega
 have hk : uptoK l n ≤ l.q.l.length := by unfold uptoK; omega
 have hf : (uptoK l n : Int) ≤ 0 ∨ l.q.first + (uptoK l n : Int) ≤ n := by unfold uptoK; omega
 unfold F_link_queue_string_upto
 rw [e, toNat_cast, chk_t (by unfold inI; omega), chk_t (by omega), chk_t (by rw [List.length_drop]; simp only [List.length_nil]; omega), chk_t (by unfold inI; omega), chk_t (by unfold inI; omega)]
 rfl

theorem upto_peer (l : Elink_Link) (s : ESeg) : (takeL l s).boot = l.boot ∧ (takeL l s).peer = l.peer ∧ (takeL l s).stream = l.stream := by
 unfold takeL uptoL; split <;> exact ⟨rfl, rfl, rfl⟩

theorem In_k1 {l2 l3 : Elink_Link} (h : lkOk l3) (hb : l3.boot = l2.boot) (s : ESeg) : F_link_Link_In_k1 s l2 l3 = some (tellL l3 s) := by
 have hn := h.pnext
 unfold F_link_Link_In_k1 tellL
 cases hh : s.has with
 | false => rw [if_pos (show (!false) = true from rfl), if_pos (show (false = false) from rfl)]
 | true =>
  rw [if_neg (show ¬ (!true) = true by decide), if_neg (show ¬ (true = false) by decide)]
  by_cases hc : s.ackBoot = l3.boot ∧ s.stream = l3.peer.stream ∧ s.seq = l3.peer.next
  ·rw [if_pos hc, if_neg (by rw [← hb, hc.1, hc.2.1, hc.2.2]; simp), chk_t (by unfold inI; omega)]
  ·rw [if_neg hc, if_pos (by
    rw [← hb]
    by_cases x : s.ackBoot = l3.boot <;> by_cases y : s.stream = l3.peer.stream <;> by_cases z : s.seq = l3.peer.next <;> simp_all)]

theorem link_In {l : Elink_Link} (h : lkOk l) (s : ESeg) : F_link_Link_In l s = some (inL l s) := by
 unfold F_link_Link_In inL
 rw [none_of h, Option.bind_some, if_neg (by decide), link_may, Option.bind_some]
 cases hm : mayS s with
 | false => rw [if_pos (show (!false) = true from rfl), if_pos (show (false = false) from rfl)]
 | true =>
  have hs := of_decide_eq_true hm
  rw [if_neg (show ¬ (!true) = true by decide), if_neg (show ¬ (true = false) by decide)]
  by_cases hb : s.boot < l.peer.boot
  ·rw [if_pos (decide_eq_true hb), if_pos hb]
  rw [if_neg (by rw [decide_eq_false hb]; decide), if_neg hb, link_learn h, Option.bind_some]
  have hl := learn_ok h hm hb
  have ht := take_ok hl hm
  have hp := upto_peer (learnL l s) s
  by_cases hc : s.ackBoot = (learnL l s).boot ∧ s.ackStream = (learnL l s).stream
  ·rw [if_pos (by rw [Bool.and_eq_true, beq_iff_eq, beq_iff_eq]; exact hc), link_upto hl (by omega), Option.bind_some]
   have e : takeL (learnL l s) s = uptoL (learnL l s) s.ackSeq := by unfold takeL; rw [if_pos hc]
   rw [← e]
   exact In_k1 ht hp.1 s
  ·rw [if_neg (by rw [Bool.and_eq_true, beq_iff_eq, beq_iff_eq]; exact hc)]
   have e : takeL (learnL l s) s = learnL l s := by unfold takeL; rw [if_neg hc]
   rw [e]
   exact In_k1 hl rfl s

theorem ref22_known {l : Elink_Link} (h : lkOk l) (s : ESeg) : F_ref22_Link_known (rf l) s = some (rf (learnL l s)) := by
 have h1 := h.stream
 unfold F_ref22_Link_known learnL
 by_cases c1 : s.boot > l.peer.boot
 ·rw [if_pos (show decide (s.boot > (rf l).peer) = true from decide_eq_true c1), if_pos c1]
  by_cases c2 : l.peer.boot > 0
  ·rw [if_pos (show decide ((rf l).peer > 0) = true from decide_eq_true c2), if_pos c2, chk_t (by show inI (l.stream + 1); unfold inI; omega)]; rfl
  ·rw [if_neg (show ¬ decide ((rf l).peer > 0) = true by rw [show decide ((rf l).peer > 0) = false from decide_eq_false c2]; decide), if_neg c2]; rfl
 ·rw [if_neg (show ¬ decide (s.boot > (rf l).peer) = true by rw [show decide (s.boot > (rf l).peer) = false from decide_eq_false c1]; decide), if_neg c1]
  by_cases c2 : s.stream > l.peer.stream
  ·rw [if_pos (show decide (s.stream > (rf l).in0) = true from decide_eq_true c2), if_pos c2]; rfl
  ·rw [if_neg (show ¬ decide (s.stream > (rf l).in0) = true by rw [show decide (s.stream > (rf l).in0) = false from decide_eq_false c2]; decide), if_neg c2]

def dropL (l : Elink_Link) : Elink_Link := { l with q := { first := l.q.first + 1, l := l.q.l.drop 1, told := max (l.q.told - 1) 0 } }

theorem take_drop {l : Elink_Link} (h : lkOk l) {s : ESeg} (hc : s.ackBoot = l.boot ∧ s.ackStream = l.stream) (h1 : 0 < l.q.l.length) (h2 : l.q.first < s.ackSeq) : takeL (dropL l) s = takeL l s := by
 have ht := h.told
 have hk : uptoK l s.ackSeq = uptoK (dropL l) s.ackSeq + 1 := by
  unfold uptoK dropL; simp only [List.length_drop]; omega
 unfold takeL
 rw [if_pos hc, if_pos (show s.ackBoot = (dropL l).boot ∧ s.ackStream = (dropL l).stream from hc)]
 unfold uptoL
 rw [hk]
 have e1 : (dropL l).q.first + (uptoK (dropL l) s.ackSeq : Int) = l.q.first + ((uptoK (dropL l) s.ackSeq + 1 : Nat) : Int) := by show l.q.first + 1 + _ = _; omega
 have e2 : (dropL l).q.l.drop (uptoK (dropL l) s.ackSeq) = l.q.l.drop (uptoK (dropL l) s.ackSeq + 1) := by show (l.q.l.drop 1).drop _ = _; rw [List.drop_drop, Nat.add_comm]
 have e3 : max ((dropL l).q.told - (uptoK (dropL l) s.ackSeq : Int)) 0 = max (l.q.told - ((uptoK (dropL l) s.ackSeq + 1 : Nat) : Int)) 0 := by show max (max (l.q.told - 1) 0 - _) 0 = _; omega
 rw [e1, e2, e3]; rfl

theorem take_none {l : Elink_Link} (h : lkOk l) {s : ESeg} (hc : ¬ (((s.ackBoot = l.boot ∧ s.ackStream = l.stream) ∧ 0 < l.q.l.length) ∧ l.q.first < s.ackSeq)) : takeL l s = l := by
 have ht := h.told
 unfold takeL
 split
 ·rename_i h1
  have hk : uptoK l s.ackSeq = 0 := by
   unfold uptoK
   by_cases hx : 0 < l.q.l.length
   ·have : ¬ l.q.first < s.ackSeq := fun e => hc ⟨⟨h1, hx⟩, e⟩
    omega
   ·omega
  unfold uptoL
  rw [hk, List.drop_zero, show l.q.first + ((0 : Nat) : Int) = l.q.first by omega, show max (l.q.told - ((0 : Nat) : Int)) 0 = l.q.told by omega]
 ·rfl

theorem drop_ok {l : Elink_Link} (h : lkOk l) {n : Int} (hn : n ≤ 1073741824) (h2 : l.q.first < n) : lkOk (dropL l) := by
 have h1 := h.first; have h3 := h.told; have h4 := h.len
 exact ⟨h.boot, h.stream, h.str2, by show 0 ≤ l.q.first + 1 ∧ l.q.first + 1 ≤ 1073741824; omega, by show (l.q.l.drop 1).length ≤ 8; rw [List.length_drop]; omega, by show 0 ≤ max (l.q.told - 1) 0 ∧ max (l.q.told - 1) 0 ≤ 4; omega, h.pboot, h.pstream, h.pnext⟩

def rf3 (x : List ByteArray × Int × Elink_Link) : List ByteArray × Int × Eref22_Link := (x.1, x.2.1, rf x.2.2)

theorem ref22_In_l2 {l : Elink_Link} (h : lkOk l) {s : ESeg} (hm : mayS s = true) : iter (F_ref22_Link_In_l2 s) FU (rf l) = some (rf3 (tellL (takeL l s) s)) := by
 have hs := of_decide_eq_true hm
 refine iter_rule (fun r : Eref22_Link => r.queue.length) (fun _ => some (rf3 (tellL (takeL l s) s))) (fun r => ∃ l', r = rf l' ∧ lkOk l' ∧ takeL l' s = takeL l s) ?_ FU _ ⟨l, rfl, h, rfl⟩ (by have := h.len; unfold FU; show l.q.l.length < _; omega)
 rintro rc r ⟨l', rfl, h', he⟩ hrc
 have h1 := h'.first; have h2 := h'.told; have h3 := h'.len
 unfold F_ref22_Link_In_l2
 dsimp only
 by_cases hc : (((s.ackBoot = l'.boot ∧ s.ackStream = l'.stream) ∧ 0 < l'.q.l.length) ∧ l'.q.first < s.ackSeq)
 ·rw [if_pos (by
   simp only [Bool.and_eq_true, beq_iff_eq, decide_eq_true_eq]
   exact ⟨⟨hc.1.1, by show (l'.q.l.length : Int) > 0; omega⟩, hc.2⟩), chk_t (by show (0 : Int) ≤ 1 ∧ 1 ≤ (l'.q.l.length : Int); omega), chk_t (by show ((([] : List ByteArray).length + (l'.q.l.drop 1).length : Nat) : Int) * 16 ≤ _; rw [List.length_drop]; simp only [List.length_nil]; omega), chk_t (by show inI (l'.q.first + 1); unfold inI; omega), chk_t (by show inI (l'.q.told - 1); unfold inI; omega)]
  refine hrc (rf (dropL l')) ⟨dropL l', rfl, drop_ok h' (n := s.ackSeq) (by omega) hc.2, ?_⟩ (by show (l'.q.l.drop 1).length < l'.q.l.length; rw [List.length_drop]; omega)
  rw [← he]
  exact take_drop h' hc.1.1 hc.1.2 hc.2
 ·rw [if_neg (by
   simp only [Bool.and_eq_true, beq_iff_eq, decide_eq_true_eq]
   intro x
   refine hc ⟨⟨x.1.1, ?_⟩, x.2⟩
   have : (l'.q.l.length : Int) > 0 := x.1.2
   omega), ← he, take_none h' hc]
  unfold tellL
  cases hh : s.has with
  | false => rw [if_pos (show (!false) = true from rfl), if_pos (show (false = false) from rfl)]; rfl
  | true =>
   rw [if_neg (show ¬ (!true) = true by decide), if_neg (show ¬ (true = false) by decide)]
   by_cases hq : s.ackBoot = l'.boot ∧ s.stream = l'.peer.stream ∧ s.seq = l'.peer.next
   ·rw [if_pos hq, if_pos (by simp only [Bool.and_eq_true, beq_iff_eq]; exact ⟨⟨hq.1, hq.2.1⟩, hq.2.2⟩), chk_t (by show inI (l'.peer.next + 1); have := h'.pnext; unfold inI; omega)]; rfl
   ·rw [if_neg hq, if_neg (by simp only [Bool.and_eq_true, beq_iff_eq]; exact fun x => hq ⟨x.1.1, x.1.2, x.2⟩)]; rfl

theorem ref22_In {l : Elink_Link} (h : lkOk l) (s : ESeg) : F_ref22_Link_In (rf l) s = some (rf3 (inL l s)) := by
 unfold F_ref22_Link_In
 refine (iter_up 6 (fun k => if ((numsS s).drop k).all okZ = true then (if s.boot = 0 then some ([], 1, rf l) else if s.boot < l.peer.boot then some ([], 0, rf l) else iter (F_ref22_Link_In_l2 s) FU (rf (learnL l s))) else some ([], 1, rf l)) (by unfold bdM; omega) fun rc k hk hrc => ?_).trans ?_
 ·unfold F_ref22_Link_In_l1
  dsimp only
  by_cases hk' : k < 6
  ·have hlen : (0 : Int) ≤ (k : Int) ∧ (k : Int) < ([s.boot, s.stream, s.seq, s.ackBoot, s.ackStream, s.ackSeq].length : Int) := by show (0 : Int) ≤ (k : Int) ∧ (k : Int) < 6; omega
   rw [if_pos (decide_eq_true (by omega)), chk_t hlen, chk_t (fun _ => hlen), toNat_cast, drop_cons (d := default) (show k < (numsS s).length from hk'), List.all_cons]
   show (if (decide ((numsS s).getD k default < 0) || decide ((numsS s).getD k default > 1073741824)) = true then _ else _) = _
   generalize (numsS s).getD k default = z
   by_cases hz : okZ z = true
   ·rw [hz, if_neg (by unfold okZ at hz; simpa using hz), chk_t (by unfold inI; omega), hrc hk', Bool.true_and]
   ·rw [Bool.eq_false_iff.2 hz, if_pos (okZ_no hz), if_neg (by simp)]
  ·rw [if_neg (by rw [decide_eq_false (by omega)]; decide), List.drop_eq_nil_of_le (by show 6 ≤ k; omega), if_pos (show ([] : List Int).all okZ = true from rfl)]
   by_cases h0 : s.boot = 0
   ·rw [if_pos (by rw [h0]; rfl), if_pos h0]
   rw [if_neg (by rw [beq_iff_eq]; exact h0), if_neg h0]
   by_cases hb : s.boot < l.peer.boot
   ·rw [if_pos (show decide (s.boot < (rf l).peer) = true from decide_eq_true hb), if_pos hb]
   ·rw [if_neg (show ¬ decide (s.boot < (rf l).peer) = true by rw [show decide (s.boot < (rf l).peer) = false from decide_eq_false hb]; decide), if_neg hb, ref22_known h, Option.bind_some]
 ·rw [List.drop_zero]
  unfold inL
  by_cases hm : mayS s = true
  ·have hm2 := hm
   rw [mayS_eq, Bool.and_eq_true] at hm2
   have hs := of_decide_eq_true hm
   rw [if_pos hm2.1, if_neg (show ¬ s.boot = 0 by omega), if_neg (show ¬ mayS s = false by rw [hm]; decide)]
   by_cases hb : s.boot < l.peer.boot
   ·rw [if_pos hb, if_pos hb]; rfl
   ·rw [if_neg hb, if_neg hb]
    exact ref22_In_l2 (learn_ok h hm hb) hm
  ·rw [if_pos (show mayS s = false from Bool.eq_false_iff.2 hm)]
   rw [mayS_eq, Bool.and_eq_true] at hm
   by_cases ha : (numsS s).all okZ = true
   ·have hb : s.boot = 0 := by
     have h1 : ¬ s.boot > 0 := fun e => hm ⟨ha, decide_eq_true e⟩
     have h2 := (okZ_iff.1 (List.all_eq_true.1 ha s.boot (by simp [numsS]))).1
     omega
    rw [if_pos ha, if_pos hb]; rfl
   ·rw [if_neg ha]; rfl

-- the same
theorem same_segs (a : List ESeg) (ha : a.length ≤ bdM) : F_ref22_SameSegs a a = some true := by
 unfold F_ref22_SameSegs
 rw [if_neg (by simp)]
 refine iter_up a.length (fun _ => some true) ha fun rc k hk hrc => ?_
 unfold F_ref22_SameSegs_l1
 dsimp only
 by_cases h : k < a.length
 ·rw [if_pos (by rw [Bool.and_eq_true]; exact ⟨decide_eq_true (by omega), decide_eq_true (by omega)⟩), chk_t (by omega), chk_t (by omega), eqESeg_iff.2 rfl, if_neg (by decide), chk_t (by unfold inI; unfold bdM at ha; omega), hrc h]
 ·rw [if_neg (by rw [Bool.and_eq_true, decide_eq_true_eq]; omega)]

theorem same_strs (a : List ByteArray) (ha : a.length ≤ bdM) : F_ref05_Same a a = some true := by
 unfold F_ref05_Same
 rw [if_neg (by simp)]
 refine iter_up a.length (fun _ => some true) ha fun rc k hk hrc => ?_
 unfold F_ref05_Same_l1
 dsimp only
 by_cases h : k < a.length
 ·rw [if_pos (by rw [Bool.and_eq_true]; exact ⟨decide_eq_true (by omega), decide_eq_true (by omega)⟩), chk_t (by omega), chk_t (by omega), seqB_iff.2 rfl, if_neg (by decide), chk_t (by unfold inI; unfold bdM at ha; omega), hrc h]
 ·rw [if_neg (by rw [Bool.and_eq_true, decide_eq_true_eq]; omega)]

-- any calls
theorem outs_len {l : Elink_Link} (h : lkOk l) (again : Bool) : (outsL l again).length ≤ 4 := by
 unfold outsL
 split
 ·simp
 ·rw [segsL_len]; unfold winL; omega

theorem tell_len (l : Elink_Link) (s : ESeg) : (tellL l s).1.length ≤ 1 := by
 unfold tellL
 split; · simp
 split <;> simp

theorem in_len (l : Elink_Link) (s : ESeg) : (inL l s).1.length ≤ 1 := by
 unfold inL
 split; · simp
 split; · simp
 exact tell_len _ _

theorem plays_k7 {l : Elink_Link} (h : lkOk l) (i : Int) (hi : inI (i + 1)) (rc : Int × Elink_Link × Eref22_Link → Option Bool) : F_law22_LinkPlays_k7 i rc true l (rf l) = rc (i + 1, l, rf l) := by
 unfold F_law22_LinkPlays_k7
 have h1 : F_link_Link_Waiting l = some (l.q.l.length : Int) := by unfold F_link_Link_Waiting; rw [none_of h]; rfl
 have h2 : F_link_Link_Knows l = some l.peer.boot := by unfold F_link_Link_Knows; rw [none_of h]; rfl
 rw [show (!!true) = true from rfl, gif_true, h1, Option.bind_some, show ((l.q.l.length : Int) != ((rf l).queue.length : Int)) = false from bne_self_eq_false _, show (!((!true) || false)) = true from rfl, gif_true, h2, Option.bind_some, show (l.peer.boot != (rf l).peer) = false from bne_self_eq_false _, if_neg (show ¬ (((!true) || false) || false) = true by decide), chk_t hi]

theorem pure_LinkPlays (boot : Int) (l : List Elaw22_Act) (hb : inI boot) (hl : bdSl bdElaw22_Act l) : F_law22_LinkPlays boot l = some true := by
 unfold F_law22_LinkPlays F_link_New F_ref22_New
 by_cases h0 : (decide (boot < 1) || decide (boot > 1073741824)) = true
 ·rw [if_pos h0, if_pos h0, Option.bind_some]
  show iter F_law22_LinkPlays_l1 FU () = some true
  rw [show FU = (FU - 1) + 1 from rfl]
  show F_law22_LinkPlays_l1 _ () = _
  unfold F_law22_LinkPlays_l1
  rw [awake22]; rfl
 ·rw [if_neg h0, if_neg h0, Option.bind_some]
  simp only [Bool.or_eq_true, decide_eq_true_eq, not_or] at h0
  show iter (F_law22_LinkPlays_l6 l) FU (0, ({ (default : Elink_Link) with boot := boot, stream := 1 } : Elink_Link), ({ (default : Eref22_Link) with boot := boot, stream := 1 } : Eref22_Link)) = _
  refine iter_rule (fun s : Int × Elink_Link × Eref22_Link => 50 - s.1.toNat) (fun _ => some true) (fun s => 0 ≤ s.1 ∧ s.1 ≤ 40 ∧ lkOk s.2.1 ∧ s.2.2 = rf s.2.1) ?_ FU _ ⟨by simp, by simp, ?_, rfl⟩ (by unfold FU; simp only; omega)
  ·rintro rc ⟨i, a, x⟩ ⟨h1, h2, h3, h4⟩ hrc
   simp only at h1 h2 h3 h4 hrc
   subst h4
   obtain ⟨k, rfl⟩ := Int.eq_ofNat_of_zero_le h1
   unfold F_law22_LinkPlays_l6
   dsimp only
   by_cases hk : (k : Int) < (l.length : Int) ∧ (k : Int) < 40
   ·have hI : inI ((k : Int) + 1) := by unfold inI; omega
    have hx : (0 : Int) ≤ (k : Int) ∧ (k : Int) < (l.length : Int) := ⟨h1, hk.1⟩
    have hnext : ∀ b, lkOk b → rc ((k : Int) + 1, b, rf b) = some true := fun b hb => hrc _ ⟨by simp only; omega, by simp only; omega, hb, rfl⟩ (by simp only; omega)
    rw [if_pos (by rw [decide_eq_true hk.1, decide_eq_true hk.2]; rfl), chk_t hx, toNat_cast]
    generalize l.getD k default = act
    have hk8 : ∀ b : Bool, F_law22_LinkPlays_k8 l (k : Int) a (rf a) rc b = some true := by
     intro b
     unfold F_law22_LinkPlays_k8
     cases b with
     | true =>
      rw [if_pos rfl, chk_t hx, toNat_cast, link_Out h3, Option.bind_some, chk_t hx, ref22_Out h3, Option.bind_some, same_segs (outsL a (l.getD k default).again) (by have := outs_len h3 (l.getD k default).again; unfold bdM; omega), Option.bind_some, plays_k7 (out_ok h3) _ hI]
      exact hnext _ (out_ok h3)
     | false =>
      rw [if_neg (by decide), chk_t hx, toNat_cast]
      show ((F_link_Link_In a (l.getD k default).seg).bind fun i_4 => chk _ ((F_ref22_Link_In (rf a) (l.getD k default).seg).bind fun i_5 => _)) = _
      rw [link_In h3, Option.bind_some, chk_t hx, ref22_In h3, Option.bind_some]
      show ((F_ref05_Same (inL a (l.getD k default).seg).1 (inL a (l.getD k default).seg).1).bind _) = _
      rw [same_strs (inL a (l.getD k default).seg).1 (by have := in_len a (l.getD k default).seg; unfold bdM; omega), Option.bind_some]
      show F_law22_LinkPlays_k7 (k : Int) rc (true && ((inL a (l.getD k default).seg).2.1 == (inL a (l.getD k default).seg).2.1)) _ (rf (inL a (l.getD k default).seg).2.2) = _
      rw [beq_self_eq_true, Bool.and_true, plays_k7 (in_ok h3 _) _ hI]
      exact hnext _ (in_ok h3 _)
    by_cases c0 : (act.k == 0) = true
    ·rw [if_pos c0, chk_t hx, link_Send h3, Option.bind_some, chk_t hx, ref22_Send h3, Option.bind_some]
     dsimp only
     rw [beq_self_eq_true, plays_k7 (send_ok h3 _) _ hI]
     exact hnext _ (send_ok h3 _)
    ·rw [if_neg c0]
     split <;> exact hk8 _
   ·rw [if_neg (by simp only [Bool.and_true, Bool.and_eq_true, decide_eq_true_eq]; exact hk), awake22]; rfl
  ·exact ⟨by show 1 ≤ boot ∧ boot ≤ 1073741824; omega, by show (1 : Int) ≤ 1 ∧ (1 : Int) ≤ _; omega, .inl (Int.le_refl _), by show (0 : Int) ≤ 0 ∧ (0 : Int) ≤ _; omega, Nat.zero_le _, by show (0 : Int) ≤ 0 ∧ (0 : Int) ≤ _; omega, by show (0 : Int) ≤ 0 ∧ (0 : Int) ≤ _; omega, by show (0 : Int) ≤ 0 ∧ (0 : Int) ≤ _; omega, by show (0 : Int) ≤ 0 ∧ (0 : Int) ≤ _; omega⟩

end Go.Proofs.Ythomnhhjgcabkaa
