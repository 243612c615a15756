/- Links: what comes in; LinkPlays. -/
import Derived.Test.YtghkhndlpfmpfaaYLinkP
namespace Go.Proofs.Ytghkhndlpfmpfaa

def numsS (s : ESeg) : List Int := [s.boot, s.stream, s.seq, s.ackBoot, s.ackStream, s.ackSeq]

def okZ (z : Int) : Bool := !(decide (z < 0) || decide (z > 1073741824))

theorem okZ_iff {z : Int} : okZ z = true ↔ 0 ≤ z ∧ z ≤ 1073741824 := by
 unfold okZ
 simp only [Bool.not_eq_true', Bool.or_eq_false_iff, decide_eq_false_iff_not]; omega

theorem okZ_no {z : Int} (h : ¬ okZ z = true) : (decide (z < 0) || decide (z > 1073741824)) = true := by
 cases hx : (decide (z < 0) || decide (z > 1073741824)) with
 | true => rfl
 | false => exact absurd (by unfold okZ; rw [hx]; rfl) h

theorem mayS_eq (s : ESeg) : mayS s = ((numsS s).all okZ && decide (s.boot > 0)) := by
 unfold mayS numsS
 rw [Bool.eq_iff_iff]
 simp only [List.all_cons, List.all_nil, Bool.and_eq_true, decide_eq_true_eq, okZ_iff]
 constructor <;> (intro h; simp_all)

theorem link_may (s : ESeg) : F_link_may s = some (mayS s) := by
 unfold F_link_may
 refine (iter_up 6 (fun k => some (((numsS s).drop k).all okZ && decide (s.boot > 0))) (by unfold bdM; omega) fun rc k hk hrc => ?_).trans (by rw [mayS_eq]; rfl)
 unfold F_link_may_l1
 dsimp only
 by_cases h : k < 6
 ·rw [if_pos (decide_eq_true (by omega)), chk_t (by omega), toNat_cast, drop_cons (d := 0) (show k < (numsS s).length from h), List.all_cons]
  show (if (decide ((numsS s).getD k 0 < 0) || decide ((numsS s).getD k 0 > 1073741824)) = true then _ else _) = _
  generalize (numsS s).getD k 0 = z
  by_cases hz : okZ z = true
  ·rw [hz, if_neg (by unfold okZ at hz; simpa using hz), chk_t (by unfold inI; omega), hrc h, Bool.true_and]
  ·rw [Bool.eq_false_iff.2 hz, if_pos (okZ_no hz)]; rfl
 ·rw [if_neg (by rw [decide_eq_false (by omega)]; decide), List.drop_eq_nil_of_le (by show 6 ≤ k; omega)]; rfl

theorem link_learn {l : Elink_Link} (h : lkOk l) (s : ESeg) : F_link_Link_learn l s = some (learnL l s) := by
 have h1 := h.stream
 unfold F_link_Link_learn learnL
 by_cases c1 : s.boot > l.peer.boot
 ·rw [if_pos (decide_eq_true c1), if_pos c1]
  by_cases c2 : l.peer.boot > 0
  ·rw [if_pos (decide_eq_true c2), if_pos c2, chk_t (by unfold inI; omega)]; rfl
  ·rw [if_neg (by rw [decide_eq_false c2]; decide), if_neg c2]; rfl
 ·rw [if_neg (by rw [decide_eq_false c1]; decide), if_neg c1]
  by_cases c2 : s.stream > l.peer.stream
  ·rw [if_pos (decide_eq_true c2), if_pos c2]
  ·rw [if_neg (by rw [decide_eq_false c2]; decide), if_neg c2]

theorem link_upto {l : Elink_Link} (h : lkOk l) {n : Int} (hn : 0 ≤ n ∧ n ≤ 1073741824) : F_link_queue_string_upto l n = some (uptoL l n) := by
 have h1 := h.first; have h2 := h.told; have h3 := h.len
 have e : min (max (n - l.q.first) 0) (l.q.l.length : Int) = (uptoK l n : Int) := by unfold uptoK; omega
 have hk : uptoK l n ≤ l.q.l.length := by unfold uptoK; omega
 have hf : (uptoK l n : Int) ≤ 0 ∨ l.q.first + (uptoK l n : Int) ≤ n := by unfold uptoK; omega
 unfold F_link_queue_string_upto
 rw [e, toNat_cast, chk_t (by unfold inI; omega), chk_t (by omega), chk_t (by rw [List.length_drop]; simp only [List.length_nil]; omega), chk_t (by unfold inI; omega), chk_t (by unfold inI; omega)]
 rfl

theorem upto_peer (l : Elink_Link) (s : ESeg) : (takeL l s).boot = l.boot ∧ (takeL l s).peer = l.peer ∧ (takeL l s).stream = l.stream := by
 unfold takeL uptoL; split <;> exact ⟨rfl, rfl, rfl⟩

theorem In_k1 {l2 l3 : Elink_Link} (h : lkOk l3) (hb : l3.boot = l2.boot) (s : ESeg) : F_link_Link_In_k1 s l2 l3 = some (tellL l3 s) := by
 have hn := h.pnext
 unfold F_link_Link_In_k1 tellL
 cases hh : s.has with
 | false => rw [if_pos (show (!false) = true from rfl), if_pos (show (false = false) from rfl)]
 | true =>
  rw [if_neg (show ¬ (!true) = true by decide), if_neg (show ¬ (true = false) by decide)]
  by_cases hc : s.ackBoot = l3.boot ∧ s.stream = l3.peer.stream ∧ s.seq = l3.peer.next
  ·rw [if_pos hc, if_neg (by rw [← hb, hc.1, hc.2.1, hc.2.2]; simp), chk_t (by unfold inI; omega)]
  ·rw [if_neg hc, if_pos (by
    rw [← hb]
    by_cases x : s.ackBoot = l3.boot <;> by_cases y : s.stream = l3.peer.stream <;> by_cases z : s.seq = l3.peer.next <;> simp_all)]

theorem link_In {l : Elink_Link} (h : lkOk l) (s : ESeg) : F_link_Link_In l s = some (inL l s) := by
 unfold F_link_Link_In inL
 rw [none_of h, Option.bind_some, if_neg (by decide), link_may, Option.bind_some]
 cases hm : mayS s with
 | false => rw [if_pos (show (!false) = true from rfl), if_pos (show (false = false) from rfl)]
 | true =>
  have hs := of_decide_eq_true hm
  rw [if_neg (show ¬ (!true) = true by decide), if_neg (show ¬ (true = false) by decide)]
  by_cases hb : s.boot < l.peer.boot
  ·rw [if_pos (decide_eq_true hb), if_pos hb]
  rw [if_neg (by rw [decide_eq_false hb]; decide), if_neg hb, link_learn h, Option.bind_some]
  have hl := learn_ok h hm hb
  have ht := take_ok hl hm
  have hp := upto_peer (learnL l s) s
  by_cases hc : s.ackBoot = (learnL l s).boot ∧ s.ackStream = (learnL l s).stream
  ·rw [if_pos (by rw [Bool.and_eq_true, beq_iff_eq, beq_iff_eq]; exact hc), link_upto hl (by omega), Option.bind_some]
   have e : takeL (learnL l s) s = uptoL (learnL l s) s.ackSeq := by unfold takeL; rw [if_pos hc]
   rw [← e]
   exact In_k1 ht hp.1 s
  ·rw [if_neg (by rw [Bool.and_eq_true, beq_iff_eq, beq_iff_eq]; exact hc)]
   have e : takeL (learnL l s) s = learnL l s := by unfold takeL; rw [if_neg hc]
   rw [e]
   exact In_k1 hl rfl s

-- the same
theorem same_strs (a : List ByteArray) (ha : a.length ≤ bdM) : F_ref05_Same a a = some true := by
 unfold F_ref05_Same
 rw [if_neg (by simp)]
 refine iter_up a.length (fun _ => some true) ha fun rc k hk hrc => ?_
 unfold F_ref05_Same_l1
 dsimp only
 by_cases h : k < a.length
 ·rw [if_pos (by rw [Bool.and_eq_true]; exact ⟨decide_eq_true (by omega), decide_eq_true (by omega)⟩), chk_t (by omega), chk_t (by omega), seqB_iff.2 rfl, if_neg (by decide), chk_t (by unfold inI; unfold bdM at ha; omega), hrc h]
 ·rw [if_neg (by rw [Bool.and_eq_true, decide_eq_true_eq]; omega)]

-- any calls
theorem outs_len {l : Elink_Link} (h : lkOk l) (again : Bool) : (outsL l again).length ≤ 4 := by
 unfold outsL
 split
 ·simp
 ·rw [segsL_len]; unfold winL; omega

theorem tell_len (l : Elink_Link) (s : ESeg) : (tellL l s).1.length ≤ 1 := by
 unfold tellL
 split; · simp
 split <;> simp

theorem in_len (l : Elink_Link) (s : ESeg) : (inL l s).1.length ≤ 1 := by
 unfold inL
 split; · simp
 split; · simp
 exact tell_len _ _

end Go.Proofs.Ytghkhndlpfmpfaa
