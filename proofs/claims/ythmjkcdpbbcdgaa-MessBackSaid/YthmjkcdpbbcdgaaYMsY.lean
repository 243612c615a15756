/- Messages there and back: the plain law. -/
import Derived.Test.YthmjkcdpbbcdgaaYMsV
namespace Go.Proofs.Ythmjkcdpbbcdgaa

theorem law08_Much_ex (l : List EEntry) (hb : l.length ≤ bdM) (ho : ∀ k, k < l.length → (l.getD k default).batch.ops.length ≤ bdM) : ∃ n, F_law08_Much l = some n := by
 unfold F_law08_Much
 have := iter_ex (body := F_law08_Much_l1 l) (fun s : Int × Int => l.length - s.2.toNat) (fun s : Int × Int => 0 ≤ s.2 ∧ s.2 ≤ (l.length : Int) ∧ s.2 ≤ 200 ∧ 0 ≤ s.1 ∧ s.1 ≤ (bdM : Int) * (s.2 + 1)) (fun _ => True) (fun rc ⟨n, i⟩ ⟨a1, a2, a3, a4, a5⟩ => by
  simp only at a1 a2 a3 a4 a5
  obtain ⟨k, rfl⟩ := Int.eq_ofNat_of_zero_le a1
  simp only [F_law08_Much_l1, toNat_cast]
  by_cases h : k < l.length ∧ k < 200
  ·have h3 := ho k h.1
   have h4 : n + ((l.getD k default).batch.ops.length : Int) ≤ (bdM : Int) * (((k : Int) + 1) + 1) := by
    rw [Int.mul_add] at a5 ⊢; unfold bdM at *; omega
   refine .inl ⟨(n + ((l.getD k default).batch.ops.length : Int), (k : Int) + 1), ⟨by simp only; omega, by simp only; omega, by simp only; omega, by simp only; omega, h4⟩, by simp only [Int.toNat_natCast]; omega, ?_⟩
   rw [if_pos (by simp only [Bool.and_eq_true, decide_eq_true_eq]; omega), chk_t (by omega), chk_t (by unfold inI; unfold bdM at *; omega), chk_t (by unfold inI; omega)]
  ·exact .inr ⟨n, by rw [if_neg (by simp only [Bool.and_eq_true, decide_eq_true_eq]; omega)], trivial⟩) FU ((l.length : Int), 0) ⟨by simp, by simp, by simp, by simp, by simp only; unfold bdM at *; omega⟩ (lt_FU (by simpa using hb))
 obtain ⟨n, h, _⟩ := this
 exact ⟨n, h⟩

theorem law09_much (m : EMsg) (h : bdS m) : ∃ b, F_law09_much m = some b := by
 obtain ⟨n, hn⟩ := law08_Much_ex m.entries h.e h.eo
 unfold F_law09_much
 rw [hn, gif_some, Option.bind_some]
 exact ⟨_, rfl⟩

theorem msgB_size {m : EMsg} {s : ByteArray} (h0 : msgCheck m = 0) (hs : bL s = msgB m) : s.size ≤ maxLen := by
 obtain ⟨hk, hw⟩ := msgCheck_ok h0
 have h1 := vputL_len m.k.toNat
 have h2 := letters_len (letters_ok hk) hw (letters_7 _) 7
 rw [List.take_of_length_le (letters_7 _)] at h2
 have : s.size = (msgB m).length := by rw [← hs, bL_len]
 unfold msgB at this; rw [List.length_append] at this
 unfold maxLen; omega

theorem pure_MessBack_k1 (s : ByteArray) (hm : s.size ≤ maxLen) : F_law09_MessBack_k1 s = some true := by
 unfold F_law09_MessBack_k1
 rw [mess_Of s hm, Option.bind_some]
 by_cases h : (msgOf s).2 = 0
 ·obtain ⟨h1, h2, h3⟩ := msgOf_back s hm h
  obtain ⟨p, p1, p2, p3⟩ := mess_PutA _ h3
  rw [if_neg (by rw [h]; decide), p1, Option.bind_some]
  have e : p.1 = s := bL_inj ((p3 h1).trans h2.symm)
  rw [e, p2, h1, seqB_self, show (true && ((0 : Int) == 0)) = true from rfl, gif_true, awakeB]; rfl
 ·rw [if_pos (bne_iff_ne.2 h), msgOf_err s h, ref09_Same _ _ bdS_dft, Option.bind_some, sameMsg_self, gif_true, awakeB]; rfl

theorem pure_MessBack (a : EMsg) (s : ByteArray) (ha : bdEMsg a) (hs : bdStr s) : F_law09_MessBack a s = some true := by
 have hm : s.size ≤ maxLen := by unfold bdStr bdM at hs; unfold maxLen; omega
 obtain ⟨ma, h1⟩ := law09_much a ha.s
 obtain ⟨p, p1, p2, p3⟩ := mess_PutA a ha
 have hk := pure_MessBack_k1 s hm
 unfold F_law09_MessBack
 rw [h1, Option.bind_some]
 by_cases c : (ma || decide ((s.size : Int) > 3000)) = true
 ·rw [if_pos c, awakeB]; rfl
 rw [if_neg c, p1, Option.bind_some, hk, p2]
 by_cases h0 : msgCheck a = 0
 ·have hz := msgB_size h0 (p3 h0)
  have e := msgOf_there a ha h0 p.1 (p3 h0) hz
  have hb : bdS (cleanM a) := by have := msgOf_S p.1 hz; rw [e] at this; exact this
  rw [h0, if_pos (by decide), mess_Of p.1 hz, e, Option.bind_some]
  rw [show (!((0 : Int) != 0)) = true from rfl, gif_true, ref09_Clean, Option.bind_some, gif_true, ref09_Same _ _ hb, Option.bind_some, sameMsg_self]; rfl
 ·rw [if_neg (by simpa using h0)]

end Go.Proofs.Ythmjkcdpbbcdgaa
