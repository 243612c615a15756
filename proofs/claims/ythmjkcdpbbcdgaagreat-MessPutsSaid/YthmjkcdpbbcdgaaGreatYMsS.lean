/- Messages: what is put, the plain law. -/
import Derived.Test.YthmjkcdpbbcdgaaGreatYMsQ
import Derived.Test.YthmjkcdpbbcdgaaGreatYMsR
import Derived.Test.YthmjkcdpbbcdgaaGreatYMsWP
namespace Go.Proofs.YthmjkcdpbbcdgaaGreat

theorem law08_Much_ex (l : List EEntry) (hb : l.length ≤ bdM) (ho : ∀ k, k < l.length → (l.getD k default).batch.ops.length ≤ bdM) : ∃ n, F_law08_Much l = some n := by
 unfold F_law08_Much
 have := iter_ex (body := F_law08_Much_l1 l) (fun s : Int × Int => l.length - s.2.toNat) (fun s : Int × Int => 0 ≤ s.2 ∧ s.2 ≤ (l.length : Int) ∧ s.2 ≤ 200 ∧ 0 ≤ s.1 ∧ s.1 ≤ (bdM : Int) * (s.2 + 1)) (fun _ => True) (fun rc ⟨n, i⟩ ⟨a1, a2, a3, a4, a5⟩ => by
  simp only at a1 a2 a3 a4 a5
  obtain ⟨k, rfl⟩ := Int.eq_ofNat_of_zero_le a1
  simp only [F_law08_Much_l1, toNat_cast]
  by_cases h : k < l.length ∧ k < 200
  ·have h3 := ho k h.1
   have h4 : n + ((l.getD k default).batch.ops.length : Int) ≤ (bdM : Int) * (((k : Int) + 1) + 1) := by
    rw [Int.mul_add] at a5 ⊢; unfold bdM at *; omega
   refine .inl ⟨(n + ((l.getD k default).batch.ops.length : Int), (k : Int) + 1), ⟨by simp only; omega, by simp only; omega, by simp only; omega, by simp only; omega, h4⟩, by simp only [Int.toNat_natCast]; omega, ?_⟩
   rw [if_pos (by simp only [Bool.and_eq_true, decide_eq_true_eq]; omega), chk_t (by omega), chk_t (by unfold inI; unfold bdM at *; omega), chk_t (by unfold inI; omega)]
  ·exact .inr ⟨n, by rw [if_neg (by simp only [Bool.and_eq_true, decide_eq_true_eq]; omega)], trivial⟩) FU ((l.length : Int), 0) ⟨by simp, by simp, by simp, by simp, by simp only; unfold bdM at *; omega⟩ (lt_FU (by simpa using hb))
 obtain ⟨n, h, _⟩ := this
 exact ⟨n, h⟩

theorem law09_much (m : EMsg) (h : bdS m) : ∃ b, F_law09_much m = some b := by
 obtain ⟨n, hn⟩ := law08_Much_ex m.entries h.e h.eo
 unfold F_law09_much
 rw [hn, gif_some, Option.bind_some]
 exact ⟨_, rfl⟩

theorem pure_MessPuts (a b : EMsg) (ha : bdEMsg a) (hb : bdEMsg b) : F_law09_MessPuts a b = some true := by
 obtain ⟨ma, h1⟩ := law09_much a ha.s
 obtain ⟨mb, h2⟩ := law09_much b hb.s
 obtain ⟨p, p1, p2, p3, _⟩ := msgPut_both a ha
 have hc : bdS (cleanM a) := by
  unfold cleanM
  split
  ·have : ∀ (L : List Nat) (x : EMsg), bdS x → bdS (L.foldl (fun x c => layC x a c) x) := by
    intro L
    induction L with
    | nil => exact fun x h => h
    | cons c L ih =>
     intro x h
     refine ih _ ?_
     have g := ha.s
     show bdS (layC x a c)
     unfold layC
     split <;> first | exact h | exact ⟨h.c, h.o, h.e, h.eo, h.s, h.p⟩ | exact ⟨g.c, h.o, h.e, h.eo, h.s, h.p⟩ | exact ⟨h.c, g.o, h.e, h.eo, h.s, h.p⟩ | exact ⟨h.c, h.o, g.e, g.eo, h.s, h.p⟩ | exact ⟨h.c, h.o, h.e, h.eo, g.s, h.p⟩ | exact ⟨h.c, h.o, h.e, h.eo, h.s, g.p⟩
   exact this _ _ ⟨Nat.zero_le _, Nat.zero_le _, Nat.zero_le _, fun k h => absurd h (Nat.not_lt_zero _), Nat.zero_le _, Nat.zero_le _⟩
  ·exact ⟨Nat.zero_le _, Nat.zero_le _, Nat.zero_le _, fun k h => absurd h (Nat.not_lt_zero _), Nat.zero_le _, Nat.zero_le _⟩
 unfold F_law09_MessPuts
 rw [h1, Option.bind_some, h2, gif_some, Option.bind_some]
 by_cases hm : (ma || (if (!ma) = true then mb else default)) = true
 ·rw [if_pos hm, awakeP]; rfl
 ·rw [if_neg hm, p1, Option.bind_some, p2, Option.bind_some, show (seqB p.1 p.1 && (p.2 == p.2)) = true by rw [seqB_self]; simp]
  rw [gif_true, gif_true, mess_Check a ha.entries.1 ha.pairs.1, ref09_Check, Option.bind_some, Option.bind_some, show (true && (msgCheck a == msgCheck a)) = true by simp]
  rw [gif_true, gif_true, mess_Clean, ref09_Clean, Option.bind_some, Option.bind_some, gif_true, ref09_Same _ _ hc, Option.bind_some, sameMsg_self]
  rw [show (true && true) = true from rfl, gif_true, gif_true, mess_Same _ _ ha.s, ref09_Same _ _ ha.s, Option.bind_some, Option.bind_some, show (true && (sameMsg a b == sameMsg a b)) = true by simp]
  rw [gif_true, mess_Same _ _ ha.s, Option.bind_some, sameMsg_self, show (true && true) = true from rfl, gif_true, awakeP]; rfl

end Go.Proofs.YthmjkcdpbbcdgaaGreat
