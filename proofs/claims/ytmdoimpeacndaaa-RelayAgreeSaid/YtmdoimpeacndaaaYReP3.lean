/- To and fro, plain: the words. -/
import Derived.Test.YtmdoimpeacndaaaYReP2
namespace Go.Proofs.Ytmdoimpeacndaaa

/-- the timestamps of entries, as far as there are -/
def nzTs : List EEntry → List Int
 | [] => []
 | e :: r => if e.ts = 0 then [] else e.ts :: nzTs r

theorem nzTs_len : ∀ l : List EEntry, (nzTs l).length ≤ l.length
 | [] => Nat.le_refl _
 | e :: r => by
  have := nzTs_len r
  unfold nzTs; split <;> simp <;> omega

theorem nz_ok {T : List EEntry} (hR : Rt T) : ∀ (d a e : Nat), e - a = d → a ≤ e → e ≤ T.length → a ≤ stampF T → ∀ last, (a < T.length → (T.getD a default).ts ≠ 0 → last < (T.getD a default).ts) →
  (nzTs ((T.take e).drop a)).length = min (stampF T) e - a ∧ (∀ q, q < (nzTs ((T.take e).drop a)).length → (nzTs ((T.take e).drop a)).getD q 0 = (T.getD (a + q) default).ts) ∧ okTs last (nzTs ((T.take e).drop a))
 | 0, a, e, hd, h1, h2, h3, last, hl => by
  have : (T.take e).drop a = [] := List.drop_eq_nil_iff.2 (by rw [List.length_take]; omega)
  rw [this]
  exact ⟨by show 0 = _; omega, fun q hq => by simp [nzTs] at hq, trivial⟩
 | d + 1, a, e, hd, h1, h2, h3, last, hl => by
  have hlt : a < (T.take e).length := by rw [List.length_take]; omega
  have hg : (T.take e).getD a default = T.getD a default := by rw [getD_lt hlt, List.getElem_take, getD_lt (by omega)]
  rw [drop_cons (d := default) hlt, hg]
  unfold nzTs
  by_cases c : (T.getD a default).ts = 0
  ·rw [if_pos c]
   have : stampF T = a := by
    by_cases x : a < stampF T
    ·exact absurd c (stampF_pos T a x)
    ·omega
   exact ⟨by simp; omega, fun q hq => by simp at hq, trivial⟩
  ·rw [if_neg c]
   have hs := hR.lt (by omega) c
   obtain ⟨i1, i2, i3⟩ := nz_ok hR d (a + 1) e (by omega) (by omega) h2 (by omega) (T.getD a default).ts fun x1 x2 => ((hR (a + 1) x1).fol (by omega) x2).2
   refine ⟨by rw [List.length_cons, i1]; omega, fun q hq => ?_, hl (by omega) c, i3⟩
   cases q with
   | zero => rfl
   | succ q =>
    rw [List.length_cons] at hq
    rw [List.getD_cons_succ, i2 q (by omega), show a + 1 + q = a + (q + 1) by omega]

theorem Ack_loop (L : List EEntry) {f g : Nat} (S : List EEntry) (hS : (L.take ((min (g : Int) ((f : Int) + 8)).toNat)).drop f = S) (hs : S.length ≤ 100) : ∀ (N k : Nat) (x : EMsg), k ≤ S.length → S.length - k < N → x.stamps.length ≤ k →
  iter (F_relay_Ack_1_l1 L (f : Int) (g : Int)) N ((k : Int), x) = some { x with stamps := x.stamps ++ nzTs (S.drop k) }
 | 0, k, x, _, h, _ => by omega
 | N + 1, k, x, hk, hN, hx => by
  show F_relay_Ack_1_l1 L (f : Int) (g : Int) (iter (F_relay_Ack_1_l1 L (f : Int) (g : Int)) N) ((k : Int), x) = _
  generalize e0 : iter (F_relay_Ack_1_l1 L (f : Int) (g : Int)) N = rc
  unfold F_relay_Ack_1_l1
  dsimp only
  rw [toNat_cast, hS, toNat_cast]
  by_cases c : k < S.length
  ·rw [if_pos (decide_eq_true (by omega)), chk_t (by omega), drop_cons (d := default) c]
   unfold nzTs
   by_cases d : (S.getD k default).ts = 0
   ·rw [if_pos (by rw [beq_iff_eq]; exact d), if_pos d, List.append_nil]
   ·rw [if_neg (by rw [beq_iff_eq]; exact d), if_neg d, chk_t (by rw [List.length_cons, List.length_nil]; omega), chk_t (by unfold inI; omega), ← e0]
    refine (Ack_loop L S hS hs N (k + 1) _ (by omega) (by omega) (by simp; omega)).trans ?_
    simp
  ·rw [if_neg (by rw [decide_eq_false (by omega)]; decide), List.drop_eq_nil_of_le (by omega), nzTs, List.append_nil]

theorem Ack_loop0 (L : List EEntry) {f g : Nat} (S : List EEntry) (hS : (L.take ((min (g : Int) ((f : Int) + 8)).toNat)).drop f = S) (hs : S.length ≤ 100) (x : EMsg) (hx : x.stamps = []) : iter (F_relay_Ack_1_l1 L (f : Int) (g : Int)) FU (0, x) = some { x with stamps := nzTs S } := by
 refine (Ack_loop L S hS hs FU 0 x (Nat.zero_le _) (by unfold FU; omega) (by rw [hx]; exact Nat.le_refl _)).trans ?_
 rw [List.drop_zero, hx, List.nil_append]

theorem Ack_ok {L : List EEntry} (hL : L.length ≤ 100) {g : Nat} (hg : g ≤ L.length) (h : Int) (p : Nat) : ∃ y, F_relay_Ack 1 (g : Int) h (p : Int) L = some y ∧ y.n = (g : Int) ∧ y.p = (min p g : Nat) ∧ y.stamps = nzTs ((L.take (min g (min p g + 8))).drop (min p g)) := by
 unfold F_relay_Ack F_relay_fit
 have e1 : min (max (g : Int) 0) (L.length : Int) = (g : Int) := by omega
 have e2 : min (max (p : Int) 0) (g : Int) = ((min p g : Nat) : Int) := by omega
 rw [Option.bind_some, e1, Option.bind_some, e2]
 unfold F_relay_counts
 rw [Option.bind_some]
 unfold F_relay_made__relay_Ack_1
 unfold F_relay_counts_1
 rw [Option.bind_some]
 unfold F_relay_Ack_1
 have e3 : (min (g : Int) (((min p g : Nat) : Int) + 8)).toNat = min g (min p g + 8) := by omega
 have hs : ((L.take (min g (min p g + 8))).drop (min p g)).length ≤ 100 := by rw [List.length_drop, List.length_take]; omega
 rw [chk_t (by unfold inI; omega), chk_t (by omega), Ack_loop0 L ((L.take (min g (min p g + 8))).drop (min p g)) (by rw [e3]) hs _ rfl, Option.bind_some, Option.bind_some]
 refine ⟨_, rfl, ?_, ?_, rfl⟩
 ·show max (g : Int) 0 = _; omega
 ·show max ((min p g : Nat) : Int) 0 = _; omega

theorem Fwd_ok {A : List EEntry} (hA : A.length ≤ 100) {g : Nat} (hg : g ≤ A.length) (b : Int) : ∃ x, F_relay_Fwd 1 b (g : Int) 0 0 A (A.length : Int) = some x ∧ x.m = (g : Int) ∧ x.p = (stampF A : Int) ∧ x.entries = (A.take (min A.length (g + 4))).drop g := by
 have hb := bdM_ge
 have hs := stampF_le A
 unfold F_relay_Fwd F_relay_fit
 have e1 : min (max (A.length : Int) 0) (A.length : Int) = (A.length : Int) := by omega
 have e2 : min (max (g : Int) 0) (A.length : Int) = (g : Int) := by omega
 rw [Option.bind_some, e1, Option.bind_some, e2, chk_t (by unfold inI; omega), item_Stamped A (by omega), Option.bind_some]
 unfold F_relay_counts
 rw [Option.bind_some]
 unfold F_relay_made__relay_Fwd_1 F_relay_counts_1
 rw [Option.bind_some]
 unfold F_relay_Fwd_2
 rw [Option.bind_some]
 unfold F_relay_Fwd_1 F_slices_Clone_api_Entry_api_Entry
 have e3 : (min (A.length : Int) ((g : Int) + 4)).toNat = min A.length (g + 4) := by omega
 rw [chk_t (by omega), e3, toNat_cast, chk_t (by rw [List.length_nil, List.length_drop, List.length_take]; omega), Option.bind_some, Option.bind_some, Option.bind_some]
 refine ⟨_, rfl, ?_, ?_, rfl⟩
 ·show max (g : Int) 0 = _; omega
 ·show max (min (stampF A : Int) (A.length : Int)) 0 = _; omega

theorem Learn_loop {A : List EEntry} (hA : A.length ≤ 100) {s0 : Int} {y : EMsg} (S : List Int) (hS : y.stamps.drop ((s0 - y.p).toNat) = S) (hs : S.length ≤ 100) : ∀ (N k i : Nat) (last : Int) (out : List ENote), k ≤ S.length → S.length - k < N → i + (S.length - k) ≤ A.length → okTs last (S.drop k) → out.length ≤ k →
  iter (F_relay_Learn_l2 A (A.length : Int) y s0) N ((i : Int), last, out, (k : Int)) = some (out ++ tnotes i (S.drop k))
 | 0, k, i, _, _, _, h, _, _, _ => by omega
 | N + 1, k, i, last, out, hk, hN, hi, ho, hx => by
  show F_relay_Learn_l2 A (A.length : Int) y s0 (iter (F_relay_Learn_l2 A (A.length : Int) y s0) N) ((i : Int), last, out, (k : Int)) = _
  generalize e0 : iter (F_relay_Learn_l2 A (A.length : Int) y s0) N = rc
  unfold F_relay_Learn_l2
  dsimp only
  rw [hS, toNat_cast]
  by_cases c : k < S.length
  ·rw [drop_cons (d := default) c] at ho ⊢
   have h1 := ho.1
   rw [if_pos (decide_eq_true (by omega)), chk_t (by omega)]
   unfold F_relay_fit
   rw [Option.bind_some, if_neg (by rw [decide_eq_false (by omega), decide_eq_false (by omega)]; decide), chk_t (by rw [List.length_cons, List.length_nil]; omega), chk_t (by unfold inI; omega), chk_t (by unfold inI; omega), ← e0]
   refine (Learn_loop hA S hS hs N (k + 1) (i + 1) _ _ (by omega) (by omega) (by omega) ho.2 (by simp; omega)).trans ?_
   rw [List.append_assoc]; rfl
  ·rw [if_neg (by rw [decide_eq_false (by omega)]; decide), List.drop_eq_nil_of_le (by omega)]
   unfold F_relay_Learn_k1 tnotes
   rw [List.append_nil]

theorem Learn_ok {A : List EEntry} (hA : A.length ≤ 100) {g : Nat} {y : EMsg} (hp : y.p = (min (stampF A) g : Nat)) (hs : y.stamps.length ≤ 100) (hi : g < stampF A → y.stamps = []) (hl : stampF A + y.stamps.length ≤ A.length) (ho : okTs (lastF A) y.stamps) : F_relay_Learn A (A.length : Int) y = some (tnotes (stampF A) y.stamps) := by
 have hb := bdM_ge
 unfold F_relay_Learn
 rw [item_Stamped A (by omega), Option.bind_some, item_Last A (by omega), Option.bind_some, hp, chk_t (by unfold inI; omega)]
 by_cases c : g < stampF A
 ·rw [hi c, if_pos (by rw [decide_eq_true (show (stampF A : Int) - ((min (stampF A) g : Nat) : Int) > (([] : List Int).length : Int) by rw [List.length_nil]; omega), Bool.or_true])]; rfl
 ·have e : (stampF A : Int) - ((min (stampF A) g : Nat) : Int) = 0 := by omega
  rw [e, if_neg (by rw [decide_eq_false (by omega), decide_eq_false (by omega)]; decide), chk_t (by omega)]
  refine (Learn_loop hA y.stamps (by rw [hp, e]; rfl) hs FU 0 (stampF A) (lastF A) [] (Nat.zero_le _) (by unfold FU; omega) (by omega) ho (Nat.le_refl _)).trans ?_
  rfl

end Go.Proofs.Ytmdoimpeacndaaa
