/- Links: two sides, plain: what comes, what is lost. -/
import Derived.Test.YthomnhhjgcabkaaYLinkR
namespace Go.Proofs.Ythomnhhjgcabkaa

theorem in_dir {X R : Elink_Link} {SX SR TX TR : Int} {WX WR : ESeg → Prop} {HX HR : Hs} {MX MR : Ms} (d : Dir X SX R.boot R.peer TR WX HX MX) (d' : Dir R SR X.boot X.peer TX WR HR MR) {s : ESeg} (hs : WX s) :
  (inL R s).2.1 = 0 ∧ (inL R s).2.2.boot = R.boot ∧ (∃ HR' MR', Dir (inL R s).2.2 SR X.boot X.peer TX WR HR' MR') ∧
   (((inL R s).1 = [] ∧ Dir X SX R.boot (inL R s).2.2.peer TR WX HX MX) ∨ ∃ v, (inL R s).1 = [numS v] ∧ TR < v ∧ 1 ≤ v ∧ v ≤ SX ∧ Dir X SX R.boot (inL R s).2.2.peer v WX HX MX) := by
 have g := d.segs s hs
 have hm := g.may
 unfold inL
 rw [if_neg (by rw [hm]; decide)]
 by_cases c : s.boot < R.peer.boot
 ·rw [if_pos c]; exact ⟨rfl, rfl, ⟨HR, MR, d'⟩, .inl ⟨rfl, d⟩⟩
 rw [if_neg c]
 have okl := learn_ok d'.ok hm c
 have hxb : s.boot ≤ X.boot := by have := g.cur; omega
 have key : (learnL R s).boot = R.boot ∧ (learnL R s).peer = learnS R.peer s ∧ ∃ HR' MR', Dir (learnL R s) SR X.boot X.peer TX WR HR' MR' := by
  by_cases c1 : s.boot > R.peer.boot
  ·by_cases c2 : R.peer.boot > 0
   ·have e : learnL R s = { R with stream := R.stream + 1, q := { R.q with first := 0, told := 0 }, peer := ⟨s.boot, s.stream, 0⟩ } := by unfold learnL; rw [if_pos c1, if_pos c2]
    refine ⟨by rw [e], by rw [e]; unfold learnS; rw [if_pos c1], _, _, d'.learn1 (A' := learnL R s) (v := s.boot) c2 ⟨c1, hxb⟩ okl (by rw [e]) (by rw [e]) (by rw [e]) (by rw [e]) (by rw [e])⟩
   ·have e : learnL R s = { R with peer := ⟨s.boot, s.stream, 0⟩ } := by unfold learnL; rw [if_pos c1, if_neg c2]
    have hp := d'.ok.pboot
    refine ⟨by rw [e], by rw [e]; unfold learnS; rw [if_pos c1], _, _, d'.learn0 (A' := learnL R s) (v := s.boot) (by omega) ⟨by omega, hxb⟩ okl (by rw [e]) (by rw [e]) (by rw [e]) (by rw [e]) (by rw [e])⟩
  ·by_cases c2 : s.stream > R.peer.stream
   ·have e : learnL R s = { R with peer := { R.peer with stream := s.stream, next := 0 } } := by unfold learnL; rw [if_neg c1, if_pos c2]
    refine ⟨by rw [e], by rw [e]; unfold learnS; rw [if_neg c1, if_pos c2], HR, MR, d'.congrA okl (by rw [e]) (by rw [e]) (by rw [e]) (by rw [e]) (by rw [e])⟩
   ·have e : learnL R s = R := by unfold learnL; rw [if_neg c1, if_neg c2]
    rw [e]
    exact ⟨rfl, by unfold learnS; rw [if_neg c1, if_neg c2], HR, MR, d'⟩
 obtain ⟨lb, lp, HR1, MR1, l1⟩ := key
 have d1 := d.learnB g c
 have key2 : (takeL (learnL R s) s).boot = R.boot ∧ (takeL (learnL R s) s).peer = learnS R.peer s ∧ Dir (takeL (learnL R s) s) SR X.boot X.peer TX WR HR1 MR1 := by
  have ok := take_ok l1.ok hm
  unfold takeL at ok ⊢
  by_cases c1 : s.ackBoot = (learnL R s).boot ∧ s.ackStream = (learnL R s).stream
  ·rw [if_pos c1] at ok ⊢; exact ⟨lb, lp, l1.upto _ ok⟩
  ·rw [if_neg c1]; exact ⟨lb, lp, l1⟩
 obtain ⟨tb, tp, t1⟩ := key2
 generalize takeL (learnL R s) s = R2 at t1 tb tp
 have ok3 := tell_ok t1.ok hm
 unfold tellL at ok3 ⊢
 by_cases c1 : s.has = false
 ·rw [if_pos c1]
  exact ⟨rfl, tb, ⟨_, _, t1⟩, .inl ⟨rfl, by show Dir X SX R.boot R2.peer TR WX HX MX; rw [tp]; exact d1⟩⟩
 rw [if_neg c1] at ok3 ⊢
 by_cases c2 : s.ackBoot = R2.boot ∧ s.stream = R2.peer.stream ∧ s.seq = R2.peer.next
 ·rw [if_pos c2] at ok3 ⊢
  rw [tb, tp] at c2
  obtain ⟨v, v1, v2, v3, v4, v5⟩ := d1.accept g (by simpa using c1) c2.1 (learnS_at c).symm c2.2.1 c2.2.2
  exact ⟨rfl, tb, ⟨_, _, t1.congrA ok3 rfl rfl rfl rfl rfl⟩, .inr ⟨v, by show [s.body] = _; rw [v1], v2, v3, v4, by show Dir X SX R.boot { R2.peer with next := R2.peer.next + 1 } v WX HX MX; rw [tp]; exact v5⟩⟩
 ·rw [if_neg c2] at ok3 ⊢
  exact ⟨rfl, tb, ⟨_, _, t1.congrA ok3 rfl rfl rfl rfl rfl⟩, .inl ⟨rfl, by show Dir X SX R.boot R2.peer TR WX HX MX; rw [tp]; exact d1⟩⟩

-- the pair
def mkP (A B : Elink_Link) (way : List ESeg) (dst : List Int) (S0 S1 T0 T1 : Int) : Elaw22_pair := ⟨[some A, some B], [A.boot, B.boot], way, dst, [S0, S1], [T0, T1], true⟩

def Wy (way : List ESeg) (dst : List Int) (t : Int) : ESeg → Prop := fun s => ∃ i, i < way.length ∧ dst.getD i default = t ∧ way.getD i default = s

structure PI (n : Int) (A B : Elink_Link) (way : List ESeg) (dst : List Int) (S0 S1 T0 T1 : Int) : Prop where
 len : dst.length = way.length
 tos : ∀ i, i < dst.length → dst.getD i default = 0 ∨ dst.getD i default = 1
 wl : way.length ≤ 200
 s0 : 0 ≤ S0 ∧ S0 ≤ n
 s1 : 0 ≤ S1 ∧ S1 ≤ n
 b0 : A.boot ≤ n + 1
 b1 : B.boot ≤ n + 1
 d0 : ∃ H M, Dir A S0 B.boot B.peer T1 (Wy way dst 1) H M
 d1 : ∃ H M, Dir B S1 A.boot A.peer T0 (Wy way dst 0) H M

theorem iter_two {σ R : Type} (body : (σ → Option R) → σ → Option R) : ∃ rc, iter body FU = body (body rc) := ⟨iter body 18446744073709551614, by unfold FU; rfl⟩

section
variable {p : Elaw22_pair} {i : Int} {A B : Elink_Link} {way : List ESeg} {dst : List Int} {S0 S1 T0 T1 : Int} {r : List ByteArray × Int × Elink_Link}
theorem come_l2 (ht : p.to_.getD i.toNat default = 0) : (r.1 = [] → iter (F_law22_pair_come_l2 p i r) FU (0, mkP A B way dst S0 S1 T0 T1) = some (mkP A B way dst S0 S1 T0 T1)) ∧
  ∀ v, r.1 = [numS v] → 0 ≤ v ∧ v ≤ 65535 → T0 < v → v ≤ S1 → iter (F_law22_pair_come_l2 p i r) FU (0, mkP A B way dst S0 S1 T0 T1) = some (mkP A B way dst S0 S1 v T1) := by
 obtain ⟨rc, hrc⟩ := iter_two (F_law22_pair_come_l2 p i r)
 rw [hrc]
 generalize e0 : F_law22_pair_come_l2 p i r rc = rc2
 refine ⟨fun hr => ?_, fun v hr h0 h1 h2 => ?_⟩
 ·unfold F_law22_pair_come_l2
  dsimp only
  rw [hr]; rfl
 ·unfold F_law22_pair_come_l2
  dsimp only
  rw [hr, ht, if_pos (by rfl), chk_t (by rw [List.length_singleton]; decide)]
  show (F_law22_numbered (numS v)).bind _ = _
  rw [numbered_ok h0, Option.bind_some, show ((1 - 0 : Int) == 0) = false from rfl, if_neg (by decide), show ((1 - 0 : Int) == 1) = true from rfl, if_pos rfl, chk_t (fun _ => by unfold inI; omega), chk_t (by unfold inI; omega), ← e0]
  have e1 : (((mkP A B way dst S0 S1 T0 T1).ok && decide (v > (mkP A B way dst S0 S1 T0 T1).told.getD 0 0)) && decide (v ≤ (mkP A B way dst S0 S1 T0 T1).sent.getD 1 0)) = true := by
   show ((true && decide (v > T0)) && decide (v ≤ S1)) = true
   rw [decide_eq_true h1, decide_eq_true h2]; rfl
  rw [e1]
  unfold F_law22_pair_come_l2
  dsimp only
  rw [hr]; rfl

theorem come_l4 (ht : p.to_.getD i.toNat default = 1) : (r.1 = [] → iter (F_law22_pair_come_l4 p i r) FU (0, mkP A B way dst S0 S1 T0 T1) = some (mkP A B way dst S0 S1 T0 T1)) ∧
  ∀ v, r.1 = [numS v] → 0 ≤ v ∧ v ≤ 65535 → T1 < v → v ≤ S0 → iter (F_law22_pair_come_l4 p i r) FU (0, mkP A B way dst S0 S1 T0 T1) = some (mkP A B way dst S0 S1 T0 v) := by
 obtain ⟨rc, hrc⟩ := iter_two (F_law22_pair_come_l4 p i r)
 rw [hrc]
 generalize e0 : F_law22_pair_come_l4 p i r rc = rc2
 refine ⟨fun hr => ?_, fun v hr h0 h1 h2 => ?_⟩
 ·unfold F_law22_pair_come_l4
  dsimp only
  rw [hr]; rfl
 ·unfold F_law22_pair_come_l4
  dsimp only
  rw [hr, ht, if_pos (by rfl), chk_t (by rw [List.length_singleton]; decide)]
  show (F_law22_numbered (numS v)).bind _ = _
  rw [numbered_ok h0, Option.bind_some, show ((1 - 1 : Int) == 0) = true from rfl, if_pos rfl, chk_t (fun _ => by unfold inI; omega), chk_t (by unfold inI; omega), ← e0]
  have e1 : (((mkP A B way dst S0 S1 T0 T1).ok && decide (v > (mkP A B way dst S0 S1 T0 T1).told.getD 1 0)) && decide (v ≤ (mkP A B way dst S0 S1 T0 T1).sent.getD 0 0)) = true := by
   show ((true && decide (v > T1)) && decide (v ≤ S0)) = true
   rw [decide_eq_true h1, decide_eq_true h2]; rfl
  rw [e1]
  unfold F_law22_pair_come_l4
  dsimp only
  rw [hr]; rfl

/-- a segment comes in -/
theorem come_ok {n : Int} (hn : n ≤ 60000) (h : PI n A B way dst S0 S1 T0 T1) {k : Nat} (hk : k < way.length) :
  (dst.getD k default = 1 ∧ ∃ T', F_law22_pair_come (mkP A B way dst S0 S1 T0 T1) (k : Int) = some (mkP A (inL B (way.getD k default)).2.2 way dst S0 S1 T0 T') ∧ PI n A (inL B (way.getD k default)).2.2 way dst S0 S1 T0 T' ∧ (inL B (way.getD k default)).2.2.boot = B.boot ∧ (((inL B (way.getD k default)).1 = [] ∧ T' = T1) ∨ ((inL B (way.getD k default)).1 = [numS T'] ∧ 1 ≤ T'))) ∨
  (dst.getD k default = 0 ∧ ∃ T', F_law22_pair_come (mkP A B way dst S0 S1 T0 T1) (k : Int) = some (mkP (inL A (way.getD k default)).2.2 B way dst S0 S1 T' T1) ∧ PI n (inL A (way.getD k default)).2.2 B way dst S0 S1 T' T1 ∧ (inL A (way.getD k default)).2.2.boot = A.boot ∧ (((inL A (way.getD k default)).1 = [] ∧ T' = T0) ∨ ((inL A (way.getD k default)).1 = [numS T'] ∧ 1 ≤ T'))) := by
 obtain ⟨p1, p2, p3, p4, p5, p6, p7, ⟨H0, M0, d0⟩, ⟨H1, M1, d1⟩⟩ := h
 have hto : (mkP A B way dst S0 S1 T0 T1).to_.getD (k : Int).toNat default = dst.getD k default := rfl
 have hbase : ((0 : Int) ≤ (k : Int) ∧ (k : Int) < ((mkP A B way dst S0 S1 T0 T1).to_.length : Int)) := by
  show (0 : Int) ≤ (k : Int) ∧ (k : Int) < (dst.length : Int); omega
 have hw : ((0 : Int) ≤ (k : Int) ∧ (k : Int) < ((mkP A B way dst S0 S1 T0 T1).way.length : Int)) := by
  show (0 : Int) ≤ (k : Int) ∧ (k : Int) < (way.length : Int); omega
 unfold F_law22_pair_come
 rw [chk_t hbase, hto]
 rcases p2 k (by omega) with t | t
 ·right
  refine ⟨t, ?_⟩
  obtain ⟨q1, q2, ⟨HR, MR, q3⟩, q4⟩ := in_dir d1 d0 (s := way.getD k default) ⟨k, hk, t, rfl⟩
  have hl := come_l2 (p := mkP A B way dst S0 S1 T0 T1) (i := (k : Int)) (A := (inL A (way.getD k default)).2.2) (B := B) (way := way) (dst := dst) (S0 := S0) (S1 := S1) (T0 := T0) (T1 := T1) (r := inL A (way.getD k default)) t
  rw [t, show ((0 : Int) == 0) = true from rfl, if_pos rfl]
  show ∃ T', chk _ ((F_link_Link_In A (way.getD (k : Int).toNat default)).bind _) = _ ∧ _
  rw [chk_t hw, toNat_cast, link_In d0.ok, Option.bind_some]
  have hp : ({ (mkP A B way dst S0 S1 T0 T1) with l := [some (inL A (way.getD k default)).2.2, ((mkP A B way dst S0 S1 T0 T1).l.getD 1 none)], ok := ((mkP A B way dst S0 S1 T0 T1).ok && ((inL A (way.getD k default)).2.1 == 0)) && (decide (((inL A (way.getD k default)).1.length : Int) ≤ 1)) } : Elaw22_pair) = mkP (inL A (way.getD k default)).2.2 B way dst S0 S1 T0 T1 := by
   have e2 : decide (((inL A (way.getD k default)).1.length : Int) ≤ 1) = true := by
    refine decide_eq_true ?_
    rcases q4 with ⟨q, _⟩ | ⟨v, q, _⟩ <;> rw [q] <;> simp
   unfold mkP
   dsimp only
   rw [q1, e2, q2]; rfl
  rw [hp]
  rcases q4 with ⟨q5, q6⟩ | ⟨v, q5, v1, v2, v3, q6⟩
  ·exact ⟨T0, hl.1 q5, ⟨p1, p2, p3, p4, p5, by rw [q2]; exact p6, p7, ⟨_, _, q3⟩, ⟨H1, M1, by rw [q2]; exact q6⟩⟩, q2, .inl ⟨q5, rfl⟩⟩
  ·exact ⟨v, hl.2 v q5 (by omega) v1 v3, ⟨p1, p2, p3, p4, p5, by rw [q2]; exact p6, p7, ⟨_, _, q3⟩, ⟨H1, M1, by rw [q2]; exact q6⟩⟩, q2, .inr ⟨q5, v2⟩⟩
 ·left
  refine ⟨t, ?_⟩
  obtain ⟨q1, q2, ⟨HR, MR, q3⟩, q4⟩ := in_dir d0 d1 (s := way.getD k default) ⟨k, hk, t, rfl⟩
  have hl := come_l4 (p := mkP A B way dst S0 S1 T0 T1) (i := (k : Int)) (A := A) (B := (inL B (way.getD k default)).2.2) (way := way) (dst := dst) (S0 := S0) (S1 := S1) (T0 := T0) (T1 := T1) (r := inL B (way.getD k default)) t
  rw [t, show ((1 : Int) == 0) = false from rfl, if_neg (by decide), show ((1 : Int) == 1) = true from rfl, if_pos rfl]
  show ∃ T', chk _ ((F_link_Link_In B (way.getD (k : Int).toNat default)).bind _) = _ ∧ _
  rw [chk_t hw, toNat_cast, link_In d1.ok, Option.bind_some]
  have hp : ({ (mkP A B way dst S0 S1 T0 T1) with l := [((mkP A B way dst S0 S1 T0 T1).l.getD 0 none), some (inL B (way.getD k default)).2.2], ok := ((mkP A B way dst S0 S1 T0 T1).ok && ((inL B (way.getD k default)).2.1 == 0)) && (decide (((inL B (way.getD k default)).1.length : Int) ≤ 1)) } : Elaw22_pair) = mkP A (inL B (way.getD k default)).2.2 way dst S0 S1 T0 T1 := by
   have e2 : decide (((inL B (way.getD k default)).1.length : Int) ≤ 1) = true := by
    refine decide_eq_true ?_
    rcases q4 with ⟨q, _⟩ | ⟨v, q, _⟩ <;> rw [q] <;> simp
   unfold mkP
   dsimp only
   rw [q1, e2, q2]; rfl
  rw [hp]
  rcases q4 with ⟨q5, q6⟩ | ⟨v, q5, v1, v2, v3, q6⟩
  ·exact ⟨T1, hl.1 q5, ⟨p1, p2, p3, p4, p5, p6, by rw [q2]; exact p7, ⟨H0, M0, by rw [q2]; exact q6⟩, ⟨_, _, q3⟩⟩, q2, .inl ⟨q5, rfl⟩⟩
  ·exact ⟨v, hl.2 v q5 (by omega) v1 v3, ⟨p1, p2, p3, p4, p5, p6, by rw [q2]; exact p7, ⟨H0, M0, by rw [q2]; exact q6⟩, ⟨_, _, q3⟩⟩, q2, .inr ⟨q5, v2⟩⟩

end
end Go.Proofs.Ythomnhhjgcabkaa
