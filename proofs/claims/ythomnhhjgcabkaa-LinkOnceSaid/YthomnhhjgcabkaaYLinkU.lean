/- Links: two sides, plain: each step, and LinkOnce. -/
import Derived.Test.YthomnhhjgcabkaaYLinkT
import Derived.Test.YthomnhhjgcabkaaYLinkJ
namespace Go.Proofs.Ythomnhhjgcabkaa

structure bdElaw22_Step (x : Elaw22_Step) : Prop where
 k : inI x.k
 n : inB x.n
 again : bdT x.again

section
variable {A B : Elink_Link} {way : List ESeg} {dst : List Int} {S0 S1 T0 T1 n : Int}
/-- a pair, in some state -/
def PS (n : Int) (p : Elaw22_pair) : Prop := ∃ A B way dst S0 S1 T0 T1, p = mkP A B way dst S0 S1 T0 T1 ∧ PI n A B way dst S0 S1 T0 T1

theorem PI.more (h : PI n A B way dst S0 S1 T0 T1) : PI (n + 1) A B way dst S0 S1 T0 T1 := by
 obtain ⟨p1, p2, p3, p4, p5, p6, p7, d0, d1⟩ := h
 exact ⟨p1, p2, p3, by omega, by omega, by omega, by omega, d0, d1⟩

theorem PS_mk {p : Elaw22_pair} (e : p = mkP A B way dst S0 S1 T0 T1) (h : PI n A B way dst S0 S1 T0 T1) : PS n p := ⟨A, B, way, dst, S0, S1, T0, T1, e, h⟩

theorem send_A (h : PI n A B way dst S0 S1 T0 T1) (hn : n ≤ 60000) : ∃ S', PI (n + 1) (sendL A (numS (S0 + 1))).2 B way dst S' S1 T0 T1 ∧ ((sendL A (numS (S0 + 1))).1 = 0 → S' = S0 + 1) ∧ (¬ (sendL A (numS (S0 + 1))).1 = 0 → S' = S0) := by
 obtain ⟨p1, p2, p3, p4, p5, p6, p7, ⟨H0, M0, d0⟩, d1⟩ := h
 have ok := send_ok d0.ok (numS (S0 + 1))
 unfold sendL at ok ⊢
 rw [if_neg (by rw [numS_size]; decide)] at ok ⊢
 by_cases c : A.q.l.length ≥ 8
 ·rw [if_pos c]
  exact ⟨S0, ⟨p1, p2, p3, by omega, by omega, by show A.boot ≤ n + 1 + 1; omega, by omega, ⟨H0, M0, d0⟩, d1⟩, (fun e => by cases e), fun _ => rfl⟩
 ·rw [if_neg c] at ok ⊢
  exact ⟨S0 + 1, ⟨p1, p2, p3, by omega, by omega, by show A.boot ≤ n + 1 + 1; omega, by omega, ⟨_, M0, d0.send (A' := { A with q := { A.q with l := A.q.l ++ [numS (S0 + 1)] } }) p4.1 ok rfl rfl rfl rfl rfl⟩, d1⟩, fun _ => rfl, fun e => absurd rfl e⟩

theorem send_B (h : PI n A B way dst S0 S1 T0 T1) (hn : n ≤ 60000) : ∃ S', PI (n + 1) A (sendL B (numS (S1 + 1))).2 way dst S0 S' T0 T1 ∧ ((sendL B (numS (S1 + 1))).1 = 0 → S' = S1 + 1) ∧ (¬ (sendL B (numS (S1 + 1))).1 = 0 → S' = S1) := by
 obtain ⟨p1, p2, p3, p4, p5, p6, p7, d0, ⟨H1, M1, d1⟩⟩ := h
 have ok := send_ok d1.ok (numS (S1 + 1))
 unfold sendL at ok ⊢
 rw [if_neg (by rw [numS_size]; decide)] at ok ⊢
 by_cases c : B.q.l.length ≥ 8
 ·rw [if_pos c]
  exact ⟨S1, ⟨p1, p2, p3, by omega, by omega, by omega, by show B.boot ≤ n + 1 + 1; omega, d0, ⟨H1, M1, d1⟩⟩, (fun e => by cases e), fun _ => rfl⟩
 ·rw [if_neg c] at ok ⊢
  exact ⟨S1 + 1, ⟨p1, p2, p3, by omega, by omega, by omega, by show B.boot ≤ n + 1 + 1; omega, d0, ⟨_, M1, d1.send (A' := { B with q := { B.q with l := B.q.l ++ [numS (S1 + 1)] } }) p5.1 ok rfl rfl rfl rfl rfl⟩⟩, fun _ => rfl, fun e => absurd rfl e⟩

theorem boot_of {A : Elink_Link} {S rb : Int} {pr : Elink_side} {T : Int} {W : ESeg → Prop} {H : Hs} {M : Ms} (h : Dir A S rb pr T W H M) : 1 ≤ A.boot := h.ok.boot.1

def newL (b : Int) : Elink_Link := { (default : Elink_Link) with boot := b, stream := 1 }

theorem newL_ok {b : Int} (h : 1 ≤ b ∧ b ≤ 1073741824) : lkOk (newL b) := ⟨h, by show (1 : Int) ≤ 1 ∧ (1 : Int) ≤ 1073741824; omega, .inl (by show (1 : Int) ≤ 1; omega), by show (0 : Int) ≤ 0 ∧ (0 : Int) ≤ 1073741824; omega, by show (0 : Nat) ≤ 8; omega, by show (0 : Int) ≤ 0 ∧ (0 : Int) ≤ 4; omega, by show (0 : Int) ≤ 0 ∧ (0 : Int) ≤ 1073741824; omega, by show (0 : Int) ≤ 0 ∧ (0 : Int) ≤ 1073741824; omega, by show (0 : Int) ≤ 0 ∧ (0 : Int) ≤ 1073741825; omega⟩

theorem link_New {b : Int} (h : 1 ≤ b ∧ b ≤ 1073741824) : F_link_New b = some (some (newL b), 0) := by
 unfold F_link_New
 rw [if_neg (by rw [decide_eq_false (by omega), decide_eq_false (by omega)]; decide)]; rfl

theorem new_A (h : PI n A B way dst S0 S1 T0 T1) (hn : n ≤ 60000) : PI (n + 1) (newL (A.boot + 1)) B way dst S0 S1 0 T1 := by
 obtain ⟨p1, p2, p3, p4, p5, p6, p7, ⟨H0, M0, d0⟩, ⟨H1, M1, d1⟩⟩ := h
 have hb := boot_of d0
 exact ⟨p1, p2, p3, by omega, by omega, by show A.boot + 1 ≤ n + 1 + 1; omega, by omega, ⟨H0, M0, d0.newA (newL_ok (by omega)) rfl rfl rfl rfl rfl⟩, ⟨H1, M1, d1.newB⟩⟩

theorem new_B (h : PI n A B way dst S0 S1 T0 T1) (hn : n ≤ 60000) : PI (n + 1) A (newL (B.boot + 1)) way dst S0 S1 T0 0 := by
 obtain ⟨p1, p2, p3, p4, p5, p6, p7, ⟨H0, M0, d0⟩, ⟨H1, M1, d1⟩⟩ := h
 have hb := boot_of d1
 exact ⟨p1, p2, p3, by omega, by omega, by omega, by show B.boot + 1 ≤ n + 1 + 1; omega, ⟨H0, M0, d0.newB⟩, ⟨H1, M1, d1.newA (newL_ok (by omega)) rfl rfl rfl rfl rfl⟩⟩

theorem dbl_ok (h : PI n A B way dst S0 S1 T0 T1) {k : Nat} (hk : k < way.length) (hw : way.length < 200) : PI n A B (way ++ [way.getD k default]) (dst ++ [dst.getD k default]) S0 S1 T0 T1 := by
 obtain ⟨p1, p2, p3, p4, p5, p6, p7, ⟨H0, M0, d0⟩, ⟨H1, M1, d1⟩⟩ := h
 have key : ∀ {t s}, Wy (way ++ [way.getD k default]) (dst ++ [dst.getD k default]) t s → Wy way dst t s := fun {t s} hs => by
  rcases Wy_app (l := [way.getD k default]) (d := dst.getD k default) p1 hs with q | ⟨q1, q2⟩
  ·exact q
  ·rw [List.mem_singleton] at q2
   exact ⟨k, hk, q1, q2.symm⟩
 refine ⟨by simp [p1], fun i hi => ?_, by rw [List.length_append, List.length_singleton]; omega, p4, p5, p6, p7, ⟨H0, M0, d0.mono fun s hs => .inl (key hs)⟩, ⟨H1, M1, d1.mono fun s hs => .inl (key hs)⟩⟩
 rw [List.length_append, List.length_singleton] at hi
 rw [List.getD_eq_getElem?_getD]
 by_cases c : i < dst.length
 ·rw [List.getElem?_append_left c, ← List.getD_eq_getElem?_getD]; exact p2 i c
 ·rw [List.getElem?_append_right (by omega), show i - dst.length = 0 by omega]
  exact p2 k (by omega)

/-- what a step does -/
theorem step_k1 (h : PI n A B way dst S0 S1 T0 T1) (hn : n ≤ 60000) (s : Elaw22_Step) (hs : inB s.n) (k : Nat) (hk : way.length = 0 ∨ k < way.length) : ∃ p', F_law22_pair_step_k1 (mkP A B way dst S0 S1 T0 T1) s (k : Int) = some p' ∧ PS (n + 1) p' := by
 have hb0 : 1 ≤ A.boot := by obtain ⟨_, _, d⟩ := h.d0; exact boot_of d
 have hb1 : 1 ≤ B.boot := by obtain ⟨_, _, d⟩ := h.d1; exact boot_of d
 have okA : lkOk A := by obtain ⟨_, _, d⟩ := h.d0; exact d.ok
 have okB : lkOk B := by obtain ⟨_, _, d⟩ := h.d1; exact d.ok
 have q0 := h.s0; have q1 := h.s1; have q2 := h.b0; have q3 := h.b1; have q4 := h.len; have q5 := h.wl
 unfold inB at hs
 have m0 := Int.tmod_nonneg (a := s.n) 2 hs.1
 have m1 := Int.tmod_lt_of_pos s.n (show (0 : Int) < 2 by decide)
 have m2 : s.n.tmod 2 = 0 ∨ s.n.tmod 2 = 1 := by omega
 unfold F_law22_pair_step_k1
 by_cases c1 : ((s.k == 0) || (s.k == 1)) = true
 ·rw [if_pos c1]
  rcases m2 with m2 | m2
  ·rw [m2, show ((0 : Int) == 0) = true from rfl, if_pos rfl]
   show ∃ p', chk (inI (S0 + 1)) ((F_law22_number (S0 + 1)).bind fun n0_3 => (F_link_Link_Send A n0_3).bind _) = _ ∧ _
   rw [chk_t (by unfold inI; omega), number_ok (by omega), Option.bind_some, link_Send okA, Option.bind_some]
   obtain ⟨S', g1, g2, g3⟩ := send_A h hn
   have hbo : (sendL A (numS (S0 + 1))).2.boot = A.boot := by unfold sendL; split <;> (try split) <;> rfl
   by_cases c : (sendL A (numS (S0 + 1))).1 = 0
   ·rw [if_pos (by rw [c]; rfl)]
    show ∃ p', chk (inI (S0 + 1)) _ = _ ∧ _
    rw [chk_t (by unfold inI; omega)]
    rw [g2 c] at g1
    exact ⟨_, rfl, PS_mk (by unfold mkP; dsimp only; rw [hbo]; rfl) g1⟩
   ·rw [if_neg (by simpa using c)]
    rw [g3 c] at g1
    exact ⟨_, rfl, PS_mk (by unfold mkP; dsimp only; rw [hbo]; rfl) g1⟩
  ·rw [m2, show ((1 : Int) == 0) = false from rfl, if_neg (by decide), show ((1 : Int) == 1) = true from rfl, if_pos rfl]
   show ∃ p', chk (inI (S1 + 1)) ((F_law22_number (S1 + 1)).bind fun n0_3 => (F_link_Link_Send B n0_3).bind _) = _ ∧ _
   rw [chk_t (by unfold inI; omega), number_ok (by omega), Option.bind_some, link_Send okB, Option.bind_some]
   obtain ⟨S', g1, g2, g3⟩ := send_B h hn
   have hbo : (sendL B (numS (S1 + 1))).2.boot = B.boot := by unfold sendL; split <;> (try split) <;> rfl
   by_cases c : (sendL B (numS (S1 + 1))).1 = 0
   ·rw [if_pos (by rw [c]; rfl)]
    show ∃ p', chk (inI (S1 + 1)) _ = _ ∧ _
    rw [chk_t (by unfold inI; omega)]
    rw [g2 c] at g1
    exact ⟨_, rfl, PS_mk (by unfold mkP; dsimp only; rw [hbo]; rfl) g1⟩
   ·rw [if_neg (by simpa using c)]
    rw [g3 c] at g1
    exact ⟨_, rfl, PS_mk (by unfold mkP; dsimp only; rw [hbo]; rfl) g1⟩
 rw [if_neg c1]
 by_cases c2 : (s.k == 2) = true
 ·rw [if_pos c2]
  rcases m2 with m2 | m2
  ·rw [m2]
   obtain ⟨m, _, _, e, g⟩ := out0_ok hn h s.again
   rw [e]; exact ⟨_, rfl, PS_mk rfl g.more⟩
  ·rw [m2]
   obtain ⟨m, _, _, e, g⟩ := out1_ok hn h s.again
   rw [e]; exact ⟨_, rfl, PS_mk rfl g.more⟩
 rw [if_neg c2]
 by_cases c3 : (decide (s.k > 6) || decide (s.k < 0)) = true
 ·rw [if_pos c3]
  rcases m2 with m2 | m2
  ·rw [m2, show ((0 : Int) == 0) = true from rfl, if_pos rfl]
   show ∃ p', chk (inI (A.boot + 1)) ((F_link_New (A.boot + 1)).bind _) = _ ∧ _
   rw [chk_t (by unfold inI; omega), link_New (by omega), Option.bind_some]
   exact ⟨_, rfl, PS_mk rfl (new_A h hn)⟩
  ·rw [m2, show ((1 : Int) == 0) = false from rfl, if_neg (by decide), show ((1 : Int) == 1) = true from rfl, if_pos rfl]
   show ∃ p', chk (inI (B.boot + 1)) ((F_link_New (B.boot + 1)).bind _) = _ ∧ _
   rw [chk_t (by unfold inI; omega), link_New (by omega), Option.bind_some]
   exact ⟨_, rfl, PS_mk rfl (new_B h hn)⟩
 rw [if_neg c3]
 by_cases c4 : way.length = 0
 ·rw [if_pos (by show ((way.length : Int) == 0) = true; rw [c4]; rfl)]
  exact ⟨_, rfl, PS_mk rfl h.more⟩
 rw [if_neg (by show ¬ ((way.length : Int) == 0) = true; rw [beq_iff_eq]; omega)]
 have hk' : k < way.length := by omega
 by_cases c5 : (s.k == 5) = true
 ·rw [if_pos c5, (gone_ok h hk').1]
  exact ⟨_, rfl, PS_mk rfl (gone_ok h hk').2.more⟩
 rw [if_neg c5]
 by_cases c6 : (s.k == 6) = true
 ·rw [if_pos c6]
  have ew : (mkP A B way dst S0 S1 T0 T1).way = way := rfl
  have ed : (mkP A B way dst S0 S1 T0 T1).to_ = dst := rfl
  rw [ew, ed, toNat_cast]
  by_cases c7 : way.length < 200
  ·rw [if_pos (decide_eq_true (by omega)), chk_t (by omega), chk_t (by rw [List.length_singleton]; omega), chk_t (by omega), chk_t (by rw [List.length_singleton]; omega)]
   exact ⟨_, rfl, PS_mk rfl (dbl_ok h hk' c7).more⟩
  ·rw [if_neg (by rw [decide_eq_false (by omega)]; decide)]
   exact ⟨_, rfl, PS_mk rfl h.more⟩
 rw [if_neg c6]
 rcases come_ok hn h hk' with ⟨_, T', e, g, _⟩ | ⟨_, T', e, g, _⟩
 ·rw [e, Option.bind_some, (gone_ok g hk').1]
  exact ⟨_, rfl, PS_mk rfl (gone_ok g hk').2.more⟩
 ·rw [e, Option.bind_some, (gone_ok g hk').1]
  exact ⟨_, rfl, PS_mk rfl (gone_ok g hk').2.more⟩

end
theorem step_ok {n : Int} (hn : n ≤ 60000) {p : Elaw22_pair} (h : PS n p) (s : Elaw22_Step) (hs : inB s.n) : ∃ p', F_law22_pair_step p s = some p' ∧ PS (n + 1) p' := by
 obtain ⟨A, B, way, dst, S0, S1, T0, T1, rfl, h⟩ := h
 have hs' := hs
 unfold inB at hs'
 have ew : (mkP A B way dst S0 S1 T0 T1).way = way := rfl
 unfold F_law22_pair_step
 rw [ew, chk_t (by unfold inI; omega)]
 by_cases c : 0 < way.length
 ·have e1 := Int.tmod_nonneg (a := s.n) (way.length : Int) hs'.1
  have e2 := Int.tmod_lt_of_pos s.n (show (0 : Int) < (way.length : Int) by omega)
  obtain ⟨k, hk⟩ := Int.eq_ofNat_of_zero_le e1
  rw [if_pos (decide_eq_true (by omega)), chk_t (by unfold inI; omega), chk_t (by omega), hk]
  exact step_k1 h hn s hs k (.inr (by omega))
 ·rw [if_neg (by rw [decide_eq_false (by omega)]; decide)]
  exact step_k1 h hn s hs 0 (.inl (by omega))

theorem PS.okp {n : Int} {p : Elaw22_pair} (h : PS n p) : p.ok = true := by
 obtain ⟨A, B, way, dst, S0, S1, T0, T1, rfl, h⟩ := h; rfl

theorem dir0 : Dir (newL 1) 0 1 ⟨0, 0, 0⟩ 0 (Wy [] [] 0) (fun _ _ => []) (fun _ _ => 0) :=
 ⟨newL_ok (by omega), rfl, fun i hi => absurd hi (Nat.not_lt_zero _), fun b s i j _ h => by simp at h, fun b s i h => by simp at h, fun b s b' s' i j _ h => by simp at h, fun _ _ _ => ⟨rfl, rfl⟩, rfl, fun _ _ => by omega, fun _ _ _ _ _ h => by omega, .inl rfl, ⟨Int.le_refl _, .inl rfl⟩, by omega, .inl rfl, fun s ⟨i, hi, _⟩ => by simp at hi⟩

theorem both_ok : F_law22_both = some (some (mkP (newL 1) (newL 1) [] [] 0 0 0 0)) ∧ PS 0 (mkP (newL 1) (newL 1) [] [] 0 0 0 0) := by
 refine ⟨?_, PS_mk rfl ⟨rfl, fun i hi => by simp at hi, by simp, by omega, by omega, by show (1 : Int) ≤ 0 + 1; omega, by show (1 : Int) ≤ 0 + 1; omega, ⟨_, _, dir0.mono fun s ⟨i, hi, _⟩ => by simp at hi⟩, ⟨_, _, dir0⟩⟩⟩
 unfold F_law22_both
 rw [link_New (by omega), Option.bind_some]
 rfl

theorem pure_LinkOnce (l : List Elaw22_Step) (h1 : bdSl bdElaw22_Step l) : F_law22_LinkOnce l = some true := by
 unfold F_law22_LinkOnce
 rw [both_ok.1, Option.bind_some]
 show iter (F_law22_LinkOnce_l1 l) FU (0, mkP (newL 1) (newL 1) [] [] 0 0 0 0) = some true
 refine iter_rule (fun s : Int × Elaw22_pair => 200 - s.1.toNat) (fun _ => some true) (fun s => 0 ≤ s.1 ∧ s.1 ≤ 200 ∧ PS s.1 s.2) ?_ FU _ ⟨Int.le_refl _, by simp only; omega, both_ok.2⟩ (by unfold FU; simp only; omega)
 rintro rc ⟨i, p⟩ ⟨a1, a2, a3⟩ hrc
 simp only at a1 a2 a3 hrc
 unfold F_law22_LinkOnce_l1
 dsimp only
 by_cases c : i < (l.length : Int) ∧ i < 200
 ·obtain ⟨p', e, g⟩ := step_ok (by omega) a3 (l.getD i.toNat default) (h1.2 i.toNat (by omega)).n
  rw [if_pos (by rw [decide_eq_true c.1, decide_eq_true c.2]; rfl), chk_t (by omega), e, Option.bind_some, if_neg (by rw [g.okp]; decide), chk_t (by unfold inI; omega)]
  exact hrc _ ⟨by simp only; omega, by simp only; omega, g⟩ (by simp only; omega)
 ·rw [if_neg (by rw [Bool.and_eq_true, decide_eq_true_eq, decide_eq_true_eq]; exact c), awake22]; rfl

end Go.Proofs.Ythomnhhjgcabkaa
