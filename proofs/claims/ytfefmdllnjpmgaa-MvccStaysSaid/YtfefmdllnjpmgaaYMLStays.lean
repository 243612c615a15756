/- Many versions: MvccStays' plain law. -/
import Derived.Test.YtfefmdllnjpmgaaYMWStays
import Derived.Test.YtfefmdllnjpmgaaYML1
namespace Go.Proofs.Ytfefmdllnjpmgaa
theorem Stays_l2 {then0 : List Elaw16_Act} {t : Int} (hb : bdSl bdElaw16_Act then0) (ht : 0 ≤ t) (k to_ : ByteArray) {rows : List Rw} {g : ByteArray × Bool × Emvcc_Store} {v : List EPair × Bool × Emvcc_Store}
  (hg1 : g.1 = (atL (gR k rows) t).1) (hg2 : g.2.1 = (atL (gR k rows) t).2) (hv1 : v.1 = (viewR k to_ t rows).take 1000) (hv2 : v.2.1 = decide (1000 < (viewR k to_ t rows).length)) :
  ∀ (n i : Nat) (s : Emvcc_Store) (T : Etree_Tree_api_Cell) (rs : List Rw), i ≤ 30 → 30 - i < n → mvOk s T rs → t ≤ s.last → cellsR rs ≤ 120 + 4 * i → Sm t rows rs → iter (F_law16_MvccStays_l2 then0 t k to_ g v) n ((i : Int), s) = some true
 | 0, i, _, _, _, _, h, _, _, _, _ => by omega
 | n + 1, i, s, T, rs, hi, hn, h, hl, hc, hs => by
  show F_law16_MvccStays_l2 then0 t k to_ g v (iter (F_law16_MvccStays_l2 then0 t k to_ g v) n) ((i : Int), s) = some true
  have hz : cellsR rs + 4 < big := by unfold big; omega
  generalize e0 : iter (F_law16_MvccStays_l2 then0 t k to_ g v) n = rc
  unfold F_law16_MvccStays_l2
  dsimp only
  by_cases c : i < then0.length ∧ i < 30
  ·rw [if_pos (by rw [decide_eq_true (show (i : Int) < (then0.length : Int) by omega), decide_eq_true (show (i : Int) < 30 by omega)]; rfl), chk_t (by omega), toNat_cast]
   have hb1 : bdElaw16_Act (then0.getD i default) := hb.2 i c.1
   have hc3 : (i : Int) + 1 = ((i + 1 : Nat) : Int) := rfl
   have h30 : inI ((i : Int) + 1) := by unfold inI; omega
   by_cases d : ((then0.getD i default).c == 3) = true
   ·rw [if_pos d, chk_t (by omega)]
    obtain ⟨s', T', e1, e2, e3⟩ := mv_Prune h (by omega) (min (then0.getD i default).t t)
    rw [e1, Option.bind_some]
    unfold F_law16_MvccStays_k3
    rw [chk_t h30, hc3]
    have hpc := prune_cells (min (then0.getD i default).t t) rs
    rw [← e0]; exact Stays_l2 hb ht k to_ hg1 hg2 hv1 hv2 n (i + 1) s' T' _ (by omega) (by omega) e2 (by rw [e3]; exact hl) (by omega) (hs.trans (prune_same (by omega) h.srt h.r))
   ·rw [if_neg d, chk_t (by omega), chk_t (by omega)]
    obtain ⟨e, s', T', e1, _, e2, e3, e4⟩ := mv_Put h (then0.getD i default).t hb1.t.1 (then0.getD i default).ops hz
    rw [e1, Option.bind_some]
    unfold F_law16_MvccStays_k3
    rw [chk_t h30, hc3]
    by_cases q : e = 0
    ·obtain ⟨u1, u2, u3⟩ := e4 q
     rw [if_pos q] at e2 e3
     have hpc := put_cells (then0.getD i default).t (then0.getD i default).ops rs
     rw [← e0]; exact Stays_l2 hb ht k to_ hg1 hg2 hv1 hv2 n (i + 1) s' T' _ (by omega) (by omega) e2 (by rw [e3]; omega) (by omega) (hs.trans (puts_same h.last u1 (by omega) _ none _ (mv_half h u1) u3))
    ·rw [if_neg q] at e2 e3
     rw [← e0]; exact Stays_l2 hb ht k to_ hg1 hg2 hv1 hv2 n (i + 1) s' T' _ (by omega) (by omega) e2 (by rw [e3]; exact hl) (by omega) hs
  ·rw [if_neg (by
    intro e
    rw [Bool.and_eq_true] at e
    have e1 := of_decide_eq_true e.1; have e2 := of_decide_eq_true e.2
    omega), mv_Get h (by omega), Option.bind_some]
   dsimp only
   rw [mv_Scan h (by omega), Option.bind_some, hg1, hg2, hs.g, hs.v, hv1, hv2]
   dsimp only
   have e1000 : (1000 : Int).toNat = 1000 := rfl
   rw [e1000, seqB_iff.2 rfl, beq_refl_b', show (true && true) = true from rfl, gif_true, samePairs_refl _ (by rw [List.length_take]; unfold big; omega), Option.bind_some, beq_refl_b', show (true && true && true) = true from rfl, gif_true, awake16]
   rfl

theorem pure_MvccStays (first then0 : List Elaw16_Act) (t : Int) (k to_ : ByteArray) (hb : bdSl bdElaw16_Act first) (hb2 : bdSl bdElaw16_Act then0) (ht : inU t) (_ : bdStr k) (_ : bdStr to_) : F_law16_MvccStays first then0 t k to_ = some true := by
 unfold F_law16_MvccStays
 obtain ⟨b1, h1⟩ := few_some first
 obtain ⟨b2, h2⟩ := few_some then0
 rw [h1, Option.bind_some, h2, gif_some, Option.bind_some]
 by_cases c0 : ((!b1) || !(if (!(!b1)) = true then b2 else default)) = true
 ·rw [if_pos c0, awake16]; rfl
 ·rw [if_neg c0, mvNew, Option.bind_some]
  have loop : ∀ (n i : Nat) (s : Emvcc_Store) (T : Etree_Tree_api_Cell) (rs : List Rw), i ≤ 30 → 30 - i < n → mvOk s T rs → cellsR rs ≤ 4 * i → iter (F_law16_MvccStays_l1 first then0 t k to_) n ((i : Int), s) = some true := by
   intro n
   induction n with
   | zero => intro i _ _ _ _ h; omega
   | succ n ih =>
    intro i s T rs hi hn h hc
    show F_law16_MvccStays_l1 first then0 t k to_ (iter (F_law16_MvccStays_l1 first then0 t k to_) n) ((i : Int), s) = some true
    have hz : cellsR rs + 4 < big := by unfold big; omega
    generalize e0 : iter (F_law16_MvccStays_l1 first then0 t k to_) n = rc
    unfold F_law16_MvccStays_l1
    dsimp only
    by_cases c : i < first.length ∧ i < 30
    ·rw [if_pos (by rw [decide_eq_true (show (i : Int) < (first.length : Int) by omega), decide_eq_true (show (i : Int) < 30 by omega)]; rfl), chk_t (by omega), chk_t (by omega), toNat_cast]
     have hb1 : bdElaw16_Act (first.getD i default) := hb.2 i c.1
     obtain ⟨e, s', T', e1, _, e2, e3, e4⟩ := mv_Put h (first.getD i default).t hb1.t.1 (first.getD i default).ops hz
     rw [e1, Option.bind_some, chk_t (by unfold inI; omega)]
     rw [← e0]; refine ih (i + 1) s' T' _ (by omega) (by omega) e2 ?_
     split
     ·rename_i q
      obtain ⟨_, u2, _⟩ := e4 q
      have hpc := put_cells (first.getD i default).t (first.getD i default).ops rs
      omega
     ·omega
    ·rw [if_neg (by
      intro e
      rw [Bool.and_eq_true] at e
      have e1 := of_decide_eq_true e.1; have e2 := of_decide_eq_true e.2
      omega), mv_Last h, Option.bind_some]
     by_cases d : t > s.last
     ·rw [if_pos (decide_eq_true d), awake16]; rfl
     ·rw [if_neg (by rw [decide_eq_false d]; decide), mv_Get h (by omega), Option.bind_some]
      dsimp only
      rw [mv_Scan h (by omega), Option.bind_some]
      exact Stays_l2 hb2 ht.1 k to_ rfl rfl rfl rfl FU 0 s T rs (by omega) (by unfold FU; omega) h (by omega) (by omega) (Sm.refl _ _)
  exact loop FU 0 newS newT [] (by omega) (by unfold FU; omega) mvNew_ok (Nat.le_refl _)

end Go.Proofs.Ytfefmdllnjpmgaa
