/- What a replica answers: ServeStays, the plain law. -/
import Derived.Test.YtaknkbbjimielaaYSvP
import Derived.Test.YtaknkbbjimielaaYSvWS
namespace Go.Proofs.Ytaknkbbjimielaa

theorem ans_flag (rows rows' : List Rw) (v v' : Eserve_View) (x : EMsg) : (ansA rows v x).2 = (ansA rows' v' x).2 := by
 unfold ansA
 (repeat' split) <;> rfl

theorem ans_no {rows : List Rw} {v : Eserve_View} {x : EMsg} (h : (ansA rows v x).2 = false) : (ansA rows v x).1.k = 0 := by
 unfold ansA at h ⊢
 (repeat' split) <;> first | rfl | (exfalso; simp_all)

/-- what an answer is -/
theorem ans_yes {rows : List Rw} {v : Eserve_View} {x : EMsg} (h : (ansA rows v x).2 = true) :
  ((ansA rows v x).1.k = 7 ∧ (ansA rows v x).1.pairs = []) ∨ ((ansA rows v x).1.k = 10 ∧ x.at_ ≤ v.mark ∧ v.horizon ≤ x.at_ ∧ (ansA rows v x).1 = if x.k = 8 then rowsM x (getP rows x) false else rowsM x ((viewR x.key x.to_ x.at_ rows).take (min x.n 32).toNat) (decide ((min x.n 32).toNat < (viewR x.key x.to_ x.at_ rows).length))) := by
 have hb : ∀ {t m z : Int}, ¬ bndC t m z ≠ 0 → t ≤ m ∧ z ≤ t := by
  intro t m z hh
  unfold bndC at hh
  by_cases h1 : t > m
  ·rw [if_pos h1] at hh; exact absurd (by decide) hh
  ·rw [if_neg h1] at hh
   by_cases h2 : t < z
   ·rw [if_pos h2] at hh; exact absurd (by decide) hh
   ·omega
 unfold ansA at h ⊢
 by_cases c : msgCheck x ≠ 0
 ·rw [if_pos c] at h; cases h
 rw [if_neg c] at h ⊢
 by_cases c8 : x.k = 8
 ·rw [if_pos c8, if_pos c8]
  dsimp only
  unfold getA
  by_cases d : bndC x.at_ v.mark v.horizon ≠ 0
  ·rw [if_pos d]; exact .inl ⟨rfl, rfl⟩
  ·rw [if_neg d]; exact .inr ⟨rfl, (hb d).1, (hb d).2, rfl⟩
 rw [if_neg c8] at h ⊢
 by_cases c9 : x.k = 9
 ·rw [if_pos c9, if_neg c8]
  dsimp only
  unfold scanA
  by_cases d : bndC x.at_ v.mark v.horizon ≠ 0
  ·rw [if_pos d]; exact .inl ⟨rfl, rfl⟩
  ·rw [if_neg d]; exact .inr ⟨rfl, (hb d).1, (hb d).2, rfl⟩
 rw [if_neg c9] at h; cases h

theorem stays_l {then0 : List Elaw31_Put} {w0 : Elaw31_View} {h0 : Int} {x : EMsg} (hb : bdSl bdElaw31_Put then0) (hx : bdEMsg x) {rows : List Rw} {m0 : Int} {s0 : Emvcc_Store} (v : Eserve_View) (hv : v.mark ≤ m0) :
  ∀ (n i : Nat) (s : Emvcc_Store) (T : Etree_Tree_api_Cell) (rs : List Rw), i ≤ 30 → 30 - i < n → mvOk s T rs → m0 ≤ s.last → cellsR rs ≤ 120 + 4 * i → (∀ t, t ≤ m0 → Sm t rows rs) →
   iter (F_law31_ServeStays_l1 then0 w0 h0 x ((ansA rows v x).1, (ansA rows v x).2, s0)) n ((i : Int), s) = some true
 | 0, i, _, _, _, _, h, _, _, _, _ => by omega
 | n + 1, i, s, T, rs, hi, hn, h, hl, hc, hs => by
  show F_law31_ServeStays_l1 then0 w0 h0 x ((ansA rows v x).1, (ansA rows v x).2, s0) (iter (F_law31_ServeStays_l1 then0 w0 h0 x ((ansA rows v x).1, (ansA rows v x).2, s0)) n) ((i : Int), s) = some true
  have hrec := stays_l (w0 := w0) (h0 := h0) (s0 := s0) hb hx v hv (rows := rows) n
  have hz : cellsR rs + 4 < big := by unfold big; omega
  generalize iter (F_law31_ServeStays_l1 then0 w0 h0 x ((ansA rows v x).1, (ansA rows v x).2, s0)) n = rc at hrec ⊢
  unfold F_law31_ServeStays_l1
  dsimp only
  by_cases c : i < then0.length ∧ i < 30
  ·rw [if_pos (by rw [decide_eq_true (show (i : Int) < (then0.length : Int) by omega), decide_eq_true (show (i : Int) < 30 by omega)]; rfl), chk_t (by omega), chk_t (by omega), toNat_cast]
   have hb1 : bdElaw31_Put (then0.getD i default) := hb.2 i c.1
   have h30 : inI ((i : Int) + 1) := by unfold inI; omega
   obtain ⟨e, s', T', e1, _, e2, e3, e4⟩ := mv_Put h (then0.getD i default).t hb1.t.1 (then0.getD i default).ops hz
   rw [e1, Option.bind_some, chk_t h30]
   by_cases q : e = 0
   ·obtain ⟨u1, u2, u3⟩ := e4 q
    rw [if_pos q] at e2 e3
    have hpc := put_cells (then0.getD i default).t (then0.getD i default).ops rs
    exact hrec (i + 1) s' T' _ (by omega) (by omega) e2 (by rw [e3]; omega) (by omega) fun t ht => (hs t ht).trans (puts_same h.last u1 (by omega) _ none _ (mv_half h u1) u3)
   ·rw [if_neg q] at e2 e3
    exact hrec (i + 1) s' T' _ (by omega) (by omega) e2 (by rw [e3]; exact hl) (by omega) hs
  ·rw [if_neg (by
    intro e
    rw [Bool.and_eq_true] at e
    have e1 := of_decide_eq_true e.1; have e2 := of_decide_eq_true e.2
    omega)]
   obtain ⟨s', T', e1, e2, e3⟩ := mv_Prune h (by omega) h0
   have hpc := prune_cells h0 rs
   have hz2 : cellsR (pruneR h0 rs) < big := by omega
   rw [e1, Option.bind_some, mv_Last e2, Option.bind_some, show F_serve_At s'.last (max h0 w0.horizon) 1 1 = some ⟨s'.last, max h0 w0.horizon, max 1 0, max 1 0⟩ from rfl, Option.bind_some]
   generalize hvb : (⟨s'.last, max h0 w0.horizon, max 1 0, max 1 0⟩ : Eserve_View) = vb
   rw [sv_Answer e2 hz2 vb hx, Option.bind_some]
   dsimp only
   have hfl := ans_flag rows (pruneR h0 rs) v vb x
   rw [hfl, show ((ansA (pruneR h0 rs) vb x).2 == (ansA (pruneR h0 rs) vb x).2) = true by simp, if_neg (by decide)]
   by_cases d : (ansA (pruneR h0 rs) vb x).2 = true
   ·have d1 := d; rw [← hfl] at d1
    rw [d, if_neg (by decide)]
    have A1 := ans_yes d1
    have A2 := ans_yes d
    by_cases g : (((ansA rows v x).1.k == 7) || ((ansA (pruneR h0 rs) vb x).1.k == 7)) = true
    ·rw [if_pos g]
     have p : ∀ {m : EMsg} {P : Prop}, (m.k = 7 ∧ m.pairs = []) ∨ (m.k = 10 ∧ P) → ((m.k != 7) || ((m.pairs.length : Int) == 0)) = true := by
      intro m P hh
      rcases hh with ⟨k1, k2⟩ | ⟨k1, _⟩
      ·rw [k2]; simp
      ·rw [k1]; rfl
     rw [p A1, p A2, show (true && true) = true from rfl, gif_true, awakeV]; rfl
    ·rw [if_neg g]
     simp only [Bool.or_eq_true, beq_iff_eq, not_or] at g
     rcases A1 with ⟨k1, _⟩ | ⟨_, b1, b2, b3⟩
     ·exact absurd k1 g.1
     rcases A2 with ⟨k1, _⟩ | ⟨_, c1, c2, c3⟩
     ·exact absurd k1 g.2
     have hh : h0 ≤ x.at_ := by rw [← hvb] at c2; exact Int.le_trans (Int.le_max_left _ _) c2
     have hm : Sm x.at_ rows (pruneR h0 rs) := (hs x.at_ (by omega)).trans (prune_same hh h.srt h.r)
     have e : (ansA (pruneR h0 rs) vb x).1 = (ansA rows v x).1 := by
      rw [c3, b3]; unfold getP; rw [hm.g, hm.v]
     have hp : (ansA rows v x).1.pairs.length ≤ big := by
      have := (bdS_ans e2 hz2 vb x).p
      rw [← e, c3]
      have hr := rows_cells e2.r
      have hv2 := view_len x.key x.to_ x.at_ (pruneR h0 rs)
      split
      ·unfold rowsM getP; dsimp only; split <;> (unfold big; simp)
      ·show ((viewR x.key x.to_ x.at_ (pruneR h0 rs)).take (min x.n 32).toNat).length ≤ big
       rw [List.length_take]; omega
     rw [e, samePairs_refl _ hp, Option.bind_some, beq_self_eq_true, beq_self_eq_true, show (true && true && true) = true from rfl, gif_true, awakeV]; rfl
   ·have d0 : (ansA (pruneR h0 rs) vb x).2 = false := by simpa using d
    have d1 := d0; rw [← hfl] at d1
    rw [d0, if_pos (show (!false) = true from rfl), ans_no d0, ans_no d1, show (((0 : Int) == 0) && ((0 : Int) == 0)) = true from rfl, gif_true, awakeV]; rfl

theorem pure_ServeStays (l then0 : List Elaw31_Put) (w0 : Elaw31_View) (h0 : Int) (x : EMsg) (hl : bdSl bdElaw31_Put l) (ht : bdSl bdElaw31_Put then0) (_ : bdElaw31_View w0) (_ : inU h0) (hx : bdEMsg x) : F_law31_ServeStays l then0 w0 h0 x = some true := by
 obtain ⟨f, hf⟩ := few31 l
 obtain ⟨f2, hf2⟩ := few31 then0
 unfold F_law31_ServeStays
 rw [hf, Option.bind_some, hf2, gif_some, Option.bind_some]
 generalize hq : (((((((!f) || (!(if (!(!f)) = true then f2 else default))) || (decide ((x.conf.members.length : Int) > 20))) || (decide ((x.batch.ops.length : Int) > 20))) || (decide ((x.entries.length : Int) > 20))) || (decide ((x.stamps.length : Int) > 20))) || (decide ((x.pairs.length : Int) > 40))) = q
 cases q
 ·obtain ⟨s, T, rows, h1, h, hc⟩ := stores_ok hl
  have hz : cellsR rows < big := by unfold big; omega
  rw [if_neg (by decide), h1, Option.bind_some, show F_serve_At (min w0.mark s.last) w0.horizon 1 1 = some ⟨min w0.mark s.last, w0.horizon, max 1 0, max 1 0⟩ from rfl, Option.bind_some]
  dsimp only
  rw [sv_Answer h hz _ hx, Option.bind_some]
  exact stays_l ht hx _ (m0 := s.last) (Int.min_le_right _ _) FU 0 s T rows (by omega) (by unfold FU; omega) h (Int.le_refl _) (by omega) fun t _ => Sm.refl _ _
 ·rw [if_pos rfl, awakeV]; rfl

end Go.Proofs.Ytaknkbbjimielaa
