/- Many versions: MvccPlays' plain law. -/
import Derived.Test.YtfefmdllnjpmgaaYMWPlays
import Derived.Test.YtfefmdllnjpmgaaYMLR
namespace Go.Proofs.Ytfefmdllnjpmgaa
theorem same_ok {s : Emvcc_Store} {T : Etree_Tree_api_Cell} {rows : List Rw} (h : mvOk s T rows) (hz : cellsR rows < big) (last : Int) (a : Elaw16_Act) : F_law16_same s ⟨rows, last⟩ a = some (true, s) := by
 have hlen := rows_cells h.r
 unfold F_law16_same
 rw [mv_Get h hz, Option.bind_some, ref_Get h.r h.srt hz, Option.bind_some]
 dsimp only
 rw [mv_Scan h hz, Option.bind_some, ref_Scan h.r hz, Option.bind_some]
 dsimp only
 rw [seqB_iff.2 rfl, beq_refl_b', show (true && true) = true from rfl, gif_true, samePairs_refl _ (by have := view_len a.k a.to_ a.t rows; rw [List.length_take]; unfold big at *; omega), Option.bind_some, beq_refl_b']
 rfl

theorem Plays_k2 {s : Emvcc_Store} {T : Etree_Tree_api_Cell} {rows : List Rw} (h : mvOk s T rows) (hz : cellsR rows < big) {i : Nat} (hi : i < 40) {rc : Int × Emvcc_Store × Eref16_Store → Option Bool} (b : Bool) (hrc : rc (((i + 1 : Nat) : Int), s, ⟨rows, s.last⟩) = some true) : F_law16_MvccPlays_k2 (i : Int) rc true b s ⟨rows, s.last⟩ = some true := by
 unfold F_law16_MvccPlays_k2
 rw [show (!(!true)) = true from rfl, gif_true, mv_Last h, Option.bind_some]
 dsimp only
 rw [bne_self_eq_false, show (!((!true) || false)) = true from rfl, gif_true, mv_Cells h, Option.bind_some, gif_true, ref_Cells h.r hz, Option.bind_some, bne_self_eq_false, if_neg (by decide), chk_t (by unfold inI; omega)]
 exact hrc

theorem Plays_loop {l : List Elaw16_Act} (hb : bdSl bdElaw16_Act l) : ∀ (n i : Nat) (s : Emvcc_Store) (T : Etree_Tree_api_Cell) (rows : List Rw), i ≤ 40 → 40 - i < n → mvOk s T rows → cellsR rows ≤ 4 * i → iter (F_law16_MvccPlays_l1 l) n ((i : Int), s, ⟨rows, s.last⟩) = some true
 | 0, i, _, _, _, _, h, _, _ => by omega
 | n + 1, i, s, T, rows, hi, hn, h, hc => by
  show F_law16_MvccPlays_l1 l (iter (F_law16_MvccPlays_l1 l) n) _ = _
  have hz : cellsR rows + 4 < big := by unfold big; omega
  generalize e0 : iter (F_law16_MvccPlays_l1 l) n = rc
  unfold F_law16_MvccPlays_l1
  dsimp only
  by_cases c : i < l.length ∧ i < 40
  ·rw [if_pos (by rw [decide_eq_true (show (i : Int) < (l.length : Int) by omega), decide_eq_true (show (i : Int) < 40 by omega)]; rfl), chk_t (by omega), toNat_cast]
   have hb1 : bdElaw16_Act (l.getD i default) := hb.2 i c.1
   have k3 : ∀ b : Bool, F_law16_MvccPlays_k3 l (i : Int) s ⟨rows, s.last⟩ rc b = some true := by
    intro b
    unfold F_law16_MvccPlays_k3
    rw [toNat_cast]
    cases b with
    | true =>
     rw [if_pos rfl, chk_t (by omega), chk_t (by omega)]
     obtain ⟨e, s', T', e1, e5, e2, e3, e4⟩ := mv_Put h (l.getD i default).t hb1.t.1 (l.getD i default).ops hz
     rw [e1, Option.bind_some, chk_t (by omega), chk_t (by omega), ref_Put16 h _ _ hz, Option.bind_some, ← e5]
     dsimp only
     rw [beq_self_eq_true]
     by_cases q : e = 0
     ·obtain ⟨_, u2, _⟩ := e4 q
      have hpc := put_cells (l.getD i default).t (l.getD i default).ops rows
      rw [if_pos q] at e2 e3 ⊢
      have e6 : (⟨putR (l.getD i default).t (l.getD i default).ops rows, (l.getD i default).t⟩ : Eref16_Store) = ⟨putR (l.getD i default).t (l.getD i default).ops rows, s'.last⟩ := by rw [e3]
      rw [e6]
      refine Plays_k2 e2 (by unfold big; omega) (by omega) _ ?_
      rw [← e0]
      exact Plays_loop hb n (i + 1) s' T' _ (by omega) (by omega) e2 (by omega)
     ·rw [if_neg q] at e2 e3 ⊢
      rw [← e3]
      refine Plays_k2 e2 (by omega) (by omega) _ ?_
      rw [← e0]
      exact Plays_loop hb n (i + 1) s' T' _ (by omega) (by omega) e2 (by omega)
    | false =>
     rw [if_neg (by decide)]
     by_cases d : ((l.getD i default).c == 3) = true
     ·rw [if_pos d, chk_t (by omega)]
      obtain ⟨s', T', e1, e2, e3⟩ := mv_Prune h (by omega) (l.getD i default).t
      have hpc := prune_cells (l.getD i default).t rows
      rw [e1, Option.bind_some, chk_t (by omega), ref_Prune16 h.r (by omega), Option.bind_some]
      dsimp only
      rw [beq_self_eq_true, ← e3]
      refine Plays_k2 e2 (by omega) (by omega) _ ?_
      rw [← e0]
      exact Plays_loop hb n (i + 1) s' T' _ (by omega) (by omega) e2 (by omega)
     ·rw [if_neg d, chk_t (by omega), same_ok h (by omega), Option.bind_some]
      refine Plays_k2 h (by omega) (by omega) _ ?_
      rw [← e0]
      exact Plays_loop hb n (i + 1) s T _ (by omega) (by omega) h (by omega)
   rw [k3, k3, k3]
   split
   ·rfl
   ·split <;> rfl
  ·rw [if_neg (by
    intro e
    rw [Bool.and_eq_true] at e
    have e1 := of_decide_eq_true e.1; have e2 := of_decide_eq_true e.2
    omega), awake16]
   rfl

theorem pure_MvccPlays (l : List Elaw16_Act) (hb : bdSl bdElaw16_Act l) : F_law16_MvccPlays l = some true := by
 unfold F_law16_MvccPlays
 obtain ⟨b1, h1⟩ := few_some l
 rw [h1, Option.bind_some]
 by_cases c0 : (!b1) = true
 ·rw [if_pos c0, awake16]; rfl
 ·rw [if_neg c0, mvNew, Option.bind_some]
  exact Plays_loop hb FU 0 newS newT [] (by omega) (by unfold FU; omega) mvNew_ok (Nat.le_refl _)

end Go.Proofs.Ytfefmdllnjpmgaa
