/- A replica's log: the greatest number of a client (a range over a map), by hand; labelled, and as one object. -/
import Derived.Test.YtglfajjcgbfehaaGreatYDd
namespace Go.Proofs.YtglfajjcgbfehaaGreat
open Go.RowKit

section
variable {T0 : Lb} {A0 : Dm}

def topS (c n : Int) (p : Erlog_who × Int) : Int := if p.1.client = c then max n p.1.req else n

theorem topS_comm (c n : Int) (p q : Erlog_who × Int) : topS c (topS c n p) q = topS c (topS c n q) p := by
 unfold topS
 by_cases h1 : p.1.client = c <;> by_cases h2 : q.1.client = c <;> simp [h1, h2] <;> omega

def topF (m : List (Erlog_who × Int)) (c : Int) : Int := m.foldl (topS c) 0

def F_rlog_Log_Top (l : Erlog_Log) (client : Int) : Option (Int × Erlog_Log) := (F_rlog_Log_none l).bind fun n0 => (if (n0) = true then (some (0, l)) else (optE l.at_ none (fun m => some (topF m client, ({ l with at_ := some m } : Erlog_Log)))))

set_option maxHeartbeats 1000000 in
theorem c_rlog_Log_Top {I D : Dm} {b_l : Nat} {l : Erlog_Log} {client : Int} {w : World} {rr : Int × Erlog_Log} (hF : F_rlog_Log_Top l client = some rr) (H : St I D w [XErlog_Log T0 A0 b_l l]) :
  Calls Tryz.prog 77 #[pp b_l 0, vI client] w (Ret fun vv w' => vv = vI rr.1 ∧ ∃ I', Hf I D w I' w' [XErlog_Log T0 A0 b_l rr.2]) := by
 replace H := H.hf
 unfold F_rlog_Log_Top at hF
 refine f_enter 27 Tryz.func77 rfl rfl (Nat.le_of_ble_eq_true rfl) fun a Z => ?_
 replace Z := Z.sub (ts := [0, 1]) rfl
 refine sR Z fun Z => ?_
 refine s_runk tDg Z 1 rfl rfl fun a Z => ?_
 refine s_end Z [0, 1, 4] rfl fun Z => ?_
 refine p_then (wp_seq ?_)
 refine wp_seq ?_
 obtain ⟨n0, hx1, hF⟩ := bnd_in hF
 refine f_region Z fun Z => ?_
 refine s_runk tDg Z 1 rfl rfl fun a Z => ?_
 refine hC Z H [(0, false)] rfl #[] fn_56_YDg rfl rfl (fun D h => have q := c_rlog_Log_none hx1 h; q) fun vv a w1 D2 hr hF2 Z => ?_
 obtain ⟨rfl, I1, K⟩ := hr
 have H := (hF2 K).nf rfl
 refine s_end Z [0, 1, 4, 8] rfl fun Z => ?_
 refine p_then ?_
 refine f_cond Z rfl (fun hc1 => ?_) (fun hc1 => ?_)
 ·replace hF := ite_t hc1 hF
  refine sR Z fun Z => ?_
  refine s_runk tDg Z 1 rfl rfl fun a Z => ?_
  refine s_end Z [0, 1, 4] rfl fun Z => ?_
  refine p_then (wp_ret ?_)
  refine p_then_r ?_
  obtain rfl := some_in hF
  exact f_ret Z (run_results1 rfl Z rfl) ⟨rfl, I1, (H.sub [(0, false)] rfl).eq rfl⟩
 ·replace hF := ite_f hc1 hF
  refine wp_skip ?_
  refine pR Z fun Z => ?_
  refine s_runk tDg Z 1 rfl rfl fun a Z => ?_
  refine s_end Z [0, 1, 5] rfl fun Z => ?_
  refine p_then (wp_seq ?_)
  refine wp_seq ?_
  obtain ⟨⟨v1, v2, T1⟩, H⟩ := H.openX 0 rfl
  replace H := H.nf rfl; try dsimp only at H
  rcases optE_in hF with ⟨ho1, hF⟩ | ⟨m, ho1, hF⟩
  ·cases hF
  obtain ⟨b1, hv, H⟩ := H.optMS 2 rfl ho1
  (try have Zq45 := Z); subst hv; (try have Z := Zq45)
  replace H := H.nf rfl; try dsimp only at H
  obtain ⟨es, clock, H, k1, k2, k3, k4⟩ := H.mopen 0 rfl
  replace H := H.nf rfl; try dsimp only at H
  refine f_region Z fun Z => ?_
  refine s_runk tDg Z 3 rfl rfl fun a Z => ?_
  refine sO Z _ rfl (oL tDg rfl rfl (H.bc 1 1 rfl rfl)) fun a Z => ?_
  refine h_range Z H 0 rfl rfl rfl Tryz.underlying99 rfl rfl (by decide) rfl fun a w2 r1 H Z => ?_
  refine s_end Z [1, 5, 13] rfl fun Z => ?_
  refine p_then (wp_block ?_)
  refine f_loop (σ := Array Nat × Int × Nat) (fun s a' w' => clock ≤ s.2.2 ∧ (restL es s.1 m).foldl (topS client) s.2.1 = topF m client ∧ Sl 27 [(1, vI client), (5, vI s.2.1), (13, pp r1 0)] a' ∧ ∃ I2, Hf I D w I2 w' [ObC r1 (.mapIter (some b1) clock s.1 s.2.2), ObC b1 (.map es clock), BxC b_l 101 [v1, .map (some b1), vI l.stamped], OwC (NEEntryO T1.1) 44 v1 l.l]) (fun s => (leftOf es s.1).size) (#[], 0, clock) ⟨Nat.le_refl _, by rw [restL_start es m (by simpa using congrArg List.length k3)]; rfl, Z, I1, H⟩ ?_
  skip
  rintro ⟨seen, nn, c0⟩ a w3 ⟨j1, j2, Z, I2, H⟩
  dsimp only at j1 j2 Z H
  refine sR Z fun Z => ?_
  refine h_next Z H 0 1 rfl rfl k4.2 j1 rfl rfl rfl rfl (by decide) rfl (fun hz a Z => ?_) (fun e he a w4 H Z => ?_)
  ·refine s_runk tDg Z 1 rfl rfl fun a Z => ?_
   refine s_end Z [1, 5, 13, 15] rfl fun Z => ?_
   refine p_then (wp_seq ?_)
   refine f_cond Z rfl (fun hc2 => by cases hc2) (fun hc2 => ?_)
   refine wp_exit ?_
   refine p_then_x ?_
   refine p_then_x ?_
   refine f_exit_here ?_
   refine pR Z fun Z => ?_
   refine s_runk tDg Z 2 rfl rfl fun a Z => ?_
   refine s_end Z [4] rfl fun Z => ?_
   refine p_then (wp_ret ?_)
   have hn : nn = topF m client := by rw [← j2, restL_end m hz]; rfl
   subst hn
   replace H : Hf I D w I2 w3 [MpC M_99 b1 m, ObC r1 (.mapIter (some b1) clock seen c0), BxC b_l 101 [v1, .map (some b1), vI l.stamped], OwC (NEEntryO T1.1) 44 v1 l.l] := H.mshut 1 rfl k1 k2 k3 k4
   replace H := (H.mkMS 0 rfl).nf rfl
   replace H := H.sX (XErlog_Log T0 A0 b_l ({ l with at_ := some m } : Erlog_Log)) (v1, .map (some b1), T1) [(2, false), (2, false), (0, false)] rfl rfl rfl
   obtain rfl := some_in hF
   exact f_ret Z (run_results1 rfl Z rfl) ⟨rfl, I2, (H.sub [(0, false)] rfl).eq rfl⟩
  ·have hm := mem_left he
   obtain ⟨p, hp, ep, _, hperm⟩ := rest_next k3 k4.1 hm.1 hm.2
   refine s_runk tDg Z 1 rfl rfl fun a Z => ?_
   refine s_end Z [1, 5, 13, 15] rfl fun Z => ?_
   refine p_then (wp_seq ?_)
   refine f_cond Z rfl (fun hc2 => ?_) (fun hc2 => by cases hc2)
   refine wp_skip ?_
   refine p_then (wp_block ?_)
   refine sR Z fun Z => ?_
   refine sO Z (.tuple #[.agg #[vI p.1.client, vI p.1.req], e.val]) rfl (Ob_entryK H 0 1 rfl rfl hm.1 k4 ep rfl rfl) fun a Z => ?_
   refine s_runk tDg Z 1 rfl rfl fun a Z => ?_
   refine hA Z H [vI 0, vI 0] rfl rfl (by kernel_rfl) fun a w5 b2 H Z => ?_
   refine hT tDg Z H 0 rfl rfl rfl rfl rfl (onR 2 rfl one_nil) (Nat.le_of_ble_eq_true rfl) rfl fun w6 H => ?_
   dsimp only [List.eraseIdx] at H
   refine s_end Z [1, 5, 13, 6] rfl fun Z => ?_
   refine pR Z fun Z => ?_
   refine s_runk tDg Z 1 rfl rfl fun a Z => ?_
   refine sO Z _ rfl (oL tDg rfl rfl (H.bc 0 0 rfl rfl)) fun a Z => ?_
   refine s_runk tDg Z 2 rfl rfl fun a Z => ?_
   refine s_end Z [1, 5, 13, 6, 21] rfl fun Z => ?_
   refine p_then ?_
   have hlt := left_shrinks es seen e he
   have hperm2 := hperm.foldl_eq' (f := topS client) (fun x _ y _ z => topS_comm client z x y) nn
   refine f_cond Z rfl (fun hc3 => ?_) (fun hc3 => ?_)
   ·have hst : topS client nn p = max nn p.1.req := by unfold topS; exact if_pos (eq_of_beq hc3)
    refine f_region Z fun Z => ?_
    refine s_runk tDg Z 2 rfl rfl fun a Z => ?_
    refine sO Z _ rfl (oL tDg rfl rfl (H.bc 0 1 rfl rfl)) fun a Z => ?_
    refine s_runk tDg Z 2 rfl rfl fun a Z => ?_
    refine s_end Z [1, 5, 13] rfl fun Z => ?_
    refine p_blk ?_
    refine p_then ?_
    exact ⟨(seen.push e.born, max nn p.1.req, clock), ⟨Nat.le_refl _, by rw [← j2, ← hst]; exact hperm2.symm, Z, I2, (H.sub [(1, false), (1, false), (1, false), (1, false)] rfl).eq rfl⟩, hlt⟩
   ·have hst : topS client nn p = nn := by unfold topS; exact if_neg (fun z => by rw [beq_iff_eq.2 z] at hc3; cases hc3)
    refine wp_skip ?_
    refine p_blk ?_
    refine p_then ?_
    exact ⟨(seen.push e.born, nn, clock), ⟨Nat.le_refl _, by rw [← j2]; refine Eq.trans ?_ hperm2.symm; show _ = List.foldl (topS client) (topS client nn p) _; rw [hst]; rfl, Z.sub (ts := [1, 5, 13]) rfl, I2, (H.sub [(1, false), (1, false), (1, false), (1, false)] rfl).eq rfl⟩, hlt⟩

end
section
variable {I D : Dm} {w : World} {b_l : Nat} {l : Erlog_Log}
theorem d_rlog_Log_Top {client : Int} {rr : Int × Erlog_Log} (hF : F_rlog_Log_Top l client = some rr) (H : St I D w [OErlog_Log b_l l]) :
  Calls Tryz.prog 77 #[.pointer (some ⟨b_l, 0, none⟩), .int .i64 client] w (Ret fun vv w' => vv = .int .i64 rr.1 ∧ ∃ I', Hf I D w I' w' [OErlog_Log b_l rr.2]) := deep_call H fun _ H => c_rlog_Log_Top hF H

end
end Go.Proofs.YtglfajjcgbfehaaGreat
