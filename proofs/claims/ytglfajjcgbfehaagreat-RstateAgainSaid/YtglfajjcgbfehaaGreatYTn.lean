/- What later operations cover goes, in place. -/
import Derived.Test.YtglfajjcgbfehaaGreatYDl
namespace Go.Proofs.YtglfajjcgbfehaaGreat
open Go.RowKit
def tTnL : TabL := ⟨[(43010, 2), (45056, 0), (45057, 3), (103424, 0), (103426, 2)], [], [], [(32, (44, 4))], [(3, (1, false)), (29, (1, false)), (32, (1, false)), (40, (1, false)), (116, (1, false))]⟩

def tTn : Tab Tryz.prog := ⟨tTnL, by kernel_rfl⟩

theorem fn_56_YTn : IsFn Tryz.prog 56 := ⟨_, Tryz.func56, by kernel_rfl, by kernel_rfl⟩

theorem fn_65_YTn : IsFn Tryz.prog 65 := ⟨_, Tryz.func65, by kernel_rfl, by kernel_rfl⟩

def F_rlog_Log_Thin_k2 (i : Int) (rc : (Int × Erlog_Log × Int × (List (ByteArray × Bool))) → Option (Int × Erlog_Log)) (l_3 : Erlog_Log) (gone_2 : Int) (yb2_2 : List (ByteArray × Bool)) : Option (Int × Erlog_Log) := chk (inI (i - 1)) (rc (i - 1, l_3, gone_2, yb2_2))

def F_rlog_Log_Thin_l1 (h : Int) (rc : (Int × Erlog_Log × Int × (List (ByteArray × Bool))) → Option (Int × Erlog_Log)) (sg : Int × Erlog_Log × Int × (List (ByteArray × Bool))) : Option (Int × Erlog_Log) := match sg with | (i, l_2, gone, yb2) => if (decide (i ≥ 0)) = true then (chk ((0 : Int) ≤ i ∧ i < (l_2.l.length : Int)) (if (decide ((l_2.l.getD (i).toNat default).ts ≤ h)) = true then (chk (whoNd l_2.l) ((F_thin_DeleteFunc (((l_2.l.getD (i).toNat default).batch).ops) yb2 gone).bind fun d => (F_rlog_Log_Thin_k2 i rc ({ l_2 with l := l_2.l.set (i).toNat (withOps (l_2.l.getD (i).toNat default) d.1) } : Erlog_Log) d.2.2 d.2.1))) else (F_rlog_Log_Thin_k2 i rc l_2 gone yb2))) else (some (gone, l_2))

def F_rlog_Log_Thin (l : Erlog_Log) (h : Int) (n0 : Int) : Option (Int × Erlog_Log) := (F_rlog_Log_none l).bind fun n0_2 => (if (n0_2) = true then (some (0, l)) else (chk (inI (min n0 l.stamped - 1)) (iter (F_rlog_Log_Thin_l1 h) FU (min n0 l.stamped - 1, l, 0, ([] : List (ByteArray × Bool))))))

set_option maxHeartbeats 1000000 in
theorem c_rlog_Log_Thin {I D : Dm} {b_l : Nat} {l : Erlog_Log} {h : Int} {n0 : Int} {w : World} {rr : Int × Erlog_Log} (hF : F_rlog_Log_Thin l h n0 = some rr) (H : St I D w [OErlog_Log b_l l]) :
  Calls Tryz.prog 24 #[pp b_l 0, vU h, vI n0] w (Ret fun vv w' => vv = vI rr.1 ∧ ∃ I', Hf I D w I' w' [OErlog_Log b_l rr.2]) := by
 replace H := H.hf
 unfold F_rlog_Log_Thin at hF
 refine f_enter 51 Tryz.func24 rfl rfl (Nat.le_of_ble_eq_true rfl) fun a Z => ?_
 replace Z := Z.sub (ts := [0, 1, 2]) rfl
 refine sR Z fun Z => ?_
 refine s_runk tTn Z 1 rfl rfl fun a Z => ?_
 refine s_end Z [0, 1, 2] rfl fun Z => ?_
 refine p_then (wp_seq ?_)
 refine wp_seq ?_
 obtain ⟨n0_2, hx1, hF⟩ := bnd_in hF
 refine f_region Z fun Z => ?_
 refine s_runk tTn Z 1 rfl rfl fun a Z => ?_
 refine hC Z H [(0, false)] rfl #[] fn_56_YTn rfl rfl (fun D h => have q := d_rlog_Log_none hx1 h; q) fun vv a w1 D2 hr hF2 Z => ?_
 obtain ⟨rfl, I1, K⟩ := hr
 have H := (hF2 K).nf rfl
 refine s_end Z [0, 1, 2, 13] rfl fun Z => ?_
 refine p_then ?_
 refine f_cond Z rfl (fun hc1 => ?_) (fun hc1 => ?_)
 ·replace hF := ite_t hc1 hF
  refine sR Z fun Z => ?_
  refine s_runk tTn Z 1 rfl rfl fun a Z => ?_
  refine s_end Z [6] rfl fun Z => ?_
  refine p_then (wp_ret ?_)
  refine p_then_r ?_
  obtain rfl := some_in hF
  exact f_ret Z (run_results1 rfl Z rfl) ⟨rfl, I1, (H.sub [(0, false)] rfl).eq rfl⟩
 ·replace hF := ite_f hc1 hF
  refine wp_skip ?_
  refine pR Z fun Z => ?_
  refine hA1 Z H (vI 0) rfl rfl (by kernel_rfl) rfl fun a w2 b1 H Z => ?_
  refine hT tTn Z H 0 rfl rfl rfl rfl rfl (one_cons rfl one_nil) (Nat.le_of_ble_eq_true rfl) rfl fun w3 H => ?_
  dsimp only [List.eraseIdx] at H
  refine s_end Z [0, 1, 2, 7] rfl fun Z => ?_
  refine pR Z fun Z => ?_
  refine h_mkmap Z H M_116 rfl rfl rfl (by decide) rfl fun a w4 b2 H Z => ?_
  refine hA1 Z H (.map none) rfl rfl (by kernel_rfl) rfl fun a w5 b3 H Z => ?_
  refine hT tTn Z H 0 rfl rfl rfl rfl rfl (one_cons rfl one_nil) (Nat.le_of_ble_eq_true rfl) rfl fun w6 H => ?_
  dsimp only [List.eraseIdx] at H
  refine s_end Z [0, 1, 2, 7, 8] rfl fun Z => ?_
  refine pR Z fun Z => ?_
  refine s_runk tTn Z 2 rfl rfl fun a Z => ?_
  refine s_end Z [0, 1, 2, 7, 9] rfl fun Z => ?_
  refine p_then (wp_seq ?_)
  refine wp_seq ?_
  obtain ⟨hg1, hF⟩ := chk_in hF
  refine f_region Z fun Z => ?_
  refine s_runk tTn Z 4 rfl rfl fun a Z => ?_
  obtain ⟨⟨v1, v2, css1⟩, H⟩ := H.dOpen 3 rfl
  replace H := H.nf rfl; try dsimp only at H
  refine sO Z _ rfl (oL tTn rfl rfl (H.bc 0 2 rfl rfl)) fun a Z => ?_
  refine s_runk tTn Z 1 rfl rfl fun a Z => ?_
  refine sO Z (vI (min n0 l.stamped - 1)) rfl (Ob_sub rfl rfl rfl (wrI hg1)) fun a Z => ?_
  refine s_runk tTn Z 1 rfl rfl fun a Z => ?_
  refine s_end Z [0, 1, 7, 9, 10] rfl fun Z => ?_
  refine p_then (wp_block ?_)
  replace H : Hf I D w I1 w6 [OErlog_Log b_l l, BxC b3 116 [.map (some b2)], MpC M_116 b2 ([] : List (ByteArray × Bool)), BxC b1 3 [vI 0]] := H.dShut (v1, v2, css1) [(0, false), (0, false), (0, false), (0, false)] rfl
  refine f_iter hF (fun sg a' w' => match sg with | (i, l_2, gone, yb2) => Sl 51 [(0, pp b_l 0), (1, vU h), (7, pp b1 0), (9, .func (.func 64) #[] #[pp b3 0, pp b1 0]), (10, vI i)] a' ∧ ∃ I2, Hf I D w I2 w' [OErlog_Log b_l l_2, BxC b1 3 [vI gone], BxC b3 116 [.map (some b2)], MpC M_116 b2 yb2]) ⟨Z.sub (ts := [0, 1, 7, 9, 10]) rfl, ⟨I1, (H.sub [(0, false), (2, false), (0, false), (0, false)] rfl).eq rfl⟩⟩ ?_
  rintro rc ⟨i, l_2, gone, yb2⟩ a w7 ⟨Z, I2, H⟩ hF
  unfold F_rlog_Log_Thin_l1 at hF
  try dsimp only at hF
  refine wp_seq ?_
  refine sR Z fun Z => ?_
  refine s_runk tTn Z 2 rfl rfl fun a Z => ?_
  refine s_end Z [0, 1, 7, 9, 10, 24] rfl fun Z => ?_
  refine p_then ?_
  refine f_cond Z rfl (fun hc2 => ?_) (fun hc2 => ?_)
  ·replace hF := ite_t hc2 hF
   refine wp_skip ?_
   refine p_then ?_
   refine f_cut (fun a' w' => ∃ (l_3 : Erlog_Log) (gone_2 : Int) (yb2_2 : List (ByteArray × Bool)), Sl 51 [(0, pp b_l 0), (1, vU h), (7, pp b1 0), (9, .func (.func 64) #[] #[pp b3 0, pp b1 0]), (10, vI i)] a' ∧ (∃ I2, Hf I D w I2 w' [OErlog_Log b_l l_3, BxC b1 3 [vI gone_2], BxC b3 116 [.map (some b2)], MpC M_116 b2 yb2_2]) ∧ F_rlog_Log_Thin_k2 i rc l_3 gone_2 yb2_2 = some rr) ?_ ?_
   ·rintro a w8 ⟨l_3, gone_2, yb2_2, Z, ⟨I3, H⟩, hF⟩
    unfold F_rlog_Log_Thin_k2 at hF
    try dsimp only at hF
    obtain ⟨hg2, hF⟩ := chk_in hF
    refine f_region Z fun Z => ?_
    refine s_runk tTn Z 1 rfl rfl fun a Z => ?_
    refine sO Z (vI (i - 1)) rfl (Ob_sub rfl rfl rfl (wrI hg2)) fun a Z => ?_
    refine s_runk tTn Z 1 rfl rfl fun a Z => ?_
    refine s_end Z [0, 1, 7, 9, 10] rfl fun Z => ?_
    refine p_then ?_
    exact ⟨(i - 1, l_3, gone_2, yb2_2), ⟨Z.sub (ts := [0, 1, 7, 9, 10]) rfl, ⟨I3, (H.sub [(0, false), (0, false), (0, false), (0, false)] rfl).eq rfl⟩⟩, hF⟩
   ·skip
    refine wp_block ?_
    refine wp_seq ?_
    obtain ⟨hg3, hF⟩ := chk_in hF
    refine f_region Z fun Z => ?_
    refine s_runk tTn Z 3 rfl rfl fun a Z => ?_
    obtain ⟨⟨v3, v4, css2⟩, H⟩ := H.dOpen 0 rfl
    replace H := H.nf rfl; try dsimp only at H
    refine sO Z _ rfl (oL tTn rfl rfl (H.bc 0 0 rfl rfl)) fun a Z => ?_
    refine s_runk tTn Z 1 rfl rfl fun a Z => ?_
    refine sO Z (.pointer (some ⟨blkOf v3, oofOf v3 + (i).toNat * 4, none⟩)) rfl (Ob_sidx tTn rfl rfl rfl rfl (slPl (H.dlRep 1 2 rfl rfl) hg3) hg3) fun a Z => ?_
    refine s_runk tTn Z 1 rfl rfl fun a Z => ?_
    refine s_end Z [0, 1, 7, 9, 10, 11] rfl fun Z => ?_
    refine pR Z fun Z => ?_
    refine s_runk tTn Z 3 rfl rfl fun a Z => ?_
    obtain ⟨u1, hu1, hat1⟩ := H.lbEl 1 2 rfl rfl hg3
    refine sO Z (vU ((gi l_2.l i).ts)) rfl (oL tTn rfl rfl (hat1 3 _ rfl)) fun a Z => ?_
    refine s_runk tTn Z 2 rfl rfl fun a Z => ?_
    refine s_end Z [0, 1, 7, 9, 10, 11, 38] rfl fun Z => ?_
    refine p_then ?_
    refine f_cond Z rfl (fun hc3 => ?_) (fun hc3 => ?_)
    ·replace hF := ite_t hc3 hF
     obtain ⟨hg4, hF⟩ := chk_in hF
     obtain ⟨d, hx2, hF⟩ := bnd_in hF
     refine f_region Z fun Z => ?_
     refine s_runk tTn Z 5 rfl rfl fun a Z => ?_
     obtain ⟨u2, hu2, hat2⟩ := H.lbEl 1 2 rfl rfl hg3
     refine sO Z u2 rfl (oL tTn rfl rfl (hat2 2 _ rfl)) fun a Z => ?_
     refine s_runk tTn Z 1 rfl rfl fun a Z => ?_
     replace H : Hf I D w I2 w7 [OwC NEOp 58 u2 (((gi l_2.l i).batch).ops), LbsC (some (i).toNat) css2 l_2.l, BxC b_l 101 [v3, v4, vI l_2.stamped], OwC (Rraw 4) 44 v3 css2, PmC M_99 v4 l_2.at_, BxC b1 3 [vI gone], BxC b3 116 [.map (some b2)], MpC M_116 b2 yb2] := H.lbOut 2 rfl (by omega) hg4 hu2
     refine hC Z H [(0, false), (5, false), (5, false), (4, false)] rfl #[] fn_65_YTn rfl rfl (fun D h => have q := c_thin_DeleteFunc hx2 h; q) fun vv a w9 D2 hr hF2 Z => ?_
     obtain ⟨q1, hvv, I4, K⟩ := hr; obtain rfl := hvv.symm
     have H := (hF2 K).nf rfl
     refine s_runk tTn Z 3 rfl rfl fun a Z => ?_
     refine h_dlStore tTn Z H (z := i) hg3 hu2 [(6, false), (3, false), (3, false)] rfl rfl rfl rfl rfl rfl rfl fun w11 css3 H => ?_
     replace H := H.nf rfl; try dsimp only at H
     refine s_end Z [0, 1, 7, 9, 10] rfl fun Z => ?_
     refine p_blk ?_
     refine p_then ?_
     replace H : Hf I D w I4 w11 [OErlog_Log b_l ({ l_2 with l := l_2.l.set (i).toNat (withOps (gi l_2.l i) d.1) } : Erlog_Log), BxC b3 116 [.map (some b2)], MpC M_116 b2 d.2.1, BxC b1 3 [vI d.2.2]] := H.dShut (v3, v4, css3) [(5, false), (1, false), (0, false), (3, false)] rfl
     exact ⟨({ l_2 with l := l_2.l.set (i).toNat (withOps (gi l_2.l i) d.1) } : Erlog_Log), d.2.2, d.2.1, Z.sub (ts := [0, 1, 7, 9, 10]) rfl, ⟨I4, (H.sub [(0, false), (2, false), (0, false), (0, false)] rfl).eq rfl⟩, hF⟩
    ·replace hF := ite_f hc3 hF
     refine wp_skip ?_
     refine p_blk ?_
     refine p_then ?_
     replace H : Hf I D w I2 w7 [OErlog_Log b_l l_2, BxC b1 3 [vI gone], BxC b3 116 [.map (some b2)], MpC M_116 b2 yb2] := H.dShut (v3, v4, css2) [(0, false), (0, false), (0, false), (0, false)] rfl
     exact ⟨l_2, gone, yb2, Z.sub (ts := [0, 1, 7, 9, 10]) rfl, ⟨I2, (H.sub [(0, false), (0, false), (0, false), (0, false)] rfl).eq rfl⟩, hF⟩
  ·replace hF := ite_f hc2 hF
   refine wp_exit ?_
   refine p_then_x ?_
   refine p_then_x ?_
   refine f_exit_here ?_
   refine pR Z fun Z => ?_
   refine sO Z _ rfl (oL tTn rfl rfl (H.bc 1 0 rfl rfl)) fun a Z => ?_
   refine s_runk tTn Z 1 rfl rfl fun a Z => ?_
   refine s_end Z [6] rfl fun Z => ?_
   refine p_then (wp_ret ?_)
   obtain rfl := some_in hF
   exact f_ret Z (run_results1 rfl Z rfl) ⟨rfl, I2, (H.sub [(0, false)] rfl).eq rfl⟩

end Go.Proofs.YtglfajjcgbfehaaGreat
