/- What later operations cover goes, in place. -/
import Derived.Test.YtglfajjcgbfehaaYDl
namespace Go.Proofs.Ytglfajjcgbfehaa
open Go.RowKit
def tTnL : TabL := ⟨[(38914, 2), (40960, 0), (40961, 3), (114688, 0), (114690, 2)], [], [], [(48, (40, 4))], [(3, (1, false)), (27, (1, false)), (36, (1, false)), (48, (1, false)), (127, (1, false))]⟩

def tTn : Tab Try.prog := ⟨tTnL, by kernel_rfl⟩

theorem fn_61_YTn : IsFn Try.prog 61 := ⟨_, Try.func61, by kernel_rfl, by kernel_rfl⟩

theorem fn_70_YTn : IsFn Try.prog 70 := ⟨_, Try.func70, by kernel_rfl, by kernel_rfl⟩

def F_rlog_Log_Thin_k2 (i : Int) (rc : (Int × Erlog_Log × Int × (List (ByteArray × Bool))) → Option (Int × Erlog_Log)) (l_3 : Erlog_Log) (gone_2 : Int) (yb2_2 : List (ByteArray × Bool)) : Option (Int × Erlog_Log) := chk (inI (i - 1)) (rc (i - 1, l_3, gone_2, yb2_2))

def F_rlog_Log_Thin_l1 (h : Int) (rc : (Int × Erlog_Log × Int × (List (ByteArray × Bool))) → Option (Int × Erlog_Log)) (sg : Int × Erlog_Log × Int × (List (ByteArray × Bool))) : Option (Int × Erlog_Log) := match sg with | (i, l_2, gone, yb2) => if (decide (i ≥ 0)) = true then (chk ((0 : Int) ≤ i ∧ i < (l_2.l.length : Int)) (if (decide ((l_2.l.getD (i).toNat default).ts ≤ h)) = true then (chk (whoNd l_2.l) ((F_thin_DeleteFunc (((l_2.l.getD (i).toNat default).batch).ops) yb2 gone).bind fun d => (F_rlog_Log_Thin_k2 i rc ({ l_2 with l := l_2.l.set (i).toNat (withOps (l_2.l.getD (i).toNat default) d.1) } : Erlog_Log) d.2.2 d.2.1))) else (F_rlog_Log_Thin_k2 i rc l_2 gone yb2))) else (some (gone, l_2))

def F_rlog_Log_Thin (l : Erlog_Log) (h : Int) (n0 : Int) : Option (Int × Erlog_Log) := (F_rlog_Log_none l).bind fun n0_2 => (if (n0_2) = true then (some (0, l)) else (chk (inI (min n0 l.stamped - 1)) (iter (F_rlog_Log_Thin_l1 h) FU (min n0 l.stamped - 1, l, 0, ([] : List (ByteArray × Bool))))))

set_option maxHeartbeats 1000000 in
theorem c_rlog_Log_Thin {I D : Dm} {b_l : Nat} {l : Erlog_Log} {h : Int} {n0 : Int} {w : World} {rr : Int × Erlog_Log} (hF : F_rlog_Log_Thin l h n0 = some rr) (H : St I D w [OErlog_Log b_l l]) :
  Calls Try.prog 35 #[.pointer (some ⟨b_l, 0, none⟩), .int .u64 h, .int .i64 n0] w (Ret fun vv w' => vv = .int .i64 rr.1 ∧ ∃ I', Hf I D w I' w' [OErlog_Log b_l rr.2]) := by
 replace H := H.hf
 unfold F_rlog_Log_Thin at hF
 refine f_enter 51 Try.func35 rfl rfl (Nat.le_of_ble_eq_true rfl) fun a Z => ?_
 replace Z := Z.sub (ts := [0, 1, 2]) rfl
 refine wp_seq (f_region Z ?_); clear Z; intro Z
 refine s_runk tTn Z 1 rfl rfl ?_; clear Z a; intro a Z
 refine s_end Z [0, 1, 2] rfl ?_; clear Z; intro Z
 refine p_then (wp_seq ?_)
 refine wp_seq ?_
 obtain ⟨n0_2, hx1, hF⟩ := bnd_in hF
 refine f_region Z ?_; clear Z; intro Z
 refine s_runk tTn Z 1 rfl rfl ?_; clear Z a; intro a Z
 refine h_call Z H (js := [(0, false)]) rfl (caps := #[]) fn_61_YTn rfl rfl rfl rfl rfl (by decide) rfl rfl (fun D1 hS => have hq := d_rlog_Log_none hx1 hS; hq) ?_; clear Z a; intro vv a w1 D2 hr hF2 Z
 obtain ⟨rfl, I1, K⟩ := hr
 have H : Hf I D w I1 w1 [OErlog_Log b_l l] := hF2 K
 clear hF2 K
 refine s_end Z [0, 1, 2, 13] rfl ?_; clear Z; intro Z
 refine p_then ?_
 refine f_cond Z rfl (fun hc1 => ?_) (fun hc1 => ?_)
 ·replace hF := ite_t hc1 hF
  refine wp_seq (f_region Z ?_); clear Z; intro Z
  refine s_runk tTn Z 1 rfl rfl ?_; clear Z a; intro a Z
  refine s_end Z [6] rfl ?_; clear Z; intro Z
  refine p_then (wp_ret ?_)
  refine p_then_r ?_
  obtain rfl := some_in hF
  exact f_ret Z (run_results1 rfl Z rfl) ⟨rfl, I1, (H.sub [(0, false)] rfl).eq rfl⟩
 ·replace hF := ite_f hc1 hF
  refine wp_skip ?_
  refine p_then (wp_seq (f_region Z ?_)); clear Z; intro Z
  refine h_alloc Z H (cl := [.int .i64 0]) (z := .int .i64 0) rfl rfl rfl (by decide) rfl (by kernel_rfl) rfl ?_; clear Z a H; intro a w2 b1 H Z
  refine h_store tTn Z H 0 rfl rfl rfl rfl rfl rfl rfl rfl rfl (one_cons rfl one_nil) (Nat.le_of_ble_eq_true rfl) rfl ?_; clear H; intro w3 H
  dsimp only [List.eraseIdx] at H
  refine s_end Z [0, 1, 2, 7] rfl ?_; clear Z; intro Z
  refine p_then (wp_seq (f_region Z ?_)); clear Z; intro Z
  refine h_mkmap Z H M_127 rfl rfl rfl (by decide) rfl ?_; clear Z a H; intro a w4 b2 H Z
  refine h_alloc Z H (cl := [.map none]) (z := .map none) rfl rfl rfl (by decide) rfl (by kernel_rfl) rfl ?_; clear Z a H; intro a w5 b3 H Z
  refine h_store tTn Z H 0 rfl rfl rfl rfl rfl rfl rfl rfl rfl (one_cons rfl one_nil) (Nat.le_of_ble_eq_true rfl) rfl ?_; clear H; intro w6 H
  dsimp only [List.eraseIdx] at H
  refine s_end Z [0, 1, 2, 7, 8] rfl ?_; clear Z; intro Z
  refine p_then (wp_seq (f_region Z ?_)); clear Z; intro Z
  refine s_runk tTn Z 2 rfl rfl ?_; clear Z a; intro a Z
  refine s_end Z [0, 1, 2, 7, 9] rfl ?_; clear Z; intro Z
  refine p_then (wp_seq ?_)
  refine wp_seq ?_
  obtain ⟨hg1, hF⟩ := chk_in hF
  refine f_region Z ?_; clear Z; intro Z
  refine s_runk tTn Z 4 rfl rfl ?_; clear Z a; intro a Z
  obtain ⟨⟨v1, v2, css1⟩, H⟩ := H.dOpen 3 rfl
  replace H : Hf I D w I1 w6 [BxC b_l 112 [v1, v2, .int .i64 l.stamped], OwC (Rraw 4) 40 v1 css1, LbsC none css1 l.l, PmC M_110 v2 l.at_, BxC b3 127 [.map (some b2)], MpC M_127 b2 ([] : List (ByteArray × Bool)), BxC b1 3 [.int .i64 0]] := H
  refine s_ob Z (v := .int .i64 l.stamped) rfl rfl (by decide) rfl (Ob_load tTn rfl rfl rfl ((H.bx 0 rfl).cell 2 rfl)) ?_; clear Z a; intro a Z
  refine s_runk tTn Z 1 rfl rfl ?_; clear Z a; intro a Z
  refine s_ob Z (v := .int .i64 (min n0 l.stamped - 1)) rfl rfl (by decide) rfl (Ob_sub rfl rfl rfl (wrI hg1)) ?_; clear Z a; intro a Z
  refine s_runk tTn Z 1 rfl rfl ?_; clear Z a; intro a Z
  refine s_end Z [0, 1, 7, 9, 10] rfl ?_; clear Z; intro Z
  refine p_then (wp_block ?_)
  replace H : Hf I D w I1 w6 [OErlog_Log b_l l, BxC b3 127 [.map (some b2)], MpC M_127 b2 ([] : List (ByteArray × Bool)), BxC b1 3 [.int .i64 0]] := H.dShut (v1, v2, css1) [(0, false), (0, false), (0, false), (0, false)] rfl
  refine f_iter hF (fun sg a' w' => match sg with | (i, l_2, gone, yb2) => Sl 51 [(0, .pointer (some ⟨b_l, 0, none⟩)), (1, .int .u64 h), (7, .pointer (some ⟨b1, 0, none⟩)), (9, .func (.func 69) #[] #[.pointer (some ⟨b3, 0, none⟩), .pointer (some ⟨b1, 0, none⟩)]), (10, .int .i64 i)] a' ∧ ∃ I2, Hf I D w I2 w' [OErlog_Log b_l l_2, BxC b1 3 [.int .i64 gone], BxC b3 127 [.map (some b2)], MpC M_127 b2 yb2]) ⟨Z.sub (ts := [0, 1, 7, 9, 10]) rfl, ⟨I1, (H.sub [(0, false), (2, false), (0, false), (0, false)] rfl).eq rfl⟩⟩ ?_
  clear Z H hF a
  rintro rc ⟨i, l_2, gone, yb2⟩ a w7 ⟨Z, I2, H⟩ hF
  unfold F_rlog_Log_Thin_l1 at hF
  try dsimp only at hF
  refine wp_seq ?_
  refine wp_seq (f_region Z ?_); clear Z; intro Z
  refine s_runk tTn Z 2 rfl rfl ?_; clear Z a; intro a Z
  refine s_end Z [0, 1, 7, 9, 10, 24] rfl ?_; clear Z; intro Z
  refine p_then ?_
  refine f_cond Z rfl (fun hc2 => ?_) (fun hc2 => ?_)
  ·replace hF := ite_t hc2 hF
   refine wp_skip ?_
   refine p_then ?_
   refine f_cut (fun a' w' => ∃ (l_3 : Erlog_Log) (gone_2 : Int) (yb2_2 : List (ByteArray × Bool)), Sl 51 [(0, .pointer (some ⟨b_l, 0, none⟩)), (1, .int .u64 h), (7, .pointer (some ⟨b1, 0, none⟩)), (9, .func (.func 69) #[] #[.pointer (some ⟨b3, 0, none⟩), .pointer (some ⟨b1, 0, none⟩)]), (10, .int .i64 i)] a' ∧ (∃ I2, Hf I D w I2 w' [OErlog_Log b_l l_3, BxC b1 3 [.int .i64 gone_2], BxC b3 127 [.map (some b2)], MpC M_127 b2 yb2_2]) ∧ F_rlog_Log_Thin_k2 i rc l_3 gone_2 yb2_2 = some rr) ?_ ?_
   ·rintro a w8 ⟨l_3, gone_2, yb2_2, Z, ⟨I3, H⟩, hF⟩
    unfold F_rlog_Log_Thin_k2 at hF
    try dsimp only at hF
    obtain ⟨hg2, hF⟩ := chk_in hF
    refine f_region Z ?_; clear Z; intro Z
    refine s_runk tTn Z 1 rfl rfl ?_; clear Z a; intro a Z
    refine s_ob Z (v := .int .i64 (i - 1)) rfl rfl (by decide) rfl (Ob_sub rfl rfl rfl (wrI hg2)) ?_; clear Z a; intro a Z
    refine s_runk tTn Z 1 rfl rfl ?_; clear Z a; intro a Z
    refine s_end Z [0, 1, 7, 9, 10] rfl ?_; clear Z; intro Z
    refine p_then ?_
    exact ⟨(i - 1, l_3, gone_2, yb2_2), ⟨Z.sub (ts := [0, 1, 7, 9, 10]) rfl, ⟨I3, (H.sub [(0, false), (0, false), (0, false), (0, false)] rfl).eq rfl⟩⟩, hF⟩
   ·skip
    refine wp_block ?_
    refine wp_seq ?_
    obtain ⟨hg3, hF⟩ := chk_in hF
    refine f_region Z ?_; clear Z; intro Z
    refine s_runk tTn Z 3 rfl rfl ?_; clear Z a; intro a Z
    obtain ⟨⟨v3, v4, css2⟩, H⟩ := H.dOpen 0 rfl
    replace H : Hf I D w I2 w7 [BxC b_l 112 [v3, v4, .int .i64 l_2.stamped], OwC (Rraw 4) 40 v3 css2, LbsC none css2 l_2.l, PmC M_110 v4 l_2.at_, BxC b1 3 [.int .i64 gone], BxC b3 127 [.map (some b2)], MpC M_127 b2 yb2] := H
    refine s_ob Z (v := v3) rfl rfl (by decide) rfl (Ob_load tTn rfl rfl rfl ((H.bx 0 rfl).cell 0 rfl)) ?_; clear Z a; intro a Z
    refine s_runk tTn Z 1 rfl rfl ?_; clear Z a; intro a Z
    refine s_ob Z (v := .pointer (some ⟨blkOf v3, oofOf v3 + (i).toNat * 4, none⟩)) rfl rfl (by decide) rfl (Ob_sidx tTn rfl rfl rfl rfl (slPl (H.dlRep 1 2 rfl rfl) hg3) hg3) ?_; clear Z a; intro a Z
    refine s_runk tTn Z 1 rfl rfl ?_; clear Z a; intro a Z
    refine s_end Z [0, 1, 7, 9, 10, 11] rfl ?_; clear Z; intro Z
    refine p_then (wp_seq (f_region Z ?_)); clear Z; intro Z
    refine s_runk tTn Z 3 rfl rfl ?_; clear Z a; intro a Z
    obtain ⟨u1, hu1, hat1⟩ := H.lbEl 1 2 rfl rfl hg3
    refine s_ob Z (v := .int .u64 ((l_2.l.getD (i).toNat default).ts)) rfl rfl (by decide) rfl (Ob_load tTn rfl rfl rfl (hat1 3 _ rfl)) ?_; clear Z a; intro a Z
    refine s_runk tTn Z 2 rfl rfl ?_; clear Z a; intro a Z
    refine s_end Z [0, 1, 7, 9, 10, 11, 38] rfl ?_; clear Z; intro Z
    refine p_then ?_
    refine f_cond Z rfl (fun hc3 => ?_) (fun hc3 => ?_)
    ·replace hF := ite_t hc3 hF
     obtain ⟨hg4, hF⟩ := chk_in hF
     obtain ⟨d, hx2, hF⟩ := bnd_in hF
     refine f_region Z ?_; clear Z; intro Z
     refine s_runk tTn Z 5 rfl rfl ?_; clear Z a; intro a Z
     obtain ⟨u2, hu2, hat2⟩ := H.lbEl 1 2 rfl rfl hg3
     refine s_ob Z (v := u2) rfl rfl (by decide) rfl (Ob_load tTn rfl rfl rfl (hat2 2 _ rfl)) ?_; clear Z a; intro a Z
     refine s_runk tTn Z 1 rfl rfl ?_; clear Z a; intro a Z
     replace H : Hf I D w I2 w7 [OwC NEOp 74 u2 (((l_2.l.getD (i).toNat default).batch).ops), LbsC (some (i).toNat) css2 l_2.l, BxC b_l 112 [v3, v4, .int .i64 l_2.stamped], OwC (Rraw 4) 40 v3 css2, PmC M_110 v4 l_2.at_, BxC b1 3 [.int .i64 gone], BxC b3 127 [.map (some b2)], MpC M_127 b2 yb2] := H.lbOut 2 rfl (by omega) hg4 hu2
     refine h_call Z H (js := [(0, false), (5, false), (5, false), (4, false)]) rfl (caps := #[]) fn_70_YTn rfl rfl rfl rfl rfl (by decide) rfl rfl (fun D1 hS => have hq := c_thin_DeleteFunc hx2 hS; hq) ?_; clear Z a; intro vv a w9 D2 hr hF2 Z
     obtain ⟨q1, hvv, I4, K⟩ := hr; obtain rfl := hvv.symm
     have H : Hf I D w I4 w9 [BxC b3 127 [.map (some b2)], MpC M_127 b2 d.2.1, BxC b1 3 [.int .i64 d.2.2], OwC NEOp 74 q1 d.1, LbsC (some (i).toNat) css2 l_2.l, BxC b_l 112 [v3, v4, .int .i64 l_2.stamped], OwC (Rraw 4) 40 v3 css2, PmC M_110 v4 l_2.at_] := hF2 K
     clear hF2 K
     refine s_runk tTn Z 3 rfl rfl ?_; clear Z a; intro a Z
     refine h_dlStore tTn Z H (z := i) hg3 hu2 [(6, false), (3, false), (3, false)] rfl rfl rfl rfl rfl rfl rfl ?_; clear H; intro w11 css3 H
     replace H : Hf I D w I4 w11 [LbsC none css3 (l_2.l.set (i).toNat (withOps (l_2.l.getD (i).toNat default) d.1)), OwC (Rraw 4) 40 v3 css3, BxC b3 127 [.map (some b2)], MpC M_127 b2 d.2.1, BxC b1 3 [.int .i64 d.2.2], BxC b_l 112 [v3, v4, .int .i64 l_2.stamped], PmC M_110 v4 l_2.at_] := H
     refine s_end Z [0, 1, 7, 9, 10] rfl ?_; clear Z; intro Z
     refine p_blk ?_
     refine p_then ?_
     replace H : Hf I D w I4 w11 [OErlog_Log b_l ({ l_2 with l := l_2.l.set (i).toNat (withOps (l_2.l.getD (i).toNat default) d.1) } : Erlog_Log), BxC b3 127 [.map (some b2)], MpC M_127 b2 d.2.1, BxC b1 3 [.int .i64 d.2.2]] := H.dShut (v3, v4, css3) [(5, false), (1, false), (0, false), (3, false)] rfl
     exact ⟨({ l_2 with l := l_2.l.set (i).toNat (withOps (l_2.l.getD (i).toNat default) d.1) } : Erlog_Log), d.2.2, d.2.1, Z.sub (ts := [0, 1, 7, 9, 10]) rfl, ⟨I4, (H.sub [(0, false), (2, false), (0, false), (0, false)] rfl).eq rfl⟩, hF⟩
    ·replace hF := ite_f hc3 hF
     refine wp_skip ?_
     refine p_blk ?_
     refine p_then ?_
     replace H : Hf I D w I2 w7 [OErlog_Log b_l l_2, BxC b1 3 [.int .i64 gone], BxC b3 127 [.map (some b2)], MpC M_127 b2 yb2] := H.dShut (v3, v4, css2) [(0, false), (0, false), (0, false), (0, false)] rfl
     exact ⟨l_2, gone, yb2, Z.sub (ts := [0, 1, 7, 9, 10]) rfl, ⟨I2, (H.sub [(0, false), (0, false), (0, false), (0, false)] rfl).eq rfl⟩, hF⟩
  ·replace hF := ite_f hc2 hF
   refine wp_exit ?_
   refine p_then_x ?_
   refine p_then_x ?_
   refine f_exit_here ?_
   refine p_then (wp_seq (f_region Z ?_)); clear Z; intro Z
   refine s_ob Z (v := .int .i64 gone) rfl rfl (by decide) rfl (Ob_load tTn rfl rfl rfl ((H.bx 1 rfl).cell 0 rfl)) ?_; clear Z a; intro a Z
   refine s_runk tTn Z 1 rfl rfl ?_; clear Z a; intro a Z
   refine s_end Z [6] rfl ?_; clear Z; intro Z
   refine p_then (wp_ret ?_)
   obtain rfl := some_in hF
   exact f_ret Z (run_results1 rfl Z rfl) ⟨rfl, I2, (H.sub [(0, false)] rfl).eq rfl⟩

end Go.Proofs.Ytglfajjcgbfehaa
