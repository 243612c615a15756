/- Small texts in one. -/
import Derived.Test.YtglfajjcgbfehaaGreatYMv2
namespace Go.Proofs.YtglfajjcgbfehaaGreat
open Go.RowKit
def tCL : TabL := ⟨[(31744, 0), (31745, 1), (111616, 0), (111617, 1)], [], [], [(28, (109, 2))], [(3, (1, false)), (28, (1, false)), (31, (3, true)), (109, (2, true))]⟩

def tC : Tab Tryz.prog := ⟨tCL, by kernel_rfl⟩

theorem fn_86_YConf : IsFn Tryz.prog 86 := ⟨_, Tryz.func86, by kernel_rfl, by kernel_rfl⟩

theorem fn_100_YConf : IsFn Tryz.prog 100 := ⟨_, Tryz.func100, by kernel_rfl, by kernel_rfl⟩

theorem fn_101_YConf : IsFn Tryz.prog 101 := ⟨_, Tryz.func101, by kernel_rfl, by kernel_rfl⟩

theorem fn_105_YConf : IsFn Tryz.prog 105 := ⟨_, Tryz.func105, by kernel_rfl, by kernel_rfl⟩

def F_ref07_Check_l2 (c : EConf) (i : Int) (rc : Int → Option Int) (rc_2 : Int → Option Int) (sg : Int) : Option Int := match sg with | k => if (decide (k < i)) = true then (chk ((0 : Int) ≤ k ∧ k < (c.members.length : Int)) (if (((c.members.getD (k).toNat default).id) == ((c.members.getD (i).toNat default).id)) = true then (some 18) else (chk (inI (k + 1)) (rc_2 (k + 1))))) else (chk (inI (i + 1)) (rc (i + 1)))

def F_ref07_Check_l1 (c : EConf) (rc : Int → Option Int) (sg : Int) : Option Int := match sg with | i => if (decide (i < (c.members.length : Int))) = true then (chk ((0 : Int) ≤ i ∧ i < (c.members.length : Int)) (if ((decide ((c.members.getD (i).toNat default).id < 0)) || (decide ((c.members.getD (i).toNat default).id ≥ 4))) = true then (some 1) else (if ((decide ((c.members.getD (i).toNat default).serial < 1)) || (decide ((c.members.getD (i).toNat default).serial > 1073741824))) = true then (some 5) else (iter (F_ref07_Check_l2 c i rc) FU 0)))) else (some 0)

def F_ref07_Check (c : EConf) : Option Int := if ((decide (c.epoch < 1)) || (decide (c.epoch > 1073741824))) = true then (some 5) else (if ((c.members.length : Int) == 0) = true then (some 7) else (if (decide ((c.members.length : Int) > 4)) = true then (some 6) else (iter (F_ref07_Check_l1 c) FU 0)))

set_option maxHeartbeats 1000000 in
theorem c_ref07_Check {I D : Dm} {c : EConf} {v1_c : Value} {w : World} {rr : Int} (hF : F_ref07_Check c = some rr) (H : St I D w [SlC NEMember v1_c c.members]) :
  Calls Tryz.prog 66 #[.agg #[vI c.epoch, v1_c, vU c.floor]] w (Ret fun vv w' => vv = vI rr ∧ ∃ I', Hf I D w I' w' []) := by
 replace H := H.hf
 unfold F_ref07_Check at hF
 refine f_enter 64 Tryz.func66 rfl rfl (Nat.le_of_ble_eq_true rfl) fun a Z => ?_
 replace Z := Z.sub (ts := [0]) rfl
 refine sR Z fun Z => ?_
 refine hB Z H [vI c.epoch, v1_c, vU c.floor] rfl rfl rfl rfl fun a w1 b1 H Z => ?_
 refine s_runk tC Z 1 rfl rfl fun a Z => ?_
 refine s_end Z [1, 2] rfl fun Z => ?_
 refine p_then (wp_seq ?_)
 refine sR Z fun Z => ?_
 refine s_runk tC Z 1 rfl rfl fun a Z => ?_
 refine sO Z _ rfl (oL tC rfl rfl (H.bc 0 0 rfl rfl)) fun a Z => ?_
 refine s_runk tC Z 2 rfl rfl fun a Z => ?_
 refine gO Z (pp b1 0) rfl (wantB_f _) (.n 1 rfl .z) (fun hp => Ob_c tC rfl) fun a Z => ?_
 refine gO Z _ rfl (wantB_f _) (.c 10 rfl id .z) (fun hp => oL tC rfl rfl (H.bc 0 0 rfl rfl)) fun a Z => ?_
 refine gO Z (vT (decide (c.epoch > 1073741824))) rfl (wantB_f _) (.c 11 rfl id .z) (fun hp => Ob_c tC rfl) fun a Z => ?_
 refine sO Z (vT ((decide (c.epoch < 1)) || (decide (c.epoch > 1073741824)))) rfl (Ob_pick rfl rfl rfl rfl (pick_or _ _)) fun a Z => ?_
 refine s_end Z [1, 2, 13] rfl fun Z => ?_
 refine p_then ?_
 refine f_cond Z rfl (fun hc1 => ?_) (fun hc1 => ?_)
 ·replace hF := ite_t hc1 hF
  refine sR Z fun Z => ?_
  refine s_runk tC Z 1 rfl rfl fun a Z => ?_
  refine s_end Z [1, 2] rfl fun Z => ?_
  refine p_then (wp_ret ?_)
  refine p_then_r ?_
  obtain rfl := some_in hF
  exact f_ret Z (run_results1 rfl Z rfl) ⟨rfl, I, (H.sub [] rfl).eq rfl⟩
 ·replace hF := ite_f hc1 hF
  refine wp_skip ?_
  refine p_then (wp_seq ?_)
  refine sR Z fun Z => ?_
  refine s_runk tC Z 1 rfl rfl fun a Z => ?_
  refine sO Z _ rfl (oL tC rfl rfl (H.bc 0 1 rfl rfl)) fun a Z => ?_
  refine sO Z (vI (ln c.members)) rfl (Ob_slen tC rfl rfl rfl (H.slshape 1 rfl)) fun a Z => ?_
  refine s_runk tC Z 1 rfl rfl fun a Z => ?_
  refine s_end Z [1, 2, 17] rfl fun Z => ?_
  refine p_then ?_
  refine f_cond Z rfl (fun hc2 => ?_) (fun hc2 => ?_)
  ·replace hF := ite_t hc2 hF
   refine sR Z fun Z => ?_
   refine s_runk tC Z 1 rfl rfl fun a Z => ?_
   refine s_end Z [1, 2] rfl fun Z => ?_
   refine p_then (wp_ret ?_)
   refine p_then_r ?_
   obtain rfl := some_in hF
   exact f_ret Z (run_results1 rfl Z rfl) ⟨rfl, I, (H.sub [] rfl).eq rfl⟩
  ·replace hF := ite_f hc2 hF
   refine wp_skip ?_
   refine p_then (wp_seq ?_)
   refine sR Z fun Z => ?_
   refine s_runk tC Z 1 rfl rfl fun a Z => ?_
   refine sO Z _ rfl (oL tC rfl rfl (H.bc 0 1 rfl rfl)) fun a Z => ?_
   refine sO Z (vI (ln c.members)) rfl (Ob_slen tC rfl rfl rfl (H.slshape 1 rfl)) fun a Z => ?_
   refine s_runk tC Z 1 rfl rfl fun a Z => ?_
   refine s_end Z [1, 2, 21] rfl fun Z => ?_
   refine p_then ?_
   refine f_cond Z rfl (fun hc3 => ?_) (fun hc3 => ?_)
   ·replace hF := ite_t hc3 hF
    refine sR Z fun Z => ?_
    refine s_runk tC Z 1 rfl rfl fun a Z => ?_
    refine s_end Z [1, 2] rfl fun Z => ?_
    refine p_then (wp_ret ?_)
    refine p_then_r ?_
    obtain rfl := some_in hF
    exact f_ret Z (run_results1 rfl Z rfl) ⟨rfl, I, (H.sub [] rfl).eq rfl⟩
   ·replace hF := ite_f hc3 hF
    refine wp_skip ?_
    refine p_then (wp_seq ?_)
    refine sR Z fun Z => ?_
    refine s_runk tC Z 1 rfl rfl fun a Z => ?_
    refine s_end Z [1, 2, 3] rfl fun Z => ?_
    refine p_then (wp_block ?_)
    refine f_iter hF (fun sg a' w' => match sg with | i => Sl 64 [(1, pp b1 0), (2, vI 0), (3, vI i)] a' ∧ ∃ I2, Hf I D w I2 w' [BxC b1 31 [vI c.epoch, v1_c, vU c.floor], SlC NEMember v1_c c.members]) ⟨Z.sub (ts := [1, 2, 3]) rfl, ⟨I, (H.sub [(0, false), (0, true)] rfl).eq rfl⟩⟩ ?_
    rintro rc i a w2 ⟨Z, I1, H⟩ hF
    unfold F_ref07_Check_l1 at hF
    try dsimp only at hF
    refine wp_seq ?_
    refine sR Z fun Z => ?_
    refine s_runk tC Z 2 rfl rfl fun a Z => ?_
    refine sO Z _ rfl (oL tC rfl rfl (H.bc 0 1 rfl rfl)) fun a Z => ?_
    refine sO Z (vI (ln c.members)) rfl (Ob_slen tC rfl rfl rfl (H.slshape 1 rfl)) fun a Z => ?_
    refine s_runk tC Z 1 rfl rfl fun a Z => ?_
    refine s_end Z [1, 2, 3, 22, 23, 24, 25, 26] rfl fun Z => ?_
    refine p_then ?_
    refine f_cond Z rfl (fun hc4 => ?_) (fun hc4 => ?_)
    ·replace hF := ite_t hc4 hF
     refine wp_skip ?_
     refine p_then (wp_seq ?_)
     refine wp_block ?_
     refine wp_seq ?_
     obtain ⟨hg1, hF⟩ := chk_in hF
     refine f_region Z fun Z => ?_
     refine s_runk tC Z 1 rfl rfl fun a Z => ?_
     refine sO Z _ rfl (oL tC rfl rfl (H.bc 0 1 rfl rfl)) fun a Z => ?_
     refine s_runk tC Z 1 rfl rfl fun a Z => ?_
     refine sO Z (.pointer (some ⟨blkOf v1_c, oofOf v1_c + (i).toNat * 2, none⟩)) rfl (Ob_sidx tC rfl rfl rfl rfl (slPl (H.sl 1 rfl) hg1) hg1) fun a Z => ?_
     refine sO Z (.agg #[vI ((gi c.members i).id), vI ((gi c.members i).serial)]) rfl (oA tC rfl rfl ((slFl (H.sl 1 rfl) hg1).part 0 rfl)) fun a Z => ?_
     refine hA Z H [vI 0, vI 0] rfl rfl (by kernel_rfl) fun a w3 b2 H Z => ?_
     refine hT tC Z H 0 rfl rfl rfl rfl rfl (onR 2 rfl one_nil) (Nat.le_of_ble_eq_true rfl) rfl fun w4 H => ?_
     dsimp only [List.eraseIdx] at H
     refine s_end Z [1, 2, 3, 22, 23, 24, 25, 26, 29, 30, 31, 32, 33, 4] rfl fun Z => ?_
     refine p_then (wp_seq ?_)
     refine sR Z fun Z => ?_
     refine s_runk tC Z 1 rfl rfl fun a Z => ?_
     refine sO Z _ rfl (oL tC rfl rfl (H.bc 0 0 rfl rfl)) fun a Z => ?_
     refine s_runk tC Z 2 rfl rfl fun a Z => ?_
     refine gO Z (pp b2 0) rfl (wantB_f _) (.n 4 rfl .z) (fun hp => Ob_c tC rfl) fun a Z => ?_
     refine gO Z _ rfl (wantB_f _) (.c 38 rfl id .z) (fun hp => oL tC rfl rfl (H.bc 0 0 rfl rfl)) fun a Z => ?_
     refine gO Z (vT (decide ((gi c.members i).id ≥ 4))) rfl (wantB_f _) (.c 39 rfl id .z) (fun hp => Ob_c tC rfl) fun a Z => ?_
     refine sO Z (vT ((decide ((gi c.members i).id < 0)) || (decide ((gi c.members i).id ≥ 4)))) rfl (Ob_pick rfl rfl rfl rfl (pick_or _ _)) fun a Z => ?_
     refine s_end Z [1, 2, 3, 22, 23, 24, 25, 26, 29, 30, 31, 32, 33, 4, 34, 35, 36, 37, 41] rfl fun Z => ?_
     refine p_then ?_
     refine f_cond Z rfl (fun hc5 => ?_) (fun hc5 => ?_)
     ·replace hF := ite_t hc5 hF
      refine sR Z fun Z => ?_
      refine s_runk tC Z 1 rfl rfl fun a Z => ?_
      refine s_end Z [1, 2, 3, 22, 23, 24, 25, 26, 29, 30, 31, 32, 33, 4, 34, 35, 36, 37, 41] rfl fun Z => ?_
      refine p_then (wp_ret ?_)
      refine p_then_r ?_
      refine p_blk_r ?_
      refine p_then_r ?_
      refine p_then_r ?_
      refine p_blk_r ?_
      refine p_then_r ?_
      obtain rfl := some_in hF
      exact f_ret Z (run_results1 rfl Z rfl) ⟨rfl, I1, (H.sub [] rfl).eq rfl⟩
     ·replace hF := ite_f hc5 hF
      refine wp_skip ?_
      refine p_then (wp_seq ?_)
      refine sR Z fun Z => ?_
      refine s_runk tC Z 1 rfl rfl fun a Z => ?_
      refine sO Z _ rfl (oL tC rfl rfl (H.bc 0 1 rfl rfl)) fun a Z => ?_
      refine s_runk tC Z 2 rfl rfl fun a Z => ?_
      refine gO Z (pp b2 1) rfl (wantB_f _) (.n 4 rfl .z) (fun hp => Ob_c tC rfl) fun a Z => ?_
      refine gO Z _ rfl (wantB_f _) (.c 46 rfl id .z) (fun hp => oL tC rfl rfl (H.bc 0 1 rfl rfl)) fun a Z => ?_
      refine gO Z (vT (decide ((gi c.members i).serial > 1073741824))) rfl (wantB_f _) (.c 47 rfl id .z) (fun hp => Ob_c tC rfl) fun a Z => ?_
      refine sO Z (vT ((decide ((gi c.members i).serial < 1)) || (decide ((gi c.members i).serial > 1073741824)))) rfl (Ob_pick rfl rfl rfl rfl (pick_or _ _)) fun a Z => ?_
      refine s_end Z [1, 2, 3, 22, 23, 24, 25, 26, 29, 30, 31, 32, 33, 4, 34, 35, 36, 37, 41, 42, 43, 44, 45, 49] rfl fun Z => ?_
      refine p_then ?_
      refine f_cond Z rfl (fun hc6 => ?_) (fun hc6 => ?_)
      ·replace hF := ite_t hc6 hF
       refine sR Z fun Z => ?_
       refine s_runk tC Z 1 rfl rfl fun a Z => ?_
       refine s_end Z [1, 2, 3, 22, 23, 24, 25, 26, 29, 30, 31, 32, 33, 4, 34, 35, 36, 37, 41, 42, 43, 44, 45, 49] rfl fun Z => ?_
       refine p_then (wp_ret ?_)
       refine p_then_r ?_
       refine p_blk_r ?_
       refine p_then_r ?_
       refine p_then_r ?_
       refine p_blk_r ?_
       refine p_then_r ?_
       obtain rfl := some_in hF
       exact f_ret Z (run_results1 rfl Z rfl) ⟨rfl, I1, (H.sub [] rfl).eq rfl⟩
      ·replace hF := ite_f hc6 hF
       refine wp_skip ?_
       refine pR Z fun Z => ?_
       refine s_runk tC Z 1 rfl rfl fun a Z => ?_
       refine s_end Z [1, 2, 3, 22, 23, 24, 25, 26, 29, 30, 31, 32, 33, 4, 34, 35, 36, 37, 41, 42, 43, 44, 45, 49, 5] rfl fun Z => ?_
       refine p_then (wp_block ?_)
       refine f_iter hF (fun sg a' w' => match sg with | k => Sl 64 [(1, pp b1 0), (2, vI 0), (3, vI i), (4, pp b2 0), (5, vI k), (22, vI i), (23, pp b1 1), (24, v1_c), (25, vI (ln c.members)), (26, vT (decide (i < (ln c.members)))), (29, pp b1 1), (30, v1_c), (31, vI i), (32, .pointer (some ⟨blkOf v1_c, oofOf v1_c + (i).toNat * 2, none⟩)), (33, .agg #[vI ((gi c.members i).id), vI ((gi c.members i).serial)]), (34, pp b2 0), (35, vI ((gi c.members i).id)), (36, vT (decide ((gi c.members i).id < 0))), (37, vT (decide ((gi c.members i).id < 0))), (41, vT ((decide ((gi c.members i).id < 0)) || (decide ((gi c.members i).id ≥ 4)))), (42, pp b2 1), (43, vI ((gi c.members i).serial)), (44, vT (decide ((gi c.members i).serial < 1))), (45, vT (decide ((gi c.members i).serial < 1))), (49, vT ((decide ((gi c.members i).serial < 1)) || (decide ((gi c.members i).serial > 1073741824))))] a' ∧ ∃ I2, Hf I D w I2 w' [BxC b1 31 [vI c.epoch, v1_c, vU c.floor], BxC b2 109 [vI ((gi c.members i).id), vI ((gi c.members i).serial)], SlC NEMember v1_c c.members]) ⟨Z.sub (ts := [1, 2, 3, 4, 5, 22, 23, 24, 25, 26, 29, 30, 31, 32, 33, 34, 35, 36, 37, 41, 42, 43, 44, 45, 49]) rfl, ⟨I1, (H.sub [(1, false), (0, false), (0, true)] rfl).eq rfl⟩⟩ ?_
       rintro rc_2 k a w5 ⟨Z, I2, H⟩ hF
       unfold F_ref07_Check_l2 at hF
       try dsimp only at hF
       refine wp_seq ?_
       refine sR Z fun Z => ?_
       refine s_runk tC Z 3 rfl rfl fun a Z => ?_
       refine s_end Z [1, 2, 3, 4, 5, 22, 23, 24, 25, 26, 29, 30, 31, 32, 33, 34, 35, 36, 37, 41, 42, 43, 44, 45, 49, 50, 51, 52] rfl fun Z => ?_
       refine p_then ?_
       refine f_cond Z rfl (fun hc7 => ?_) (fun hc7 => ?_)
       ·replace hF := ite_t hc7 hF
        refine wp_skip ?_
        refine p_then (wp_seq ?_)
        refine wp_block ?_
        refine wp_seq ?_
        obtain ⟨hg2, hF⟩ := chk_in hF
        refine f_quietd (by kernel_rfl) (by kernel_rfl) Z fun Z => ?_
        refine q_runk tC Z 1 rfl rfl fun a Z => ?_
        refine qO Z _ rfl (fun _ hw => oL tC rfl rfl ((H.blw hw).bc 0 1 rfl rfl)) fun a Z => ?_
        refine q_runk tC Z 1 rfl rfl fun a Z => ?_
        refine qO Z (.pointer (some ⟨blkOf v1_c, oofOf v1_c + (k).toNat * 2, none⟩)) rfl (fun _ hw => Ob_sidx tC rfl rfl rfl rfl (slPl ((H.blw hw).sl 2 rfl) hg2) hg2) fun a Z => ?_
        refine q_runk tC Z 1 rfl rfl fun a Z => ?_
        refine qO Z (vI ((gi c.members k).id)) rfl (fun _ hw => oL tC rfl rfl ((slFl ((H.blw hw).sl 2 rfl) hg2) 0 _ rfl)) fun a Z => ?_
        refine q_runk tC Z 1 rfl rfl fun a Z => ?_
        refine qO Z _ rfl (fun _ hw => oL tC rfl rfl ((H.blw hw).bc 1 0 rfl rfl)) fun a Z => ?_
        refine q_runk tC Z 1 rfl rfl fun a Z => ?_
        refine q_end Z [1, 2, 3, 4, 5, 22, 23, 24, 25, 26, 29, 30, 31, 32, 33, 34, 35, 36, 37, 41, 42, 43, 44, 45, 49, 50, 51, 52, 55, 56, 57, 58, 59, 60, 61, 62, 63] rfl fun w6 hb Z => ?_
        replace H := H.blw hb
        clear hb
        refine p_then ?_
        refine f_cond Z rfl (fun hc8 => ?_) (fun hc8 => ?_)
        ·replace hF := ite_t hc8 hF
         refine sR Z fun Z => ?_
         refine s_runk tC Z 1 rfl rfl fun a Z => ?_
         refine s_end Z [1, 2, 3, 4, 5, 22, 23, 24, 25, 26, 29, 30, 31, 32, 33, 34, 35, 36, 37, 41, 42, 43, 44, 45, 49, 50, 51, 52, 55, 56, 57, 58, 59, 60, 61, 62, 63] rfl fun Z => ?_
         refine p_then (wp_ret ?_)
         refine p_blk_r ?_
         refine p_then_r ?_
         refine p_then_r ?_
         refine p_blk_r ?_
         refine p_blk_r ?_
         refine p_then_r ?_
         refine p_then_r ?_
         refine p_blk_r ?_
         refine p_then_r ?_
         obtain rfl := some_in hF
         exact f_ret Z (run_results1 rfl Z rfl) ⟨rfl, I2, (H.sub [] rfl).eq rfl⟩
        ·replace hF := ite_f hc8 hF
         refine wp_skip ?_
         refine p_blk ?_
         refine p_then ?_
         obtain ⟨hg3, hF⟩ := chk_in hF
         refine f_region Z fun Z => ?_
         refine s_runk tC Z 1 rfl rfl fun a Z => ?_
         refine sO Z (vI (k + 1)) rfl (Ob_add rfl rfl rfl (wrI hg3)) fun a Z => ?_
         refine s_runk tC Z 1 rfl rfl fun a Z => ?_
         refine s_end Z [1, 2, 3, 4, 5, 22, 23, 24, 25, 26, 29, 30, 31, 32, 33, 34, 35, 36, 37, 41, 42, 43, 44, 45, 49, 50, 51, 52, 55, 56, 57, 58, 59, 60, 61, 62, 63, 53, 54] rfl fun Z => ?_
         refine p_then ?_
         exact ⟨(k + 1), ⟨Z.sub (ts := [1, 2, 3, 4, 5, 22, 23, 24, 25, 26, 29, 30, 31, 32, 33, 34, 35, 36, 37, 41, 42, 43, 44, 45, 49]) rfl, ⟨I2, (H.sub [(0, false), (0, false), (0, true)] rfl).eq rfl⟩⟩, hF⟩
       ·replace hF := ite_f hc7 hF
        refine wp_exit ?_
        refine p_then_x ?_
        refine p_then_x ?_
        refine f_exit_here ?_
        refine p_blk ?_
        refine p_then ?_
        obtain ⟨hg4, hF⟩ := chk_in hF
        refine f_region Z fun Z => ?_
        refine s_runk tC Z 1 rfl rfl fun a Z => ?_
        refine sO Z (vI (i + 1)) rfl (Ob_add rfl rfl rfl (wrI hg4)) fun a Z => ?_
        refine s_runk tC Z 1 rfl rfl fun a Z => ?_
        refine s_end Z [1, 2, 3, 4, 5, 22, 23, 24, 25, 26, 29, 30, 31, 32, 33, 34, 35, 36, 37, 41, 42, 43, 44, 45, 49, 50, 51, 52, 27, 28] rfl fun Z => ?_
        refine p_then ?_
        exact ⟨(i + 1), ⟨Z.sub (ts := [1, 2, 3]) rfl, ⟨I2, (H.sub [(0, false), (1, true)] rfl).eq rfl⟩⟩, hF⟩
    ·replace hF := ite_f hc4 hF
     refine wp_exit ?_
     refine p_then_x ?_
     refine p_then_x ?_
     refine f_exit_here ?_
     refine pR Z fun Z => ?_
     refine s_runk tC Z 1 rfl rfl fun a Z => ?_
     refine s_end Z [2] rfl fun Z => ?_
     refine p_then (wp_ret ?_)
     obtain rfl := some_in hF
     exact f_ret Z (run_results1 rfl Z rfl) ⟨rfl, I1, (H.sub [] rfl).eq rfl⟩

def F_conf_one_1 (x : EMember) (p1 : EMember) : Option Bool := some (x.id == p1.id)

set_option maxHeartbeats 1000000 in
theorem c_conf_one_1 {I D : Dm} {x : EMember} {b_p1 : Nat} {p1 : EMember} {w : World} {rr : Bool} (hF : F_conf_one_1 x p1 = some rr) (H : St I D w [BxC b_p1 109 [vI p1.id, vI p1.serial]]) :
  Calls Tryz.prog 100 #[.agg #[vI x.id, vI x.serial], pp b_p1 0] w (Ret fun vv w' => vv = vT rr ∧ ∃ I', Hf I D w I' w' [BxC b_p1 109 [vI p1.id, vI p1.serial]]) := by
 replace H := H.hf
 unfold F_conf_one_1 at hF
 refine f_enter 9 Tryz.func100 rfl rfl (Nat.le_of_ble_eq_true rfl) fun a Z => ?_
 replace Z := Z.sub (ts := [0, 1]) rfl
 refine sR Z fun Z => ?_
 refine hB Z H [vI x.id, vI x.serial] rfl rfl rfl rfl fun a w1 b1 H Z => ?_
 refine s_runk tC Z 1 rfl rfl fun a Z => ?_
 refine s_end Z [1, 2, 3] rfl fun Z => ?_
 refine pR Z fun Z => ?_
 refine s_runk tC Z 1 rfl rfl fun a Z => ?_
 refine sO Z _ rfl (oL tC rfl rfl (H.bc 0 0 rfl rfl)) fun a Z => ?_
 refine s_runk tC Z 1 rfl rfl fun a Z => ?_
 refine sO Z _ rfl (oL tC rfl rfl (H.bc 1 0 rfl rfl)) fun a Z => ?_
 refine s_runk tC Z 2 rfl rfl fun a Z => ?_
 refine s_end Z [3] rfl fun Z => ?_
 refine p_then (wp_ret ?_)
 obtain rfl := some_in hF
 exact f_ret Z (run_results1 rfl Z rfl) ⟨rfl, I, (H.sub [(1, false)] rfl).eq rfl⟩

def F_slices_IndexFunc_api_Member_api_Member__conf_one_1_l1 (s0 : List EMember) (p1 : EMember) (rc : Int → Option Int) (sg : Int) : Option Int := match sg with | x => if (decide (x < (s0.length : Int))) = true then (chk ((0 : Int) ≤ x ∧ x < (s0.length : Int)) ((F_conf_one_1 (s0.getD (x).toNat default) p1).bind fun x0 => (if (x0) = true then (some x) else (chk (inI (x + 1)) (rc (x + 1)))))) else (some (-1))

def F_slices_IndexFunc_api_Member_api_Member__conf_one_1 (s0 : List EMember) (p1 : EMember) : Option Int := iter (F_slices_IndexFunc_api_Member_api_Member__conf_one_1_l1 s0 p1) FU 0

set_option maxHeartbeats 1000000 in
theorem c_slices_IndexFunc_api_Member_api_Member__conf_one_1 {I D : Dm} {s0 : List EMember} {v1_s0 : Value} {b_p1 : Nat} {p1 : EMember} {w : World} {rr : Int} (hF : F_slices_IndexFunc_api_Member_api_Member__conf_one_1 s0 p1 = some rr) (H : St I D w [SlC NEMember v1_s0 s0, BxC b_p1 109 [vI p1.id, vI p1.serial]]) :
  Calls Tryz.prog 105 #[v1_s0, .func (.func 100) #[] #[pp b_p1 0]] w (Ret fun vv w' => vv = vI rr ∧ ∃ I', Hf I D w I' w' [BxC b_p1 109 [vI p1.id, vI p1.serial]]) := by
 replace H := H.hf
 unfold F_slices_IndexFunc_api_Member_api_Member__conf_one_1 at hF
 refine f_enter 19 Tryz.func105 rfl rfl (Nat.le_of_ble_eq_true rfl) fun a Z => ?_
 replace Z := Z.sub (ts := [0, 1]) rfl
 refine sR Z fun Z => ?_
 refine s_runk tC Z 1 rfl rfl fun a Z => ?_
 refine s_end Z [0, 1, 4] rfl fun Z => ?_
 refine p_then (wp_seq ?_)
 refine sR Z fun Z => ?_
 refine s_runk tC Z 1 rfl rfl fun a Z => ?_
 refine sO Z (vI (ln s0)) rfl (Ob_slen tC rfl rfl rfl (H.slshape 0 rfl)) fun a Z => ?_
 refine s_runk tC Z 1 rfl rfl fun a Z => ?_
 refine s_end Z [0, 1, 4, 7, 8] rfl fun Z => ?_
 refine p_then (wp_block ?_)
 refine f_iter hF (fun sg a' w' => match sg with | x => Sl 19 [(0, v1_s0), (1, .func (.func 100) #[] #[pp b_p1 0]), (4, vI 0), (7, vI (ln s0)), (8, vI x)] a' ∧ ∃ I2, Hf I D w I2 w' [BxC b_p1 109 [vI p1.id, vI p1.serial], SlC NEMember v1_s0 s0]) ⟨Z.sub (ts := [0, 1, 4, 7, 8]) rfl, ⟨I, (H.sub [(1, false), (0, true)] rfl).eq rfl⟩⟩ ?_
 rintro rc x a w1 ⟨Z, I1, H⟩ hF
 unfold F_slices_IndexFunc_api_Member_api_Member__conf_one_1_l1 at hF
 try dsimp only at hF
 refine sR Z fun Z => ?_
 refine s_runk tC Z 1 rfl rfl fun a Z => ?_
 refine s_end Z [0, 1, 4, 7, 8, 9] rfl fun Z => ?_
 refine p_then (wp_seq ?_)
 refine f_cond Z rfl (fun hc1 => ?_) (fun hc1 => ?_)
 ·replace hF := ite_t hc1 hF
  refine wp_skip ?_
  refine p_then (wp_seq ?_)
  refine wp_block ?_
  refine sR Z fun Z => ?_
  refine s_runk tC Z 2 rfl rfl fun a Z => ?_
  refine s_end Z [0, 1, 4, 7, 8, 9, 10, 5] rfl fun Z => ?_
  refine p_then (wp_seq ?_)
  obtain ⟨hg1, hF⟩ := chk_in hF
  obtain ⟨x0, hx1, hF⟩ := bnd_in hF
  refine f_region Z fun Z => ?_
  refine s_runk tC Z 3 rfl rfl fun a Z => ?_
  refine sO Z (.pointer (some ⟨blkOf v1_s0, oofOf v1_s0 + (x).toNat * 2, none⟩)) rfl (Ob_sidx tC rfl rfl rfl rfl (slPl (H.sl 1 rfl) hg1) hg1) fun a Z => ?_
  refine sO Z (.agg #[vI ((gi s0 x).id), vI ((gi s0 x).serial)]) rfl (oA tC rfl rfl ((slFl (H.sl 1 rfl) hg1).part 0 rfl)) fun a Z => ?_
  refine hC Z H [(0, false)] rfl #[pp b_p1 0] fn_100_YConf rfl rfl (fun D h => have q := c_conf_one_1 hx1 h; q) fun vv a w2 D2 hr hF2 Z => ?_
  obtain ⟨rfl, I2, K⟩ := hr
  have H := (hF2 K).nf rfl
  refine s_end Z [0, 1, 4, 7, 8, 9, 10, 5, 11, 12, 13, 14, 15, 16] rfl fun Z => ?_
  refine p_then ?_
  refine f_cond Z rfl (fun hc2 => ?_) (fun hc2 => ?_)
  ·replace hF := ite_t hc2 hF
   refine sR Z fun Z => ?_
   refine s_runk tC Z 2 rfl rfl fun a Z => ?_
   refine s_end Z [0, 1, 4, 7, 8, 9, 10, 5, 11, 12, 13, 14, 15, 16, 17] rfl fun Z => ?_
   refine p_then (wp_ret ?_)
   refine p_blk_r ?_
   refine p_then_r ?_
   refine p_then_r ?_
   refine p_blk_r ?_
   refine p_then_r ?_
   obtain rfl := some_in hF
   exact f_ret Z (run_results1 rfl Z rfl) ⟨rfl, I2, (H.sub [(0, false)] rfl).eq rfl⟩
  ·replace hF := ite_f hc2 hF
   refine wp_skip ?_
   refine p_blk ?_
   refine p_then ?_
   obtain ⟨hg2, hF⟩ := chk_in hF
   refine f_region Z fun Z => ?_
   refine sO Z (vI (x + 1)) rfl (Ob_add rfl rfl rfl (wrI hg2)) fun a Z => ?_
   refine s_runk tC Z 1 rfl rfl fun a Z => ?_
   refine s_end Z [0, 1, 4, 7, 8, 9, 10, 5, 11, 12, 13, 14, 15, 16, 18] rfl fun Z => ?_
   refine p_then ?_
   exact ⟨(x + 1), ⟨Z.sub (ts := [0, 1, 4, 7, 8]) rfl, ⟨I2, (H.sub [(0, false), (0, true)] rfl).eq rfl⟩⟩, hF⟩
 ·replace hF := ite_f hc1 hF
  refine wp_exit ?_
  refine p_then_x ?_
  refine p_then_x ?_
  refine f_exit_here ?_
  refine pR Z fun Z => ?_
  refine s_runk tC Z 1 rfl rfl fun a Z => ?_
  refine s_end Z [4] rfl fun Z => ?_
  refine p_then (wp_ret ?_)
  obtain rfl := some_in hF
  exact f_ret Z (run_results1 rfl Z rfl) ⟨rfl, I1, (H.sub [(0, false)] rfl).eq rfl⟩

def F_slices_ContainsFunc_api_Member_api_Member__conf_one_1 (s0 : List EMember) (p1 : EMember) : Option Bool := (F_slices_IndexFunc_api_Member_api_Member__conf_one_1 s0 p1).bind fun x0 => (some (decide (x0 ≥ 0)))

set_option maxHeartbeats 1000000 in
theorem c_slices_ContainsFunc_api_Member_api_Member__conf_one_1 {I D : Dm} {s0 : List EMember} {v1_s0 : Value} {b_p1 : Nat} {p1 : EMember} {w : World} {rr : Bool} (hF : F_slices_ContainsFunc_api_Member_api_Member__conf_one_1 s0 p1 = some rr) (H : St I D w [SlC NEMember v1_s0 s0, BxC b_p1 109 [vI p1.id, vI p1.serial]]) :
  Calls Tryz.prog 101 #[v1_s0, .func (.func 100) #[] #[pp b_p1 0]] w (Ret fun vv w' => vv = vT rr ∧ ∃ I', Hf I D w I' w' [BxC b_p1 109 [vI p1.id, vI p1.serial]]) := by
 replace H := H.hf
 unfold F_slices_ContainsFunc_api_Member_api_Member__conf_one_1 at hF
 refine f_enter 9 Tryz.func101 rfl rfl (Nat.le_of_ble_eq_true rfl) fun a Z => ?_
 replace Z := Z.sub (ts := [0, 1]) rfl
 refine sR Z fun Z => ?_
 refine s_runk tC Z 1 rfl rfl fun a Z => ?_
 refine s_end Z [0, 1, 4] rfl fun Z => ?_
 refine p_then (wp_seq ?_)
 obtain ⟨x0, hx1, hF⟩ := bnd_in hF
 refine f_region Z fun Z => ?_
 refine s_runk tC Z 2 rfl rfl fun a Z => ?_
 refine hC Z H [(0, true), (1, false)] rfl #[] fn_105_YConf rfl rfl (fun D h => have q := c_slices_IndexFunc_api_Member_api_Member__conf_one_1 hx1 h; q) fun vv a w1 D2 hr hF2 Z => ?_
 obtain ⟨rfl, I1, K⟩ := hr
 have H := (hF2 K).nf rfl
 refine s_runk tC Z 2 rfl rfl fun a Z => ?_
 refine s_end Z [4] rfl fun Z => ?_
 refine p_then (wp_ret ?_)
 obtain rfl := some_in hF
 exact f_ret Z (run_results1 rfl Z rfl) ⟨rfl, I1, (H.sub [(0, false)] rfl).eq rfl⟩

def F_conf_one (m : EMember) (ahead : List EMember) : Option Int := if ((decide (m.id < 0)) || (decide (m.id ≥ 4))) = true then (some 1) else (if ((decide (m.serial < 1)) || (decide (m.serial > 1073741824))) = true then (some 5) else ((F_slices_ContainsFunc_api_Member_api_Member__conf_one_1 ahead m).bind fun x0 => (if (x0) = true then (some 18) else (some 0))))

set_option maxHeartbeats 1000000 in
theorem c_conf_one {I D : Dm} {m : EMember} {ahead : List EMember} {v1_ahead : Value} {w : World} {rr : Int} (hF : F_conf_one m ahead = some rr) (H : St I D w [SlC NEMember v1_ahead ahead]) :
  Calls Tryz.prog 86 #[.agg #[vI m.id, vI m.serial], v1_ahead] w (Ret fun vv w' => vv = vI rr ∧ ∃ I', Hf I D w I' w' []) := by
 replace H := H.hf
 unfold F_conf_one at hF
 refine f_enter 29 Tryz.func86 rfl rfl (Nat.le_of_ble_eq_true rfl) fun a Z => ?_
 replace Z := Z.sub (ts := [0, 1]) rfl
 refine sR Z fun Z => ?_
 refine hB Z H [vI m.id, vI m.serial] rfl rfl rfl rfl fun a w1 b1 H Z => ?_
 refine s_runk tC Z 1 rfl rfl fun a Z => ?_
 refine s_end Z [1, 2, 4] rfl fun Z => ?_
 refine pR Z fun Z => ?_
 refine s_runk tC Z 2 rfl rfl fun a Z => ?_
 refine s_end Z [1, 2, 4, 5] rfl fun Z => ?_
 refine p_then (wp_seq ?_)
 refine wp_block ?_
 refine sR Z fun Z => ?_
 refine s_runk tC Z 1 rfl rfl fun a Z => ?_
 refine sO Z _ rfl (oL tC rfl rfl (H.bc 0 0 rfl rfl)) fun a Z => ?_
 refine s_runk tC Z 2 rfl rfl fun a Z => ?_
 refine gO Z (pp b1 0) rfl (wantB_f _) (.n 2 rfl .z) (fun hp => Ob_c tC rfl) fun a Z => ?_
 refine gO Z _ rfl (wantB_f _) (.c 12 rfl id .z) (fun hp => oL tC rfl rfl (H.bc 0 0 rfl rfl)) fun a Z => ?_
 refine gO Z (vT (decide (m.id ≥ 4))) rfl (wantB_f _) (.c 13 rfl id .z) (fun hp => Ob_c tC rfl) fun a Z => ?_
 refine sO Z (vT ((decide (m.id < 0)) || (decide (m.id ≥ 4)))) rfl (Ob_pick rfl rfl rfl rfl (pick_or _ _)) fun a Z => ?_
 refine s_runk tC Z 1 rfl rfl fun a Z => ?_
 refine s_end Z [1, 2, 4, 5, 7] rfl fun Z => ?_
 refine p_then ?_
 refine f_cond Z rfl (fun hc1 => ?_) (fun hc1 => ?_)
 ·replace hF := ite_t hc1 hF
  refine sR Z fun Z => ?_
  refine s_runk tC Z 1 rfl rfl fun a Z => ?_
  refine s_end Z [4] rfl fun Z => ?_
  refine p_then (wp_ret ?_)
  refine p_blk_r ?_
  refine p_then_r ?_
  obtain rfl := some_in hF
  exact f_ret Z (run_results1 rfl Z rfl) ⟨rfl, I, (H.sub [] rfl).eq rfl⟩
 ·replace hF := ite_f hc1 hF
  refine sR Z fun Z => ?_
  refine s_runk tC Z 1 rfl rfl fun a Z => ?_
  refine sO Z _ rfl (oL tC rfl rfl (H.bc 0 1 rfl rfl)) fun a Z => ?_
  refine s_runk tC Z 2 rfl rfl fun a Z => ?_
  refine gO Z (pp b1 1) rfl (wantB_f _) (.n 2 rfl .z) (fun hp => Ob_c tC rfl) fun a Z => ?_
  refine gO Z _ rfl (wantB_f _) (.c 21 rfl id .z) (fun hp => oL tC rfl rfl (H.bc 0 1 rfl rfl)) fun a Z => ?_
  refine gO Z (vT (decide (m.serial > 1073741824))) rfl (wantB_f _) (.c 22 rfl id .z) (fun hp => Ob_c tC rfl) fun a Z => ?_
  refine sO Z (vT ((decide (m.serial < 1)) || (decide (m.serial > 1073741824)))) rfl (Ob_pick rfl rfl rfl rfl (pick_or _ _)) fun a Z => ?_
  refine s_runk tC Z 1 rfl rfl fun a Z => ?_
  refine s_end Z [1, 4, 5, 16] rfl fun Z => ?_
  refine p_then ?_
  refine f_cond Z rfl (fun hc2 => ?_) (fun hc2 => ?_)
  ·replace hF := ite_t hc2 hF
   refine sR Z fun Z => ?_
   refine s_runk tC Z 1 rfl rfl fun a Z => ?_
   refine s_end Z [4] rfl fun Z => ?_
   refine p_then (wp_ret ?_)
   refine p_blk_r ?_
   refine p_then_r ?_
   obtain rfl := some_in hF
   exact f_ret Z (run_results1 rfl Z rfl) ⟨rfl, I, (H.sub [] rfl).eq rfl⟩
  ·replace hF := ite_f hc2 hF
   refine wp_seq ?_
   obtain ⟨x0, hx1, hF⟩ := bnd_in hF
   refine f_region Z fun Z => ?_
   refine s_runk tC Z 2 rfl rfl fun a Z => ?_
   refine hC Z H [(1, true), (0, false)] rfl #[] fn_101_YConf rfl rfl (fun D h => have q := c_slices_ContainsFunc_api_Member_api_Member__conf_one_1 hx1 h; q) fun vv a w2 D2 hr hF2 Z => ?_
   obtain ⟨rfl, I1, K⟩ := hr
   have H := (hF2 K).nf rfl
   refine s_runk tC Z 1 rfl rfl fun a Z => ?_
   refine s_end Z [4, 25] rfl fun Z => ?_
   refine p_then ?_
   refine f_cond Z rfl (fun hc3 => ?_) (fun hc3 => ?_)
   ·replace hF := ite_t hc3 hF
    refine sR Z fun Z => ?_
    refine s_runk tC Z 1 rfl rfl fun a Z => ?_
    refine s_end Z [4] rfl fun Z => ?_
    refine p_then (wp_ret ?_)
    refine p_blk_r ?_
    refine p_then_r ?_
    obtain rfl := some_in hF
    exact f_ret Z (run_results1 rfl Z rfl) ⟨rfl, I1, (H.sub [] rfl).eq rfl⟩
   ·replace hF := ite_f hc3 hF
    refine wp_skip ?_
    refine p_blk ?_
    refine pR Z fun Z => ?_
    refine s_runk tC Z 1 rfl rfl fun a Z => ?_
    refine s_end Z [4] rfl fun Z => ?_
    refine p_then (wp_ret ?_)
    obtain rfl := some_in hF
    exact f_ret Z (run_results1 rfl Z rfl) ⟨rfl, I1, (H.sub [] rfl).eq rfl⟩

def F_conf_Check_l1 (c : EConf) (rc : Int → Option Int) (sg : Int) : Option Int := match sg with | x => if (decide (x < (c.members.length : Int))) = true then (chk ((0 : Int) ≤ x ∧ x < (c.members.length : Int)) (chk ((0 : Int) ≤ x ∧ x ≤ (c.members.length : Int)) ((F_conf_one (c.members.getD (x).toNat default) (c.members.take ((x).toNat))).bind fun o => (if (o != 0) = true then (some o) else (chk (inI (x + 1)) (rc (x + 1))))))) else (some 0)

def F_conf_Check (c : EConf) : Option Int := if ((decide (c.epoch < 1)) || (decide (c.epoch > 1073741824))) = true then (some 5) else (if ((c.members.length : Int) == 0) = true then (some 7) else (if (decide ((c.members.length : Int) > 4)) = true then (some 6) else (iter (F_conf_Check_l1 c) FU 0)))

set_option maxHeartbeats 1000000 in
theorem c_conf_Check {I D : Dm} {c : EConf} {v1_c : Value} {w : World} {rr : Int} (hF : F_conf_Check c = some rr) (H : St I D w [SlC NEMember v1_c c.members]) :
  Calls Tryz.prog 50 #[.agg #[vI c.epoch, v1_c, vU c.floor]] w (Ret fun vv w' => vv = vI rr ∧ ∃ I', Hf I D w I' w' []) := by
 replace H := H.hf
 unfold F_conf_Check at hF
 refine f_enter 43 Tryz.func50 rfl rfl (Nat.le_of_ble_eq_true rfl) fun a Z => ?_
 replace Z := Z.sub (ts := [0]) rfl
 refine sR Z fun Z => ?_
 refine hB Z H [vI c.epoch, v1_c, vU c.floor] rfl rfl rfl rfl fun a w1 b1 H Z => ?_
 refine s_runk tC Z 1 rfl rfl fun a Z => ?_
 refine s_end Z [1, 2] rfl fun Z => ?_
 refine p_then (wp_seq ?_)
 refine wp_block ?_
 refine sR Z fun Z => ?_
 refine s_runk tC Z 1 rfl rfl fun a Z => ?_
 refine sO Z _ rfl (oL tC rfl rfl (H.bc 0 0 rfl rfl)) fun a Z => ?_
 refine s_runk tC Z 2 rfl rfl fun a Z => ?_
 refine gO Z (pp b1 0) rfl (wantB_f _) (.n 1 rfl .z) (fun hp => Ob_c tC rfl) fun a Z => ?_
 refine gO Z _ rfl (wantB_f _) (.c 11 rfl id .z) (fun hp => oL tC rfl rfl (H.bc 0 0 rfl rfl)) fun a Z => ?_
 refine gO Z (vT (decide (c.epoch > 1073741824))) rfl (wantB_f _) (.c 12 rfl id .z) (fun hp => Ob_c tC rfl) fun a Z => ?_
 refine sO Z (vT ((decide (c.epoch < 1)) || (decide (c.epoch > 1073741824)))) rfl (Ob_pick rfl rfl rfl rfl (pick_or _ _)) fun a Z => ?_
 refine s_runk tC Z 1 rfl rfl fun a Z => ?_
 refine s_end Z [1, 2, 6] rfl fun Z => ?_
 refine p_then ?_
 refine f_cond Z rfl (fun hc1 => ?_) (fun hc1 => ?_)
 ·replace hF := ite_t hc1 hF
  refine sR Z fun Z => ?_
  refine s_runk tC Z 1 rfl rfl fun a Z => ?_
  refine s_end Z [1, 2] rfl fun Z => ?_
  refine p_then (wp_ret ?_)
  refine p_blk_r ?_
  refine p_then_r ?_
  obtain rfl := some_in hF
  exact f_ret Z (run_results1 rfl Z rfl) ⟨rfl, I, (H.sub [] rfl).eq rfl⟩
 ·replace hF := ite_f hc1 hF
  refine sR Z fun Z => ?_
  refine s_runk tC Z 1 rfl rfl fun a Z => ?_
  refine sO Z _ rfl (oL tC rfl rfl (H.bc 0 1 rfl rfl)) fun a Z => ?_
  refine sO Z (vI (ln c.members)) rfl (Ob_slen tC rfl rfl rfl (H.slshape 1 rfl)) fun a Z => ?_
  refine s_runk tC Z 2 rfl rfl fun a Z => ?_
  refine s_end Z [1, 2, 15] rfl fun Z => ?_
  refine p_then ?_
  refine f_cond Z rfl (fun hc2 => ?_) (fun hc2 => ?_)
  ·replace hF := ite_t hc2 hF
   refine sR Z fun Z => ?_
   refine s_runk tC Z 1 rfl rfl fun a Z => ?_
   refine s_end Z [1, 2] rfl fun Z => ?_
   refine p_then (wp_ret ?_)
   refine p_blk_r ?_
   refine p_then_r ?_
   obtain rfl := some_in hF
   exact f_ret Z (run_results1 rfl Z rfl) ⟨rfl, I, (H.sub [] rfl).eq rfl⟩
  ·replace hF := ite_f hc2 hF
   refine sR Z fun Z => ?_
   refine s_runk tC Z 1 rfl rfl fun a Z => ?_
   refine sO Z _ rfl (oL tC rfl rfl (H.bc 0 1 rfl rfl)) fun a Z => ?_
   refine sO Z (vI (ln c.members)) rfl (Ob_slen tC rfl rfl rfl (H.slshape 1 rfl)) fun a Z => ?_
   refine s_runk tC Z 2 rfl rfl fun a Z => ?_
   refine s_end Z [1, 2, 20] rfl fun Z => ?_
   refine p_then ?_
   refine f_cond Z rfl (fun hc3 => ?_) (fun hc3 => ?_)
   ·replace hF := ite_t hc3 hF
    refine sR Z fun Z => ?_
    refine s_runk tC Z 1 rfl rfl fun a Z => ?_
    refine s_end Z [1, 2] rfl fun Z => ?_
    refine p_then (wp_ret ?_)
    refine p_blk_r ?_
    refine p_then_r ?_
    obtain rfl := some_in hF
    exact f_ret Z (run_results1 rfl Z rfl) ⟨rfl, I, (H.sub [] rfl).eq rfl⟩
   ·replace hF := ite_f hc3 hF
    refine wp_skip ?_
    refine p_blk ?_
    refine p_then (wp_seq ?_)
    refine sR Z fun Z => ?_
    refine s_runk tC Z 1 rfl rfl fun a Z => ?_
    refine sO Z _ rfl (oL tC rfl rfl (H.bc 0 1 rfl rfl)) fun a Z => ?_
    refine sO Z (vI (ln c.members)) rfl (Ob_slen tC rfl rfl rfl (H.slshape 1 rfl)) fun a Z => ?_
    refine s_runk tC Z 1 rfl rfl fun a Z => ?_
    refine s_end Z [1, 2, 26, 27, 28] rfl fun Z => ?_
    refine p_then (wp_block ?_)
    refine f_iter hF (fun sg a' w' => match sg with | x => Sl 43 [(1, pp b1 0), (2, vI 0), (26, v1_c), (27, vI (ln c.members)), (28, vI x)] a' ∧ ∃ I2, Hf I D w I2 w' [BxC b1 31 [vI c.epoch, v1_c, vU c.floor], SlC NEMember v1_c c.members]) ⟨Z.sub (ts := [1, 2, 26, 27, 28]) rfl, ⟨I, (H.sub [(0, false), (0, true)] rfl).eq rfl⟩⟩ ?_
    rintro rc x a w2 ⟨Z, I1, H⟩ hF
    unfold F_conf_Check_l1 at hF
    try dsimp only at hF
    refine sR Z fun Z => ?_
    refine s_runk tC Z 1 rfl rfl fun a Z => ?_
    refine s_end Z [1, 2, 26, 27, 28, 29] rfl fun Z => ?_
    refine p_then (wp_seq ?_)
    refine f_cond Z rfl (fun hc4 => ?_) (fun hc4 => ?_)
    ·replace hF := ite_t hc4 hF
     refine wp_skip ?_
     refine p_then (wp_seq ?_)
     refine wp_block ?_
     refine wp_seq ?_
     obtain ⟨hg1, hF⟩ := chk_in hF
     refine f_region Z fun Z => ?_
     refine s_runk tC Z 1 rfl rfl fun a Z => ?_
     refine sO Z (.pointer (some ⟨blkOf v1_c, oofOf v1_c + (x).toNat * 2, none⟩)) rfl (Ob_sidx tC rfl rfl rfl rfl (slPl (H.sl 1 rfl) hg1) hg1) fun a Z => ?_
     refine sO Z (.agg #[vI ((gi c.members x).id), vI ((gi c.members x).serial)]) rfl (oA tC rfl rfl ((slFl (H.sl 1 rfl) hg1).part 0 rfl)) fun a Z => ?_
     refine hA Z H [vI 0, vI 0] rfl rfl (by kernel_rfl) fun a w3 b2 H Z => ?_
     refine s_runk tC Z 1 rfl rfl fun a Z => ?_
     refine hT tC Z H 0 rfl rfl rfl rfl rfl (onR 2 rfl one_nil) (Nat.le_of_ble_eq_true rfl) rfl fun w4 H => ?_
     dsimp only [List.eraseIdx] at H
     refine s_end Z [1, 2, 26, 27, 28, 29, 30, 31, 32, 4, 3] rfl fun Z => ?_
     refine p_then (wp_seq ?_)
     obtain ⟨hg2, hF⟩ := chk_in hF
     replace H : Hf I D w I1 w4 [SlC NEMember (subV v1_c 0 ((x).toNat) 2) (c.members.take ((x).toNat)), BxC b2 109 [vI ((gi c.members x).id), vI ((gi c.members x).serial)], BxC b1 31 [vI c.epoch, v1_c, vU c.floor], SlC NEMember v1_c c.members] := H.slPart_to 2 rfl hg2 2 rfl
     obtain ⟨o, hx1, hF⟩ := bnd_in hF
     refine f_quietd (by kernel_rfl) (by kernel_rfl) Z fun Z => ?_
     refine qO Z (.agg #[vI ((gi c.members x).id), vI ((gi c.members x).serial)]) rfl (fun _ hw => oA tC rfl rfl (((H.blw hw).bx 1 rfl).part 0 rfl)) fun a Z => ?_
     refine q_runk tC Z 1 rfl rfl fun a Z => ?_
     refine qO Z _ rfl (fun _ hw => oL tC rfl rfl ((H.blw hw).bc 2 1 rfl rfl)) fun a Z => ?_
     refine q_runk tC Z 1 rfl rfl fun a Z => ?_
     refine qO Z (subV v1_c 0 ((x).toNat) 2) rfl (fun _ hw => Ob_sub_to tC rfl rfl rfl rfl ((H.blw hw).slshape 3 rfl) hg2) fun a Z => ?_
     refine q_call Z (caps := #[]) fn_86_YConf rfl rfl rfl rfl rfl (by decide) rfl rfl (fun _ hw => (have hq := c_conf_one hx1 (((H.blw hw)).pick0 (js := [(0, true)]) rfl rfl); plainC hq)) fun a Z => ?_
     refine q_runk tC Z 1 rfl rfl fun a Z => ?_
     refine q_end Z [1, 2, 26, 27, 28, 29, 30, 31, 32, 4, 3, 33, 34, 35, 36, 37, 38, 5] rfl fun w5 hb Z => ?_
     replace H := H.blw hb
     clear hb
     refine pR Z fun Z => ?_
     refine s_runk tC Z 2 rfl rfl fun a Z => ?_
     refine s_end Z [1, 2, 26, 27, 28, 29, 30, 31, 32, 4, 3, 33, 34, 35, 36, 37, 38, 5, 39, 40] rfl fun Z => ?_
     refine p_then ?_
     refine f_cond Z rfl (fun hc5 => ?_) (fun hc5 => ?_)
     ·replace hF := ite_t hc5 hF
      refine sR Z fun Z => ?_
      refine s_runk tC Z 2 rfl rfl fun a Z => ?_
      refine s_end Z [1, 2, 26, 27, 28, 29, 30, 31, 32, 4, 3, 33, 34, 35, 36, 37, 38, 5, 39, 40, 41] rfl fun Z => ?_
      refine p_then (wp_ret ?_)
      refine p_blk_r ?_
      refine p_then_r ?_
      refine p_then_r ?_
      refine p_blk_r ?_
      refine p_then_r ?_
      obtain rfl := some_in hF
      exact f_ret Z (run_results1 rfl Z rfl) ⟨rfl, I1, (H.sub [] rfl).eq rfl⟩
     ·replace hF := ite_f hc5 hF
      refine wp_skip ?_
      refine p_blk ?_
      refine p_then ?_
      obtain ⟨hg3, hF⟩ := chk_in hF
      refine f_region Z fun Z => ?_
      refine sO Z (vI (x + 1)) rfl (Ob_add rfl rfl rfl (wrI hg3)) fun a Z => ?_
      refine s_runk tC Z 1 rfl rfl fun a Z => ?_
      refine s_end Z [1, 2, 26, 27, 28, 29, 30, 31, 32, 4, 3, 33, 34, 35, 36, 37, 38, 5, 39, 40, 42] rfl fun Z => ?_
      refine p_then ?_
      exact ⟨(x + 1), ⟨Z.sub (ts := [1, 2, 26, 27, 28]) rfl, ⟨I1, (H.sub [(2, false), (2, true)] rfl).eq rfl⟩⟩, hF⟩
    ·replace hF := ite_f hc4 hF
     refine wp_exit ?_
     refine p_then_x ?_
     refine p_then_x ?_
     refine f_exit_here ?_
     refine pR Z fun Z => ?_
     refine s_runk tC Z 1 rfl rfl fun a Z => ?_
     refine s_end Z [2] rfl fun Z => ?_
     refine p_then (wp_ret ?_)
     obtain rfl := some_in hF
     exact f_ret Z (run_results1 rfl Z rfl) ⟨rfl, I1, (H.sub [] rfl).eq rfl⟩

end Go.Proofs.YtglfajjcgbfehaaGreat

namespace Go.Proofs.YtglfajjcgbfehaaGreat
open Go.RowKit
def tC1L : TabL := ⟨[(31744, 0), (31745, 1), (31746, 2)], [], [], [(28, (109, 2))], [(3, (1, false)), (28, (1, false)), (29, (1, false)), (31, (3, true)), (109, (2, true))]⟩

def tC1 : Tab Tryz.prog := ⟨tC1L, by kernel_rfl⟩

theorem neq_EMember (x y : EMember) (w : World) : (binOp .neq 109 (.agg (cEMember x).toArray) (.agg (cEMember y).toArray)).run Tryz.prog w = .ok (.bool (!eqEMember x y)) w := by
 have h1 := run_equalIn_struct (P := Tryz.prog) w 9999 109 (cEMember x).toArray (cEMember y).toArray (by rw [fieldsOf_of Tryz.underlying109]; exact Tryz.underlying109) (by kernel_rfl)
 rw [run_neq_struct, h1, fieldsOf_of Tryz.underlying109]
 simp [Op.eqFields, part, isAgg, cEMember, beqS, eqEMember, seqB_eq, run_underlying Tryz.underlying3, run_equalIn_int w 9998 3 _ _ _ _ Tryz.underlying3]
 try ((repeat' split) <;> simp_all)

theorem eqg_EMember (op : BinOp) (x y : Operand) (a b : Array Value) (w : World) : (eqGuard op 109 x y (.agg a) (.agg b)).run Tryz.prog w = .ok () w := run_eqGuard_agg (by kernel_rfl) op x y a b w

def F_ref07_Same_l1 (a0 : EConf) (b : EConf) (rc : Int → Option Bool) (sg : Int) : Option Bool := match sg with | i => if ((decide (i < (a0.members.length : Int))) && (decide (i < (b.members.length : Int)))) = true then (chk ((0 : Int) ≤ i ∧ i < (a0.members.length : Int)) (chk ((0 : Int) ≤ i ∧ i < (b.members.length : Int)) (if (!eqEMember (a0.members.getD (i).toNat default) (b.members.getD (i).toNat default)) = true then (some false) else (chk (inI (i + 1)) (rc (i + 1)))))) else (some true)

def F_ref07_Same (a0 : EConf) (b : EConf) : Option Bool := if (((a0.epoch != b.epoch) || (a0.floor != b.floor)) || ((a0.members.length : Int) != (b.members.length : Int))) = true then (some false) else (iter (F_ref07_Same_l1 a0 b) FU 0)

set_option maxHeartbeats 1000000 in
theorem c_ref07_Same {I D : Dm} {a0 : EConf} {v1_a0 : Value} {b : EConf} {v2_b : Value} {w : World} {rr : Bool} (hF : F_ref07_Same a0 b = some rr) (H : St I D w [SlC NEMember v1_a0 a0.members, SlC NEMember v2_b b.members]) :
  Calls Tryz.prog 29 #[.agg #[vI a0.epoch, v1_a0, vU a0.floor], .agg #[vI b.epoch, v2_b, vU b.floor]] w (Ret fun vv w' => vv = vT rr ∧ ∃ I', Hf I D w I' w' []) := by
 replace H := H.hf
 unfold F_ref07_Same at hF
 refine f_enter 52 Tryz.func29 rfl rfl (Nat.le_of_ble_eq_true rfl) fun a Z => ?_
 replace Z := Z.sub (ts := [0, 1]) rfl
 refine sR Z fun Z => ?_
 refine hB Z H [vI a0.epoch, v1_a0, vU a0.floor] rfl rfl rfl rfl fun a w1 b1 H Z => ?_
 refine hB Z H [vI b.epoch, v2_b, vU b.floor] rfl rfl rfl rfl fun a w2 b2 H Z => ?_
 refine s_runk tC1 Z 1 rfl rfl fun a Z => ?_
 refine s_end Z [2, 3, 4] rfl fun Z => ?_
 refine p_then (wp_seq ?_)
 refine sR Z fun Z => ?_
 refine s_runk tC1 Z 1 rfl rfl fun a Z => ?_
 refine sO Z _ rfl (oL tC1 rfl rfl (H.bc 1 0 rfl rfl)) fun a Z => ?_
 refine s_runk tC1 Z 1 rfl rfl fun a Z => ?_
 refine sO Z _ rfl (oL tC1 rfl rfl (H.bc 0 0 rfl rfl)) fun a Z => ?_
 refine s_runk tC1 Z 2 rfl rfl fun a Z => ?_
 refine gO Z (pp b1 2) rfl (wantB_f _) (.n 2 rfl .z) (fun hp => Ob_c tC1 rfl) fun a Z => ?_
 refine gO Z _ rfl (wantB_f _) (.c 12 rfl id .z) (fun hp => oL tC1 rfl rfl (H.bc 1 2 rfl rfl)) fun a Z => ?_
 refine gO Z (pp b2 2) rfl (wantB_f _) (.n 3 rfl .z) (fun hp => Ob_c tC1 rfl) fun a Z => ?_
 refine gO Z _ rfl (wantB_f _) (.c 14 rfl id .z) (fun hp => oL tC1 rfl rfl (H.bc 0 2 rfl rfl)) fun a Z => ?_
 refine gO Z (vT (a0.floor != b.floor)) rfl (wantB_f _) (.c 13 rfl id (.c 15 rfl id .z)) (fun hp => Ob_c tC1 rfl) fun a Z => ?_
 refine sO Z (vT ((a0.epoch != b.epoch) || (a0.floor != b.floor))) rfl (Ob_pick rfl rfl rfl rfl (pick_or _ _)) fun a Z => ?_
 refine s_runk tC1 Z 1 rfl rfl fun a Z => ?_
 refine gO Z (pp b1 1) rfl (wantB_f _) (.n 2 rfl .z) (fun hp => Ob_c tC1 rfl) fun a Z => ?_
 refine gO Z _ rfl (wantB_f _) (.c 19 rfl id .z) (fun hp => oL tC1 rfl rfl (H.bc 1 1 rfl rfl)) fun a Z => ?_
 refine gO Z (vI (ln a0.members)) rfl (wantB_f _) (.c 20 rfl id .z) (fun hp => Ob_slen tC1 rfl rfl rfl (H.slshape 2 rfl)) fun a Z => ?_
 refine gO Z (pp b2 1) rfl (wantB_f _) (.n 3 rfl .z) (fun hp => Ob_c tC1 rfl) fun a Z => ?_
 refine gO Z _ rfl (wantB_f _) (.c 22 rfl id .z) (fun hp => oL tC1 rfl rfl (H.bc 0 1 rfl rfl)) fun a Z => ?_
 refine gO Z (vI (ln b.members)) rfl (wantB_f _) (.c 23 rfl id .z) (fun hp => Ob_slen tC1 rfl rfl rfl (H.slshape 3 rfl)) fun a Z => ?_
 refine gO Z (vT ((ln a0.members) != (ln b.members))) rfl (wantB_f _) (.c 21 rfl id (.c 24 rfl id .z)) (fun hp => Ob_c tC1 rfl) fun a Z => ?_
 refine sO Z (vT (((a0.epoch != b.epoch) || (a0.floor != b.floor)) || ((ln a0.members) != (ln b.members)))) rfl (Ob_pick rfl rfl rfl rfl (pick_or _ _)) fun a Z => ?_
 refine s_end Z [2, 3, 4, 26] rfl fun Z => ?_
 refine p_then ?_
 refine f_cond Z rfl (fun hc1 => ?_) (fun hc1 => ?_)
 ·replace hF := ite_t hc1 hF
  refine sR Z fun Z => ?_
  refine s_runk tC1 Z 1 rfl rfl fun a Z => ?_
  refine s_end Z [2, 3, 4] rfl fun Z => ?_
  refine p_then (wp_ret ?_)
  refine p_then_r ?_
  obtain rfl := some_in hF
  exact f_ret Z (run_results1 rfl Z rfl) ⟨rfl, I, (H.sub [] rfl).eq rfl⟩
 ·replace hF := ite_f hc1 hF
  refine wp_skip ?_
  refine p_then (wp_seq ?_)
  refine sR Z fun Z => ?_
  refine s_runk tC1 Z 1 rfl rfl fun a Z => ?_
  refine s_end Z [2, 3, 4, 5] rfl fun Z => ?_
  refine p_then (wp_block ?_)
  refine f_iter hF (fun sg a' w' => match sg with | i => Sl 52 [(2, pp b1 0), (3, pp b2 0), (4, vT false), (5, vI i)] a' ∧ ∃ I2, Hf I D w I2 w' [BxC b1 31 [vI a0.epoch, v1_a0, vU a0.floor], BxC b2 31 [vI b.epoch, v2_b, vU b.floor], SlC NEMember v1_a0 a0.members, SlC NEMember v2_b b.members]) ⟨Z.sub (ts := [2, 3, 4, 5]) rfl, ⟨I, (H.sub [(1, false), (0, false), (0, true), (1, true)] rfl).eq rfl⟩⟩ ?_
  rintro rc i a w3 ⟨Z, I1, H⟩ hF
  unfold F_ref07_Same_l1 at hF
  try dsimp only at hF
  refine wp_seq ?_
  refine sR Z fun Z => ?_
  refine s_runk tC1 Z 2 rfl rfl fun a Z => ?_
  refine sO Z _ rfl (oL tC1 rfl rfl (H.bc 0 1 rfl rfl)) fun a Z => ?_
  refine sO Z (vI (ln a0.members)) rfl (Ob_slen tC1 rfl rfl rfl (H.slshape 2 rfl)) fun a Z => ?_
  refine s_runk tC1 Z 2 rfl rfl fun a Z => ?_
  refine gO Z (vI i) rfl (wantB_t _) (.n 5 rfl .z) (fun hp => Ob_c tC1 rfl) fun a Z => ?_
  refine gO Z (pp b2 1) rfl (wantB_t _) (.n 3 rfl .z) (fun hp => Ob_c tC1 rfl) fun a Z => ?_
  refine gO Z _ rfl (wantB_t _) (.c 34 rfl id .z) (fun hp => oL tC1 rfl rfl (H.bc 1 1 rfl rfl)) fun a Z => ?_
  refine gO Z (vI (ln b.members)) rfl (wantB_t _) (.c 35 rfl id .z) (fun hp => Ob_slen tC1 rfl rfl rfl (H.slshape 3 rfl)) fun a Z => ?_
  refine gO Z (vT (decide (i < (ln b.members)))) rfl (wantB_t _) (.c 33 rfl id (.c 36 rfl id .z)) (fun hp => Ob_c tC1 rfl) fun a Z => ?_
  refine sO Z (vT ((decide (i < (ln a0.members))) && (decide (i < (ln b.members))))) rfl (Ob_pick rfl rfl rfl rfl (pick_and _ _)) fun a Z => ?_
  refine s_end Z [2, 3, 4, 5, 27, 28, 29, 30, 31, 32, 38] rfl fun Z => ?_
  refine p_then ?_
  refine f_cond Z rfl (fun hc2 => ?_) (fun hc2 => ?_)
  ·replace hF := ite_t hc2 hF
   refine wp_skip ?_
   refine p_then (wp_seq ?_)
   refine wp_block ?_
   refine wp_seq ?_
   obtain ⟨hg1, hF⟩ := chk_in hF
   obtain ⟨hg2, hF⟩ := chk_in hF
   refine f_quietd (by kernel_rfl) (by kernel_rfl) Z fun Z => ?_
   refine q_runk tC1 Z 1 rfl rfl fun a Z => ?_
   refine qO Z _ rfl (fun _ hw => oL tC1 rfl rfl ((H.blw hw).bc 0 1 rfl rfl)) fun a Z => ?_
   refine q_runk tC1 Z 1 rfl rfl fun a Z => ?_
   refine qO Z (.pointer (some ⟨blkOf v1_a0, oofOf v1_a0 + (i).toNat * 2, none⟩)) rfl (fun _ hw => Ob_sidx tC1 rfl rfl rfl rfl (slPl ((H.blw hw).sl 2 rfl) hg1) hg1) fun a Z => ?_
   refine qO Z (.agg #[vI ((gi a0.members i).id), vI ((gi a0.members i).serial)]) rfl (fun _ hw => oA tC1 rfl rfl ((slFl ((H.blw hw).sl 2 rfl) hg1).part 0 rfl)) fun a Z => ?_
   refine q_runk tC1 Z 1 rfl rfl fun a Z => ?_
   refine qO Z _ rfl (fun _ hw => oL tC1 rfl rfl ((H.blw hw).bc 1 1 rfl rfl)) fun a Z => ?_
   refine q_runk tC1 Z 1 rfl rfl fun a Z => ?_
   refine qO Z (.pointer (some ⟨blkOf v2_b, oofOf v2_b + (i).toNat * 2, none⟩)) rfl (fun _ hw => Ob_sidx tC1 rfl rfl rfl rfl (slPl ((H.blw hw).sl 3 rfl) hg2) hg2) fun a Z => ?_
   refine qO Z (.agg #[vI ((gi b.members i).id), vI ((gi b.members i).serial)]) rfl (fun _ hw => oA tC1 rfl rfl ((slFl ((H.blw hw).sl 3 rfl) hg2).part 0 rfl)) fun a Z => ?_
   refine qO Z (vT (!eqEMember (gi a0.members i) (gi b.members i))) rfl (fun _ hw => Ob_bin rfl rfl rfl (eqg_EMember _ _ _ _ _ _) (neq_EMember (gi a0.members i) (gi b.members i) _)) fun a Z => ?_
   refine q_end Z [2, 3, 4, 5, 27, 28, 29, 30, 31, 32, 38, 41, 42, 43, 44, 45, 46, 47, 48, 49, 50, 51] rfl fun w4 hb Z => ?_
   replace H := H.blw hb
   clear hb
   refine p_then ?_
   refine f_cond Z rfl (fun hc3 => ?_) (fun hc3 => ?_)
   ·replace hF := ite_t hc3 hF
    refine sR Z fun Z => ?_
    refine s_runk tC1 Z 1 rfl rfl fun a Z => ?_
    refine s_end Z [2, 3, 4, 5, 27, 28, 29, 30, 31, 32, 38, 41, 42, 43, 44, 45, 46, 47, 48, 49, 50, 51] rfl fun Z => ?_
    refine p_then (wp_ret ?_)
    refine p_blk_r ?_
    refine p_then_r ?_
    refine p_then_r ?_
    refine p_blk_r ?_
    refine p_then_r ?_
    obtain rfl := some_in hF
    exact f_ret Z (run_results1 rfl Z rfl) ⟨rfl, I1, (H.sub [] rfl).eq rfl⟩
   ·replace hF := ite_f hc3 hF
    refine wp_skip ?_
    refine p_blk ?_
    refine p_then ?_
    obtain ⟨hg3, hF⟩ := chk_in hF
    refine f_region Z fun Z => ?_
    refine s_runk tC1 Z 1 rfl rfl fun a Z => ?_
    refine sO Z (vI (i + 1)) rfl (Ob_add rfl rfl rfl (wrI hg3)) fun a Z => ?_
    refine s_runk tC1 Z 1 rfl rfl fun a Z => ?_
    refine s_end Z [2, 3, 4, 5, 27, 28, 29, 30, 31, 32, 38, 41, 42, 43, 44, 45, 46, 47, 48, 49, 50, 51, 39, 40] rfl fun Z => ?_
    refine p_then ?_
    exact ⟨(i + 1), ⟨Z.sub (ts := [2, 3, 4, 5]) rfl, ⟨I1, (H.sub [(0, false), (0, false), (0, true), (1, true)] rfl).eq rfl⟩⟩, hF⟩
  ·replace hF := ite_f hc2 hF
   refine wp_exit ?_
   refine p_then_x ?_
   refine p_then_x ?_
   refine f_exit_here ?_
   refine pR Z fun Z => ?_
   refine s_runk tC1 Z 1 rfl rfl fun a Z => ?_
   refine s_end Z [4] rfl fun Z => ?_
   refine p_then (wp_ret ?_)
   obtain rfl := some_in hF
   exact f_ret Z (run_results1 rfl Z rfl) ⟨rfl, I1, (H.sub [] rfl).eq rfl⟩

end Go.Proofs.YtglfajjcgbfehaaGreat

namespace Go.Proofs.YtglfajjcgbfehaaGreat
open Go.RowKit
def tOpsL : TabL := ⟨[(43008, 0), (43009, 1), (43010, 2), (59392, 0), (59393, 1), (59394, 2)], [9], [], [(40, (58, 3))], [(3, (1, false)), (4, (1, false)), (9, (1, false)), (40, (1, false)), (42, (3, true)), (58, (3, true))]⟩

def tOps : Tab Tryz.prog := ⟨tOpsL, by kernel_rfl⟩

theorem fn_102_YOps : IsFn Tryz.prog 102 := ⟨_, Tryz.func102, by kernel_rfl, by kernel_rfl⟩

def F_ref05_Check (k : ByteArray) : Option Int := if ((decide ((k.size : Int) < 1)) || (decide ((k.size : Int) > 8))) = true then (some 10) else (some 0)

set_option maxHeartbeats 1000000 in
theorem c_ref05_Check {I D : Dm} {k : ByteArray} {w : World} {rr : Int} (hF : F_ref05_Check k = some rr) (H : St I D w []) :
  Calls Tryz.prog 102 #[vS k] w (Ret fun vv w' => vv = vI rr ∧ ∃ I', Hf I D w I' w' []) := by
 replace H := H.hf
 unfold F_ref05_Check at hF
 refine f_enter 11 Tryz.func102 rfl rfl (Nat.le_of_ble_eq_true rfl) fun a Z => ?_
 replace Z := Z.sub (ts := [0]) rfl
 refine sR Z fun Z => ?_
 refine s_runk tOps Z 1 rfl rfl fun a Z => ?_
 refine s_end Z [0, 2] rfl fun Z => ?_
 refine p_then (wp_seq ?_)
 refine sR Z fun Z => ?_
 refine s_runk tOps Z 4 rfl rfl fun a Z => ?_
 refine gO Z (vS k) rfl (wantB_f _) (.n 0 rfl .z) (fun hp => Ob_c tOps rfl) fun a Z => ?_
 refine gO Z (vI (k.size : Int)) rfl (wantB_f _) (.c 7 rfl id .z) (fun hp => Ob_c tOps rfl) fun a Z => ?_
 refine gO Z (vT (decide ((k.size : Int) > 8))) rfl (wantB_f _) (.c 8 rfl id .z) (fun hp => Ob_c tOps rfl) fun a Z => ?_
 refine sO Z (vT ((decide ((k.size : Int) < 1)) || (decide ((k.size : Int) > 8)))) rfl (Ob_pick rfl rfl rfl rfl (pick_or _ _)) fun a Z => ?_
 refine s_end Z [2, 10] rfl fun Z => ?_
 refine p_then ?_
 refine f_cond Z rfl (fun hc1 => ?_) (fun hc1 => ?_)
 ·replace hF := ite_t hc1 hF
  refine sR Z fun Z => ?_
  refine s_runk tOps Z 1 rfl rfl fun a Z => ?_
  refine s_end Z [2] rfl fun Z => ?_
  refine p_then (wp_ret ?_)
  refine p_then_r ?_
  obtain rfl := some_in hF
  exact f_ret Z (run_results1 rfl Z rfl) ⟨rfl, I, (H.sub [] rfl).eq rfl⟩
 ·replace hF := ite_f hc1 hF
  refine wp_skip ?_
  refine pR Z fun Z => ?_
  refine s_runk tOps Z 1 rfl rfl fun a Z => ?_
  refine s_end Z [2] rfl fun Z => ?_
  refine p_then (wp_ret ?_)
  obtain rfl := some_in hF
  exact f_ret Z (run_results1 rfl Z rfl) ⟨rfl, I, (H.sub [] rfl).eq rfl⟩

def F_ref06_Check_l1 (b : EBatch) (rc : Int → Option Int) (sg : Int) : Option Int := match sg with | i => if (decide (i < (b.ops.length : Int))) = true then (chk ((0 : Int) ≤ i ∧ i < (b.ops.length : Int)) ((F_ref05_Check ((b.ops.getD (i).toNat default).key)).bind fun c => (if (c != 0) = true then (some 10) else (if (decide ((((b.ops.getD (i).toNat default).val).size : Int) > 8)) = true then (some 3) else (if (((b.ops.getD (i).toNat default).del) && (!seqB ((b.ops.getD (i).toNat default).val) ⟨#[]⟩)) = true then (some 4) else (chk ((decide (i > 0)) = true → inI (i - 1)) (chk ((decide (i > 0)) = true → (0 : Int) ≤ i - 1 ∧ i - 1 < (b.ops.length : Int)) (if ((decide (i > 0)) && (!sltB ((b.ops.getD (i - 1).toNat default).key) ((b.ops.getD (i).toNat default).key))) = true then (some 18) else (chk (inI (i + 1)) (rc (i + 1))))))))))) else (some 0)

def F_ref06_Check (b : EBatch) : Option Int := if ((decide (b.client < 0)) || (decide (b.client ≥ 3))) = true then (some 1) else (if ((decide (b.req < 1)) || (decide (b.req > 1073741824))) = true then (some 5) else (if (decide ((b.ops.length : Int) > 4)) = true then (some 6) else (iter (F_ref06_Check_l1 b) FU 0)))

set_option maxHeartbeats 1000000 in
theorem c_ref06_Check {I D : Dm} {b : EBatch} {v1_b : Value} {w : World} {rr : Int} (hF : F_ref06_Check b = some rr) (H : St I D w [SlC NEOp v1_b b.ops]) :
  Calls Tryz.prog 93 #[.agg #[vI b.client, vI b.req, v1_b]] w (Ret fun vv w' => vv = vI rr ∧ ∃ I', Hf I D w I' w' []) := by
 replace H := H.hf
 unfold F_ref06_Check at hF
 refine f_enter 66 Tryz.func93 rfl rfl (Nat.le_of_ble_eq_true rfl) fun a Z => ?_
 replace Z := Z.sub (ts := [0]) rfl
 refine sR Z fun Z => ?_
 refine hB Z H [vI b.client, vI b.req, v1_b] rfl rfl rfl rfl fun a w1 b1 H Z => ?_
 refine s_runk tOps Z 1 rfl rfl fun a Z => ?_
 refine s_end Z [1, 2] rfl fun Z => ?_
 refine p_then (wp_seq ?_)
 refine sR Z fun Z => ?_
 refine s_runk tOps Z 1 rfl rfl fun a Z => ?_
 refine sO Z _ rfl (oL tOps rfl rfl (H.bc 0 0 rfl rfl)) fun a Z => ?_
 refine s_runk tOps Z 2 rfl rfl fun a Z => ?_
 refine gO Z (pp b1 0) rfl (wantB_f _) (.n 1 rfl .z) (fun hp => Ob_c tOps rfl) fun a Z => ?_
 refine gO Z _ rfl (wantB_f _) (.c 9 rfl id .z) (fun hp => oL tOps rfl rfl (H.bc 0 0 rfl rfl)) fun a Z => ?_
 refine gO Z (vT (decide (b.client ≥ 3))) rfl (wantB_f _) (.c 10 rfl id .z) (fun hp => Ob_c tOps rfl) fun a Z => ?_
 refine sO Z (vT ((decide (b.client < 0)) || (decide (b.client ≥ 3)))) rfl (Ob_pick rfl rfl rfl rfl (pick_or _ _)) fun a Z => ?_
 refine s_end Z [1, 2, 12] rfl fun Z => ?_
 refine p_then ?_
 refine f_cond Z rfl (fun hc1 => ?_) (fun hc1 => ?_)
 ·replace hF := ite_t hc1 hF
  refine sR Z fun Z => ?_
  refine s_runk tOps Z 1 rfl rfl fun a Z => ?_
  refine s_end Z [1, 2] rfl fun Z => ?_
  refine p_then (wp_ret ?_)
  refine p_then_r ?_
  obtain rfl := some_in hF
  exact f_ret Z (run_results1 rfl Z rfl) ⟨rfl, I, (H.sub [] rfl).eq rfl⟩
 ·replace hF := ite_f hc1 hF
  refine wp_skip ?_
  refine p_then (wp_seq ?_)
  refine sR Z fun Z => ?_
  refine s_runk tOps Z 1 rfl rfl fun a Z => ?_
  refine sO Z _ rfl (oL tOps rfl rfl (H.bc 0 1 rfl rfl)) fun a Z => ?_
  refine s_runk tOps Z 2 rfl rfl fun a Z => ?_
  refine gO Z (pp b1 1) rfl (wantB_f _) (.n 1 rfl .z) (fun hp => Ob_c tOps rfl) fun a Z => ?_
  refine gO Z _ rfl (wantB_f _) (.c 17 rfl id .z) (fun hp => oL tOps rfl rfl (H.bc 0 1 rfl rfl)) fun a Z => ?_
  refine gO Z (vT (decide (b.req > 1073741824))) rfl (wantB_f _) (.c 18 rfl id .z) (fun hp => Ob_c tOps rfl) fun a Z => ?_
  refine sO Z (vT ((decide (b.req < 1)) || (decide (b.req > 1073741824)))) rfl (Ob_pick rfl rfl rfl rfl (pick_or _ _)) fun a Z => ?_
  refine s_end Z [1, 2, 20] rfl fun Z => ?_
  refine p_then ?_
  refine f_cond Z rfl (fun hc2 => ?_) (fun hc2 => ?_)
  ·replace hF := ite_t hc2 hF
   refine sR Z fun Z => ?_
   refine s_runk tOps Z 1 rfl rfl fun a Z => ?_
   refine s_end Z [1, 2] rfl fun Z => ?_
   refine p_then (wp_ret ?_)
   refine p_then_r ?_
   obtain rfl := some_in hF
   exact f_ret Z (run_results1 rfl Z rfl) ⟨rfl, I, (H.sub [] rfl).eq rfl⟩
  ·replace hF := ite_f hc2 hF
   refine wp_skip ?_
   refine p_then (wp_seq ?_)
   refine sR Z fun Z => ?_
   refine s_runk tOps Z 1 rfl rfl fun a Z => ?_
   refine sO Z _ rfl (oL tOps rfl rfl (H.bc 0 2 rfl rfl)) fun a Z => ?_
   refine sO Z (vI (ln b.ops)) rfl (Ob_slen tOps rfl rfl rfl (H.slshape 1 rfl)) fun a Z => ?_
   refine s_runk tOps Z 1 rfl rfl fun a Z => ?_
   refine s_end Z [1, 2, 24] rfl fun Z => ?_
   refine p_then ?_
   refine f_cond Z rfl (fun hc3 => ?_) (fun hc3 => ?_)
   ·replace hF := ite_t hc3 hF
    refine sR Z fun Z => ?_
    refine s_runk tOps Z 1 rfl rfl fun a Z => ?_
    refine s_end Z [1, 2] rfl fun Z => ?_
    refine p_then (wp_ret ?_)
    refine p_then_r ?_
    obtain rfl := some_in hF
    exact f_ret Z (run_results1 rfl Z rfl) ⟨rfl, I, (H.sub [] rfl).eq rfl⟩
   ·replace hF := ite_f hc3 hF
    refine wp_skip ?_
    refine p_then (wp_seq ?_)
    refine sR Z fun Z => ?_
    refine s_runk tOps Z 1 rfl rfl fun a Z => ?_
    refine s_end Z [1, 2, 3] rfl fun Z => ?_
    refine p_then (wp_block ?_)
    refine f_iter hF (fun sg a' w' => match sg with | i => Sl 66 [(1, pp b1 0), (2, vI 0), (3, vI i)] a' ∧ ∃ I2, Hf I D w I2 w' [BxC b1 42 [vI b.client, vI b.req, v1_b], SlC NEOp v1_b b.ops]) ⟨Z.sub (ts := [1, 2, 3]) rfl, ⟨I, (H.sub [(0, false), (0, true)] rfl).eq rfl⟩⟩ ?_
    rintro rc i a w2 ⟨Z, I1, H⟩ hF
    unfold F_ref06_Check_l1 at hF
    try dsimp only at hF
    refine wp_seq ?_
    refine sR Z fun Z => ?_
    refine s_runk tOps Z 2 rfl rfl fun a Z => ?_
    refine sO Z _ rfl (oL tOps rfl rfl (H.bc 0 2 rfl rfl)) fun a Z => ?_
    refine sO Z (vI (ln b.ops)) rfl (Ob_slen tOps rfl rfl rfl (H.slshape 1 rfl)) fun a Z => ?_
    refine s_runk tOps Z 1 rfl rfl fun a Z => ?_
    refine s_end Z [1, 2, 3, 25, 26, 27, 28, 29] rfl fun Z => ?_
    refine p_then ?_
    refine f_cond Z rfl (fun hc4 => ?_) (fun hc4 => ?_)
    ·replace hF := ite_t hc4 hF
     refine wp_skip ?_
     refine p_then (wp_seq ?_)
     refine wp_block ?_
     refine wp_seq ?_
     obtain ⟨hg1, hF⟩ := chk_in hF
     refine f_region Z fun Z => ?_
     refine s_runk tOps Z 1 rfl rfl fun a Z => ?_
     refine sO Z _ rfl (oL tOps rfl rfl (H.bc 0 2 rfl rfl)) fun a Z => ?_
     refine s_runk tOps Z 1 rfl rfl fun a Z => ?_
     refine sO Z (.pointer (some ⟨blkOf v1_b, oofOf v1_b + (i).toNat * 3, none⟩)) rfl (Ob_sidx tOps rfl rfl rfl rfl (slPl (H.sl 1 rfl) hg1) hg1) fun a Z => ?_
     refine sO Z (.agg #[vS ((gi b.ops i).key), vS ((gi b.ops i).val), vT ((gi b.ops i).del)]) rfl (oA tOps rfl rfl ((slFl (H.sl 1 rfl) hg1).part 0 rfl)) fun a Z => ?_
     refine hA Z H [vS ByteArray.empty, vS ByteArray.empty, vT false] rfl rfl (by kernel_rfl) fun a w3 b2 H Z => ?_
     refine hT tOps Z H 0 rfl rfl rfl rfl rfl (onR 3 rfl one_nil) (Nat.le_of_ble_eq_true rfl) rfl fun w4 H => ?_
     dsimp only [List.eraseIdx] at H
     refine s_end Z [1, 2, 3, 25, 26, 27, 28, 29, 32, 33, 34, 35, 36, 4] rfl fun Z => ?_
     refine p_then (wp_seq ?_)
     refine wp_seq ?_
     obtain ⟨c, hx1, hF⟩ := bnd_in hF
     refine f_region Z fun Z => ?_
     refine s_runk tOps Z 1 rfl rfl fun a Z => ?_
     refine sO Z _ rfl (oL tOps rfl rfl (H.bc 0 0 rfl rfl)) fun a Z => ?_
     refine hC Z H [] rfl #[] fn_102_YOps rfl rfl (fun D h => have q := c_ref05_Check hx1 h; q) fun vv a w5 D2 hr hF2 Z => ?_
     obtain ⟨rfl, I2, K⟩ := hr
     have H := (hF2 K).nf rfl
     refine s_runk tOps Z 1 rfl rfl fun a Z => ?_
     refine s_end Z [1, 2, 3, 25, 26, 27, 28, 29, 32, 33, 34, 35, 36, 4, 37, 38, 39, 40] rfl fun Z => ?_
     refine p_then ?_
     refine f_cond Z rfl (fun hc5 => ?_) (fun hc5 => ?_)
     ·replace hF := ite_t hc5 hF
      refine sR Z fun Z => ?_
      refine s_runk tOps Z 1 rfl rfl fun a Z => ?_
      refine s_end Z [1, 2, 3, 25, 26, 27, 28, 29, 32, 33, 34, 35, 36, 4, 37, 38, 39, 40] rfl fun Z => ?_
      refine p_then (wp_ret ?_)
      refine p_then_r ?_
      refine p_blk_r ?_
      refine p_then_r ?_
      refine p_then_r ?_
      refine p_blk_r ?_
      refine p_then_r ?_
      obtain rfl := some_in hF
      exact f_ret Z (run_results1 rfl Z rfl) ⟨rfl, I2, (H.sub [] rfl).eq rfl⟩
     ·replace hF := ite_f hc5 hF
      refine wp_skip ?_
      refine p_then (wp_seq ?_)
      refine sR Z fun Z => ?_
      refine s_runk tOps Z 1 rfl rfl fun a Z => ?_
      refine sO Z _ rfl (oL tOps rfl rfl (H.bc 0 1 rfl rfl)) fun a Z => ?_
      refine s_runk tOps Z 2 rfl rfl fun a Z => ?_
      refine s_end Z [1, 2, 3, 25, 26, 27, 28, 29, 32, 33, 34, 35, 36, 4, 37, 38, 39, 40, 41, 42, 43, 44] rfl fun Z => ?_
      refine p_then ?_
      refine f_cond Z rfl (fun hc6 => ?_) (fun hc6 => ?_)
      ·replace hF := ite_t hc6 hF
       refine sR Z fun Z => ?_
       refine s_runk tOps Z 1 rfl rfl fun a Z => ?_
       refine s_end Z [1, 2, 3, 25, 26, 27, 28, 29, 32, 33, 34, 35, 36, 4, 37, 38, 39, 40, 41, 42, 43, 44] rfl fun Z => ?_
       refine p_then (wp_ret ?_)
       refine p_then_r ?_
       refine p_blk_r ?_
       refine p_then_r ?_
       refine p_then_r ?_
       refine p_blk_r ?_
       refine p_then_r ?_
       obtain rfl := some_in hF
       exact f_ret Z (run_results1 rfl Z rfl) ⟨rfl, I2, (H.sub [] rfl).eq rfl⟩
      ·replace hF := ite_f hc6 hF
       refine wp_skip ?_
       refine p_then (wp_seq ?_)
       refine sR Z fun Z => ?_
       refine s_runk tOps Z 1 rfl rfl fun a Z => ?_
       refine sO Z _ rfl (oL tOps rfl rfl (H.bc 0 2 rfl rfl)) fun a Z => ?_
       refine s_runk tOps Z 1 rfl rfl fun a Z => ?_
       refine gO Z (pp b2 1) rfl (wantB_t _) (.n 4 rfl .z) (fun hp => Ob_c tOps rfl) fun a Z => ?_
       refine gO Z _ rfl (wantB_t _) (.c 48 rfl id .z) (fun hp => oL tOps rfl rfl (H.bc 0 1 rfl rfl)) fun a Z => ?_
       refine gO Z (vT (!seqB ((gi b.ops i).val) ⟨#[]⟩)) rfl (wantB_t _) (.c 49 rfl id .z) (fun hp => Ob_c tOps rfl) fun a Z => ?_
       refine sO Z (vT (((gi b.ops i).del) && (!seqB ((gi b.ops i).val) ⟨#[]⟩))) rfl (Ob_pick rfl rfl rfl rfl (pick_and _ _)) fun a Z => ?_
       refine s_end Z [1, 2, 3, 25, 26, 27, 28, 29, 32, 33, 34, 35, 36, 4, 37, 38, 39, 40, 41, 42, 43, 44, 45, 46, 47, 51] rfl fun Z => ?_
       refine p_then ?_
       refine f_cond Z rfl (fun hc7 => ?_) (fun hc7 => ?_)
       ·replace hF := ite_t hc7 hF
        refine sR Z fun Z => ?_
        refine s_runk tOps Z 1 rfl rfl fun a Z => ?_
        refine s_end Z [1, 2, 3, 25, 26, 27, 28, 29, 32, 33, 34, 35, 36, 4, 37, 38, 39, 40, 41, 42, 43, 44, 45, 46, 47, 51] rfl fun Z => ?_
        refine p_then (wp_ret ?_)
        refine p_then_r ?_
        refine p_blk_r ?_
        refine p_then_r ?_
        refine p_then_r ?_
        refine p_blk_r ?_
        refine p_then_r ?_
        obtain rfl := some_in hF
        exact f_ret Z (run_results1 rfl Z rfl) ⟨rfl, I2, (H.sub [] rfl).eq rfl⟩
       ·replace hF := ite_f hc7 hF
        refine wp_skip ?_
        refine p_then (wp_seq ?_)
        obtain ⟨hg2, hF⟩ := chk_in hF
        obtain ⟨hg3, hF⟩ := chk_in hF
        refine f_quietd (by kernel_rfl) (by kernel_rfl) Z fun Z => ?_
        refine q_runk tOps Z 3 rfl rfl fun a Z => ?_
        refine jO Z (pp b1 2) rfl (wantB_t _) (.n 1 rfl .z) (fun hp _ hw => Ob_c tOps rfl) fun a Z => ?_
        refine jO Z _ rfl (wantB_t _) (.c 55 rfl id .z) (fun hp _ hw => oL tOps rfl rfl ((H.blw hw).bc 1 2 rfl rfl)) fun a Z => ?_
        refine jO Z (vI i) rfl (wantB_t _) (.n 3 rfl .z) (fun hp _ hw => Ob_c tOps rfl) fun a Z => ?_
        refine jO Z (vI (i - 1)) rfl (wantB_t _) (.c 57 rfl id .z) (fun hp _ hw => Ob_sub rfl rfl rfl (wrI (hg2 hp))) fun a Z => ?_
        refine jO Z (.pointer (some ⟨blkOf v1_b, oofOf v1_b + (i - 1).toNat * 3, none⟩)) rfl (wantB_t _) (.c 56 rfl id (.c 58 rfl id .z)) (fun hp _ hw => Ob_sidx tOps rfl rfl rfl rfl (slPl ((H.blw hw).sl 2 rfl) (hg3 hp)) (hg3 hp)) fun a Z => ?_
        refine jO Z (.pointer (some ⟨blkOf v1_b, oofOf v1_b + (i - 1).toNat * 3, none⟩)) rfl (wantB_t _) (.c 59 rfl id .z) (fun hp _ hw => Ob_c tOps rfl) fun a Z => ?_
        refine jO Z (vS ((b.ops.getD (i - 1).toNat default).key)) rfl (wantB_t _) (.c 60 rfl id .z) (fun hp _ hw => oL tOps rfl rfl ((slFl ((H.blw hw).sl 2 rfl) (hg3 hp)) 0 _ rfl)) fun a Z => ?_
        refine jO Z (pp b2 0) rfl (wantB_t _) (.n 4 rfl .z) (fun hp _ hw => Ob_c tOps rfl) fun a Z => ?_
        refine jO Z _ rfl (wantB_t _) (.c 62 rfl id .z) (fun hp _ hw => oL tOps rfl rfl ((H.blw hw).bc 0 0 rfl rfl)) fun a Z => ?_
        refine jO Z (vT (!sltB ((b.ops.getD (i - 1).toNat default).key) ((gi b.ops i).key))) rfl (wantB_t _) (.c 61 rfl id (.c 63 rfl id .z)) (fun hp _ hw => Ob_c tOps rfl) fun a Z => ?_
        refine qO Z (vT ((decide (i > 0)) && (!sltB ((b.ops.getD (i - 1).toNat default).key) ((gi b.ops i).key)))) rfl (fun _ hw => Ob_pick rfl rfl rfl rfl (pick_and _ _)) fun a Z => ?_
        refine q_end Z [1, 2, 3, 25, 26, 27, 28, 29, 32, 33, 34, 35, 36, 4, 37, 38, 39, 40, 41, 42, 43, 44, 45, 46, 47, 51, 52, 53, 54, 65] rfl fun w6 hb Z => ?_
        replace H := H.blw hb
        clear hb
        refine p_then ?_
        refine f_cond Z rfl (fun hc8 => ?_) (fun hc8 => ?_)
        ·replace hF := ite_t hc8 hF
         refine sR Z fun Z => ?_
         refine s_runk tOps Z 1 rfl rfl fun a Z => ?_
         refine s_end Z [1, 2, 3, 25, 26, 27, 28, 29, 32, 33, 34, 35, 36, 4, 37, 38, 39, 40, 41, 42, 43, 44, 45, 46, 47, 51, 52, 53, 54, 65] rfl fun Z => ?_
         refine p_then (wp_ret ?_)
         refine p_blk_r ?_
         refine p_then_r ?_
         refine p_then_r ?_
         refine p_blk_r ?_
         refine p_then_r ?_
         obtain rfl := some_in hF
         exact f_ret Z (run_results1 rfl Z rfl) ⟨rfl, I2, (H.sub [] rfl).eq rfl⟩
        ·replace hF := ite_f hc8 hF
         refine wp_skip ?_
         refine p_blk ?_
         refine p_then ?_
         obtain ⟨hg4, hF⟩ := chk_in hF
         refine f_region Z fun Z => ?_
         refine s_runk tOps Z 1 rfl rfl fun a Z => ?_
         refine sO Z (vI (i + 1)) rfl (Ob_add rfl rfl rfl (wrI hg4)) fun a Z => ?_
         refine s_runk tOps Z 1 rfl rfl fun a Z => ?_
         refine s_end Z [1, 2, 3, 25, 26, 27, 28, 29, 32, 33, 34, 35, 36, 4, 37, 38, 39, 40, 41, 42, 43, 44, 45, 46, 47, 51, 52, 53, 54, 65, 30, 31] rfl fun Z => ?_
         refine p_then ?_
         exact ⟨(i + 1), ⟨Z.sub (ts := [1, 2, 3]) rfl, ⟨I2, (H.sub [(1, false), (1, true)] rfl).eq rfl⟩⟩, hF⟩
    ·replace hF := ite_f hc4 hF
     refine wp_exit ?_
     refine p_then_x ?_
     refine p_then_x ?_
     refine f_exit_here ?_
     refine pR Z fun Z => ?_
     refine s_runk tOps Z 1 rfl rfl fun a Z => ?_
     refine s_end Z [2] rfl fun Z => ?_
     refine p_then (wp_ret ?_)
     obtain rfl := some_in hF
     exact f_ret Z (run_results1 rfl Z rfl) ⟨rfl, I1, (H.sub [] rfl).eq rfl⟩

end Go.Proofs.YtglfajjcgbfehaaGreat

namespace Go.Proofs.YtglfajjcgbfehaaGreat
open Go.RowKit
def tOps1L : TabL := ⟨[(43008, 0), (43009, 1), (43010, 2)], [], [], [(40, (58, 3))], [(3, (1, false)), (40, (1, false)), (42, (3, true)), (58, (3, true))]⟩

def tOps1 : Tab Tryz.prog := ⟨tOps1L, by kernel_rfl⟩

theorem fn_94_YOps1 : IsFn Tryz.prog 94 := ⟨_, Tryz.func94, by kernel_rfl, by kernel_rfl⟩

theorem neq_EOp (x y : EOp) (w : World) : (binOp .neq 58 (.agg (cEOp x).toArray) (.agg (cEOp y).toArray)).run Tryz.prog w = .ok (.bool (!eqEOp x y)) w := by
 have h1 := run_equalIn_struct (P := Tryz.prog) w 9999 58 (cEOp x).toArray (cEOp y).toArray (by rw [fieldsOf_of Tryz.underlying58]; exact Tryz.underlying58) (by kernel_rfl)
 rw [run_neq_struct, h1, fieldsOf_of Tryz.underlying58]
 simp [Op.eqFields, part, isAgg, cEOp, beqS, eqEOp, seqB_eq, run_underlying Tryz.underlying9, run_equalIn_string w 9998 9 _ _ Tryz.underlying9, run_underlying Tryz.underlying4, run_equalIn_bool' w 9998 4 _ _ Tryz.underlying4]
 try ((repeat' split) <;> simp_all)

theorem eqg_EOp (op : BinOp) (x y : Operand) (a b : Array Value) (w : World) : (eqGuard op 58 x y (.agg a) (.agg b)).run Tryz.prog w = .ok () w := run_eqGuard_agg (by kernel_rfl) op x y a b w

def F_ref06_SameOps_l1 (a0 : List EOp) (b : List EOp) (rc : Int → Option Bool) (sg : Int) : Option Bool := match sg with | i => if ((decide (i < (a0.length : Int))) && (decide (i < (b.length : Int)))) = true then (chk ((0 : Int) ≤ i ∧ i < (a0.length : Int)) (chk ((0 : Int) ≤ i ∧ i < (b.length : Int)) (if (!eqEOp (a0.getD (i).toNat default) (b.getD (i).toNat default)) = true then (some false) else (chk (inI (i + 1)) (rc (i + 1)))))) else (some true)

def F_ref06_SameOps (a0 : List EOp) (b : List EOp) : Option Bool := if ((a0.length : Int) != (b.length : Int)) = true then (some false) else (iter (F_ref06_SameOps_l1 a0 b) FU 0)

set_option maxHeartbeats 1000000 in
theorem c_ref06_SameOps {I D : Dm} {a0 : List EOp} {v1_a0 : Value} {b : List EOp} {v2_b : Value} {w : World} {rr : Bool} (hF : F_ref06_SameOps a0 b = some rr) (H : St I D w [SlC NEOp v1_a0 a0, SlC NEOp v2_b b]) :
  Calls Tryz.prog 94 #[v1_a0, v2_b] w (Ret fun vv w' => vv = vT rr ∧ ∃ I', Hf I D w I' w' []) := by
 replace H := H.hf
 unfold F_ref06_SameOps at hF
 refine f_enter 32 Tryz.func94 rfl rfl (Nat.le_of_ble_eq_true rfl) fun a Z => ?_
 replace Z := Z.sub (ts := [0, 1]) rfl
 refine sR Z fun Z => ?_
 refine s_runk tOps1 Z 1 rfl rfl fun a Z => ?_
 refine s_end Z [0, 1, 4] rfl fun Z => ?_
 refine p_then (wp_seq ?_)
 refine sR Z fun Z => ?_
 refine s_runk tOps1 Z 1 rfl rfl fun a Z => ?_
 refine sO Z (vI (ln a0)) rfl (Ob_slen tOps1 rfl rfl rfl (H.slshape 0 rfl)) fun a Z => ?_
 refine s_runk tOps1 Z 1 rfl rfl fun a Z => ?_
 refine sO Z (vI (ln b)) rfl (Ob_slen tOps1 rfl rfl rfl (H.slshape 1 rfl)) fun a Z => ?_
 refine s_runk tOps1 Z 1 rfl rfl fun a Z => ?_
 refine s_end Z [0, 1, 4, 10] rfl fun Z => ?_
 refine p_then ?_
 refine f_cond Z rfl (fun hc1 => ?_) (fun hc1 => ?_)
 ·replace hF := ite_t hc1 hF
  refine sR Z fun Z => ?_
  refine s_runk tOps1 Z 1 rfl rfl fun a Z => ?_
  refine s_end Z [0, 1, 4] rfl fun Z => ?_
  refine p_then (wp_ret ?_)
  refine p_then_r ?_
  obtain rfl := some_in hF
  exact f_ret Z (run_results1 rfl Z rfl) ⟨rfl, I, (H.sub [] rfl).eq rfl⟩
 ·replace hF := ite_f hc1 hF
  refine wp_skip ?_
  refine p_then (wp_seq ?_)
  refine sR Z fun Z => ?_
  refine s_runk tOps1 Z 1 rfl rfl fun a Z => ?_
  refine s_end Z [0, 1, 4, 5] rfl fun Z => ?_
  refine p_then (wp_block ?_)
  refine f_iter hF (fun sg a' w' => match sg with | i => Sl 32 [(0, v1_a0), (1, v2_b), (4, vT false), (5, vI i)] a' ∧ ∃ I2, Hf I D w I2 w' [SlC NEOp v1_a0 a0, SlC NEOp v2_b b]) ⟨Z.sub (ts := [0, 1, 4, 5]) rfl, ⟨I, (H.sub [(0, true), (1, true)] rfl).eq rfl⟩⟩ ?_
  rintro rc i a w1 ⟨Z, I1, H⟩ hF
  unfold F_ref06_SameOps_l1 at hF
  try dsimp only at hF
  refine wp_seq ?_
  refine sR Z fun Z => ?_
  refine s_runk tOps1 Z 2 rfl rfl fun a Z => ?_
  refine sO Z (vI (ln a0)) rfl (Ob_slen tOps1 rfl rfl rfl (H.slshape 0 rfl)) fun a Z => ?_
  refine s_runk tOps1 Z 2 rfl rfl fun a Z => ?_
  refine gO Z (vI i) rfl (wantB_t _) (.n 5 rfl .z) (fun hp => Ob_c tOps1 rfl) fun a Z => ?_
  refine gO Z v2_b rfl (wantB_t _) (.n 1 rfl .z) (fun hp => Ob_c tOps1 rfl) fun a Z => ?_
  refine gO Z (vI (ln b)) rfl (wantB_t _) (.c 17 rfl id .z) (fun hp => Ob_slen tOps1 rfl rfl rfl (H.slshape 1 rfl)) fun a Z => ?_
  refine gO Z (vT (decide (i < (ln b)))) rfl (wantB_t _) (.c 16 rfl id (.c 18 rfl id .z)) (fun hp => Ob_c tOps1 rfl) fun a Z => ?_
  refine sO Z (vT ((decide (i < (ln a0))) && (decide (i < (ln b))))) rfl (Ob_pick rfl rfl rfl rfl (pick_and _ _)) fun a Z => ?_
  refine s_end Z [0, 1, 4, 5, 11, 12, 13, 14, 15, 20] rfl fun Z => ?_
  refine p_then ?_
  refine f_cond Z rfl (fun hc2 => ?_) (fun hc2 => ?_)
  ·replace hF := ite_t hc2 hF
   refine wp_skip ?_
   refine p_then (wp_seq ?_)
   refine wp_block ?_
   refine wp_seq ?_
   obtain ⟨hg1, hF⟩ := chk_in hF
   obtain ⟨hg2, hF⟩ := chk_in hF
   refine f_quietd (by kernel_rfl) (by kernel_rfl) Z fun Z => ?_
   refine q_runk tOps1 Z 2 rfl rfl fun a Z => ?_
   refine qO Z (.pointer (some ⟨blkOf v1_a0, oofOf v1_a0 + (i).toNat * 3, none⟩)) rfl (fun _ hw => Ob_sidx tOps1 rfl rfl rfl rfl (slPl ((H.blw hw).sl 0 rfl) hg1) hg1) fun a Z => ?_
   refine qO Z (.agg #[vS ((gi a0 i).key), vS ((gi a0 i).val), vT ((gi a0 i).del)]) rfl (fun _ hw => oA tOps1 rfl rfl ((slFl ((H.blw hw).sl 0 rfl) hg1).part 0 rfl)) fun a Z => ?_
   refine q_runk tOps1 Z 2 rfl rfl fun a Z => ?_
   refine qO Z (.pointer (some ⟨blkOf v2_b, oofOf v2_b + (i).toNat * 3, none⟩)) rfl (fun _ hw => Ob_sidx tOps1 rfl rfl rfl rfl (slPl ((H.blw hw).sl 1 rfl) hg2) hg2) fun a Z => ?_
   refine qO Z (.agg #[vS ((gi b i).key), vS ((gi b i).val), vT ((gi b i).del)]) rfl (fun _ hw => oA tOps1 rfl rfl ((slFl ((H.blw hw).sl 1 rfl) hg2).part 0 rfl)) fun a Z => ?_
   refine qO Z (vT (!eqEOp (gi a0 i) (gi b i))) rfl (fun _ hw => Ob_bin rfl rfl rfl (eqg_EOp _ _ _ _ _ _) (neq_EOp (gi a0 i) (gi b i) _)) fun a Z => ?_
   refine q_end Z [0, 1, 4, 5, 11, 12, 13, 14, 15, 20, 23, 24, 25, 26, 27, 28, 29, 30, 31] rfl fun w2 hb Z => ?_
   replace H := H.blw hb
   clear hb
   refine p_then ?_
   refine f_cond Z rfl (fun hc3 => ?_) (fun hc3 => ?_)
   ·replace hF := ite_t hc3 hF
    refine sR Z fun Z => ?_
    refine s_runk tOps1 Z 1 rfl rfl fun a Z => ?_
    refine s_end Z [0, 1, 4, 5, 11, 12, 13, 14, 15, 20, 23, 24, 25, 26, 27, 28, 29, 30, 31] rfl fun Z => ?_
    refine p_then (wp_ret ?_)
    refine p_blk_r ?_
    refine p_then_r ?_
    refine p_then_r ?_
    refine p_blk_r ?_
    refine p_then_r ?_
    obtain rfl := some_in hF
    exact f_ret Z (run_results1 rfl Z rfl) ⟨rfl, I1, (H.sub [] rfl).eq rfl⟩
   ·replace hF := ite_f hc3 hF
    refine wp_skip ?_
    refine p_blk ?_
    refine p_then ?_
    obtain ⟨hg3, hF⟩ := chk_in hF
    refine f_region Z fun Z => ?_
    refine s_runk tOps1 Z 1 rfl rfl fun a Z => ?_
    refine sO Z (vI (i + 1)) rfl (Ob_add rfl rfl rfl (wrI hg3)) fun a Z => ?_
    refine s_runk tOps1 Z 1 rfl rfl fun a Z => ?_
    refine s_end Z [0, 1, 4, 5, 11, 12, 13, 14, 15, 20, 23, 24, 25, 26, 27, 28, 29, 30, 31, 21, 22] rfl fun Z => ?_
    refine p_then ?_
    exact ⟨(i + 1), ⟨Z.sub (ts := [0, 1, 4, 5]) rfl, ⟨I1, (H.sub [(0, true), (1, true)] rfl).eq rfl⟩⟩, hF⟩
  ·replace hF := ite_f hc2 hF
   refine wp_exit ?_
   refine p_then_x ?_
   refine p_then_x ?_
   refine f_exit_here ?_
   refine pR Z fun Z => ?_
   refine s_runk tOps1 Z 1 rfl rfl fun a Z => ?_
   refine s_end Z [4] rfl fun Z => ?_
   refine p_then (wp_ret ?_)
   obtain rfl := some_in hF
   exact f_ret Z (run_results1 rfl Z rfl) ⟨rfl, I1, (H.sub [] rfl).eq rfl⟩

def F_ref06_Same (a0 : EBatch) (b : EBatch) : Option Bool := (gif ((a0.client == b.client) && (a0.req == b.req)) (F_ref06_SameOps a0.ops b.ops) default).bind fun s0 => (some (((a0.client == b.client) && (a0.req == b.req)) && s0))

set_option maxHeartbeats 1000000 in
theorem c_ref06_Same {I D : Dm} {a0 : EBatch} {v1_a0 : Value} {b : EBatch} {v2_b : Value} {w : World} {rr : Bool} (hF : F_ref06_Same a0 b = some rr) (H : St I D w [SlC NEOp v1_a0 a0.ops, SlC NEOp v2_b b.ops]) :
  Calls Tryz.prog 80 #[.agg #[vI a0.client, vI a0.req, v1_a0], .agg #[vI b.client, vI b.req, v2_b]] w (Ret fun vv w' => vv = vT rr ∧ ∃ I', Hf I D w I' w' []) := by
 replace H := H.hf
 unfold F_ref06_Same at hF
 refine f_enter 24 Tryz.func80 rfl rfl (Nat.le_of_ble_eq_true rfl) fun a Z => ?_
 replace Z := Z.sub (ts := [0, 1]) rfl
 refine sR Z fun Z => ?_
 refine hB Z H [vI a0.client, vI a0.req, v1_a0] rfl rfl rfl rfl fun a w1 b1 H Z => ?_
 refine hB Z H [vI b.client, vI b.req, v2_b] rfl rfl rfl rfl fun a w2 b2 H Z => ?_
 refine s_runk tOps1 Z 1 rfl rfl fun a Z => ?_
 refine s_end Z [2, 3, 4] rfl fun Z => ?_
 refine p_then (wp_seq ?_)
 obtain ⟨s0, hx1, hF⟩ := bnd_in hF
 refine f_region Z fun Z => ?_
 refine s_runk tOps1 Z 1 rfl rfl fun a Z => ?_
 refine sO Z _ rfl (oL tOps1 rfl rfl (H.bc 1 0 rfl rfl)) fun a Z => ?_
 refine s_runk tOps1 Z 1 rfl rfl fun a Z => ?_
 refine sO Z _ rfl (oL tOps1 rfl rfl (H.bc 0 0 rfl rfl)) fun a Z => ?_
 refine s_runk tOps1 Z 2 rfl rfl fun a Z => ?_
 refine gO Z (pp b1 1) rfl (wantB_t _) (.n 2 rfl .z) (fun hp => Ob_c tOps1 rfl) fun a Z => ?_
 refine gO Z _ rfl (wantB_t _) (.c 11 rfl id .z) (fun hp => oL tOps1 rfl rfl (H.bc 1 1 rfl rfl)) fun a Z => ?_
 refine gO Z (pp b2 1) rfl (wantB_t _) (.n 3 rfl .z) (fun hp => Ob_c tOps1 rfl) fun a Z => ?_
 refine gO Z _ rfl (wantB_t _) (.c 13 rfl id .z) (fun hp => oL tOps1 rfl rfl (H.bc 0 1 rfl rfl)) fun a Z => ?_
 refine gO Z (vT (a0.req == b.req)) rfl (wantB_t _) (.c 12 rfl id (.c 14 rfl id .z)) (fun hp => Ob_c tOps1 rfl) fun a Z => ?_
 refine sO Z (vT ((a0.client == b.client) && (a0.req == b.req))) rfl (Ob_pick rfl rfl rfl rfl (pick_and _ _)) fun a Z => ?_
 refine s_runk tOps1 Z 1 rfl rfl fun a Z => ?_
 refine gO Z (pp b1 2) rfl (wantB_t _) (.n 2 rfl .z) (fun hp => Ob_c tOps1 rfl) fun a Z => ?_
 refine gO Z _ rfl (wantB_t _) (.c 18 rfl id .z) (fun hp => oL tOps1 rfl rfl (H.bc 1 2 rfl rfl)) fun a Z => ?_
 refine gO Z (pp b2 2) rfl (wantB_t _) (.n 3 rfl .z) (fun hp => Ob_c tOps1 rfl) fun a Z => ?_
 refine gO Z _ rfl (wantB_t _) (.c 20 rfl id .z) (fun hp => oL tOps1 rfl rfl (H.bc 0 2 rfl rfl)) fun a Z => ?_
 refine g_call Z (p := ((a0.client == b.client) && (a0.req == b.req))) (v := vT s0) (S' := [(19, v1_a0), (21, v2_b)]) (caps := #[]) fn_94_YOps1 rfl rfl rfl (wantB_t _) rfl (by decide) (fun hp hS => ((hS.conv (t := 19) rfl (cond_t hp)).conv (t := 21) rfl (cond_t hp)).sub (ts := [19, 21]) rfl) rfl rfl rfl rfl (fun hp => (have hq := c_ref06_SameOps (gif_in hx1 hp) ((H).pick0 (js := [(2, true), (3, true)]) rfl rfl); plainC hq)) fun a w3 hb Z => ?_
 replace H := H.blw hb
 clear hb
 refine sO Z (vT (((a0.client == b.client) && (a0.req == b.req)) && s0)) rfl (Ob_pick rfl rfl rfl rfl (pick_and _ _)) fun a Z => ?_
 refine s_runk tOps1 Z 1 rfl rfl fun a Z => ?_
 refine s_end Z [4] rfl fun Z => ?_
 refine p_then (wp_ret ?_)
 obtain rfl := some_in hF
 exact f_ret Z (run_results1 rfl Z rfl) ⟨rfl, I, (H.sub [] rfl).eq rfl⟩

end Go.Proofs.YtglfajjcgbfehaaGreat

namespace Go.Proofs.YtglfajjcgbfehaaGreat
open Go.RowKit
def tIL : TabL := ⟨[(45056, 0), (45057, 3)], [], [], [], [(29, (1, false)), (42, (3, true)), (44, (4, true))]⟩

def tI : Tab Tryz.prog := ⟨tIL, by kernel_rfl⟩

theorem fn_80_YItem : IsFn Tryz.prog 80 := ⟨_, Tryz.func80, by kernel_rfl, by kernel_rfl⟩

theorem fn_81_YItem : IsFn Tryz.prog 81 := ⟨_, Tryz.func81, by kernel_rfl, by kernel_rfl⟩

theorem fn_93_YItem : IsFn Tryz.prog 93 := ⟨_, Tryz.func93, by kernel_rfl, by kernel_rfl⟩

def F_ref08_Check (e : EEntry) : Option Int := (F_ref06_Check e.batch).bind fun c => (some c)

set_option maxHeartbeats 1000000 in
theorem c_ref08_Check {I D : Dm} {e : EEntry} {v1_e : Value} {w : World} {rr : Int} (hF : F_ref08_Check e = some rr) (H : St I D w [SlC NEOp v1_e e.batch.ops]) :
  Calls Tryz.prog 69 #[.agg (cEEntry e v1_e).toArray] w (Ret fun vv w' => vv = vI rr ∧ ∃ I', Hf I D w I' w' []) := by
 replace H := H.hf
 unfold F_ref08_Check at hF
 refine f_enter 6 Tryz.func69 rfl rfl (Nat.le_of_ble_eq_true rfl) fun a Z => ?_
 replace Z := Z.sub (ts := [0]) rfl
 refine sR Z fun Z => ?_
 refine h_boxv Z H (cl := (cEEntry e v1_e)) rfl rfl rfl (by decide) rfl rfl rfl fun a w1 b1 H Z => ?_
 refine s_runk tI Z 1 rfl rfl fun a Z => ?_
 refine s_end Z [1, 2] rfl fun Z => ?_
 refine p_then (wp_seq ?_)
 obtain ⟨c, hx1, hF⟩ := bnd_in hF
 refine f_region Z fun Z => ?_
 refine s_runk tI Z 1 rfl rfl fun a Z => ?_
 refine sO Z (.agg #[vI e.batch.client, vI e.batch.req, v1_e]) rfl (oA tI rfl rfl ((H.bx 0 rfl).part 0 rfl)) fun a Z => ?_
 refine hC Z H [(1, true)] rfl #[] fn_93_YItem rfl rfl (fun D h => have q := c_ref06_Check hx1 h; q) fun vv a w2 D2 hr hF2 Z => ?_
 obtain ⟨rfl, I1, K⟩ := hr
 have H := (hF2 K).nf rfl
 refine s_runk tI Z 1 rfl rfl fun a Z => ?_
 refine s_end Z [2] rfl fun Z => ?_
 refine p_then (wp_ret ?_)
 obtain rfl := some_in hF
 exact f_ret Z (run_results1 rfl Z rfl) ⟨rfl, I1, (H.sub [] rfl).eq rfl⟩

def F_item_Check (e : EEntry) : Option Int := (F_ops_Check e.batch).bind fun c => (some c)

set_option maxHeartbeats 1000000 in
theorem c_item_Check {I D : Dm} {e : EEntry} {v1_e : Value} {w : World} {rr : Int} (hF : F_item_Check e = some rr) (H : St I D w [SlC NEOp v1_e e.batch.ops]) :
  Calls Tryz.prog 53 #[.agg (cEEntry e v1_e).toArray] w (Ret fun vv w' => vv = vI rr ∧ ∃ I', Hf I D w I' w' []) := by
 replace H := H.hf
 unfold F_item_Check at hF
 refine f_enter 6 Tryz.func53 rfl rfl (Nat.le_of_ble_eq_true rfl) fun a Z => ?_
 replace Z := Z.sub (ts := [0]) rfl
 refine sR Z fun Z => ?_
 refine h_boxv Z H (cl := (cEEntry e v1_e)) rfl rfl rfl (by decide) rfl rfl rfl fun a w1 b1 H Z => ?_
 refine s_runk tI Z 1 rfl rfl fun a Z => ?_
 refine s_end Z [1, 2] rfl fun Z => ?_
 refine p_then (wp_seq ?_)
 obtain ⟨c, hx1, hF⟩ := bnd_in hF
 refine f_region Z fun Z => ?_
 refine s_runk tI Z 1 rfl rfl fun a Z => ?_
 refine sO Z (.agg #[vI e.batch.client, vI e.batch.req, v1_e]) rfl (oA tI rfl rfl ((H.bx 0 rfl).part 0 rfl)) fun a Z => ?_
 refine hC Z H [(1, true)] rfl #[] fn_81_YItem rfl rfl (fun D h => have q := c_ops_Check hx1 h; q) fun vv a w2 D2 hr hF2 Z => ?_
 obtain ⟨rfl, I1, K⟩ := hr
 have H := (hF2 K).nf rfl
 refine s_runk tI Z 1 rfl rfl fun a Z => ?_
 refine s_end Z [2] rfl fun Z => ?_
 refine p_then (wp_ret ?_)
 obtain rfl := some_in hF
 exact f_ret Z (run_results1 rfl Z rfl) ⟨rfl, I1, (H.sub [] rfl).eq rfl⟩

def F_ref08_Same (a0 : EEntry) (b : EEntry) : Option Bool := (gif (a0.ts == b.ts) (F_ref06_Same a0.batch b.batch) default).bind fun s0 => (some ((a0.ts == b.ts) && s0))

set_option maxHeartbeats 1000000 in
theorem c_ref08_Same {I D : Dm} {a0 : EEntry} {v1_a0 : Value} {b : EEntry} {v2_b : Value} {w : World} {rr : Bool} (hF : F_ref08_Same a0 b = some rr) (H : St I D w [SlC NEOp v1_a0 a0.batch.ops, SlC NEOp v2_b b.batch.ops]) :
  Calls Tryz.prog 42 #[.agg (cEEntry a0 v1_a0).toArray, .agg (cEEntry b v2_b).toArray] w (Ret fun vv w' => vv = vT rr ∧ ∃ I', Hf I D w I' w' []) := by
 replace H := H.hf
 unfold F_ref08_Same at hF
 refine f_enter 17 Tryz.func42 rfl rfl (Nat.le_of_ble_eq_true rfl) fun a Z => ?_
 replace Z := Z.sub (ts := [0, 1]) rfl
 refine sR Z fun Z => ?_
 refine h_boxv Z H (cl := (cEEntry a0 v1_a0)) rfl rfl rfl (by decide) rfl rfl rfl fun a w1 b1 H Z => ?_
 refine h_boxv Z H (cl := (cEEntry b v2_b)) rfl rfl rfl (by decide) rfl rfl rfl fun a w2 b2 H Z => ?_
 refine s_runk tI Z 1 rfl rfl fun a Z => ?_
 refine s_end Z [2, 3, 4] rfl fun Z => ?_
 refine p_then (wp_seq ?_)
 obtain ⟨s0, hx1, hF⟩ := bnd_in hF
 refine f_region Z fun Z => ?_
 refine s_runk tI Z 1 rfl rfl fun a Z => ?_
 refine sO Z _ rfl (oL tI rfl rfl (H.bc 1 3 rfl rfl)) fun a Z => ?_
 refine s_runk tI Z 1 rfl rfl fun a Z => ?_
 refine sO Z _ rfl (oL tI rfl rfl (H.bc 0 3 rfl rfl)) fun a Z => ?_
 refine s_runk tI Z 2 rfl rfl fun a Z => ?_
 refine gO Z (pp b1 0) rfl (wantB_t _) (.n 2 rfl .z) (fun hp => Ob_c tI rfl) fun a Z => ?_
 refine gO Z (.agg #[vI a0.batch.client, vI a0.batch.req, v1_a0]) rfl (wantB_t _) (.c 11 rfl id .z) (fun hp => oA tI rfl rfl ((H.bx 1 rfl).part 0 rfl)) fun a Z => ?_
 refine gO Z (pp b2 0) rfl (wantB_t _) (.n 3 rfl .z) (fun hp => Ob_c tI rfl) fun a Z => ?_
 refine gO Z (.agg #[vI b.batch.client, vI b.batch.req, v2_b]) rfl (wantB_t _) (.c 13 rfl id .z) (fun hp => oA tI rfl rfl ((H.bx 0 rfl).part 0 rfl)) fun a Z => ?_
 refine g_call Z (p := (a0.ts == b.ts)) (v := vT s0) (S' := [(12, .agg #[vI a0.batch.client, vI a0.batch.req, v1_a0]), (14, .agg #[vI b.batch.client, vI b.batch.req, v2_b])]) (caps := #[]) fn_80_YItem rfl rfl rfl (wantB_t _) rfl (by decide) (fun hp hS => ((hS.conv (t := 12) rfl (cond_t hp)).conv (t := 14) rfl (cond_t hp)).sub (ts := [12, 14]) rfl) rfl rfl rfl rfl (fun hp => (have hq := c_ref06_Same (gif_in hx1 hp) ((H).pick0 (js := [(2, true), (3, true)]) rfl rfl); plainC hq)) fun a w3 hb Z => ?_
 replace H := H.blw hb
 clear hb
 refine sO Z (vT ((a0.ts == b.ts) && s0)) rfl (Ob_pick rfl rfl rfl rfl (pick_and _ _)) fun a Z => ?_
 refine s_runk tI Z 1 rfl rfl fun a Z => ?_
 refine s_end Z [4] rfl fun Z => ?_
 refine p_then (wp_ret ?_)
 obtain rfl := some_in hF
 exact f_ret Z (run_results1 rfl Z rfl) ⟨rfl, I, (H.sub [] rfl).eq rfl⟩

end Go.Proofs.YtglfajjcgbfehaaGreat

namespace Go.Proofs.YtglfajjcgbfehaaGreat
open Go.RowKit
structure EPin where
 id : Int
 at_ : Int
 left : Int

instance : Inhabited EPin := ⟨⟨0, 0, 0⟩⟩

def cEPin (x : EPin) : List Value := [.int .i64 x.id, .int .u64 x.at_, .int .i64 x.left]

def NEPin : Rp EPin := Rp.flat 3 (fun _ => True) (fun x => cEPin x) (fun _ => rfl) (fun x c hc => by simp only [cEPin, List.mem_cons, List.not_mem_nil, or_false] at hc; rcases hc with rfl | rfl | rfl <;> rfl)

structure EAnswer where
 client : Int
 req : Int
 e : Int
 pin : Int

instance : Inhabited EAnswer := ⟨⟨0, 0, 0, 0⟩⟩

def cEAnswer (x : EAnswer) : List Value := [.int .i64 x.client, .int .i64 x.req, .int .i64 x.e, .int .i64 x.pin]

def NEAnswer : Rp EAnswer := Rp.flat 4 (fun _ => True) (fun x => cEAnswer x) (fun _ => rfl) (fun x c hc => by simp only [cEAnswer, List.mem_cons, List.not_mem_nil, or_false] at hc; rcases hc with rfl | rfl | rfl | rfl <;> rfl)

structure ENote where
 k : Int
 n : Int
 at_ : Int
 conf : EConf
 legit : List Int
 entry : EEntry
 pin : EPin
 said : EAnswer

instance : Inhabited ENote := ⟨⟨0, 0, 0, default, [], default, default, default⟩⟩

def cENote (x : ENote) (v0 : Value) (v1 : Value) (v2 : Value) : List Value := [.int .i64 x.k, .int .i64 x.n, .int .u64 x.at_, .int .i64 x.conf.epoch, v0, .int .u64 x.conf.floor, v1, .int .i64 x.entry.batch.client, .int .i64 x.entry.batch.req, v2, .int .u64 x.entry.ts, .int .i64 x.pin.id, .int .u64 x.pin.at_, .int .i64 x.pin.left, .int .i64 x.said.client, .int .i64 x.said.req, .int .i64 x.said.e, .int .i64 x.said.pin]

def NENote : Rp ENote where
 n := 18
 rep A w cs x := ∃ v0 v1 v2 : Value, cs = cENote x v0 v1 v2 ∧ slRep NEMember A w v0 x.conf.members ∧ slRep Ni64 A w v1 x.legit ∧ slRep NEOp A w v2 x.entry.batch.ops
 len := fun ⟨v0, v1, v2, h, _⟩ => by rw [h]; rfl
 one := fun ⟨v0, v1, v2, h, s0, s1, s2⟩ c hc => by
  rw [h] at hc
  simp only [cENote, List.mem_cons, List.not_mem_nil, or_false] at hc
  rcases hc with rfl | rfl | rfl | rfl | rfl | rfl | rfl | rfl | rfl | rfl | rfl | rfl | rfl | rfl | rfl | rfl | rfl | rfl
  ·rfl
  ·rfl
  ·rfl
  ·rfl
  ·exact s0.one
  ·rfl
  ·exact s1.one
  ·rfl
  ·rfl
  ·exact s2.one
  ·rfl
  ·rfl
  ·rfl
  ·rfl
  ·rfl
  ·rfl
  ·rfl
  ·rfl
 mono := fun ⟨v0, v1, v2, h, s0, s1, s2⟩ hA hk => ⟨v0, v1, v2, h, s0.mono hA hk, s1.mono hA hk, s2.mono hA hk⟩
 bound := fun ⟨v0, v1, v2, h, s0, s1, s2⟩ => ⟨v0, v1, v2, h, s0.bound, s1.bound, s2.bound⟩

theorem NENote.dft (A : Dm) (w : World) : ∃ cl, NENote.rep A w cl default := ⟨_, .slice none 0 0, .slice none 0 0, .slice none 0 0, rfl, slRep.nil _ _ _ _ _ (Nat.zero_le _), slRep.nil _ _ _ _ _ (Nat.zero_le _), slRep.nil _ _ _ _ _ (Nat.zero_le _)⟩

def tNL : TabL := ⟨[(47104, 0), (47106, 2), (49152, 0), (49153, 1), (49154, 2), (49155, 3), (51200, 0), (51201, 1), (51203, 3), (51204, 6), (51205, 7), (51206, 11), (51207, 14)], [], [], [(39, (3, 1))], [(3, (1, false)), (31, (3, true)), (37, (1, false)), (39, (1, false)), (44, (4, true)), (48, (4, true)), (50, (18, true))]⟩

def tN : Tab Tryz.prog := ⟨tNL, by kernel_rfl⟩

theorem fn_50_YNote : IsFn Tryz.prog 50 := ⟨_, Tryz.func50, by kernel_rfl, by kernel_rfl⟩

theorem fn_51_YNote : IsFn Tryz.prog 51 := ⟨_, Tryz.func51, by kernel_rfl, by kernel_rfl⟩

theorem fn_52_YNote : IsFn Tryz.prog 52 := ⟨_, Tryz.func52, by kernel_rfl, by kernel_rfl⟩

theorem fn_53_YNote : IsFn Tryz.prog 53 := ⟨_, Tryz.func53, by kernel_rfl, by kernel_rfl⟩

theorem fn_54_YNote : IsFn Tryz.prog 54 := ⟨_, Tryz.func54, by kernel_rfl, by kernel_rfl⟩

theorem fn_66_YNote : IsFn Tryz.prog 66 := ⟨_, Tryz.func66, by kernel_rfl, by kernel_rfl⟩

theorem fn_67_YNote : IsFn Tryz.prog 67 := ⟨_, Tryz.func67, by kernel_rfl, by kernel_rfl⟩

theorem fn_68_YNote : IsFn Tryz.prog 68 := ⟨_, Tryz.func68, by kernel_rfl, by kernel_rfl⟩

theorem fn_69_YNote : IsFn Tryz.prog 69 := ⟨_, Tryz.func69, by kernel_rfl, by kernel_rfl⟩

theorem fn_70_YNote : IsFn Tryz.prog 70 := ⟨_, Tryz.func70, by kernel_rfl, by kernel_rfl⟩

theorem fn_87_YNote : IsFn Tryz.prog 87 := ⟨_, Tryz.func87, by kernel_rfl, by kernel_rfl⟩

theorem fn_88_YNote : IsFn Tryz.prog 88 := ⟨_, Tryz.func88, by kernel_rfl, by kernel_rfl⟩

theorem fn_89_YNote : IsFn Tryz.prog 89 := ⟨_, Tryz.func89, by kernel_rfl, by kernel_rfl⟩

def F_ref10_legit_l1 (l : List Int) (rc : Int → Option Int) (sg : Int) : Option Int := match sg with | i => if (decide (i < (l.length : Int))) = true then (chk ((0 : Int) ≤ i ∧ i < (l.length : Int)) (chk ((!(decide ((l.getD (i).toNat default) < 0))) = true → (0 : Int) ≤ i ∧ i < (l.length : Int)) (if ((decide ((l.getD (i).toNat default) < 0)) || (decide ((l.getD (i).toNat default) ≥ 4))) = true then (some 1) else (chk ((decide (i > 0)) = true → inI (i - 1)) (chk ((decide (i > 0)) = true → (0 : Int) ≤ i - 1 ∧ i - 1 < (l.length : Int)) (chk ((decide (i > 0)) = true → (0 : Int) ≤ i ∧ i < (l.length : Int)) (if ((decide (i > 0)) && (decide ((l.getD (i - 1).toNat default) ≥ (l.getD (i).toNat default)))) = true then (some 18) else (chk (inI (i + 1)) (rc (i + 1)))))))))) else (some 0)

def F_ref10_legit (l : List Int) : Option Int := if (decide ((l.length : Int) > 4)) = true then (some 6) else (iter (F_ref10_legit_l1 l) FU 0)

set_option maxHeartbeats 1000000 in
theorem c_ref10_legit {I D : Dm} {l : List Int} {v1_l : Value} {w : World} {rr : Int} (hF : F_ref10_legit l = some rr) (H : St I D w [SlC Ni64 v1_l l]) :
  Calls Tryz.prog 67 #[v1_l] w (Ret fun vv w' => vv = vI rr ∧ ∃ I', Hf I D w I' w' []) := by
 replace H := H.hf
 unfold F_ref10_legit at hF
 refine f_enter 39 Tryz.func67 rfl rfl (Nat.le_of_ble_eq_true rfl) fun a Z => ?_
 replace Z := Z.sub (ts := [0]) rfl
 refine sR Z fun Z => ?_
 refine s_runk tN Z 1 rfl rfl fun a Z => ?_
 refine s_end Z [0, 2] rfl fun Z => ?_
 refine p_then (wp_seq ?_)
 refine sR Z fun Z => ?_
 refine s_runk tN Z 1 rfl rfl fun a Z => ?_
 refine sO Z (vI (ln l)) rfl (Ob_slen tN rfl rfl rfl (H.slshape 0 rfl)) fun a Z => ?_
 refine s_runk tN Z 1 rfl rfl fun a Z => ?_
 refine s_end Z [0, 2, 6] rfl fun Z => ?_
 refine p_then ?_
 refine f_cond Z rfl (fun hc1 => ?_) (fun hc1 => ?_)
 ·replace hF := ite_t hc1 hF
  refine sR Z fun Z => ?_
  refine s_runk tN Z 1 rfl rfl fun a Z => ?_
  refine s_end Z [0, 2] rfl fun Z => ?_
  refine p_then (wp_ret ?_)
  refine p_then_r ?_
  obtain rfl := some_in hF
  exact f_ret Z (run_results1 rfl Z rfl) ⟨rfl, I, (H.sub [] rfl).eq rfl⟩
 ·replace hF := ite_f hc1 hF
  refine wp_skip ?_
  refine p_then (wp_seq ?_)
  refine sR Z fun Z => ?_
  refine s_runk tN Z 1 rfl rfl fun a Z => ?_
  refine s_end Z [0, 2, 3] rfl fun Z => ?_
  refine p_then (wp_block ?_)
  refine f_iter hF (fun sg a' w' => match sg with | i => Sl 39 [(0, v1_l), (2, vI 0), (3, vI i)] a' ∧ ∃ I2, Hf I D w I2 w' [SlC Ni64 v1_l l]) ⟨Z.sub (ts := [0, 2, 3]) rfl, ⟨I, (H.sub [(0, true)] rfl).eq rfl⟩⟩ ?_
  rintro rc i a w1 ⟨Z, I1, H⟩ hF
  unfold F_ref10_legit_l1 at hF
  try dsimp only at hF
  refine wp_seq ?_
  refine sR Z fun Z => ?_
  refine s_runk tN Z 2 rfl rfl fun a Z => ?_
  refine sO Z (vI (ln l)) rfl (Ob_slen tN rfl rfl rfl (H.slshape 0 rfl)) fun a Z => ?_
  refine s_runk tN Z 1 rfl rfl fun a Z => ?_
  refine s_end Z [0, 2, 3, 7, 8, 9, 10] rfl fun Z => ?_
  refine p_then ?_
  refine f_cond Z rfl (fun hc2 => ?_) (fun hc2 => ?_)
  ·replace hF := ite_t hc2 hF
   refine wp_skip ?_
   refine p_then (wp_seq ?_)
   refine wp_block ?_
   refine wp_seq ?_
   refine wp_seq ?_
   obtain ⟨hg1, hF⟩ := chk_in hF
   obtain ⟨hg2, hF⟩ := chk_in hF
   refine f_region Z fun Z => ?_
   refine s_runk tN Z 2 rfl rfl fun a Z => ?_
   refine sO Z (.pointer (some ⟨blkOf v1_l, oofOf v1_l + (i).toNat * 1, none⟩)) rfl (Ob_sidx tN rfl rfl rfl rfl (slPl (H.sl 0 rfl) hg1) hg1) fun a Z => ?_
   refine sO Z (vI (gi l i)) rfl (oL tN rfl rfl ((slFl (H.sl 0 rfl) hg1) 0 _ rfl)) fun a Z => ?_
   refine s_runk tN Z 2 rfl rfl fun a Z => ?_
   refine gO Z v1_l rfl (wantB_f _) (.n 0 rfl .z) (fun hp => Ob_c tN rfl) fun a Z => ?_
   refine gO Z (vI i) rfl (wantB_f _) (.n 3 rfl .z) (fun hp => Ob_c tN rfl) fun a Z => ?_
   refine gO Z (.pointer (some ⟨blkOf v1_l, oofOf v1_l + (i).toNat * 1, none⟩)) rfl (wantB_f _) (.c 19 rfl id (.c 20 rfl id .z)) (fun hp => Ob_sidx tN rfl rfl rfl rfl (slPl (H.sl 0 rfl) (hg2 hp)) (hg2 hp)) fun a Z => ?_
   refine gO Z (vI (gi l i)) rfl (wantB_f _) (.c 21 rfl id .z) (fun hp => oL tN rfl rfl ((slFl (H.sl 0 rfl) (hg2 hp)) 0 _ rfl)) fun a Z => ?_
   refine gO Z (vT (decide ((gi l i) ≥ 4))) rfl (wantB_f _) (.c 22 rfl id .z) (fun hp => Ob_c tN rfl) fun a Z => ?_
   refine sO Z (vT ((decide ((gi l i) < 0)) || (decide ((gi l i) ≥ 4)))) rfl (Ob_pick rfl rfl rfl rfl (pick_or _ _)) fun a Z => ?_
   refine s_end Z [0, 2, 3, 7, 8, 9, 10, 13, 14, 15, 16, 17, 18, 24] rfl fun Z => ?_
   refine p_then ?_
   refine f_cond Z rfl (fun hc3 => ?_) (fun hc3 => ?_)
   ·replace hF := ite_t hc3 hF
    refine sR Z fun Z => ?_
    refine s_runk tN Z 1 rfl rfl fun a Z => ?_
    refine s_end Z [0, 2, 3, 7, 8, 9, 10, 13, 14, 15, 16, 17, 18, 24] rfl fun Z => ?_
    refine p_then (wp_ret ?_)
    refine p_then_r ?_
    refine p_blk_r ?_
    refine p_then_r ?_
    refine p_then_r ?_
    refine p_blk_r ?_
    refine p_then_r ?_
    obtain rfl := some_in hF
    exact f_ret Z (run_results1 rfl Z rfl) ⟨rfl, I1, (H.sub [] rfl).eq rfl⟩
   ·replace hF := ite_f hc3 hF
    refine wp_skip ?_
    refine p_then (wp_seq ?_)
    obtain ⟨hg3, hF⟩ := chk_in hF
    obtain ⟨hg4, hF⟩ := chk_in hF
    obtain ⟨hg5, hF⟩ := chk_in hF
    refine f_quietd (by kernel_rfl) (by kernel_rfl) Z fun Z => ?_
    refine q_runk tN Z 3 rfl rfl fun a Z => ?_
    refine jO Z v1_l rfl (wantB_t _) (.n 0 rfl .z) (fun hp _ hw => Ob_c tN rfl) fun a Z => ?_
    refine jO Z (vI i) rfl (wantB_t _) (.n 3 rfl .z) (fun hp _ hw => Ob_c tN rfl) fun a Z => ?_
    refine jO Z (vI (i - 1)) rfl (wantB_t _) (.c 29 rfl id .z) (fun hp _ hw => Ob_sub rfl rfl rfl (wrI (hg3 hp))) fun a Z => ?_
    refine jO Z (.pointer (some ⟨blkOf v1_l, oofOf v1_l + (i - 1).toNat * 1, none⟩)) rfl (wantB_t _) (.c 28 rfl id (.c 30 rfl id .z)) (fun hp _ hw => Ob_sidx tN rfl rfl rfl rfl (slPl ((H.blw hw).sl 0 rfl) (hg4 hp)) (hg4 hp)) fun a Z => ?_
    refine jO Z (vI (l.getD (i - 1).toNat default)) rfl (wantB_t _) (.c 31 rfl id .z) (fun hp _ hw => oL tN rfl rfl ((slFl ((H.blw hw).sl 0 rfl) (hg4 hp)) 0 _ rfl)) fun a Z => ?_
    refine jO Z v1_l rfl (wantB_t _) (.n 0 rfl .z) (fun hp _ hw => Ob_c tN rfl) fun a Z => ?_
    refine jO Z (vI i) rfl (wantB_t _) (.n 3 rfl .z) (fun hp _ hw => Ob_c tN rfl) fun a Z => ?_
    refine jO Z (.pointer (some ⟨blkOf v1_l, oofOf v1_l + (i).toNat * 1, none⟩)) rfl (wantB_t _) (.c 33 rfl id (.c 34 rfl id .z)) (fun hp _ hw => Ob_sidx tN rfl rfl rfl rfl (slPl ((H.blw hw).sl 0 rfl) (hg5 hp)) (hg5 hp)) fun a Z => ?_
    refine jO Z (vI (gi l i)) rfl (wantB_t _) (.c 35 rfl id .z) (fun hp _ hw => oL tN rfl rfl ((slFl ((H.blw hw).sl 0 rfl) (hg5 hp)) 0 _ rfl)) fun a Z => ?_
    refine jO Z (vT (decide ((l.getD (i - 1).toNat default) ≥ (gi l i)))) rfl (wantB_t _) (.c 32 rfl id (.c 36 rfl id .z)) (fun hp _ hw => Ob_c tN rfl) fun a Z => ?_
    refine qO Z (vT ((decide (i > 0)) && (decide ((l.getD (i - 1).toNat default) ≥ (gi l i))))) rfl (fun _ hw => Ob_pick rfl rfl rfl rfl (pick_and _ _)) fun a Z => ?_
    refine q_end Z [0, 2, 3, 7, 8, 9, 10, 13, 14, 15, 16, 17, 18, 24, 25, 26, 27, 38] rfl fun w2 hb Z => ?_
    replace H := H.blw hb
    clear hb
    refine p_then ?_
    refine f_cond Z rfl (fun hc4 => ?_) (fun hc4 => ?_)
    ·replace hF := ite_t hc4 hF
     refine sR Z fun Z => ?_
     refine s_runk tN Z 1 rfl rfl fun a Z => ?_
     refine s_end Z [0, 2, 3, 7, 8, 9, 10, 13, 14, 15, 16, 17, 18, 24, 25, 26, 27, 38] rfl fun Z => ?_
     refine p_then (wp_ret ?_)
     refine p_blk_r ?_
     refine p_then_r ?_
     refine p_then_r ?_
     refine p_blk_r ?_
     refine p_then_r ?_
     obtain rfl := some_in hF
     exact f_ret Z (run_results1 rfl Z rfl) ⟨rfl, I1, (H.sub [] rfl).eq rfl⟩
    ·replace hF := ite_f hc4 hF
     refine wp_skip ?_
     refine p_blk ?_
     refine p_then ?_
     obtain ⟨hg6, hF⟩ := chk_in hF
     refine f_region Z fun Z => ?_
     refine s_runk tN Z 1 rfl rfl fun a Z => ?_
     refine sO Z (vI (i + 1)) rfl (Ob_add rfl rfl rfl (wrI hg6)) fun a Z => ?_
     refine s_runk tN Z 1 rfl rfl fun a Z => ?_
     refine s_end Z [0, 2, 3, 7, 8, 9, 10, 13, 14, 15, 16, 17, 18, 24, 25, 26, 27, 38, 11, 12] rfl fun Z => ?_
     refine p_then ?_
     exact ⟨(i + 1), ⟨Z.sub (ts := [0, 2, 3]) rfl, ⟨I1, (H.sub [(0, true)] rfl).eq rfl⟩⟩, hF⟩
  ·replace hF := ite_f hc2 hF
   refine wp_exit ?_
   refine p_then_x ?_
   refine p_then_x ?_
   refine f_exit_here ?_
   refine pR Z fun Z => ?_
   refine s_runk tN Z 1 rfl rfl fun a Z => ?_
   refine s_end Z [2] rfl fun Z => ?_
   refine p_then (wp_ret ?_)
   obtain rfl := some_in hF
   exact f_ret Z (run_results1 rfl Z rfl) ⟨rfl, I1, (H.sub [] rfl).eq rfl⟩

def F_note_legit_1 (i : Int) (x : Int) (p2 : List Int) : Option Int := if ((decide (x < 0)) || (decide (x ≥ 4))) = true then (some 1) else (chk ((decide (i > 0)) = true → inI (i - 1)) (chk ((decide (i > 0)) = true → (0 : Int) ≤ i - 1 ∧ i - 1 < (p2.length : Int)) (if ((decide (i > 0)) && (decide ((p2.getD (i - 1).toNat default) ≥ x))) = true then (some 18) else (some 0))))

set_option maxHeartbeats 1000000 in
theorem c_note_legit_1 {I D : Dm} {i : Int} {x : Int} {b_p2 : Nat} {p2 : List Int} {v1_p2 : Value} {w : World} {rr : Int} (hF : F_note_legit_1 i x p2 = some rr) (H : St I D w [BxC b_p2 39 [v1_p2], SlC Ni64 v1_p2 p2]) :
  Calls Tryz.prog 88 #[vI i, vI x, pp b_p2 0] w (Ret fun vv w' => vv = vI rr ∧ ∃ I', Hf I D w I' w' [BxC b_p2 39 [v1_p2]]) := by
 replace H := H.hf
 unfold F_note_legit_1 at hF
 refine f_enter 25 Tryz.func88 rfl rfl (Nat.le_of_ble_eq_true rfl) fun a Z => ?_
 replace Z := Z.sub (ts := [0, 1, 2]) rfl
 refine sR Z fun Z => ?_
 refine s_runk tN Z 1 rfl rfl fun a Z => ?_
 refine s_end Z [0, 1, 2, 5] rfl fun Z => ?_
 refine p_then (wp_seq ?_)
 refine wp_block ?_
 refine sR Z fun Z => ?_
 refine s_runk tN Z 3 rfl rfl fun a Z => ?_
 refine gO Z (vI x) rfl (wantB_f _) (.n 1 rfl .z) (fun hp => Ob_c tN rfl) fun a Z => ?_
 refine gO Z (vT (decide (x ≥ 4))) rfl (wantB_f _) (.c 10 rfl id .z) (fun hp => Ob_c tN rfl) fun a Z => ?_
 refine sO Z (vT ((decide (x < 0)) || (decide (x ≥ 4)))) rfl (Ob_pick rfl rfl rfl rfl (pick_or _ _)) fun a Z => ?_
 refine s_runk tN Z 1 rfl rfl fun a Z => ?_
 refine s_end Z [0, 1, 2, 5, 6] rfl fun Z => ?_
 refine p_then ?_
 refine f_cond Z rfl (fun hc1 => ?_) (fun hc1 => ?_)
 ·replace hF := ite_t hc1 hF
  refine sR Z fun Z => ?_
  refine s_runk tN Z 1 rfl rfl fun a Z => ?_
  refine s_end Z [5] rfl fun Z => ?_
  refine p_then (wp_ret ?_)
  refine p_blk_r ?_
  refine p_then_r ?_
  obtain rfl := some_in hF
  exact f_ret Z (run_results1 rfl Z rfl) ⟨rfl, I, (H.sub [(0, false)] rfl).eq rfl⟩
 ·replace hF := ite_f hc1 hF
  refine wp_seq ?_
  obtain ⟨hg1, hF⟩ := chk_in hF
  obtain ⟨hg2, hF⟩ := chk_in hF
  refine f_region Z fun Z => ?_
  refine s_runk tN Z 3 rfl rfl fun a Z => ?_
  refine gO Z _ rfl (wantB_t _) (.n 2 rfl .z) (fun hp => oL tN rfl rfl (H.bc 0 0 rfl rfl)) fun a Z => ?_
  refine gO Z (vI i) rfl (wantB_t _) (.n 0 rfl .z) (fun hp => Ob_c tN rfl) fun a Z => ?_
  refine gO Z (vI (i - 1)) rfl (wantB_t _) (.c 18 rfl id .z) (fun hp => Ob_sub rfl rfl rfl (wrI (hg1 hp))) fun a Z => ?_
  refine gO Z (.pointer (some ⟨blkOf v1_p2, oofOf v1_p2 + (i - 1).toNat * 1, none⟩)) rfl (wantB_t _) (.c 17 rfl id (.c 19 rfl id .z)) (fun hp => Ob_sidx tN rfl rfl rfl rfl (slPl (H.sl 1 rfl) (hg2 hp)) (hg2 hp)) fun a Z => ?_
  refine gO Z (vI (p2.getD (i - 1).toNat default)) rfl (wantB_t _) (.c 20 rfl id .z) (fun hp => oL tN rfl rfl ((slFl (H.sl 1 rfl) (hg2 hp)) 0 _ rfl)) fun a Z => ?_
  refine gO Z (vI x) rfl (wantB_t _) (.n 1 rfl .z) (fun hp => Ob_c tN rfl) fun a Z => ?_
  refine gO Z (vT (decide ((p2.getD (i - 1).toNat default) ≥ x))) rfl (wantB_t _) (.c 21 rfl id (.c 22 rfl id .z)) (fun hp => Ob_c tN rfl) fun a Z => ?_
  refine sO Z (vT ((decide (i > 0)) && (decide ((p2.getD (i - 1).toNat default) ≥ x)))) rfl (Ob_pick rfl rfl rfl rfl (pick_and _ _)) fun a Z => ?_
  refine s_runk tN Z 1 rfl rfl fun a Z => ?_
  refine s_end Z [5, 13] rfl fun Z => ?_
  refine p_then ?_
  refine f_cond Z rfl (fun hc2 => ?_) (fun hc2 => ?_)
  ·replace hF := ite_t hc2 hF
   refine sR Z fun Z => ?_
   refine s_runk tN Z 1 rfl rfl fun a Z => ?_
   refine s_end Z [5] rfl fun Z => ?_
   refine p_then (wp_ret ?_)
   refine p_blk_r ?_
   refine p_then_r ?_
   obtain rfl := some_in hF
   exact f_ret Z (run_results1 rfl Z rfl) ⟨rfl, I, (H.sub [(0, false)] rfl).eq rfl⟩
  ·replace hF := ite_f hc2 hF
   refine wp_skip ?_
   refine p_blk ?_
   refine pR Z fun Z => ?_
   refine s_runk tN Z 1 rfl rfl fun a Z => ?_
   refine s_end Z [5] rfl fun Z => ?_
   refine p_then (wp_ret ?_)
   obtain rfl := some_in hF
   exact f_ret Z (run_results1 rfl Z rfl) ⟨rfl, I, (H.sub [(0, false)] rfl).eq rfl⟩

def F_note_each_int__note_legit_1_l1 (l : List Int) (p2 : List Int) (rc : Int → Option Int) (sg : Int) : Option Int := match sg with | x => if (decide (x < (l.length : Int))) = true then (chk ((0 : Int) ≤ x ∧ x < (l.length : Int)) ((F_note_legit_1 x (l.getD (x).toNat default) p2).bind fun x0 => (if (x0 != 0) = true then (some x0) else (chk (inI (x + 1)) (rc (x + 1)))))) else (some 0)

def F_note_each_int__note_legit_1 (l : List Int) (p2 : List Int) : Option Int := iter (F_note_each_int__note_legit_1_l1 l p2) FU 0

set_option maxHeartbeats 1000000 in
theorem c_note_each_int__note_legit_1 {I D : Dm} {l : List Int} {v1_l : Value} {b_p2 : Nat} {p2 : List Int} {v2_p2 : Value} {w : World} {rr : Int} (hF : F_note_each_int__note_legit_1 l p2 = some rr) (H : St I D w [SlC Ni64 v1_l l, BxC b_p2 39 [v2_p2], SlC Ni64 v2_p2 p2]) :
  Calls Tryz.prog 87 #[v1_l, .func (.func 88) #[] #[pp b_p2 0]] w (Ret fun vv w' => vv = vI rr ∧ ∃ I', Hf I D w I' w' [BxC b_p2 39 [v2_p2]]) := by
 replace H := H.hf
 unfold F_note_each_int__note_legit_1 at hF
 refine f_enter 23 Tryz.func87 rfl rfl (Nat.le_of_ble_eq_true rfl) fun a Z => ?_
 replace Z := Z.sub (ts := [0, 1]) rfl
 refine sR Z fun Z => ?_
 refine s_runk tN Z 1 rfl rfl fun a Z => ?_
 refine s_end Z [0, 1, 4] rfl fun Z => ?_
 refine p_then (wp_seq ?_)
 refine sR Z fun Z => ?_
 refine s_runk tN Z 1 rfl rfl fun a Z => ?_
 refine sO Z (vI (ln l)) rfl (Ob_slen tN rfl rfl rfl (H.slshape 0 rfl)) fun a Z => ?_
 refine s_runk tN Z 1 rfl rfl fun a Z => ?_
 refine s_end Z [1, 4, 8, 9, 10] rfl fun Z => ?_
 refine p_then (wp_block ?_)
 refine f_iter hF (fun sg a' w' => match sg with | x => Sl 23 [(1, .func (.func 88) #[] #[pp b_p2 0]), (4, vI 0), (8, v1_l), (9, vI (ln l)), (10, vI x)] a' ∧ ∃ I2, Hf I D w I2 w' [BxC b_p2 39 [v2_p2], SlC Ni64 v1_l l, SlC Ni64 v2_p2 p2]) ⟨Z.sub (ts := [1, 4, 8, 9, 10]) rfl, ⟨I, (H.sub [(1, false), (0, true), (1, true)] rfl).eq rfl⟩⟩ ?_
 rintro rc x a w1 ⟨Z, I1, H⟩ hF
 unfold F_note_each_int__note_legit_1_l1 at hF
 try dsimp only at hF
 refine sR Z fun Z => ?_
 refine s_runk tN Z 1 rfl rfl fun a Z => ?_
 refine s_end Z [1, 4, 8, 9, 10, 11] rfl fun Z => ?_
 refine p_then (wp_seq ?_)
 refine f_cond Z rfl (fun hc1 => ?_) (fun hc1 => ?_)
 ·replace hF := ite_t hc1 hF
  refine wp_skip ?_
  refine p_then (wp_seq ?_)
  refine wp_block ?_
  refine wp_seq ?_
  obtain ⟨hg1, hF⟩ := chk_in hF
  refine f_region Z fun Z => ?_
  refine s_runk tN Z 1 rfl rfl fun a Z => ?_
  refine sO Z (.pointer (some ⟨blkOf v1_l, oofOf v1_l + (x).toNat * 1, none⟩)) rfl (Ob_sidx tN rfl rfl rfl rfl (slPl (H.sl 1 rfl) hg1) hg1) fun a Z => ?_
  refine sO Z (vI (gi l x)) rfl (oL tN rfl rfl ((slFl (H.sl 1 rfl) hg1) 0 _ rfl)) fun a Z => ?_
  refine s_runk tN Z 2 rfl rfl fun a Z => ?_
  refine s_end Z [1, 4, 8, 9, 10, 11, 12, 13, 14, 5, 6] rfl fun Z => ?_
  refine p_then (wp_seq ?_)
  obtain ⟨x0, hx1, hF⟩ := bnd_in hF
  refine f_region Z fun Z => ?_
  refine s_runk tN Z 3 rfl rfl fun a Z => ?_
  refine hC Z H [(0, false), (1, true)] rfl #[pp b_p2 0] fn_88_YNote rfl rfl (fun D h => have q := c_note_legit_1 hx1 h; q) fun vv a w2 D2 hr hF2 Z => ?_
  obtain ⟨rfl, I2, K⟩ := hr
  have H := (hF2 K).nf rfl
  refine s_runk tN Z 1 rfl rfl fun a Z => ?_
  refine s_end Z [1, 4, 8, 9, 10, 11, 12, 13, 14, 5, 6, 15, 16, 17, 18, 7] rfl fun Z => ?_
  refine pR Z fun Z => ?_
  refine s_runk tN Z 2 rfl rfl fun a Z => ?_
  refine s_end Z [1, 4, 8, 9, 10, 11, 12, 13, 14, 5, 6, 15, 16, 17, 18, 7, 19, 20] rfl fun Z => ?_
  refine p_then ?_
  refine f_cond Z rfl (fun hc2 => ?_) (fun hc2 => ?_)
  ·replace hF := ite_t hc2 hF
   refine sR Z fun Z => ?_
   refine s_runk tN Z 2 rfl rfl fun a Z => ?_
   refine s_end Z [1, 4, 8, 9, 10, 11, 12, 13, 14, 5, 6, 15, 16, 17, 18, 7, 19, 20, 21] rfl fun Z => ?_
   refine p_then (wp_ret ?_)
   refine p_blk_r ?_
   refine p_then_r ?_
   refine p_then_r ?_
   refine p_blk_r ?_
   refine p_then_r ?_
   obtain rfl := some_in hF
   exact f_ret Z (run_results1 rfl Z rfl) ⟨rfl, I2, (H.sub [(0, false)] rfl).eq rfl⟩
  ·replace hF := ite_f hc2 hF
   refine wp_skip ?_
   refine p_blk ?_
   refine p_then ?_
   obtain ⟨hg2, hF⟩ := chk_in hF
   refine f_region Z fun Z => ?_
   refine sO Z (vI (x + 1)) rfl (Ob_add rfl rfl rfl (wrI hg2)) fun a Z => ?_
   refine s_runk tN Z 1 rfl rfl fun a Z => ?_
   refine s_end Z [1, 4, 8, 9, 10, 11, 12, 13, 14, 5, 6, 15, 16, 17, 18, 7, 19, 20, 22] rfl fun Z => ?_
   refine p_then ?_
   exact ⟨(x + 1), ⟨Z.sub (ts := [1, 4, 8, 9, 10]) rfl, ⟨I2, (H.sub [(0, false), (0, true), (1, true)] rfl).eq rfl⟩⟩, hF⟩
 ·replace hF := ite_f hc1 hF
  refine wp_exit ?_
  refine p_then_x ?_
  refine p_then_x ?_
  refine f_exit_here ?_
  refine pR Z fun Z => ?_
  refine s_runk tN Z 1 rfl rfl fun a Z => ?_
  refine s_end Z [4] rfl fun Z => ?_
  refine p_then (wp_ret ?_)
  obtain rfl := some_in hF
  exact f_ret Z (run_results1 rfl Z rfl) ⟨rfl, I1, (H.sub [(0, false)] rfl).eq rfl⟩

def F_note_legit (l : List Int) : Option Int := if (decide ((l.length : Int) > 4)) = true then (some 6) else ((F_note_each_int__note_legit_1 l l).bind fun x0 => (some x0))

set_option maxHeartbeats 1000000 in
theorem c_note_legit {I D : Dm} {l : List Int} {v1_l : Value} {w : World} {rr : Int} (hF : F_note_legit l = some rr) (H : St I D w [SlC Ni64 v1_l l]) :
  Calls Tryz.prog 51 #[v1_l] w (Ret fun vv w' => vv = vI rr ∧ ∃ I', Hf I D w I' w' []) := by
 replace H := H.hf
 unfold F_note_legit at hF
 refine f_enter 9 Tryz.func51 rfl rfl (Nat.le_of_ble_eq_true rfl) fun a Z => ?_
 replace Z := Z.sub (ts := [0]) rfl
 refine sR Z fun Z => ?_
 refine hB Z H [v1_l] rfl rfl rfl (slS.cells (H.slshape 0 rfl)) fun a w1 b1 H Z => ?_
 refine s_runk tN Z 1 rfl rfl fun a Z => ?_
 refine s_end Z [1, 2] rfl fun Z => ?_
 refine p_then (wp_seq ?_)
 refine sR Z fun Z => ?_
 refine sO Z _ rfl (oL tN rfl rfl (H.bc 0 0 rfl rfl)) fun a Z => ?_
 refine sO Z (vI (ln l)) rfl (Ob_slen tN rfl rfl rfl (H.slshape 1 rfl)) fun a Z => ?_
 refine s_runk tN Z 1 rfl rfl fun a Z => ?_
 refine s_end Z [1, 2, 5] rfl fun Z => ?_
 refine p_then ?_
 refine f_cond Z rfl (fun hc1 => ?_) (fun hc1 => ?_)
 ·replace hF := ite_t hc1 hF
  refine sR Z fun Z => ?_
  refine s_runk tN Z 1 rfl rfl fun a Z => ?_
  refine s_end Z [1, 2] rfl fun Z => ?_
  refine p_then (wp_ret ?_)
  refine p_then_r ?_
  obtain rfl := some_in hF
  exact f_ret Z (run_results1 rfl Z rfl) ⟨rfl, I, (H.sub [] rfl).eq rfl⟩
 ·replace hF := ite_f hc1 hF
  refine wp_skip ?_
  refine p_then (wp_seq ?_)
  obtain ⟨x0, hx1, hF⟩ := bnd_in hF
  refine f_region Z fun Z => ?_
  refine sO Z _ rfl (oL tN rfl rfl (H.bc 0 0 rfl rfl)) fun a Z => ?_
  refine s_runk tN Z 1 rfl rfl fun a Z => ?_
  refine hC Z H [(1, true), (0, false), (0, true)] rfl #[] fn_87_YNote rfl rfl (fun D h => have q := c_note_each_int__note_legit_1 hx1 h; q) fun vv a w2 D2 hr hF2 Z => ?_
  obtain ⟨rfl, I1, K⟩ := hr
  have H := (hF2 K).nf rfl
  refine s_runk tN Z 1 rfl rfl fun a Z => ?_
  refine s_end Z [2] rfl fun Z => ?_
  refine p_then (wp_ret ?_)
  obtain rfl := some_in hF
  exact f_ret Z (run_results1 rfl Z rfl) ⟨rfl, I1, (H.sub [] rfl).eq rfl⟩

def F_note_range0_1 (x0 : Int) (x : Int) : Option Int := if ((decide (x < 0)) || (decide (x > 1073741824))) = true then (some 5) else (some 0)

set_option maxHeartbeats 1000000 in
theorem c_note_range0_1 {I D : Dm} {x0 : Int} {x : Int} {w : World} {rr : Int} (hF : F_note_range0_1 x0 x = some rr) (H : St I D w []) :
  Calls Tryz.prog 89 #[vI x0, vI x] w (Ret fun vv w' => vv = vI rr ∧ ∃ I', Hf I D w I' w' []) := by
 replace H := H.hf
 unfold F_note_range0_1 at hF
 refine f_enter 11 Tryz.func89 rfl rfl (Nat.le_of_ble_eq_true rfl) fun a Z => ?_
 replace Z := Z.sub (ts := [0, 1]) rfl
 refine sR Z fun Z => ?_
 refine s_runk tN Z 1 rfl rfl fun a Z => ?_
 refine s_end Z [1, 4] rfl fun Z => ?_
 refine p_then (wp_seq ?_)
 refine sR Z fun Z => ?_
 refine s_runk tN Z 3 rfl rfl fun a Z => ?_
 refine gO Z (vI x) rfl (wantB_f _) (.n 1 rfl .z) (fun hp => Ob_c tN rfl) fun a Z => ?_
 refine gO Z (vT (decide (x > 1073741824))) rfl (wantB_f _) (.c 8 rfl id .z) (fun hp => Ob_c tN rfl) fun a Z => ?_
 refine sO Z (vT ((decide (x < 0)) || (decide (x > 1073741824)))) rfl (Ob_pick rfl rfl rfl rfl (pick_or _ _)) fun a Z => ?_
 refine s_end Z [4, 10] rfl fun Z => ?_
 refine p_then ?_
 refine f_cond Z rfl (fun hc1 => ?_) (fun hc1 => ?_)
 ·replace hF := ite_t hc1 hF
  refine sR Z fun Z => ?_
  refine s_runk tN Z 1 rfl rfl fun a Z => ?_
  refine s_end Z [4] rfl fun Z => ?_
  refine p_then (wp_ret ?_)
  refine p_then_r ?_
  obtain rfl := some_in hF
  exact f_ret Z (run_results1 rfl Z rfl) ⟨rfl, I, (H.sub [] rfl).eq rfl⟩
 ·replace hF := ite_f hc1 hF
  refine wp_skip ?_
  refine pR Z fun Z => ?_
  refine s_runk tN Z 1 rfl rfl fun a Z => ?_
  refine s_end Z [4] rfl fun Z => ?_
  refine p_then (wp_ret ?_)
  obtain rfl := some_in hF
  exact f_ret Z (run_results1 rfl Z rfl) ⟨rfl, I, (H.sub [] rfl).eq rfl⟩

def F_note_each_int__note_range0_1_l1 (l : List Int) (rc : Int → Option Int) (sg : Int) : Option Int := match sg with | x => if (decide (x < (l.length : Int))) = true then (chk ((0 : Int) ≤ x ∧ x < (l.length : Int)) ((F_note_range0_1 x (l.getD (x).toNat default)).bind fun x0 => (if (x0 != 0) = true then (some x0) else (chk (inI (x + 1)) (rc (x + 1)))))) else (some 0)

def F_note_each_int__note_range0_1 (l : List Int) : Option Int := iter (F_note_each_int__note_range0_1_l1 l) FU 0

set_option maxHeartbeats 1000000 in
theorem c_note_each_int__note_range0_1 {I D : Dm} {l : List Int} {v1_l : Value} {w : World} {rr : Int} (hF : F_note_each_int__note_range0_1 l = some rr) (H : St I D w [SlC Ni64 v1_l l]) :
  Calls Tryz.prog 87 #[v1_l, .func (.func 89) #[] #[]] w (Ret fun vv w' => vv = vI rr ∧ ∃ I', Hf I D w I' w' []) := by
 replace H := H.hf
 unfold F_note_each_int__note_range0_1 at hF
 refine f_enter 23 Tryz.func87 rfl rfl (Nat.le_of_ble_eq_true rfl) fun a Z => ?_
 replace Z := Z.sub (ts := [0, 1]) rfl
 refine sR Z fun Z => ?_
 refine s_runk tN Z 1 rfl rfl fun a Z => ?_
 refine s_end Z [0, 1, 4] rfl fun Z => ?_
 refine p_then (wp_seq ?_)
 refine sR Z fun Z => ?_
 refine s_runk tN Z 1 rfl rfl fun a Z => ?_
 refine sO Z (vI (ln l)) rfl (Ob_slen tN rfl rfl rfl (H.slshape 0 rfl)) fun a Z => ?_
 refine s_runk tN Z 1 rfl rfl fun a Z => ?_
 refine s_end Z [1, 4, 8, 9, 10] rfl fun Z => ?_
 refine p_then (wp_block ?_)
 refine f_iter hF (fun sg a' w' => match sg with | x => Sl 23 [(1, .func (.func 89) #[] #[]), (4, vI 0), (8, v1_l), (9, vI (ln l)), (10, vI x)] a' ∧ ∃ I2, Hf I D w I2 w' [SlC Ni64 v1_l l]) ⟨Z.sub (ts := [1, 4, 8, 9, 10]) rfl, ⟨I, (H.sub [(0, true)] rfl).eq rfl⟩⟩ ?_
 rintro rc x a w1 ⟨Z, I1, H⟩ hF
 unfold F_note_each_int__note_range0_1_l1 at hF
 try dsimp only at hF
 refine sR Z fun Z => ?_
 refine s_runk tN Z 1 rfl rfl fun a Z => ?_
 refine s_end Z [1, 4, 8, 9, 10, 11] rfl fun Z => ?_
 refine p_then (wp_seq ?_)
 refine f_cond Z rfl (fun hc1 => ?_) (fun hc1 => ?_)
 ·replace hF := ite_t hc1 hF
  refine wp_skip ?_
  refine p_then (wp_seq ?_)
  refine wp_block ?_
  refine wp_seq ?_
  obtain ⟨hg1, hF⟩ := chk_in hF
  refine f_region Z fun Z => ?_
  refine s_runk tN Z 1 rfl rfl fun a Z => ?_
  refine sO Z (.pointer (some ⟨blkOf v1_l, oofOf v1_l + (x).toNat * 1, none⟩)) rfl (Ob_sidx tN rfl rfl rfl rfl (slPl (H.sl 0 rfl) hg1) hg1) fun a Z => ?_
  refine sO Z (vI (gi l x)) rfl (oL tN rfl rfl ((slFl (H.sl 0 rfl) hg1) 0 _ rfl)) fun a Z => ?_
  refine s_runk tN Z 2 rfl rfl fun a Z => ?_
  refine s_end Z [1, 4, 8, 9, 10, 11, 12, 13, 14, 5, 6] rfl fun Z => ?_
  refine p_then (wp_seq ?_)
  obtain ⟨x0, hx1, hF⟩ := bnd_in hF
  refine f_region Z fun Z => ?_
  refine s_runk tN Z 3 rfl rfl fun a Z => ?_
  refine hC Z H [] rfl #[] fn_89_YNote rfl rfl (fun D h => have q := c_note_range0_1 hx1 h; q) fun vv a w2 D2 hr hF2 Z => ?_
  obtain ⟨rfl, I2, K⟩ := hr
  have H := (hF2 K).nf rfl
  refine s_runk tN Z 1 rfl rfl fun a Z => ?_
  refine s_end Z [1, 4, 8, 9, 10, 11, 12, 13, 14, 5, 6, 15, 16, 17, 18, 7] rfl fun Z => ?_
  refine pR Z fun Z => ?_
  refine s_runk tN Z 2 rfl rfl fun a Z => ?_
  refine s_end Z [1, 4, 8, 9, 10, 11, 12, 13, 14, 5, 6, 15, 16, 17, 18, 7, 19, 20] rfl fun Z => ?_
  refine p_then ?_
  refine f_cond Z rfl (fun hc2 => ?_) (fun hc2 => ?_)
  ·replace hF := ite_t hc2 hF
   refine sR Z fun Z => ?_
   refine s_runk tN Z 2 rfl rfl fun a Z => ?_
   refine s_end Z [1, 4, 8, 9, 10, 11, 12, 13, 14, 5, 6, 15, 16, 17, 18, 7, 19, 20, 21] rfl fun Z => ?_
   refine p_then (wp_ret ?_)
   refine p_blk_r ?_
   refine p_then_r ?_
   refine p_then_r ?_
   refine p_blk_r ?_
   refine p_then_r ?_
   obtain rfl := some_in hF
   exact f_ret Z (run_results1 rfl Z rfl) ⟨rfl, I2, (H.sub [] rfl).eq rfl⟩
  ·replace hF := ite_f hc2 hF
   refine wp_skip ?_
   refine p_blk ?_
   refine p_then ?_
   obtain ⟨hg2, hF⟩ := chk_in hF
   refine f_region Z fun Z => ?_
   refine sO Z (vI (x + 1)) rfl (Ob_add rfl rfl rfl (wrI hg2)) fun a Z => ?_
   refine s_runk tN Z 1 rfl rfl fun a Z => ?_
   refine s_end Z [1, 4, 8, 9, 10, 11, 12, 13, 14, 5, 6, 15, 16, 17, 18, 7, 19, 20, 22] rfl fun Z => ?_
   refine p_then ?_
   exact ⟨(x + 1), ⟨Z.sub (ts := [1, 4, 8, 9, 10]) rfl, ⟨I2, (H.sub [(0, true)] rfl).eq rfl⟩⟩, hF⟩
 ·replace hF := ite_f hc1 hF
  refine wp_exit ?_
  refine p_then_x ?_
  refine p_then_x ?_
  refine f_exit_here ?_
  refine pR Z fun Z => ?_
  refine s_runk tN Z 1 rfl rfl fun a Z => ?_
  refine s_end Z [4] rfl fun Z => ?_
  refine p_then (wp_ret ?_)
  obtain rfl := some_in hF
  exact f_ret Z (run_results1 rfl Z rfl) ⟨rfl, I1, (H.sub [] rfl).eq rfl⟩

def F_note_range0 (l : List Int) : Option Int := (F_note_each_int__note_range0_1 l).bind fun x0 => (some x0)

set_option maxHeartbeats 1000000 in
theorem c_note_range0 {I D : Dm} {l : List Int} {v1_l : Value} {w : World} {rr : Int} (hF : F_note_range0 l = some rr) (H : St I D w [SlC Ni64 v1_l l]) :
  Calls Tryz.prog 52 #[v1_l] w (Ret fun vv w' => vv = vI rr ∧ ∃ I', Hf I D w I' w' []) := by
 replace H := H.hf
 unfold F_note_range0 at hF
 refine f_enter 5 Tryz.func52 rfl rfl (Nat.le_of_ble_eq_true rfl) fun a Z => ?_
 replace Z := Z.sub (ts := [0]) rfl
 refine sR Z fun Z => ?_
 refine s_runk tN Z 1 rfl rfl fun a Z => ?_
 refine s_end Z [0, 2] rfl fun Z => ?_
 refine p_then (wp_seq ?_)
 obtain ⟨x0, hx1, hF⟩ := bnd_in hF
 refine f_region Z fun Z => ?_
 refine s_runk tN Z 1 rfl rfl fun a Z => ?_
 refine hC Z H [(0, true)] rfl #[] fn_87_YNote rfl rfl (fun D h => have q := c_note_each_int__note_range0_1 hx1 h; q) fun vv a w1 D2 hr hF2 Z => ?_
 obtain ⟨rfl, I1, K⟩ := hr
 have H := (hF2 K).nf rfl
 refine s_runk tN Z 1 rfl rfl fun a Z => ?_
 refine s_end Z [2] rfl fun Z => ?_
 refine p_then (wp_ret ?_)
 obtain rfl := some_in hF
 exact f_ret Z (run_results1 rfl Z rfl) ⟨rfl, I1, (H.sub [] rfl).eq rfl⟩

def F_ref10_may (n0 : Int) : Option Bool := some ((decide (n0 ≥ 0)) && (decide (n0 ≤ 1073741824)))

set_option maxHeartbeats 1000000 in
theorem c_ref10_may {I D : Dm} {n0 : Int} {w : World} {rr : Bool} (hF : F_ref10_may n0 = some rr) (H : St I D w []) :
  Calls Tryz.prog 68 #[vI n0] w (Ret fun vv w' => vv = vT rr ∧ ∃ I', Hf I D w I' w' []) := by
 replace H := H.hf
 unfold F_ref10_may at hF
 refine f_enter 9 Tryz.func68 rfl rfl (Nat.le_of_ble_eq_true rfl) fun a Z => ?_
 replace Z := Z.sub (ts := [0]) rfl
 refine sR Z fun Z => ?_
 refine s_runk tN Z 1 rfl rfl fun a Z => ?_
 refine s_end Z [0, 2] rfl fun Z => ?_
 refine pR Z fun Z => ?_
 refine s_runk tN Z 3 rfl rfl fun a Z => ?_
 refine gO Z (vI n0) rfl (wantB_t _) (.n 0 rfl .z) (fun hp => Ob_c tN rfl) fun a Z => ?_
 refine gO Z (vT (decide (n0 ≤ 1073741824))) rfl (wantB_t _) (.c 6 rfl id .z) (fun hp => Ob_c tN rfl) fun a Z => ?_
 refine sO Z (vT ((decide (n0 ≥ 0)) && (decide (n0 ≤ 1073741824)))) rfl (Ob_pick rfl rfl rfl rfl (pick_and _ _)) fun a Z => ?_
 refine s_runk tN Z 1 rfl rfl fun a Z => ?_
 refine s_end Z [2] rfl fun Z => ?_
 refine p_then (wp_ret ?_)
 obtain rfl := some_in hF
 exact f_ret Z (run_results1 rfl Z rfl) ⟨rfl, I, (H.sub [] rfl).eq rfl⟩

def F_ref10_said (a0 : EAnswer) : Option Int := if ((decide (a0.client < 0)) || (decide (a0.client ≥ 3))) = true then (some 1) else ((F_ref10_may a0.req).bind fun m => ((gif (!(!m)) (F_ref10_may a0.pin) default).bind fun m_2 => (if ((!m) || (!m_2)) = true then (some 5) else (if ((decide (a0.e < 0)) || (decide (a0.e > 21))) = true then (some 1) else (some 0)))))

set_option maxHeartbeats 1000000 in
theorem c_ref10_said {I D : Dm} {a0 : EAnswer} {w : World} {rr : Int} (hF : F_ref10_said a0 = some rr) (H : St I D w []) :
  Calls Tryz.prog 70 #[.agg (cEAnswer a0).toArray] w (Ret fun vv w' => vv = vI rr ∧ ∃ I', Hf I D w I' w' []) := by
 replace H := H.hf
 unfold F_ref10_said at hF
 refine f_enter 29 Tryz.func70 rfl rfl (Nat.le_of_ble_eq_true rfl) fun a Z => ?_
 replace Z := Z.sub (ts := [0]) rfl
 refine sR Z fun Z => ?_
 refine h_boxv Z H (cl := (cEAnswer a0)) rfl rfl rfl (by decide) rfl rfl rfl fun a w1 b1 H Z => ?_
 refine s_runk tN Z 1 rfl rfl fun a Z => ?_
 refine s_end Z [1, 2] rfl fun Z => ?_
 refine p_then (wp_seq ?_)
 refine sR Z fun Z => ?_
 refine s_runk tN Z 1 rfl rfl fun a Z => ?_
 refine sO Z _ rfl (oL tN rfl rfl (H.bc 0 0 rfl rfl)) fun a Z => ?_
 refine s_runk tN Z 2 rfl rfl fun a Z => ?_
 refine gO Z (pp b1 0) rfl (wantB_f _) (.n 1 rfl .z) (fun hp => Ob_c tN rfl) fun a Z => ?_
 refine gO Z _ rfl (wantB_f _) (.c 7 rfl id .z) (fun hp => oL tN rfl rfl (H.bc 0 0 rfl rfl)) fun a Z => ?_
 refine gO Z (vT (decide (a0.client ≥ 3))) rfl (wantB_f _) (.c 8 rfl id .z) (fun hp => Ob_c tN rfl) fun a Z => ?_
 refine sO Z (vT ((decide (a0.client < 0)) || (decide (a0.client ≥ 3)))) rfl (Ob_pick rfl rfl rfl rfl (pick_or _ _)) fun a Z => ?_
 refine s_end Z [1, 2, 10] rfl fun Z => ?_
 refine p_then ?_
 refine f_cond Z rfl (fun hc1 => ?_) (fun hc1 => ?_)
 ·replace hF := ite_t hc1 hF
  refine sR Z fun Z => ?_
  refine s_runk tN Z 1 rfl rfl fun a Z => ?_
  refine s_end Z [1, 2] rfl fun Z => ?_
  refine p_then (wp_ret ?_)
  refine p_then_r ?_
  obtain rfl := some_in hF
  exact f_ret Z (run_results1 rfl Z rfl) ⟨rfl, I, (H.sub [] rfl).eq rfl⟩
 ·replace hF := ite_f hc1 hF
  refine wp_skip ?_
  refine p_then (wp_seq ?_)
  refine wp_seq ?_
  obtain ⟨m, hx1, hF⟩ := bnd_in hF
  obtain ⟨m_2, hx2, hF⟩ := bnd_in hF
  refine f_region Z fun Z => ?_
  refine s_runk tN Z 1 rfl rfl fun a Z => ?_
  refine sO Z _ rfl (oL tN rfl rfl (H.bc 0 1 rfl rfl)) fun a Z => ?_
  refine hC Z H [] rfl #[] fn_68_YNote rfl rfl (fun D h => have q := c_ref10_may hx1 h; q) fun vv a w2 D2 hr hF2 Z => ?_
  obtain ⟨rfl, I1, K⟩ := hr
  have H := (hF2 K).nf rfl
  refine s_runk tN Z 2 rfl rfl fun a Z => ?_
  refine gO Z (pp b1 3) rfl (wantB_f _) (.n 1 rfl .z) (fun hp => Ob_c tN rfl) fun a Z => ?_
  refine gO Z _ rfl (wantB_f _) (.c 16 rfl id .z) (fun hp => oL tN rfl rfl (H.bc 0 3 rfl rfl)) fun a Z => ?_
  refine g_call Z (p := (!(!m))) (v := vT m_2) (S' := [(17, vI a0.pin)]) (caps := #[]) fn_68_YNote rfl rfl rfl (wantB_f _) rfl (by decide) (fun hp hS => (hS.conv (t := 17) rfl (cond_t hp)).sub (ts := [17]) rfl) rfl rfl rfl rfl (fun hp => (have hq := c_ref10_may (gif_in hx2 hp) ((H).pick0 (js := []) rfl rfl); plainC hq)) fun a w3 hb Z => ?_
  replace H := H.blw hb
  clear hb
  refine gO Z (vT (!m_2)) rfl (wantB_f _) (.c 18 rfl id .z) (fun hp => Ob_c tN rfl) fun a Z => ?_
  refine sO Z (vT ((!m) || (!m_2))) rfl (Ob_pick rfl rfl rfl rfl (pick_or _ _)) fun a Z => ?_
  refine s_end Z [1, 2, 20] rfl fun Z => ?_
  refine p_then ?_
  refine f_cond Z rfl (fun hc2 => ?_) (fun hc2 => ?_)
  ·replace hF := ite_t hc2 hF
   refine sR Z fun Z => ?_
   refine s_runk tN Z 1 rfl rfl fun a Z => ?_
   refine s_end Z [1, 2] rfl fun Z => ?_
   refine p_then (wp_ret ?_)
   refine p_then_r ?_
   obtain rfl := some_in hF
   exact f_ret Z (run_results1 rfl Z rfl) ⟨rfl, I1, (H.sub [] rfl).eq rfl⟩
  ·replace hF := ite_f hc2 hF
   refine wp_skip ?_
   refine p_then (wp_seq ?_)
   refine sR Z fun Z => ?_
   refine s_runk tN Z 1 rfl rfl fun a Z => ?_
   refine sO Z _ rfl (oL tN rfl rfl (H.bc 0 2 rfl rfl)) fun a Z => ?_
   refine s_runk tN Z 2 rfl rfl fun a Z => ?_
   refine gO Z (pp b1 2) rfl (wantB_f _) (.n 1 rfl .z) (fun hp => Ob_c tN rfl) fun a Z => ?_
   refine gO Z _ rfl (wantB_f _) (.c 25 rfl id .z) (fun hp => oL tN rfl rfl (H.bc 0 2 rfl rfl)) fun a Z => ?_
   refine gO Z (vT (decide (a0.e > 21))) rfl (wantB_f _) (.c 26 rfl id .z) (fun hp => Ob_c tN rfl) fun a Z => ?_
   refine sO Z (vT ((decide (a0.e < 0)) || (decide (a0.e > 21)))) rfl (Ob_pick rfl rfl rfl rfl (pick_or _ _)) fun a Z => ?_
   refine s_end Z [2, 28] rfl fun Z => ?_
   refine p_then ?_
   refine f_cond Z rfl (fun hc3 => ?_) (fun hc3 => ?_)
   ·replace hF := ite_t hc3 hF
    refine sR Z fun Z => ?_
    refine s_runk tN Z 1 rfl rfl fun a Z => ?_
    refine s_end Z [2] rfl fun Z => ?_
    refine p_then (wp_ret ?_)
    refine p_then_r ?_
    obtain rfl := some_in hF
    exact f_ret Z (run_results1 rfl Z rfl) ⟨rfl, I1, (H.sub [] rfl).eq rfl⟩
   ·replace hF := ite_f hc3 hF
    refine wp_skip ?_
    refine pR Z fun Z => ?_
    refine s_runk tN Z 1 rfl rfl fun a Z => ?_
    refine s_end Z [2] rfl fun Z => ?_
    refine p_then (wp_ret ?_)
    obtain rfl := some_in hF
    exact f_ret Z (run_results1 rfl Z rfl) ⟨rfl, I1, (H.sub [] rfl).eq rfl⟩

def F_note_said (a0 : EAnswer) : Option Int := if ((decide (a0.client < 0)) || (decide (a0.client ≥ 3))) = true then (some 1) else ((F_note_range0 [a0.req, a0.pin]).bind fun r0 => (if (r0 != 0) = true then (some r0) else (if ((decide (a0.e < 0)) || (decide (a0.e > 21))) = true then (some 1) else (some 0))))

set_option maxHeartbeats 1000000 in
theorem c_note_said {I D : Dm} {a0 : EAnswer} {w : World} {rr : Int} (hF : F_note_said a0 = some rr) (H : St I D w []) :
  Calls Tryz.prog 54 #[.agg (cEAnswer a0).toArray] w (Ret fun vv w' => vv = vI rr ∧ ∃ I', Hf I D w I' w' []) := by
 replace H := H.hf
 unfold F_note_said at hF
 refine f_enter 29 Tryz.func54 rfl rfl (Nat.le_of_ble_eq_true rfl) fun a Z => ?_
 replace Z := Z.sub (ts := [0]) rfl
 refine sR Z fun Z => ?_
 refine h_boxv Z H (cl := (cEAnswer a0)) rfl rfl rfl (by decide) rfl rfl rfl fun a w1 b1 H Z => ?_
 refine s_runk tN Z 1 rfl rfl fun a Z => ?_
 refine s_end Z [1, 2] rfl fun Z => ?_
 refine p_then (wp_seq ?_)
 refine sR Z fun Z => ?_
 refine s_runk tN Z 1 rfl rfl fun a Z => ?_
 refine sO Z _ rfl (oL tN rfl rfl (H.bc 0 0 rfl rfl)) fun a Z => ?_
 refine s_runk tN Z 2 rfl rfl fun a Z => ?_
 refine gO Z (pp b1 0) rfl (wantB_f _) (.n 1 rfl .z) (fun hp => Ob_c tN rfl) fun a Z => ?_
 refine gO Z _ rfl (wantB_f _) (.c 8 rfl id .z) (fun hp => oL tN rfl rfl (H.bc 0 0 rfl rfl)) fun a Z => ?_
 refine gO Z (vT (decide (a0.client ≥ 3))) rfl (wantB_f _) (.c 9 rfl id .z) (fun hp => Ob_c tN rfl) fun a Z => ?_
 refine sO Z (vT ((decide (a0.client < 0)) || (decide (a0.client ≥ 3)))) rfl (Ob_pick rfl rfl rfl rfl (pick_or _ _)) fun a Z => ?_
 refine s_end Z [1, 2, 11] rfl fun Z => ?_
 refine p_then ?_
 refine f_cond Z rfl (fun hc1 => ?_) (fun hc1 => ?_)
 ·replace hF := ite_t hc1 hF
  refine sR Z fun Z => ?_
  refine s_runk tN Z 1 rfl rfl fun a Z => ?_
  refine s_end Z [1, 2] rfl fun Z => ?_
  refine p_then (wp_ret ?_)
  refine p_then_r ?_
  obtain rfl := some_in hF
  exact f_ret Z (run_results1 rfl Z rfl) ⟨rfl, I, (H.sub [] rfl).eq rfl⟩
 ·replace hF := ite_f hc1 hF
  refine wp_skip ?_
  refine p_then (wp_seq ?_)
  refine wp_seq ?_
  obtain ⟨r0, hx1, hF⟩ := bnd_in hF
  refine f_region Z fun Z => ?_
  refine s_runk tN Z 1 rfl rfl fun a Z => ?_
  refine sO Z _ rfl (oL tN rfl rfl (H.bc 0 1 rfl rfl)) fun a Z => ?_
  refine s_runk tN Z 1 rfl rfl fun a Z => ?_
  refine sO Z _ rfl (oL tN rfl rfl (H.bc 0 3 rfl rfl)) fun a Z => ?_
  refine h_bslice Z H (vs := [(0, vI a0.req), (1, vI a0.pin)]) (cl := [vI a0.req, vI a0.pin]) (e := 3) rfl rfl rfl (by decide) rfl rfl (fun w => run_bslice (z := vI 0) (m := 1) Tryz.underlying39 (by kernel_rfl) rfl rfl (by decide) (by simp [Instr.fill, Value.cells]) w) fun a w2 b2 H Z => ?_
  obtain ⟨I1, _, H⟩ := H.frzlit 0 rfl (R := Ni64) [[vI a0.req], [vI a0.pin]] [a0.req, a0.pin] rfl rfl (fun i h1 h2 => by match i, h1, h2 with | 0, _, _ => exact ⟨rfl, trivial⟩ | 1, _, _ => exact ⟨rfl, trivial⟩) (show 2 ≤ maxLen from by decide) (n := 2) rfl
  replace H := H.nf rfl; try dsimp only at H
  refine hC Z H [(0, true)] rfl #[] fn_52_YNote rfl rfl (fun D h => have q := c_note_range0 hx1 h; q) fun vv a w3 D2 hr hF2 Z => ?_
  obtain ⟨rfl, I2, K⟩ := hr
  have H := (hF2 K).nf rfl
  refine s_runk tN Z 1 rfl rfl fun a Z => ?_
  refine s_end Z [1, 2, 3] rfl fun Z => ?_
  refine pR Z fun Z => ?_
  refine s_runk tN Z 2 rfl rfl fun a Z => ?_
  refine s_end Z [1, 2, 3, 19] rfl fun Z => ?_
  refine p_then ?_
  refine f_cond Z rfl (fun hc2 => ?_) (fun hc2 => ?_)
  ·replace hF := ite_t hc2 hF
   refine sR Z fun Z => ?_
   refine s_runk tN Z 2 rfl rfl fun a Z => ?_
   refine s_end Z [1, 2] rfl fun Z => ?_
   refine p_then (wp_ret ?_)
   refine p_then_r ?_
   obtain rfl := some_in hF
   exact f_ret Z (run_results1 rfl Z rfl) ⟨rfl, I2, (H.sub [] rfl).eq rfl⟩
  ·replace hF := ite_f hc2 hF
   refine wp_skip ?_
   refine p_then (wp_seq ?_)
   refine sR Z fun Z => ?_
   refine s_runk tN Z 1 rfl rfl fun a Z => ?_
   refine sO Z _ rfl (oL tN rfl rfl (H.bc 1 2 rfl rfl)) fun a Z => ?_
   refine s_runk tN Z 2 rfl rfl fun a Z => ?_
   refine gO Z (pp b1 2) rfl (wantB_f _) (.n 1 rfl .z) (fun hp => Ob_c tN rfl) fun a Z => ?_
   refine gO Z _ rfl (wantB_f _) (.c 25 rfl id .z) (fun hp => oL tN rfl rfl (H.bc 1 2 rfl rfl)) fun a Z => ?_
   refine gO Z (vT (decide (a0.e > 21))) rfl (wantB_f _) (.c 26 rfl id .z) (fun hp => Ob_c tN rfl) fun a Z => ?_
   refine sO Z (vT ((decide (a0.e < 0)) || (decide (a0.e > 21)))) rfl (Ob_pick rfl rfl rfl rfl (pick_or _ _)) fun a Z => ?_
   refine s_end Z [2, 28] rfl fun Z => ?_
   refine p_then ?_
   refine f_cond Z rfl (fun hc3 => ?_) (fun hc3 => ?_)
   ·replace hF := ite_t hc3 hF
    refine sR Z fun Z => ?_
    refine s_runk tN Z 1 rfl rfl fun a Z => ?_
    refine s_end Z [2] rfl fun Z => ?_
    refine p_then (wp_ret ?_)
    refine p_then_r ?_
    obtain rfl := some_in hF
    exact f_ret Z (run_results1 rfl Z rfl) ⟨rfl, I2, (H.sub [] rfl).eq rfl⟩
   ·replace hF := ite_f hc3 hF
    refine wp_skip ?_
    refine pR Z fun Z => ?_
    refine s_runk tN Z 1 rfl rfl fun a Z => ?_
    refine s_end Z [2] rfl fun Z => ?_
    refine p_then (wp_ret ?_)
    obtain rfl := some_in hF
    exact f_ret Z (run_results1 rfl Z rfl) ⟨rfl, I2, (H.sub [] rfl).eq rfl⟩

def F_ref10_Check_k1 (n0 : ENote) (x : Bool) : Option Int := if (x) = true then ((F_ref10_may n0.n).bind fun m_2 => (if (!m_2) = true then (some 5) else (some 0))) else (if (n0.k == 6) = true then ((F_ref10_may n0.pin.id).bind fun m_3 => ((gif (!(!m_3)) (F_ref10_may n0.pin.left) default).bind fun m_4 => (if ((!m_3) || (!m_4)) = true then (some 5) else (some 0)))) else (if (n0.k == 8) = true then ((F_ref10_said n0.said).bind fun s0 => (some s0)) else (some 11)))

def F_ref10_Check (n0 : ENote) : Option Int := if (n0.k == 1) = true then ((F_ref07_Check n0.conf).bind fun c => (if (c != 0) = true then (some c) else ((F_ref10_legit n0.legit).bind fun l => (some l)))) else (if (n0.k == 2) = true then ((F_ref10_may n0.n).bind fun m => (if (!m) = true then (some 5) else ((F_ref08_Check n0.entry).bind fun c_2 => (some c_2)))) else (if (n0.k == 3) = true then (F_ref10_Check_k1 n0 (n0.k == 3)) else (if (n0.k == 4) = true then (F_ref10_Check_k1 n0 (n0.k == 4)) else (if (n0.k == 5) = true then (F_ref10_Check_k1 n0 (n0.k == 5)) else (F_ref10_Check_k1 n0 (n0.k == 7))))))

set_option maxHeartbeats 1000000 in
theorem c_ref10_Check {I D : Dm} {n0 : ENote} {v1_n0 : Value} {v2_n0 : Value} {v3_n0 : Value} {w : World} {rr : Int} (hF : F_ref10_Check n0 = some rr) (H : St I D w [SlC NEMember v1_n0 n0.conf.members, SlC Ni64 v2_n0 n0.legit, SlC NEOp v3_n0 n0.entry.batch.ops]) :
  Calls Tryz.prog 25 #[.agg (cENote n0 v1_n0 v2_n0 v3_n0).toArray] w (Ret fun vv w' => vv = vI rr ∧ ∃ I', Hf I D w I' w' []) := by
 replace H := H.hf
 unfold F_ref10_Check at hF
 refine f_enter 54 Tryz.func25 rfl rfl (Nat.le_of_ble_eq_true rfl) fun a Z => ?_
 replace Z := Z.sub (ts := [0]) rfl
 refine sR Z fun Z => ?_
 refine h_boxv Z H (cl := (cENote n0 v1_n0 v2_n0 v3_n0)) rfl rfl rfl (by decide) rfl rfl rfl fun a w1 b1 H Z => ?_
 refine s_runk tN Z 1 rfl rfl fun a Z => ?_
 refine s_end Z [1, 2] rfl fun Z => ?_
 refine p_then (wp_seq ?_)
 refine sR Z fun Z => ?_
 refine s_runk tN Z 1 rfl rfl fun a Z => ?_
 refine sO Z _ rfl (oL tN rfl rfl (H.bc 0 0 rfl rfl)) fun a Z => ?_
 refine s_end Z [1, 2, 5] rfl fun Z => ?_
 refine p_then (wp_block ?_)
 refine sR Z fun Z => ?_
 refine s_runk tN Z 2 rfl rfl fun a Z => ?_
 refine s_end Z [1, 2, 5, 6] rfl fun Z => ?_
 refine p_then ?_
 refine f_cond Z rfl (fun hc1 => ?_) (fun hc1 => ?_)
 ·replace hF := ite_t hc1 hF
  refine wp_seq ?_
  refine wp_seq ?_
  obtain ⟨c, hx1, hF⟩ := bnd_in hF
  refine f_region Z fun Z => ?_
  refine s_runk tN Z 1 rfl rfl fun a Z => ?_
  refine sO Z (.agg #[vI n0.conf.epoch, v1_n0, vU n0.conf.floor]) rfl (oA tN rfl rfl ((H.bx 0 rfl).part 3 rfl)) fun a Z => ?_
  refine hC Z H [(1, true)] rfl #[] fn_66_YNote rfl rfl (fun D h => have q := c_ref07_Check hx1 h; q) fun vv a w2 D2 hr hF2 Z => ?_
  obtain ⟨rfl, I1, K⟩ := hr
  have H := (hF2 K).nf rfl
  refine s_runk tN Z 1 rfl rfl fun a Z => ?_
  refine s_end Z [1, 2, 3] rfl fun Z => ?_
  refine pR Z fun Z => ?_
  refine s_runk tN Z 2 rfl rfl fun a Z => ?_
  refine s_end Z [1, 2, 3, 12] rfl fun Z => ?_
  refine p_then ?_
  refine f_cond Z rfl (fun hc2 => ?_) (fun hc2 => ?_)
  ·replace hF := ite_t hc2 hF
   refine sR Z fun Z => ?_
   refine s_runk tN Z 2 rfl rfl fun a Z => ?_
   refine s_end Z [1, 2] rfl fun Z => ?_
   refine p_then (wp_ret ?_)
   refine p_then_r ?_
   refine p_blk_r ?_
   refine p_then_r ?_
   obtain rfl := some_in hF
   exact f_ret Z (run_results1 rfl Z rfl) ⟨rfl, I1, (H.sub [] rfl).eq rfl⟩
  ·replace hF := ite_f hc2 hF
   refine wp_skip ?_
   refine p_then (wp_seq ?_)
   obtain ⟨l, hx2, hF⟩ := bnd_in hF
   refine f_region Z fun Z => ?_
   refine s_runk tN Z 1 rfl rfl fun a Z => ?_
   refine sO Z _ rfl (oL tN rfl rfl (H.bc 0 6 rfl rfl)) fun a Z => ?_
   refine hC Z H [(2, true)] rfl #[] fn_67_YNote rfl rfl (fun D h => have q := c_ref10_legit hx2 h; q) fun vv a w3 D2 hr hF2 Z => ?_
   obtain ⟨rfl, I2, K⟩ := hr
   have H := (hF2 K).nf rfl
   refine s_runk tN Z 1 rfl rfl fun a Z => ?_
   refine s_end Z [2] rfl fun Z => ?_
   refine p_then (wp_ret ?_)
   refine p_blk_r ?_
   refine p_then_r ?_
   obtain rfl := some_in hF
   exact f_ret Z (run_results1 rfl Z rfl) ⟨rfl, I2, (H.sub [] rfl).eq rfl⟩
 ·replace hF := ite_f hc1 hF
  refine sR Z fun Z => ?_
  refine s_runk tN Z 2 rfl rfl fun a Z => ?_
  refine s_end Z [1, 2, 5, 17] rfl fun Z => ?_
  refine p_then ?_
  refine f_cond Z rfl (fun hc3 => ?_) (fun hc3 => ?_)
  ·replace hF := ite_t hc3 hF
   refine wp_seq ?_
   refine wp_seq ?_
   obtain ⟨m, hx3, hF⟩ := bnd_in hF
   refine f_region Z fun Z => ?_
   refine s_runk tN Z 1 rfl rfl fun a Z => ?_
   refine sO Z _ rfl (oL tN rfl rfl (H.bc 0 1 rfl rfl)) fun a Z => ?_
   refine hC Z H [] rfl #[] fn_68_YNote rfl rfl (fun D h => have q := c_ref10_may hx3 h; q) fun vv a w4 D2 hr hF2 Z => ?_
   obtain ⟨rfl, I3, K⟩ := hr
   have H := (hF2 K).nf rfl
   refine s_runk tN Z 1 rfl rfl fun a Z => ?_
   refine s_end Z [1, 2, 22] rfl fun Z => ?_
   refine p_then ?_
   refine f_cond Z rfl (fun hc4 => ?_) (fun hc4 => ?_)
   ·replace hF := ite_t hc4 hF
    refine sR Z fun Z => ?_
    refine s_runk tN Z 1 rfl rfl fun a Z => ?_
    refine s_end Z [1, 2] rfl fun Z => ?_
    refine p_then (wp_ret ?_)
    refine p_then_r ?_
    refine p_blk_r ?_
    refine p_then_r ?_
    obtain rfl := some_in hF
    exact f_ret Z (run_results1 rfl Z rfl) ⟨rfl, I3, (H.sub [] rfl).eq rfl⟩
   ·replace hF := ite_f hc4 hF
    refine wp_skip ?_
    refine p_then (wp_seq ?_)
    obtain ⟨c_2, hx4, hF⟩ := bnd_in hF
    refine f_region Z fun Z => ?_
    refine s_runk tN Z 1 rfl rfl fun a Z => ?_
    refine sO Z (.agg (cEEntry n0.entry v3_n0).toArray) rfl (oA tN rfl rfl ((H.bx 0 rfl).part 7 rfl)) fun a Z => ?_
    refine hC Z H [(3, true)] rfl #[] fn_69_YNote rfl rfl (fun D h => have q := c_ref08_Check hx4 h; q) fun vv a w5 D2 hr hF2 Z => ?_
    obtain ⟨rfl, I4, K⟩ := hr
    have H := (hF2 K).nf rfl
    refine s_runk tN Z 1 rfl rfl fun a Z => ?_
    refine s_end Z [2] rfl fun Z => ?_
    refine p_then (wp_ret ?_)
    refine p_blk_r ?_
    refine p_then_r ?_
    obtain rfl := some_in hF
    exact f_ret Z (run_results1 rfl Z rfl) ⟨rfl, I4, (H.sub [] rfl).eq rfl⟩
  ·replace hF := ite_f hc3 hF
   refine f_cut (fun a' w' => ∃ (x : Bool), Sl 54 [(1, pp b1 0), (2, vI 0), (5, vI n0.k), (26, vT x)] a' ∧ (∃ I2, Hf I D w I2 w' [BxC b1 50 (cENote n0 v1_n0 v2_n0 v3_n0), SlC NEMember v1_n0 n0.conf.members, SlC Ni64 v2_n0 n0.legit, SlC NEOp v3_n0 n0.entry.batch.ops]) ∧ F_ref10_Check_k1 n0 x = some rr) ?_ ?_
   ·rintro a w6 ⟨x, Z, ⟨I5, H⟩, hF⟩
    unfold F_ref10_Check_k1 at hF
    try dsimp only at hF
    refine f_cond Z rfl (fun hc5 => ?_) (fun hc5 => ?_)
    ·replace hF := ite_t hc5 hF
     refine wp_seq ?_
     refine wp_seq ?_
     obtain ⟨m_2, hx5, hF⟩ := bnd_in hF
     refine f_region Z fun Z => ?_
     refine s_runk tN Z 1 rfl rfl fun a Z => ?_
     refine sO Z _ rfl (oL tN rfl rfl (H.bc 0 1 rfl rfl)) fun a Z => ?_
     refine hC Z H [] rfl #[] fn_68_YNote rfl rfl (fun D h => have q := c_ref10_may hx5 h; q) fun vv a w7 D2 hr hF2 Z => ?_
     obtain ⟨rfl, I6, K⟩ := hr
     have H := (hF2 K).nf rfl
     refine s_runk tN Z 1 rfl rfl fun a Z => ?_
     refine s_end Z [2, 34] rfl fun Z => ?_
     refine p_then ?_
     refine f_cond Z rfl (fun hc6 => ?_) (fun hc6 => ?_)
     ·replace hF := ite_t hc6 hF
      refine sR Z fun Z => ?_
      refine s_runk tN Z 1 rfl rfl fun a Z => ?_
      refine s_end Z [2] rfl fun Z => ?_
      refine p_then (wp_ret ?_)
      refine p_then_r ?_
      refine p_blk_r ?_
      refine p_then_r ?_
      obtain rfl := some_in hF
      exact f_ret Z (run_results1 rfl Z rfl) ⟨rfl, I6, (H.sub [] rfl).eq rfl⟩
     ·replace hF := ite_f hc6 hF
      refine wp_skip ?_
      refine pR Z fun Z => ?_
      refine s_runk tN Z 1 rfl rfl fun a Z => ?_
      refine s_end Z [2] rfl fun Z => ?_
      refine p_then (wp_ret ?_)
      refine p_blk_r ?_
      refine p_then_r ?_
      obtain rfl := some_in hF
      exact f_ret Z (run_results1 rfl Z rfl) ⟨rfl, I6, (H.sub [] rfl).eq rfl⟩
    ·replace hF := ite_f hc5 hF
     refine sR Z fun Z => ?_
     refine s_runk tN Z 2 rfl rfl fun a Z => ?_
     refine s_end Z [1, 2, 5, 35] rfl fun Z => ?_
     refine p_then ?_
     refine f_cond Z rfl (fun hc7 => ?_) (fun hc7 => ?_)
     ·replace hF := ite_t hc7 hF
      refine wp_seq ?_
      refine wp_seq ?_
      obtain ⟨m_3, hx6, hF⟩ := bnd_in hF
      obtain ⟨m_4, hx7, hF⟩ := bnd_in hF
      refine f_region Z fun Z => ?_
      refine s_runk tN Z 2 rfl rfl fun a Z => ?_
      refine sO Z _ rfl (oL tN rfl rfl (H.bc 0 11 rfl rfl)) fun a Z => ?_
      refine hC Z H [] rfl #[] fn_68_YNote rfl rfl (fun D h => have q := c_ref10_may hx6 h; q) fun vv a w8 D2 hr hF2 Z => ?_
      obtain ⟨rfl, I7, K⟩ := hr
      have H := (hF2 K).nf rfl
      refine s_runk tN Z 2 rfl rfl fun a Z => ?_
      refine gO Z (pp b1 11) rfl (wantB_f _) (.n 1 rfl .z) (fun hp => Ob_c tN rfl) fun a Z => ?_
      refine gO Z (pp b1 13) rfl (wantB_f _) (.c 43 rfl id .z) (fun hp => Ob_c tN rfl) fun a Z => ?_
      refine gO Z _ rfl (wantB_f _) (.c 44 rfl id .z) (fun hp => oL tN rfl rfl (H.bc 0 13 rfl rfl)) fun a Z => ?_
      refine g_call Z (p := (!(!m_3))) (v := vT m_4) (S' := [(45, vI n0.pin.left)]) (caps := #[]) fn_68_YNote rfl rfl rfl (wantB_f _) rfl (by decide) (fun hp hS => (hS.conv (t := 45) rfl (cond_t hp)).sub (ts := [45]) rfl) rfl rfl rfl rfl (fun hp => (have hq := c_ref10_may (gif_in hx7 hp) ((H).pick0 (js := []) rfl rfl); plainC hq)) fun a w9 hb Z => ?_
      replace H := H.blw hb
      clear hb
      refine gO Z (vT (!m_4)) rfl (wantB_f _) (.c 46 rfl id .z) (fun hp => Ob_c tN rfl) fun a Z => ?_
      refine sO Z (vT ((!m_3) || (!m_4))) rfl (Ob_pick rfl rfl rfl rfl (pick_or _ _)) fun a Z => ?_
      refine s_end Z [2, 48] rfl fun Z => ?_
      refine p_then ?_
      refine f_cond Z rfl (fun hc8 => ?_) (fun hc8 => ?_)
      ·replace hF := ite_t hc8 hF
       refine sR Z fun Z => ?_
       refine s_runk tN Z 1 rfl rfl fun a Z => ?_
       refine s_end Z [2] rfl fun Z => ?_
       refine p_then (wp_ret ?_)
       refine p_then_r ?_
       refine p_blk_r ?_
       refine p_then_r ?_
       obtain rfl := some_in hF
       exact f_ret Z (run_results1 rfl Z rfl) ⟨rfl, I7, (H.sub [] rfl).eq rfl⟩
      ·replace hF := ite_f hc8 hF
       refine wp_skip ?_
       refine pR Z fun Z => ?_
       refine s_runk tN Z 1 rfl rfl fun a Z => ?_
       refine s_end Z [2] rfl fun Z => ?_
       refine p_then (wp_ret ?_)
       refine p_blk_r ?_
       refine p_then_r ?_
       obtain rfl := some_in hF
       exact f_ret Z (run_results1 rfl Z rfl) ⟨rfl, I7, (H.sub [] rfl).eq rfl⟩
     ·replace hF := ite_f hc7 hF
      refine sR Z fun Z => ?_
      refine s_runk tN Z 2 rfl rfl fun a Z => ?_
      refine s_end Z [1, 2, 49] rfl fun Z => ?_
      refine p_then ?_
      refine f_cond Z rfl (fun hc9 => ?_) (fun hc9 => ?_)
      ·replace hF := ite_t hc9 hF
       refine wp_seq ?_
       obtain ⟨s0, hx8, hF⟩ := bnd_in hF
       refine f_region Z fun Z => ?_
       refine s_runk tN Z 1 rfl rfl fun a Z => ?_
       refine sO Z (.agg (cEAnswer n0.said).toArray) rfl (oA tN rfl rfl ((H.bx 0 rfl).part 14 rfl)) fun a Z => ?_
       refine hC Z H [] rfl #[] fn_70_YNote rfl rfl (fun D h => have q := c_ref10_said hx8 h; q) fun vv a w10 D2 hr hF2 Z => ?_
       obtain ⟨rfl, I8, K⟩ := hr
       have H := (hF2 K).nf rfl
       refine s_runk tN Z 1 rfl rfl fun a Z => ?_
       refine s_end Z [2] rfl fun Z => ?_
       refine p_then (wp_ret ?_)
       refine p_blk_r ?_
       refine p_then_r ?_
       obtain rfl := some_in hF
       exact f_ret Z (run_results1 rfl Z rfl) ⟨rfl, I8, (H.sub [] rfl).eq rfl⟩
      ·replace hF := ite_f hc9 hF
       refine wp_skip ?_
       refine p_blk ?_
       refine pR Z fun Z => ?_
       refine s_runk tN Z 1 rfl rfl fun a Z => ?_
       refine s_end Z [2] rfl fun Z => ?_
       refine p_then (wp_ret ?_)
       obtain rfl := some_in hF
       exact f_ret Z (run_results1 rfl Z rfl) ⟨rfl, I5, (H.sub [] rfl).eq rfl⟩
   ·skip
    refine sR Z fun Z => ?_
    refine s_runk tN Z 2 rfl rfl fun a Z => ?_
    refine s_end Z [1, 2, 5, 26] rfl fun Z => ?_
    refine p_then ?_
    refine f_cond Z rfl (fun hc10 => ?_) (fun hc10 => ?_)
    ·replace hF := ite_t hc10 hF
     refine wp_skip ?_
     refine p_then ?_
     exact ⟨n0.k == 3, Z.sub (ts := [1, 2, 5, 26]) rfl, ⟨I, (H.sub [(0, false), (0, true), (1, true), (2, true)] rfl).eq rfl⟩, hF⟩
    ·replace hF := ite_f hc10 hF
     refine sR Z fun Z => ?_
     refine s_runk tN Z 2 rfl rfl fun a Z => ?_
     refine s_end Z [1, 2, 5, 26] rfl fun Z => ?_
     refine p_then ?_
     refine f_cond Z rfl (fun hc11 => ?_) (fun hc11 => ?_)
     ·replace hF := ite_t hc11 hF
      refine wp_skip ?_
      refine p_then ?_
      exact ⟨n0.k == 4, Z.sub (ts := [1, 2, 5, 26]) rfl, ⟨I, (H.sub [(0, false), (0, true), (1, true), (2, true)] rfl).eq rfl⟩, hF⟩
     ·replace hF := ite_f hc11 hF
      refine sR Z fun Z => ?_
      refine s_runk tN Z 2 rfl rfl fun a Z => ?_
      refine s_end Z [1, 2, 5, 26] rfl fun Z => ?_
      refine p_then ?_
      refine f_cond Z rfl (fun hc12 => ?_) (fun hc12 => ?_)
      ·replace hF := ite_t hc12 hF
       refine wp_skip ?_
       refine p_then ?_
       exact ⟨n0.k == 5, Z.sub (ts := [1, 2, 5, 26]) rfl, ⟨I, (H.sub [(0, false), (0, true), (1, true), (2, true)] rfl).eq rfl⟩, hF⟩
      ·replace hF := ite_f hc12 hF
       refine f_region Z fun Z => ?_
       refine s_runk tN Z 2 rfl rfl fun a Z => ?_
       refine s_end Z [1, 2, 5, 26] rfl fun Z => ?_
       refine p_then ?_
       exact ⟨n0.k == 7, Z.sub (ts := [1, 2, 5, 26]) rfl, ⟨I, (H.sub [(0, false), (0, true), (1, true), (2, true)] rfl).eq rfl⟩, hF⟩

def F_note_Check_k1 (n0 : ENote) (x : Bool) : Option Int := if (x) = true then ((F_note_range0 [n0.n]).bind fun r0_2 => (some r0_2)) else (if (n0.k == 6) = true then ((F_note_range0 [n0.pin.id, n0.pin.left]).bind fun r0_3 => (some r0_3)) else (if (n0.k == 8) = true then ((F_note_said n0.said).bind fun s0 => (some s0)) else (some 11)))

def F_note_Check (n0 : ENote) : Option Int := if (n0.k == 1) = true then ((F_conf_Check n0.conf).bind fun c => (if (c != 0) = true then (some c) else ((F_note_legit n0.legit).bind fun l => (some l)))) else (if (n0.k == 2) = true then ((F_note_range0 [n0.n]).bind fun r0 => (if (r0 != 0) = true then (some r0) else ((F_item_Check n0.entry).bind fun c_2 => (some c_2)))) else (if (n0.k == 3) = true then (F_note_Check_k1 n0 (n0.k == 3)) else (if (n0.k == 4) = true then (F_note_Check_k1 n0 (n0.k == 4)) else (if (n0.k == 5) = true then (F_note_Check_k1 n0 (n0.k == 5)) else (F_note_Check_k1 n0 (n0.k == 7))))))

set_option maxHeartbeats 1000000 in
theorem c_note_Check {I D : Dm} {n0 : ENote} {v1_n0 : Value} {v2_n0 : Value} {v3_n0 : Value} {w : World} {rr : Int} (hF : F_note_Check n0 = some rr) (H : St I D w [SlC NEMember v1_n0 n0.conf.members, SlC Ni64 v2_n0 n0.legit, SlC NEOp v3_n0 n0.entry.batch.ops]) :
  Calls Tryz.prog 20 #[.agg (cENote n0 v1_n0 v2_n0 v3_n0).toArray] w (Ret fun vv w' => vv = vI rr ∧ ∃ I', Hf I D w I' w' []) := by
 replace H := H.hf
 unfold F_note_Check at hF
 refine f_enter 54 Tryz.func20 rfl rfl (Nat.le_of_ble_eq_true rfl) fun a Z => ?_
 replace Z := Z.sub (ts := [0]) rfl
 refine sR Z fun Z => ?_
 refine h_boxv Z H (cl := (cENote n0 v1_n0 v2_n0 v3_n0)) rfl rfl rfl (by decide) rfl rfl rfl fun a w1 b1 H Z => ?_
 refine s_runk tN Z 1 rfl rfl fun a Z => ?_
 refine s_end Z [1, 2] rfl fun Z => ?_
 refine p_then (wp_seq ?_)
 refine sR Z fun Z => ?_
 refine s_runk tN Z 1 rfl rfl fun a Z => ?_
 refine sO Z _ rfl (oL tN rfl rfl (H.bc 0 0 rfl rfl)) fun a Z => ?_
 refine s_end Z [1, 2, 6] rfl fun Z => ?_
 refine p_then (wp_block ?_)
 refine sR Z fun Z => ?_
 refine s_runk tN Z 2 rfl rfl fun a Z => ?_
 refine s_end Z [1, 2, 6, 7] rfl fun Z => ?_
 refine p_then ?_
 refine f_cond Z rfl (fun hc1 => ?_) (fun hc1 => ?_)
 ·replace hF := ite_t hc1 hF
  refine wp_seq ?_
  refine wp_seq ?_
  obtain ⟨c, hx1, hF⟩ := bnd_in hF
  refine f_region Z fun Z => ?_
  refine s_runk tN Z 1 rfl rfl fun a Z => ?_
  refine sO Z (.agg #[vI n0.conf.epoch, v1_n0, vU n0.conf.floor]) rfl (oA tN rfl rfl ((H.bx 0 rfl).part 3 rfl)) fun a Z => ?_
  refine hC Z H [(1, true)] rfl #[] fn_50_YNote rfl rfl (fun D h => have q := c_conf_Check hx1 h; q) fun vv a w2 D2 hr hF2 Z => ?_
  obtain ⟨rfl, I1, K⟩ := hr
  have H := (hF2 K).nf rfl
  refine s_runk tN Z 1 rfl rfl fun a Z => ?_
  refine s_end Z [1, 2, 3] rfl fun Z => ?_
  refine pR Z fun Z => ?_
  refine s_runk tN Z 2 rfl rfl fun a Z => ?_
  refine s_end Z [1, 2, 3, 13] rfl fun Z => ?_
  refine p_then ?_
  refine f_cond Z rfl (fun hc2 => ?_) (fun hc2 => ?_)
  ·replace hF := ite_t hc2 hF
   refine sR Z fun Z => ?_
   refine s_runk tN Z 2 rfl rfl fun a Z => ?_
   refine s_end Z [1, 2] rfl fun Z => ?_
   refine p_then (wp_ret ?_)
   refine p_then_r ?_
   refine p_blk_r ?_
   refine p_then_r ?_
   obtain rfl := some_in hF
   exact f_ret Z (run_results1 rfl Z rfl) ⟨rfl, I1, (H.sub [] rfl).eq rfl⟩
  ·replace hF := ite_f hc2 hF
   refine wp_skip ?_
   refine p_then (wp_seq ?_)
   obtain ⟨l, hx2, hF⟩ := bnd_in hF
   refine f_region Z fun Z => ?_
   refine s_runk tN Z 1 rfl rfl fun a Z => ?_
   refine sO Z _ rfl (oL tN rfl rfl (H.bc 0 6 rfl rfl)) fun a Z => ?_
   refine hC Z H [(2, true)] rfl #[] fn_51_YNote rfl rfl (fun D h => have q := c_note_legit hx2 h; q) fun vv a w3 D2 hr hF2 Z => ?_
   obtain ⟨rfl, I2, K⟩ := hr
   have H := (hF2 K).nf rfl
   refine s_runk tN Z 1 rfl rfl fun a Z => ?_
   refine s_end Z [2] rfl fun Z => ?_
   refine p_then (wp_ret ?_)
   refine p_blk_r ?_
   refine p_then_r ?_
   obtain rfl := some_in hF
   exact f_ret Z (run_results1 rfl Z rfl) ⟨rfl, I2, (H.sub [] rfl).eq rfl⟩
 ·replace hF := ite_f hc1 hF
  refine sR Z fun Z => ?_
  refine s_runk tN Z 2 rfl rfl fun a Z => ?_
  refine s_end Z [1, 2, 6, 18] rfl fun Z => ?_
  refine p_then ?_
  refine f_cond Z rfl (fun hc3 => ?_) (fun hc3 => ?_)
  ·replace hF := ite_t hc3 hF
   refine wp_seq ?_
   refine wp_seq ?_
   obtain ⟨r0, hx3, hF⟩ := bnd_in hF
   refine f_region Z fun Z => ?_
   refine s_runk tN Z 1 rfl rfl fun a Z => ?_
   refine sO Z _ rfl (oL tN rfl rfl (H.bc 0 1 rfl rfl)) fun a Z => ?_
   refine h_bslice Z H (vs := [(0, vI n0.n)]) (cl := [vI n0.n]) (e := 3) rfl rfl rfl (by decide) rfl rfl (fun w => run_bslice (z := vI 0) (m := 1) Tryz.underlying39 (by kernel_rfl) rfl rfl (by decide) (by simp [Instr.fill, Value.cells]) w) fun a w4 b2 H Z => ?_
   obtain ⟨I3, _, H⟩ := H.frzlit 0 rfl (R := Ni64) [[vI n0.n]] [n0.n] rfl rfl (fun i h1 h2 => by match i, h1, h2 with | 0, _, _ => exact ⟨rfl, trivial⟩) (show 1 ≤ maxLen from by decide) (n := 1) rfl
   replace H := H.nf rfl; try dsimp only at H
   refine hC Z H [(0, true)] rfl #[] fn_52_YNote rfl rfl (fun D h => have q := c_note_range0 hx3 h; q) fun vv a w5 D2 hr hF2 Z => ?_
   obtain ⟨rfl, I4, K⟩ := hr
   have H := (hF2 K).nf rfl
   refine s_runk tN Z 1 rfl rfl fun a Z => ?_
   refine s_end Z [1, 2, 4] rfl fun Z => ?_
   refine pR Z fun Z => ?_
   refine s_runk tN Z 2 rfl rfl fun a Z => ?_
   refine s_end Z [1, 2, 4, 25] rfl fun Z => ?_
   refine p_then ?_
   refine f_cond Z rfl (fun hc4 => ?_) (fun hc4 => ?_)
   ·replace hF := ite_t hc4 hF
    refine sR Z fun Z => ?_
    refine s_runk tN Z 2 rfl rfl fun a Z => ?_
    refine s_end Z [1, 2] rfl fun Z => ?_
    refine p_then (wp_ret ?_)
    refine p_then_r ?_
    refine p_blk_r ?_
    refine p_then_r ?_
    obtain rfl := some_in hF
    exact f_ret Z (run_results1 rfl Z rfl) ⟨rfl, I4, (H.sub [] rfl).eq rfl⟩
   ·replace hF := ite_f hc4 hF
    refine wp_skip ?_
    refine p_then (wp_seq ?_)
    obtain ⟨c_2, hx4, hF⟩ := bnd_in hF
    refine f_region Z fun Z => ?_
    refine s_runk tN Z 1 rfl rfl fun a Z => ?_
    refine sO Z (.agg (cEEntry n0.entry v3_n0).toArray) rfl (oA tN rfl rfl ((H.bx 1 rfl).part 7 rfl)) fun a Z => ?_
    refine hC Z H [(4, true)] rfl #[] fn_53_YNote rfl rfl (fun D h => have q := c_item_Check hx4 h; q) fun vv a w6 D2 hr hF2 Z => ?_
    obtain ⟨rfl, I5, K⟩ := hr
    have H := (hF2 K).nf rfl
    refine s_runk tN Z 1 rfl rfl fun a Z => ?_
    refine s_end Z [2] rfl fun Z => ?_
    refine p_then (wp_ret ?_)
    refine p_blk_r ?_
    refine p_then_r ?_
    obtain rfl := some_in hF
    exact f_ret Z (run_results1 rfl Z rfl) ⟨rfl, I5, (H.sub [] rfl).eq rfl⟩
  ·replace hF := ite_f hc3 hF
   refine f_cut (fun a' w' => ∃ (x : Bool), Sl 54 [(1, pp b1 0), (2, vI 0), (6, vI n0.k), (30, vT x)] a' ∧ (∃ I2, Hf I D w I2 w' [BxC b1 50 (cENote n0 v1_n0 v2_n0 v3_n0), SlC NEMember v1_n0 n0.conf.members, SlC Ni64 v2_n0 n0.legit, SlC NEOp v3_n0 n0.entry.batch.ops]) ∧ F_note_Check_k1 n0 x = some rr) ?_ ?_
   ·rintro a w7 ⟨x, Z, ⟨I6, H⟩, hF⟩
    unfold F_note_Check_k1 at hF
    try dsimp only at hF
    refine f_cond Z rfl (fun hc5 => ?_) (fun hc5 => ?_)
    ·replace hF := ite_t hc5 hF
     refine wp_seq ?_
     obtain ⟨r0_2, hx5, hF⟩ := bnd_in hF
     refine f_region Z fun Z => ?_
     refine s_runk tN Z 1 rfl rfl fun a Z => ?_
     refine sO Z _ rfl (oL tN rfl rfl (H.bc 0 1 rfl rfl)) fun a Z => ?_
     refine h_bslice Z H (vs := [(0, vI n0.n)]) (cl := [vI n0.n]) (e := 3) rfl rfl rfl (by decide) rfl rfl (fun w => run_bslice (z := vI 0) (m := 1) Tryz.underlying39 (by kernel_rfl) rfl rfl (by decide) (by simp [Instr.fill, Value.cells]) w) fun a w8 b3 H Z => ?_
     obtain ⟨I7, _, H⟩ := H.frzlit 0 rfl (R := Ni64) [[vI n0.n]] [n0.n] rfl rfl (fun i h1 h2 => by match i, h1, h2 with | 0, _, _ => exact ⟨rfl, trivial⟩) (show 1 ≤ maxLen from by decide) (n := 1) rfl
     replace H := H.nf rfl; try dsimp only at H
     refine hC Z H [(0, true)] rfl #[] fn_52_YNote rfl rfl (fun D h => have q := c_note_range0 hx5 h; q) fun vv a w9 D2 hr hF2 Z => ?_
     obtain ⟨rfl, I8, K⟩ := hr
     have H := (hF2 K).nf rfl
     refine s_runk tN Z 1 rfl rfl fun a Z => ?_
     refine s_end Z [2] rfl fun Z => ?_
     refine p_then (wp_ret ?_)
     refine p_blk_r ?_
     refine p_then_r ?_
     obtain rfl := some_in hF
     exact f_ret Z (run_results1 rfl Z rfl) ⟨rfl, I8, (H.sub [] rfl).eq rfl⟩
    ·replace hF := ite_f hc5 hF
     refine sR Z fun Z => ?_
     refine s_runk tN Z 2 rfl rfl fun a Z => ?_
     refine s_end Z [1, 2, 6, 39] rfl fun Z => ?_
     refine p_then ?_
     refine f_cond Z rfl (fun hc6 => ?_) (fun hc6 => ?_)
     ·replace hF := ite_t hc6 hF
      refine wp_seq ?_
      obtain ⟨r0_3, hx6, hF⟩ := bnd_in hF
      refine f_region Z fun Z => ?_
      refine s_runk tN Z 2 rfl rfl fun a Z => ?_
      refine sO Z _ rfl (oL tN rfl rfl (H.bc 0 11 rfl rfl)) fun a Z => ?_
      refine s_runk tN Z 2 rfl rfl fun a Z => ?_
      refine sO Z _ rfl (oL tN rfl rfl (H.bc 0 13 rfl rfl)) fun a Z => ?_
      refine h_bslice Z H (vs := [(0, vI n0.pin.id), (1, vI n0.pin.left)]) (cl := [vI n0.pin.id, vI n0.pin.left]) (e := 3) rfl rfl rfl (by decide) rfl rfl (fun w => run_bslice (z := vI 0) (m := 1) Tryz.underlying39 (by kernel_rfl) rfl rfl (by decide) (by simp [Instr.fill, Value.cells]) w) fun a w10 b4 H Z => ?_
      obtain ⟨I9, _, H⟩ := H.frzlit 0 rfl (R := Ni64) [[vI n0.pin.id], [vI n0.pin.left]] [n0.pin.id, n0.pin.left] rfl rfl (fun i h1 h2 => by match i, h1, h2 with | 0, _, _ => exact ⟨rfl, trivial⟩ | 1, _, _ => exact ⟨rfl, trivial⟩) (show 2 ≤ maxLen from by decide) (n := 2) rfl
      replace H := H.nf rfl; try dsimp only at H
      refine hC Z H [(0, true)] rfl #[] fn_52_YNote rfl rfl (fun D h => have q := c_note_range0 hx6 h; q) fun vv a w11 D2 hr hF2 Z => ?_
      obtain ⟨rfl, I10, K⟩ := hr
      have H := (hF2 K).nf rfl
      refine s_runk tN Z 1 rfl rfl fun a Z => ?_
      refine s_end Z [2] rfl fun Z => ?_
      refine p_then (wp_ret ?_)
      refine p_blk_r ?_
      refine p_then_r ?_
      obtain rfl := some_in hF
      exact f_ret Z (run_results1 rfl Z rfl) ⟨rfl, I10, (H.sub [] rfl).eq rfl⟩
     ·replace hF := ite_f hc6 hF
      refine sR Z fun Z => ?_
      refine s_runk tN Z 2 rfl rfl fun a Z => ?_
      refine s_end Z [1, 2, 49] rfl fun Z => ?_
      refine p_then ?_
      refine f_cond Z rfl (fun hc7 => ?_) (fun hc7 => ?_)
      ·replace hF := ite_t hc7 hF
       refine wp_seq ?_
       obtain ⟨s0, hx7, hF⟩ := bnd_in hF
       refine f_region Z fun Z => ?_
       refine s_runk tN Z 1 rfl rfl fun a Z => ?_
       refine sO Z (.agg (cEAnswer n0.said).toArray) rfl (oA tN rfl rfl ((H.bx 0 rfl).part 14 rfl)) fun a Z => ?_
       refine hC Z H [] rfl #[] fn_54_YNote rfl rfl (fun D h => have q := c_note_said hx7 h; q) fun vv a w12 D2 hr hF2 Z => ?_
       obtain ⟨rfl, I11, K⟩ := hr
       have H := (hF2 K).nf rfl
       refine s_runk tN Z 1 rfl rfl fun a Z => ?_
       refine s_end Z [2] rfl fun Z => ?_
       refine p_then (wp_ret ?_)
       refine p_blk_r ?_
       refine p_then_r ?_
       obtain rfl := some_in hF
       exact f_ret Z (run_results1 rfl Z rfl) ⟨rfl, I11, (H.sub [] rfl).eq rfl⟩
      ·replace hF := ite_f hc7 hF
       refine wp_skip ?_
       refine p_blk ?_
       refine pR Z fun Z => ?_
       refine s_runk tN Z 1 rfl rfl fun a Z => ?_
       refine s_end Z [2] rfl fun Z => ?_
       refine p_then (wp_ret ?_)
       obtain rfl := some_in hF
       exact f_ret Z (run_results1 rfl Z rfl) ⟨rfl, I6, (H.sub [] rfl).eq rfl⟩
   ·skip
    refine sR Z fun Z => ?_
    refine s_runk tN Z 2 rfl rfl fun a Z => ?_
    refine s_end Z [1, 2, 6, 30] rfl fun Z => ?_
    refine p_then ?_
    refine f_cond Z rfl (fun hc8 => ?_) (fun hc8 => ?_)
    ·replace hF := ite_t hc8 hF
     refine wp_skip ?_
     refine p_then ?_
     exact ⟨n0.k == 3, Z.sub (ts := [1, 2, 6, 30]) rfl, ⟨I, (H.sub [(0, false), (0, true), (1, true), (2, true)] rfl).eq rfl⟩, hF⟩
    ·replace hF := ite_f hc8 hF
     refine sR Z fun Z => ?_
     refine s_runk tN Z 2 rfl rfl fun a Z => ?_
     refine s_end Z [1, 2, 6, 30] rfl fun Z => ?_
     refine p_then ?_
     refine f_cond Z rfl (fun hc9 => ?_) (fun hc9 => ?_)
     ·replace hF := ite_t hc9 hF
      refine wp_skip ?_
      refine p_then ?_
      exact ⟨n0.k == 4, Z.sub (ts := [1, 2, 6, 30]) rfl, ⟨I, (H.sub [(0, false), (0, true), (1, true), (2, true)] rfl).eq rfl⟩, hF⟩
     ·replace hF := ite_f hc9 hF
      refine sR Z fun Z => ?_
      refine s_runk tN Z 2 rfl rfl fun a Z => ?_
      refine s_end Z [1, 2, 6, 30] rfl fun Z => ?_
      refine p_then ?_
      refine f_cond Z rfl (fun hc10 => ?_) (fun hc10 => ?_)
      ·replace hF := ite_t hc10 hF
       refine wp_skip ?_
       refine p_then ?_
       exact ⟨n0.k == 5, Z.sub (ts := [1, 2, 6, 30]) rfl, ⟨I, (H.sub [(0, false), (0, true), (1, true), (2, true)] rfl).eq rfl⟩, hF⟩
      ·replace hF := ite_f hc10 hF
       refine f_region Z fun Z => ?_
       refine s_runk tN Z 2 rfl rfl fun a Z => ?_
       refine s_end Z [1, 2, 6, 30] rfl fun Z => ?_
       refine p_then ?_
       exact ⟨n0.k == 7, Z.sub (ts := [1, 2, 6, 30]) rfl, ⟨I, (H.sub [(0, false), (0, true), (1, true), (2, true)] rfl).eq rfl⟩, hF⟩

end Go.Proofs.YtglfajjcgbfehaaGreat

