/- Many versions: reading. -/
import Derived.Test.YtglfajjcgbfehaaGreatYMv
namespace Go.Proofs.YtglfajjcgbfehaaGreat
open Go.RowKit
def tMv1L : TabL := ⟨[(94208, 0), (140288, 0), (140289, 1), (140290, 2)], [], [], [(90, (137, 3))], [(4, (1, false)), (9, (1, false)), (29, (1, false)), (88, (1, false)), (137, (3, true))]⟩

def tMv1 : Tab Tryz.prog := ⟨tMv1L, by kernel_rfl⟩

theorem fn_46_YMv1 : IsFn Tryz.prog 46 := ⟨_, Tryz.func46, by kernel_rfl, by kernel_rfl⟩

theorem fn_47_YMv1 : IsFn Tryz.prog 47 := ⟨_, Tryz.func47, by kernel_rfl, by kernel_rfl⟩

theorem fn_48_YMv1 : IsFn Tryz.prog 48 := ⟨_, Tryz.func48, by kernel_rfl, by kernel_rfl⟩

theorem fn_85_YMv1 : IsFn Tryz.prog 85 := ⟨_, Tryz.func85, by kernel_rfl, by kernel_rfl⟩

theorem fn_98_YMv1 : IsFn Tryz.prog 98 := ⟨_, Tryz.func98, by kernel_rfl, by kernel_rfl⟩

theorem fn_99_YMv1 : IsFn Tryz.prog 99 := ⟨_, Tryz.func99, by kernel_rfl, by kernel_rfl⟩

def F_vers_Right_l1 (l : List ECell) (rc : (Int × Int) → Option Bool) (sg : Int × Int) : Option Bool := match sg with | (ahead, x) => if (decide (x < (l.length : Int))) = true then (chk ((0 : Int) ≤ x ∧ x < (l.length : Int)) (if (decide ((l.getD (x).toNat default).ts ≤ ahead)) = true then (some false) else (chk (inI (x + 1)) (rc ((l.getD (x).toNat default).ts, x + 1))))) else (some true)

def F_vers_Right (l : List ECell) : Option Bool := iter (F_vers_Right_l1 l) FU (0, 0)

set_option maxHeartbeats 1000000 in
theorem c_vers_Right {I D : Dm} {l : List ECell} {v1_l : Value} {w : World} {rr : Bool} (hF : F_vers_Right l = some rr) (H : St I D w [SlC NECell v1_l l]) :
  Calls Tryz.prog 98 #[v1_l] w (Ret fun vv w' => vv = vT rr ∧ ∃ I', Hf I D w I' w' []) := by
 replace H := H.hf
 unfold F_vers_Right at hF
 refine f_enter 19 Tryz.func98 rfl rfl (Nat.le_of_ble_eq_true rfl) fun a Z => ?_
 replace Z := Z.sub (ts := [0]) rfl
 refine sR Z fun Z => ?_
 refine s_runk tMv1 Z 1 rfl rfl fun a Z => ?_
 refine s_end Z [0, 2] rfl fun Z => ?_
 refine pR Z fun Z => ?_
 refine s_runk tMv1 Z 1 rfl rfl fun a Z => ?_
 refine s_end Z [0, 2, 3] rfl fun Z => ?_
 refine p_then (wp_seq ?_)
 refine sR Z fun Z => ?_
 refine s_runk tMv1 Z 1 rfl rfl fun a Z => ?_
 refine sO Z (vI (ln l)) rfl (Ob_slen tMv1 rfl rfl rfl (H.slshape 0 rfl)) fun a Z => ?_
 refine s_runk tMv1 Z 1 rfl rfl fun a Z => ?_
 refine s_end Z [2, 3, 6, 7, 8] rfl fun Z => ?_
 refine p_then (wp_block ?_)
 refine f_iter hF (fun sg a' w' => match sg with | (ahead, x) => Sl 19 [(2, vT false), (3, vU ahead), (6, v1_l), (7, vI (ln l)), (8, vI x)] a' ∧ ∃ I2, Hf I D w I2 w' [SlC NECell v1_l l]) ⟨Z.sub (ts := [2, 3, 6, 7, 8]) rfl, ⟨I, (H.sub [(0, true)] rfl).eq rfl⟩⟩ ?_
 rintro rc ⟨ahead, x⟩ a w1 ⟨Z, I1, H⟩ hF
 unfold F_vers_Right_l1 at hF
 try dsimp only at hF
 refine sR Z fun Z => ?_
 refine s_runk tMv1 Z 1 rfl rfl fun a Z => ?_
 refine s_end Z [2, 3, 6, 7, 8, 9] rfl fun Z => ?_
 refine p_then (wp_seq ?_)
 refine f_cond Z rfl (fun hc1 => ?_) (fun hc1 => ?_)
 ·replace hF := ite_t hc1 hF
  refine wp_skip ?_
  refine p_then (wp_seq ?_)
  refine wp_block ?_
  refine wp_seq ?_
  obtain ⟨hg1, hF⟩ := chk_in hF
  refine f_region Z fun Z => ?_
  refine sO Z (.pointer (some ⟨blkOf v1_l, oofOf v1_l + (x).toNat * 3, none⟩)) rfl (Ob_sidx tMv1 rfl rfl rfl rfl (slPl (H.sl 0 rfl) hg1) hg1) fun a Z => ?_
  refine sO Z (.agg #[vU ((gi l x).ts), vS ((gi l x).val), vT ((gi l x).del)]) rfl (oA tMv1 rfl rfl ((slFl (H.sl 0 rfl) hg1).part 0 rfl)) fun a Z => ?_
  refine hA Z H [vU 0, vS ByteArray.empty, vT false] rfl rfl (by kernel_rfl) fun a w2 b1 H Z => ?_
  refine hT tMv1 Z H 0 rfl rfl rfl rfl rfl (onR 3 rfl one_nil) (Nat.le_of_ble_eq_true rfl) rfl fun w3 H => ?_
  dsimp only [List.eraseIdx] at H
  refine s_end Z [2, 3, 6, 7, 8, 9, 10, 11, 5] rfl fun Z => ?_
  refine p_then (wp_seq ?_)
  refine sR Z fun Z => ?_
  refine s_runk tMv1 Z 1 rfl rfl fun a Z => ?_
  refine sO Z _ rfl (oL tMv1 rfl rfl (H.bc 0 0 rfl rfl)) fun a Z => ?_
  refine s_runk tMv1 Z 2 rfl rfl fun a Z => ?_
  refine s_end Z [2, 3, 6, 7, 8, 9, 10, 11, 5, 12, 13, 14, 15] rfl fun Z => ?_
  refine p_then ?_
  refine f_cond Z rfl (fun hc2 => ?_) (fun hc2 => ?_)
  ·replace hF := ite_t hc2 hF
   refine sR Z fun Z => ?_
   refine s_runk tMv1 Z 1 rfl rfl fun a Z => ?_
   refine s_end Z [2, 3, 6, 7, 8, 9, 10, 11, 5, 12, 13, 14, 15] rfl fun Z => ?_
   refine p_then (wp_ret ?_)
   refine p_then_r ?_
   refine p_blk_r ?_
   refine p_then_r ?_
   refine p_then_r ?_
   refine p_blk_r ?_
   refine p_then_r ?_
   obtain rfl := some_in hF
   exact f_ret Z (run_results1 rfl Z rfl) ⟨rfl, I1, (H.sub [] rfl).eq rfl⟩
  ·replace hF := ite_f hc2 hF
   refine wp_skip ?_
   refine p_then ?_
   refine f_region Z fun Z => ?_
   refine s_runk tMv1 Z 1 rfl rfl fun a Z => ?_
   refine sO Z _ rfl (oL tMv1 rfl rfl (H.bc 0 0 rfl rfl)) fun a Z => ?_
   refine s_runk tMv1 Z 1 rfl rfl fun a Z => ?_
   refine s_end Z [2, 3, 6, 7, 8, 9, 10, 11, 5, 12, 13, 14, 15, 16, 17] rfl fun Z => ?_
   refine p_blk ?_
   refine p_then ?_
   obtain ⟨hg2, hF⟩ := chk_in hF
   refine f_region Z fun Z => ?_
   refine sO Z (vI (x + 1)) rfl (Ob_add rfl rfl rfl (wrI hg2)) fun a Z => ?_
   refine s_runk tMv1 Z 1 rfl rfl fun a Z => ?_
   refine s_end Z [2, 3, 6, 7, 8, 9, 10, 11, 5, 12, 13, 14, 15, 16, 17, 18] rfl fun Z => ?_
   refine p_then ?_
   exact ⟨((gi l x).ts, x + 1), ⟨Z.sub (ts := [2, 3, 6, 7, 8]) rfl, ⟨I1, (H.sub [(1, true)] rfl).eq rfl⟩⟩, hF⟩
 ·replace hF := ite_f hc1 hF
  refine wp_exit ?_
  refine p_then_x ?_
  refine p_then_x ?_
  refine f_exit_here ?_
  refine pR Z fun Z => ?_
  refine s_runk tMv1 Z 1 rfl rfl fun a Z => ?_
  refine s_end Z [2] rfl fun Z => ?_
  refine p_then (wp_ret ?_)
  obtain rfl := some_in hF
  exact f_ret Z (run_results1 rfl Z rfl) ⟨rfl, I1, (H.sub [] rfl).eq rfl⟩

def F_vers_scan_l1 (l : List ECell) (t : Int) (rc : Int → Option Int) (sg : Int) : Option Int := match sg with | n0 => chk ((decide (n0 > 0)) = true → inI (n0 - 1)) (chk ((decide (n0 > 0)) = true → (0 : Int) ≤ n0 - 1 ∧ n0 - 1 < (l.length : Int)) (if ((decide (n0 > 0)) && (decide ((l.getD (n0 - 1).toNat default).ts > t))) = true then (chk (inI (n0 - 1)) (rc (n0 - 1))) else (some n0)))

def F_vers_scan (l : List ECell) (t : Int) : Option Int := iter (F_vers_scan_l1 l t) FU (l.length : Int)

set_option maxHeartbeats 1000000 in
theorem c_vers_scan {I D : Dm} {l : List ECell} {v1_l : Value} {t : Int} {w : World} {rr : Int} (hF : F_vers_scan l t = some rr) (H : St I D w [SlC NECell v1_l l]) :
  Calls Tryz.prog 99 #[v1_l, vU t] w (Ret fun vv w' => vv = vI rr ∧ ∃ I', Hf I D w I' w' []) := by
 replace H := H.hf
 unfold F_vers_scan at hF
 refine f_enter 23 Tryz.func99 rfl rfl (Nat.le_of_ble_eq_true rfl) fun a Z => ?_
 replace Z := Z.sub (ts := [0, 1]) rfl
 refine sR Z fun Z => ?_
 refine s_runk tMv1 Z 1 rfl rfl fun a Z => ?_
 refine s_end Z [0, 1, 4] rfl fun Z => ?_
 refine pR Z fun Z => ?_
 refine s_runk tMv1 Z 1 rfl rfl fun a Z => ?_
 refine sO Z (vI (ln l)) rfl (Ob_slen tMv1 rfl rfl rfl (H.slshape 0 rfl)) fun a Z => ?_
 refine s_runk tMv1 Z 1 rfl rfl fun a Z => ?_
 refine s_end Z [0, 1, 4, 5] rfl fun Z => ?_
 refine p_then (wp_seq ?_)
 refine wp_block ?_
 refine f_iter hF (fun sg a' w' => match sg with | n0 => Sl 23 [(0, v1_l), (1, vU t), (4, vI 0), (5, vI n0)] a' ∧ ∃ I2, Hf I D w I2 w' [SlC NECell v1_l l]) ⟨Z.sub (ts := [0, 1, 4, 5]) rfl, ⟨I, (H.sub [(0, true)] rfl).eq rfl⟩⟩ ?_
 rintro rc n0 a w1 ⟨Z, I1, H⟩ hF
 unfold F_vers_scan_l1 at hF
 try dsimp only at hF
 refine wp_seq ?_
 refine wp_seq ?_
 obtain ⟨hg1, hF⟩ := chk_in hF
 obtain ⟨hg2, hF⟩ := chk_in hF
 refine f_region Z fun Z => ?_
 refine s_runk tMv1 Z 3 rfl rfl fun a Z => ?_
 refine gO Z v1_l rfl (wantB_t _) (.n 0 rfl .z) (fun hp => Ob_c tMv1 rfl) fun a Z => ?_
 refine gO Z (vI n0) rfl (wantB_t _) (.n 5 rfl .z) (fun hp => Ob_c tMv1 rfl) fun a Z => ?_
 refine gO Z (vI (n0 - 1)) rfl (wantB_t _) (.c 12 rfl id .z) (fun hp => Ob_sub rfl rfl rfl (wrI (hg1 hp))) fun a Z => ?_
 refine gO Z (.pointer (some ⟨blkOf v1_l, oofOf v1_l + (n0 - 1).toNat * 3, none⟩)) rfl (wantB_t _) (.c 11 rfl id (.c 13 rfl id .z)) (fun hp => Ob_sidx tMv1 rfl rfl rfl rfl (slPl (H.sl 0 rfl) (hg2 hp)) (hg2 hp)) fun a Z => ?_
 refine gO Z (.pointer (some ⟨blkOf v1_l, oofOf v1_l + (n0 - 1).toNat * 3, none⟩)) rfl (wantB_t _) (.c 14 rfl id .z) (fun hp => Ob_c tMv1 rfl) fun a Z => ?_
 refine gO Z (vU ((l.getD (n0 - 1).toNat default).ts)) rfl (wantB_t _) (.c 15 rfl id .z) (fun hp => oL tMv1 rfl rfl ((slFl (H.sl 0 rfl) (hg2 hp)) 0 _ rfl)) fun a Z => ?_
 refine gO Z (vU t) rfl (wantB_t _) (.n 1 rfl .z) (fun hp => Ob_c tMv1 rfl) fun a Z => ?_
 refine gO Z (vT (decide ((l.getD (n0 - 1).toNat default).ts > t))) rfl (wantB_t _) (.c 16 rfl id (.c 17 rfl id .z)) (fun hp => Ob_c tMv1 rfl) fun a Z => ?_
 refine sO Z (vT ((decide (n0 > 0)) && (decide ((l.getD (n0 - 1).toNat default).ts > t)))) rfl (Ob_pick rfl rfl rfl rfl (pick_and _ _)) fun a Z => ?_
 refine s_end Z [0, 1, 4, 5, 8, 9, 10, 19] rfl fun Z => ?_
 refine p_then ?_
 refine f_cond Z rfl (fun hc1 => ?_) (fun hc1 => ?_)
 ·replace hF := ite_t hc1 hF
  refine wp_skip ?_
  refine p_then (wp_block ?_)
  obtain ⟨hg3, hF⟩ := chk_in hF
  refine f_region Z fun Z => ?_
  refine s_runk tMv1 Z 1 rfl rfl fun a Z => ?_
  refine sO Z (vI (n0 - 1)) rfl (Ob_sub rfl rfl rfl (wrI hg3)) fun a Z => ?_
  refine s_runk tMv1 Z 1 rfl rfl fun a Z => ?_
  refine s_end Z [0, 1, 4, 5, 8, 9, 10, 19, 20, 21] rfl fun Z => ?_
  refine p_blk ?_
  refine p_then ?_
  exact ⟨(n0 - 1), ⟨Z.sub (ts := [0, 1, 4, 5]) rfl, ⟨I1, (H.sub [(0, true)] rfl).eq rfl⟩⟩, hF⟩
 ·replace hF := ite_f hc1 hF
  refine wp_exit ?_
  refine p_then_x ?_
  refine p_then_x ?_
  refine f_exit_here ?_
  refine pR Z fun Z => ?_
  refine s_runk tMv1 Z 2 rfl rfl fun a Z => ?_
  refine s_end Z [4] rfl fun Z => ?_
  refine p_then (wp_ret ?_)
  obtain rfl := some_in hF
  exact f_ret Z (run_results1 rfl Z rfl) ⟨rfl, I1, (H.sub [] rfl).eq rfl⟩

def F_vers_upto_k2 (rc : (Int × Int) → Option Int) (from__2 : Int) (to__2 : Int) : Option Int := rc (from__2, to__2)

def F_vers_upto_l1 (l : List ECell) (t : Int) (rc : (Int × Int) → Option Int) (sg : Int × Int) : Option Int := match sg with | (from_, to_) => if (from_ == to_) = true then (some from_) else (chk (inI (to_ - from_)) (chk (inI ((to_ - from_).tdiv 2)) (chk (inI (from_ + ((to_ - from_).tdiv 2))) (chk ((0 : Int) ≤ from_ + ((to_ - from_).tdiv 2) ∧ from_ + ((to_ - from_).tdiv 2) < (l.length : Int)) (if (decide ((l.getD (from_ + ((to_ - from_).tdiv 2)).toNat default).ts > t)) = true then (F_vers_upto_k2 rc from_ (from_ + ((to_ - from_).tdiv 2))) else (chk (inI (from_ + ((to_ - from_).tdiv 2) + 1)) (F_vers_upto_k2 rc (from_ + ((to_ - from_).tdiv 2) + 1) to_)))))))

def F_vers_upto (l : List ECell) (t : Int) : Option Int := (F_vers_Right l).bind fun r0 => (if (!r0) = true then ((F_vers_scan l t).bind fun s0 => (some s0)) else (iter (F_vers_upto_l1 l t) FU (0, (l.length : Int))))

set_option maxHeartbeats 1000000 in
theorem c_vers_upto {I D : Dm} {l : List ECell} {v1_l : Value} {t : Int} {w : World} {rr : Int} (hF : F_vers_upto l t = some rr) (H : St I D w [SlC NECell v1_l l]) :
  Calls Tryz.prog 85 #[v1_l, vU t] w (Ret fun vv w' => vv = vI rr ∧ ∃ I', Hf I D w I' w' []) := by
 replace H := H.hf
 unfold F_vers_upto at hF
 refine f_enter 36 Tryz.func85 rfl rfl (Nat.le_of_ble_eq_true rfl) fun a Z => ?_
 replace Z := Z.sub (ts := [0, 1]) rfl
 refine sR Z fun Z => ?_
 refine s_runk tMv1 Z 1 rfl rfl fun a Z => ?_
 refine s_end Z [0, 1, 4] rfl fun Z => ?_
 refine p_then ?_
 refine f_scope (l := 0) rfl ?_
 refine wp_seq ?_
 refine wp_seq ?_
 obtain ⟨r0, hx1, hF⟩ := bnd_in hF
 refine f_region Z fun Z => ?_
 refine s_runk tMv1 Z 1 rfl rfl fun a Z => ?_
 refine hC Z H [(0, true)] rfl #[] fn_98_YMv1 rfl rfl (fun D h => have q := c_vers_Right hx1 h; q) fun vv a w1 D2 hr hF2 Z => ?_
 obtain ⟨rfl, I1, K⟩ := hr
 have H := (hF2 K).nf rfl
 refine s_runk tMv1 Z 1 rfl rfl fun a Z => ?_
 refine s_end Z [0, 1, 4, 10] rfl fun Z => ?_
 refine p_then ?_
 refine f_cond Z rfl (fun hc1 => ?_) (fun hc1 => ?_)
 ·replace hF := ite_t hc1 hF
  refine wp_seq ?_
  obtain ⟨s0, hx2, hF⟩ := bnd_in hF
  refine f_region Z fun Z => ?_
  refine s_runk tMv1 Z 2 rfl rfl fun a Z => ?_
  refine hC Z H [(0, true)] rfl #[] fn_99_YMv1 rfl rfl (fun D h => have q := c_vers_scan hx2 h; q) fun vv a w2 D2 hr hF2 Z => ?_
  obtain ⟨rfl, I2, K⟩ := hr
  have H := (hF2 K).nf rfl
  refine s_runk tMv1 Z 1 rfl rfl fun a Z => ?_
  refine s_end Z [0, 1, 4] rfl fun Z => ?_
  refine p_then (wp_ret ?_)
  refine p_then_r ?_
  refine p_jump_r ?_
  obtain rfl := some_in hF
  exact f_ret Z (run_results1 rfl Z rfl) ⟨rfl, I2, (H.sub [] rfl).eq rfl⟩
 ·replace hF := ite_f hc1 hF
  refine wp_skip ?_
  refine pR Z fun Z => ?_
  refine s_runk tMv1 Z 1 rfl rfl fun a Z => ?_
  refine sO Z (vI (ln l)) rfl (Ob_slen tMv1 rfl rfl rfl (H.slshape 0 rfl)) fun a Z => ?_
  refine s_runk tMv1 Z 2 rfl rfl fun a Z => ?_
  refine s_end Z [0, 1, 4, 5, 6] rfl fun Z => ?_
  refine p_then ?_
  refine f_label hF (fun sg a' w' => match sg with | (from_, to_) => Sl 36 [(0, v1_l), (1, vU t), (4, vI 0), (5, vI from_), (6, vI to_)] a' ∧ ∃ I2, Hf I D w I2 w' [SlC NECell v1_l l]) ⟨Z.sub (ts := [0, 1, 4, 5, 6]) rfl, ⟨I1, (H.sub [(0, true)] rfl).eq rfl⟩⟩ ?_
  rintro rc ⟨from_, to_⟩ a w3 ⟨Z, I3, H⟩ hF
  unfold F_vers_upto_l1 at hF
  try dsimp only at hF
  refine wp_seq ?_
  refine sR Z fun Z => ?_
  refine s_runk tMv1 Z 3 rfl rfl fun a Z => ?_
  refine s_end Z [0, 1, 4, 5, 6, 16, 17, 18] rfl fun Z => ?_
  refine p_then ?_
  refine f_cond Z rfl (fun hc2 => ?_) (fun hc2 => ?_)
  ·replace hF := ite_t hc2 hF
   refine sR Z fun Z => ?_
   refine s_runk tMv1 Z 2 rfl rfl fun a Z => ?_
   refine s_end Z [0, 1, 4, 5, 6, 16, 17, 18, 19] rfl fun Z => ?_
   refine p_then (wp_ret ?_)
   refine p_then_r ?_
   refine p_jump_r ?_
   obtain rfl := some_in hF
   exact f_ret Z (run_results1 rfl Z rfl) ⟨rfl, I3, (H.sub [] rfl).eq rfl⟩
  ·replace hF := ite_f hc2 hF
   refine wp_skip ?_
   refine p_then ?_
   refine f_cut (fun a' w' => ∃ (from__2 : Int) (to__2 : Int), Sl 36 [(0, v1_l), (1, vU t), (4, vI 0), (5, vI from__2), (6, vI to__2), (7, vI (from_ + ((to_ - from_).tdiv 2))), (16, vI from_), (17, vI to_), (18, vT (from_ == to_)), (20, vI from_), (21, vI to_), (22, vI from_), (23, vI (to_ - from_)), (24, vI ((to_ - from_).tdiv 2)), (25, vI (from_ + ((to_ - from_).tdiv 2))), (26, v1_l), (27, vI (from_ + ((to_ - from_).tdiv 2))), (28, .pointer (some ⟨blkOf v1_l, oofOf v1_l + (from_ + ((to_ - from_).tdiv 2)).toNat * 3, none⟩)), (29, .pointer (some ⟨blkOf v1_l, oofOf v1_l + (from_ + ((to_ - from_).tdiv 2)).toNat * 3, none⟩)), (30, vU ((l.getD (from_ + ((to_ - from_).tdiv 2)).toNat default).ts)), (31, vU t), (32, vT (decide ((l.getD (from_ + ((to_ - from_).tdiv 2)).toNat default).ts > t)))] a' ∧ (∃ I2, Hf I D w I2 w' [SlC NECell v1_l l]) ∧ F_vers_upto_k2 rc from__2 to__2 = some rr) ?_ ?_
   ·rintro a w4 ⟨from__2, to__2, Z, ⟨I4, H⟩, hF⟩
    unfold F_vers_upto_k2 at hF
    try dsimp only at hF
    refine wp_goto ?_
    refine p_jump_g ?_
    exact ⟨(from__2, to__2), ⟨Z.sub (ts := [0, 1, 4, 5, 6]) rfl, ⟨I4, (H.sub [(0, true)] rfl).eq rfl⟩⟩, hF⟩
   ·skip
    refine wp_seq ?_
    obtain ⟨hg1, hF⟩ := chk_in hF
    obtain ⟨hg2, hF⟩ := chk_in hF
    obtain ⟨hg3, hF⟩ := chk_in hF
    refine f_region Z fun Z => ?_
    refine s_runk tMv1 Z 3 rfl rfl fun a Z => ?_
    refine sO Z (vI (to_ - from_)) rfl (Ob_sub rfl rfl rfl (wrI hg1)) fun a Z => ?_
    refine sO Z (vI ((to_ - from_).tdiv 2)) rfl (Ob_quo rfl rfl rfl (by decide) (wrI hg2)) fun a Z => ?_
    refine sO Z (vI (from_ + ((to_ - from_).tdiv 2))) rfl (Ob_add rfl rfl rfl (wrI hg3)) fun a Z => ?_
    refine s_runk tMv1 Z 1 rfl rfl fun a Z => ?_
    refine s_end Z [0, 1, 4, 5, 6, 16, 17, 18, 20, 21, 22, 23, 24, 25, 7] rfl fun Z => ?_
    refine p_then (wp_seq ?_)
    obtain ⟨hg4, hF⟩ := chk_in hF
    refine f_region Z fun Z => ?_
    refine s_runk tMv1 Z 2 rfl rfl fun a Z => ?_
    refine sO Z (.pointer (some ⟨blkOf v1_l, oofOf v1_l + (from_ + ((to_ - from_).tdiv 2)).toNat * 3, none⟩)) rfl (Ob_sidx tMv1 rfl rfl rfl rfl (slPl (H.sl 0 rfl) hg4) hg4) fun a Z => ?_
    refine s_runk tMv1 Z 1 rfl rfl fun a Z => ?_
    refine sO Z (vU ((l.getD (from_ + ((to_ - from_).tdiv 2)).toNat default).ts)) rfl (oL tMv1 rfl rfl ((slFl (H.sl 0 rfl) hg4) 0 _ rfl)) fun a Z => ?_
    refine s_runk tMv1 Z 2 rfl rfl fun a Z => ?_
    refine s_end Z [0, 1, 4, 5, 6, 16, 17, 18, 20, 21, 22, 23, 24, 25, 7, 26, 27, 28, 29, 30, 31, 32] rfl fun Z => ?_
    refine p_then ?_
    refine f_cond Z rfl (fun hc3 => ?_) (fun hc3 => ?_)
    ·replace hF := ite_t hc3 hF
     refine f_region Z fun Z => ?_
     refine s_runk tMv1 Z 2 rfl rfl fun a Z => ?_
     refine s_end Z [0, 1, 4, 5, 6, 16, 17, 18, 20, 21, 22, 23, 24, 25, 7, 26, 27, 28, 29, 30, 31, 32, 33] rfl fun Z => ?_
     refine p_then ?_
     exact ⟨from_, from_ + ((to_ - from_).tdiv 2), Z.sub (ts := [0, 1, 4, 5, 6, 7, 16, 17, 18, 20, 21, 22, 23, 24, 25, 26, 27, 28, 29, 30, 31, 32]) rfl, ⟨I3, (H.sub [(0, true)] rfl).eq rfl⟩, hF⟩
    ·replace hF := ite_f hc3 hF
     obtain ⟨hg5, hF⟩ := chk_in hF
     refine f_region Z fun Z => ?_
     refine s_runk tMv1 Z 1 rfl rfl fun a Z => ?_
     refine sO Z (vI (from_ + ((to_ - from_).tdiv 2) + 1)) rfl (Ob_add rfl rfl rfl (wrI hg5)) fun a Z => ?_
     refine s_runk tMv1 Z 1 rfl rfl fun a Z => ?_
     refine s_end Z [0, 1, 4, 5, 6, 16, 17, 18, 20, 21, 22, 23, 24, 25, 7, 26, 27, 28, 29, 30, 31, 32, 34, 35] rfl fun Z => ?_
     refine p_then ?_
     exact ⟨from_ + ((to_ - from_).tdiv 2) + 1, to_, Z.sub (ts := [0, 1, 4, 5, 6, 7, 16, 17, 18, 20, 21, 22, 23, 24, 25, 26, 27, 28, 29, 30, 31, 32]) rfl, ⟨I3, (H.sub [(0, true)] rfl).eq rfl⟩, hF⟩

def F_vers_At (l : List ECell) (t : Int) : Option (ByteArray × Bool) := (F_vers_upto l t).bind fun u => (chk ((!(u == 0)) = true → inI (u - 1)) (chk ((!(u == 0)) = true → (0 : Int) ≤ u - 1 ∧ u - 1 < (l.length : Int)) (if ((u == 0) || ((l.getD (u - 1).toNat default).del)) = true then (some (⟨#[]⟩, false)) else (chk (inI (u - 1)) (chk ((0 : Int) ≤ u - 1 ∧ u - 1 < (l.length : Int)) (some ((l.getD (u - 1).toNat default).val, true)))))))

set_option maxHeartbeats 1000000 in
theorem c_vers_At {I D : Dm} {l : List ECell} {v1_l : Value} {t : Int} {w : World} {rr : ByteArray × Bool} (hF : F_vers_At l t = some rr) (H : St I D w [SlC NECell v1_l l]) :
  Calls Tryz.prog 48 #[v1_l, vU t] w (Ret fun vv w' => vv = .tuple #[vS rr.1, vT rr.2] ∧ ∃ I', Hf I D w I' w' []) := by
 replace H := H.hf
 unfold F_vers_At at hF
 refine f_enter 26 Tryz.func48 rfl rfl (Nat.le_of_ble_eq_true rfl) fun a Z => ?_
 replace Z := Z.sub (ts := [0, 1]) rfl
 refine sR Z fun Z => ?_
 refine s_runk tMv1 Z 2 rfl rfl fun a Z => ?_
 refine s_end Z [0, 1, 4, 5] rfl fun Z => ?_
 refine p_then (wp_seq ?_)
 obtain ⟨u, hx1, hF⟩ := bnd_in hF
 refine f_region Z fun Z => ?_
 refine s_runk tMv1 Z 2 rfl rfl fun a Z => ?_
 refine hC Z H [(0, true)] rfl #[] fn_85_YMv1 rfl rfl (fun D h => have q := c_vers_upto hx1 h; q) fun vv a w1 D2 hr hF2 Z => ?_
 obtain ⟨rfl, I1, K⟩ := hr
 have H := (hF2 K).nf rfl
 refine s_runk tMv1 Z 1 rfl rfl fun a Z => ?_
 refine s_end Z [0, 4, 5, 6] rfl fun Z => ?_
 refine p_then (wp_seq ?_)
 refine wp_seq ?_
 obtain ⟨hg1, hF⟩ := chk_in hF
 obtain ⟨hg2, hF⟩ := chk_in hF
 refine f_region Z fun Z => ?_
 refine s_runk tMv1 Z 3 rfl rfl fun a Z => ?_
 refine gO Z v1_l rfl (wantB_f _) (.n 0 rfl .z) (fun hp => Ob_c tMv1 rfl) fun a Z => ?_
 refine gO Z (vI u) rfl (wantB_f _) (.n 6 rfl .z) (fun hp => Ob_c tMv1 rfl) fun a Z => ?_
 refine gO Z (vI (u - 1)) rfl (wantB_f _) (.c 14 rfl id .z) (fun hp => Ob_sub rfl rfl rfl (wrI (hg1 hp))) fun a Z => ?_
 refine gO Z (.pointer (some ⟨blkOf v1_l, oofOf v1_l + (u - 1).toNat * 3, none⟩)) rfl (wantB_f _) (.c 13 rfl id (.c 15 rfl id .z)) (fun hp => Ob_sidx tMv1 rfl rfl rfl rfl (slPl (H.sl 0 rfl) (hg2 hp)) (hg2 hp)) fun a Z => ?_
 refine gO Z (.pointer (some ⟨blkOf v1_l, oofOf v1_l + (u - 1).toNat * 3 + 2, none⟩)) rfl (wantB_f _) (.c 16 rfl id .z) (fun hp => Ob_c tMv1 rfl) fun a Z => ?_
 refine gO Z (vT ((l.getD (u - 1).toNat default).del)) rfl (wantB_f _) (.c 17 rfl id .z) (fun hp => oL tMv1 rfl rfl ((slFl (H.sl 0 rfl) (hg2 hp)) 2 _ rfl)) fun a Z => ?_
 refine sO Z (vT ((u == 0) || ((l.getD (u - 1).toNat default).del))) rfl (Ob_pick rfl rfl rfl rfl (pick_or _ _)) fun a Z => ?_
 refine s_end Z [0, 4, 5, 6, 19] rfl fun Z => ?_
 refine p_then ?_
 refine f_cond Z rfl (fun hc1 => ?_) (fun hc1 => ?_)
 ·replace hF := ite_t hc1 hF
  refine sR Z fun Z => ?_
  refine s_runk tMv1 Z 2 rfl rfl fun a Z => ?_
  refine s_end Z [0, 4, 5, 6] rfl fun Z => ?_
  refine p_then (wp_ret ?_)
  refine p_then_r ?_
  obtain rfl := some_in hF
  exact f_ret Z (run_results2 rfl Z rfl rfl) ⟨rfl, I1, (H.sub [] rfl).eq rfl⟩
 ·replace hF := ite_f hc1 hF
  refine wp_skip ?_
  refine p_then (wp_seq ?_)
  obtain ⟨hg3, hF⟩ := chk_in hF
  obtain ⟨hg4, hF⟩ := chk_in hF
  refine f_region Z fun Z => ?_
  refine s_runk tMv1 Z 2 rfl rfl fun a Z => ?_
  refine sO Z (vI (u - 1)) rfl (Ob_sub rfl rfl rfl (wrI hg3)) fun a Z => ?_
  refine sO Z (.pointer (some ⟨blkOf v1_l, oofOf v1_l + (u - 1).toNat * 3, none⟩)) rfl (Ob_sidx tMv1 rfl rfl rfl rfl (slPl (H.sl 0 rfl) hg4) hg4) fun a Z => ?_
  refine s_runk tMv1 Z 1 rfl rfl fun a Z => ?_
  refine sO Z (vS ((l.getD (u - 1).toNat default).val)) rfl (oL tMv1 rfl rfl ((slFl (H.sl 0 rfl) hg4) 1 _ rfl)) fun a Z => ?_
  refine s_runk tMv1 Z 2 rfl rfl fun a Z => ?_
  refine s_end Z [4, 5] rfl fun Z => ?_
  refine p_then (wp_ret ?_)
  obtain rfl := some_in hF
  exact f_ret Z (run_results2 rfl Z rfl rfl) ⟨rfl, I1, (H.sub [] rfl).eq rfl⟩

def F_mvcc_Store_Get (s0 : Emvcc_Store) (k : ByteArray) (t : Int) : Option (ByteArray × Bool × Emvcc_Store) := (F_mvcc_Store_none s0).bind fun n0 => (if (n0) = true then (some (⟨#[]⟩, false, s0)) else (optE s0.t ((F_tree_Tree_api_Cell_Get_nil k).bind fun n0_2 => ((F_vers_At n0_2.1 t).bind fun a0 => (some (a0.1, a0.2, ({ s0 with t := none } : Emvcc_Store))))) (fun x => (F_tree_Tree_api_Cell_Get x k).bind fun g => ((F_vers_At g.1 t).bind fun a0_2 => (some (a0_2.1, a0_2.2, ({ s0 with t := some x } : Emvcc_Store)))))))

set_option maxHeartbeats 1000000 in
theorem c_mvcc_Store_Get {I D : Dm} {b_s0 : Nat} {s0 : Emvcc_Store} {k : ByteArray} {t : Int} {w : World} {rr : ByteArray × Bool × Emvcc_Store} (hF : F_mvcc_Store_Get s0 k t = some rr) (H : St I D w [OEmvcc_Store b_s0 s0]) :
  Calls Tryz.prog 16 #[pp b_s0 0, vS k, vU t] w (Ret fun vv w' => vv = .tuple #[vS rr.1, vT rr.2.1] ∧ ∃ I', Hf I D w I' w' [OEmvcc_Store b_s0 rr.2.2]) := by
 replace H := H.hf
 unfold F_mvcc_Store_Get at hF
 refine f_enter 26 Tryz.func16 rfl rfl (Nat.le_of_ble_eq_true rfl) fun a Z => ?_
 replace Z := Z.sub (ts := [0, 1, 2]) rfl
 refine sR Z fun Z => ?_
 refine s_runk tMv1 Z 2 rfl rfl fun a Z => ?_
 refine s_end Z [0, 1, 2, 6, 7] rfl fun Z => ?_
 refine p_then (wp_seq ?_)
 refine wp_seq ?_
 obtain ⟨n0, hx1, hF⟩ := bnd_in hF
 refine f_region Z fun Z => ?_
 refine s_runk tMv1 Z 1 rfl rfl fun a Z => ?_
 refine hC Z H [(0, false)] rfl #[] fn_46_YMv1 rfl rfl (fun D h => have q := c_mvcc_Store_none hx1 h; q) fun vv a w1 D2 hr hF2 Z => ?_
 obtain ⟨rfl, I1, K⟩ := hr
 have H := (hF2 K).nf rfl
 refine s_end Z [0, 1, 2, 6, 7, 11] rfl fun Z => ?_
 refine p_then ?_
 refine f_cond Z rfl (fun hc1 => ?_) (fun hc1 => ?_)
 ·replace hF := ite_t hc1 hF
  refine sR Z fun Z => ?_
  refine s_runk tMv1 Z 2 rfl rfl fun a Z => ?_
  refine s_end Z [0, 1, 2, 6, 7] rfl fun Z => ?_
  refine p_then (wp_ret ?_)
  refine p_then_r ?_
  obtain rfl := some_in hF
  exact f_ret Z (run_results2 rfl Z rfl rfl) ⟨rfl, I1, (H.sub [(0, false)] rfl).eq rfl⟩
 ·replace hF := ite_f hc1 hF
  refine wp_skip ?_
  refine p_then (wp_seq ?_)
  obtain ⟨v1, H⟩ := H.openX 0 rfl
  replace H := H.nf rfl; try dsimp only at H
  rcases optE_in hF with ⟨ho1, hF⟩ | ⟨x, ho1, hF⟩
  ·obtain ⟨hv, H⟩ := H.optN 1 rfl ho1
   (try have Zq23 := Z); subst hv; (try have Z := Zq23)
   replace H := H.nf rfl; try dsimp only at H
   obtain ⟨n0_2, hx2, hF⟩ := bnd_in hF
   refine f_region Z fun Z => ?_
   refine s_runk tMv1 Z 3 rfl rfl fun a Z => ?_
   refine sO Z _ rfl (oL tMv1 rfl rfl (H.bc 0 0 rfl rfl)) fun a Z => ?_
   refine s_runk tMv1 Z 1 rfl rfl fun a Z => ?_
   refine hC Z H [] rfl #[] fn_47_YMv1 rfl rfl (fun D h => have q := c_tree_Tree_api_Cell_Get_nil hx2 h; q) fun vv a w2 D2 hr hF2 Z => ?_
   obtain ⟨q1, rfl, I2, K⟩ := hr
   have H := (hF2 K).nf rfl
   refine s_runk tMv1 Z 5 rfl rfl fun a Z => ?_
   refine s_end Z [2, 6, 7, 8] rfl fun Z => ?_
   refine p_then (wp_seq ?_)
   obtain ⟨a0, hx3, hF⟩ := bnd_in hF
   refine f_region Z fun Z => ?_
   refine s_runk tMv1 Z 2 rfl rfl fun a Z => ?_
   refine hC Z H [(0, true)] rfl #[] fn_48_YMv1 rfl rfl (fun D h => have q := c_vers_At hx3 h; q) fun vv a w3 D2 hr hF2 Z => ?_
   obtain ⟨rfl, I3, K⟩ := hr
   have H := (hF2 K).nf rfl
   refine s_runk tMv1 Z 4 rfl rfl fun a Z => ?_
   refine s_end Z [6, 7] rfl fun Z => ?_
   refine p_then (wp_ret ?_)
   replace H := H.mkN OEtree_Tree_api_Cell
   replace H := H.sX (OEmvcc_Store b_s0 ({ s0 with t := none } : Emvcc_Store)) (nP) [(2, false), (0, false)] rfl rfl rfl
   obtain rfl := some_in hF
   exact f_ret Z (run_results2 rfl Z rfl rfl) ⟨rfl, I3, (H.sub [(0, false)] rfl).eq rfl⟩
  ·obtain ⟨b1, hv, H⟩ := H.optS 1 rfl ho1
   (try have Zq24 := Z); subst hv; (try have Z := Zq24)
   replace H := H.nf rfl; try dsimp only at H
   obtain ⟨g, hx4, hF⟩ := bnd_in hF
   refine f_region Z fun Z => ?_
   refine s_runk tMv1 Z 3 rfl rfl fun a Z => ?_
   refine sO Z _ rfl (oL tMv1 rfl rfl (H.bc 1 0 rfl rfl)) fun a Z => ?_
   refine s_runk tMv1 Z 1 rfl rfl fun a Z => ?_
   refine hC Z H [(0, false)] rfl #[] fn_47_YMv1 rfl rfl (fun D h => have q := c_tree_Tree_api_Cell_Get hx4 h; q) fun vv a w4 D2 hr hF2 Z => ?_
   obtain ⟨q2, rfl, I4, K⟩ := hr
   have H := (hF2 K).nf rfl
   refine s_runk tMv1 Z 5 rfl rfl fun a Z => ?_
   refine s_end Z [2, 6, 7, 8] rfl fun Z => ?_
   refine p_then (wp_seq ?_)
   obtain ⟨a0_2, hx5, hF⟩ := bnd_in hF
   refine f_region Z fun Z => ?_
   refine s_runk tMv1 Z 2 rfl rfl fun a Z => ?_
   refine hC Z H [(1, true)] rfl #[] fn_48_YMv1 rfl rfl (fun D h => have q := c_vers_At hx5 h; q) fun vv a w5 D2 hr hF2 Z => ?_
   obtain ⟨rfl, I5, K⟩ := hr
   have H := (hF2 K).nf rfl
   refine s_runk tMv1 Z 4 rfl rfl fun a Z => ?_
   refine s_end Z [6, 7] rfl fun Z => ?_
   refine p_then (wp_ret ?_)
   replace H := (H.mkS (K := OEtree_Tree_api_Cell) 0 rfl).nf rfl
   replace H := H.sX (OEmvcc_Store b_s0 ({ s0 with t := some x } : Emvcc_Store)) (pp b1 0) [(2, false), (0, false)] rfl rfl rfl
   obtain rfl := some_in hF
   exact f_ret Z (run_results2 rfl Z rfl rfl) ⟨rfl, I5, (H.sub [(0, false)] rfl).eq rfl⟩

end Go.Proofs.YtglfajjcgbfehaaGreat
