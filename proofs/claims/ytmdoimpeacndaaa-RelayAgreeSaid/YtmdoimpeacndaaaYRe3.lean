/- To and fro: the law's parts. -/
import Derived.Test.YtmdoimpeacndaaaYRe2
namespace Go.Proofs.Ytmdoimpeacndaaa
open Go.RowKit
def tRe3L : TabL := ⟨[(33794, 2), (37888, 0), (37893, 5), (37896, 8), (37897, 9), (37903, 19), (37904, 20), (58368, 0), (58369, 3), (83968, 0), (83969, 1), (83970, 2), (83973, 7), (92160, 0)], [], [], [(22, (57, 4)), (31, (116, 3)), (34, (24, 1)), (45, (82, 18))], [(3, (1, false)), (22, (1, false)), (24, (1, false)), (31, (1, false)), (34, (1, false)), (37, (22, true)), (57, (4, true)), (90, (1, true))]⟩

def tRe3 : Tab Try.prog := ⟨tRe3L, by kernel_rfl⟩

theorem fn_6_YRe3 : IsFn Try.prog 6 := ⟨_, Try.func6, by kernel_rfl, by kernel_rfl⟩

theorem fn_7_YRe3 : IsFn Try.prog 7 := ⟨_, Try.func7, by kernel_rfl, by kernel_rfl⟩

theorem fn_8_YRe3 : IsFn Try.prog 8 := ⟨_, Try.func8, by kernel_rfl, by kernel_rfl⟩

theorem fn_9_YRe3 : IsFn Try.prog 9 := ⟨_, Try.func9, by kernel_rfl, by kernel_rfl⟩

theorem fn_10_YRe3 : IsFn Try.prog 10 := ⟨_, Try.func10, by kernel_rfl, by kernel_rfl⟩

theorem fn_16_YRe3 : IsFn Try.prog 16 := ⟨_, Try.func16, by kernel_rfl, by kernel_rfl⟩

theorem fn_18_YRe3 : IsFn Try.prog 18 := ⟨_, Try.func18, by kernel_rfl, by kernel_rfl⟩

theorem fn_20_YRe3 : IsFn Try.prog 20 := ⟨_, Try.func20, by kernel_rfl, by kernel_rfl⟩

theorem fn_22_YRe3 : IsFn Try.prog 22 := ⟨_, Try.func22, by kernel_rfl, by kernel_rfl⟩

theorem fn_23_YRe3 : IsFn Try.prog 23 := ⟨_, Try.func23, by kernel_rfl, by kernel_rfl⟩

theorem fn_24_YRe3 : IsFn Try.prog 24 := ⟨_, Try.func24, by kernel_rfl, by kernel_rfl⟩

theorem fn_25_YRe3 : IsFn Try.prog 25 := ⟨_, Try.func25, by kernel_rfl, by kernel_rfl⟩

theorem fn_26_YRe3 : IsFn Try.prog 26 := ⟨_, Try.func26, by kernel_rfl, by kernel_rfl⟩

theorem fn_27_YRe3 : IsFn Try.prog 27 := ⟨_, Try.func27, by kernel_rfl, by kernel_rfl⟩

theorem fn_28_YRe3 : IsFn Try.prog 28 := ⟨_, Try.func28, by kernel_rfl, by kernel_rfl⟩

theorem fn_49_YRe3 : IsFn Try.prog 49 := ⟨_, Try.func49, by kernel_rfl, by kernel_rfl⟩

theorem fn_50_YRe3 : IsFn Try.prog 50 := ⟨_, Try.func50, by kernel_rfl, by kernel_rfl⟩

theorem fn_51_YRe3 : IsFn Try.prog 51 := ⟨_, Try.func51, by kernel_rfl, by kernel_rfl⟩

def F_law08_Much_l1 (l : List EEntry) (rc : (Int × Int) → Option Int) (sg : Int × Int) : Option Int := match sg with | (n0, i) => if ((decide (i < (l.length : Int))) && (decide (i < 200))) = true then (chk ((0 : Int) ≤ i ∧ i < (l.length : Int)) (chk (inI (n0 + ((((l.getD (i).toNat default).batch).ops).length : Int))) (chk (inI (i + 1)) (rc (n0 + ((((l.getD (i).toNat default).batch).ops).length : Int), i + 1))))) else (some n0)

def F_law08_Much (l : List EEntry) : Option Int := iter (F_law08_Much_l1 l) FU ((l.length : Int), 0)

set_option maxHeartbeats 1000000 in
theorem c_law08_Much {I D : Dm} {l : List EEntry} {v1_l : Value} {w : World} {rr : Int} (hF : F_law08_Much l = some rr) (H : St I D w [SlC NEEntry v1_l l]) :
  Calls Try.prog 6 #[v1_l] w (Ret fun vv w' => vv = .int .i64 rr ∧ ∃ I', Hf I D w I' w' []) := by
 replace H := H.hf
 unfold F_law08_Much at hF
 refine f_enter 27 Try.func6 rfl rfl (Nat.le_of_ble_eq_true rfl) fun a Z => ?_
 replace Z := Z.sub (ts := [0]) rfl
 refine wp_seq (f_region Z ?_); clear Z; intro Z
 refine s_runk tRe3 Z 1 rfl rfl ?_; clear Z a; intro a Z
 refine s_end Z [0, 2] rfl ?_; clear Z; intro Z
 refine p_then (wp_seq (f_region Z ?_)); clear Z; intro Z
 refine s_runk tRe3 Z 1 rfl rfl ?_; clear Z a; intro a Z
 refine s_ob Z (v := .int .i64 (l.length : Int)) rfl rfl (by decide) rfl (Ob_slen tRe3 rfl rfl rfl (H.slshape 0 rfl)) ?_; clear Z a; intro a Z
 refine s_runk tRe3 Z 1 rfl rfl ?_; clear Z a; intro a Z
 refine s_end Z [0, 2, 3] rfl ?_; clear Z; intro Z
 refine p_then (wp_seq ?_)
 refine wp_seq (f_region Z ?_); clear Z; intro Z
 refine s_runk tRe3 Z 1 rfl rfl ?_; clear Z a; intro a Z
 refine s_end Z [0, 2, 3, 4] rfl ?_; clear Z; intro Z
 refine p_then (wp_block ?_)
 refine f_iter hF (fun sg a' w' => match sg with | (n0, i) => Sl 27 [(0, v1_l), (2, .int .i64 0), (3, .int .i64 n0), (4, .int .i64 i)] a' ∧ ∃ I2, Hf I D w I2 w' [SlC NEEntry v1_l l]) ⟨Z.sub (ts := [0, 2, 3, 4]) rfl, ⟨I, (H.sub [(0, true)] rfl).eq rfl⟩⟩ ?_
 clear Z H hF a
 rintro rc ⟨n0, i⟩ a w1 ⟨Z, I1, H⟩ hF
 unfold F_law08_Much_l1 at hF
 try dsimp only at hF
 refine wp_seq ?_
 refine wp_seq (f_region Z ?_); clear Z; intro Z
 refine s_runk tRe3 Z 2 rfl rfl ?_; clear Z a; intro a Z
 refine s_ob Z (v := .int .i64 (l.length : Int)) rfl rfl (by decide) rfl (Ob_slen tRe3 rfl rfl rfl (H.slshape 0 rfl)) ?_; clear Z a; intro a Z
 refine s_runk tRe3 Z 2 rfl rfl ?_; clear Z a; intro a Z
 refine g_ob Z (p := (decide (i < (l.length : Int)))) (v := .int .i64 i) (S' := [(4, .int .i64 i)]) rfl rfl rfl (wantB_t _) rfl (by decide) (fun hp hS => hS.sub (ts := [4]) rfl) (fun hp => Ob_c tRe3 rfl) ?_; clear Z a; intro a Z
 refine g_ob Z (p := (decide (i < (l.length : Int)))) (v := .bool (decide (i < 200))) (S' := [(12, .int .i64 i)]) rfl rfl rfl (wantB_t _) rfl (by decide) (fun hp hS => (hS.conv (t := 12) rfl (cond_t hp)).sub (ts := [12]) rfl) (fun hp => Ob_c tRe3 rfl) ?_; clear Z a; intro a Z
 refine s_ob Z (v := .bool ((decide (i < (l.length : Int))) && (decide (i < 200)))) rfl rfl (by decide) rfl (Ob_pick rfl rfl rfl rfl (pick_and _ _)) ?_; clear Z a; intro a Z
 refine s_end Z [0, 2, 3, 4, 7, 8, 9, 10, 11, 14] rfl ?_; clear Z; intro Z
 refine p_then ?_
 refine f_cond Z rfl (fun hc1 => ?_) (fun hc1 => ?_)
 ·replace hF := ite_t hc1 hF
  refine wp_skip ?_
  refine p_then (wp_seq ?_)
  refine wp_block ?_
  obtain ⟨hg1, hF⟩ := chk_in hF
  obtain ⟨hg2, hF⟩ := chk_in hF
  refine f_region Z ?_; clear Z; intro Z
  refine s_runk tRe3 Z 3 rfl rfl ?_; clear Z a; intro a Z
  refine s_ob Z (v := .pointer (some ⟨blkOf v1_l, oofOf v1_l + (i).toNat * 4, none⟩)) rfl rfl (by decide) rfl (Ob_sidx tRe3 rfl rfl rfl rfl (slPl (H.sl 0 rfl) hg1) hg1) ?_; clear Z a; intro a Z
  refine s_runk tRe3 Z 2 rfl rfl ?_; clear Z a; intro a Z
  obtain ⟨_, ⟨u1, rfl, L1⟩, H⟩ := H.elG 0 rfl (i) (NEEntry.dft _ _)
  replace H := H.addsl L1
  replace H : Hf I D w I1 w1 [SlC NEOp u1 (((l.getD (i).toNat default).batch).ops), AtG ((0 : Int) ≤ i ∧ i < (l.length : Int)) (blkOf v1_l) (oofOf v1_l + (i).toNat * 4) [.int .i64 (((l.getD (i).toNat default).batch).client), .int .i64 (((l.getD (i).toNat default).batch).req), u1, .int .u64 ((l.getD (i).toNat default).ts)], SlC NEEntry v1_l l] := H
  refine s_ob Z (v := u1) rfl rfl (by decide) rfl (Ob_load tRe3 rfl rfl rfl ((H.atg 1 rfl hg1) 2 _ rfl)) ?_; clear Z a; intro a Z
  refine s_ob Z (v := .int .i64 ((((l.getD (i).toNat default).batch).ops).length : Int)) rfl rfl (by decide) rfl (Ob_slen tRe3 rfl rfl rfl (H.slshape 0 rfl)) ?_; clear Z a; intro a Z
  refine s_ob Z (v := .int .i64 (n0 + ((((l.getD (i).toNat default).batch).ops).length : Int))) rfl rfl (by decide) rfl (Ob_add rfl rfl rfl (wrI hg2)) ?_; clear Z a; intro a Z
  refine s_runk tRe3 Z 1 rfl rfl ?_; clear Z a; intro a Z
  refine s_end Z [0, 2, 3, 4, 7, 8, 9, 10, 11, 14, 17, 18, 19, 20, 21, 22, 23, 24, 25] rfl ?_; clear Z; intro Z
  refine p_blk ?_
  refine p_then ?_
  obtain ⟨hg3, hF⟩ := chk_in hF
  refine f_region Z ?_; clear Z; intro Z
  refine s_runk tRe3 Z 1 rfl rfl ?_; clear Z a; intro a Z
  refine s_ob Z (v := .int .i64 (i + 1)) rfl rfl (by decide) rfl (Ob_add rfl rfl rfl (wrI hg3)) ?_; clear Z a; intro a Z
  refine s_runk tRe3 Z 1 rfl rfl ?_; clear Z a; intro a Z
  refine s_end Z [0, 2, 3, 4, 7, 8, 9, 10, 11, 14, 17, 18, 19, 20, 21, 22, 23, 24, 25, 15, 16] rfl ?_; clear Z; intro Z
  refine p_then ?_
  exact ⟨(n0 + ((((l.getD (i).toNat default).batch).ops).length : Int), i + 1), ⟨Z.sub (ts := [0, 2, 3, 4]) rfl, ⟨I1, (H.sub [(2, true)] rfl).eq rfl⟩⟩, hF⟩
 ·replace hF := ite_f hc1 hF
  refine wp_exit ?_
  refine p_then_x ?_
  refine p_then_x ?_
  refine f_exit_here ?_
  refine p_then (wp_seq (f_region Z ?_)); clear Z; intro Z
  refine s_runk tRe3 Z 2 rfl rfl ?_; clear Z a; intro a Z
  refine s_end Z [2] rfl ?_; clear Z; intro Z
  refine p_then (wp_ret ?_)
  obtain rfl := some_in hF
  exact f_ret Z (run_results1 rfl Z rfl) ⟨rfl, I1, (H.sub [] rfl).eq rfl⟩

def F_ref08_Right_l2 (l : List EEntry) (i : Int) (rc : Int → Option Int) (rc_2 : Int → Option Int) (sg : Int) : Option Int := match sg with | k => if (decide (k < i)) = true then (chk ((0 : Int) ≤ k ∧ k < (l.length : Int)) (chk ((0 : Int) ≤ i ∧ i < (l.length : Int)) ((F_ref08_Twins ({ (l.getD (k).toNat default) with batch := ({ client := ((l.getD (k).toNat default).batch).client, req := ((l.getD (k).toNat default).batch).req, ops := ((l.getD (k).toNat default).batch).ops } : EBatch) } : EEntry) ({ (l.getD (i).toNat default) with batch := ({ client := ((l.getD (i).toNat default).batch).client, req := ((l.getD (i).toNat default).batch).req, ops := ((l.getD (i).toNat default).batch).ops } : EBatch) } : EEntry)).bind fun t => (if (t) = true then (some 18) else (chk (inI (k + 1)) (rc_2 (k + 1))))))) else (chk ((decide (i > 0)) = true → (0 : Int) ≤ i ∧ i < (l.length : Int)) (chk (((decide (i > 0)) && (((l.getD (i).toNat default).ts) != 0)) = true → inI (i - 1)) (chk (((decide (i > 0)) && (((l.getD (i).toNat default).ts) != 0)) = true → (0 : Int) ≤ i - 1 ∧ i - 1 < (l.length : Int)) (chk ((((decide (i > 0)) && (((l.getD (i).toNat default).ts) != 0)) && (!(((l.getD (i - 1).toNat default).ts) == 0))) = true → inI (i - 1)) (chk ((((decide (i > 0)) && (((l.getD (i).toNat default).ts) != 0)) && (!(((l.getD (i - 1).toNat default).ts) == 0))) = true → (0 : Int) ≤ i - 1 ∧ i - 1 < (l.length : Int)) (chk ((((decide (i > 0)) && (((l.getD (i).toNat default).ts) != 0)) && (!(((l.getD (i - 1).toNat default).ts) == 0))) = true → (0 : Int) ≤ i ∧ i < (l.length : Int)) (if (((decide (i > 0)) && (((l.getD (i).toNat default).ts) != 0)) && ((((l.getD (i - 1).toNat default).ts) == 0) || (decide ((l.getD (i - 1).toNat default).ts ≥ (l.getD (i).toNat default).ts)))) = true then (some 18) else (chk (inI (i + 1)) (rc (i + 1))))))))))

def F_ref08_Right_l1 (l : List EEntry) (rc : Int → Option Int) (sg : Int) : Option Int := match sg with | i => if (decide (i < (l.length : Int))) = true then (chk ((0 : Int) ≤ i ∧ i < (l.length : Int)) ((F_ref08_Check ({ (l.getD (i).toNat default) with batch := ({ client := ((l.getD (i).toNat default).batch).client, req := ((l.getD (i).toNat default).batch).req, ops := ((l.getD (i).toNat default).batch).ops } : EBatch) } : EEntry)).bind fun c => (if (c != 0) = true then (some c) else (iter (F_ref08_Right_l2 l i rc) FU 0)))) else (some 0)

def F_ref08_Right (l : List EEntry) : Option Int := iter (F_ref08_Right_l1 l) FU 0

set_option maxHeartbeats 1000000 in
theorem c_ref08_Right {I D : Dm} {l : List EEntry} {v1_l : Value} {w : World} {rr : Int} (hF : F_ref08_Right l = some rr) (H : St I D w [SlC NEEntry v1_l l]) :
  Calls Try.prog 7 #[v1_l] w (Ret fun vv w' => vv = .int .i64 rr ∧ ∃ I', Hf I D w I' w' []) := by
 replace H := H.hf
 unfold F_ref08_Right at hF
 refine f_enter 67 Try.func7 rfl rfl (Nat.le_of_ble_eq_true rfl) fun a Z => ?_
 replace Z := Z.sub (ts := [0]) rfl
 refine wp_seq (f_region Z ?_); clear Z; intro Z
 refine s_runk tRe3 Z 1 rfl rfl ?_; clear Z a; intro a Z
 refine s_end Z [0, 2] rfl ?_; clear Z; intro Z
 refine p_then (wp_seq ?_)
 refine wp_seq (f_region Z ?_); clear Z; intro Z
 refine s_runk tRe3 Z 1 rfl rfl ?_; clear Z a; intro a Z
 refine s_end Z [0, 2, 3] rfl ?_; clear Z; intro Z
 refine p_then (wp_block ?_)
 refine f_iter hF (fun sg a' w' => match sg with | i => Sl 67 [(0, v1_l), (2, .int .i64 0), (3, .int .i64 i)] a' ∧ ∃ I2, Hf I D w I2 w' [SlC NEEntry v1_l l]) ⟨Z.sub (ts := [0, 2, 3]) rfl, ⟨I, (H.sub [(0, true)] rfl).eq rfl⟩⟩ ?_
 clear Z H hF a
 rintro rc i a w1 ⟨Z, I1, H⟩ hF
 unfold F_ref08_Right_l1 at hF
 try dsimp only at hF
 refine wp_seq ?_
 refine wp_seq (f_region Z ?_); clear Z; intro Z
 refine s_runk tRe3 Z 2 rfl rfl ?_; clear Z a; intro a Z
 refine s_ob Z (v := .int .i64 (l.length : Int)) rfl rfl (by decide) rfl (Ob_slen tRe3 rfl rfl rfl (H.slshape 0 rfl)) ?_; clear Z a; intro a Z
 refine s_runk tRe3 Z 1 rfl rfl ?_; clear Z a; intro a Z
 refine s_end Z [0, 2, 3, 6, 7, 8, 9] rfl ?_; clear Z; intro Z
 refine p_then ?_
 refine f_cond Z rfl (fun hc1 => ?_) (fun hc1 => ?_)
 ·replace hF := ite_t hc1 hF
  refine wp_skip ?_
  refine p_then (wp_seq ?_)
  refine wp_block ?_
  refine wp_seq ?_
  refine wp_seq ?_
  obtain ⟨hg1, hF⟩ := chk_in hF
  obtain ⟨c, hx1, hF⟩ := bnd_in hF
  refine f_region Z ?_; clear Z; intro Z
  refine s_runk tRe3 Z 2 rfl rfl ?_; clear Z a; intro a Z
  refine s_ob Z (v := .pointer (some ⟨blkOf v1_l, oofOf v1_l + (i).toNat * 4, none⟩)) rfl rfl (by decide) rfl (Ob_sidx tRe3 rfl rfl rfl rfl (slPl (H.sl 0 rfl) hg1) hg1) ?_; clear Z a; intro a Z
  obtain ⟨_, ⟨u1, rfl, L1⟩, H⟩ := H.elG 0 rfl (i) (NEEntry.dft _ _)
  replace H := H.addsl L1
  replace H : Hf I D w I1 w1 [SlC NEOp u1 (((l.getD (i).toNat default).batch).ops), AtG ((0 : Int) ≤ i ∧ i < (l.length : Int)) (blkOf v1_l) (oofOf v1_l + (i).toNat * 4) [.int .i64 (((l.getD (i).toNat default).batch).client), .int .i64 (((l.getD (i).toNat default).batch).req), u1, .int .u64 ((l.getD (i).toNat default).ts)], SlC NEEntry v1_l l] := H
  refine s_ob Z (v := .agg #[.int .i64 (((l.getD (i).toNat default).batch).client), .int .i64 (((l.getD (i).toNat default).batch).req), u1, .int .u64 ((l.getD (i).toNat default).ts)]) rfl rfl (by decide) rfl (Ob_loads tRe3 rfl rfl rfl ((H.atg 1 rfl hg1).part 0 rfl)) ?_; clear Z a; intro a Z
  refine h_call Z H (js := [(0, true)]) rfl (caps := #[]) fn_28_YRe3 rfl rfl rfl rfl rfl (by decide) rfl rfl (fun D1 hS => have hq := c_ref08_Check hx1 hS; hq) ?_; clear Z a; intro vv a w2 D2 hr hF2 Z
  obtain ⟨rfl, I2, K⟩ := hr
  have H : Hf I D w I2 w2 [SlC NEOp u1 (((l.getD (i).toNat default).batch).ops), AtG ((0 : Int) ≤ i ∧ i < (l.length : Int)) (blkOf v1_l) (oofOf v1_l + (i).toNat * 4) [.int .i64 (((l.getD (i).toNat default).batch).client), .int .i64 (((l.getD (i).toNat default).batch).req), u1, .int .u64 ((l.getD (i).toNat default).ts)], SlC NEEntry v1_l l] := hF2 K
  clear hF2 K
  refine s_runk tRe3 Z 1 rfl rfl ?_; clear Z a; intro a Z
  refine s_end Z [0, 2, 3, 6, 7, 8, 9, 12, 13, 14, 15, 16, 4] rfl ?_; clear Z; intro Z
  refine p_then (wp_seq (f_region Z ?_)); clear Z; intro Z
  refine s_runk tRe3 Z 2 rfl rfl ?_; clear Z a; intro a Z
  refine s_end Z [0, 2, 3, 6, 7, 8, 9, 12, 13, 14, 15, 16, 4, 17, 18] rfl ?_; clear Z; intro Z
  refine p_then ?_
  refine f_cond Z rfl (fun hc2 => ?_) (fun hc2 => ?_)
  ·replace hF := ite_t hc2 hF
   refine wp_seq (f_region Z ?_); clear Z; intro Z
   refine s_runk tRe3 Z 2 rfl rfl ?_; clear Z a; intro a Z
   refine s_end Z [0, 2, 3, 6, 7, 8, 9, 12, 13, 14, 15, 16, 4, 17, 18, 19] rfl ?_; clear Z; intro Z
   refine p_then (wp_ret ?_)
   refine p_then_r ?_
   refine p_blk_r ?_
   refine p_then_r ?_
   refine p_then_r ?_
   refine p_blk_r ?_
   refine p_then_r ?_
   obtain rfl := some_in hF
   exact f_ret Z (run_results1 rfl Z rfl) ⟨rfl, I2, (H.sub [] rfl).eq rfl⟩
  ·replace hF := ite_f hc2 hF
   refine wp_skip ?_
   refine p_then (wp_seq ?_)
   refine wp_seq (f_region Z ?_); clear Z; intro Z
   refine s_runk tRe3 Z 1 rfl rfl ?_; clear Z a; intro a Z
   refine s_end Z [0, 2, 3, 6, 7, 8, 9, 12, 13, 14, 15, 16, 4, 17, 18, 5] rfl ?_; clear Z; intro Z
   refine p_then (wp_block ?_)
   refine f_iter hF (fun sg a' w' => match sg with | k => Sl 67 [(0, v1_l), (2, .int .i64 0), (3, .int .i64 i), (4, .int .i64 c), (5, .int .i64 k), (6, .int .i64 i), (7, v1_l), (8, .int .i64 (l.length : Int)), (9, .bool (decide (i < (l.length : Int)))), (12, v1_l), (13, .int .i64 i), (14, .pointer (some ⟨blkOf v1_l, oofOf v1_l + (i).toNat * 4, none⟩)), (15, .agg #[.int .i64 (((l.getD (i).toNat default).batch).client), .int .i64 (((l.getD (i).toNat default).batch).req), u1, .int .u64 ((l.getD (i).toNat default).ts)]), (16, .int .i64 c), (17, .int .i64 c), (18, .bool (c != 0))] a' ∧ ∃ I2, Hf I D w I2 w' [SlC NEOp u1 (((l.getD (i).toNat default).batch).ops), SlC NEEntry v1_l l]) ⟨Z.sub (ts := [0, 2, 3, 4, 5, 6, 7, 8, 9, 12, 13, 14, 15, 16, 17, 18]) rfl, ⟨I2, (H.sub [(0, true), (2, true)] rfl).eq rfl⟩⟩ ?_
   clear Z H hF a
   rintro rc_2 k a w3 ⟨Z, I3, H⟩ hF
   unfold F_ref08_Right_l2 at hF
   try dsimp only at hF
   refine wp_seq ?_
   refine wp_seq (f_region Z ?_); clear Z; intro Z
   refine s_runk tRe3 Z 3 rfl rfl ?_; clear Z a; intro a Z
   refine s_end Z [0, 2, 3, 4, 5, 6, 7, 8, 9, 12, 13, 14, 15, 16, 17, 18, 20, 21, 22] rfl ?_; clear Z; intro Z
   refine p_then ?_
   refine f_cond Z rfl (fun hc3 => ?_) (fun hc3 => ?_)
   ·replace hF := ite_t hc3 hF
    refine wp_skip ?_
    refine p_then (wp_seq ?_)
    refine wp_block ?_
    refine wp_seq ?_
    obtain ⟨hg2, hF⟩ := chk_in hF
    obtain ⟨_, ⟨u2, rfl, L2⟩, H⟩ := H.elG 1 rfl (k) (NEEntry.dft _ _)
    replace H := H.addsl L2
    replace H : Hf I D w I3 w3 [SlC NEOp u2 (((l.getD (k).toNat default).batch).ops), AtG ((0 : Int) ≤ k ∧ k < (l.length : Int)) (blkOf v1_l) (oofOf v1_l + (k).toNat * 4) [.int .i64 (((l.getD (k).toNat default).batch).client), .int .i64 (((l.getD (k).toNat default).batch).req), u2, .int .u64 ((l.getD (k).toNat default).ts)], SlC NEOp u1 (((l.getD (i).toNat default).batch).ops), SlC NEEntry v1_l l] := H
    obtain ⟨hg3, hF⟩ := chk_in hF
    obtain ⟨_, ⟨u3, rfl, L3⟩, H⟩ := H.elG 3 rfl (i) (NEEntry.dft _ _)
    replace H := H.addsl L3
    replace H : Hf I D w I3 w3 [SlC NEOp u3 (((l.getD (i).toNat default).batch).ops), AtG ((0 : Int) ≤ i ∧ i < (l.length : Int)) (blkOf v1_l) (oofOf v1_l + (i).toNat * 4) [.int .i64 (((l.getD (i).toNat default).batch).client), .int .i64 (((l.getD (i).toNat default).batch).req), u3, .int .u64 ((l.getD (i).toNat default).ts)], SlC NEOp u2 (((l.getD (k).toNat default).batch).ops), AtG ((0 : Int) ≤ k ∧ k < (l.length : Int)) (blkOf v1_l) (oofOf v1_l + (k).toNat * 4) [.int .i64 (((l.getD (k).toNat default).batch).client), .int .i64 (((l.getD (k).toNat default).batch).req), u2, .int .u64 ((l.getD (k).toNat default).ts)], SlC NEOp u1 (((l.getD (i).toNat default).batch).ops), SlC NEEntry v1_l l] := H
    obtain ⟨t, hx2, hF⟩ := bnd_in hF
    refine f_quietd (by kernel_rfl) (by kernel_rfl) Z ?_; clear Z; intro Z
    refine q_runk tRe3 Z 2 rfl rfl ?_; clear Z a; intro a Z
    refine q_ob Z (v := .pointer (some ⟨blkOf v1_l, oofOf v1_l + (k).toNat * 4, none⟩)) rfl rfl (by decide) rfl (fun _ hw => Ob_sidx tRe3 rfl rfl rfl rfl (slPl ((H.blw hw).sl 5 rfl) hg2) hg2) ?_; clear Z a; intro a Z
    refine q_ob Z (v := .agg #[.int .i64 (((l.getD (k).toNat default).batch).client), .int .i64 (((l.getD (k).toNat default).batch).req), u2, .int .u64 ((l.getD (k).toNat default).ts)]) rfl rfl (by decide) rfl (fun _ hw => Ob_loads tRe3 rfl rfl rfl (((H.blw hw).atg 3 rfl hg2).part 0 rfl)) ?_; clear Z a; intro a Z
    refine q_runk tRe3 Z 2 rfl rfl ?_; clear Z a; intro a Z
    refine q_ob Z (v := .pointer (some ⟨blkOf v1_l, oofOf v1_l + (i).toNat * 4, none⟩)) rfl rfl (by decide) rfl (fun _ hw => Ob_sidx tRe3 rfl rfl rfl rfl (slPl ((H.blw hw).sl 5 rfl) hg3) hg3) ?_; clear Z a; intro a Z
    refine q_ob Z (v := .agg #[.int .i64 (((l.getD (i).toNat default).batch).client), .int .i64 (((l.getD (i).toNat default).batch).req), u3, .int .u64 ((l.getD (i).toNat default).ts)]) rfl rfl (by decide) rfl (fun _ hw => Ob_loads tRe3 rfl rfl rfl (((H.blw hw).atg 1 rfl hg3).part 0 rfl)) ?_; clear Z a; intro a Z
    refine q_call Z (caps := #[]) fn_26_YRe3 rfl rfl rfl rfl rfl (by decide) rfl rfl (fun _ hw => (have hq := c_ref08_Twins hx2 (((H.blw hw)).pick0 (js := [(2, true), (0, true)]) rfl rfl); plainC hq)) ?_; clear Z a; intro a Z
    refine q_end Z [0, 2, 3, 4, 5, 6, 7, 8, 9, 12, 13, 14, 15, 16, 17, 18, 20, 21, 22, 25, 26, 27, 28, 29, 30, 31, 32, 33] rfl ?_; clear Z; intro w4 hb Z
    replace H : Hf I D w I3 w4 [SlC NEOp u3 (((l.getD (i).toNat default).batch).ops), AtG ((0 : Int) ≤ i ∧ i < (l.length : Int)) (blkOf v1_l) (oofOf v1_l + (i).toNat * 4) [.int .i64 (((l.getD (i).toNat default).batch).client), .int .i64 (((l.getD (i).toNat default).batch).req), u3, .int .u64 ((l.getD (i).toNat default).ts)], SlC NEOp u2 (((l.getD (k).toNat default).batch).ops), AtG ((0 : Int) ≤ k ∧ k < (l.length : Int)) (blkOf v1_l) (oofOf v1_l + (k).toNat * 4) [.int .i64 (((l.getD (k).toNat default).batch).client), .int .i64 (((l.getD (k).toNat default).batch).req), u2, .int .u64 ((l.getD (k).toNat default).ts)], SlC NEOp u1 (((l.getD (i).toNat default).batch).ops), SlC NEEntry v1_l l] := H.blw hb
    clear hb
    refine p_then ?_
    refine f_cond Z rfl (fun hc4 => ?_) (fun hc4 => ?_)
    ·replace hF := ite_t hc4 hF
     refine wp_seq (f_region Z ?_); clear Z; intro Z
     refine s_runk tRe3 Z 1 rfl rfl ?_; clear Z a; intro a Z
     refine s_end Z [0, 2, 3, 4, 5, 6, 7, 8, 9, 12, 13, 14, 15, 16, 17, 18, 20, 21, 22, 25, 26, 27, 28, 29, 30, 31, 32, 33] rfl ?_; clear Z; intro Z
     refine p_then (wp_ret ?_)
     refine p_blk_r ?_
     refine p_then_r ?_
     refine p_then_r ?_
     refine p_blk_r ?_
     refine p_then_r ?_
     refine p_blk_r ?_
     refine p_then_r ?_
     refine p_then_r ?_
     refine p_blk_r ?_
     refine p_then_r ?_
     obtain rfl := some_in hF
     exact f_ret Z (run_results1 rfl Z rfl) ⟨rfl, I3, (H.sub [] rfl).eq rfl⟩
    ·replace hF := ite_f hc4 hF
     refine wp_skip ?_
     refine p_blk ?_
     refine p_then ?_
     obtain ⟨hg4, hF⟩ := chk_in hF
     refine f_region Z ?_; clear Z; intro Z
     refine s_runk tRe3 Z 1 rfl rfl ?_; clear Z a; intro a Z
     refine s_ob Z (v := .int .i64 (k + 1)) rfl rfl (by decide) rfl (Ob_add rfl rfl rfl (wrI hg4)) ?_; clear Z a; intro a Z
     refine s_runk tRe3 Z 1 rfl rfl ?_; clear Z a; intro a Z
     refine s_end Z [0, 2, 3, 4, 5, 6, 7, 8, 9, 12, 13, 14, 15, 16, 17, 18, 20, 21, 22, 25, 26, 27, 28, 29, 30, 31, 32, 33, 23, 24] rfl ?_; clear Z; intro Z
     refine p_then ?_
     exact ⟨(k + 1), ⟨Z.sub (ts := [0, 2, 3, 4, 5, 6, 7, 8, 9, 12, 13, 14, 15, 16, 17, 18]) rfl, ⟨I3, (H.sub [(4, true), (5, true)] rfl).eq rfl⟩⟩, hF⟩
   ·replace hF := ite_f hc3 hF
    refine wp_exit ?_
    refine p_then_x ?_
    refine p_then_x ?_
    refine f_exit_here ?_
    refine p_then (wp_seq ?_)
    obtain ⟨hg5, hF⟩ := chk_in hF
    obtain ⟨_, ⟨u4, rfl, L4⟩, H⟩ := H.elG 1 rfl (i) (NEEntry.dft _ _)
    replace H := H.addsl L4
    replace H : Hf I D w I3 w3 [SlC NEOp u4 (((l.getD (i).toNat default).batch).ops), AtG ((0 : Int) ≤ i ∧ i < (l.length : Int)) (blkOf v1_l) (oofOf v1_l + (i).toNat * 4) [.int .i64 (((l.getD (i).toNat default).batch).client), .int .i64 (((l.getD (i).toNat default).batch).req), u4, .int .u64 ((l.getD (i).toNat default).ts)], SlC NEOp u1 (((l.getD (i).toNat default).batch).ops), SlC NEEntry v1_l l] := H
    obtain ⟨hg6, hF⟩ := chk_in hF
    obtain ⟨hg7, hF⟩ := chk_in hF
    obtain ⟨_, ⟨u5, rfl, L5⟩, H⟩ := H.elG 3 rfl (i - 1) (NEEntry.dft _ _)
    replace H := H.addsl L5
    replace H : Hf I D w I3 w3 [SlC NEOp u5 (((l.getD (i - 1).toNat default).batch).ops), AtG ((0 : Int) ≤ i - 1 ∧ i - 1 < (l.length : Int)) (blkOf v1_l) (oofOf v1_l + (i - 1).toNat * 4) [.int .i64 (((l.getD (i - 1).toNat default).batch).client), .int .i64 (((l.getD (i - 1).toNat default).batch).req), u5, .int .u64 ((l.getD (i - 1).toNat default).ts)], SlC NEOp u4 (((l.getD (i).toNat default).batch).ops), AtG ((0 : Int) ≤ i ∧ i < (l.length : Int)) (blkOf v1_l) (oofOf v1_l + (i).toNat * 4) [.int .i64 (((l.getD (i).toNat default).batch).client), .int .i64 (((l.getD (i).toNat default).batch).req), u4, .int .u64 ((l.getD (i).toNat default).ts)], SlC NEOp u1 (((l.getD (i).toNat default).batch).ops), SlC NEEntry v1_l l] := H
    obtain ⟨hg8, hF⟩ := chk_in hF
    obtain ⟨hg9, hF⟩ := chk_in hF
    obtain ⟨hg10, hF⟩ := chk_in hF
    refine f_quietd (by kernel_rfl) (by kernel_rfl) Z ?_; clear Z; intro Z
    refine q_runk tRe3 Z 3 rfl rfl ?_; clear Z a; intro a Z
    refine gq_ob Z (p := (decide (i > 0))) (v := v1_l) (S' := [(0, v1_l)]) rfl rfl rfl (wantB_t _) rfl (by decide) (fun hp hS => hS.sub (ts := [0]) rfl) (fun hp _ hw => Ob_c tRe3 rfl) ?_; clear Z a; intro a Z
    refine gq_ob Z (p := (decide (i > 0))) (v := .int .i64 i) (S' := [(3, .int .i64 i)]) rfl rfl rfl (wantB_t _) rfl (by decide) (fun hp hS => hS.sub (ts := [3]) rfl) (fun hp _ hw => Ob_c tRe3 rfl) ?_; clear Z a; intro a Z
    refine gq_ob Z (p := (decide (i > 0))) (v := .pointer (some ⟨blkOf v1_l, oofOf v1_l + (i).toNat * 4, none⟩)) (S' := [(37, v1_l), (38, .int .i64 i)]) rfl rfl rfl (wantB_t _) rfl (by decide) (fun hp hS => ((hS.conv (t := 37) rfl (cond_t hp)).conv (t := 38) rfl (cond_t hp)).sub (ts := [37, 38]) rfl) (fun hp _ hw => Ob_sidx tRe3 rfl rfl rfl rfl (slPl ((H.blw hw).sl 5 rfl) (hg5 hp)) (hg5 hp)) ?_; clear Z a; intro a Z
    refine gq_ob Z (p := (decide (i > 0))) (v := .pointer (some ⟨blkOf v1_l, oofOf v1_l + (i).toNat * 4 + 3, none⟩)) (S' := [(39, .pointer (some ⟨blkOf v1_l, oofOf v1_l + (i).toNat * 4, none⟩))]) rfl rfl rfl (wantB_t _) rfl (by decide) (fun hp hS => (hS.conv (t := 39) rfl (cond_t hp)).sub (ts := [39]) rfl) (fun hp _ hw => Ob_c tRe3 rfl) ?_; clear Z a; intro a Z
    refine gq_ob Z (p := (decide (i > 0))) (v := .int .u64 ((l.getD (i).toNat default).ts)) (S' := [(40, .pointer (some ⟨blkOf v1_l, oofOf v1_l + (i).toNat * 4 + 3, none⟩))]) rfl rfl rfl (wantB_t _) rfl (by decide) (fun hp hS => (hS.conv (t := 40) rfl (cond_t hp)).sub (ts := [40]) rfl) (fun hp _ hw => Ob_load tRe3 rfl rfl rfl (((H.blw hw).atg 3 rfl (hg5 hp)) 3 _ rfl)) ?_; clear Z a; intro a Z
    refine gq_ob Z (p := (decide (i > 0))) (v := .bool (((l.getD (i).toNat default).ts) != 0)) (S' := [(41, .int .u64 ((l.getD (i).toNat default).ts))]) rfl rfl rfl (wantB_t _) rfl (by decide) (fun hp hS => (hS.conv (t := 41) rfl (cond_t hp)).sub (ts := [41]) rfl) (fun hp _ hw => Ob_c tRe3 rfl) ?_; clear Z a; intro a Z
    refine q_ob Z (v := .bool ((decide (i > 0)) && (((l.getD (i).toNat default).ts) != 0))) rfl rfl (by decide) rfl (fun _ hw => Ob_pick rfl rfl rfl rfl (pick_and _ _)) ?_; clear Z a; intro a Z
    refine q_runk tRe3 Z 1 rfl rfl ?_; clear Z a; intro a Z
    refine gq_ob Z (p := ((decide (i > 0)) && (((l.getD (i).toNat default).ts) != 0))) (v := v1_l) (S' := [(0, v1_l)]) rfl rfl rfl (wantB_t _) rfl (by decide) (fun hp hS => hS.sub (ts := [0]) rfl) (fun hp _ hw => Ob_c tRe3 rfl) ?_; clear Z a; intro a Z
    refine gq_ob Z (p := ((decide (i > 0)) && (((l.getD (i).toNat default).ts) != 0))) (v := .int .i64 i) (S' := [(3, .int .i64 i)]) rfl rfl rfl (wantB_t _) rfl (by decide) (fun hp hS => hS.sub (ts := [3]) rfl) (fun hp _ hw => Ob_c tRe3 rfl) ?_; clear Z a; intro a Z
    refine gq_ob Z (p := ((decide (i > 0)) && (((l.getD (i).toNat default).ts) != 0))) (v := .int .i64 (i - 1)) (S' := [(46, .int .i64 i)]) rfl rfl rfl (wantB_t _) rfl (by decide) (fun hp hS => (hS.conv (t := 46) rfl (cond_t hp)).sub (ts := [46]) rfl) (fun hp _ hw => Ob_sub rfl rfl rfl (wrI (hg6 hp))) ?_; clear Z a; intro a Z
    refine gq_ob Z (p := ((decide (i > 0)) && (((l.getD (i).toNat default).ts) != 0))) (v := .pointer (some ⟨blkOf v1_l, oofOf v1_l + (i - 1).toNat * 4, none⟩)) (S' := [(45, v1_l), (47, .int .i64 (i - 1))]) rfl rfl rfl (wantB_t _) rfl (by decide) (fun hp hS => ((hS.conv (t := 45) rfl (cond_t hp)).conv (t := 47) rfl (cond_t hp)).sub (ts := [45, 47]) rfl) (fun hp _ hw => Ob_sidx tRe3 rfl rfl rfl rfl (slPl ((H.blw hw).sl 5 rfl) (hg7 hp)) (hg7 hp)) ?_; clear Z a; intro a Z
    refine gq_ob Z (p := ((decide (i > 0)) && (((l.getD (i).toNat default).ts) != 0))) (v := .pointer (some ⟨blkOf v1_l, oofOf v1_l + (i - 1).toNat * 4 + 3, none⟩)) (S' := [(48, .pointer (some ⟨blkOf v1_l, oofOf v1_l + (i - 1).toNat * 4, none⟩))]) rfl rfl rfl (wantB_t _) rfl (by decide) (fun hp hS => (hS.conv (t := 48) rfl (cond_t hp)).sub (ts := [48]) rfl) (fun hp _ hw => Ob_c tRe3 rfl) ?_; clear Z a; intro a Z
    refine gq_ob Z (p := ((decide (i > 0)) && (((l.getD (i).toNat default).ts) != 0))) (v := .int .u64 ((l.getD (i - 1).toNat default).ts)) (S' := [(49, .pointer (some ⟨blkOf v1_l, oofOf v1_l + (i - 1).toNat * 4 + 3, none⟩))]) rfl rfl rfl (wantB_t _) rfl (by decide) (fun hp hS => (hS.conv (t := 49) rfl (cond_t hp)).sub (ts := [49]) rfl) (fun hp _ hw => Ob_load tRe3 rfl rfl rfl (((H.blw hw).atg 1 rfl (hg7 hp)) 3 _ rfl)) ?_; clear Z a; intro a Z
    refine gq_ob Z (p := ((decide (i > 0)) && (((l.getD (i).toNat default).ts) != 0))) (v := .bool (((l.getD (i - 1).toNat default).ts) == 0)) (S' := [(50, .int .u64 ((l.getD (i - 1).toNat default).ts))]) rfl rfl rfl (wantB_t _) rfl (by decide) (fun hp hS => (hS.conv (t := 50) rfl (cond_t hp)).sub (ts := [50]) rfl) (fun hp _ hw => Ob_c tRe3 rfl) ?_; clear Z a; intro a Z
    refine gq_ob Z (p := ((decide (i > 0)) && (((l.getD (i).toNat default).ts) != 0))) (v := .bool (((l.getD (i - 1).toNat default).ts) == 0)) (S' := [(51, .bool (((l.getD (i - 1).toNat default).ts) == 0))]) rfl rfl rfl (wantB_t _) rfl (by decide) (fun hp hS => (hS.conv (t := 51) rfl (cond_t hp)).sub (ts := [51]) rfl) (fun hp _ hw => Ob_c tRe3 rfl) ?_; clear Z a; intro a Z
    refine gq_ob Z (p := (((decide (i > 0)) && (((l.getD (i).toNat default).ts) != 0)) && (!(((l.getD (i - 1).toNat default).ts) == 0)))) (v := v1_l) (S' := [(0, v1_l)]) rfl rfl rfl (wantB_cf _ _) rfl (by decide) (fun hp hS => hS.sub (ts := [0]) rfl) (fun hp _ hw => Ob_c tRe3 rfl) ?_; clear Z a; intro a Z
    refine gq_ob Z (p := (((decide (i > 0)) && (((l.getD (i).toNat default).ts) != 0)) && (!(((l.getD (i - 1).toNat default).ts) == 0)))) (v := .int .i64 i) (S' := [(3, .int .i64 i)]) rfl rfl rfl (wantB_cf _ _) rfl (by decide) (fun hp hS => hS.sub (ts := [3]) rfl) (fun hp _ hw => Ob_c tRe3 rfl) ?_; clear Z a; intro a Z
    refine gq_ob Z (p := (((decide (i > 0)) && (((l.getD (i).toNat default).ts) != 0)) && (!(((l.getD (i - 1).toNat default).ts) == 0)))) (v := .int .i64 (i - 1)) (S' := [(54, .int .i64 i)]) rfl rfl rfl (wantB_cf _ _) rfl (by decide) (fun hp hS => (hS.conv (t := 54) rfl (cond_t hp)).sub (ts := [54]) rfl) (fun hp _ hw => Ob_sub rfl rfl rfl (wrI (hg8 hp))) ?_; clear Z a; intro a Z
    refine gq_ob Z (p := (((decide (i > 0)) && (((l.getD (i).toNat default).ts) != 0)) && (!(((l.getD (i - 1).toNat default).ts) == 0)))) (v := .pointer (some ⟨blkOf v1_l, oofOf v1_l + (i - 1).toNat * 4, none⟩)) (S' := [(53, v1_l), (55, .int .i64 (i - 1))]) rfl rfl rfl (wantB_cf _ _) rfl (by decide) (fun hp hS => ((hS.conv (t := 53) rfl (cond_t hp)).conv (t := 55) rfl (cond_t hp)).sub (ts := [53, 55]) rfl) (fun hp _ hw => Ob_sidx tRe3 rfl rfl rfl rfl (slPl ((H.blw hw).sl 5 rfl) (hg9 hp)) (hg9 hp)) ?_; clear Z a; intro a Z
    refine gq_ob Z (p := (((decide (i > 0)) && (((l.getD (i).toNat default).ts) != 0)) && (!(((l.getD (i - 1).toNat default).ts) == 0)))) (v := .pointer (some ⟨blkOf v1_l, oofOf v1_l + (i - 1).toNat * 4 + 3, none⟩)) (S' := [(56, .pointer (some ⟨blkOf v1_l, oofOf v1_l + (i - 1).toNat * 4, none⟩))]) rfl rfl rfl (wantB_cf _ _) rfl (by decide) (fun hp hS => (hS.conv (t := 56) rfl (cond_t hp)).sub (ts := [56]) rfl) (fun hp _ hw => Ob_c tRe3 rfl) ?_; clear Z a; intro a Z
    refine gq_ob Z (p := (((decide (i > 0)) && (((l.getD (i).toNat default).ts) != 0)) && (!(((l.getD (i - 1).toNat default).ts) == 0)))) (v := .int .u64 ((l.getD (i - 1).toNat default).ts)) (S' := [(57, .pointer (some ⟨blkOf v1_l, oofOf v1_l + (i - 1).toNat * 4 + 3, none⟩))]) rfl rfl rfl (wantB_cf _ _) rfl (by decide) (fun hp hS => (hS.conv (t := 57) rfl (cond_t hp)).sub (ts := [57]) rfl) (fun hp _ hw => Ob_load tRe3 rfl rfl rfl (((H.blw hw).atg 1 rfl (hg9 hp)) 3 _ rfl)) ?_; clear Z a; intro a Z
    refine gq_ob Z (p := (((decide (i > 0)) && (((l.getD (i).toNat default).ts) != 0)) && (!(((l.getD (i - 1).toNat default).ts) == 0)))) (v := v1_l) (S' := [(0, v1_l)]) rfl rfl rfl (wantB_cf _ _) rfl (by decide) (fun hp hS => hS.sub (ts := [0]) rfl) (fun hp _ hw => Ob_c tRe3 rfl) ?_; clear Z a; intro a Z
    refine gq_ob Z (p := (((decide (i > 0)) && (((l.getD (i).toNat default).ts) != 0)) && (!(((l.getD (i - 1).toNat default).ts) == 0)))) (v := .int .i64 i) (S' := [(3, .int .i64 i)]) rfl rfl rfl (wantB_cf _ _) rfl (by decide) (fun hp hS => hS.sub (ts := [3]) rfl) (fun hp _ hw => Ob_c tRe3 rfl) ?_; clear Z a; intro a Z
    refine gq_ob Z (p := (((decide (i > 0)) && (((l.getD (i).toNat default).ts) != 0)) && (!(((l.getD (i - 1).toNat default).ts) == 0)))) (v := .pointer (some ⟨blkOf v1_l, oofOf v1_l + (i).toNat * 4, none⟩)) (S' := [(59, v1_l), (60, .int .i64 i)]) rfl rfl rfl (wantB_cf _ _) rfl (by decide) (fun hp hS => ((hS.conv (t := 59) rfl (cond_t hp)).conv (t := 60) rfl (cond_t hp)).sub (ts := [59, 60]) rfl) (fun hp _ hw => Ob_sidx tRe3 rfl rfl rfl rfl (slPl ((H.blw hw).sl 5 rfl) (hg10 hp)) (hg10 hp)) ?_; clear Z a; intro a Z
    refine gq_ob Z (p := (((decide (i > 0)) && (((l.getD (i).toNat default).ts) != 0)) && (!(((l.getD (i - 1).toNat default).ts) == 0)))) (v := .pointer (some ⟨blkOf v1_l, oofOf v1_l + (i).toNat * 4 + 3, none⟩)) (S' := [(61, .pointer (some ⟨blkOf v1_l, oofOf v1_l + (i).toNat * 4, none⟩))]) rfl rfl rfl (wantB_cf _ _) rfl (by decide) (fun hp hS => (hS.conv (t := 61) rfl (cond_t hp)).sub (ts := [61]) rfl) (fun hp _ hw => Ob_c tRe3 rfl) ?_; clear Z a; intro a Z
    refine gq_ob Z (p := (((decide (i > 0)) && (((l.getD (i).toNat default).ts) != 0)) && (!(((l.getD (i - 1).toNat default).ts) == 0)))) (v := .int .u64 ((l.getD (i).toNat default).ts)) (S' := [(62, .pointer (some ⟨blkOf v1_l, oofOf v1_l + (i).toNat * 4 + 3, none⟩))]) rfl rfl rfl (wantB_cf _ _) rfl (by decide) (fun hp hS => (hS.conv (t := 62) rfl (cond_t hp)).sub (ts := [62]) rfl) (fun hp _ hw => Ob_load tRe3 rfl rfl rfl (((H.blw hw).atg 3 rfl (hg10 hp)) 3 _ rfl)) ?_; clear Z a; intro a Z
    refine gq_ob Z (p := (((decide (i > 0)) && (((l.getD (i).toNat default).ts) != 0)) && (!(((l.getD (i - 1).toNat default).ts) == 0)))) (v := .bool (decide ((l.getD (i - 1).toNat default).ts ≥ (l.getD (i).toNat default).ts))) (S' := [(58, .int .u64 ((l.getD (i - 1).toNat default).ts)), (63, .int .u64 ((l.getD (i).toNat default).ts))]) rfl rfl rfl (wantB_cf _ _) rfl (by decide) (fun hp hS => ((hS.conv (t := 58) rfl (cond_t hp)).conv (t := 63) rfl (cond_t hp)).sub (ts := [58, 63]) rfl) (fun hp _ hw => Ob_c tRe3 rfl) ?_; clear Z a; intro a Z
    refine gq_ob Z (p := ((decide (i > 0)) && (((l.getD (i).toNat default).ts) != 0))) (v := .bool ((((l.getD (i - 1).toNat default).ts) == 0) || (decide ((l.getD (i - 1).toNat default).ts ≥ (l.getD (i).toNat default).ts)))) (S' := [(52, .bool (((l.getD (i - 1).toNat default).ts) == 0)), (64, cond (((decide (i > 0)) && (((l.getD (i).toNat default).ts) != 0)) && (!(((l.getD (i - 1).toNat default).ts) == 0))) (.bool (decide ((l.getD (i - 1).toNat default).ts ≥ (l.getD (i).toNat default).ts))) undef)]) rfl rfl rfl (wantB_t _) rfl (by decide) (fun hp hS => (hS.conv (t := 52) rfl (cond_t hp)).sub (ts := [52, 64]) rfl) (fun hp _ hw => Ob_pick rfl rfl rfl rfl (pick_orp _ _ hp)) ?_; clear Z a; intro a Z
    refine q_ob Z (v := .bool (((decide (i > 0)) && (((l.getD (i).toNat default).ts) != 0)) && ((((l.getD (i - 1).toNat default).ts) == 0) || (decide ((l.getD (i - 1).toNat default).ts ≥ (l.getD (i).toNat default).ts))))) rfl rfl (by decide) rfl (fun _ hw => Ob_pick rfl rfl rfl rfl (pick_and _ _)) ?_; clear Z a; intro a Z
    refine q_end Z [0, 2, 3, 4, 5, 6, 7, 8, 9, 12, 13, 14, 15, 16, 17, 18, 20, 21, 22, 34, 35, 36, 43, 44, 66] rfl ?_; clear Z; intro w5 hb Z
    replace H : Hf I D w I3 w5 [SlC NEOp u5 (((l.getD (i - 1).toNat default).batch).ops), AtG ((0 : Int) ≤ i - 1 ∧ i - 1 < (l.length : Int)) (blkOf v1_l) (oofOf v1_l + (i - 1).toNat * 4) [.int .i64 (((l.getD (i - 1).toNat default).batch).client), .int .i64 (((l.getD (i - 1).toNat default).batch).req), u5, .int .u64 ((l.getD (i - 1).toNat default).ts)], SlC NEOp u4 (((l.getD (i).toNat default).batch).ops), AtG ((0 : Int) ≤ i ∧ i < (l.length : Int)) (blkOf v1_l) (oofOf v1_l + (i).toNat * 4) [.int .i64 (((l.getD (i).toNat default).batch).client), .int .i64 (((l.getD (i).toNat default).batch).req), u4, .int .u64 ((l.getD (i).toNat default).ts)], SlC NEOp u1 (((l.getD (i).toNat default).batch).ops), SlC NEEntry v1_l l] := H.blw hb
    clear hb
    refine p_then ?_
    refine f_cond Z rfl (fun hc5 => ?_) (fun hc5 => ?_)
    ·replace hF := ite_t hc5 hF
     refine wp_seq (f_region Z ?_); clear Z; intro Z
     refine s_runk tRe3 Z 1 rfl rfl ?_; clear Z a; intro a Z
     refine s_end Z [0, 2, 3, 4, 5, 6, 7, 8, 9, 12, 13, 14, 15, 16, 17, 18, 20, 21, 22, 34, 35, 36, 43, 44, 66] rfl ?_; clear Z; intro Z
     refine p_then (wp_ret ?_)
     refine p_blk_r ?_
     refine p_then_r ?_
     refine p_then_r ?_
     refine p_blk_r ?_
     refine p_then_r ?_
     obtain rfl := some_in hF
     exact f_ret Z (run_results1 rfl Z rfl) ⟨rfl, I3, (H.sub [] rfl).eq rfl⟩
    ·replace hF := ite_f hc5 hF
     refine wp_skip ?_
     refine p_blk ?_
     refine p_then ?_
     obtain ⟨hg11, hF⟩ := chk_in hF
     refine f_region Z ?_; clear Z; intro Z
     refine s_runk tRe3 Z 1 rfl rfl ?_; clear Z a; intro a Z
     refine s_ob Z (v := .int .i64 (i + 1)) rfl rfl (by decide) rfl (Ob_add rfl rfl rfl (wrI hg11)) ?_; clear Z a; intro a Z
     refine s_runk tRe3 Z 1 rfl rfl ?_; clear Z a; intro a Z
     refine s_end Z [0, 2, 3, 4, 5, 6, 7, 8, 9, 12, 13, 14, 15, 16, 17, 18, 20, 21, 22, 34, 35, 36, 43, 44, 66, 10, 11] rfl ?_; clear Z; intro Z
     refine p_then ?_
     exact ⟨(i + 1), ⟨Z.sub (ts := [0, 2, 3]) rfl, ⟨I3, (H.sub [(5, true)] rfl).eq rfl⟩⟩, hF⟩
 ·replace hF := ite_f hc1 hF
  refine wp_exit ?_
  refine p_then_x ?_
  refine p_then_x ?_
  refine f_exit_here ?_
  refine p_then (wp_seq (f_region Z ?_)); clear Z; intro Z
  refine s_runk tRe3 Z 1 rfl rfl ?_; clear Z a; intro a Z
  refine s_end Z [2] rfl ?_; clear Z; intro Z
  refine p_then (wp_ret ?_)
  obtain rfl := some_in hF
  exact f_ret Z (run_results1 rfl Z rfl) ⟨rfl, I1, (H.sub [] rfl).eq rfl⟩

def F_law32_awake : Option Bool := (F_relay_Ack 1 2 2 1 [({ batch := ({ (default : EBatch) with req := 1 } : EBatch), ts := 3 } : EEntry), ({ batch := ({ (default : EBatch) with req := 2 } : EBatch), ts := 5 } : EEntry)]).bind fun a0 => ((F_relay_Fwd 1 0 1 0 9 [({ batch := ({ (default : EBatch) with req := 1 } : EBatch), ts := 3 } : EEntry), ({ batch := ({ (default : EBatch) with req := 2 } : EBatch), ts := 5 } : EEntry)] 2).bind fun f => (chk (((a0.k == 4) && ((a0.stamps.length : Int) == 1)) = true → (0 : Int) ≤ 0 ∧ 0 < (a0.stamps.length : Int)) (some ((((((a0.k == 4) && ((a0.stamps.length : Int) == 1)) && ((a0.stamps.getD (0 : Int).toNat default) == 5)) && ((f.entries.length : Int) == 1)) && (f.p == 2)) && (f.at_ == 9)))))

set_option maxHeartbeats 1000000 in
theorem c_law32_awake {I D : Dm} {w : World} {rr : Bool} (hF : F_law32_awake = some rr) (H : St I D w []) :
  Calls Try.prog 8 #[] w (Ret fun vv w' => vv = .bool rr ∧ ∃ I', Hf I D w I' w' []) := by
 replace H := H.hf
 unfold F_law32_awake at hF
 refine f_enter 45 Try.func8 rfl rfl (Nat.le_of_ble_eq_true rfl) fun a Z => ?_
 replace Z := Z.sub (ts := []) rfl
 refine wp_seq (f_region Z ?_); clear Z; intro Z
 refine s_runk tRe3 Z 1 rfl rfl ?_; clear Z a; intro a Z
 refine s_end Z [] rfl ?_; clear Z; intro Z
 refine p_then (wp_seq (f_region Z ?_)); clear Z; intro Z
 refine s_ob Z (v := .agg #[.int .i64 0, .int .i64 1, .slice none 0 0]) rfl rfl (by decide) rfl (Ob_build (vs := [(1, .int .i64 1)]) rfl rfl (by go_simp <;> rfl)) ?_; clear Z a; intro a Z
 refine s_ob Z (v := .agg #[.int .i64 0, .int .i64 1, .slice none 0 0, .int .u64 3]) rfl rfl (by decide) rfl (Ob_build (vs := [(0, .agg #[.int .i64 0, .int .i64 1, .slice none 0 0]), (1, .int .u64 3)]) rfl rfl (by go_simp <;> rfl)) ?_; clear Z a; intro a Z
 refine s_ob Z (v := .agg #[.int .i64 0, .int .i64 2, .slice none 0 0]) rfl rfl (by decide) rfl (Ob_build (vs := [(1, .int .i64 2)]) rfl rfl (by go_simp <;> rfl)) ?_; clear Z a; intro a Z
 refine s_ob Z (v := .agg #[.int .i64 0, .int .i64 2, .slice none 0 0, .int .u64 5]) rfl rfl (by decide) rfl (Ob_build (vs := [(0, .agg #[.int .i64 0, .int .i64 2, .slice none 0 0]), (1, .int .u64 5)]) rfl rfl (by go_simp <;> rfl)) ?_; clear Z a; intro a Z
 refine h_bslice Z H (vs := [(0, .agg #[.int .i64 0, .int .i64 1, .slice none 0 0, .int .u64 3]), (1, .agg #[.int .i64 0, .int .i64 2, .slice none 0 0, .int .u64 5])]) (cl := [.int .i64 0, .int .i64 1, .slice none 0 0, .int .u64 3, .int .i64 0, .int .i64 2, .slice none 0 0, .int .u64 5]) (e := 57) rfl rfl rfl (by decide) rfl rfl (fun w => run_bslice (z := .agg #[.int .i64 0, .int .i64 0, .slice none 0 0, .int .u64 0]) (m := 4) Try.underlying22 (by kernel_rfl) rfl rfl (by decide) (by simp [Instr.fill, Value.cells]) w) ?_; clear Z a H; intro a w1 b1 H Z
 refine s_runk tRe3 Z 1 rfl rfl ?_; clear Z a; intro a Z
 refine s_end Z [1] rfl ?_; clear Z; intro Z
 refine p_then (wp_seq ?_)
 obtain ⟨a0, hx1, hF⟩ := bnd_in hF
 refine f_region Z ?_; clear Z; intro Z
 refine s_runk tRe3 Z 1 rfl rfl ?_; clear Z a; intro a Z
 replace H : Hf I D w I w1 [SlC NEOp (.slice none 0 0) ([] : List EOp), BxC b1 57 [.int .i64 0, .int .i64 1, .slice none 0 0, .int .u64 3, .int .i64 0, .int .i64 2, .slice none 0 0, .int .u64 5]] := H.slNil NEOp
 replace H : Hf I D w I w1 [SlC NEOp (.slice none 0 0) ([] : List EOp), SlC NEOp (.slice none 0 0) ([] : List EOp), BxC b1 57 [.int .i64 0, .int .i64 1, .slice none 0 0, .int .u64 3, .int .i64 0, .int .i64 2, .slice none 0 0, .int .u64 5]] := H.slNil NEOp
 obtain ⟨I1, _, H⟩ := H.frzlit 2 rfl (R := NEEntry) [[.int .i64 0, .int .i64 1, .slice none 0 0, .int .u64 3], [.int .i64 0, .int .i64 2, .slice none 0 0, .int .u64 5]] [({ batch := ({ (default : EBatch) with req := 1 } : EBatch), ts := 3 } : EEntry), ({ batch := ({ (default : EBatch) with req := 2 } : EBatch), ts := 5 } : EEntry)] rfl rfl (fun i h1 h2 => by match i, h1, h2 with | 0, _, _ => exact ⟨_, rfl, (H.sl 0 rfl)⟩ | 1, _, _ => exact ⟨_, rfl, (H.sl 0 rfl)⟩) (show 2 ≤ maxLen from by decide) (n := 2) rfl
 replace H : Hf I D w I1 w1 [SlC NEEntry (.slice (some ⟨b1, 0, none⟩) 2 2) [({ batch := ({ (default : EBatch) with req := 1 } : EBatch), ts := 3 } : EEntry), ({ batch := ({ (default : EBatch) with req := 2 } : EBatch), ts := 5 } : EEntry)], SlC NEOp (.slice none 0 0) ([] : List EOp), SlC NEOp (.slice none 0 0) ([] : List EOp)] := H
 refine h_call Z H (js := [(0, true)]) rfl (caps := #[]) fn_10_YRe3 rfl rfl rfl rfl rfl (by decide) rfl rfl (fun D1 hS => have hq := c_relay_Ack hx1 hS; hq) ?_; clear Z a; intro vv a w2 D2 hr hF2 Z
 obtain ⟨q1, q2, q3, q4, q5, rfl, I2, K⟩ := hr
 have H : Hf I D w I2 w2 [SlC NEMember q1 a0.conf.members, SlC NEOp q2 a0.batch.ops, SlC NEEntry q3 a0.entries, SlC Nu64 q4 a0.stamps, SlC NEPair q5 a0.pairs, SlC NEEntry (.slice (some ⟨b1, 0, none⟩) 2 2) [({ batch := ({ (default : EBatch) with req := 1 } : EBatch), ts := 3 } : EEntry), ({ batch := ({ (default : EBatch) with req := 2 } : EBatch), ts := 5 } : EEntry)], SlC NEOp (.slice none 0 0) ([] : List EOp), SlC NEOp (.slice none 0 0) ([] : List EOp)] := hF2 K
 clear hF2 K
 refine h_alloc Z H (cl := [.int .i64 0, .int .i64 0, .int .i64 0, .int .i64 0, .bool false, .int .u64 0, .int .u64 0, .int .i64 0, .int .i64 0, .int .i64 0, .int .i64 0, .string ByteArray.empty, .string ByteArray.empty, .int .i64 0, .slice none 0 0, .int .u64 0, .int .i64 0, .int .i64 0, .slice none 0 0, .slice none 0 0, .slice none 0 0, .slice none 0 0]) (z := .agg #[.int .i64 0, .int .i64 0, .int .i64 0, .int .i64 0, .bool false, .int .u64 0, .int .u64 0, .int .i64 0, .int .i64 0, .int .i64 0, .int .i64 0, .string ByteArray.empty, .string ByteArray.empty, .int .i64 0, .slice none 0 0, .int .u64 0, .int .i64 0, .int .i64 0, .slice none 0 0, .slice none 0 0, .slice none 0 0, .slice none 0 0]) rfl rfl rfl (by decide) rfl (by kernel_rfl) rfl ?_; clear Z a H; intro a w3 b2 H Z
 refine h_store tRe3 Z H 0 rfl rfl rfl rfl rfl rfl rfl rfl rfl (one_cons rfl (one_cons rfl (one_cons rfl (one_cons rfl (one_cons rfl (one_cons rfl (one_cons rfl (one_cons rfl (one_cons rfl (one_cons rfl (one_cons rfl (one_cons rfl (one_cons rfl (one_cons rfl (one_cons (slS.one (H.slshape 1 rfl)) (one_cons rfl (one_cons rfl (one_cons rfl (one_cons (slS.one (H.slshape 2 rfl)) (one_cons (slS.one (H.slshape 3 rfl)) (one_cons (slS.one (H.slshape 4 rfl)) (one_cons (slS.one (H.slshape 5 rfl)) one_nil)))))))))))))))))))))) (Nat.le_of_ble_eq_true rfl) (putCells_all rfl) ?_; clear H; intro w4 H
 dsimp only [List.eraseIdx] at H
 refine s_end Z [1, 2] rfl ?_; clear Z; intro Z
 refine p_then (wp_seq ?_)
 obtain ⟨f, hx2, hF⟩ := bnd_in hF
 refine f_region Z ?_; clear Z; intro Z
 refine s_runk tRe3 Z 1 rfl rfl ?_; clear Z a; intro a Z
 refine h_call Z H (js := [(6, true)]) rfl (caps := #[]) fn_9_YRe3 rfl rfl rfl rfl rfl (by decide) rfl rfl (fun D1 hS => have hq := c_relay_Fwd hx2 hS; hq) ?_; clear Z a; intro vv a w5 D2 hr hF2 Z
 obtain ⟨q6, q7, q8, q9, q10, rfl, I3, K⟩ := hr
 have H : Hf I D w I3 w5 [SlC NEMember q6 f.conf.members, SlC NEOp q7 f.batch.ops, SlC NEEntry q8 f.entries, SlC Nu64 q9 f.stamps, SlC NEPair q10 f.pairs, BxC b2 37 (cEMsg a0 q1 q2 q3 q4 q5), SlC NEMember q1 a0.conf.members, SlC NEOp q2 a0.batch.ops, SlC NEEntry q3 a0.entries, SlC Nu64 q4 a0.stamps, SlC NEPair q5 a0.pairs, SlC NEEntry (.slice (some ⟨b1, 0, none⟩) 2 2) [({ batch := ({ (default : EBatch) with req := 1 } : EBatch), ts := 3 } : EEntry), ({ batch := ({ (default : EBatch) with req := 2 } : EBatch), ts := 5 } : EEntry)], SlC NEOp (.slice none 0 0) ([] : List EOp), SlC NEOp (.slice none 0 0) ([] : List EOp)] := hF2 K
 clear hF2 K
 refine h_alloc Z H (cl := [.int .i64 0, .int .i64 0, .int .i64 0, .int .i64 0, .bool false, .int .u64 0, .int .u64 0, .int .i64 0, .int .i64 0, .int .i64 0, .int .i64 0, .string ByteArray.empty, .string ByteArray.empty, .int .i64 0, .slice none 0 0, .int .u64 0, .int .i64 0, .int .i64 0, .slice none 0 0, .slice none 0 0, .slice none 0 0, .slice none 0 0]) (z := .agg #[.int .i64 0, .int .i64 0, .int .i64 0, .int .i64 0, .bool false, .int .u64 0, .int .u64 0, .int .i64 0, .int .i64 0, .int .i64 0, .int .i64 0, .string ByteArray.empty, .string ByteArray.empty, .int .i64 0, .slice none 0 0, .int .u64 0, .int .i64 0, .int .i64 0, .slice none 0 0, .slice none 0 0, .slice none 0 0, .slice none 0 0]) rfl rfl rfl (by decide) rfl (by kernel_rfl) rfl ?_; clear Z a H; intro a w6 b3 H Z
 refine h_store tRe3 Z H 0 rfl rfl rfl rfl rfl rfl rfl rfl rfl (one_cons rfl (one_cons rfl (one_cons rfl (one_cons rfl (one_cons rfl (one_cons rfl (one_cons rfl (one_cons rfl (one_cons rfl (one_cons rfl (one_cons rfl (one_cons rfl (one_cons rfl (one_cons rfl (one_cons (slS.one (H.slshape 1 rfl)) (one_cons rfl (one_cons rfl (one_cons rfl (one_cons (slS.one (H.slshape 2 rfl)) (one_cons (slS.one (H.slshape 3 rfl)) (one_cons (slS.one (H.slshape 4 rfl)) (one_cons (slS.one (H.slshape 5 rfl)) one_nil)))))))))))))))))))))) (Nat.le_of_ble_eq_true rfl) (putCells_all rfl) ?_; clear H; intro w7 H
 dsimp only [List.eraseIdx] at H
 refine s_end Z [2, 3] rfl ?_; clear Z; intro Z
 refine p_then (wp_seq ?_)
 obtain ⟨hg1, hF⟩ := chk_in hF
 refine f_region Z ?_; clear Z; intro Z
 refine s_runk tRe3 Z 1 rfl rfl ?_; clear Z a; intro a Z
 refine s_ob Z (v := .int .i64 a0.k) rfl rfl (by decide) rfl (Ob_load tRe3 rfl rfl rfl ((H.bx 6 rfl).cell 0 rfl)) ?_; clear Z a; intro a Z
 refine s_runk tRe3 Z 2 rfl rfl ?_; clear Z a; intro a Z
 refine g_ob Z (p := (a0.k == 4)) (v := .pointer (some ⟨b2, 20, none⟩)) (S' := [(2, .pointer (some ⟨b2, 0, none⟩))]) rfl rfl rfl (wantB_t _) rfl (by decide) (fun hp hS => hS.sub (ts := [2]) rfl) (fun hp => Ob_c tRe3 rfl) ?_; clear Z a; intro a Z
 refine g_ob Z (p := (a0.k == 4)) (v := q4) (S' := [(17, .pointer (some ⟨b2, 20, none⟩))]) rfl rfl rfl (wantB_t _) rfl (by decide) (fun hp hS => (hS.conv (t := 17) rfl (cond_t hp)).sub (ts := [17]) rfl) (fun hp => Ob_load tRe3 rfl rfl rfl ((H.bx 6 rfl).cell 20 rfl)) ?_; clear Z a; intro a Z
 refine g_ob Z (p := (a0.k == 4)) (v := .int .i64 (a0.stamps.length : Int)) (S' := [(18, q4)]) rfl rfl rfl (wantB_t _) rfl (by decide) (fun hp hS => (hS.conv (t := 18) rfl (cond_t hp)).sub (ts := [18]) rfl) (fun hp => Ob_slen tRe3 rfl rfl rfl (H.slshape 10 rfl)) ?_; clear Z a; intro a Z
 refine g_ob Z (p := (a0.k == 4)) (v := .bool ((a0.stamps.length : Int) == 1)) (S' := [(19, .int .i64 (a0.stamps.length : Int))]) rfl rfl rfl (wantB_t _) rfl (by decide) (fun hp hS => (hS.conv (t := 19) rfl (cond_t hp)).sub (ts := [19]) rfl) (fun hp => Ob_c tRe3 rfl) ?_; clear Z a; intro a Z
 refine s_ob Z (v := .bool ((a0.k == 4) && ((a0.stamps.length : Int) == 1))) rfl rfl (by decide) rfl (Ob_pick rfl rfl rfl rfl (pick_and _ _)) ?_; clear Z a; intro a Z
 refine s_runk tRe3 Z 1 rfl rfl ?_; clear Z a; intro a Z
 refine g_ob Z (p := ((a0.k == 4) && ((a0.stamps.length : Int) == 1))) (v := .pointer (some ⟨b2, 20, none⟩)) (S' := [(2, .pointer (some ⟨b2, 0, none⟩))]) rfl rfl rfl (wantB_t _) rfl (by decide) (fun hp hS => hS.sub (ts := [2]) rfl) (fun hp => Ob_c tRe3 rfl) ?_; clear Z a; intro a Z
 refine g_ob Z (p := ((a0.k == 4) && ((a0.stamps.length : Int) == 1))) (v := q4) (S' := [(23, .pointer (some ⟨b2, 20, none⟩))]) rfl rfl rfl (wantB_t _) rfl (by decide) (fun hp hS => (hS.conv (t := 23) rfl (cond_t hp)).sub (ts := [23]) rfl) (fun hp => Ob_load tRe3 rfl rfl rfl ((H.bx 6 rfl).cell 20 rfl)) ?_; clear Z a; intro a Z
 refine g_ob Z (p := ((a0.k == 4) && ((a0.stamps.length : Int) == 1))) (v := .pointer (some ⟨blkOf q4, oofOf q4 + (0 : Int).toNat * 1, none⟩)) (S' := [(24, q4)]) rfl rfl rfl (wantB_t _) rfl (by decide) (fun hp hS => (hS.conv (t := 24) rfl (cond_t hp)).sub (ts := [24]) rfl) (fun hp => Ob_sidx tRe3 rfl rfl rfl rfl (slPl (H.sl 10 rfl) (hg1 hp)) (hg1 hp)) ?_; clear Z a; intro a Z
 refine g_ob Z (p := ((a0.k == 4) && ((a0.stamps.length : Int) == 1))) (v := .int .u64 (a0.stamps.getD (0 : Int).toNat default)) (S' := [(25, .pointer (some ⟨blkOf q4, oofOf q4 + (0 : Int).toNat * 1, none⟩))]) rfl rfl rfl (wantB_t _) rfl (by decide) (fun hp hS => (hS.conv (t := 25) rfl (cond_t hp)).sub (ts := [25]) rfl) (fun hp => Ob_load tRe3 rfl rfl rfl ((slFl (H.sl 10 rfl) (hg1 hp)) 0 _ rfl)) ?_; clear Z a; intro a Z
 refine g_ob Z (p := ((a0.k == 4) && ((a0.stamps.length : Int) == 1))) (v := .bool ((a0.stamps.getD (0 : Int).toNat default) == 5)) (S' := [(26, .int .u64 (a0.stamps.getD (0 : Int).toNat default))]) rfl rfl rfl (wantB_t _) rfl (by decide) (fun hp hS => (hS.conv (t := 26) rfl (cond_t hp)).sub (ts := [26]) rfl) (fun hp => Ob_c tRe3 rfl) ?_; clear Z a; intro a Z
 refine s_ob Z (v := .bool (((a0.k == 4) && ((a0.stamps.length : Int) == 1)) && ((a0.stamps.getD (0 : Int).toNat default) == 5))) rfl rfl (by decide) rfl (Ob_pick rfl rfl rfl rfl (pick_and _ _)) ?_; clear Z a; intro a Z
 refine s_runk tRe3 Z 1 rfl rfl ?_; clear Z a; intro a Z
 refine g_ob Z (p := (((a0.k == 4) && ((a0.stamps.length : Int) == 1)) && ((a0.stamps.getD (0 : Int).toNat default) == 5))) (v := .pointer (some ⟨b3, 19, none⟩)) (S' := [(3, .pointer (some ⟨b3, 0, none⟩))]) rfl rfl rfl (wantB_t _) rfl (by decide) (fun hp hS => hS.sub (ts := [3]) rfl) (fun hp => Ob_c tRe3 rfl) ?_; clear Z a; intro a Z
 refine g_ob Z (p := (((a0.k == 4) && ((a0.stamps.length : Int) == 1)) && ((a0.stamps.getD (0 : Int).toNat default) == 5))) (v := q8) (S' := [(30, .pointer (some ⟨b3, 19, none⟩))]) rfl rfl rfl (wantB_t _) rfl (by decide) (fun hp hS => (hS.conv (t := 30) rfl (cond_t hp)).sub (ts := [30]) rfl) (fun hp => Ob_load tRe3 rfl rfl rfl ((H.bx 0 rfl).cell 19 rfl)) ?_; clear Z a; intro a Z
 refine g_ob Z (p := (((a0.k == 4) && ((a0.stamps.length : Int) == 1)) && ((a0.stamps.getD (0 : Int).toNat default) == 5))) (v := .int .i64 (f.entries.length : Int)) (S' := [(31, q8)]) rfl rfl rfl (wantB_t _) rfl (by decide) (fun hp hS => (hS.conv (t := 31) rfl (cond_t hp)).sub (ts := [31]) rfl) (fun hp => Ob_slen tRe3 rfl rfl rfl (H.slshape 3 rfl)) ?_; clear Z a; intro a Z
 refine g_ob Z (p := (((a0.k == 4) && ((a0.stamps.length : Int) == 1)) && ((a0.stamps.getD (0 : Int).toNat default) == 5))) (v := .bool ((f.entries.length : Int) == 1)) (S' := [(32, .int .i64 (f.entries.length : Int))]) rfl rfl rfl (wantB_t _) rfl (by decide) (fun hp hS => (hS.conv (t := 32) rfl (cond_t hp)).sub (ts := [32]) rfl) (fun hp => Ob_c tRe3 rfl) ?_; clear Z a; intro a Z
 refine s_ob Z (v := .bool ((((a0.k == 4) && ((a0.stamps.length : Int) == 1)) && ((a0.stamps.getD (0 : Int).toNat default) == 5)) && ((f.entries.length : Int) == 1))) rfl rfl (by decide) rfl (Ob_pick rfl rfl rfl rfl (pick_and _ _)) ?_; clear Z a; intro a Z
 refine s_runk tRe3 Z 1 rfl rfl ?_; clear Z a; intro a Z
 refine g_ob Z (p := ((((a0.k == 4) && ((a0.stamps.length : Int) == 1)) && ((a0.stamps.getD (0 : Int).toNat default) == 5)) && ((f.entries.length : Int) == 1))) (v := .pointer (some ⟨b3, 9, none⟩)) (S' := [(3, .pointer (some ⟨b3, 0, none⟩))]) rfl rfl rfl (wantB_t _) rfl (by decide) (fun hp hS => hS.sub (ts := [3]) rfl) (fun hp => Ob_c tRe3 rfl) ?_; clear Z a; intro a Z
 refine g_ob Z (p := ((((a0.k == 4) && ((a0.stamps.length : Int) == 1)) && ((a0.stamps.getD (0 : Int).toNat default) == 5)) && ((f.entries.length : Int) == 1))) (v := .int .i64 f.p) (S' := [(36, .pointer (some ⟨b3, 9, none⟩))]) rfl rfl rfl (wantB_t _) rfl (by decide) (fun hp hS => (hS.conv (t := 36) rfl (cond_t hp)).sub (ts := [36]) rfl) (fun hp => Ob_load tRe3 rfl rfl rfl ((H.bx 0 rfl).cell 9 rfl)) ?_; clear Z a; intro a Z
 refine g_ob Z (p := ((((a0.k == 4) && ((a0.stamps.length : Int) == 1)) && ((a0.stamps.getD (0 : Int).toNat default) == 5)) && ((f.entries.length : Int) == 1))) (v := .bool (f.p == 2)) (S' := [(37, .int .i64 f.p)]) rfl rfl rfl (wantB_t _) rfl (by decide) (fun hp hS => (hS.conv (t := 37) rfl (cond_t hp)).sub (ts := [37]) rfl) (fun hp => Ob_c tRe3 rfl) ?_; clear Z a; intro a Z
 refine s_ob Z (v := .bool (((((a0.k == 4) && ((a0.stamps.length : Int) == 1)) && ((a0.stamps.getD (0 : Int).toNat default) == 5)) && ((f.entries.length : Int) == 1)) && (f.p == 2))) rfl rfl (by decide) rfl (Ob_pick rfl rfl rfl rfl (pick_and _ _)) ?_; clear Z a; intro a Z
 refine s_runk tRe3 Z 1 rfl rfl ?_; clear Z a; intro a Z
 refine g_ob Z (p := (((((a0.k == 4) && ((a0.stamps.length : Int) == 1)) && ((a0.stamps.getD (0 : Int).toNat default) == 5)) && ((f.entries.length : Int) == 1)) && (f.p == 2))) (v := .pointer (some ⟨b3, 5, none⟩)) (S' := [(3, .pointer (some ⟨b3, 0, none⟩))]) rfl rfl rfl (wantB_t _) rfl (by decide) (fun hp hS => hS.sub (ts := [3]) rfl) (fun hp => Ob_c tRe3 rfl) ?_; clear Z a; intro a Z
 refine g_ob Z (p := (((((a0.k == 4) && ((a0.stamps.length : Int) == 1)) && ((a0.stamps.getD (0 : Int).toNat default) == 5)) && ((f.entries.length : Int) == 1)) && (f.p == 2))) (v := .int .u64 f.at_) (S' := [(41, .pointer (some ⟨b3, 5, none⟩))]) rfl rfl rfl (wantB_t _) rfl (by decide) (fun hp hS => (hS.conv (t := 41) rfl (cond_t hp)).sub (ts := [41]) rfl) (fun hp => Ob_load tRe3 rfl rfl rfl ((H.bx 0 rfl).cell 5 rfl)) ?_; clear Z a; intro a Z
 refine g_ob Z (p := (((((a0.k == 4) && ((a0.stamps.length : Int) == 1)) && ((a0.stamps.getD (0 : Int).toNat default) == 5)) && ((f.entries.length : Int) == 1)) && (f.p == 2))) (v := .bool (f.at_ == 9)) (S' := [(42, .int .u64 f.at_)]) rfl rfl rfl (wantB_t _) rfl (by decide) (fun hp hS => (hS.conv (t := 42) rfl (cond_t hp)).sub (ts := [42]) rfl) (fun hp => Ob_c tRe3 rfl) ?_; clear Z a; intro a Z
 refine s_ob Z (v := .bool ((((((a0.k == 4) && ((a0.stamps.length : Int) == 1)) && ((a0.stamps.getD (0 : Int).toNat default) == 5)) && ((f.entries.length : Int) == 1)) && (f.p == 2)) && (f.at_ == 9))) rfl rfl (by decide) rfl (Ob_pick rfl rfl rfl rfl (pick_and _ _)) ?_; clear Z a; intro a Z
 refine s_runk tRe3 Z 1 rfl rfl ?_; clear Z a; intro a Z
 refine s_end Z [0] rfl ?_; clear Z; intro Z
 refine p_then (wp_ret ?_)
 obtain rfl := some_in hF
 exact f_ret Z (run_results1 rfl Z rfl) ⟨rfl, I3, (H.sub [] rfl).eq rfl⟩

def F_ref08_Stamped_l1 (l : List EEntry) (rc : Int → Option Int) (sg : Int) : Option Int := match sg with | i => if (decide (i < (l.length : Int))) = true then (chk ((0 : Int) ≤ i ∧ i < (l.length : Int)) (if (((l.getD (i).toNat default).ts) == 0) = true then (some i) else (chk (inI (i + 1)) (rc (i + 1))))) else (some (l.length : Int))

def F_ref08_Stamped (l : List EEntry) : Option Int := iter (F_ref08_Stamped_l1 l) FU 0

set_option maxHeartbeats 1000000 in
theorem c_ref08_Stamped {I D : Dm} {l : List EEntry} {v1_l : Value} {w : World} {rr : Int} (hF : F_ref08_Stamped l = some rr) (H : St I D w [SlC NEEntry v1_l l]) :
  Calls Try.prog 25 #[v1_l] w (Ret fun vv w' => vv = .int .i64 rr ∧ ∃ I', Hf I D w I' w' []) := by
 replace H := H.hf
 unfold F_ref08_Stamped at hF
 refine f_enter 19 Try.func25 rfl rfl (Nat.le_of_ble_eq_true rfl) fun a Z => ?_
 replace Z := Z.sub (ts := [0]) rfl
 refine wp_seq (f_region Z ?_); clear Z; intro Z
 refine s_runk tRe3 Z 1 rfl rfl ?_; clear Z a; intro a Z
 refine s_end Z [0] rfl ?_; clear Z; intro Z
 refine p_then (wp_seq ?_)
 refine wp_seq (f_region Z ?_); clear Z; intro Z
 refine s_runk tRe3 Z 1 rfl rfl ?_; clear Z a; intro a Z
 refine s_end Z [0, 3] rfl ?_; clear Z; intro Z
 refine p_then (wp_block ?_)
 refine f_iter hF (fun sg a' w' => match sg with | i => Sl 19 [(0, v1_l), (3, .int .i64 i)] a' ∧ ∃ I2, Hf I D w I2 w' [SlC NEEntry v1_l l]) ⟨Z.sub (ts := [0, 3]) rfl, ⟨I, (H.sub [(0, true)] rfl).eq rfl⟩⟩ ?_
 clear Z H hF a
 rintro rc i a w1 ⟨Z, I1, H⟩ hF
 unfold F_ref08_Stamped_l1 at hF
 try dsimp only at hF
 refine wp_seq ?_
 refine wp_seq (f_region Z ?_); clear Z; intro Z
 refine s_runk tRe3 Z 2 rfl rfl ?_; clear Z a; intro a Z
 refine s_ob Z (v := .int .i64 (l.length : Int)) rfl rfl (by decide) rfl (Ob_slen tRe3 rfl rfl rfl (H.slshape 0 rfl)) ?_; clear Z a; intro a Z
 refine s_runk tRe3 Z 1 rfl rfl ?_; clear Z a; intro a Z
 refine s_end Z [0, 3, 7] rfl ?_; clear Z; intro Z
 refine p_then ?_
 refine f_cond Z rfl (fun hc1 => ?_) (fun hc1 => ?_)
 ·replace hF := ite_t hc1 hF
  refine wp_skip ?_
  refine p_then (wp_seq ?_)
  refine wp_block ?_
  refine wp_seq ?_
  obtain ⟨hg1, hF⟩ := chk_in hF
  refine f_region Z ?_; clear Z; intro Z
  refine s_runk tRe3 Z 2 rfl rfl ?_; clear Z a; intro a Z
  refine s_ob Z (v := .pointer (some ⟨blkOf v1_l, oofOf v1_l + (i).toNat * 4, none⟩)) rfl rfl (by decide) rfl (Ob_sidx tRe3 rfl rfl rfl rfl (slPl (H.sl 0 rfl) hg1) hg1) ?_; clear Z a; intro a Z
  refine s_runk tRe3 Z 1 rfl rfl ?_; clear Z a; intro a Z
  obtain ⟨_, ⟨u1, rfl, L1⟩, H⟩ := H.elG 0 rfl (i) (NEEntry.dft _ _)
  replace H := H.addsl L1
  replace H : Hf I D w I1 w1 [SlC NEOp u1 (((l.getD (i).toNat default).batch).ops), AtG ((0 : Int) ≤ i ∧ i < (l.length : Int)) (blkOf v1_l) (oofOf v1_l + (i).toNat * 4) [.int .i64 (((l.getD (i).toNat default).batch).client), .int .i64 (((l.getD (i).toNat default).batch).req), u1, .int .u64 ((l.getD (i).toNat default).ts)], SlC NEEntry v1_l l] := H
  refine s_ob Z (v := .int .u64 ((l.getD (i).toNat default).ts)) rfl rfl (by decide) rfl (Ob_load tRe3 rfl rfl rfl ((H.atg 1 rfl hg1) 3 _ rfl)) ?_; clear Z a; intro a Z
  refine s_runk tRe3 Z 1 rfl rfl ?_; clear Z a; intro a Z
  refine s_end Z [0, 3, 15] rfl ?_; clear Z; intro Z
  refine p_then ?_
  refine f_cond Z rfl (fun hc2 => ?_) (fun hc2 => ?_)
  ·replace hF := ite_t hc2 hF
   refine wp_seq (f_region Z ?_); clear Z; intro Z
   refine s_runk tRe3 Z 2 rfl rfl ?_; clear Z a; intro a Z
   refine s_end Z [2] rfl ?_; clear Z; intro Z
   refine p_then (wp_ret ?_)
   refine p_blk_r ?_
   refine p_then_r ?_
   refine p_then_r ?_
   refine p_blk_r ?_
   refine p_then_r ?_
   obtain rfl := some_in hF
   exact f_ret Z (run_results1 rfl Z rfl) ⟨rfl, I1, (H.sub [] rfl).eq rfl⟩
  ·replace hF := ite_f hc2 hF
   refine wp_skip ?_
   refine p_blk ?_
   refine p_then ?_
   obtain ⟨hg2, hF⟩ := chk_in hF
   refine f_region Z ?_; clear Z; intro Z
   refine s_runk tRe3 Z 1 rfl rfl ?_; clear Z a; intro a Z
   refine s_ob Z (v := .int .i64 (i + 1)) rfl rfl (by decide) rfl (Ob_add rfl rfl rfl (wrI hg2)) ?_; clear Z a; intro a Z
   refine s_runk tRe3 Z 1 rfl rfl ?_; clear Z a; intro a Z
   refine s_end Z [0, 3] rfl ?_; clear Z; intro Z
   refine p_then ?_
   exact ⟨(i + 1), ⟨Z.sub (ts := [0, 3]) rfl, ⟨I1, (H.sub [(2, true)] rfl).eq rfl⟩⟩, hF⟩
 ·replace hF := ite_f hc1 hF
  refine wp_exit ?_
  refine p_then_x ?_
  refine p_then_x ?_
  refine f_exit_here ?_
  refine p_then (wp_seq (f_region Z ?_)); clear Z; intro Z
  refine s_runk tRe3 Z 1 rfl rfl ?_; clear Z a; intro a Z
  refine s_ob Z (v := .int .i64 (l.length : Int)) rfl rfl (by decide) rfl (Ob_slen tRe3 rfl rfl rfl (H.slshape 0 rfl)) ?_; clear Z a; intro a Z
  refine s_runk tRe3 Z 1 rfl rfl ?_; clear Z a; intro a Z
  refine s_end Z [2] rfl ?_; clear Z; intro Z
  refine p_then (wp_ret ?_)
  obtain rfl := some_in hF
  exact f_ret Z (run_results1 rfl Z rfl) ⟨rfl, I1, (H.sub [] rfl).eq rfl⟩

def F_ref08_Last (l : List EEntry) : Option Int := (F_ref08_Stamped l).bind fun s0 => (if (s0 == 0) = true then (some 0) else (chk (inI (s0 - 1)) (chk ((0 : Int) ≤ s0 - 1 ∧ s0 - 1 < (l.length : Int)) (some ((l.getD (s0 - 1).toNat default).ts)))))

set_option maxHeartbeats 1000000 in
theorem c_ref08_Last {I D : Dm} {l : List EEntry} {v1_l : Value} {w : World} {rr : Int} (hF : F_ref08_Last l = some rr) (H : St I D w [SlC NEEntry v1_l l]) :
  Calls Try.prog 27 #[v1_l] w (Ret fun vv w' => vv = .int .u64 rr ∧ ∃ I', Hf I D w I' w' []) := by
 replace H := H.hf
 unfold F_ref08_Last at hF
 refine f_enter 14 Try.func27 rfl rfl (Nat.le_of_ble_eq_true rfl) fun a Z => ?_
 replace Z := Z.sub (ts := [0]) rfl
 refine wp_seq (f_region Z ?_); clear Z; intro Z
 refine s_runk tRe3 Z 1 rfl rfl ?_; clear Z a; intro a Z
 refine s_end Z [0] rfl ?_; clear Z; intro Z
 refine p_then (wp_seq ?_)
 obtain ⟨s0, hx1, hF⟩ := bnd_in hF
 refine f_region Z ?_; clear Z; intro Z
 refine s_runk tRe3 Z 1 rfl rfl ?_; clear Z a; intro a Z
 refine h_call Z H (js := [(0, true)]) rfl (caps := #[]) fn_25_YRe3 rfl rfl rfl rfl rfl (by decide) rfl rfl (fun D1 hS => have hq := c_ref08_Stamped hx1 hS; hq) ?_; clear Z a; intro vv a w1 D2 hr hF2 Z
 obtain ⟨rfl, I1, K⟩ := hr
 have H : Hf I D w I1 w1 [SlC NEEntry v1_l l] := hF2 K
 clear hF2 K
 refine s_runk tRe3 Z 1 rfl rfl ?_; clear Z a; intro a Z
 refine s_end Z [0, 3] rfl ?_; clear Z; intro Z
 refine p_then (wp_seq ?_)
 refine wp_seq (f_region Z ?_); clear Z; intro Z
 refine s_runk tRe3 Z 2 rfl rfl ?_; clear Z a; intro a Z
 refine s_end Z [0, 3, 7] rfl ?_; clear Z; intro Z
 refine p_then ?_
 refine f_cond Z rfl (fun hc1 => ?_) (fun hc1 => ?_)
 ·replace hF := ite_t hc1 hF
  refine wp_seq (f_region Z ?_); clear Z; intro Z
  refine s_runk tRe3 Z 1 rfl rfl ?_; clear Z a; intro a Z
  refine s_end Z [2] rfl ?_; clear Z; intro Z
  refine p_then (wp_ret ?_)
  refine p_then_r ?_
  obtain rfl := some_in hF
  exact f_ret Z (run_results1 rfl Z rfl) ⟨rfl, I1, (H.sub [] rfl).eq rfl⟩
 ·replace hF := ite_f hc1 hF
  refine wp_skip ?_
  refine p_then (wp_seq ?_)
  obtain ⟨hg1, hF⟩ := chk_in hF
  obtain ⟨hg2, hF⟩ := chk_in hF
  refine f_region Z ?_; clear Z; intro Z
  refine s_runk tRe3 Z 2 rfl rfl ?_; clear Z a; intro a Z
  refine s_ob Z (v := .int .i64 (s0 - 1)) rfl rfl (by decide) rfl (Ob_sub rfl rfl rfl (wrI hg1)) ?_; clear Z a; intro a Z
  refine s_ob Z (v := .pointer (some ⟨blkOf v1_l, oofOf v1_l + (s0 - 1).toNat * 4, none⟩)) rfl rfl (by decide) rfl (Ob_sidx tRe3 rfl rfl rfl rfl (slPl (H.sl 0 rfl) hg2) hg2) ?_; clear Z a; intro a Z
  refine s_runk tRe3 Z 1 rfl rfl ?_; clear Z a; intro a Z
  obtain ⟨_, ⟨u1, rfl, L1⟩, H⟩ := H.elG 0 rfl (s0 - 1) (NEEntry.dft _ _)
  replace H := H.addsl L1
  replace H : Hf I D w I1 w1 [SlC NEOp u1 (((l.getD (s0 - 1).toNat default).batch).ops), AtG ((0 : Int) ≤ s0 - 1 ∧ s0 - 1 < (l.length : Int)) (blkOf v1_l) (oofOf v1_l + (s0 - 1).toNat * 4) [.int .i64 (((l.getD (s0 - 1).toNat default).batch).client), .int .i64 (((l.getD (s0 - 1).toNat default).batch).req), u1, .int .u64 ((l.getD (s0 - 1).toNat default).ts)], SlC NEEntry v1_l l] := H
  refine s_ob Z (v := .int .u64 ((l.getD (s0 - 1).toNat default).ts)) rfl rfl (by decide) rfl (Ob_load tRe3 rfl rfl rfl ((H.atg 1 rfl hg2) 3 _ rfl)) ?_; clear Z a; intro a Z
  refine s_runk tRe3 Z 1 rfl rfl ?_; clear Z a; intro a Z
  refine s_end Z [2] rfl ?_; clear Z; intro Z
  refine p_then (wp_ret ?_)
  obtain rfl := some_in hF
  exact f_ret Z (run_results1 rfl Z rfl) ⟨rfl, I1, (H.sub [] rfl).eq rfl⟩

def F_ref17_Log_Stamp (l : Eref17_Log) (i : Int) (ts : Int) : Option (Int × Eref17_Log) := if ((decide (i < 0)) || (decide (i ≥ (l.l.length : Int)))) = true then (some (1, l)) else (if (ts == 0) = true then (some (5, l)) else ((F_ref08_Stamped l.l).bind fun s0 => ((gif (!(i != s0)) (F_ref08_Last l.l) default).bind fun l_2 => (if ((i != s0) || (decide (ts ≤ l_2))) = true then (some (18, l)) else ((F_ref17_Copy l.l).bind fun c => (chk ((0 : Int) ≤ i ∧ i < (c.length : Int)) (some (0, ({ l := c.set (i).toNat ({ batch := ({ client := ((c.getD (i).toNat default).batch).client, req := ((c.getD (i).toNat default).batch).req, ops := ((c.getD (i).toNat default).batch).ops } : EBatch), ts := ts } : EEntry) } : Eref17_Log)))))))))

set_option maxHeartbeats 1000000 in
theorem c_ref17_Log_Stamp {I D : Dm} {b_l : Nat} {l : Eref17_Log} {i : Int} {ts : Int} {w : World} {rr : Int × Eref17_Log} (hF : F_ref17_Log_Stamp l i ts = some rr) (H : St I D w [OEref17_Log b_l l]) :
  Calls Try.prog 51 #[.pointer (some ⟨b_l, 0, none⟩), .int .i64 i, .int .u64 ts] w (Ret fun vv w' => vv = .int .i64 rr.1 ∧ ∃ I', Hf I D w I' w' [OEref17_Log b_l rr.2]) := by
 replace H := H.hf
 unfold F_ref17_Log_Stamp at hF
 refine f_enter 51 Try.func51 rfl rfl (Nat.le_of_ble_eq_true rfl) fun a Z => ?_
 replace Z := Z.sub (ts := [0, 1, 2]) rfl
 refine wp_seq (f_region Z ?_); clear Z; intro Z
 refine s_runk tRe3 Z 1 rfl rfl ?_; clear Z a; intro a Z
 refine s_end Z [0, 1, 2] rfl ?_; clear Z; intro Z
 refine p_then (wp_seq ?_)
 refine wp_seq (f_region Z ?_); clear Z; intro Z
 refine s_runk tRe3 Z 3 rfl rfl ?_; clear Z a; intro a Z
 refine g_ob Z (p := (!(decide (i < 0)))) (v := .int .i64 i) (S' := [(1, .int .i64 i)]) rfl rfl rfl (wantB_f _) rfl (by decide) (fun hp hS => hS.sub (ts := [1]) rfl) (fun hp => Ob_c tRe3 rfl) ?_; clear Z a; intro a Z
 refine g_ob Z (p := (!(decide (i < 0)))) (v := .pointer (some ⟨b_l, 0, none⟩)) (S' := [(0, .pointer (some ⟨b_l, 0, none⟩))]) rfl rfl rfl (wantB_f _) rfl (by decide) (fun hp hS => hS.sub (ts := [0]) rfl) (fun hp => Ob_c tRe3 rfl) ?_; clear Z a; intro a Z
 refine g_ob Z (p := (!(decide (i < 0)))) (v := .pointer (some ⟨b_l, 0, none⟩)) (S' := [(12, .pointer (some ⟨b_l, 0, none⟩))]) rfl rfl rfl (wantB_f _) rfl (by decide) (fun hp hS => (hS.conv (t := 12) rfl (cond_t hp)).sub (ts := [12]) rfl) (fun hp => Ob_c tRe3 rfl) ?_; clear Z a; intro a Z
 refine g_ob Z (p := (!(decide (i < 0)))) (v := .pointer (some ⟨b_l, 0, none⟩)) (S' := [(13, .pointer (some ⟨b_l, 0, none⟩))]) rfl rfl rfl (wantB_f _) rfl (by decide) (fun hp hS => (hS.conv (t := 13) rfl (cond_t hp)).sub (ts := [13]) rfl) (fun hp => Ob_c tRe3 rfl) ?_; clear Z a; intro a Z
 obtain ⟨v1, H⟩ := H.openX 0 rfl
 replace H : Hf I D w I w [BxC b_l 90 [v1], OwC NEEntry 57 v1 l.l] := H
 refine g_ob Z (p := (!(decide (i < 0)))) (v := v1) (S' := [(14, .pointer (some ⟨b_l, 0, none⟩))]) rfl rfl rfl (wantB_f _) rfl (by decide) (fun hp hS => (hS.conv (t := 14) rfl (cond_t hp)).sub (ts := [14]) rfl) (fun hp => Ob_load tRe3 rfl rfl rfl ((H.bx 0 rfl).cell 0 rfl)) ?_; clear Z a; intro a Z
 refine g_ob Z (p := (!(decide (i < 0)))) (v := .int .i64 (l.l.length : Int)) (S' := [(15, v1)]) rfl rfl rfl (wantB_f _) rfl (by decide) (fun hp hS => (hS.conv (t := 15) rfl (cond_t hp)).sub (ts := [15]) rfl) (fun hp => Ob_slen tRe3 rfl rfl rfl (H.owshape 1 rfl)) ?_; clear Z a; intro a Z
 refine g_ob Z (p := (!(decide (i < 0)))) (v := .bool (decide (i ≥ (l.l.length : Int)))) (S' := [(11, .int .i64 i), (16, .int .i64 (l.l.length : Int))]) rfl rfl rfl (wantB_f _) rfl (by decide) (fun hp hS => ((hS.conv (t := 11) rfl (cond_t hp)).conv (t := 16) rfl (cond_t hp)).sub (ts := [11, 16]) rfl) (fun hp => Ob_c tRe3 rfl) ?_; clear Z a; intro a Z
 refine s_ob Z (v := .bool ((decide (i < 0)) || (decide (i ≥ (l.l.length : Int))))) rfl rfl (by decide) rfl (Ob_pick rfl rfl rfl rfl (pick_or _ _)) ?_; clear Z a; intro a Z
 refine s_end Z [0, 1, 2, 18] rfl ?_; clear Z; intro Z
 refine p_then ?_
 refine f_cond Z rfl (fun hc1 => ?_) (fun hc1 => ?_)
 ·replace hF := ite_t hc1 hF
  refine wp_seq (f_region Z ?_); clear Z; intro Z
  refine s_runk tRe3 Z 1 rfl rfl ?_; clear Z a; intro a Z
  refine s_end Z [6] rfl ?_; clear Z; intro Z
  refine p_then (wp_ret ?_)
  refine p_then_r ?_
  replace H : Hf I D w I w [OEref17_Log b_l l] := H.shutX (v1) [(0, false), (0, false)] rfl
  obtain rfl := some_in hF
  exact f_ret Z (run_results1 rfl Z rfl) ⟨rfl, I, (H.sub [(0, false)] rfl).eq rfl⟩
 ·replace hF := ite_f hc1 hF
  refine wp_skip ?_
  refine p_then (wp_seq ?_)
  refine wp_seq (f_region Z ?_); clear Z; intro Z
  refine s_runk tRe3 Z 2 rfl rfl ?_; clear Z a; intro a Z
  refine s_end Z [0, 1, 2, 20] rfl ?_; clear Z; intro Z
  refine p_then ?_
  refine f_cond Z rfl (fun hc2 => ?_) (fun hc2 => ?_)
  ·replace hF := ite_t hc2 hF
   refine wp_seq (f_region Z ?_); clear Z; intro Z
   refine s_runk tRe3 Z 1 rfl rfl ?_; clear Z a; intro a Z
   refine s_end Z [6] rfl ?_; clear Z; intro Z
   refine p_then (wp_ret ?_)
   refine p_then_r ?_
   replace H : Hf I D w I w [OEref17_Log b_l l] := H.shutX (v1) [(0, false), (0, false)] rfl
   obtain rfl := some_in hF
   exact f_ret Z (run_results1 rfl Z rfl) ⟨rfl, I, (H.sub [(0, false)] rfl).eq rfl⟩
  ·replace hF := ite_f hc2 hF
   refine wp_skip ?_
   refine p_then (wp_seq ?_)
   refine wp_seq ?_
   obtain ⟨s0, hx1, hF⟩ := bnd_in hF
   obtain ⟨l_2, hx2, hF⟩ := bnd_in hF
   refine f_region Z ?_; clear Z; intro Z
   refine s_runk tRe3 Z 4 rfl rfl ?_; clear Z a; intro a Z
   refine s_ob Z (v := v1) rfl rfl (by decide) rfl (Ob_load tRe3 rfl rfl rfl ((H.bx 0 rfl).cell 0 rfl)) ?_; clear Z a; intro a Z
   refine s_call Z (caps := #[]) fn_25_YRe3 rfl rfl rfl rfl rfl (by decide) rfl rfl (have hq := c_ref08_Stamped hx1 (stS (H.owA 1 rfl) (stB _)); plainC hq) ?_; clear Z a; rintro _ a w1 ⟨rfl, hb⟩ Z
   replace H : Hf I D w I w1 [BxC b_l 90 [v1], OwC NEEntry 57 v1 l.l] := H.blw hb
   clear hb
   refine s_runk tRe3 Z 2 rfl rfl ?_; clear Z a; intro a Z
   refine g_ob Z (p := (!(i != s0))) (v := .int .u64 ts) (S' := [(2, .int .u64 ts)]) rfl rfl rfl (wantB_f _) rfl (by decide) (fun hp hS => hS.sub (ts := [2]) rfl) (fun hp => Ob_c tRe3 rfl) ?_; clear Z a; intro a Z
   refine g_ob Z (p := (!(i != s0))) (v := .pointer (some ⟨b_l, 0, none⟩)) (S' := [(0, .pointer (some ⟨b_l, 0, none⟩))]) rfl rfl rfl (wantB_f _) rfl (by decide) (fun hp hS => hS.sub (ts := [0]) rfl) (fun hp => Ob_c tRe3 rfl) ?_; clear Z a; intro a Z
   refine g_ob Z (p := (!(i != s0))) (v := .pointer (some ⟨b_l, 0, none⟩)) (S' := [(30, .pointer (some ⟨b_l, 0, none⟩))]) rfl rfl rfl (wantB_f _) rfl (by decide) (fun hp hS => (hS.conv (t := 30) rfl (cond_t hp)).sub (ts := [30]) rfl) (fun hp => Ob_c tRe3 rfl) ?_; clear Z a; intro a Z
   refine g_ob Z (p := (!(i != s0))) (v := .pointer (some ⟨b_l, 0, none⟩)) (S' := [(31, .pointer (some ⟨b_l, 0, none⟩))]) rfl rfl rfl (wantB_f _) rfl (by decide) (fun hp hS => (hS.conv (t := 31) rfl (cond_t hp)).sub (ts := [31]) rfl) (fun hp => Ob_c tRe3 rfl) ?_; clear Z a; intro a Z
   refine g_ob Z (p := (!(i != s0))) (v := v1) (S' := [(32, .pointer (some ⟨b_l, 0, none⟩))]) rfl rfl rfl (wantB_f _) rfl (by decide) (fun hp hS => (hS.conv (t := 32) rfl (cond_t hp)).sub (ts := [32]) rfl) (fun hp => Ob_load tRe3 rfl rfl rfl ((H.bx 0 rfl).cell 0 rfl)) ?_; clear Z a; intro a Z
   refine g_call Z (p := (!(i != s0))) (v := .int .u64 l_2) (S' := [(33, v1)]) (caps := #[]) fn_27_YRe3 rfl rfl rfl (wantB_f _) rfl (by decide) (fun hp hS => (hS.conv (t := 33) rfl (cond_t hp)).sub (ts := [33]) rfl) rfl rfl rfl rfl (fun hp => (have hq := c_ref08_Last (gif_in hx2 hp) (stS (H.owA 1 rfl) (stB _)); plainC hq)) ?_; clear Z a; intro a w2 hb Z
   replace H : Hf I D w I w2 [BxC b_l 90 [v1], OwC NEEntry 57 v1 l.l] := H.blw hb
   clear hb
   refine g_ob Z (p := (!(i != s0))) (v := .bool (decide (ts ≤ l_2))) (S' := [(29, .int .u64 ts), (34, .int .u64 l_2)]) rfl rfl rfl (wantB_f _) rfl (by decide) (fun hp hS => ((hS.conv (t := 29) rfl (cond_t hp)).conv (t := 34) rfl (cond_t hp)).sub (ts := [29, 34]) rfl) (fun hp => Ob_c tRe3 rfl) ?_; clear Z a; intro a Z
   refine s_ob Z (v := .bool ((i != s0) || (decide (ts ≤ l_2)))) rfl rfl (by decide) rfl (Ob_pick rfl rfl rfl rfl (pick_or _ _)) ?_; clear Z a; intro a Z
   refine s_end Z [0, 1, 2, 36] rfl ?_; clear Z; intro Z
   refine p_then ?_
   refine f_cond Z rfl (fun hc3 => ?_) (fun hc3 => ?_)
   ·replace hF := ite_t hc3 hF
    refine wp_seq (f_region Z ?_); clear Z; intro Z
    refine s_runk tRe3 Z 1 rfl rfl ?_; clear Z a; intro a Z
    refine s_end Z [6] rfl ?_; clear Z; intro Z
    refine p_then (wp_ret ?_)
    refine p_then_r ?_
    replace H : Hf I D w I w2 [OEref17_Log b_l l] := H.shutX (v1) [(0, false), (0, false)] rfl
    obtain rfl := some_in hF
    exact f_ret Z (run_results1 rfl Z rfl) ⟨rfl, I, (H.sub [(0, false)] rfl).eq rfl⟩
   ·replace hF := ite_f hc3 hF
    refine wp_skip ?_
    refine p_then (wp_seq ?_)
    obtain ⟨c, hx3, hF⟩ := bnd_in hF
    refine f_region Z ?_; clear Z; intro Z
    refine s_runk tRe3 Z 3 rfl rfl ?_; clear Z a; intro a Z
    refine s_ob Z (v := v1) rfl rfl (by decide) rfl (Ob_load tRe3 rfl rfl rfl ((H.bx 0 rfl).cell 0 rfl)) ?_; clear Z a; intro a Z
    obtain ⟨I1, _, H⟩ := H.frzow 1 rfl
    replace H : Hf I D w I1 w2 [SlC NEEntry v1 l.l, BxC b_l 90 [v1]] := H
    refine h_call Z H (js := [(0, true)]) rfl (caps := #[]) fn_49_YRe3 rfl rfl rfl rfl rfl (by decide) rfl rfl (fun D1 hS => have hq := c_ref17_Copy hx3 hS; hq) ?_; clear Z a; intro vv a w3 D2 hr hF2 Z
    obtain ⟨q1, hvv, I2, K⟩ := hr; obtain rfl := hvv.symm
    have H : Hf I D w I2 w3 [OwC NEEntry 57 q1 c, SlC NEEntry v1 l.l, BxC b_l 90 [v1]] := hF2 K
    clear hF2 K
    refine s_runk tRe3 Z 1 rfl rfl ?_; clear Z a; intro a Z
    refine s_end Z [0, 1, 2, 7] rfl ?_; clear Z; intro Z
    refine p_then (wp_seq ?_)
    obtain ⟨hg1, hF⟩ := chk_in hF
    refine f_region Z ?_; clear Z; intro Z
    refine s_runk tRe3 Z 3 rfl rfl ?_; clear Z a; intro a Z
    refine s_ob Z (v := .pointer (some ⟨blkOf q1, oofOf q1 + (i).toNat * 4, none⟩)) rfl rfl (by decide) rfl (Ob_sidx tRe3 rfl rfl rfl rfl (slPl (H.owA 0 rfl) hg1) hg1) ?_; clear Z a; intro a Z
    refine s_runk tRe3 Z 1 rfl rfl ?_; clear Z a; intro a Z
    refine h_setR tRe3 Z H 0 (z := i) (d := default) 3 ({ batch := ({ client := ((c.getD (i).toNat default).batch).client, req := ((c.getD (i).toNat default).batch).req, ops := ((c.getD (i).toNat default).batch).ops } : EBatch), ts := ts } : EEntry) rfl hg1 rfl rfl rfl 4 rfl rfl rfl rfl rfl (by decide) (fun cl ⟨s0_, e, h0_⟩ => ⟨s0_, by rw [e]; rfl, h0_⟩) ?_; clear H; intro w5 H
    dsimp only [List.eraseIdx] at H
    refine s_end Z [0, 7] rfl ?_; clear Z; intro Z
    refine p_then (wp_seq (f_region Z ?_)); clear Z; intro Z
    refine s_runk tRe3 Z 4 rfl rfl ?_; clear Z a; intro a Z
    refine h_store tRe3 Z H 2 rfl rfl rfl rfl rfl rfl (slS.cells (H.owshape 0 rfl)) rfl rfl (one_cons (slS.one (H.owshape 0 rfl)) one_nil) (Nat.le_of_ble_eq_true rfl) rfl ?_; clear H; intro w6 H
    dsimp only [List.eraseIdx] at H
    refine s_end Z [] rfl ?_; clear Z; intro Z
    refine p_then (wp_seq (f_region Z ?_)); clear Z; intro Z
    refine s_runk tRe3 Z 1 rfl rfl ?_; clear Z a; intro a Z
    refine s_end Z [6] rfl ?_; clear Z; intro Z
    refine p_then (wp_ret ?_)
    replace H : Hf I D w I2 w6 [OEref17_Log b_l ({ l := c.set (i).toNat ({ batch := ({ client := ((c.getD (i).toNat default).batch).client, req := ((c.getD (i).toNat default).batch).req, ops := ((c.getD (i).toNat default).batch).ops } : EBatch), ts := ts } : EEntry) } : Eref17_Log), SlC NEEntry v1 l.l] := H.shutX (q1) [(0, false), (0, false)] rfl
    obtain rfl := some_in hF
    exact f_ret Z (run_results1 rfl Z rfl) ⟨rfl, I2, (H.sub [(0, false)] rfl).eq rfl⟩

def F_law32_laid_k2 (i : Int) (rc : (Int × Eref17_Log) → Option ((List EEntry) × Bool)) (e : Int) (x_2 : Eref17_Log) : Option ((List EEntry) × Bool) := if (e != 0) = true then (some (([] : List EEntry), false)) else (chk (inI (i + 1)) (rc (i + 1, x_2)))

def F_law32_laid_l1 (m : List ENote) (rc : (Int × Eref17_Log) → Option ((List EEntry) × Bool)) (sg : Int × Eref17_Log) : Option ((List EEntry) × Bool) := match sg with | (i, x) => if (decide (i < (m.length : Int))) = true then (chk ((0 : Int) ≤ i ∧ i < (m.length : Int)) (if (((m.getD (i).toNat default).k) == 2) = true then (chk ((0 : Int) ≤ i ∧ i < (m.length : Int)) (chk ((0 : Int) ≤ i ∧ i < (m.length : Int)) ((F_ref17_Log_Set x ((m.getD (i).toNat default).n) ({ batch := ({ client := (((m.getD (i).toNat default).entry).batch).client, req := (((m.getD (i).toNat default).entry).batch).req, ops := (((m.getD (i).toNat default).entry).batch).ops } : EBatch), ts := ((m.getD (i).toNat default).entry).ts } : EEntry)).bind fun s0 => (F_law32_laid_k2 i rc s0.1 s0.2)))) else (chk ((0 : Int) ≤ i ∧ i < (m.length : Int)) (chk ((0 : Int) ≤ i ∧ i < (m.length : Int)) ((F_ref17_Log_Stamp x ((m.getD (i).toNat default).n) ((m.getD (i).toNat default).at_)).bind fun s0_2 => (F_law32_laid_k2 i rc s0_2.1 s0_2.2)))))) else (some (x.l, true))

def F_law32_laid (l : List EEntry) (m : List ENote) : Option ((List EEntry) × Bool) := (F_ref17_Copy l).bind fun c => (iter (F_law32_laid_l1 m) FU (0, ({ l := c } : Eref17_Log)))

set_option maxHeartbeats 1000000 in
theorem c_law32_laid {I D : Dm} {l : List EEntry} {v1_l : Value} {m : List ENote} {v2_m : Value} {w : World} {rr : (List EEntry) × Bool} (hF : F_law32_laid l m = some rr) (H : St I D w [SlC NEEntry v1_l l, SlC NENote v2_m m]) :
  Calls Try.prog 23 #[v1_l, v2_m] w (Ret fun vv w' => ∃ q1 : Value, vv = .tuple #[q1, .bool rr.2] ∧ ∃ I', Hf I D w I' w' [SlC NEEntry q1 rr.1]) := by
 replace H := H.hf
 unfold F_law32_laid at hF
 refine f_enter 55 Try.func23 rfl rfl (Nat.le_of_ble_eq_true rfl) fun a Z => ?_
 replace Z := Z.sub (ts := [0, 1]) rfl
 refine wp_seq (f_region Z ?_); clear Z; intro Z
 refine s_runk tRe3 Z 2 rfl rfl ?_; clear Z a; intro a Z
 refine s_end Z [0, 1] rfl ?_; clear Z; intro Z
 refine p_then (wp_seq ?_)
 obtain ⟨c, hx1, hF⟩ := bnd_in hF
 refine f_region Z ?_; clear Z; intro Z
 refine s_runk tRe3 Z 1 rfl rfl ?_; clear Z a; intro a Z
 refine h_call Z H (js := [(0, true)]) rfl (caps := #[]) fn_49_YRe3 rfl rfl rfl rfl rfl (by decide) rfl rfl (fun D1 hS => have hq := c_ref17_Copy hx1 hS; hq) ?_; clear Z a; intro vv a w1 D2 hr hF2 Z
 obtain ⟨q1, hvv, I1, K⟩ := hr; obtain rfl := hvv.symm
 have H : Hf I D w I1 w1 [OwC NEEntry 57 q1 c, SlC NEEntry v1_l l, SlC NENote v2_m m] := hF2 K
 clear hF2 K
 refine s_ob Z (v := .agg #[q1]) rfl rfl (by decide) rfl (Ob_build (vs := [(0, q1)]) rfl rfl (by obtain ⟨_, _, e, _⟩ := (H.owshape 0 rfl); rw [e]; clear e; go_simp <;> rfl)) ?_; clear Z a; intro a Z
 refine h_boxv Z H (cl := [q1]) rfl rfl rfl (by decide) rfl rfl rfl ?_; clear Z a H; intro a w2 b1 H Z
 refine s_runk tRe3 Z 1 rfl rfl ?_; clear Z a; intro a Z
 refine s_end Z [1, 6] rfl ?_; clear Z; intro Z
 refine p_then (wp_seq ?_)
 refine wp_seq (f_region Z ?_); clear Z; intro Z
 refine s_runk tRe3 Z 1 rfl rfl ?_; clear Z a; intro a Z
 refine s_end Z [1, 6, 7] rfl ?_; clear Z; intro Z
 refine p_then (wp_block ?_)
 replace H : Hf I D w I1 w2 [OEref17_Log b1 ({ l := c } : Eref17_Log), SlC NEEntry v1_l l, SlC NENote v2_m m] := H.shutX (q1) [(0, false), (0, false)] rfl
 refine f_iter hF (fun sg a' w' => match sg with | (i, x) => Sl 55 [(1, v2_m), (6, .pointer (some ⟨b1, 0, none⟩)), (7, .int .i64 i)] a' ∧ ∃ I2, Hf I D w I2 w' [OEref17_Log b1 x, SlC NENote v2_m m]) ⟨Z.sub (ts := [1, 6, 7]) rfl, ⟨I1, (H.sub [(0, false), (1, true)] rfl).eq rfl⟩⟩ ?_
 clear Z H hF a
 rintro rc ⟨i, x⟩ a w3 ⟨Z, I2, H⟩ hF
 unfold F_law32_laid_l1 at hF
 try dsimp only at hF
 refine wp_seq ?_
 refine wp_seq (f_region Z ?_); clear Z; intro Z
 refine s_runk tRe3 Z 2 rfl rfl ?_; clear Z a; intro a Z
 refine s_ob Z (v := .int .i64 (m.length : Int)) rfl rfl (by decide) rfl (Ob_slen tRe3 rfl rfl rfl (H.slshape 1 rfl)) ?_; clear Z a; intro a Z
 refine s_runk tRe3 Z 1 rfl rfl ?_; clear Z a; intro a Z
 refine s_end Z [1, 6, 7, 16] rfl ?_; clear Z; intro Z
 refine p_then ?_
 refine f_cond Z rfl (fun hc1 => ?_) (fun hc1 => ?_)
 ·replace hF := ite_t hc1 hF
  refine wp_skip ?_
  refine p_then (wp_seq ?_)
  refine wp_block ?_
  refine wp_seq (f_region Z ?_); clear Z; intro Z
  refine s_runk tRe3 Z 1 rfl rfl ?_; clear Z a; intro a Z
  refine s_end Z [1, 6, 7] rfl ?_; clear Z; intro Z
  refine p_then ?_
  refine f_cut (fun a' w' => ∃ (e : Int) (x_2 : Eref17_Log), Sl 55 [(1, v2_m), (6, .pointer (some ⟨b1, 0, none⟩)), (7, .int .i64 i), (8, .int .i64 e)] a' ∧ (∃ I2, Hf I D w I2 w' [OEref17_Log b1 x_2, SlC NENote v2_m m]) ∧ F_law32_laid_k2 i rc e x_2 = some rr) ?_ ?_
  ·rintro a w4 ⟨e, x_2, Z, ⟨I3, H⟩, hF⟩
   unfold F_law32_laid_k2 at hF
   try dsimp only at hF
   refine wp_seq (f_region Z ?_); clear Z; intro Z
   refine s_runk tRe3 Z 2 rfl rfl ?_; clear Z a; intro a Z
   refine s_end Z [1, 6, 7, 50] rfl ?_; clear Z; intro Z
   refine p_then ?_
   refine f_cond Z rfl (fun hc2 => ?_) (fun hc2 => ?_)
   ·replace hF := ite_t hc2 hF
    refine wp_seq (f_region Z ?_); clear Z; intro Z
    refine s_runk tRe3 Z 2 rfl rfl ?_; clear Z a; intro a Z
    refine s_end Z [4, 5] rfl ?_; clear Z; intro Z
    refine p_then (wp_ret ?_)
    refine p_blk_r ?_
    refine p_then_r ?_
    refine p_then_r ?_
    refine p_blk_r ?_
    refine p_then_r ?_
    replace H : Hf I D w I3 w4 [SlC NEEntry (.slice none 0 0) ([] : List EEntry), OEref17_Log b1 x_2, SlC NENote v2_m m] := H.slNil NEEntry
    obtain rfl := some_in hF
    exact f_ret Z (run_results2 rfl Z rfl rfl) ⟨.slice none 0 0, rfl, I3, (H.sub [(0, true)] rfl).eq rfl⟩
   ·replace hF := ite_f hc2 hF
    refine wp_skip ?_
    refine p_blk ?_
    refine p_then ?_
    obtain ⟨hg1, hF⟩ := chk_in hF
    refine f_region Z ?_; clear Z; intro Z
    refine s_runk tRe3 Z 1 rfl rfl ?_; clear Z a; intro a Z
    refine s_ob Z (v := .int .i64 (i + 1)) rfl rfl (by decide) rfl (Ob_add rfl rfl rfl (wrI hg1)) ?_; clear Z a; intro a Z
    refine s_runk tRe3 Z 1 rfl rfl ?_; clear Z a; intro a Z
    refine s_end Z [1, 6, 7] rfl ?_; clear Z; intro Z
    refine p_then ?_
    exact ⟨(i + 1, x_2), ⟨Z.sub (ts := [1, 6, 7]) rfl, ⟨I3, (H.sub [(0, false), (0, true)] rfl).eq rfl⟩⟩, hF⟩
  ·skip
   refine wp_seq ?_
   obtain ⟨hg2, hF⟩ := chk_in hF
   refine f_region Z ?_; clear Z; intro Z
   refine s_runk tRe3 Z 2 rfl rfl ?_; clear Z a; intro a Z
   refine s_ob Z (v := .pointer (some ⟨blkOf v2_m, oofOf v2_m + (i).toNat * 18, none⟩)) rfl rfl (by decide) rfl (Ob_sidx tRe3 rfl rfl rfl rfl (slPl (H.sl 1 rfl) hg2) hg2) ?_; clear Z a; intro a Z
   refine s_runk tRe3 Z 1 rfl rfl ?_; clear Z a; intro a Z
   obtain ⟨_, ⟨u1, u2, u3, rfl, L1, L2, L3⟩, H⟩ := H.elG 1 rfl (i) (NENote.dft _ _)
   replace H := H.addsl L1
   replace H := H.addsl L2
   replace H := H.addsl L3
   replace H : Hf I D w I2 w3 [SlC NEOp u3 ((((m.getD (i).toNat default).entry).batch).ops), SlC Ni64 u2 ((m.getD (i).toNat default).legit), SlC NEMember u1 (((m.getD (i).toNat default).conf).members), AtG ((0 : Int) ≤ i ∧ i < (m.length : Int)) (blkOf v2_m) (oofOf v2_m + (i).toNat * 18) [.int .i64 ((m.getD (i).toNat default).k), .int .i64 ((m.getD (i).toNat default).n), .int .u64 ((m.getD (i).toNat default).at_), .int .i64 (((m.getD (i).toNat default).conf).epoch), u1, .int .u64 (((m.getD (i).toNat default).conf).floor), u2, .int .i64 ((((m.getD (i).toNat default).entry).batch).client), .int .i64 ((((m.getD (i).toNat default).entry).batch).req), u3, .int .u64 (((m.getD (i).toNat default).entry).ts), .int .i64 (((m.getD (i).toNat default).pin).id), .int .u64 (((m.getD (i).toNat default).pin).at_), .int .i64 (((m.getD (i).toNat default).pin).left), .int .i64 (((m.getD (i).toNat default).said).client), .int .i64 (((m.getD (i).toNat default).said).req), .int .i64 (((m.getD (i).toNat default).said).e), .int .i64 (((m.getD (i).toNat default).said).pin)], OEref17_Log b1 x, SlC NENote v2_m m] := H
   refine s_ob Z (v := .int .i64 ((m.getD (i).toNat default).k)) rfl rfl (by decide) rfl (Ob_load tRe3 rfl rfl rfl ((H.atg 3 rfl hg2) 0 _ rfl)) ?_; clear Z a; intro a Z
   refine s_runk tRe3 Z 1 rfl rfl ?_; clear Z a; intro a Z
   refine s_end Z [1, 6, 7, 24] rfl ?_; clear Z; intro Z
   refine p_then ?_
   refine f_cond Z rfl (fun hc3 => ?_) (fun hc3 => ?_)
   ·replace hF := ite_t hc3 hF
    obtain ⟨hg3, hF⟩ := chk_in hF
    obtain ⟨_, ⟨u4, u5, u6, rfl, L4, L5, L6⟩, H⟩ := H.elG 5 rfl (i) (NENote.dft _ _)
    replace H := H.addsl L4
    replace H := H.addsl L5
    replace H := H.addsl L6
    replace H : Hf I D w I2 w3 [SlC NEOp u6 ((((m.getD (i).toNat default).entry).batch).ops), SlC Ni64 u5 ((m.getD (i).toNat default).legit), SlC NEMember u4 (((m.getD (i).toNat default).conf).members), AtG ((0 : Int) ≤ i ∧ i < (m.length : Int)) (blkOf v2_m) (oofOf v2_m + (i).toNat * 18) [.int .i64 ((m.getD (i).toNat default).k), .int .i64 ((m.getD (i).toNat default).n), .int .u64 ((m.getD (i).toNat default).at_), .int .i64 (((m.getD (i).toNat default).conf).epoch), u4, .int .u64 (((m.getD (i).toNat default).conf).floor), u5, .int .i64 ((((m.getD (i).toNat default).entry).batch).client), .int .i64 ((((m.getD (i).toNat default).entry).batch).req), u6, .int .u64 (((m.getD (i).toNat default).entry).ts), .int .i64 (((m.getD (i).toNat default).pin).id), .int .u64 (((m.getD (i).toNat default).pin).at_), .int .i64 (((m.getD (i).toNat default).pin).left), .int .i64 (((m.getD (i).toNat default).said).client), .int .i64 (((m.getD (i).toNat default).said).req), .int .i64 (((m.getD (i).toNat default).said).e), .int .i64 (((m.getD (i).toNat default).said).pin)], SlC NEOp u3 ((((m.getD (i).toNat default).entry).batch).ops), SlC Ni64 u2 ((m.getD (i).toNat default).legit), SlC NEMember u1 (((m.getD (i).toNat default).conf).members), AtG ((0 : Int) ≤ i ∧ i < (m.length : Int)) (blkOf v2_m) (oofOf v2_m + (i).toNat * 18) [.int .i64 ((m.getD (i).toNat default).k), .int .i64 ((m.getD (i).toNat default).n), .int .u64 ((m.getD (i).toNat default).at_), .int .i64 (((m.getD (i).toNat default).conf).epoch), u1, .int .u64 (((m.getD (i).toNat default).conf).floor), u2, .int .i64 ((((m.getD (i).toNat default).entry).batch).client), .int .i64 ((((m.getD (i).toNat default).entry).batch).req), u3, .int .u64 (((m.getD (i).toNat default).entry).ts), .int .i64 (((m.getD (i).toNat default).pin).id), .int .u64 (((m.getD (i).toNat default).pin).at_), .int .i64 (((m.getD (i).toNat default).pin).left), .int .i64 (((m.getD (i).toNat default).said).client), .int .i64 (((m.getD (i).toNat default).said).req), .int .i64 (((m.getD (i).toNat default).said).e), .int .i64 (((m.getD (i).toNat default).said).pin)], OEref17_Log b1 x, SlC NENote v2_m m] := H
    obtain ⟨hg4, hF⟩ := chk_in hF
    obtain ⟨s0, hx2, hF⟩ := bnd_in hF
    refine f_quietS 11 (by kernel_rfl) (by kernel_rfl) (by kernel_rfl) (by kernel_rfl) (by kernel_rfl) Z ?_; clear Z; intro Z
    refine q_runk tRe3 Z 3 rfl rfl ?_; clear Z a; intro a Z
    refine q_ob Z (v := .pointer (some ⟨blkOf v2_m, oofOf v2_m + (i).toNat * 18, none⟩)) rfl rfl (by decide) rfl (fun _ hw => Ob_sidx tRe3 rfl rfl rfl rfl (slPl ((H.blw hw).sl 9 rfl) hg3) hg3) ?_; clear Z a; intro a Z
    refine q_runk tRe3 Z 1 rfl rfl ?_; clear Z a; intro a Z
    refine q_ob Z (v := .int .i64 ((m.getD (i).toNat default).n)) rfl rfl (by decide) rfl (fun _ hw => Ob_load tRe3 rfl rfl rfl (((H.blw hw).atg 3 rfl hg3) 1 _ rfl)) ?_; clear Z a; intro a Z
    refine q_runk tRe3 Z 2 rfl rfl ?_; clear Z a; intro a Z
    refine q_ob Z (v := .pointer (some ⟨blkOf v2_m, oofOf v2_m + (i).toNat * 18, none⟩)) rfl rfl (by decide) rfl (fun _ hw => Ob_sidx tRe3 rfl rfl rfl rfl (slPl ((H.blw hw).sl 9 rfl) hg4) hg4) ?_; clear Z a; intro a Z
    refine q_runk tRe3 Z 1 rfl rfl ?_; clear Z a; intro a Z
    refine q_ob Z (v := .agg #[.int .i64 ((((m.getD (i).toNat default).entry).batch).client), .int .i64 ((((m.getD (i).toNat default).entry).batch).req), u6, .int .u64 (((m.getD (i).toNat default).entry).ts)]) rfl rfl (by decide) rfl (fun _ hw => Ob_loads tRe3 rfl rfl rfl (((H.blw hw).atg 3 rfl hg4).part 7 rfl)) ?_; clear Z a; intro a Z
    refine q_endS Z [1, 6, 7, 24, 25, 26, 27, 28, 29, 30, 31, 32, 33, 34, 35] rfl ?_; clear Z; intro w5 hb Z
    replace H : Hf I D w I2 w5 [SlC NEOp u6 ((((m.getD (i).toNat default).entry).batch).ops), SlC Ni64 u5 ((m.getD (i).toNat default).legit), SlC NEMember u4 (((m.getD (i).toNat default).conf).members), AtG ((0 : Int) ≤ i ∧ i < (m.length : Int)) (blkOf v2_m) (oofOf v2_m + (i).toNat * 18) [.int .i64 ((m.getD (i).toNat default).k), .int .i64 ((m.getD (i).toNat default).n), .int .u64 ((m.getD (i).toNat default).at_), .int .i64 (((m.getD (i).toNat default).conf).epoch), u4, .int .u64 (((m.getD (i).toNat default).conf).floor), u5, .int .i64 ((((m.getD (i).toNat default).entry).batch).client), .int .i64 ((((m.getD (i).toNat default).entry).batch).req), u6, .int .u64 (((m.getD (i).toNat default).entry).ts), .int .i64 (((m.getD (i).toNat default).pin).id), .int .u64 (((m.getD (i).toNat default).pin).at_), .int .i64 (((m.getD (i).toNat default).pin).left), .int .i64 (((m.getD (i).toNat default).said).client), .int .i64 (((m.getD (i).toNat default).said).req), .int .i64 (((m.getD (i).toNat default).said).e), .int .i64 (((m.getD (i).toNat default).said).pin)], SlC NEOp u3 ((((m.getD (i).toNat default).entry).batch).ops), SlC Ni64 u2 ((m.getD (i).toNat default).legit), SlC NEMember u1 (((m.getD (i).toNat default).conf).members), AtG ((0 : Int) ≤ i ∧ i < (m.length : Int)) (blkOf v2_m) (oofOf v2_m + (i).toNat * 18) [.int .i64 ((m.getD (i).toNat default).k), .int .i64 ((m.getD (i).toNat default).n), .int .u64 ((m.getD (i).toNat default).at_), .int .i64 (((m.getD (i).toNat default).conf).epoch), u1, .int .u64 (((m.getD (i).toNat default).conf).floor), u2, .int .i64 ((((m.getD (i).toNat default).entry).batch).client), .int .i64 ((((m.getD (i).toNat default).entry).batch).req), u3, .int .u64 (((m.getD (i).toNat default).entry).ts), .int .i64 (((m.getD (i).toNat default).pin).id), .int .u64 (((m.getD (i).toNat default).pin).at_), .int .i64 (((m.getD (i).toNat default).pin).left), .int .i64 (((m.getD (i).toNat default).said).client), .int .i64 (((m.getD (i).toNat default).said).req), .int .i64 (((m.getD (i).toNat default).said).e), .int .i64 (((m.getD (i).toNat default).said).pin)], OEref17_Log b1 x, SlC NENote v2_m m] := H.blw hb
    clear hb
    refine h_call Z H (js := [(8, false), (0, true)]) rfl (caps := #[]) fn_50_YRe3 rfl rfl rfl rfl rfl (by decide) rfl rfl (fun D1 hS => have hq := c_ref17_Log_Set hx2 hS; hq) ?_; clear Z a; intro vv a w6 D2 hr hF2 Z
    obtain ⟨rfl, I4, K⟩ := hr
    have H : Hf I D w I4 w6 [OEref17_Log b1 s0.2, SlC NEOp u6 ((((m.getD (i).toNat default).entry).batch).ops), SlC Ni64 u5 ((m.getD (i).toNat default).legit), SlC NEMember u4 (((m.getD (i).toNat default).conf).members), AtG ((0 : Int) ≤ i ∧ i < (m.length : Int)) (blkOf v2_m) (oofOf v2_m + (i).toNat * 18) [.int .i64 ((m.getD (i).toNat default).k), .int .i64 ((m.getD (i).toNat default).n), .int .u64 ((m.getD (i).toNat default).at_), .int .i64 (((m.getD (i).toNat default).conf).epoch), u4, .int .u64 (((m.getD (i).toNat default).conf).floor), u5, .int .i64 ((((m.getD (i).toNat default).entry).batch).client), .int .i64 ((((m.getD (i).toNat default).entry).batch).req), u6, .int .u64 (((m.getD (i).toNat default).entry).ts), .int .i64 (((m.getD (i).toNat default).pin).id), .int .u64 (((m.getD (i).toNat default).pin).at_), .int .i64 (((m.getD (i).toNat default).pin).left), .int .i64 (((m.getD (i).toNat default).said).client), .int .i64 (((m.getD (i).toNat default).said).req), .int .i64 (((m.getD (i).toNat default).said).e), .int .i64 (((m.getD (i).toNat default).said).pin)], SlC NEOp u3 ((((m.getD (i).toNat default).entry).batch).ops), SlC Ni64 u2 ((m.getD (i).toNat default).legit), SlC NEMember u1 (((m.getD (i).toNat default).conf).members), AtG ((0 : Int) ≤ i ∧ i < (m.length : Int)) (blkOf v2_m) (oofOf v2_m + (i).toNat * 18) [.int .i64 ((m.getD (i).toNat default).k), .int .i64 ((m.getD (i).toNat default).n), .int .u64 ((m.getD (i).toNat default).at_), .int .i64 (((m.getD (i).toNat default).conf).epoch), u1, .int .u64 (((m.getD (i).toNat default).conf).floor), u2, .int .i64 ((((m.getD (i).toNat default).entry).batch).client), .int .i64 ((((m.getD (i).toNat default).entry).batch).req), u3, .int .u64 (((m.getD (i).toNat default).entry).ts), .int .i64 (((m.getD (i).toNat default).pin).id), .int .u64 (((m.getD (i).toNat default).pin).at_), .int .i64 (((m.getD (i).toNat default).pin).left), .int .i64 (((m.getD (i).toNat default).said).client), .int .i64 (((m.getD (i).toNat default).said).req), .int .i64 (((m.getD (i).toNat default).said).e), .int .i64 (((m.getD (i).toNat default).said).pin)], SlC NENote v2_m m] := hF2 K
    clear hF2 K
    refine s_runk tRe3 Z 1 rfl rfl ?_; clear Z a; intro a Z
    refine s_end Z [1, 6, 7, 8] rfl ?_; clear Z; intro Z
    refine p_then ?_
    exact ⟨s0.1, s0.2, Z.sub (ts := [1, 6, 7, 8]) rfl, ⟨I4, (H.sub [(0, false), (8, true)] rfl).eq rfl⟩, hF⟩
   ·replace hF := ite_f hc3 hF
    obtain ⟨hg5, hF⟩ := chk_in hF
    obtain ⟨_, ⟨u7, u8, u9, rfl, L7, L8, L9⟩, H⟩ := H.elG 5 rfl (i) (NENote.dft _ _)
    replace H := H.addsl L7
    replace H := H.addsl L8
    replace H := H.addsl L9
    replace H : Hf I D w I2 w3 [SlC NEOp u9 ((((m.getD (i).toNat default).entry).batch).ops), SlC Ni64 u8 ((m.getD (i).toNat default).legit), SlC NEMember u7 (((m.getD (i).toNat default).conf).members), AtG ((0 : Int) ≤ i ∧ i < (m.length : Int)) (blkOf v2_m) (oofOf v2_m + (i).toNat * 18) [.int .i64 ((m.getD (i).toNat default).k), .int .i64 ((m.getD (i).toNat default).n), .int .u64 ((m.getD (i).toNat default).at_), .int .i64 (((m.getD (i).toNat default).conf).epoch), u7, .int .u64 (((m.getD (i).toNat default).conf).floor), u8, .int .i64 ((((m.getD (i).toNat default).entry).batch).client), .int .i64 ((((m.getD (i).toNat default).entry).batch).req), u9, .int .u64 (((m.getD (i).toNat default).entry).ts), .int .i64 (((m.getD (i).toNat default).pin).id), .int .u64 (((m.getD (i).toNat default).pin).at_), .int .i64 (((m.getD (i).toNat default).pin).left), .int .i64 (((m.getD (i).toNat default).said).client), .int .i64 (((m.getD (i).toNat default).said).req), .int .i64 (((m.getD (i).toNat default).said).e), .int .i64 (((m.getD (i).toNat default).said).pin)], SlC NEOp u3 ((((m.getD (i).toNat default).entry).batch).ops), SlC Ni64 u2 ((m.getD (i).toNat default).legit), SlC NEMember u1 (((m.getD (i).toNat default).conf).members), AtG ((0 : Int) ≤ i ∧ i < (m.length : Int)) (blkOf v2_m) (oofOf v2_m + (i).toNat * 18) [.int .i64 ((m.getD (i).toNat default).k), .int .i64 ((m.getD (i).toNat default).n), .int .u64 ((m.getD (i).toNat default).at_), .int .i64 (((m.getD (i).toNat default).conf).epoch), u1, .int .u64 (((m.getD (i).toNat default).conf).floor), u2, .int .i64 ((((m.getD (i).toNat default).entry).batch).client), .int .i64 ((((m.getD (i).toNat default).entry).batch).req), u3, .int .u64 (((m.getD (i).toNat default).entry).ts), .int .i64 (((m.getD (i).toNat default).pin).id), .int .u64 (((m.getD (i).toNat default).pin).at_), .int .i64 (((m.getD (i).toNat default).pin).left), .int .i64 (((m.getD (i).toNat default).said).client), .int .i64 (((m.getD (i).toNat default).said).req), .int .i64 (((m.getD (i).toNat default).said).e), .int .i64 (((m.getD (i).toNat default).said).pin)], OEref17_Log b1 x, SlC NENote v2_m m] := H
    obtain ⟨hg6, hF⟩ := chk_in hF
    obtain ⟨s0_2, hx3, hF⟩ := bnd_in hF
    refine f_quietS 11 (by kernel_rfl) (by kernel_rfl) (by kernel_rfl) (by kernel_rfl) (by kernel_rfl) Z ?_; clear Z; intro Z
    refine q_runk tRe3 Z 3 rfl rfl ?_; clear Z a; intro a Z
    refine q_ob Z (v := .pointer (some ⟨blkOf v2_m, oofOf v2_m + (i).toNat * 18, none⟩)) rfl rfl (by decide) rfl (fun _ hw => Ob_sidx tRe3 rfl rfl rfl rfl (slPl ((H.blw hw).sl 9 rfl) hg5) hg5) ?_; clear Z a; intro a Z
    refine q_runk tRe3 Z 1 rfl rfl ?_; clear Z a; intro a Z
    refine q_ob Z (v := .int .i64 ((m.getD (i).toNat default).n)) rfl rfl (by decide) rfl (fun _ hw => Ob_load tRe3 rfl rfl rfl (((H.blw hw).atg 3 rfl hg5) 1 _ rfl)) ?_; clear Z a; intro a Z
    refine q_runk tRe3 Z 2 rfl rfl ?_; clear Z a; intro a Z
    refine q_ob Z (v := .pointer (some ⟨blkOf v2_m, oofOf v2_m + (i).toNat * 18, none⟩)) rfl rfl (by decide) rfl (fun _ hw => Ob_sidx tRe3 rfl rfl rfl rfl (slPl ((H.blw hw).sl 9 rfl) hg6) hg6) ?_; clear Z a; intro a Z
    refine q_runk tRe3 Z 1 rfl rfl ?_; clear Z a; intro a Z
    refine q_ob Z (v := .int .u64 ((m.getD (i).toNat default).at_)) rfl rfl (by decide) rfl (fun _ hw => Ob_load tRe3 rfl rfl rfl (((H.blw hw).atg 3 rfl hg6) 2 _ rfl)) ?_; clear Z a; intro a Z
    refine q_endS Z [1, 6, 7, 24, 37, 38, 39, 40, 41, 42, 43, 44, 45, 46, 47] rfl ?_; clear Z; intro w7 hb Z
    replace H : Hf I D w I2 w7 [SlC NEOp u9 ((((m.getD (i).toNat default).entry).batch).ops), SlC Ni64 u8 ((m.getD (i).toNat default).legit), SlC NEMember u7 (((m.getD (i).toNat default).conf).members), AtG ((0 : Int) ≤ i ∧ i < (m.length : Int)) (blkOf v2_m) (oofOf v2_m + (i).toNat * 18) [.int .i64 ((m.getD (i).toNat default).k), .int .i64 ((m.getD (i).toNat default).n), .int .u64 ((m.getD (i).toNat default).at_), .int .i64 (((m.getD (i).toNat default).conf).epoch), u7, .int .u64 (((m.getD (i).toNat default).conf).floor), u8, .int .i64 ((((m.getD (i).toNat default).entry).batch).client), .int .i64 ((((m.getD (i).toNat default).entry).batch).req), u9, .int .u64 (((m.getD (i).toNat default).entry).ts), .int .i64 (((m.getD (i).toNat default).pin).id), .int .u64 (((m.getD (i).toNat default).pin).at_), .int .i64 (((m.getD (i).toNat default).pin).left), .int .i64 (((m.getD (i).toNat default).said).client), .int .i64 (((m.getD (i).toNat default).said).req), .int .i64 (((m.getD (i).toNat default).said).e), .int .i64 (((m.getD (i).toNat default).said).pin)], SlC NEOp u3 ((((m.getD (i).toNat default).entry).batch).ops), SlC Ni64 u2 ((m.getD (i).toNat default).legit), SlC NEMember u1 (((m.getD (i).toNat default).conf).members), AtG ((0 : Int) ≤ i ∧ i < (m.length : Int)) (blkOf v2_m) (oofOf v2_m + (i).toNat * 18) [.int .i64 ((m.getD (i).toNat default).k), .int .i64 ((m.getD (i).toNat default).n), .int .u64 ((m.getD (i).toNat default).at_), .int .i64 (((m.getD (i).toNat default).conf).epoch), u1, .int .u64 (((m.getD (i).toNat default).conf).floor), u2, .int .i64 ((((m.getD (i).toNat default).entry).batch).client), .int .i64 ((((m.getD (i).toNat default).entry).batch).req), u3, .int .u64 (((m.getD (i).toNat default).entry).ts), .int .i64 (((m.getD (i).toNat default).pin).id), .int .u64 (((m.getD (i).toNat default).pin).at_), .int .i64 (((m.getD (i).toNat default).pin).left), .int .i64 (((m.getD (i).toNat default).said).client), .int .i64 (((m.getD (i).toNat default).said).req), .int .i64 (((m.getD (i).toNat default).said).e), .int .i64 (((m.getD (i).toNat default).said).pin)], OEref17_Log b1 x, SlC NENote v2_m m] := H.blw hb
    clear hb
    refine h_call Z H (js := [(8, false)]) rfl (caps := #[]) fn_51_YRe3 rfl rfl rfl rfl rfl (by decide) rfl rfl (fun D1 hS => have hq := c_ref17_Log_Stamp hx3 hS; hq) ?_; clear Z a; intro vv a w8 D2 hr hF2 Z
    obtain ⟨rfl, I5, K⟩ := hr
    have H : Hf I D w I5 w8 [OEref17_Log b1 s0_2.2, SlC NEOp u9 ((((m.getD (i).toNat default).entry).batch).ops), SlC Ni64 u8 ((m.getD (i).toNat default).legit), SlC NEMember u7 (((m.getD (i).toNat default).conf).members), AtG ((0 : Int) ≤ i ∧ i < (m.length : Int)) (blkOf v2_m) (oofOf v2_m + (i).toNat * 18) [.int .i64 ((m.getD (i).toNat default).k), .int .i64 ((m.getD (i).toNat default).n), .int .u64 ((m.getD (i).toNat default).at_), .int .i64 (((m.getD (i).toNat default).conf).epoch), u7, .int .u64 (((m.getD (i).toNat default).conf).floor), u8, .int .i64 ((((m.getD (i).toNat default).entry).batch).client), .int .i64 ((((m.getD (i).toNat default).entry).batch).req), u9, .int .u64 (((m.getD (i).toNat default).entry).ts), .int .i64 (((m.getD (i).toNat default).pin).id), .int .u64 (((m.getD (i).toNat default).pin).at_), .int .i64 (((m.getD (i).toNat default).pin).left), .int .i64 (((m.getD (i).toNat default).said).client), .int .i64 (((m.getD (i).toNat default).said).req), .int .i64 (((m.getD (i).toNat default).said).e), .int .i64 (((m.getD (i).toNat default).said).pin)], SlC NEOp u3 ((((m.getD (i).toNat default).entry).batch).ops), SlC Ni64 u2 ((m.getD (i).toNat default).legit), SlC NEMember u1 (((m.getD (i).toNat default).conf).members), AtG ((0 : Int) ≤ i ∧ i < (m.length : Int)) (blkOf v2_m) (oofOf v2_m + (i).toNat * 18) [.int .i64 ((m.getD (i).toNat default).k), .int .i64 ((m.getD (i).toNat default).n), .int .u64 ((m.getD (i).toNat default).at_), .int .i64 (((m.getD (i).toNat default).conf).epoch), u1, .int .u64 (((m.getD (i).toNat default).conf).floor), u2, .int .i64 ((((m.getD (i).toNat default).entry).batch).client), .int .i64 ((((m.getD (i).toNat default).entry).batch).req), u3, .int .u64 (((m.getD (i).toNat default).entry).ts), .int .i64 (((m.getD (i).toNat default).pin).id), .int .u64 (((m.getD (i).toNat default).pin).at_), .int .i64 (((m.getD (i).toNat default).pin).left), .int .i64 (((m.getD (i).toNat default).said).client), .int .i64 (((m.getD (i).toNat default).said).req), .int .i64 (((m.getD (i).toNat default).said).e), .int .i64 (((m.getD (i).toNat default).said).pin)], SlC NENote v2_m m] := hF2 K
    clear hF2 K
    refine s_runk tRe3 Z 1 rfl rfl ?_; clear Z a; intro a Z
    refine s_end Z [1, 6, 7, 8] rfl ?_; clear Z; intro Z
    refine p_then ?_
    exact ⟨s0_2.1, s0_2.2, Z.sub (ts := [1, 6, 7, 8]) rfl, ⟨I5, (H.sub [(0, false), (8, true)] rfl).eq rfl⟩, hF⟩
 ·replace hF := ite_f hc1 hF
  refine wp_exit ?_
  refine p_then_x ?_
  refine p_then_x ?_
  refine f_exit_here ?_
  refine p_then (wp_seq (f_region Z ?_)); clear Z; intro Z
  refine s_runk tRe3 Z 3 rfl rfl ?_; clear Z a; intro a Z
  obtain ⟨v3, H⟩ := H.openX 0 rfl
  replace H : Hf I D w I2 w3 [BxC b1 90 [v3], OwC NEEntry 57 v3 x.l, SlC NENote v2_m m] := H
  refine s_ob Z (v := v3) rfl rfl (by decide) rfl (Ob_load tRe3 rfl rfl rfl ((H.bx 0 rfl).cell 0 rfl)) ?_; clear Z a; intro a Z
  refine s_runk tRe3 Z 2 rfl rfl ?_; clear Z a; intro a Z
  refine s_end Z [4, 5] rfl ?_; clear Z; intro Z
  refine p_then (wp_ret ?_)
  obtain ⟨I6, _, H⟩ := H.frzow 1 rfl
  replace H : Hf I D w I6 w3 [SlC NEEntry v3 x.l, BxC b1 90 [v3], SlC NENote v2_m m] := H
  obtain rfl := some_in hF
  exact f_ret Z (run_results2 rfl Z rfl rfl) ⟨v3, rfl, I6, (H.sub [(0, true)] rfl).eq rfl⟩

def F_law32_RelayAgree_l2 (l : List EEntry) (ahead : List EEntry) (tail : List EEntry) (s0_2 : Int) (rc_2 : Int → Option Bool) (sg : Int) : Option Bool := match sg with | i_2 => if (decide (i_2 < (l.length : Int))) = true then (chk ((0 : Int) ≤ i_2 ∧ i_2 < (ahead.length : Int)) (chk ((0 : Int) ≤ i_2 ∧ i_2 < (l.length : Int)) ((F_ref08_Twins ({ (ahead.getD (i_2).toNat default) with batch := ({ client := ((ahead.getD (i_2).toNat default).batch).client, req := ((ahead.getD (i_2).toNat default).batch).req, ops := ((ahead.getD (i_2).toNat default).batch).ops } : EBatch) } : EEntry) ({ (l.getD (i_2).toNat default) with batch := ({ client := ((l.getD (i_2).toNat default).batch).client, req := ((l.getD (i_2).toNat default).batch).req, ops := ((l.getD (i_2).toNat default).batch).ops } : EBatch) } : EEntry)).bind fun t_2 => (chk ((!(!t_2)) = true → (0 : Int) ≤ i_2 ∧ i_2 < (tail.length : Int)) (chk ((!(!t_2)) = true → (0 : Int) ≤ i_2 ∧ i_2 < (l.length : Int)) ((gif (!(!t_2)) (F_ref08_Twins ({ (tail.getD (i_2).toNat default) with batch := ({ client := ((tail.getD (i_2).toNat default).batch).client, req := ((tail.getD (i_2).toNat default).batch).req, ops := ((tail.getD (i_2).toNat default).batch).ops } : EBatch) } : EEntry) ({ (l.getD (i_2).toNat default) with batch := ({ client := ((l.getD (i_2).toNat default).batch).client, req := ((l.getD (i_2).toNat default).batch).req, ops := ((l.getD (i_2).toNat default).batch).ops } : EBatch) } : EEntry)) default).bind fun t_3 => (chk ((!((!t_2) || (!t_3))) = true → (0 : Int) ≤ i_2 ∧ i_2 < (ahead.length : Int)) (chk ((!((!t_2) || (!t_3))) = true → (0 : Int) ≤ i_2 ∧ i_2 < (tail.length : Int)) (chk ((!(((!t_2) || (!t_3)) || (((ahead.getD (i_2).toNat default).ts) != ((tail.getD (i_2).toNat default).ts)))) = true → (0 : Int) ≤ i_2 ∧ i_2 < (l.length : Int)) (chk (((!(((!t_2) || (!t_3)) || (((ahead.getD (i_2).toNat default).ts) != ((tail.getD (i_2).toNat default).ts)))) && (((l.getD (i_2).toNat default).ts) != 0)) = true → (0 : Int) ≤ i_2 ∧ i_2 < (ahead.length : Int)) (chk (((!(((!t_2) || (!t_3)) || (((ahead.getD (i_2).toNat default).ts) != ((tail.getD (i_2).toNat default).ts)))) && (((l.getD (i_2).toNat default).ts) != 0)) = true → (0 : Int) ≤ i_2 ∧ i_2 < (l.length : Int)) (if ((((!t_2) || (!t_3)) || (((ahead.getD (i_2).toNat default).ts) != ((tail.getD (i_2).toNat default).ts))) || ((((l.getD (i_2).toNat default).ts) != 0) && (((ahead.getD (i_2).toNat default).ts) != ((l.getD (i_2).toNat default).ts)))) = true then (some false) else (chk (inI (i_2 + 1)) (rc_2 (i_2 + 1))))))))))))))) else ((gif (!(s0_2 == (l.length : Int))) (F_ref08_Last ahead) default).bind fun l_6 => ((gif ((s0_2 == (l.length : Int)) || (l_6 == 18446744073709551615)) (F_law32_awake) default).bind fun a0_4 => (some (((s0_2 == (l.length : Int)) || (l_6 == 18446744073709551615)) && a0_4))))

def F_law32_RelayAgree_l1 (l : List EEntry) (floor : Int) (rc : ((List EEntry) × (List EEntry) × Int × Int × Int) → Option Bool) (sg : (List EEntry) × (List EEntry) × Int × Int × Int) : Option Bool := match sg with | (ahead, tail, good, knows, i) => chk (inI (2 * (l.length : Int))) (chk (inI (2 * (l.length : Int) + 4)) (if (decide (i < 2 * (l.length : Int) + 4)) = true then ((F_relay_Fwd 1 (l.length : Int) knows 0 0 ahead (ahead.length : Int)).bind fun f => ((F_adopt_Take tail good f.m f.entries).bind fun t => ((F_law32_laid tail t.1).bind fun l_2 => (if ((!l_2.2) || (decide (t.2 < good))) = true then (some false) else ((F_stamp_All l_2.1 t.2 floor).bind fun a0_2 => ((F_law32_laid l_2.1 a0_2).bind fun l_3 => (if (!l_3.2) = true then (some false) else ((F_ref08_Stamped l_3.1).bind fun s0 => ((F_relay_Held t.2 s0 true 0).bind fun h => ((F_relay_Ack 1 t.2 h f.p l_3.1).bind fun a0_3 => ((F_relay_Learn ahead (ahead.length : Int) a0_3).bind fun l_4 => ((F_law32_laid ahead l_4).bind fun l_5 => (if (!l_5.2) = true then (some false) else ((F_relay_Good a0_3 (l_5.1.length : Int)).bind fun g => (chk (inI (i + 1)) (rc (l_5.1, l_3.1, t.2, g, i + 1))))))))))))))))) else (if ((((good != (l.length : Int)) || (knows != (l.length : Int))) || (decide ((tail.length : Int) < (l.length : Int)))) || ((ahead.length : Int) != (l.length : Int))) = true then (some false) else ((F_ref08_Stamped ahead).bind fun s0_2 => (iter (F_law32_RelayAgree_l2 l ahead tail s0_2) FU 0)))))

def F_law32_RelayAgree (l : List EEntry) (own : List EEntry) (floor : Int) : Option Bool := (F_law08_Much l).bind fun m => ((gif (!(decide (m > 50))) (F_law08_Much own) default).bind fun m_2 => ((gif (!((decide (m > 50)) || (decide (m_2 > 50)))) (F_ref08_Right l) default).bind fun r0 => ((gif (!(((decide (m > 50)) || (decide (m_2 > 50))) || (r0 != 0))) (F_ref08_Right own) default).bind fun r0_2 => (if ((((decide (m > 50)) || (decide (m_2 > 50))) || (r0 != 0)) || (r0_2 != 0)) = true then ((F_law32_awake).bind fun a0 => (some a0)) else (iter (F_law32_RelayAgree_l1 l floor) FU (l, own, 0, 0, 0))))))

set_option maxHeartbeats 1000000 in
theorem c_law32_RelayAgree {I D : Dm} {l : List EEntry} {v1_l : Value} {own : List EEntry} {v2_own : Value} {floor : Int} {w : World} {rr : Bool} (hF : F_law32_RelayAgree l own floor = some rr) (H : St I D w [SlC NEEntry v1_l l, SlC NEEntry v2_own own]) :
  Calls Try.prog 5 #[v1_l, v2_own, .int .u64 floor] w (Ret fun vv w' => vv = .bool rr ∧ ∃ I', Hf I D w I' w' []) := by
 replace H := H.hf
 unfold F_law32_RelayAgree at hF
 refine f_enter 222 Try.func5 rfl rfl (Nat.le_of_ble_eq_true rfl) fun a Z => ?_
 replace Z := Z.sub (ts := [0, 1, 2]) rfl
 refine wp_seq (f_region Z ?_); clear Z; intro Z
 refine s_runk tRe3 Z 1 rfl rfl ?_; clear Z a; intro a Z
 refine s_end Z [0, 1, 2] rfl ?_; clear Z; intro Z
 refine p_then (wp_seq ?_)
 refine wp_seq ?_
 obtain ⟨m, hx1, hF⟩ := bnd_in hF
 obtain ⟨m_2, hx2, hF⟩ := bnd_in hF
 obtain ⟨r0, hx3, hF⟩ := bnd_in hF
 obtain ⟨r0_2, hx4, hF⟩ := bnd_in hF
 refine f_region Z ?_; clear Z; intro Z
 refine s_runk tRe3 Z 1 rfl rfl ?_; clear Z a; intro a Z
 refine h_call Z H (js := [(0, true)]) rfl (caps := #[]) fn_6_YRe3 rfl rfl rfl rfl rfl (by decide) rfl rfl (fun D1 hS => have hq := c_law08_Much hx1 hS; hq) ?_; clear Z a; intro vv a w1 D2 hr hF2 Z
 obtain ⟨rfl, I1, K⟩ := hr
 have H : Hf I D w I1 w1 [SlC NEEntry v1_l l, SlC NEEntry v2_own own] := hF2 K
 clear hF2 K
 refine s_runk tRe3 Z 2 rfl rfl ?_; clear Z a; intro a Z
 refine g_ob Z (p := (!(decide (m > 50)))) (v := v2_own) (S' := [(1, v2_own)]) rfl rfl rfl (wantB_f _) rfl (by decide) (fun hp hS => hS.sub (ts := [1]) rfl) (fun hp => Ob_c tRe3 rfl) ?_; clear Z a; intro a Z
 refine g_call Z (p := (!(decide (m > 50)))) (v := .int .i64 m_2) (S' := [(26, v2_own)]) (caps := #[]) fn_6_YRe3 rfl rfl rfl (wantB_f _) rfl (by decide) (fun hp hS => (hS.conv (t := 26) rfl (cond_t hp)).sub (ts := [26]) rfl) rfl rfl rfl rfl (fun hp => (have hq := c_law08_Much (gif_in hx2 hp) ((H).pick0 (js := [(1, true)]) rfl rfl); plainC hq)) ?_; clear Z a; intro a w2 hb Z
 replace H : Hf I D w I1 w2 [SlC NEEntry v1_l l, SlC NEEntry v2_own own] := H.blw hb
 clear hb
 refine g_ob Z (p := (!(decide (m > 50)))) (v := .bool (decide (m_2 > 50))) (S' := [(27, .int .i64 m_2)]) rfl rfl rfl (wantB_f _) rfl (by decide) (fun hp hS => (hS.conv (t := 27) rfl (cond_t hp)).sub (ts := [27]) rfl) (fun hp => Ob_c tRe3 rfl) ?_; clear Z a; intro a Z
 refine s_ob Z (v := .bool ((decide (m > 50)) || (decide (m_2 > 50)))) rfl rfl (by decide) rfl (Ob_pick rfl rfl rfl rfl (pick_or _ _)) ?_; clear Z a; intro a Z
 refine s_runk tRe3 Z 1 rfl rfl ?_; clear Z a; intro a Z
 refine g_ob Z (p := (!((decide (m > 50)) || (decide (m_2 > 50))))) (v := v1_l) (S' := [(0, v1_l)]) rfl rfl rfl (wantB_f _) rfl (by decide) (fun hp hS => hS.sub (ts := [0]) rfl) (fun hp => Ob_c tRe3 rfl) ?_; clear Z a; intro a Z
 refine g_call Z (p := (!((decide (m > 50)) || (decide (m_2 > 50))))) (v := .int .i64 r0) (S' := [(31, v1_l)]) (caps := #[]) fn_7_YRe3 rfl rfl rfl (wantB_f _) rfl (by decide) (fun hp hS => (hS.conv (t := 31) rfl (cond_t hp)).sub (ts := [31]) rfl) rfl rfl rfl rfl (fun hp => (have hq := c_ref08_Right (gif_in hx3 hp) ((H).pick0 (js := [(0, true)]) rfl rfl); plainC hq)) ?_; clear Z a; intro a w3 hb Z
 replace H : Hf I D w I1 w3 [SlC NEEntry v1_l l, SlC NEEntry v2_own own] := H.blw hb
 clear hb
 refine g_ob Z (p := (!((decide (m > 50)) || (decide (m_2 > 50))))) (v := .bool (r0 != 0)) (S' := [(32, .int .i64 r0)]) rfl rfl rfl (wantB_f _) rfl (by decide) (fun hp hS => (hS.conv (t := 32) rfl (cond_t hp)).sub (ts := [32]) rfl) (fun hp => Ob_c tRe3 rfl) ?_; clear Z a; intro a Z
 refine s_ob Z (v := .bool (((decide (m > 50)) || (decide (m_2 > 50))) || (r0 != 0))) rfl rfl (by decide) rfl (Ob_pick rfl rfl rfl rfl (pick_or _ _)) ?_; clear Z a; intro a Z
 refine s_runk tRe3 Z 1 rfl rfl ?_; clear Z a; intro a Z
 refine g_ob Z (p := (!(((decide (m > 50)) || (decide (m_2 > 50))) || (r0 != 0)))) (v := v2_own) (S' := [(1, v2_own)]) rfl rfl rfl (wantB_f _) rfl (by decide) (fun hp hS => hS.sub (ts := [1]) rfl) (fun hp => Ob_c tRe3 rfl) ?_; clear Z a; intro a Z
 refine g_call Z (p := (!(((decide (m > 50)) || (decide (m_2 > 50))) || (r0 != 0)))) (v := .int .i64 r0_2) (S' := [(36, v2_own)]) (caps := #[]) fn_7_YRe3 rfl rfl rfl (wantB_f _) rfl (by decide) (fun hp hS => (hS.conv (t := 36) rfl (cond_t hp)).sub (ts := [36]) rfl) rfl rfl rfl rfl (fun hp => (have hq := c_ref08_Right (gif_in hx4 hp) ((H).pick0 (js := [(1, true)]) rfl rfl); plainC hq)) ?_; clear Z a; intro a w4 hb Z
 replace H : Hf I D w I1 w4 [SlC NEEntry v1_l l, SlC NEEntry v2_own own] := H.blw hb
 clear hb
 refine g_ob Z (p := (!(((decide (m > 50)) || (decide (m_2 > 50))) || (r0 != 0)))) (v := .bool (r0_2 != 0)) (S' := [(37, .int .i64 r0_2)]) rfl rfl rfl (wantB_f _) rfl (by decide) (fun hp hS => (hS.conv (t := 37) rfl (cond_t hp)).sub (ts := [37]) rfl) (fun hp => Ob_c tRe3 rfl) ?_; clear Z a; intro a Z
 refine s_ob Z (v := .bool ((((decide (m > 50)) || (decide (m_2 > 50))) || (r0 != 0)) || (r0_2 != 0))) rfl rfl (by decide) rfl (Ob_pick rfl rfl rfl rfl (pick_or _ _)) ?_; clear Z a; intro a Z
 refine s_end Z [0, 1, 2, 39] rfl ?_; clear Z; intro Z
 refine p_then ?_
 refine f_cond Z rfl (fun hc1 => ?_) (fun hc1 => ?_)
 ·replace hF := ite_t hc1 hF
  refine wp_seq ?_
  obtain ⟨a0, hx5, hF⟩ := bnd_in hF
  refine f_region Z ?_; clear Z; intro Z
  refine h_call Z H (js := []) rfl (caps := #[]) fn_8_YRe3 rfl rfl rfl rfl rfl (by decide) rfl rfl (fun D1 hS => have hq := c_law32_awake hx5 hS; hq) ?_; clear Z a; intro vv a w5 D2 hr hF2 Z
  obtain ⟨rfl, I2, K⟩ := hr
  have H : Hf I D w I2 w5 [SlC NEEntry v1_l l, SlC NEEntry v2_own own] := hF2 K
  clear hF2 K
  refine s_runk tRe3 Z 1 rfl rfl ?_; clear Z a; intro a Z
  refine s_end Z [6] rfl ?_; clear Z; intro Z
  refine p_then (wp_ret ?_)
  refine p_then_r ?_
  obtain rfl := some_in hF
  exact f_ret Z (run_results1 rfl Z rfl) ⟨rfl, I2, (H.sub [] rfl).eq rfl⟩
 ·replace hF := ite_f hc1 hF
  refine wp_skip ?_
  refine p_then (wp_seq (f_region Z ?_)); clear Z; intro Z
  refine s_runk tRe3 Z 2 rfl rfl ?_; clear Z a; intro a Z
  refine s_end Z [0, 1, 2, 7] rfl ?_; clear Z; intro Z
  refine p_then (wp_seq (f_region Z ?_)); clear Z; intro Z
  refine s_runk tRe3 Z 2 rfl rfl ?_; clear Z a; intro a Z
  refine s_end Z [0, 2, 7, 8] rfl ?_; clear Z; intro Z
  refine p_then (wp_seq (f_region Z ?_)); clear Z; intro Z
  refine s_runk tRe3 Z 1 rfl rfl ?_; clear Z a; intro a Z
  refine s_end Z [0, 2, 7, 8, 9] rfl ?_; clear Z; intro Z
  refine p_then (wp_seq (f_region Z ?_)); clear Z; intro Z
  refine s_runk tRe3 Z 1 rfl rfl ?_; clear Z a; intro a Z
  refine s_end Z [0, 2, 7, 8, 9, 10] rfl ?_; clear Z; intro Z
  refine p_then (wp_seq ?_)
  refine wp_seq (f_region Z ?_); clear Z; intro Z
  refine s_runk tRe3 Z 1 rfl rfl ?_; clear Z a; intro a Z
  refine s_end Z [0, 2, 7, 8, 9, 10, 11] rfl ?_; clear Z; intro Z
  refine p_then (wp_block ?_)
  refine f_iter hF (fun sg a' w' => match sg with | (ahead, tail, good, knows, i) => ∃ v3 v4 : Value, Sl 222 [(0, v1_l), (2, .int .u64 floor), (7, v3), (8, v4), (9, .int .i64 good), (10, .int .i64 knows), (11, .int .i64 i)] a' ∧ ∃ I2, Hf I D w I2 w' [SlC NEEntry v1_l l, SlC NEEntry v3 ahead, SlC NEEntry v4 tail]) ⟨v1_l, v2_own, Z.sub (ts := [0, 2, 7, 8, 9, 10, 11]) rfl, ⟨I1, (H.sub [(0, true), (0, true), (1, true)] rfl).eq rfl⟩⟩ ?_
  clear Z H hF a
  rintro rc ⟨ahead, tail, good, knows, i⟩ a w6 ⟨v3, v4, Z, I3, H⟩ hF
  unfold F_law32_RelayAgree_l1 at hF
  try dsimp only at hF
  refine wp_seq ?_
  refine wp_seq ?_
  obtain ⟨hg1, hF⟩ := chk_in hF
  obtain ⟨hg2, hF⟩ := chk_in hF
  refine f_region Z ?_; clear Z; intro Z
  refine s_runk tRe3 Z 2 rfl rfl ?_; clear Z a; intro a Z
  refine s_ob Z (v := .int .i64 (l.length : Int)) rfl rfl (by decide) rfl (Ob_slen tRe3 rfl rfl rfl (H.slshape 0 rfl)) ?_; clear Z a; intro a Z
  refine s_ob Z (v := .int .i64 (2 * (l.length : Int))) rfl rfl (by decide) rfl (Ob_mul rfl rfl rfl (wrI hg1)) ?_; clear Z a; intro a Z
  refine s_ob Z (v := .int .i64 (2 * (l.length : Int) + 4)) rfl rfl (by decide) rfl (Ob_add rfl rfl rfl (wrI hg2)) ?_; clear Z a; intro a Z
  refine s_runk tRe3 Z 1 rfl rfl ?_; clear Z a; intro a Z
  refine s_end Z [0, 2, 7, 8, 9, 10, 11, 48] rfl ?_; clear Z; intro Z
  refine p_then ?_
  refine f_cond Z rfl (fun hc2 => ?_) (fun hc2 => ?_)
  ·replace hF := ite_t hc2 hF
   refine wp_skip ?_
   refine p_then (wp_seq ?_)
   refine wp_block ?_
   refine wp_seq ?_
   obtain ⟨f, hx6, hF⟩ := bnd_in hF
   refine f_region Z ?_; clear Z; intro Z
   refine s_runk tRe3 Z 1 rfl rfl ?_; clear Z a; intro a Z
   refine s_ob Z (v := .int .i64 (l.length : Int)) rfl rfl (by decide) rfl (Ob_slen tRe3 rfl rfl rfl (H.slshape 0 rfl)) ?_; clear Z a; intro a Z
   refine s_runk tRe3 Z 3 rfl rfl ?_; clear Z a; intro a Z
   refine s_ob Z (v := .int .i64 (ahead.length : Int)) rfl rfl (by decide) rfl (Ob_slen tRe3 rfl rfl rfl (H.slshape 1 rfl)) ?_; clear Z a; intro a Z
   refine h_call Z H (js := [(1, true)]) rfl (caps := #[]) fn_9_YRe3 rfl rfl rfl rfl rfl (by decide) rfl rfl (fun D1 hS => have hq := c_relay_Fwd hx6 hS; hq) ?_; clear Z a; intro vv a w7 D2 hr hF2 Z
   obtain ⟨q1, q2, q3, q4, q5, rfl, I4, K⟩ := hr
   have H : Hf I D w I4 w7 [SlC NEMember q1 f.conf.members, SlC NEOp q2 f.batch.ops, SlC NEEntry q3 f.entries, SlC Nu64 q4 f.stamps, SlC NEPair q5 f.pairs, SlC NEEntry v1_l l, SlC NEEntry v3 ahead, SlC NEEntry v4 tail] := hF2 K
   clear hF2 K
   refine h_alloc Z H (cl := [.int .i64 0, .int .i64 0, .int .i64 0, .int .i64 0, .bool false, .int .u64 0, .int .u64 0, .int .i64 0, .int .i64 0, .int .i64 0, .int .i64 0, .string ByteArray.empty, .string ByteArray.empty, .int .i64 0, .slice none 0 0, .int .u64 0, .int .i64 0, .int .i64 0, .slice none 0 0, .slice none 0 0, .slice none 0 0, .slice none 0 0]) (z := .agg #[.int .i64 0, .int .i64 0, .int .i64 0, .int .i64 0, .bool false, .int .u64 0, .int .u64 0, .int .i64 0, .int .i64 0, .int .i64 0, .int .i64 0, .string ByteArray.empty, .string ByteArray.empty, .int .i64 0, .slice none 0 0, .int .u64 0, .int .i64 0, .int .i64 0, .slice none 0 0, .slice none 0 0, .slice none 0 0, .slice none 0 0]) rfl rfl rfl (by decide) rfl (by kernel_rfl) rfl ?_; clear Z a H; intro a w8 b1 H Z
   refine h_store tRe3 Z H 0 rfl rfl rfl rfl rfl rfl rfl rfl rfl (one_cons rfl (one_cons rfl (one_cons rfl (one_cons rfl (one_cons rfl (one_cons rfl (one_cons rfl (one_cons rfl (one_cons rfl (one_cons rfl (one_cons rfl (one_cons rfl (one_cons rfl (one_cons rfl (one_cons (slS.one (H.slshape 1 rfl)) (one_cons rfl (one_cons rfl (one_cons rfl (one_cons (slS.one (H.slshape 2 rfl)) (one_cons (slS.one (H.slshape 3 rfl)) (one_cons (slS.one (H.slshape 4 rfl)) (one_cons (slS.one (H.slshape 5 rfl)) one_nil)))))))))))))))))))))) (Nat.le_of_ble_eq_true rfl) (putCells_all rfl) ?_; clear H; intro w9 H
   dsimp only [List.eraseIdx] at H
   refine s_end Z [0, 2, 7, 8, 9, 11, 12] rfl ?_; clear Z; intro Z
   refine p_then (wp_seq ?_)
   obtain ⟨t, hx7, hF⟩ := bnd_in hF
   refine f_region Z ?_; clear Z; intro Z
   refine s_runk tRe3 Z 3 rfl rfl ?_; clear Z a; intro a Z
   refine s_ob Z (v := .int .i64 f.m) rfl rfl (by decide) rfl (Ob_load tRe3 rfl rfl rfl ((H.bx 0 rfl).cell 8 rfl)) ?_; clear Z a; intro a Z
   refine s_runk tRe3 Z 1 rfl rfl ?_; clear Z a; intro a Z
   refine s_ob Z (v := q3) rfl rfl (by decide) rfl (Ob_load tRe3 rfl rfl rfl ((H.bx 0 rfl).cell 19 rfl)) ?_; clear Z a; intro a Z
   refine h_call Z H (js := [(8, true), (3, true)]) rfl (caps := #[]) fn_22_YRe3 rfl rfl rfl rfl rfl (by decide) rfl rfl (fun D1 hS => have hq := c_adopt_Take hx7 hS; hq) ?_; clear Z a; intro vv a w10 D2 hr hF2 Z
   obtain ⟨q6, rfl, I5, K⟩ := hr
   have H : Hf I D w I5 w10 [SlC NENote q6 t.1, BxC b1 37 (cEMsg f q1 q2 q3 q4 q5), SlC NEMember q1 f.conf.members, SlC NEOp q2 f.batch.ops, SlC NEEntry q3 f.entries, SlC Nu64 q4 f.stamps, SlC NEPair q5 f.pairs, SlC NEEntry v1_l l, SlC NEEntry v3 ahead, SlC NEEntry v4 tail] := hF2 K
   clear hF2 K
   refine s_runk tRe3 Z 5 rfl rfl ?_; clear Z a; intro a Z
   refine s_end Z [0, 2, 7, 8, 9, 11, 12, 13, 14] rfl ?_; clear Z; intro Z
   refine p_then (wp_seq ?_)
   obtain ⟨l_2, hx8, hF⟩ := bnd_in hF
   refine f_region Z ?_; clear Z; intro Z
   refine s_runk tRe3 Z 2 rfl rfl ?_; clear Z a; intro a Z
   refine h_call Z H (js := [(9, true), (0, true)]) rfl (caps := #[]) fn_23_YRe3 rfl rfl rfl rfl rfl (by decide) rfl rfl (fun D1 hS => have hq := c_law32_laid hx8 hS; hq) ?_; clear Z a; intro vv a w11 D2 hr hF2 Z
   obtain ⟨q7, rfl, I6, K⟩ := hr
   have H : Hf I D w I6 w11 [SlC NEEntry q7 l_2.1, SlC NENote q6 t.1, BxC b1 37 (cEMsg f q1 q2 q3 q4 q5), SlC NEMember q1 f.conf.members, SlC NEOp q2 f.batch.ops, SlC NEEntry q3 f.entries, SlC Nu64 q4 f.stamps, SlC NEPair q5 f.pairs, SlC NEEntry v1_l l, SlC NEEntry v3 ahead, SlC NEEntry v4 tail] := hF2 K
   clear hF2 K
   refine s_runk tRe3 Z 5 rfl rfl ?_; clear Z a; intro a Z
   refine s_end Z [0, 2, 7, 9, 11, 12, 14, 15, 16] rfl ?_; clear Z; intro Z
   refine p_then (wp_seq ?_)
   refine wp_seq (f_region Z ?_); clear Z; intro Z
   refine s_runk tRe3 Z 3 rfl rfl ?_; clear Z a; intro a Z
   refine g_ob Z (p := (!(!l_2.2))) (v := .int .i64 t.2) (S' := [(14, .int .i64 t.2)]) rfl rfl rfl (wantB_f _) rfl (by decide) (fun hp hS => hS.sub (ts := [14]) rfl) (fun hp => Ob_c tRe3 rfl) ?_; clear Z a; intro a Z
   refine g_ob Z (p := (!(!l_2.2))) (v := .int .i64 good) (S' := [(9, .int .i64 good)]) rfl rfl rfl (wantB_f _) rfl (by decide) (fun hp hS => hS.sub (ts := [9]) rfl) (fun hp => Ob_c tRe3 rfl) ?_; clear Z a; intro a Z
   refine g_ob Z (p := (!(!l_2.2))) (v := .bool (decide (t.2 < good))) (S' := [(77, .int .i64 t.2), (78, .int .i64 good)]) rfl rfl rfl (wantB_f _) rfl (by decide) (fun hp hS => ((hS.conv (t := 77) rfl (cond_t hp)).conv (t := 78) rfl (cond_t hp)).sub (ts := [77, 78]) rfl) (fun hp => Ob_c tRe3 rfl) ?_; clear Z a; intro a Z
   refine s_ob Z (v := .bool ((!l_2.2) || (decide (t.2 < good)))) rfl rfl (by decide) rfl (Ob_pick rfl rfl rfl rfl (pick_or _ _)) ?_; clear Z a; intro a Z
   refine s_end Z [0, 2, 7, 11, 12, 14, 15, 80] rfl ?_; clear Z; intro Z
   refine p_then ?_
   refine f_cond Z rfl (fun hc3 => ?_) (fun hc3 => ?_)
   ·replace hF := ite_t hc3 hF
    refine wp_seq (f_region Z ?_); clear Z; intro Z
    refine s_runk tRe3 Z 1 rfl rfl ?_; clear Z a; intro a Z
    refine s_end Z [6] rfl ?_; clear Z; intro Z
    refine p_then (wp_ret ?_)
    refine p_then_r ?_
    refine p_blk_r ?_
    refine p_then_r ?_
    refine p_then_r ?_
    refine p_blk_r ?_
    refine p_then_r ?_
    obtain rfl := some_in hF
    exact f_ret Z (run_results1 rfl Z rfl) ⟨rfl, I6, (H.sub [] rfl).eq rfl⟩
   ·replace hF := ite_f hc3 hF
    refine wp_skip ?_
    refine p_then (wp_seq (f_region Z ?_)); clear Z; intro Z
    refine s_runk tRe3 Z 2 rfl rfl ?_; clear Z a; intro a Z
    refine s_end Z [0, 2, 7, 11, 12, 14, 8] rfl ?_; clear Z; intro Z
    refine p_then (wp_seq (f_region Z ?_)); clear Z; intro Z
    refine s_runk tRe3 Z 2 rfl rfl ?_; clear Z a; intro a Z
    refine s_end Z [0, 2, 7, 11, 12, 8, 9] rfl ?_; clear Z; intro Z
    refine p_then (wp_seq ?_)
    obtain ⟨a0_2, hx9, hF⟩ := bnd_in hF
    obtain ⟨l_3, hx10, hF⟩ := bnd_in hF
    refine f_region Z ?_; clear Z; intro Z
    refine s_runk tRe3 Z 4 rfl rfl ?_; clear Z a; intro a Z
    refine h_call Z H (js := [(0, true)]) rfl (caps := #[]) fn_24_YRe3 rfl rfl rfl rfl rfl (by decide) rfl rfl (fun D1 hS => have hq := c_stamp_All hx9 hS; hq) ?_; clear Z a; intro vv a w12 D2 hr hF2 Z
    obtain ⟨q8, hvv, I7, K⟩ := hr; obtain rfl := hvv.symm
    have H : Hf I D w I7 w12 [SlC NENote q8 a0_2, SlC NEEntry q7 l_2.1, SlC NENote q6 t.1, BxC b1 37 (cEMsg f q1 q2 q3 q4 q5), SlC NEMember q1 f.conf.members, SlC NEOp q2 f.batch.ops, SlC NEEntry q3 f.entries, SlC Nu64 q4 f.stamps, SlC NEPair q5 f.pairs, SlC NEEntry v1_l l, SlC NEEntry v3 ahead, SlC NEEntry v4 tail] := hF2 K
    clear hF2 K
    refine h_call Z H (js := [(1, true), (0, true)]) rfl (caps := #[]) fn_23_YRe3 rfl rfl rfl rfl rfl (by decide) rfl rfl (fun D1 hS => have hq := c_law32_laid hx10 hS; hq) ?_; clear Z a; intro vv a w13 D2 hr hF2 Z
    obtain ⟨q9, rfl, I8, K⟩ := hr
    have H : Hf I D w I8 w13 [SlC NEEntry q9 l_3.1, SlC NENote q8 a0_2, SlC NEEntry q7 l_2.1, SlC NENote q6 t.1, BxC b1 37 (cEMsg f q1 q2 q3 q4 q5), SlC NEMember q1 f.conf.members, SlC NEOp q2 f.batch.ops, SlC NEEntry q3 f.entries, SlC Nu64 q4 f.stamps, SlC NEPair q5 f.pairs, SlC NEEntry v1_l l, SlC NEEntry v3 ahead, SlC NEEntry v4 tail] := hF2 K
    clear hF2 K
    refine s_runk tRe3 Z 5 rfl rfl ?_; clear Z a; intro a Z
    refine s_end Z [0, 2, 7, 11, 12, 9, 15, 16] rfl ?_; clear Z; intro Z
    refine p_then (wp_seq ?_)
    refine wp_seq (f_region Z ?_); clear Z; intro Z
    refine s_runk tRe3 Z 2 rfl rfl ?_; clear Z a; intro a Z
    refine s_end Z [0, 2, 7, 11, 12, 9, 15, 93] rfl ?_; clear Z; intro Z
    refine p_then ?_
    refine f_cond Z rfl (fun hc4 => ?_) (fun hc4 => ?_)
    ·replace hF := ite_t hc4 hF
     refine wp_seq (f_region Z ?_); clear Z; intro Z
     refine s_runk tRe3 Z 1 rfl rfl ?_; clear Z a; intro a Z
     refine s_end Z [6] rfl ?_; clear Z; intro Z
     refine p_then (wp_ret ?_)
     refine p_then_r ?_
     refine p_blk_r ?_
     refine p_then_r ?_
     refine p_then_r ?_
     refine p_blk_r ?_
     refine p_then_r ?_
     obtain rfl := some_in hF
     exact f_ret Z (run_results1 rfl Z rfl) ⟨rfl, I8, (H.sub [] rfl).eq rfl⟩
    ·replace hF := ite_f hc4 hF
     refine wp_skip ?_
     refine p_then (wp_seq (f_region Z ?_)); clear Z; intro Z
     refine s_runk tRe3 Z 2 rfl rfl ?_; clear Z a; intro a Z
     refine s_end Z [0, 2, 7, 11, 12, 9, 8] rfl ?_; clear Z; intro Z
     refine p_then (wp_seq ?_)
     obtain ⟨s0, hx11, hF⟩ := bnd_in hF
     obtain ⟨h, hx12, hF⟩ := bnd_in hF
     refine f_region Z ?_; clear Z; intro Z
     refine s_runk tRe3 Z 2 rfl rfl ?_; clear Z a; intro a Z
     refine h_call Z H (js := [(0, true)]) rfl (caps := #[]) fn_25_YRe3 rfl rfl rfl rfl rfl (by decide) rfl rfl (fun D1 hS => have hq := c_ref08_Stamped hx11 hS; hq) ?_; clear Z a; intro vv a w14 D2 hr hF2 Z
     obtain ⟨rfl, I9, K⟩ := hr
     have H : Hf I D w I9 w14 [SlC NEEntry q9 l_3.1, SlC NENote q8 a0_2, SlC NEEntry q7 l_2.1, SlC NENote q6 t.1, BxC b1 37 (cEMsg f q1 q2 q3 q4 q5), SlC NEMember q1 f.conf.members, SlC NEOp q2 f.batch.ops, SlC NEEntry q3 f.entries, SlC Nu64 q4 f.stamps, SlC NEPair q5 f.pairs, SlC NEEntry v1_l l, SlC NEEntry v3 ahead, SlC NEEntry v4 tail] := hF2 K
     clear hF2 K
     refine h_call Z H (js := []) rfl (caps := #[]) fn_18_YRe3 rfl rfl rfl rfl rfl (by decide) rfl rfl (fun D1 hS => have hq := c_relay_Held hx12 hS; hq) ?_; clear Z a; intro vv a w15 D2 hr hF2 Z
     obtain ⟨rfl, I10, K⟩ := hr
     have H : Hf I D w I10 w15 [SlC NEEntry q9 l_3.1, SlC NENote q8 a0_2, SlC NEEntry q7 l_2.1, SlC NENote q6 t.1, BxC b1 37 (cEMsg f q1 q2 q3 q4 q5), SlC NEMember q1 f.conf.members, SlC NEOp q2 f.batch.ops, SlC NEEntry q3 f.entries, SlC Nu64 q4 f.stamps, SlC NEPair q5 f.pairs, SlC NEEntry v1_l l, SlC NEEntry v3 ahead, SlC NEEntry v4 tail] := hF2 K
     clear hF2 K
     refine s_runk tRe3 Z 1 rfl rfl ?_; clear Z a; intro a Z
     refine s_end Z [0, 2, 7, 11, 12, 9, 8, 17] rfl ?_; clear Z; intro Z
     refine p_then (wp_seq ?_)
     obtain ⟨a0_3, hx13, hF⟩ := bnd_in hF
     refine f_region Z ?_; clear Z; intro Z
     refine s_runk tRe3 Z 3 rfl rfl ?_; clear Z a; intro a Z
     refine s_ob Z (v := .int .i64 f.p) rfl rfl (by decide) rfl (Ob_load tRe3 rfl rfl rfl ((H.bx 4 rfl).cell 9 rfl)) ?_; clear Z a; intro a Z
     refine s_runk tRe3 Z 1 rfl rfl ?_; clear Z a; intro a Z
     refine h_call Z H (js := [(0, true)]) rfl (caps := #[]) fn_10_YRe3 rfl rfl rfl rfl rfl (by decide) rfl rfl (fun D1 hS => have hq := c_relay_Ack hx13 hS; hq) ?_; clear Z a; intro vv a w16 D2 hr hF2 Z
     obtain ⟨q10, q11, q12, q13, q14, rfl, I11, K⟩ := hr
     have H : Hf I D w I11 w16 [SlC NEMember q10 a0_3.conf.members, SlC NEOp q11 a0_3.batch.ops, SlC NEEntry q12 a0_3.entries, SlC Nu64 q13 a0_3.stamps, SlC NEPair q14 a0_3.pairs, SlC NEEntry q9 l_3.1, SlC NENote q8 a0_2, SlC NEEntry q7 l_2.1, SlC NENote q6 t.1, BxC b1 37 (cEMsg f q1 q2 q3 q4 q5), SlC NEMember q1 f.conf.members, SlC NEOp q2 f.batch.ops, SlC NEEntry q3 f.entries, SlC Nu64 q4 f.stamps, SlC NEPair q5 f.pairs, SlC NEEntry v1_l l, SlC NEEntry v3 ahead, SlC NEEntry v4 tail] := hF2 K
     clear hF2 K
     refine h_alloc Z H (cl := [.int .i64 0, .int .i64 0, .int .i64 0, .int .i64 0, .bool false, .int .u64 0, .int .u64 0, .int .i64 0, .int .i64 0, .int .i64 0, .int .i64 0, .string ByteArray.empty, .string ByteArray.empty, .int .i64 0, .slice none 0 0, .int .u64 0, .int .i64 0, .int .i64 0, .slice none 0 0, .slice none 0 0, .slice none 0 0, .slice none 0 0]) (z := .agg #[.int .i64 0, .int .i64 0, .int .i64 0, .int .i64 0, .bool false, .int .u64 0, .int .u64 0, .int .i64 0, .int .i64 0, .int .i64 0, .int .i64 0, .string ByteArray.empty, .string ByteArray.empty, .int .i64 0, .slice none 0 0, .int .u64 0, .int .i64 0, .int .i64 0, .slice none 0 0, .slice none 0 0, .slice none 0 0, .slice none 0 0]) rfl rfl rfl (by decide) rfl (by kernel_rfl) rfl ?_; clear Z a H; intro a w17 b2 H Z
     refine h_store tRe3 Z H 0 rfl rfl rfl rfl rfl rfl rfl rfl rfl (one_cons rfl (one_cons rfl (one_cons rfl (one_cons rfl (one_cons rfl (one_cons rfl (one_cons rfl (one_cons rfl (one_cons rfl (one_cons rfl (one_cons rfl (one_cons rfl (one_cons rfl (one_cons rfl (one_cons (slS.one (H.slshape 1 rfl)) (one_cons rfl (one_cons rfl (one_cons rfl (one_cons (slS.one (H.slshape 2 rfl)) (one_cons (slS.one (H.slshape 3 rfl)) (one_cons (slS.one (H.slshape 4 rfl)) (one_cons (slS.one (H.slshape 5 rfl)) one_nil)))))))))))))))))))))) (Nat.le_of_ble_eq_true rfl) (putCells_all rfl) ?_; clear H; intro w18 H
     dsimp only [List.eraseIdx] at H
     refine s_end Z [0, 2, 7, 11, 9, 8, 18] rfl ?_; clear Z; intro Z
     refine p_then (wp_seq ?_)
     obtain ⟨l_4, hx14, hF⟩ := bnd_in hF
     obtain ⟨l_5, hx15, hF⟩ := bnd_in hF
     refine f_region Z ?_; clear Z; intro Z
     refine s_runk tRe3 Z 3 rfl rfl ?_; clear Z a; intro a Z
     refine s_ob Z (v := .int .i64 (ahead.length : Int)) rfl rfl (by decide) rfl (Ob_slen tRe3 rfl rfl rfl (H.slshape 17 rfl)) ?_; clear Z a; intro a Z
     refine s_ob Z (v := .agg #[.int .i64 a0_3.k, .int .i64 a0_3.epoch, .int .i64 a0_3.req, .int .i64 a0_3.serial, .bool a0_3.flag, .int .u64 a0_3.at_, .int .u64 a0_3.last, .int .i64 a0_3.n, .int .i64 a0_3.m, .int .i64 a0_3.p, .int .i64 a0_3.e, .string a0_3.key, .string a0_3.to_, .int .i64 a0_3.conf.epoch, q10, .int .u64 a0_3.conf.floor, .int .i64 a0_3.batch.client, .int .i64 a0_3.batch.req, q11, q12, q13, q14]) rfl rfl (by decide) rfl (Ob_loads tRe3 rfl rfl rfl ((H.bx 0 rfl).part 0 rfl)) ?_; clear Z a; intro a Z
     refine h_call Z H (js := [(17, true), (1, true), (2, true), (3, true), (4, true), (5, true)]) rfl (caps := #[]) fn_16_YRe3 rfl rfl rfl rfl rfl (by decide) rfl rfl (fun D1 hS => have hq := c_relay_Learn hx14 hS; hq) ?_; clear Z a; intro vv a w19 D2 hr hF2 Z
     obtain ⟨q15, hvv, I12, K⟩ := hr; obtain rfl := hvv.symm
     have H : Hf I D w I12 w19 [SlC NENote q15 l_4, BxC b2 37 (cEMsg a0_3 q10 q11 q12 q13 q14), SlC NEMember q10 a0_3.conf.members, SlC NEOp q11 a0_3.batch.ops, SlC NEEntry q12 a0_3.entries, SlC Nu64 q13 a0_3.stamps, SlC NEPair q14 a0_3.pairs, SlC NEEntry q9 l_3.1, SlC NENote q8 a0_2, SlC NEEntry q7 l_2.1, SlC NENote q6 t.1, BxC b1 37 (cEMsg f q1 q2 q3 q4 q5), SlC NEMember q1 f.conf.members, SlC NEOp q2 f.batch.ops, SlC NEEntry q3 f.entries, SlC Nu64 q4 f.stamps, SlC NEPair q5 f.pairs, SlC NEEntry v1_l l, SlC NEEntry v3 ahead, SlC NEEntry v4 tail] := hF2 K
     clear hF2 K
     refine h_call Z H (js := [(18, true), (0, true)]) rfl (caps := #[]) fn_23_YRe3 rfl rfl rfl rfl rfl (by decide) rfl rfl (fun D1 hS => have hq := c_law32_laid hx15 hS; hq) ?_; clear Z a; intro vv a w20 D2 hr hF2 Z
     obtain ⟨q16, rfl, I13, K⟩ := hr
     have H : Hf I D w I13 w20 [SlC NEEntry q16 l_5.1, SlC NENote q15 l_4, BxC b2 37 (cEMsg a0_3 q10 q11 q12 q13 q14), SlC NEMember q10 a0_3.conf.members, SlC NEOp q11 a0_3.batch.ops, SlC NEEntry q12 a0_3.entries, SlC Nu64 q13 a0_3.stamps, SlC NEPair q14 a0_3.pairs, SlC NEEntry q9 l_3.1, SlC NENote q8 a0_2, SlC NEEntry q7 l_2.1, SlC NENote q6 t.1, BxC b1 37 (cEMsg f q1 q2 q3 q4 q5), SlC NEMember q1 f.conf.members, SlC NEOp q2 f.batch.ops, SlC NEEntry q3 f.entries, SlC Nu64 q4 f.stamps, SlC NEPair q5 f.pairs, SlC NEEntry v1_l l, SlC NEEntry v3 ahead, SlC NEEntry v4 tail] := hF2 K
     clear hF2 K
     refine s_runk tRe3 Z 5 rfl rfl ?_; clear Z a; intro a Z
     refine s_end Z [0, 2, 11, 9, 8, 18, 19, 16] rfl ?_; clear Z; intro Z
     refine p_then (wp_seq ?_)
     refine wp_seq (f_region Z ?_); clear Z; intro Z
     refine s_runk tRe3 Z 2 rfl rfl ?_; clear Z a; intro a Z
     refine s_end Z [0, 2, 11, 9, 8, 18, 19, 116] rfl ?_; clear Z; intro Z
     refine p_then ?_
     refine f_cond Z rfl (fun hc5 => ?_) (fun hc5 => ?_)
     ·replace hF := ite_t hc5 hF
      refine wp_seq (f_region Z ?_); clear Z; intro Z
      refine s_runk tRe3 Z 1 rfl rfl ?_; clear Z a; intro a Z
      refine s_end Z [6] rfl ?_; clear Z; intro Z
      refine p_then (wp_ret ?_)
      refine p_then_r ?_
      refine p_blk_r ?_
      refine p_then_r ?_
      refine p_then_r ?_
      refine p_blk_r ?_
      refine p_then_r ?_
      obtain rfl := some_in hF
      exact f_ret Z (run_results1 rfl Z rfl) ⟨rfl, I13, (H.sub [] rfl).eq rfl⟩
     ·replace hF := ite_f hc5 hF
      refine wp_skip ?_
      refine p_then (wp_seq (f_region Z ?_)); clear Z; intro Z
      refine s_runk tRe3 Z 2 rfl rfl ?_; clear Z a; intro a Z
      refine s_end Z [0, 2, 11, 9, 8, 18, 7] rfl ?_; clear Z; intro Z
      refine p_then ?_
      obtain ⟨g, hx16, hF⟩ := bnd_in hF
      refine f_region Z ?_; clear Z; intro Z
      refine s_ob Z (v := .agg #[.int .i64 a0_3.k, .int .i64 a0_3.epoch, .int .i64 a0_3.req, .int .i64 a0_3.serial, .bool a0_3.flag, .int .u64 a0_3.at_, .int .u64 a0_3.last, .int .i64 a0_3.n, .int .i64 a0_3.m, .int .i64 a0_3.p, .int .i64 a0_3.e, .string a0_3.key, .string a0_3.to_, .int .i64 a0_3.conf.epoch, q10, .int .u64 a0_3.conf.floor, .int .i64 a0_3.batch.client, .int .i64 a0_3.batch.req, q11, q12, q13, q14]) rfl rfl (by decide) rfl (Ob_loads tRe3 rfl rfl rfl ((H.bx 2 rfl).part 0 rfl)) ?_; clear Z a; intro a Z
      refine s_runk tRe3 Z 1 rfl rfl ?_; clear Z a; intro a Z
      refine s_ob Z (v := .int .i64 (l_5.1.length : Int)) rfl rfl (by decide) rfl (Ob_slen tRe3 rfl rfl rfl (H.slshape 0 rfl)) ?_; clear Z a; intro a Z
      refine h_call Z H (js := [(3, true), (4, true), (5, true), (6, true), (7, true)]) rfl (caps := #[]) fn_20_YRe3 rfl rfl rfl rfl rfl (by decide) rfl rfl (fun D1 hS => have hq := c_relay_Good hx16 hS; hq) ?_; clear Z a; intro vv a w21 D2 hr hF2 Z
      obtain ⟨rfl, I14, K⟩ := hr
      have H : Hf I D w I14 w21 [SlC NEEntry q16 l_5.1, SlC NENote q15 l_4, BxC b2 37 (cEMsg a0_3 q10 q11 q12 q13 q14), SlC NEMember q10 a0_3.conf.members, SlC NEOp q11 a0_3.batch.ops, SlC NEEntry q12 a0_3.entries, SlC Nu64 q13 a0_3.stamps, SlC NEPair q14 a0_3.pairs, SlC NEEntry q9 l_3.1, SlC NENote q8 a0_2, SlC NEEntry q7 l_2.1, SlC NENote q6 t.1, BxC b1 37 (cEMsg f q1 q2 q3 q4 q5), SlC NEMember q1 f.conf.members, SlC NEOp q2 f.batch.ops, SlC NEEntry q3 f.entries, SlC Nu64 q4 f.stamps, SlC NEPair q5 f.pairs, SlC NEEntry v1_l l, SlC NEEntry v3 ahead, SlC NEEntry v4 tail] := hF2 K
      clear hF2 K
      refine s_runk tRe3 Z 1 rfl rfl ?_; clear Z a; intro a Z
      refine s_end Z [0, 2, 11, 9, 8, 7, 10] rfl ?_; clear Z; intro Z
      refine p_blk ?_
      refine p_then ?_
      obtain ⟨hg3, hF⟩ := chk_in hF
      refine f_region Z ?_; clear Z; intro Z
      refine s_runk tRe3 Z 1 rfl rfl ?_; clear Z a; intro a Z
      refine s_ob Z (v := .int .i64 (i + 1)) rfl rfl (by decide) rfl (Ob_add rfl rfl rfl (wrI hg3)) ?_; clear Z a; intro a Z
      refine s_runk tRe3 Z 1 rfl rfl ?_; clear Z a; intro a Z
      refine s_end Z [0, 2, 11, 9, 8, 7, 10] rfl ?_; clear Z; intro Z
      refine p_then ?_
      exact ⟨(l_5.1, l_3.1, t.2, g, i + 1), ⟨q16, q9, Z.sub (ts := [0, 2, 7, 8, 9, 10, 11]) rfl, ⟨I14, (H.sub [(18, true), (0, true), (8, true)] rfl).eq rfl⟩⟩, hF⟩
  ·replace hF := ite_f hc2 hF
   refine wp_exit ?_
   refine p_then_x ?_
   refine p_then_x ?_
   refine f_exit_here ?_
   refine p_then (wp_seq ?_)
   refine wp_seq (f_region Z ?_); clear Z; intro Z
   refine s_runk tRe3 Z 2 rfl rfl ?_; clear Z a; intro a Z
   refine s_ob Z (v := .int .i64 (l.length : Int)) rfl rfl (by decide) rfl (Ob_slen tRe3 rfl rfl rfl (H.slshape 0 rfl)) ?_; clear Z a; intro a Z
   refine s_runk tRe3 Z 2 rfl rfl ?_; clear Z a; intro a Z
   refine g_ob Z (p := (!(good != (l.length : Int)))) (v := .int .i64 knows) (S' := [(10, .int .i64 knows)]) rfl rfl rfl (wantB_f _) rfl (by decide) (fun hp hS => hS.sub (ts := [10]) rfl) (fun hp => Ob_c tRe3 rfl) ?_; clear Z a; intro a Z
   refine g_ob Z (p := (!(good != (l.length : Int)))) (v := v1_l) (S' := [(0, v1_l)]) rfl rfl rfl (wantB_f _) rfl (by decide) (fun hp hS => hS.sub (ts := [0]) rfl) (fun hp => Ob_c tRe3 rfl) ?_; clear Z a; intro a Z
   refine g_ob Z (p := (!(good != (l.length : Int)))) (v := .int .i64 (l.length : Int)) (S' := [(128, v1_l)]) rfl rfl rfl (wantB_f _) rfl (by decide) (fun hp hS => (hS.conv (t := 128) rfl (cond_t hp)).sub (ts := [128]) rfl) (fun hp => Ob_slen tRe3 rfl rfl rfl (H.slshape 0 rfl)) ?_; clear Z a; intro a Z
   refine g_ob Z (p := (!(good != (l.length : Int)))) (v := .bool (knows != (l.length : Int))) (S' := [(127, .int .i64 knows), (129, .int .i64 (l.length : Int))]) rfl rfl rfl (wantB_f _) rfl (by decide) (fun hp hS => ((hS.conv (t := 127) rfl (cond_t hp)).conv (t := 129) rfl (cond_t hp)).sub (ts := [127, 129]) rfl) (fun hp => Ob_c tRe3 rfl) ?_; clear Z a; intro a Z
   refine s_ob Z (v := .bool ((good != (l.length : Int)) || (knows != (l.length : Int)))) rfl rfl (by decide) rfl (Ob_pick rfl rfl rfl rfl (pick_or _ _)) ?_; clear Z a; intro a Z
   refine s_runk tRe3 Z 1 rfl rfl ?_; clear Z a; intro a Z
   refine g_ob Z (p := (!((good != (l.length : Int)) || (knows != (l.length : Int))))) (v := v4) (S' := [(8, v4)]) rfl rfl rfl (wantB_f _) rfl (by decide) (fun hp hS => hS.sub (ts := [8]) rfl) (fun hp => Ob_c tRe3 rfl) ?_; clear Z a; intro a Z
   refine g_ob Z (p := (!((good != (l.length : Int)) || (knows != (l.length : Int))))) (v := .int .i64 (tail.length : Int)) (S' := [(133, v4)]) rfl rfl rfl (wantB_f _) rfl (by decide) (fun hp hS => (hS.conv (t := 133) rfl (cond_t hp)).sub (ts := [133]) rfl) (fun hp => Ob_slen tRe3 rfl rfl rfl (H.slshape 2 rfl)) ?_; clear Z a; intro a Z
   refine g_ob Z (p := (!((good != (l.length : Int)) || (knows != (l.length : Int))))) (v := v1_l) (S' := [(0, v1_l)]) rfl rfl rfl (wantB_f _) rfl (by decide) (fun hp hS => hS.sub (ts := [0]) rfl) (fun hp => Ob_c tRe3 rfl) ?_; clear Z a; intro a Z
   refine g_ob Z (p := (!((good != (l.length : Int)) || (knows != (l.length : Int))))) (v := .int .i64 (l.length : Int)) (S' := [(135, v1_l)]) rfl rfl rfl (wantB_f _) rfl (by decide) (fun hp hS => (hS.conv (t := 135) rfl (cond_t hp)).sub (ts := [135]) rfl) (fun hp => Ob_slen tRe3 rfl rfl rfl (H.slshape 0 rfl)) ?_; clear Z a; intro a Z
   refine g_ob Z (p := (!((good != (l.length : Int)) || (knows != (l.length : Int))))) (v := .bool (decide ((tail.length : Int) < (l.length : Int)))) (S' := [(134, .int .i64 (tail.length : Int)), (136, .int .i64 (l.length : Int))]) rfl rfl rfl (wantB_f _) rfl (by decide) (fun hp hS => ((hS.conv (t := 134) rfl (cond_t hp)).conv (t := 136) rfl (cond_t hp)).sub (ts := [134, 136]) rfl) (fun hp => Ob_c tRe3 rfl) ?_; clear Z a; intro a Z
   refine s_ob Z (v := .bool (((good != (l.length : Int)) || (knows != (l.length : Int))) || (decide ((tail.length : Int) < (l.length : Int))))) rfl rfl (by decide) rfl (Ob_pick rfl rfl rfl rfl (pick_or _ _)) ?_; clear Z a; intro a Z
   refine s_runk tRe3 Z 1 rfl rfl ?_; clear Z a; intro a Z
   refine g_ob Z (p := (!(((good != (l.length : Int)) || (knows != (l.length : Int))) || (decide ((tail.length : Int) < (l.length : Int)))))) (v := v3) (S' := [(7, v3)]) rfl rfl rfl (wantB_f _) rfl (by decide) (fun hp hS => hS.sub (ts := [7]) rfl) (fun hp => Ob_c tRe3 rfl) ?_; clear Z a; intro a Z
   refine g_ob Z (p := (!(((good != (l.length : Int)) || (knows != (l.length : Int))) || (decide ((tail.length : Int) < (l.length : Int)))))) (v := .int .i64 (ahead.length : Int)) (S' := [(140, v3)]) rfl rfl rfl (wantB_f _) rfl (by decide) (fun hp hS => (hS.conv (t := 140) rfl (cond_t hp)).sub (ts := [140]) rfl) (fun hp => Ob_slen tRe3 rfl rfl rfl (H.slshape 1 rfl)) ?_; clear Z a; intro a Z
   refine g_ob Z (p := (!(((good != (l.length : Int)) || (knows != (l.length : Int))) || (decide ((tail.length : Int) < (l.length : Int)))))) (v := v1_l) (S' := [(0, v1_l)]) rfl rfl rfl (wantB_f _) rfl (by decide) (fun hp hS => hS.sub (ts := [0]) rfl) (fun hp => Ob_c tRe3 rfl) ?_; clear Z a; intro a Z
   refine g_ob Z (p := (!(((good != (l.length : Int)) || (knows != (l.length : Int))) || (decide ((tail.length : Int) < (l.length : Int)))))) (v := .int .i64 (l.length : Int)) (S' := [(142, v1_l)]) rfl rfl rfl (wantB_f _) rfl (by decide) (fun hp hS => (hS.conv (t := 142) rfl (cond_t hp)).sub (ts := [142]) rfl) (fun hp => Ob_slen tRe3 rfl rfl rfl (H.slshape 0 rfl)) ?_; clear Z a; intro a Z
   refine g_ob Z (p := (!(((good != (l.length : Int)) || (knows != (l.length : Int))) || (decide ((tail.length : Int) < (l.length : Int)))))) (v := .bool ((ahead.length : Int) != (l.length : Int))) (S' := [(141, .int .i64 (ahead.length : Int)), (143, .int .i64 (l.length : Int))]) rfl rfl rfl (wantB_f _) rfl (by decide) (fun hp hS => ((hS.conv (t := 141) rfl (cond_t hp)).conv (t := 143) rfl (cond_t hp)).sub (ts := [141, 143]) rfl) (fun hp => Ob_c tRe3 rfl) ?_; clear Z a; intro a Z
   refine s_ob Z (v := .bool ((((good != (l.length : Int)) || (knows != (l.length : Int))) || (decide ((tail.length : Int) < (l.length : Int)))) || ((ahead.length : Int) != (l.length : Int)))) rfl rfl (by decide) rfl (Ob_pick rfl rfl rfl rfl (pick_or _ _)) ?_; clear Z a; intro a Z
   refine s_end Z [0, 7, 8, 145] rfl ?_; clear Z; intro Z
   refine p_then ?_
   refine f_cond Z rfl (fun hc6 => ?_) (fun hc6 => ?_)
   ·replace hF := ite_t hc6 hF
    refine wp_seq (f_region Z ?_); clear Z; intro Z
    refine s_runk tRe3 Z 1 rfl rfl ?_; clear Z a; intro a Z
    refine s_end Z [6] rfl ?_; clear Z; intro Z
    refine p_then (wp_ret ?_)
    refine p_then_r ?_
    obtain rfl := some_in hF
    exact f_ret Z (run_results1 rfl Z rfl) ⟨rfl, I3, (H.sub [] rfl).eq rfl⟩
   ·replace hF := ite_f hc6 hF
    refine wp_skip ?_
    refine p_then (wp_seq ?_)
    obtain ⟨s0_2, hx17, hF⟩ := bnd_in hF
    refine f_region Z ?_; clear Z; intro Z
    refine s_runk tRe3 Z 1 rfl rfl ?_; clear Z a; intro a Z
    refine h_call Z H (js := [(1, true)]) rfl (caps := #[]) fn_25_YRe3 rfl rfl rfl rfl rfl (by decide) rfl rfl (fun D1 hS => have hq := c_ref08_Stamped hx17 hS; hq) ?_; clear Z a; intro vv a w22 D2 hr hF2 Z
    obtain ⟨rfl, I15, K⟩ := hr
    have H : Hf I D w I15 w22 [SlC NEEntry v1_l l, SlC NEEntry v3 ahead, SlC NEEntry v4 tail] := hF2 K
    clear hF2 K
    refine s_runk tRe3 Z 1 rfl rfl ?_; clear Z a; intro a Z
    refine s_end Z [0, 7, 8, 20] rfl ?_; clear Z; intro Z
    refine p_then (wp_seq ?_)
    refine wp_seq (f_region Z ?_); clear Z; intro Z
    refine s_runk tRe3 Z 1 rfl rfl ?_; clear Z a; intro a Z
    refine s_end Z [0, 7, 8, 20, 21] rfl ?_; clear Z; intro Z
    refine p_then (wp_block ?_)
    refine f_iter hF (fun sg a' w' => match sg with | i_2 => Sl 222 [(0, v1_l), (7, v3), (8, v4), (20, .int .i64 s0_2), (21, .int .i64 i_2)] a' ∧ ∃ I2, Hf I D w I2 w' [SlC NEEntry v1_l l, SlC NEEntry v3 ahead, SlC NEEntry v4 tail]) ⟨Z.sub (ts := [0, 7, 8, 20, 21]) rfl, ⟨I15, (H.sub [(0, true), (1, true), (2, true)] rfl).eq rfl⟩⟩ ?_
    clear Z H hF a
    rintro rc_2 i_2 a w23 ⟨Z, I16, H⟩ hF
    unfold F_law32_RelayAgree_l2 at hF
    try dsimp only at hF
    refine wp_seq ?_
    refine wp_seq (f_region Z ?_); clear Z; intro Z
    refine s_runk tRe3 Z 2 rfl rfl ?_; clear Z a; intro a Z
    refine s_ob Z (v := .int .i64 (l.length : Int)) rfl rfl (by decide) rfl (Ob_slen tRe3 rfl rfl rfl (H.slshape 0 rfl)) ?_; clear Z a; intro a Z
    refine s_runk tRe3 Z 1 rfl rfl ?_; clear Z a; intro a Z
    refine s_end Z [0, 7, 8, 20, 21, 151] rfl ?_; clear Z; intro Z
    refine p_then ?_
    refine f_cond Z rfl (fun hc7 => ?_) (fun hc7 => ?_)
    ·replace hF := ite_t hc7 hF
     refine wp_skip ?_
     refine p_then (wp_seq ?_)
     refine wp_block ?_
     refine wp_seq ?_
     obtain ⟨hg4, hF⟩ := chk_in hF
     obtain ⟨_, ⟨u1, rfl, L1⟩, H⟩ := H.elG 1 rfl (i_2) (NEEntry.dft _ _)
     replace H := H.addsl L1
     replace H : Hf I D w I16 w23 [SlC NEOp u1 (((ahead.getD (i_2).toNat default).batch).ops), AtG ((0 : Int) ≤ i_2 ∧ i_2 < (ahead.length : Int)) (blkOf v3) (oofOf v3 + (i_2).toNat * 4) [.int .i64 (((ahead.getD (i_2).toNat default).batch).client), .int .i64 (((ahead.getD (i_2).toNat default).batch).req), u1, .int .u64 ((ahead.getD (i_2).toNat default).ts)], SlC NEEntry v1_l l, SlC NEEntry v3 ahead, SlC NEEntry v4 tail] := H
     obtain ⟨hg5, hF⟩ := chk_in hF
     obtain ⟨_, ⟨u2, rfl, L2⟩, H⟩ := H.elG 2 rfl (i_2) (NEEntry.dft _ _)
     replace H := H.addsl L2
     replace H : Hf I D w I16 w23 [SlC NEOp u2 (((l.getD (i_2).toNat default).batch).ops), AtG ((0 : Int) ≤ i_2 ∧ i_2 < (l.length : Int)) (blkOf v1_l) (oofOf v1_l + (i_2).toNat * 4) [.int .i64 (((l.getD (i_2).toNat default).batch).client), .int .i64 (((l.getD (i_2).toNat default).batch).req), u2, .int .u64 ((l.getD (i_2).toNat default).ts)], SlC NEOp u1 (((ahead.getD (i_2).toNat default).batch).ops), AtG ((0 : Int) ≤ i_2 ∧ i_2 < (ahead.length : Int)) (blkOf v3) (oofOf v3 + (i_2).toNat * 4) [.int .i64 (((ahead.getD (i_2).toNat default).batch).client), .int .i64 (((ahead.getD (i_2).toNat default).batch).req), u1, .int .u64 ((ahead.getD (i_2).toNat default).ts)], SlC NEEntry v1_l l, SlC NEEntry v3 ahead, SlC NEEntry v4 tail] := H
     obtain ⟨t_2, hx18, hF⟩ := bnd_in hF
     obtain ⟨hg6, hF⟩ := chk_in hF
     obtain ⟨_, ⟨u3, rfl, L3⟩, H⟩ := H.elG 6 rfl (i_2) (NEEntry.dft _ _)
     replace H := H.addsl L3
     replace H : Hf I D w I16 w23 [SlC NEOp u3 (((tail.getD (i_2).toNat default).batch).ops), AtG ((0 : Int) ≤ i_2 ∧ i_2 < (tail.length : Int)) (blkOf v4) (oofOf v4 + (i_2).toNat * 4) [.int .i64 (((tail.getD (i_2).toNat default).batch).client), .int .i64 (((tail.getD (i_2).toNat default).batch).req), u3, .int .u64 ((tail.getD (i_2).toNat default).ts)], SlC NEOp u2 (((l.getD (i_2).toNat default).batch).ops), AtG ((0 : Int) ≤ i_2 ∧ i_2 < (l.length : Int)) (blkOf v1_l) (oofOf v1_l + (i_2).toNat * 4) [.int .i64 (((l.getD (i_2).toNat default).batch).client), .int .i64 (((l.getD (i_2).toNat default).batch).req), u2, .int .u64 ((l.getD (i_2).toNat default).ts)], SlC NEOp u1 (((ahead.getD (i_2).toNat default).batch).ops), AtG ((0 : Int) ≤ i_2 ∧ i_2 < (ahead.length : Int)) (blkOf v3) (oofOf v3 + (i_2).toNat * 4) [.int .i64 (((ahead.getD (i_2).toNat default).batch).client), .int .i64 (((ahead.getD (i_2).toNat default).batch).req), u1, .int .u64 ((ahead.getD (i_2).toNat default).ts)], SlC NEEntry v1_l l, SlC NEEntry v3 ahead, SlC NEEntry v4 tail] := H
     obtain ⟨hg7, hF⟩ := chk_in hF
     obtain ⟨t_3, hx19, hF⟩ := bnd_in hF
     obtain ⟨hg8, hF⟩ := chk_in hF
     obtain ⟨hg9, hF⟩ := chk_in hF
     obtain ⟨hg10, hF⟩ := chk_in hF
     obtain ⟨hg11, hF⟩ := chk_in hF
     obtain ⟨hg12, hF⟩ := chk_in hF
     refine f_quietd (by kernel_rfl) (by kernel_rfl) Z ?_; clear Z; intro Z
     refine q_runk tRe3 Z 2 rfl rfl ?_; clear Z a; intro a Z
     refine q_ob Z (v := .pointer (some ⟨blkOf v3, oofOf v3 + (i_2).toNat * 4, none⟩)) rfl rfl (by decide) rfl (fun _ hw => Ob_sidx tRe3 rfl rfl rfl rfl (slPl ((H.blw hw).sl 7 rfl) hg4) hg4) ?_; clear Z a; intro a Z
     refine q_ob Z (v := .agg #[.int .i64 (((ahead.getD (i_2).toNat default).batch).client), .int .i64 (((ahead.getD (i_2).toNat default).batch).req), u1, .int .u64 ((ahead.getD (i_2).toNat default).ts)]) rfl rfl (by decide) rfl (fun _ hw => Ob_loads tRe3 rfl rfl rfl (((H.blw hw).atg 5 rfl hg4).part 0 rfl)) ?_; clear Z a; intro a Z
     refine q_runk tRe3 Z 2 rfl rfl ?_; clear Z a; intro a Z
     refine q_ob Z (v := .pointer (some ⟨blkOf v1_l, oofOf v1_l + (i_2).toNat * 4, none⟩)) rfl rfl (by decide) rfl (fun _ hw => Ob_sidx tRe3 rfl rfl rfl rfl (slPl ((H.blw hw).sl 6 rfl) hg5) hg5) ?_; clear Z a; intro a Z
     refine q_ob Z (v := .agg #[.int .i64 (((l.getD (i_2).toNat default).batch).client), .int .i64 (((l.getD (i_2).toNat default).batch).req), u2, .int .u64 ((l.getD (i_2).toNat default).ts)]) rfl rfl (by decide) rfl (fun _ hw => Ob_loads tRe3 rfl rfl rfl (((H.blw hw).atg 3 rfl hg5).part 0 rfl)) ?_; clear Z a; intro a Z
     refine q_call Z (caps := #[]) fn_26_YRe3 rfl rfl rfl rfl rfl (by decide) rfl rfl (fun _ hw => (have hq := c_ref08_Twins hx18 (((H.blw hw)).pick0 (js := [(4, true), (2, true)]) rfl rfl); plainC hq)) ?_; clear Z a; intro a Z
     refine q_runk tRe3 Z 2 rfl rfl ?_; clear Z a; intro a Z
     refine gq_ob Z (p := (!(!t_2))) (v := v4) (S' := [(8, v4)]) rfl rfl rfl (wantB_f _) rfl (by decide) (fun hp hS => hS.sub (ts := [8]) rfl) (fun hp _ hw => Ob_c tRe3 rfl) ?_; clear Z a; intro a Z
     refine gq_ob Z (p := (!(!t_2))) (v := .int .i64 i_2) (S' := [(21, .int .i64 i_2)]) rfl rfl rfl (wantB_f _) rfl (by decide) (fun hp hS => hS.sub (ts := [21]) rfl) (fun hp _ hw => Ob_c tRe3 rfl) ?_; clear Z a; intro a Z
     refine gq_ob Z (p := (!(!t_2))) (v := .pointer (some ⟨blkOf v4, oofOf v4 + (i_2).toNat * 4, none⟩)) (S' := [(165, v4), (166, .int .i64 i_2)]) rfl rfl rfl (wantB_f _) rfl (by decide) (fun hp hS => ((hS.conv (t := 165) rfl (cond_t hp)).conv (t := 166) rfl (cond_t hp)).sub (ts := [165, 166]) rfl) (fun hp _ hw => Ob_sidx tRe3 rfl rfl rfl rfl (slPl ((H.blw hw).sl 8 rfl) (hg6 hp)) (hg6 hp)) ?_; clear Z a; intro a Z
     refine gq_ob Z (p := (!(!t_2))) (v := .agg #[.int .i64 (((tail.getD (i_2).toNat default).batch).client), .int .i64 (((tail.getD (i_2).toNat default).batch).req), u3, .int .u64 ((tail.getD (i_2).toNat default).ts)]) (S' := [(167, .pointer (some ⟨blkOf v4, oofOf v4 + (i_2).toNat * 4, none⟩))]) rfl rfl rfl (wantB_f _) rfl (by decide) (fun hp hS => (hS.conv (t := 167) rfl (cond_t hp)).sub (ts := [167]) rfl) (fun hp _ hw => Ob_loads tRe3 rfl rfl rfl (((H.blw hw).atg 1 rfl (hg6 hp)).part 0 rfl)) ?_; clear Z a; intro a Z
     refine gq_ob Z (p := (!(!t_2))) (v := v1_l) (S' := [(0, v1_l)]) rfl rfl rfl (wantB_f _) rfl (by decide) (fun hp hS => hS.sub (ts := [0]) rfl) (fun hp _ hw => Ob_c tRe3 rfl) ?_; clear Z a; intro a Z
     refine gq_ob Z (p := (!(!t_2))) (v := .int .i64 i_2) (S' := [(21, .int .i64 i_2)]) rfl rfl rfl (wantB_f _) rfl (by decide) (fun hp hS => hS.sub (ts := [21]) rfl) (fun hp _ hw => Ob_c tRe3 rfl) ?_; clear Z a; intro a Z
     refine gq_ob Z (p := (!(!t_2))) (v := .pointer (some ⟨blkOf v1_l, oofOf v1_l + (i_2).toNat * 4, none⟩)) (S' := [(169, v1_l), (170, .int .i64 i_2)]) rfl rfl rfl (wantB_f _) rfl (by decide) (fun hp hS => ((hS.conv (t := 169) rfl (cond_t hp)).conv (t := 170) rfl (cond_t hp)).sub (ts := [169, 170]) rfl) (fun hp _ hw => Ob_sidx tRe3 rfl rfl rfl rfl (slPl ((H.blw hw).sl 6 rfl) (hg7 hp)) (hg7 hp)) ?_; clear Z a; intro a Z
     refine gq_ob Z (p := (!(!t_2))) (v := .agg #[.int .i64 (((l.getD (i_2).toNat default).batch).client), .int .i64 (((l.getD (i_2).toNat default).batch).req), u2, .int .u64 ((l.getD (i_2).toNat default).ts)]) (S' := [(171, .pointer (some ⟨blkOf v1_l, oofOf v1_l + (i_2).toNat * 4, none⟩))]) rfl rfl rfl (wantB_f _) rfl (by decide) (fun hp hS => (hS.conv (t := 171) rfl (cond_t hp)).sub (ts := [171]) rfl) (fun hp _ hw => Ob_loads tRe3 rfl rfl rfl (((H.blw hw).atg 3 rfl (hg7 hp)).part 0 rfl)) ?_; clear Z a; intro a Z
     refine gq_call Z (p := (!(!t_2))) (v := .bool t_3) (S' := [(168, .agg #[.int .i64 (((tail.getD (i_2).toNat default).batch).client), .int .i64 (((tail.getD (i_2).toNat default).batch).req), u3, .int .u64 ((tail.getD (i_2).toNat default).ts)]), (172, .agg #[.int .i64 (((l.getD (i_2).toNat default).batch).client), .int .i64 (((l.getD (i_2).toNat default).batch).req), u2, .int .u64 ((l.getD (i_2).toNat default).ts)])]) (caps := #[]) fn_26_YRe3 rfl rfl rfl (wantB_f _) rfl (by decide) (fun hp hS => ((hS.conv (t := 168) rfl (cond_t hp)).conv (t := 172) rfl (cond_t hp)).sub (ts := [168, 172]) rfl) rfl rfl rfl rfl (fun hp _ hw => (have hq := c_ref08_Twins (gif_in hx19 hp) (((H.blw hw)).pick0 (js := [(0, true), (2, true)]) rfl rfl); plainC hq)) ?_; clear Z a; intro a Z
     refine gq_ob Z (p := (!(!t_2))) (v := .bool (!t_3)) (S' := [(173, .bool t_3)]) rfl rfl rfl (wantB_f _) rfl (by decide) (fun hp hS => (hS.conv (t := 173) rfl (cond_t hp)).sub (ts := [173]) rfl) (fun hp _ hw => Ob_c tRe3 rfl) ?_; clear Z a; intro a Z
     refine q_ob Z (v := .bool ((!t_2) || (!t_3))) rfl rfl (by decide) rfl (fun _ hw => Ob_pick rfl rfl rfl rfl (pick_or _ _)) ?_; clear Z a; intro a Z
     refine q_runk tRe3 Z 1 rfl rfl ?_; clear Z a; intro a Z
     refine gq_ob Z (p := (!((!t_2) || (!t_3)))) (v := v3) (S' := [(7, v3)]) rfl rfl rfl (wantB_f _) rfl (by decide) (fun hp hS => hS.sub (ts := [7]) rfl) (fun hp _ hw => Ob_c tRe3 rfl) ?_; clear Z a; intro a Z
     refine gq_ob Z (p := (!((!t_2) || (!t_3)))) (v := .int .i64 i_2) (S' := [(21, .int .i64 i_2)]) rfl rfl rfl (wantB_f _) rfl (by decide) (fun hp hS => hS.sub (ts := [21]) rfl) (fun hp _ hw => Ob_c tRe3 rfl) ?_; clear Z a; intro a Z
     refine gq_ob Z (p := (!((!t_2) || (!t_3)))) (v := .pointer (some ⟨blkOf v3, oofOf v3 + (i_2).toNat * 4, none⟩)) (S' := [(177, v3), (178, .int .i64 i_2)]) rfl rfl rfl (wantB_f _) rfl (by decide) (fun hp hS => ((hS.conv (t := 177) rfl (cond_t hp)).conv (t := 178) rfl (cond_t hp)).sub (ts := [177, 178]) rfl) (fun hp _ hw => Ob_sidx tRe3 rfl rfl rfl rfl (slPl ((H.blw hw).sl 7 rfl) (hg8 hp)) (hg8 hp)) ?_; clear Z a; intro a Z
     refine gq_ob Z (p := (!((!t_2) || (!t_3)))) (v := .pointer (some ⟨blkOf v3, oofOf v3 + (i_2).toNat * 4 + 3, none⟩)) (S' := [(179, .pointer (some ⟨blkOf v3, oofOf v3 + (i_2).toNat * 4, none⟩))]) rfl rfl rfl (wantB_f _) rfl (by decide) (fun hp hS => (hS.conv (t := 179) rfl (cond_t hp)).sub (ts := [179]) rfl) (fun hp _ hw => Ob_c tRe3 rfl) ?_; clear Z a; intro a Z
     refine gq_ob Z (p := (!((!t_2) || (!t_3)))) (v := .int .u64 ((ahead.getD (i_2).toNat default).ts)) (S' := [(180, .pointer (some ⟨blkOf v3, oofOf v3 + (i_2).toNat * 4 + 3, none⟩))]) rfl rfl rfl (wantB_f _) rfl (by decide) (fun hp hS => (hS.conv (t := 180) rfl (cond_t hp)).sub (ts := [180]) rfl) (fun hp _ hw => Ob_load tRe3 rfl rfl rfl (((H.blw hw).atg 5 rfl (hg8 hp)) 3 _ rfl)) ?_; clear Z a; intro a Z
     refine gq_ob Z (p := (!((!t_2) || (!t_3)))) (v := v4) (S' := [(8, v4)]) rfl rfl rfl (wantB_f _) rfl (by decide) (fun hp hS => hS.sub (ts := [8]) rfl) (fun hp _ hw => Ob_c tRe3 rfl) ?_; clear Z a; intro a Z
     refine gq_ob Z (p := (!((!t_2) || (!t_3)))) (v := .int .i64 i_2) (S' := [(21, .int .i64 i_2)]) rfl rfl rfl (wantB_f _) rfl (by decide) (fun hp hS => hS.sub (ts := [21]) rfl) (fun hp _ hw => Ob_c tRe3 rfl) ?_; clear Z a; intro a Z
     refine gq_ob Z (p := (!((!t_2) || (!t_3)))) (v := .pointer (some ⟨blkOf v4, oofOf v4 + (i_2).toNat * 4, none⟩)) (S' := [(182, v4), (183, .int .i64 i_2)]) rfl rfl rfl (wantB_f _) rfl (by decide) (fun hp hS => ((hS.conv (t := 182) rfl (cond_t hp)).conv (t := 183) rfl (cond_t hp)).sub (ts := [182, 183]) rfl) (fun hp _ hw => Ob_sidx tRe3 rfl rfl rfl rfl (slPl ((H.blw hw).sl 8 rfl) (hg9 hp)) (hg9 hp)) ?_; clear Z a; intro a Z
     refine gq_ob Z (p := (!((!t_2) || (!t_3)))) (v := .pointer (some ⟨blkOf v4, oofOf v4 + (i_2).toNat * 4 + 3, none⟩)) (S' := [(184, .pointer (some ⟨blkOf v4, oofOf v4 + (i_2).toNat * 4, none⟩))]) rfl rfl rfl (wantB_f _) rfl (by decide) (fun hp hS => (hS.conv (t := 184) rfl (cond_t hp)).sub (ts := [184]) rfl) (fun hp _ hw => Ob_c tRe3 rfl) ?_; clear Z a; intro a Z
     refine gq_ob Z (p := (!((!t_2) || (!t_3)))) (v := .int .u64 ((tail.getD (i_2).toNat default).ts)) (S' := [(185, .pointer (some ⟨blkOf v4, oofOf v4 + (i_2).toNat * 4 + 3, none⟩))]) rfl rfl rfl (wantB_f _) rfl (by decide) (fun hp hS => (hS.conv (t := 185) rfl (cond_t hp)).sub (ts := [185]) rfl) (fun hp _ hw => Ob_load tRe3 rfl rfl rfl (((H.blw hw).atg 1 rfl (hg9 hp)) 3 _ rfl)) ?_; clear Z a; intro a Z
     refine gq_ob Z (p := (!((!t_2) || (!t_3)))) (v := .bool (((ahead.getD (i_2).toNat default).ts) != ((tail.getD (i_2).toNat default).ts))) (S' := [(181, .int .u64 ((ahead.getD (i_2).toNat default).ts)), (186, .int .u64 ((tail.getD (i_2).toNat default).ts))]) rfl rfl rfl (wantB_f _) rfl (by decide) (fun hp hS => ((hS.conv (t := 181) rfl (cond_t hp)).conv (t := 186) rfl (cond_t hp)).sub (ts := [181, 186]) rfl) (fun hp _ hw => Ob_c tRe3 rfl) ?_; clear Z a; intro a Z
     refine q_ob Z (v := .bool (((!t_2) || (!t_3)) || (((ahead.getD (i_2).toNat default).ts) != ((tail.getD (i_2).toNat default).ts)))) rfl rfl (by decide) rfl (fun _ hw => Ob_pick rfl rfl rfl rfl (pick_or _ _)) ?_; clear Z a; intro a Z
     refine q_runk tRe3 Z 1 rfl rfl ?_; clear Z a; intro a Z
     refine gq_ob Z (p := (!(((!t_2) || (!t_3)) || (((ahead.getD (i_2).toNat default).ts) != ((tail.getD (i_2).toNat default).ts))))) (v := v1_l) (S' := [(0, v1_l)]) rfl rfl rfl (wantB_f _) rfl (by decide) (fun hp hS => hS.sub (ts := [0]) rfl) (fun hp _ hw => Ob_c tRe3 rfl) ?_; clear Z a; intro a Z
     refine gq_ob Z (p := (!(((!t_2) || (!t_3)) || (((ahead.getD (i_2).toNat default).ts) != ((tail.getD (i_2).toNat default).ts))))) (v := .int .i64 i_2) (S' := [(21, .int .i64 i_2)]) rfl rfl rfl (wantB_f _) rfl (by decide) (fun hp hS => hS.sub (ts := [21]) rfl) (fun hp _ hw => Ob_c tRe3 rfl) ?_; clear Z a; intro a Z
     refine gq_ob Z (p := (!(((!t_2) || (!t_3)) || (((ahead.getD (i_2).toNat default).ts) != ((tail.getD (i_2).toNat default).ts))))) (v := .pointer (some ⟨blkOf v1_l, oofOf v1_l + (i_2).toNat * 4, none⟩)) (S' := [(190, v1_l), (191, .int .i64 i_2)]) rfl rfl rfl (wantB_f _) rfl (by decide) (fun hp hS => ((hS.conv (t := 190) rfl (cond_t hp)).conv (t := 191) rfl (cond_t hp)).sub (ts := [190, 191]) rfl) (fun hp _ hw => Ob_sidx tRe3 rfl rfl rfl rfl (slPl ((H.blw hw).sl 6 rfl) (hg10 hp)) (hg10 hp)) ?_; clear Z a; intro a Z
     refine gq_ob Z (p := (!(((!t_2) || (!t_3)) || (((ahead.getD (i_2).toNat default).ts) != ((tail.getD (i_2).toNat default).ts))))) (v := .pointer (some ⟨blkOf v1_l, oofOf v1_l + (i_2).toNat * 4 + 3, none⟩)) (S' := [(192, .pointer (some ⟨blkOf v1_l, oofOf v1_l + (i_2).toNat * 4, none⟩))]) rfl rfl rfl (wantB_f _) rfl (by decide) (fun hp hS => (hS.conv (t := 192) rfl (cond_t hp)).sub (ts := [192]) rfl) (fun hp _ hw => Ob_c tRe3 rfl) ?_; clear Z a; intro a Z
     refine gq_ob Z (p := (!(((!t_2) || (!t_3)) || (((ahead.getD (i_2).toNat default).ts) != ((tail.getD (i_2).toNat default).ts))))) (v := .int .u64 ((l.getD (i_2).toNat default).ts)) (S' := [(193, .pointer (some ⟨blkOf v1_l, oofOf v1_l + (i_2).toNat * 4 + 3, none⟩))]) rfl rfl rfl (wantB_f _) rfl (by decide) (fun hp hS => (hS.conv (t := 193) rfl (cond_t hp)).sub (ts := [193]) rfl) (fun hp _ hw => Ob_load tRe3 rfl rfl rfl (((H.blw hw).atg 3 rfl (hg10 hp)) 3 _ rfl)) ?_; clear Z a; intro a Z
     refine gq_ob Z (p := (!(((!t_2) || (!t_3)) || (((ahead.getD (i_2).toNat default).ts) != ((tail.getD (i_2).toNat default).ts))))) (v := .bool (((l.getD (i_2).toNat default).ts) != 0)) (S' := [(194, .int .u64 ((l.getD (i_2).toNat default).ts))]) rfl rfl rfl (wantB_f _) rfl (by decide) (fun hp hS => (hS.conv (t := 194) rfl (cond_t hp)).sub (ts := [194]) rfl) (fun hp _ hw => Ob_c tRe3 rfl) ?_; clear Z a; intro a Z
     refine gq_ob Z (p := (!(((!t_2) || (!t_3)) || (((ahead.getD (i_2).toNat default).ts) != ((tail.getD (i_2).toNat default).ts))))) (v := .bool (((l.getD (i_2).toNat default).ts) != 0)) (S' := [(195, .bool (((l.getD (i_2).toNat default).ts) != 0))]) rfl rfl rfl (wantB_f _) rfl (by decide) (fun hp hS => (hS.conv (t := 195) rfl (cond_t hp)).sub (ts := [195]) rfl) (fun hp _ hw => Ob_c tRe3 rfl) ?_; clear Z a; intro a Z
     refine gq_ob Z (p := ((!(((!t_2) || (!t_3)) || (((ahead.getD (i_2).toNat default).ts) != ((tail.getD (i_2).toNat default).ts)))) && (((l.getD (i_2).toNat default).ts) != 0))) (v := v3) (S' := [(7, v3)]) rfl rfl rfl (wantB_ct _ _) rfl (by decide) (fun hp hS => hS.sub (ts := [7]) rfl) (fun hp _ hw => Ob_c tRe3 rfl) ?_; clear Z a; intro a Z
     refine gq_ob Z (p := ((!(((!t_2) || (!t_3)) || (((ahead.getD (i_2).toNat default).ts) != ((tail.getD (i_2).toNat default).ts)))) && (((l.getD (i_2).toNat default).ts) != 0))) (v := .int .i64 i_2) (S' := [(21, .int .i64 i_2)]) rfl rfl rfl (wantB_ct _ _) rfl (by decide) (fun hp hS => hS.sub (ts := [21]) rfl) (fun hp _ hw => Ob_c tRe3 rfl) ?_; clear Z a; intro a Z
     refine gq_ob Z (p := ((!(((!t_2) || (!t_3)) || (((ahead.getD (i_2).toNat default).ts) != ((tail.getD (i_2).toNat default).ts)))) && (((l.getD (i_2).toNat default).ts) != 0))) (v := .pointer (some ⟨blkOf v3, oofOf v3 + (i_2).toNat * 4, none⟩)) (S' := [(197, v3), (198, .int .i64 i_2)]) rfl rfl rfl (wantB_ct _ _) rfl (by decide) (fun hp hS => ((hS.conv (t := 197) rfl (cond_t hp)).conv (t := 198) rfl (cond_t hp)).sub (ts := [197, 198]) rfl) (fun hp _ hw => Ob_sidx tRe3 rfl rfl rfl rfl (slPl ((H.blw hw).sl 7 rfl) (hg11 hp)) (hg11 hp)) ?_; clear Z a; intro a Z
     refine gq_ob Z (p := ((!(((!t_2) || (!t_3)) || (((ahead.getD (i_2).toNat default).ts) != ((tail.getD (i_2).toNat default).ts)))) && (((l.getD (i_2).toNat default).ts) != 0))) (v := .pointer (some ⟨blkOf v3, oofOf v3 + (i_2).toNat * 4 + 3, none⟩)) (S' := [(199, .pointer (some ⟨blkOf v3, oofOf v3 + (i_2).toNat * 4, none⟩))]) rfl rfl rfl (wantB_ct _ _) rfl (by decide) (fun hp hS => (hS.conv (t := 199) rfl (cond_t hp)).sub (ts := [199]) rfl) (fun hp _ hw => Ob_c tRe3 rfl) ?_; clear Z a; intro a Z
     refine gq_ob Z (p := ((!(((!t_2) || (!t_3)) || (((ahead.getD (i_2).toNat default).ts) != ((tail.getD (i_2).toNat default).ts)))) && (((l.getD (i_2).toNat default).ts) != 0))) (v := .int .u64 ((ahead.getD (i_2).toNat default).ts)) (S' := [(200, .pointer (some ⟨blkOf v3, oofOf v3 + (i_2).toNat * 4 + 3, none⟩))]) rfl rfl rfl (wantB_ct _ _) rfl (by decide) (fun hp hS => (hS.conv (t := 200) rfl (cond_t hp)).sub (ts := [200]) rfl) (fun hp _ hw => Ob_load tRe3 rfl rfl rfl (((H.blw hw).atg 5 rfl (hg11 hp)) 3 _ rfl)) ?_; clear Z a; intro a Z
     refine gq_ob Z (p := ((!(((!t_2) || (!t_3)) || (((ahead.getD (i_2).toNat default).ts) != ((tail.getD (i_2).toNat default).ts)))) && (((l.getD (i_2).toNat default).ts) != 0))) (v := v1_l) (S' := [(0, v1_l)]) rfl rfl rfl (wantB_ct _ _) rfl (by decide) (fun hp hS => hS.sub (ts := [0]) rfl) (fun hp _ hw => Ob_c tRe3 rfl) ?_; clear Z a; intro a Z
     refine gq_ob Z (p := ((!(((!t_2) || (!t_3)) || (((ahead.getD (i_2).toNat default).ts) != ((tail.getD (i_2).toNat default).ts)))) && (((l.getD (i_2).toNat default).ts) != 0))) (v := .int .i64 i_2) (S' := [(21, .int .i64 i_2)]) rfl rfl rfl (wantB_ct _ _) rfl (by decide) (fun hp hS => hS.sub (ts := [21]) rfl) (fun hp _ hw => Ob_c tRe3 rfl) ?_; clear Z a; intro a Z
     refine gq_ob Z (p := ((!(((!t_2) || (!t_3)) || (((ahead.getD (i_2).toNat default).ts) != ((tail.getD (i_2).toNat default).ts)))) && (((l.getD (i_2).toNat default).ts) != 0))) (v := .pointer (some ⟨blkOf v1_l, oofOf v1_l + (i_2).toNat * 4, none⟩)) (S' := [(202, v1_l), (203, .int .i64 i_2)]) rfl rfl rfl (wantB_ct _ _) rfl (by decide) (fun hp hS => ((hS.conv (t := 202) rfl (cond_t hp)).conv (t := 203) rfl (cond_t hp)).sub (ts := [202, 203]) rfl) (fun hp _ hw => Ob_sidx tRe3 rfl rfl rfl rfl (slPl ((H.blw hw).sl 6 rfl) (hg12 hp)) (hg12 hp)) ?_; clear Z a; intro a Z
     refine gq_ob Z (p := ((!(((!t_2) || (!t_3)) || (((ahead.getD (i_2).toNat default).ts) != ((tail.getD (i_2).toNat default).ts)))) && (((l.getD (i_2).toNat default).ts) != 0))) (v := .pointer (some ⟨blkOf v1_l, oofOf v1_l + (i_2).toNat * 4 + 3, none⟩)) (S' := [(204, .pointer (some ⟨blkOf v1_l, oofOf v1_l + (i_2).toNat * 4, none⟩))]) rfl rfl rfl (wantB_ct _ _) rfl (by decide) (fun hp hS => (hS.conv (t := 204) rfl (cond_t hp)).sub (ts := [204]) rfl) (fun hp _ hw => Ob_c tRe3 rfl) ?_; clear Z a; intro a Z
     refine gq_ob Z (p := ((!(((!t_2) || (!t_3)) || (((ahead.getD (i_2).toNat default).ts) != ((tail.getD (i_2).toNat default).ts)))) && (((l.getD (i_2).toNat default).ts) != 0))) (v := .int .u64 ((l.getD (i_2).toNat default).ts)) (S' := [(205, .pointer (some ⟨blkOf v1_l, oofOf v1_l + (i_2).toNat * 4 + 3, none⟩))]) rfl rfl rfl (wantB_ct _ _) rfl (by decide) (fun hp hS => (hS.conv (t := 205) rfl (cond_t hp)).sub (ts := [205]) rfl) (fun hp _ hw => Ob_load tRe3 rfl rfl rfl (((H.blw hw).atg 3 rfl (hg12 hp)) 3 _ rfl)) ?_; clear Z a; intro a Z
     refine gq_ob Z (p := ((!(((!t_2) || (!t_3)) || (((ahead.getD (i_2).toNat default).ts) != ((tail.getD (i_2).toNat default).ts)))) && (((l.getD (i_2).toNat default).ts) != 0))) (v := .bool (((ahead.getD (i_2).toNat default).ts) != ((l.getD (i_2).toNat default).ts))) (S' := [(201, .int .u64 ((ahead.getD (i_2).toNat default).ts)), (206, .int .u64 ((l.getD (i_2).toNat default).ts))]) rfl rfl rfl (wantB_ct _ _) rfl (by decide) (fun hp hS => ((hS.conv (t := 201) rfl (cond_t hp)).conv (t := 206) rfl (cond_t hp)).sub (ts := [201, 206]) rfl) (fun hp _ hw => Ob_c tRe3 rfl) ?_; clear Z a; intro a Z
     refine gq_ob Z (p := (!(((!t_2) || (!t_3)) || (((ahead.getD (i_2).toNat default).ts) != ((tail.getD (i_2).toNat default).ts))))) (v := .bool ((((l.getD (i_2).toNat default).ts) != 0) && (((ahead.getD (i_2).toNat default).ts) != ((l.getD (i_2).toNat default).ts)))) (S' := [(196, .bool (((l.getD (i_2).toNat default).ts) != 0)), (207, cond ((!(((!t_2) || (!t_3)) || (((ahead.getD (i_2).toNat default).ts) != ((tail.getD (i_2).toNat default).ts)))) && (((l.getD (i_2).toNat default).ts) != 0)) (.bool (((ahead.getD (i_2).toNat default).ts) != ((l.getD (i_2).toNat default).ts))) undef)]) rfl rfl rfl (wantB_f _) rfl (by decide) (fun hp hS => (hS.conv (t := 196) rfl (cond_t hp)).sub (ts := [196, 207]) rfl) (fun hp _ hw => Ob_pick rfl rfl rfl rfl (pick_andp _ _ hp)) ?_; clear Z a; intro a Z
     refine q_ob Z (v := .bool ((((!t_2) || (!t_3)) || (((ahead.getD (i_2).toNat default).ts) != ((tail.getD (i_2).toNat default).ts))) || ((((l.getD (i_2).toNat default).ts) != 0) && (((ahead.getD (i_2).toNat default).ts) != ((l.getD (i_2).toNat default).ts))))) rfl rfl (by decide) rfl (fun _ hw => Ob_pick rfl rfl rfl rfl (pick_or _ _)) ?_; clear Z a; intro a Z
     refine q_end Z [0, 7, 8, 20, 21, 209] rfl ?_; clear Z; intro w24 hb Z
     replace H : Hf I D w I16 w24 [SlC NEOp u3 (((tail.getD (i_2).toNat default).batch).ops), AtG ((0 : Int) ≤ i_2 ∧ i_2 < (tail.length : Int)) (blkOf v4) (oofOf v4 + (i_2).toNat * 4) [.int .i64 (((tail.getD (i_2).toNat default).batch).client), .int .i64 (((tail.getD (i_2).toNat default).batch).req), u3, .int .u64 ((tail.getD (i_2).toNat default).ts)], SlC NEOp u2 (((l.getD (i_2).toNat default).batch).ops), AtG ((0 : Int) ≤ i_2 ∧ i_2 < (l.length : Int)) (blkOf v1_l) (oofOf v1_l + (i_2).toNat * 4) [.int .i64 (((l.getD (i_2).toNat default).batch).client), .int .i64 (((l.getD (i_2).toNat default).batch).req), u2, .int .u64 ((l.getD (i_2).toNat default).ts)], SlC NEOp u1 (((ahead.getD (i_2).toNat default).batch).ops), AtG ((0 : Int) ≤ i_2 ∧ i_2 < (ahead.length : Int)) (blkOf v3) (oofOf v3 + (i_2).toNat * 4) [.int .i64 (((ahead.getD (i_2).toNat default).batch).client), .int .i64 (((ahead.getD (i_2).toNat default).batch).req), u1, .int .u64 ((ahead.getD (i_2).toNat default).ts)], SlC NEEntry v1_l l, SlC NEEntry v3 ahead, SlC NEEntry v4 tail] := H.blw hb
     clear hb
     refine p_then ?_
     refine f_cond Z rfl (fun hc8 => ?_) (fun hc8 => ?_)
     ·replace hF := ite_t hc8 hF
      refine wp_seq (f_region Z ?_); clear Z; intro Z
      refine s_runk tRe3 Z 1 rfl rfl ?_; clear Z a; intro a Z
      refine s_end Z [6] rfl ?_; clear Z; intro Z
      refine p_then (wp_ret ?_)
      refine p_blk_r ?_
      refine p_then_r ?_
      refine p_then_r ?_
      refine p_blk_r ?_
      refine p_then_r ?_
      obtain rfl := some_in hF
      exact f_ret Z (run_results1 rfl Z rfl) ⟨rfl, I16, (H.sub [] rfl).eq rfl⟩
     ·replace hF := ite_f hc8 hF
      refine wp_skip ?_
      refine p_blk ?_
      refine p_then ?_
      obtain ⟨hg13, hF⟩ := chk_in hF
      refine f_region Z ?_; clear Z; intro Z
      refine s_runk tRe3 Z 1 rfl rfl ?_; clear Z a; intro a Z
      refine s_ob Z (v := .int .i64 (i_2 + 1)) rfl rfl (by decide) rfl (Ob_add rfl rfl rfl (wrI hg13)) ?_; clear Z a; intro a Z
      refine s_runk tRe3 Z 1 rfl rfl ?_; clear Z a; intro a Z
      refine s_end Z [0, 7, 8, 20, 21] rfl ?_; clear Z; intro Z
      refine p_then ?_
      exact ⟨(i_2 + 1), ⟨Z.sub (ts := [0, 7, 8, 20, 21]) rfl, ⟨I16, (H.sub [(6, true), (7, true), (8, true)] rfl).eq rfl⟩⟩, hF⟩
    ·replace hF := ite_f hc7 hF
     refine wp_exit ?_
     refine p_then_x ?_
     refine p_then_x ?_
     refine f_exit_here ?_
     refine p_then (wp_seq ?_)
     obtain ⟨l_6, hx20, hF⟩ := bnd_in hF
     obtain ⟨a0_4, hx21, hF⟩ := bnd_in hF
     refine f_region Z ?_; clear Z; intro Z
     refine s_runk tRe3 Z 2 rfl rfl ?_; clear Z a; intro a Z
     refine s_ob Z (v := .int .i64 (l.length : Int)) rfl rfl (by decide) rfl (Ob_slen tRe3 rfl rfl rfl (H.slshape 0 rfl)) ?_; clear Z a; intro a Z
     refine s_runk tRe3 Z 2 rfl rfl ?_; clear Z a; intro a Z
     refine g_ob Z (p := (!(s0_2 == (l.length : Int)))) (v := v3) (S' := [(7, v3)]) rfl rfl rfl (wantB_f _) rfl (by decide) (fun hp hS => hS.sub (ts := [7]) rfl) (fun hp => Ob_c tRe3 rfl) ?_; clear Z a; intro a Z
     refine g_call Z (p := (!(s0_2 == (l.length : Int)))) (v := .int .u64 l_6) (S' := [(215, v3)]) (caps := #[]) fn_27_YRe3 rfl rfl rfl (wantB_f _) rfl (by decide) (fun hp hS => (hS.conv (t := 215) rfl (cond_t hp)).sub (ts := [215]) rfl) rfl rfl rfl rfl (fun hp => (have hq := c_ref08_Last (gif_in hx20 hp) ((H).pick0 (js := [(1, true)]) rfl rfl); plainC hq)) ?_; clear Z a; intro a w25 hb Z
     replace H : Hf I D w I16 w25 [SlC NEEntry v1_l l, SlC NEEntry v3 ahead, SlC NEEntry v4 tail] := H.blw hb
     clear hb
     refine g_ob Z (p := (!(s0_2 == (l.length : Int)))) (v := .bool (l_6 == 18446744073709551615)) (S' := [(216, .int .u64 l_6)]) rfl rfl rfl (wantB_f _) rfl (by decide) (fun hp hS => (hS.conv (t := 216) rfl (cond_t hp)).sub (ts := [216]) rfl) (fun hp => Ob_c tRe3 rfl) ?_; clear Z a; intro a Z
     refine s_ob Z (v := .bool ((s0_2 == (l.length : Int)) || (l_6 == 18446744073709551615))) rfl rfl (by decide) rfl (Ob_pick rfl rfl rfl rfl (pick_or _ _)) ?_; clear Z a; intro a Z
     refine s_runk tRe3 Z 1 rfl rfl ?_; clear Z a; intro a Z
     refine g_call Z (p := ((s0_2 == (l.length : Int)) || (l_6 == 18446744073709551615))) (v := .bool a0_4) (S' := []) (caps := #[]) fn_8_YRe3 rfl rfl rfl (wantB_t _) rfl (by decide) (fun hp hS => hS.sub (ts := []) rfl) rfl rfl rfl rfl (fun hp => (have hq := c_law32_awake (gif_in hx21 hp) ((H).pick0 (js := []) rfl rfl); plainC hq)) ?_; clear Z a; intro a w26 hb Z
     replace H : Hf I D w I16 w26 [SlC NEEntry v1_l l, SlC NEEntry v3 ahead, SlC NEEntry v4 tail] := H.blw hb
     clear hb
     refine s_ob Z (v := .bool (((s0_2 == (l.length : Int)) || (l_6 == 18446744073709551615)) && a0_4)) rfl rfl (by decide) rfl (Ob_pick rfl rfl rfl rfl (pick_and _ _)) ?_; clear Z a; intro a Z
     refine s_runk tRe3 Z 1 rfl rfl ?_; clear Z a; intro a Z
     refine s_end Z [6] rfl ?_; clear Z; intro Z
     refine p_then (wp_ret ?_)
     obtain rfl := some_in hF
     exact f_ret Z (run_results1 rfl Z rfl) ⟨rfl, I16, (H.sub [] rfl).eq rfl⟩

end Go.Proofs.Ytmdoimpeacndaaa
