/- What is adopted: the document's. -/
import Derived.Test.YtdofpehcojboeaaYAd2
namespace Go.Proofs.Ytdofpehcojboeaa
open Go.RowKit
def tAd4L : TabL := ⟨[(34817, 3), (65536, 0)], [], [], [(22, (34, 4)), (25, (54, 18))], [(22, (1, false)), (32, (1, false)), (34, (4, true)), (64, (1, true))]⟩

def tAd4 : Tab Try.prog := ⟨tAd4L, by kernel_rfl⟩

theorem fn_19_YAd4 : IsFn Try.prog 19 := ⟨_, Try.func19, by kernel_rfl, by kernel_rfl⟩

theorem fn_28_YAd4 : IsFn Try.prog 28 := ⟨_, Try.func28, by kernel_rfl, by kernel_rfl⟩

def F_ref08_Right_l2 (l : List EEntry) (i : Int) (rc : Int → Option Int) (rc_2 : Int → Option Int) (sg : Int) : Option Int := match sg with | k => if (decide (k < i)) = true then (chk ((0 : Int) ≤ k ∧ k < (l.length : Int)) (chk ((0 : Int) ≤ i ∧ i < (l.length : Int)) ((F_ref08_Twins ({ (l.getD (k).toNat default) with batch := ({ client := ((l.getD (k).toNat default).batch).client, req := ((l.getD (k).toNat default).batch).req, ops := ((l.getD (k).toNat default).batch).ops } : EBatch) } : EEntry) ({ (l.getD (i).toNat default) with batch := ({ client := ((l.getD (i).toNat default).batch).client, req := ((l.getD (i).toNat default).batch).req, ops := ((l.getD (i).toNat default).batch).ops } : EBatch) } : EEntry)).bind fun t => (if (t) = true then (some 18) else (chk (inI (k + 1)) (rc_2 (k + 1))))))) else (chk ((decide (i > 0)) = true → (0 : Int) ≤ i ∧ i < (l.length : Int)) (chk (((decide (i > 0)) && (((l.getD (i).toNat default).ts) != 0)) = true → inI (i - 1)) (chk (((decide (i > 0)) && (((l.getD (i).toNat default).ts) != 0)) = true → (0 : Int) ≤ i - 1 ∧ i - 1 < (l.length : Int)) (chk ((((decide (i > 0)) && (((l.getD (i).toNat default).ts) != 0)) && (!(((l.getD (i - 1).toNat default).ts) == 0))) = true → inI (i - 1)) (chk ((((decide (i > 0)) && (((l.getD (i).toNat default).ts) != 0)) && (!(((l.getD (i - 1).toNat default).ts) == 0))) = true → (0 : Int) ≤ i - 1 ∧ i - 1 < (l.length : Int)) (chk ((((decide (i > 0)) && (((l.getD (i).toNat default).ts) != 0)) && (!(((l.getD (i - 1).toNat default).ts) == 0))) = true → (0 : Int) ≤ i ∧ i < (l.length : Int)) (if (((decide (i > 0)) && (((l.getD (i).toNat default).ts) != 0)) && ((((l.getD (i - 1).toNat default).ts) == 0) || (decide ((l.getD (i - 1).toNat default).ts ≥ (l.getD (i).toNat default).ts)))) = true then (some 18) else (chk (inI (i + 1)) (rc (i + 1))))))))))

def F_ref08_Right_l1 (l : List EEntry) (rc : Int → Option Int) (sg : Int) : Option Int := match sg with | i => if (decide (i < (l.length : Int))) = true then (chk ((0 : Int) ≤ i ∧ i < (l.length : Int)) ((F_ref08_Check ({ (l.getD (i).toNat default) with batch := ({ client := ((l.getD (i).toNat default).batch).client, req := ((l.getD (i).toNat default).batch).req, ops := ((l.getD (i).toNat default).batch).ops } : EBatch) } : EEntry)).bind fun c => (if (c != 0) = true then (some c) else (iter (F_ref08_Right_l2 l i rc) FU 0)))) else (some 0)

def F_ref08_Right (l : List EEntry) : Option Int := iter (F_ref08_Right_l1 l) FU 0

set_option maxHeartbeats 1000000 in
theorem c_ref08_Right {I D : Dm} {l : List EEntry} {v1_l : Value} {w : World} {rr : Int} (hF : F_ref08_Right l = some rr) (H : St I D w [SlC NEEntry v1_l l]) :
  Calls Try.prog 17 #[v1_l] w (Ret fun vv w' => vv = .int .i64 rr ∧ ∃ I', Hf I D w I' w' []) := by
 replace H := H.hf
 unfold F_ref08_Right at hF
 refine f_enter 67 Try.func17 rfl rfl (Nat.le_of_ble_eq_true rfl) fun a Z => ?_
 replace Z := Z.sub (ts := [0]) rfl
 refine wp_seq (f_region Z ?_); clear Z; intro Z
 refine s_runk tAd4 Z 1 rfl rfl ?_; clear Z a; intro a Z
 refine s_end Z [0, 2] rfl ?_; clear Z; intro Z
 refine p_then (wp_seq ?_)
 refine wp_seq (f_region Z ?_); clear Z; intro Z
 refine s_runk tAd4 Z 1 rfl rfl ?_; clear Z a; intro a Z
 refine s_end Z [0, 2, 3] rfl ?_; clear Z; intro Z
 refine p_then (wp_block ?_)
 refine f_iter hF (fun sg a' w' => match sg with | i => Sl 67 [(0, v1_l), (2, .int .i64 0), (3, .int .i64 i)] a' ∧ ∃ I2, Hf I D w I2 w' [SlC NEEntry v1_l l]) ⟨Z.sub (ts := [0, 2, 3]) rfl, ⟨I, (H.sub [(0, true)] rfl).eq rfl⟩⟩ ?_
 clear Z H hF a
 rintro rc i a w1 ⟨Z, I1, H⟩ hF
 unfold F_ref08_Right_l1 at hF
 try dsimp only at hF
 refine wp_seq ?_
 refine wp_seq (f_region Z ?_); clear Z; intro Z
 refine s_runk tAd4 Z 2 rfl rfl ?_; clear Z a; intro a Z
 refine s_ob Z (v := .int .i64 (l.length : Int)) rfl rfl (by decide) rfl (Ob_slen tAd4 rfl rfl rfl (H.slshape 0 rfl)) ?_; clear Z a; intro a Z
 refine s_runk tAd4 Z 1 rfl rfl ?_; clear Z a; intro a Z
 refine s_end Z [0, 2, 3, 6, 7, 8, 9] rfl ?_; clear Z; intro Z
 refine p_then ?_
 refine f_cond Z rfl (fun hc1 => ?_) (fun hc1 => ?_)
 ·replace hF := ite_t hc1 hF
  refine wp_skip ?_
  refine p_then (wp_seq ?_)
  refine wp_block ?_
  refine wp_seq ?_
  refine wp_seq ?_
  obtain ⟨hg1, hF⟩ := chk_in hF
  obtain ⟨c, hx1, hF⟩ := bnd_in hF
  refine f_region Z ?_; clear Z; intro Z
  refine s_runk tAd4 Z 2 rfl rfl ?_; clear Z a; intro a Z
  refine s_ob Z (v := .pointer (some ⟨blkOf v1_l, oofOf v1_l + (i).toNat * 4, none⟩)) rfl rfl (by decide) rfl (Ob_sidx tAd4 rfl rfl rfl rfl (slPl (H.sl 0 rfl) hg1) hg1) ?_; clear Z a; intro a Z
  obtain ⟨_, ⟨u1, rfl, L1⟩, H⟩ := H.elG 0 rfl (i) (NEEntry.dft _ _)
  replace H := H.addsl L1
  replace H : Hf I D w I1 w1 [SlC NEOp u1 (((l.getD (i).toNat default).batch).ops), AtG ((0 : Int) ≤ i ∧ i < (l.length : Int)) (blkOf v1_l) (oofOf v1_l + (i).toNat * 4) [.int .i64 (((l.getD (i).toNat default).batch).client), .int .i64 (((l.getD (i).toNat default).batch).req), u1, .int .u64 ((l.getD (i).toNat default).ts)], SlC NEEntry v1_l l] := H
  refine s_ob Z (v := .agg #[.int .i64 (((l.getD (i).toNat default).batch).client), .int .i64 (((l.getD (i).toNat default).batch).req), u1, .int .u64 ((l.getD (i).toNat default).ts)]) rfl rfl (by decide) rfl (Ob_loads tAd4 rfl rfl rfl ((H.atg 1 rfl hg1).part 0 rfl)) ?_; clear Z a; intro a Z
  refine h_call Z H (js := [(0, true)]) rfl (caps := #[]) fn_28_YAd4 rfl rfl rfl rfl rfl (by decide) rfl rfl (fun D1 hS => have hq := c_ref08_Check hx1 hS; hq) ?_; clear Z a; intro vv a w2 D2 hr hF2 Z
  obtain ⟨rfl, I2, K⟩ := hr
  have H : Hf I D w I2 w2 [SlC NEOp u1 (((l.getD (i).toNat default).batch).ops), AtG ((0 : Int) ≤ i ∧ i < (l.length : Int)) (blkOf v1_l) (oofOf v1_l + (i).toNat * 4) [.int .i64 (((l.getD (i).toNat default).batch).client), .int .i64 (((l.getD (i).toNat default).batch).req), u1, .int .u64 ((l.getD (i).toNat default).ts)], SlC NEEntry v1_l l] := hF2 K
  clear hF2 K
  refine s_runk tAd4 Z 1 rfl rfl ?_; clear Z a; intro a Z
  refine s_end Z [0, 2, 3, 6, 7, 8, 9, 12, 13, 14, 15, 16, 4] rfl ?_; clear Z; intro Z
  refine p_then (wp_seq (f_region Z ?_)); clear Z; intro Z
  refine s_runk tAd4 Z 2 rfl rfl ?_; clear Z a; intro a Z
  refine s_end Z [0, 2, 3, 6, 7, 8, 9, 12, 13, 14, 15, 16, 4, 17, 18] rfl ?_; clear Z; intro Z
  refine p_then ?_
  refine f_cond Z rfl (fun hc2 => ?_) (fun hc2 => ?_)
  ·replace hF := ite_t hc2 hF
   refine wp_seq (f_region Z ?_); clear Z; intro Z
   refine s_runk tAd4 Z 2 rfl rfl ?_; clear Z a; intro a Z
   refine s_end Z [0, 2, 3, 6, 7, 8, 9, 12, 13, 14, 15, 16, 4, 17, 18, 19] rfl ?_; clear Z; intro Z
   refine p_then (wp_ret ?_)
   refine p_then_r ?_
   refine p_blk_r ?_
   refine p_then_r ?_
   refine p_then_r ?_
   refine p_blk_r ?_
   refine p_then_r ?_
   obtain rfl := some_in hF
   exact f_ret Z (run_results1 rfl Z rfl) ⟨rfl, I2, (H.sub [] rfl).eq rfl⟩
  ·replace hF := ite_f hc2 hF
   refine wp_skip ?_
   refine p_then (wp_seq ?_)
   refine wp_seq (f_region Z ?_); clear Z; intro Z
   refine s_runk tAd4 Z 1 rfl rfl ?_; clear Z a; intro a Z
   refine s_end Z [0, 2, 3, 6, 7, 8, 9, 12, 13, 14, 15, 16, 4, 17, 18, 5] rfl ?_; clear Z; intro Z
   refine p_then (wp_block ?_)
   refine f_iter hF (fun sg a' w' => match sg with | k => Sl 67 [(0, v1_l), (2, .int .i64 0), (3, .int .i64 i), (4, .int .i64 c), (5, .int .i64 k), (6, .int .i64 i), (7, v1_l), (8, .int .i64 (l.length : Int)), (9, .bool (decide (i < (l.length : Int)))), (12, v1_l), (13, .int .i64 i), (14, .pointer (some ⟨blkOf v1_l, oofOf v1_l + (i).toNat * 4, none⟩)), (15, .agg #[.int .i64 (((l.getD (i).toNat default).batch).client), .int .i64 (((l.getD (i).toNat default).batch).req), u1, .int .u64 ((l.getD (i).toNat default).ts)]), (16, .int .i64 c), (17, .int .i64 c), (18, .bool (c != 0))] a' ∧ ∃ I2, Hf I D w I2 w' [SlC NEOp u1 (((l.getD (i).toNat default).batch).ops), SlC NEEntry v1_l l]) ⟨Z.sub (ts := [0, 2, 3, 4, 5, 6, 7, 8, 9, 12, 13, 14, 15, 16, 17, 18]) rfl, ⟨I2, (H.sub [(0, true), (2, true)] rfl).eq rfl⟩⟩ ?_
   clear Z H hF a
   rintro rc_2 k a w3 ⟨Z, I3, H⟩ hF
   unfold F_ref08_Right_l2 at hF
   try dsimp only at hF
   refine wp_seq ?_
   refine wp_seq (f_region Z ?_); clear Z; intro Z
   refine s_runk tAd4 Z 3 rfl rfl ?_; clear Z a; intro a Z
   refine s_end Z [0, 2, 3, 4, 5, 6, 7, 8, 9, 12, 13, 14, 15, 16, 17, 18, 20, 21, 22] rfl ?_; clear Z; intro Z
   refine p_then ?_
   refine f_cond Z rfl (fun hc3 => ?_) (fun hc3 => ?_)
   ·replace hF := ite_t hc3 hF
    refine wp_skip ?_
    refine p_then (wp_seq ?_)
    refine wp_block ?_
    refine wp_seq ?_
    obtain ⟨hg2, hF⟩ := chk_in hF
    obtain ⟨_, ⟨u2, rfl, L2⟩, H⟩ := H.elG 1 rfl (k) (NEEntry.dft _ _)
    replace H := H.addsl L2
    replace H : Hf I D w I3 w3 [SlC NEOp u2 (((l.getD (k).toNat default).batch).ops), AtG ((0 : Int) ≤ k ∧ k < (l.length : Int)) (blkOf v1_l) (oofOf v1_l + (k).toNat * 4) [.int .i64 (((l.getD (k).toNat default).batch).client), .int .i64 (((l.getD (k).toNat default).batch).req), u2, .int .u64 ((l.getD (k).toNat default).ts)], SlC NEOp u1 (((l.getD (i).toNat default).batch).ops), SlC NEEntry v1_l l] := H
    obtain ⟨hg3, hF⟩ := chk_in hF
    obtain ⟨_, ⟨u3, rfl, L3⟩, H⟩ := H.elG 3 rfl (i) (NEEntry.dft _ _)
    replace H := H.addsl L3
    replace H : Hf I D w I3 w3 [SlC NEOp u3 (((l.getD (i).toNat default).batch).ops), AtG ((0 : Int) ≤ i ∧ i < (l.length : Int)) (blkOf v1_l) (oofOf v1_l + (i).toNat * 4) [.int .i64 (((l.getD (i).toNat default).batch).client), .int .i64 (((l.getD (i).toNat default).batch).req), u3, .int .u64 ((l.getD (i).toNat default).ts)], SlC NEOp u2 (((l.getD (k).toNat default).batch).ops), AtG ((0 : Int) ≤ k ∧ k < (l.length : Int)) (blkOf v1_l) (oofOf v1_l + (k).toNat * 4) [.int .i64 (((l.getD (k).toNat default).batch).client), .int .i64 (((l.getD (k).toNat default).batch).req), u2, .int .u64 ((l.getD (k).toNat default).ts)], SlC NEOp u1 (((l.getD (i).toNat default).batch).ops), SlC NEEntry v1_l l] := H
    obtain ⟨t, hx2, hF⟩ := bnd_in hF
    refine f_quietd (by kernel_rfl) (by kernel_rfl) Z ?_; clear Z; intro Z
    refine q_runk tAd4 Z 2 rfl rfl ?_; clear Z a; intro a Z
    refine q_ob Z (v := .pointer (some ⟨blkOf v1_l, oofOf v1_l + (k).toNat * 4, none⟩)) rfl rfl (by decide) rfl (fun _ hw => Ob_sidx tAd4 rfl rfl rfl rfl (slPl ((H.blw hw).sl 5 rfl) hg2) hg2) ?_; clear Z a; intro a Z
    refine q_ob Z (v := .agg #[.int .i64 (((l.getD (k).toNat default).batch).client), .int .i64 (((l.getD (k).toNat default).batch).req), u2, .int .u64 ((l.getD (k).toNat default).ts)]) rfl rfl (by decide) rfl (fun _ hw => Ob_loads tAd4 rfl rfl rfl (((H.blw hw).atg 3 rfl hg2).part 0 rfl)) ?_; clear Z a; intro a Z
    refine q_runk tAd4 Z 2 rfl rfl ?_; clear Z a; intro a Z
    refine q_ob Z (v := .pointer (some ⟨blkOf v1_l, oofOf v1_l + (i).toNat * 4, none⟩)) rfl rfl (by decide) rfl (fun _ hw => Ob_sidx tAd4 rfl rfl rfl rfl (slPl ((H.blw hw).sl 5 rfl) hg3) hg3) ?_; clear Z a; intro a Z
    refine q_ob Z (v := .agg #[.int .i64 (((l.getD (i).toNat default).batch).client), .int .i64 (((l.getD (i).toNat default).batch).req), u3, .int .u64 ((l.getD (i).toNat default).ts)]) rfl rfl (by decide) rfl (fun _ hw => Ob_loads tAd4 rfl rfl rfl (((H.blw hw).atg 1 rfl hg3).part 0 rfl)) ?_; clear Z a; intro a Z
    refine q_call Z (caps := #[]) fn_19_YAd4 rfl rfl rfl rfl rfl (by decide) rfl rfl (fun _ hw => (have hq := c_ref08_Twins hx2 (((H.blw hw)).pick0 (js := [(2, true), (0, true)]) rfl rfl); plainC hq)) ?_; clear Z a; intro a Z
    refine q_end Z [0, 2, 3, 4, 5, 6, 7, 8, 9, 12, 13, 14, 15, 16, 17, 18, 20, 21, 22, 25, 26, 27, 28, 29, 30, 31, 32, 33] rfl ?_; clear Z; intro w4 hb Z
    replace H : Hf I D w I3 w4 [SlC NEOp u3 (((l.getD (i).toNat default).batch).ops), AtG ((0 : Int) ≤ i ∧ i < (l.length : Int)) (blkOf v1_l) (oofOf v1_l + (i).toNat * 4) [.int .i64 (((l.getD (i).toNat default).batch).client), .int .i64 (((l.getD (i).toNat default).batch).req), u3, .int .u64 ((l.getD (i).toNat default).ts)], SlC NEOp u2 (((l.getD (k).toNat default).batch).ops), AtG ((0 : Int) ≤ k ∧ k < (l.length : Int)) (blkOf v1_l) (oofOf v1_l + (k).toNat * 4) [.int .i64 (((l.getD (k).toNat default).batch).client), .int .i64 (((l.getD (k).toNat default).batch).req), u2, .int .u64 ((l.getD (k).toNat default).ts)], SlC NEOp u1 (((l.getD (i).toNat default).batch).ops), SlC NEEntry v1_l l] := H.blw hb
    clear hb
    refine p_then ?_
    refine f_cond Z rfl (fun hc4 => ?_) (fun hc4 => ?_)
    ·replace hF := ite_t hc4 hF
     refine wp_seq (f_region Z ?_); clear Z; intro Z
     refine s_runk tAd4 Z 1 rfl rfl ?_; clear Z a; intro a Z
     refine s_end Z [0, 2, 3, 4, 5, 6, 7, 8, 9, 12, 13, 14, 15, 16, 17, 18, 20, 21, 22, 25, 26, 27, 28, 29, 30, 31, 32, 33] rfl ?_; clear Z; intro Z
     refine p_then (wp_ret ?_)
     refine p_blk_r ?_
     refine p_then_r ?_
     refine p_then_r ?_
     refine p_blk_r ?_
     refine p_then_r ?_
     refine p_blk_r ?_
     refine p_then_r ?_
     refine p_then_r ?_
     refine p_blk_r ?_
     refine p_then_r ?_
     obtain rfl := some_in hF
     exact f_ret Z (run_results1 rfl Z rfl) ⟨rfl, I3, (H.sub [] rfl).eq rfl⟩
    ·replace hF := ite_f hc4 hF
     refine wp_skip ?_
     refine p_blk ?_
     refine p_then ?_
     obtain ⟨hg4, hF⟩ := chk_in hF
     refine f_region Z ?_; clear Z; intro Z
     refine s_runk tAd4 Z 1 rfl rfl ?_; clear Z a; intro a Z
     refine s_ob Z (v := .int .i64 (k + 1)) rfl rfl (by decide) rfl (Ob_add rfl rfl rfl (wrI hg4)) ?_; clear Z a; intro a Z
     refine s_runk tAd4 Z 1 rfl rfl ?_; clear Z a; intro a Z
     refine s_end Z [0, 2, 3, 4, 5, 6, 7, 8, 9, 12, 13, 14, 15, 16, 17, 18, 20, 21, 22, 25, 26, 27, 28, 29, 30, 31, 32, 33, 23, 24] rfl ?_; clear Z; intro Z
     refine p_then ?_
     exact ⟨(k + 1), ⟨Z.sub (ts := [0, 2, 3, 4, 5, 6, 7, 8, 9, 12, 13, 14, 15, 16, 17, 18]) rfl, ⟨I3, (H.sub [(4, true), (5, true)] rfl).eq rfl⟩⟩, hF⟩
   ·replace hF := ite_f hc3 hF
    refine wp_exit ?_
    refine p_then_x ?_
    refine p_then_x ?_
    refine f_exit_here ?_
    refine p_then (wp_seq ?_)
    obtain ⟨hg5, hF⟩ := chk_in hF
    obtain ⟨_, ⟨u4, rfl, L4⟩, H⟩ := H.elG 1 rfl (i) (NEEntry.dft _ _)
    replace H := H.addsl L4
    replace H : Hf I D w I3 w3 [SlC NEOp u4 (((l.getD (i).toNat default).batch).ops), AtG ((0 : Int) ≤ i ∧ i < (l.length : Int)) (blkOf v1_l) (oofOf v1_l + (i).toNat * 4) [.int .i64 (((l.getD (i).toNat default).batch).client), .int .i64 (((l.getD (i).toNat default).batch).req), u4, .int .u64 ((l.getD (i).toNat default).ts)], SlC NEOp u1 (((l.getD (i).toNat default).batch).ops), SlC NEEntry v1_l l] := H
    obtain ⟨hg6, hF⟩ := chk_in hF
    obtain ⟨hg7, hF⟩ := chk_in hF
    obtain ⟨_, ⟨u5, rfl, L5⟩, H⟩ := H.elG 3 rfl (i - 1) (NEEntry.dft _ _)
    replace H := H.addsl L5
    replace H : Hf I D w I3 w3 [SlC NEOp u5 (((l.getD (i - 1).toNat default).batch).ops), AtG ((0 : Int) ≤ i - 1 ∧ i - 1 < (l.length : Int)) (blkOf v1_l) (oofOf v1_l + (i - 1).toNat * 4) [.int .i64 (((l.getD (i - 1).toNat default).batch).client), .int .i64 (((l.getD (i - 1).toNat default).batch).req), u5, .int .u64 ((l.getD (i - 1).toNat default).ts)], SlC NEOp u4 (((l.getD (i).toNat default).batch).ops), AtG ((0 : Int) ≤ i ∧ i < (l.length : Int)) (blkOf v1_l) (oofOf v1_l + (i).toNat * 4) [.int .i64 (((l.getD (i).toNat default).batch).client), .int .i64 (((l.getD (i).toNat default).batch).req), u4, .int .u64 ((l.getD (i).toNat default).ts)], SlC NEOp u1 (((l.getD (i).toNat default).batch).ops), SlC NEEntry v1_l l] := H
    obtain ⟨hg8, hF⟩ := chk_in hF
    obtain ⟨hg9, hF⟩ := chk_in hF
    obtain ⟨hg10, hF⟩ := chk_in hF
    refine f_quietd (by kernel_rfl) (by kernel_rfl) Z ?_; clear Z; intro Z
    refine q_runk tAd4 Z 3 rfl rfl ?_; clear Z a; intro a Z
    refine gq_ob Z (p := (decide (i > 0))) (v := v1_l) (S' := [(0, v1_l)]) rfl rfl rfl (wantB_t _) rfl (by decide) (fun hp hS => hS.sub (ts := [0]) rfl) (fun hp _ hw => Ob_c tAd4 rfl) ?_; clear Z a; intro a Z
    refine gq_ob Z (p := (decide (i > 0))) (v := .int .i64 i) (S' := [(3, .int .i64 i)]) rfl rfl rfl (wantB_t _) rfl (by decide) (fun hp hS => hS.sub (ts := [3]) rfl) (fun hp _ hw => Ob_c tAd4 rfl) ?_; clear Z a; intro a Z
    refine gq_ob Z (p := (decide (i > 0))) (v := .pointer (some ⟨blkOf v1_l, oofOf v1_l + (i).toNat * 4, none⟩)) (S' := [(37, v1_l), (38, .int .i64 i)]) rfl rfl rfl (wantB_t _) rfl (by decide) (fun hp hS => ((hS.conv (t := 37) rfl (cond_t hp)).conv (t := 38) rfl (cond_t hp)).sub (ts := [37, 38]) rfl) (fun hp _ hw => Ob_sidx tAd4 rfl rfl rfl rfl (slPl ((H.blw hw).sl 5 rfl) (hg5 hp)) (hg5 hp)) ?_; clear Z a; intro a Z
    refine gq_ob Z (p := (decide (i > 0))) (v := .pointer (some ⟨blkOf v1_l, oofOf v1_l + (i).toNat * 4 + 3, none⟩)) (S' := [(39, .pointer (some ⟨blkOf v1_l, oofOf v1_l + (i).toNat * 4, none⟩))]) rfl rfl rfl (wantB_t _) rfl (by decide) (fun hp hS => (hS.conv (t := 39) rfl (cond_t hp)).sub (ts := [39]) rfl) (fun hp _ hw => Ob_c tAd4 rfl) ?_; clear Z a; intro a Z
    refine gq_ob Z (p := (decide (i > 0))) (v := .int .u64 ((l.getD (i).toNat default).ts)) (S' := [(40, .pointer (some ⟨blkOf v1_l, oofOf v1_l + (i).toNat * 4 + 3, none⟩))]) rfl rfl rfl (wantB_t _) rfl (by decide) (fun hp hS => (hS.conv (t := 40) rfl (cond_t hp)).sub (ts := [40]) rfl) (fun hp _ hw => Ob_load tAd4 rfl rfl rfl (((H.blw hw).atg 3 rfl (hg5 hp)) 3 _ rfl)) ?_; clear Z a; intro a Z
    refine gq_ob Z (p := (decide (i > 0))) (v := .bool (((l.getD (i).toNat default).ts) != 0)) (S' := [(41, .int .u64 ((l.getD (i).toNat default).ts))]) rfl rfl rfl (wantB_t _) rfl (by decide) (fun hp hS => (hS.conv (t := 41) rfl (cond_t hp)).sub (ts := [41]) rfl) (fun hp _ hw => Ob_c tAd4 rfl) ?_; clear Z a; intro a Z
    refine q_ob Z (v := .bool ((decide (i > 0)) && (((l.getD (i).toNat default).ts) != 0))) rfl rfl (by decide) rfl (fun _ hw => Ob_pick rfl rfl rfl rfl (pick_and _ _)) ?_; clear Z a; intro a Z
    refine q_runk tAd4 Z 1 rfl rfl ?_; clear Z a; intro a Z
    refine gq_ob Z (p := ((decide (i > 0)) && (((l.getD (i).toNat default).ts) != 0))) (v := v1_l) (S' := [(0, v1_l)]) rfl rfl rfl (wantB_t _) rfl (by decide) (fun hp hS => hS.sub (ts := [0]) rfl) (fun hp _ hw => Ob_c tAd4 rfl) ?_; clear Z a; intro a Z
    refine gq_ob Z (p := ((decide (i > 0)) && (((l.getD (i).toNat default).ts) != 0))) (v := .int .i64 i) (S' := [(3, .int .i64 i)]) rfl rfl rfl (wantB_t _) rfl (by decide) (fun hp hS => hS.sub (ts := [3]) rfl) (fun hp _ hw => Ob_c tAd4 rfl) ?_; clear Z a; intro a Z
    refine gq_ob Z (p := ((decide (i > 0)) && (((l.getD (i).toNat default).ts) != 0))) (v := .int .i64 (i - 1)) (S' := [(46, .int .i64 i)]) rfl rfl rfl (wantB_t _) rfl (by decide) (fun hp hS => (hS.conv (t := 46) rfl (cond_t hp)).sub (ts := [46]) rfl) (fun hp _ hw => Ob_sub rfl rfl rfl (wrI (hg6 hp))) ?_; clear Z a; intro a Z
    refine gq_ob Z (p := ((decide (i > 0)) && (((l.getD (i).toNat default).ts) != 0))) (v := .pointer (some ⟨blkOf v1_l, oofOf v1_l + (i - 1).toNat * 4, none⟩)) (S' := [(45, v1_l), (47, .int .i64 (i - 1))]) rfl rfl rfl (wantB_t _) rfl (by decide) (fun hp hS => ((hS.conv (t := 45) rfl (cond_t hp)).conv (t := 47) rfl (cond_t hp)).sub (ts := [45, 47]) rfl) (fun hp _ hw => Ob_sidx tAd4 rfl rfl rfl rfl (slPl ((H.blw hw).sl 5 rfl) (hg7 hp)) (hg7 hp)) ?_; clear Z a; intro a Z
    refine gq_ob Z (p := ((decide (i > 0)) && (((l.getD (i).toNat default).ts) != 0))) (v := .pointer (some ⟨blkOf v1_l, oofOf v1_l + (i - 1).toNat * 4 + 3, none⟩)) (S' := [(48, .pointer (some ⟨blkOf v1_l, oofOf v1_l + (i - 1).toNat * 4, none⟩))]) rfl rfl rfl (wantB_t _) rfl (by decide) (fun hp hS => (hS.conv (t := 48) rfl (cond_t hp)).sub (ts := [48]) rfl) (fun hp _ hw => Ob_c tAd4 rfl) ?_; clear Z a; intro a Z
    refine gq_ob Z (p := ((decide (i > 0)) && (((l.getD (i).toNat default).ts) != 0))) (v := .int .u64 ((l.getD (i - 1).toNat default).ts)) (S' := [(49, .pointer (some ⟨blkOf v1_l, oofOf v1_l + (i - 1).toNat * 4 + 3, none⟩))]) rfl rfl rfl (wantB_t _) rfl (by decide) (fun hp hS => (hS.conv (t := 49) rfl (cond_t hp)).sub (ts := [49]) rfl) (fun hp _ hw => Ob_load tAd4 rfl rfl rfl (((H.blw hw).atg 1 rfl (hg7 hp)) 3 _ rfl)) ?_; clear Z a; intro a Z
    refine gq_ob Z (p := ((decide (i > 0)) && (((l.getD (i).toNat default).ts) != 0))) (v := .bool (((l.getD (i - 1).toNat default).ts) == 0)) (S' := [(50, .int .u64 ((l.getD (i - 1).toNat default).ts))]) rfl rfl rfl (wantB_t _) rfl (by decide) (fun hp hS => (hS.conv (t := 50) rfl (cond_t hp)).sub (ts := [50]) rfl) (fun hp _ hw => Ob_c tAd4 rfl) ?_; clear Z a; intro a Z
    refine gq_ob Z (p := ((decide (i > 0)) && (((l.getD (i).toNat default).ts) != 0))) (v := .bool (((l.getD (i - 1).toNat default).ts) == 0)) (S' := [(51, .bool (((l.getD (i - 1).toNat default).ts) == 0))]) rfl rfl rfl (wantB_t _) rfl (by decide) (fun hp hS => (hS.conv (t := 51) rfl (cond_t hp)).sub (ts := [51]) rfl) (fun hp _ hw => Ob_c tAd4 rfl) ?_; clear Z a; intro a Z
    refine gq_ob Z (p := (((decide (i > 0)) && (((l.getD (i).toNat default).ts) != 0)) && (!(((l.getD (i - 1).toNat default).ts) == 0)))) (v := v1_l) (S' := [(0, v1_l)]) rfl rfl rfl (wantB_cf _ _) rfl (by decide) (fun hp hS => hS.sub (ts := [0]) rfl) (fun hp _ hw => Ob_c tAd4 rfl) ?_; clear Z a; intro a Z
    refine gq_ob Z (p := (((decide (i > 0)) && (((l.getD (i).toNat default).ts) != 0)) && (!(((l.getD (i - 1).toNat default).ts) == 0)))) (v := .int .i64 i) (S' := [(3, .int .i64 i)]) rfl rfl rfl (wantB_cf _ _) rfl (by decide) (fun hp hS => hS.sub (ts := [3]) rfl) (fun hp _ hw => Ob_c tAd4 rfl) ?_; clear Z a; intro a Z
    refine gq_ob Z (p := (((decide (i > 0)) && (((l.getD (i).toNat default).ts) != 0)) && (!(((l.getD (i - 1).toNat default).ts) == 0)))) (v := .int .i64 (i - 1)) (S' := [(54, .int .i64 i)]) rfl rfl rfl (wantB_cf _ _) rfl (by decide) (fun hp hS => (hS.conv (t := 54) rfl (cond_t hp)).sub (ts := [54]) rfl) (fun hp _ hw => Ob_sub rfl rfl rfl (wrI (hg8 hp))) ?_; clear Z a; intro a Z
    refine gq_ob Z (p := (((decide (i > 0)) && (((l.getD (i).toNat default).ts) != 0)) && (!(((l.getD (i - 1).toNat default).ts) == 0)))) (v := .pointer (some ⟨blkOf v1_l, oofOf v1_l + (i - 1).toNat * 4, none⟩)) (S' := [(53, v1_l), (55, .int .i64 (i - 1))]) rfl rfl rfl (wantB_cf _ _) rfl (by decide) (fun hp hS => ((hS.conv (t := 53) rfl (cond_t hp)).conv (t := 55) rfl (cond_t hp)).sub (ts := [53, 55]) rfl) (fun hp _ hw => Ob_sidx tAd4 rfl rfl rfl rfl (slPl ((H.blw hw).sl 5 rfl) (hg9 hp)) (hg9 hp)) ?_; clear Z a; intro a Z
    refine gq_ob Z (p := (((decide (i > 0)) && (((l.getD (i).toNat default).ts) != 0)) && (!(((l.getD (i - 1).toNat default).ts) == 0)))) (v := .pointer (some ⟨blkOf v1_l, oofOf v1_l + (i - 1).toNat * 4 + 3, none⟩)) (S' := [(56, .pointer (some ⟨blkOf v1_l, oofOf v1_l + (i - 1).toNat * 4, none⟩))]) rfl rfl rfl (wantB_cf _ _) rfl (by decide) (fun hp hS => (hS.conv (t := 56) rfl (cond_t hp)).sub (ts := [56]) rfl) (fun hp _ hw => Ob_c tAd4 rfl) ?_; clear Z a; intro a Z
    refine gq_ob Z (p := (((decide (i > 0)) && (((l.getD (i).toNat default).ts) != 0)) && (!(((l.getD (i - 1).toNat default).ts) == 0)))) (v := .int .u64 ((l.getD (i - 1).toNat default).ts)) (S' := [(57, .pointer (some ⟨blkOf v1_l, oofOf v1_l + (i - 1).toNat * 4 + 3, none⟩))]) rfl rfl rfl (wantB_cf _ _) rfl (by decide) (fun hp hS => (hS.conv (t := 57) rfl (cond_t hp)).sub (ts := [57]) rfl) (fun hp _ hw => Ob_load tAd4 rfl rfl rfl (((H.blw hw).atg 1 rfl (hg9 hp)) 3 _ rfl)) ?_; clear Z a; intro a Z
    refine gq_ob Z (p := (((decide (i > 0)) && (((l.getD (i).toNat default).ts) != 0)) && (!(((l.getD (i - 1).toNat default).ts) == 0)))) (v := v1_l) (S' := [(0, v1_l)]) rfl rfl rfl (wantB_cf _ _) rfl (by decide) (fun hp hS => hS.sub (ts := [0]) rfl) (fun hp _ hw => Ob_c tAd4 rfl) ?_; clear Z a; intro a Z
    refine gq_ob Z (p := (((decide (i > 0)) && (((l.getD (i).toNat default).ts) != 0)) && (!(((l.getD (i - 1).toNat default).ts) == 0)))) (v := .int .i64 i) (S' := [(3, .int .i64 i)]) rfl rfl rfl (wantB_cf _ _) rfl (by decide) (fun hp hS => hS.sub (ts := [3]) rfl) (fun hp _ hw => Ob_c tAd4 rfl) ?_; clear Z a; intro a Z
    refine gq_ob Z (p := (((decide (i > 0)) && (((l.getD (i).toNat default).ts) != 0)) && (!(((l.getD (i - 1).toNat default).ts) == 0)))) (v := .pointer (some ⟨blkOf v1_l, oofOf v1_l + (i).toNat * 4, none⟩)) (S' := [(59, v1_l), (60, .int .i64 i)]) rfl rfl rfl (wantB_cf _ _) rfl (by decide) (fun hp hS => ((hS.conv (t := 59) rfl (cond_t hp)).conv (t := 60) rfl (cond_t hp)).sub (ts := [59, 60]) rfl) (fun hp _ hw => Ob_sidx tAd4 rfl rfl rfl rfl (slPl ((H.blw hw).sl 5 rfl) (hg10 hp)) (hg10 hp)) ?_; clear Z a; intro a Z
    refine gq_ob Z (p := (((decide (i > 0)) && (((l.getD (i).toNat default).ts) != 0)) && (!(((l.getD (i - 1).toNat default).ts) == 0)))) (v := .pointer (some ⟨blkOf v1_l, oofOf v1_l + (i).toNat * 4 + 3, none⟩)) (S' := [(61, .pointer (some ⟨blkOf v1_l, oofOf v1_l + (i).toNat * 4, none⟩))]) rfl rfl rfl (wantB_cf _ _) rfl (by decide) (fun hp hS => (hS.conv (t := 61) rfl (cond_t hp)).sub (ts := [61]) rfl) (fun hp _ hw => Ob_c tAd4 rfl) ?_; clear Z a; intro a Z
    refine gq_ob Z (p := (((decide (i > 0)) && (((l.getD (i).toNat default).ts) != 0)) && (!(((l.getD (i - 1).toNat default).ts) == 0)))) (v := .int .u64 ((l.getD (i).toNat default).ts)) (S' := [(62, .pointer (some ⟨blkOf v1_l, oofOf v1_l + (i).toNat * 4 + 3, none⟩))]) rfl rfl rfl (wantB_cf _ _) rfl (by decide) (fun hp hS => (hS.conv (t := 62) rfl (cond_t hp)).sub (ts := [62]) rfl) (fun hp _ hw => Ob_load tAd4 rfl rfl rfl (((H.blw hw).atg 3 rfl (hg10 hp)) 3 _ rfl)) ?_; clear Z a; intro a Z
    refine gq_ob Z (p := (((decide (i > 0)) && (((l.getD (i).toNat default).ts) != 0)) && (!(((l.getD (i - 1).toNat default).ts) == 0)))) (v := .bool (decide ((l.getD (i - 1).toNat default).ts ≥ (l.getD (i).toNat default).ts))) (S' := [(58, .int .u64 ((l.getD (i - 1).toNat default).ts)), (63, .int .u64 ((l.getD (i).toNat default).ts))]) rfl rfl rfl (wantB_cf _ _) rfl (by decide) (fun hp hS => ((hS.conv (t := 58) rfl (cond_t hp)).conv (t := 63) rfl (cond_t hp)).sub (ts := [58, 63]) rfl) (fun hp _ hw => Ob_c tAd4 rfl) ?_; clear Z a; intro a Z
    refine gq_ob Z (p := ((decide (i > 0)) && (((l.getD (i).toNat default).ts) != 0))) (v := .bool ((((l.getD (i - 1).toNat default).ts) == 0) || (decide ((l.getD (i - 1).toNat default).ts ≥ (l.getD (i).toNat default).ts)))) (S' := [(52, .bool (((l.getD (i - 1).toNat default).ts) == 0)), (64, cond (((decide (i > 0)) && (((l.getD (i).toNat default).ts) != 0)) && (!(((l.getD (i - 1).toNat default).ts) == 0))) (.bool (decide ((l.getD (i - 1).toNat default).ts ≥ (l.getD (i).toNat default).ts))) undef)]) rfl rfl rfl (wantB_t _) rfl (by decide) (fun hp hS => (hS.conv (t := 52) rfl (cond_t hp)).sub (ts := [52, 64]) rfl) (fun hp _ hw => Ob_pick rfl rfl rfl rfl (pick_orp _ _ hp)) ?_; clear Z a; intro a Z
    refine q_ob Z (v := .bool (((decide (i > 0)) && (((l.getD (i).toNat default).ts) != 0)) && ((((l.getD (i - 1).toNat default).ts) == 0) || (decide ((l.getD (i - 1).toNat default).ts ≥ (l.getD (i).toNat default).ts))))) rfl rfl (by decide) rfl (fun _ hw => Ob_pick rfl rfl rfl rfl (pick_and _ _)) ?_; clear Z a; intro a Z
    refine q_end Z [0, 2, 3, 4, 5, 6, 7, 8, 9, 12, 13, 14, 15, 16, 17, 18, 20, 21, 22, 34, 35, 36, 43, 44, 66] rfl ?_; clear Z; intro w5 hb Z
    replace H : Hf I D w I3 w5 [SlC NEOp u5 (((l.getD (i - 1).toNat default).batch).ops), AtG ((0 : Int) ≤ i - 1 ∧ i - 1 < (l.length : Int)) (blkOf v1_l) (oofOf v1_l + (i - 1).toNat * 4) [.int .i64 (((l.getD (i - 1).toNat default).batch).client), .int .i64 (((l.getD (i - 1).toNat default).batch).req), u5, .int .u64 ((l.getD (i - 1).toNat default).ts)], SlC NEOp u4 (((l.getD (i).toNat default).batch).ops), AtG ((0 : Int) ≤ i ∧ i < (l.length : Int)) (blkOf v1_l) (oofOf v1_l + (i).toNat * 4) [.int .i64 (((l.getD (i).toNat default).batch).client), .int .i64 (((l.getD (i).toNat default).batch).req), u4, .int .u64 ((l.getD (i).toNat default).ts)], SlC NEOp u1 (((l.getD (i).toNat default).batch).ops), SlC NEEntry v1_l l] := H.blw hb
    clear hb
    refine p_then ?_
    refine f_cond Z rfl (fun hc5 => ?_) (fun hc5 => ?_)
    ·replace hF := ite_t hc5 hF
     refine wp_seq (f_region Z ?_); clear Z; intro Z
     refine s_runk tAd4 Z 1 rfl rfl ?_; clear Z a; intro a Z
     refine s_end Z [0, 2, 3, 4, 5, 6, 7, 8, 9, 12, 13, 14, 15, 16, 17, 18, 20, 21, 22, 34, 35, 36, 43, 44, 66] rfl ?_; clear Z; intro Z
     refine p_then (wp_ret ?_)
     refine p_blk_r ?_
     refine p_then_r ?_
     refine p_then_r ?_
     refine p_blk_r ?_
     refine p_then_r ?_
     obtain rfl := some_in hF
     exact f_ret Z (run_results1 rfl Z rfl) ⟨rfl, I3, (H.sub [] rfl).eq rfl⟩
    ·replace hF := ite_f hc5 hF
     refine wp_skip ?_
     refine p_blk ?_
     refine p_then ?_
     obtain ⟨hg11, hF⟩ := chk_in hF
     refine f_region Z ?_; clear Z; intro Z
     refine s_runk tAd4 Z 1 rfl rfl ?_; clear Z a; intro a Z
     refine s_ob Z (v := .int .i64 (i + 1)) rfl rfl (by decide) rfl (Ob_add rfl rfl rfl (wrI hg11)) ?_; clear Z a; intro a Z
     refine s_runk tAd4 Z 1 rfl rfl ?_; clear Z a; intro a Z
     refine s_end Z [0, 2, 3, 4, 5, 6, 7, 8, 9, 12, 13, 14, 15, 16, 17, 18, 20, 21, 22, 34, 35, 36, 43, 44, 66, 10, 11] rfl ?_; clear Z; intro Z
     refine p_then ?_
     exact ⟨(i + 1), ⟨Z.sub (ts := [0, 2, 3]) rfl, ⟨I3, (H.sub [(5, true)] rfl).eq rfl⟩⟩, hF⟩
 ·replace hF := ite_f hc1 hF
  refine wp_exit ?_
  refine p_then_x ?_
  refine p_then_x ?_
  refine f_exit_here ?_
  refine p_then (wp_seq (f_region Z ?_)); clear Z; intro Z
  refine s_runk tAd4 Z 1 rfl rfl ?_; clear Z a; intro a Z
  refine s_end Z [2] rfl ?_; clear Z; intro Z
  refine p_then (wp_ret ?_)
  obtain rfl := some_in hF
  exact f_ret Z (run_results1 rfl Z rfl) ⟨rfl, I1, (H.sub [] rfl).eq rfl⟩

end Go.Proofs.Ytdofpehcojboeaa
