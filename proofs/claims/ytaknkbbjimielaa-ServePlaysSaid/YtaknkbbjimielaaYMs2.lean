/- Messages: their own parts, and whether two are the same. -/
import Derived.Test.YtaknkbbjimielaaYMs
namespace Go.Proofs.Ytaknkbbjimielaa
open Go.RowKit
def tMs2L : TabL := ⟨[(37888, 0), (37889, 1), (37890, 2), (37891, 3), (37892, 4), (37893, 5), (37894, 6), (37895, 7), (37896, 8), (37897, 9), (37898, 10), (37899, 11), (37900, 12), (37901, 13), (37902, 16), (37903, 19), (37904, 20), (37905, 21)], [], [4], [(33, (114, 4)), (34, (23, 1))], [(3, (1, false)), (4, (1, false)), (9, (1, false)), (23, (1, false)), (26, (1, false)), (29, (3, true)), (32, (3, true)), (33, (1, false)), (34, (1, false)), (35, (1, false)), (37, (22, true)), (114, (4, true))]⟩

def tMs2 : Tab Try.prog := ⟨tMs2L, by kernel_rfl⟩

theorem fn_21_YMs2 : IsFn Try.prog 21 := ⟨_, Try.func21, by kernel_rfl, by kernel_rfl⟩

theorem fn_26_YMs2 : IsFn Try.prog 26 := ⟨_, Try.func26, by kernel_rfl, by kernel_rfl⟩

theorem fn_27_YMs2 : IsFn Try.prog 27 := ⟨_, Try.func27, by kernel_rfl, by kernel_rfl⟩

theorem fn_28_YMs2 : IsFn Try.prog 28 := ⟨_, Try.func28, by kernel_rfl, by kernel_rfl⟩

theorem fn_29_YMs2 : IsFn Try.prog 29 := ⟨_, Try.func29, by kernel_rfl, by kernel_rfl⟩

theorem fn_54_YMs2 : IsFn Try.prog 54 := ⟨_, Try.func54, by kernel_rfl, by kernel_rfl⟩

def F_ref08_SameAll_l1 (a0 : List EEntry) (b : List EEntry) (rc : Int → Option Bool) (sg : Int) : Option Bool := match sg with | i => if ((decide (i < (a0.length : Int))) && (decide (i < (b.length : Int)))) = true then (chk ((0 : Int) ≤ i ∧ i < (a0.length : Int)) (chk ((0 : Int) ≤ i ∧ i < (b.length : Int)) ((F_ref08_Same ({ (a0.getD (i).toNat default) with batch := ({ client := ((a0.getD (i).toNat default).batch).client, req := ((a0.getD (i).toNat default).batch).req, ops := ((a0.getD (i).toNat default).batch).ops } : EBatch) } : EEntry) ({ (b.getD (i).toNat default) with batch := ({ client := ((b.getD (i).toNat default).batch).client, req := ((b.getD (i).toNat default).batch).req, ops := ((b.getD (i).toNat default).batch).ops } : EBatch) } : EEntry)).bind fun s0 => (if (!s0) = true then (some false) else (chk (inI (i + 1)) (rc (i + 1))))))) else (some true)

def F_ref08_SameAll (a0 : List EEntry) (b : List EEntry) : Option Bool := if ((a0.length : Int) != (b.length : Int)) = true then (some false) else (iter (F_ref08_SameAll_l1 a0 b) FU 0)

set_option maxHeartbeats 1000000 in
theorem c_ref08_SameAll {I D : Dm} {a0 : List EEntry} {v1_a0 : Value} {b : List EEntry} {v2_b : Value} {w : World} {rr : Bool} (hF : F_ref08_SameAll a0 b = some rr) (H : St I D w [SlC NEEntry v1_a0 a0, SlC NEEntry v2_b b]) :
  Calls Try.prog 28 #[v1_a0, v2_b] w (Ret fun vv w' => vv = vT rr ∧ ∃ I', Hf I D w I' w' []) := by
 replace H := H.hf
 unfold F_ref08_SameAll at hF
 refine f_enter 33 Try.func28 rfl rfl (Nat.le_of_ble_eq_true rfl) fun a Z => ?_
 replace Z := Z.sub (ts := [0, 1]) rfl
 refine wp_seq (f_region Z ?_); clear Z; intro Z
 refine s_runk tMs2 Z 1 rfl rfl fun a Z => ?_
 refine s_end Z [0, 1] rfl fun Z => ?_
 refine p_then (wp_seq ?_)
 refine wp_seq (f_region Z ?_); clear Z; intro Z
 refine s_runk tMs2 Z 1 rfl rfl fun a Z => ?_
 refine sO Z (vI (ln a0)) rfl (Ob_slen tMs2 rfl rfl rfl (H.slshape 0 rfl)) fun a Z => ?_
 refine s_runk tMs2 Z 1 rfl rfl fun a Z => ?_
 refine sO Z (vI (ln b)) rfl (Ob_slen tMs2 rfl rfl rfl (H.slshape 1 rfl)) fun a Z => ?_
 refine s_runk tMs2 Z 1 rfl rfl fun a Z => ?_
 refine s_end Z [0, 1, 10] rfl fun Z => ?_
 refine p_then ?_
 refine f_cond Z rfl (fun hc1 => ?_) (fun hc1 => ?_)
 ·replace hF := ite_t hc1 hF
  refine wp_seq (f_region Z ?_); clear Z; intro Z
  refine s_runk tMs2 Z 1 rfl rfl fun a Z => ?_
  refine s_end Z [4] rfl fun Z => ?_
  refine p_then (wp_ret ?_)
  refine p_then_r ?_
  obtain rfl := some_in hF
  exact f_ret Z (run_results1 rfl Z rfl) ⟨rfl, I, (H.sub [] rfl).eq rfl⟩
 ·replace hF := ite_f hc1 hF
  refine wp_skip ?_
  refine p_then (wp_seq ?_)
  refine wp_seq (f_region Z ?_); clear Z; intro Z
  refine s_runk tMs2 Z 1 rfl rfl fun a Z => ?_
  refine s_end Z [0, 1, 5] rfl fun Z => ?_
  refine p_then (wp_block ?_)
  refine f_iter hF (fun sg a' w' => match sg with | i => Sl 33 [(0, v1_a0), (1, v2_b), (5, vI i)] a' ∧ ∃ I2, Hf I D w I2 w' [SlC NEEntry v1_a0 a0, SlC NEEntry v2_b b]) ⟨Z.sub (ts := [0, 1, 5]) rfl, ⟨I, (H.sub [(0, true), (1, true)] rfl).eq rfl⟩⟩ ?_
  rintro rc i a w1 ⟨Z, I1, H⟩ hF
  unfold F_ref08_SameAll_l1 at hF
  try dsimp only at hF
  refine wp_seq ?_
  refine wp_seq (f_region Z ?_); clear Z; intro Z
  refine s_runk tMs2 Z 2 rfl rfl fun a Z => ?_
  refine sO Z (vI (ln a0)) rfl (Ob_slen tMs2 rfl rfl rfl (H.slshape 0 rfl)) fun a Z => ?_
  refine s_runk tMs2 Z 2 rfl rfl fun a Z => ?_
  refine gO Z (vI i) rfl (wantB_t _) (.n 5 rfl .z) (fun hp => Ob_c tMs2 rfl) fun a Z => ?_
  refine gO Z v2_b rfl (wantB_t _) (.n 1 rfl .z) (fun hp => Ob_c tMs2 rfl) fun a Z => ?_
  refine gO Z (vI (ln b)) rfl (wantB_t _) (.c 17 rfl id .z) (fun hp => Ob_slen tMs2 rfl rfl rfl (H.slshape 1 rfl)) fun a Z => ?_
  refine gO Z (vT (decide (i < (ln b)))) rfl (wantB_t _) (.c 16 rfl id (.c 18 rfl id .z)) (fun hp => Ob_c tMs2 rfl) fun a Z => ?_
  refine sO Z (vT ((decide (i < (ln a0))) && (decide (i < (ln b))))) rfl (Ob_pick rfl rfl rfl rfl (pick_and _ _)) fun a Z => ?_
  refine s_end Z [0, 1, 5, 20] rfl fun Z => ?_
  refine p_then ?_
  refine f_cond Z rfl (fun hc2 => ?_) (fun hc2 => ?_)
  ·replace hF := ite_t hc2 hF
   refine wp_skip ?_
   refine p_then (wp_seq ?_)
   refine wp_block ?_
   refine wp_seq ?_
   obtain ⟨hg1, hF⟩ := chk_in hF
   obtain ⟨_, ⟨u1, rfl, L1⟩, H⟩ := H.elG 0 rfl (i) (NEEntry.dft _ _)
   replace H := H.addsl L1
   replace H : Hf I D w I1 w1 [SlC NEOp u1 (((gi a0 i).batch).ops), AtG ((0 : Int) ≤ i ∧ i < (ln a0)) (blkOf v1_a0) (oofOf v1_a0 + (i).toNat * 4) (cEEntry (gi a0 i) u1), SlC NEEntry v1_a0 a0, SlC NEEntry v2_b b] := H
   obtain ⟨hg2, hF⟩ := chk_in hF
   obtain ⟨_, ⟨u2, rfl, L2⟩, H⟩ := H.elG 3 rfl (i) (NEEntry.dft _ _)
   replace H := H.addsl L2
   replace H : Hf I D w I1 w1 [SlC NEOp u2 (((gi b i).batch).ops), AtG ((0 : Int) ≤ i ∧ i < (ln b)) (blkOf v2_b) (oofOf v2_b + (i).toNat * 4) (cEEntry (gi b i) u2), SlC NEOp u1 (((gi a0 i).batch).ops), AtG ((0 : Int) ≤ i ∧ i < (ln a0)) (blkOf v1_a0) (oofOf v1_a0 + (i).toNat * 4) (cEEntry (gi a0 i) u1), SlC NEEntry v1_a0 a0, SlC NEEntry v2_b b] := H
   obtain ⟨s0, hx1, hF⟩ := bnd_in hF
   refine f_quietd (by kernel_rfl) (by kernel_rfl) Z fun Z => ?_
   refine q_runk tMs2 Z 2 rfl rfl fun a Z => ?_
   refine qO Z (.pointer (some ⟨blkOf v1_a0, oofOf v1_a0 + (i).toNat * 4, none⟩)) rfl (fun _ hw => Ob_sidx tMs2 rfl rfl rfl rfl (slPl ((H.blw hw).sl 4 rfl) hg1) hg1) fun a Z => ?_
   refine qO Z (.agg (cEEntry (gi a0 i) u1).toArray) rfl (fun _ hw => oA tMs2 rfl rfl (((H.blw hw).atg 3 rfl hg1).part 0 rfl)) fun a Z => ?_
   refine q_runk tMs2 Z 2 rfl rfl fun a Z => ?_
   refine qO Z (.pointer (some ⟨blkOf v2_b, oofOf v2_b + (i).toNat * 4, none⟩)) rfl (fun _ hw => Ob_sidx tMs2 rfl rfl rfl rfl (slPl ((H.blw hw).sl 5 rfl) hg2) hg2) fun a Z => ?_
   refine qO Z (.agg (cEEntry (gi b i) u2).toArray) rfl (fun _ hw => oA tMs2 rfl rfl (((H.blw hw).atg 1 rfl hg2).part 0 rfl)) fun a Z => ?_
   refine q_call Z (caps := #[]) fn_54_YMs2 rfl rfl rfl rfl rfl (by decide) rfl rfl (fun _ hw => (have hq := c_ref08_Same hx1 (((H.blw hw)).pick0 (js := [(2, true), (0, true)]) rfl rfl); plainC hq)) fun a Z => ?_
   refine q_runk tMs2 Z 1 rfl rfl fun a Z => ?_
   refine q_end Z [0, 1, 5, 32] rfl fun w2 hb Z => ?_
   replace H := H.blw hb
   clear hb
   refine p_then ?_
   refine f_cond Z rfl (fun hc3 => ?_) (fun hc3 => ?_)
   ·replace hF := ite_t hc3 hF
    refine wp_seq (f_region Z ?_); clear Z; intro Z
    refine s_runk tMs2 Z 1 rfl rfl fun a Z => ?_
    refine s_end Z [4] rfl fun Z => ?_
    refine p_then (wp_ret ?_)
    refine p_blk_r ?_
    refine p_then_r ?_
    refine p_then_r ?_
    refine p_blk_r ?_
    refine p_then_r ?_
    obtain rfl := some_in hF
    exact f_ret Z (run_results1 rfl Z rfl) ⟨rfl, I1, (H.sub [] rfl).eq rfl⟩
   ·replace hF := ite_f hc3 hF
    refine wp_skip ?_
    refine p_blk ?_
    refine p_then ?_
    obtain ⟨hg3, hF⟩ := chk_in hF
    refine f_region Z fun Z => ?_
    refine s_runk tMs2 Z 1 rfl rfl fun a Z => ?_
    refine sO Z (vI (i + 1)) rfl (Ob_add rfl rfl rfl (wrI hg3)) fun a Z => ?_
    refine s_runk tMs2 Z 1 rfl rfl fun a Z => ?_
    refine s_end Z [0, 1, 5] rfl fun Z => ?_
    refine p_then ?_
    exact ⟨(i + 1), ⟨Z.sub (ts := [0, 1, 5]) rfl, ⟨I1, (H.sub [(4, true), (5, true)] rfl).eq rfl⟩⟩, hF⟩
  ·replace hF := ite_f hc2 hF
   refine wp_exit ?_
   refine p_then_x ?_
   refine p_then_x ?_
   refine f_exit_here ?_
   refine p_then (wp_seq (f_region Z ?_)); clear Z; intro Z
   refine s_runk tMs2 Z 1 rfl rfl fun a Z => ?_
   refine s_end Z [4] rfl fun Z => ?_
   refine p_then (wp_ret ?_)
   obtain rfl := some_in hF
   exact f_ret Z (run_results1 rfl Z rfl) ⟨rfl, I1, (H.sub [] rfl).eq rfl⟩

def F_ref09_sameStamps_l1 (a0 : List Int) (b : List Int) (rc : Int → Option Bool) (sg : Int) : Option Bool := match sg with | i => if ((decide (i < (a0.length : Int))) && (decide (i < (b.length : Int)))) = true then (chk ((0 : Int) ≤ i ∧ i < (a0.length : Int)) (chk ((0 : Int) ≤ i ∧ i < (b.length : Int)) (if ((a0.getD (i).toNat default) != (b.getD (i).toNat default)) = true then (some false) else (chk (inI (i + 1)) (rc (i + 1)))))) else (some true)

def F_ref09_sameStamps (a0 : List Int) (b : List Int) : Option Bool := if ((a0.length : Int) != (b.length : Int)) = true then (some false) else (iter (F_ref09_sameStamps_l1 a0 b) FU 0)

set_option maxHeartbeats 1000000 in
theorem c_ref09_sameStamps {I D : Dm} {a0 : List Int} {v1_a0 : Value} {b : List Int} {v2_b : Value} {w : World} {rr : Bool} (hF : F_ref09_sameStamps a0 b = some rr) (H : St I D w [SlC Nu64 v1_a0 a0, SlC Nu64 v2_b b]) :
  Calls Try.prog 29 #[v1_a0, v2_b] w (Ret fun vv w' => vv = vT rr ∧ ∃ I', Hf I D w I' w' []) := by
 replace H := H.hf
 unfold F_ref09_sameStamps at hF
 refine f_enter 32 Try.func29 rfl rfl (Nat.le_of_ble_eq_true rfl) fun a Z => ?_
 replace Z := Z.sub (ts := [0, 1]) rfl
 refine wp_seq (f_region Z ?_); clear Z; intro Z
 refine s_runk tMs2 Z 1 rfl rfl fun a Z => ?_
 refine s_end Z [0, 1] rfl fun Z => ?_
 refine p_then (wp_seq ?_)
 refine wp_seq (f_region Z ?_); clear Z; intro Z
 refine s_runk tMs2 Z 1 rfl rfl fun a Z => ?_
 refine sO Z (vI (ln a0)) rfl (Ob_slen tMs2 rfl rfl rfl (H.slshape 0 rfl)) fun a Z => ?_
 refine s_runk tMs2 Z 1 rfl rfl fun a Z => ?_
 refine sO Z (vI (ln b)) rfl (Ob_slen tMs2 rfl rfl rfl (H.slshape 1 rfl)) fun a Z => ?_
 refine s_runk tMs2 Z 1 rfl rfl fun a Z => ?_
 refine s_end Z [0, 1, 10] rfl fun Z => ?_
 refine p_then ?_
 refine f_cond Z rfl (fun hc1 => ?_) (fun hc1 => ?_)
 ·replace hF := ite_t hc1 hF
  refine wp_seq (f_region Z ?_); clear Z; intro Z
  refine s_runk tMs2 Z 1 rfl rfl fun a Z => ?_
  refine s_end Z [4] rfl fun Z => ?_
  refine p_then (wp_ret ?_)
  refine p_then_r ?_
  obtain rfl := some_in hF
  exact f_ret Z (run_results1 rfl Z rfl) ⟨rfl, I, (H.sub [] rfl).eq rfl⟩
 ·replace hF := ite_f hc1 hF
  refine wp_skip ?_
  refine p_then (wp_seq ?_)
  refine wp_seq (f_region Z ?_); clear Z; intro Z
  refine s_runk tMs2 Z 1 rfl rfl fun a Z => ?_
  refine s_end Z [0, 1, 5] rfl fun Z => ?_
  refine p_then (wp_block ?_)
  refine f_iter hF (fun sg a' w' => match sg with | i => Sl 32 [(0, v1_a0), (1, v2_b), (5, vI i)] a' ∧ ∃ I2, Hf I D w I2 w' [SlC Nu64 v1_a0 a0, SlC Nu64 v2_b b]) ⟨Z.sub (ts := [0, 1, 5]) rfl, ⟨I, (H.sub [(0, true), (1, true)] rfl).eq rfl⟩⟩ ?_
  rintro rc i a w1 ⟨Z, I1, H⟩ hF
  unfold F_ref09_sameStamps_l1 at hF
  try dsimp only at hF
  refine wp_seq ?_
  refine wp_seq (f_region Z ?_); clear Z; intro Z
  refine s_runk tMs2 Z 2 rfl rfl fun a Z => ?_
  refine sO Z (vI (ln a0)) rfl (Ob_slen tMs2 rfl rfl rfl (H.slshape 0 rfl)) fun a Z => ?_
  refine s_runk tMs2 Z 2 rfl rfl fun a Z => ?_
  refine gO Z (vI i) rfl (wantB_t _) (.n 5 rfl .z) (fun hp => Ob_c tMs2 rfl) fun a Z => ?_
  refine gO Z v2_b rfl (wantB_t _) (.n 1 rfl .z) (fun hp => Ob_c tMs2 rfl) fun a Z => ?_
  refine gO Z (vI (ln b)) rfl (wantB_t _) (.c 17 rfl id .z) (fun hp => Ob_slen tMs2 rfl rfl rfl (H.slshape 1 rfl)) fun a Z => ?_
  refine gO Z (vT (decide (i < (ln b)))) rfl (wantB_t _) (.c 16 rfl id (.c 18 rfl id .z)) (fun hp => Ob_c tMs2 rfl) fun a Z => ?_
  refine sO Z (vT ((decide (i < (ln a0))) && (decide (i < (ln b))))) rfl (Ob_pick rfl rfl rfl rfl (pick_and _ _)) fun a Z => ?_
  refine s_end Z [0, 1, 5, 20] rfl fun Z => ?_
  refine p_then ?_
  refine f_cond Z rfl (fun hc2 => ?_) (fun hc2 => ?_)
  ·replace hF := ite_t hc2 hF
   refine wp_skip ?_
   refine p_then (wp_seq ?_)
   refine wp_block ?_
   refine wp_seq ?_
   obtain ⟨hg1, hF⟩ := chk_in hF
   obtain ⟨hg2, hF⟩ := chk_in hF
   refine f_quietd (by kernel_rfl) (by kernel_rfl) Z fun Z => ?_
   refine q_runk tMs2 Z 2 rfl rfl fun a Z => ?_
   refine qO Z (.pointer (some ⟨blkOf v1_a0, oofOf v1_a0 + (i).toNat * 1, none⟩)) rfl (fun _ hw => Ob_sidx tMs2 rfl rfl rfl rfl (slPl ((H.blw hw).sl 0 rfl) hg1) hg1) fun a Z => ?_
   refine qO Z (vU (gi a0 i)) rfl (fun _ hw => oL tMs2 rfl rfl ((slFl ((H.blw hw).sl 0 rfl) hg1) 0 _ rfl)) fun a Z => ?_
   refine q_runk tMs2 Z 2 rfl rfl fun a Z => ?_
   refine qO Z (.pointer (some ⟨blkOf v2_b, oofOf v2_b + (i).toNat * 1, none⟩)) rfl (fun _ hw => Ob_sidx tMs2 rfl rfl rfl rfl (slPl ((H.blw hw).sl 1 rfl) hg2) hg2) fun a Z => ?_
   refine qO Z (vU (gi b i)) rfl (fun _ hw => oL tMs2 rfl rfl ((slFl ((H.blw hw).sl 1 rfl) hg2) 0 _ rfl)) fun a Z => ?_
   refine q_runk tMs2 Z 1 rfl rfl fun a Z => ?_
   refine q_end Z [0, 1, 5, 31] rfl fun w2 hb Z => ?_
   replace H := H.blw hb
   clear hb
   refine p_then ?_
   refine f_cond Z rfl (fun hc3 => ?_) (fun hc3 => ?_)
   ·replace hF := ite_t hc3 hF
    refine wp_seq (f_region Z ?_); clear Z; intro Z
    refine s_runk tMs2 Z 1 rfl rfl fun a Z => ?_
    refine s_end Z [4] rfl fun Z => ?_
    refine p_then (wp_ret ?_)
    refine p_blk_r ?_
    refine p_then_r ?_
    refine p_then_r ?_
    refine p_blk_r ?_
    refine p_then_r ?_
    obtain rfl := some_in hF
    exact f_ret Z (run_results1 rfl Z rfl) ⟨rfl, I1, (H.sub [] rfl).eq rfl⟩
   ·replace hF := ite_f hc3 hF
    refine wp_skip ?_
    refine p_blk ?_
    refine p_then ?_
    obtain ⟨hg3, hF⟩ := chk_in hF
    refine f_region Z fun Z => ?_
    refine s_runk tMs2 Z 1 rfl rfl fun a Z => ?_
    refine sO Z (vI (i + 1)) rfl (Ob_add rfl rfl rfl (wrI hg3)) fun a Z => ?_
    refine s_runk tMs2 Z 1 rfl rfl fun a Z => ?_
    refine s_end Z [0, 1, 5] rfl fun Z => ?_
    refine p_then ?_
    exact ⟨(i + 1), ⟨Z.sub (ts := [0, 1, 5]) rfl, ⟨I1, (H.sub [(0, true), (1, true)] rfl).eq rfl⟩⟩, hF⟩
  ·replace hF := ite_f hc2 hF
   refine wp_exit ?_
   refine p_then_x ?_
   refine p_then_x ?_
   refine f_exit_here ?_
   refine p_then (wp_seq (f_region Z ?_)); clear Z; intro Z
   refine s_runk tMs2 Z 1 rfl rfl fun a Z => ?_
   refine s_end Z [4] rfl fun Z => ?_
   refine p_then (wp_ret ?_)
   obtain rfl := some_in hF
   exact f_ret Z (run_results1 rfl Z rfl) ⟨rfl, I1, (H.sub [] rfl).eq rfl⟩

def F_ref09_Same (a0 : EMsg) (b : EMsg) : Option Bool := (gif (((((((((((((a0.k == b.k) && (a0.epoch == b.epoch)) && (a0.req == b.req)) && (a0.serial == b.serial)) && (a0.flag == b.flag)) && (a0.at_ == b.at_)) && (a0.last == b.last)) && (a0.n == b.n)) && (a0.m == b.m)) && (a0.p == b.p)) && (a0.e == b.e)) && (seqB a0.key b.key)) && (seqB a0.to_ b.to_)) (F_ref07_Same a0.conf b.conf) default).bind fun s0 => ((gif ((((((((((((((a0.k == b.k) && (a0.epoch == b.epoch)) && (a0.req == b.req)) && (a0.serial == b.serial)) && (a0.flag == b.flag)) && (a0.at_ == b.at_)) && (a0.last == b.last)) && (a0.n == b.n)) && (a0.m == b.m)) && (a0.p == b.p)) && (a0.e == b.e)) && (seqB a0.key b.key)) && (seqB a0.to_ b.to_)) && s0) (F_ref06_Same a0.batch b.batch) default).bind fun s0_2 => ((gif (((((((((((((((a0.k == b.k) && (a0.epoch == b.epoch)) && (a0.req == b.req)) && (a0.serial == b.serial)) && (a0.flag == b.flag)) && (a0.at_ == b.at_)) && (a0.last == b.last)) && (a0.n == b.n)) && (a0.m == b.m)) && (a0.p == b.p)) && (a0.e == b.e)) && (seqB a0.key b.key)) && (seqB a0.to_ b.to_)) && s0) && s0_2) (F_ref08_SameAll a0.entries b.entries) default).bind fun s0_3 => ((gif ((((((((((((((((a0.k == b.k) && (a0.epoch == b.epoch)) && (a0.req == b.req)) && (a0.serial == b.serial)) && (a0.flag == b.flag)) && (a0.at_ == b.at_)) && (a0.last == b.last)) && (a0.n == b.n)) && (a0.m == b.m)) && (a0.p == b.p)) && (a0.e == b.e)) && (seqB a0.key b.key)) && (seqB a0.to_ b.to_)) && s0) && s0_2) && s0_3) (F_ref09_sameStamps a0.stamps b.stamps) default).bind fun s0_4 => ((gif (((((((((((((((((a0.k == b.k) && (a0.epoch == b.epoch)) && (a0.req == b.req)) && (a0.serial == b.serial)) && (a0.flag == b.flag)) && (a0.at_ == b.at_)) && (a0.last == b.last)) && (a0.n == b.n)) && (a0.m == b.m)) && (a0.p == b.p)) && (a0.e == b.e)) && (seqB a0.key b.key)) && (seqB a0.to_ b.to_)) && s0) && s0_2) && s0_3) && s0_4) (F_ref06_SamePairs a0.pairs b.pairs) default).bind fun s0_5 => (some ((((((((((((((((((a0.k == b.k) && (a0.epoch == b.epoch)) && (a0.req == b.req)) && (a0.serial == b.serial)) && (a0.flag == b.flag)) && (a0.at_ == b.at_)) && (a0.last == b.last)) && (a0.n == b.n)) && (a0.m == b.m)) && (a0.p == b.p)) && (a0.e == b.e)) && (seqB a0.key b.key)) && (seqB a0.to_ b.to_)) && s0) && s0_2) && s0_3) && s0_4) && s0_5))))))

set_option maxRecDepth 5000 in
set_option maxHeartbeats 1000000 in
theorem c_ref09_Same {I D : Dm} {a0 : EMsg} {v1_a0 : Value} {v2_a0 : Value} {v3_a0 : Value} {v4_a0 : Value} {v5_a0 : Value} {b : EMsg} {v6_b : Value} {v7_b : Value} {v8_b : Value} {v9_b : Value} {v10_b : Value} {w : World} {rr : Bool} (hF : F_ref09_Same a0 b = some rr) (H : St I D w [SlC NEMember v1_a0 a0.conf.members, SlC NEOp v2_a0 a0.batch.ops, SlC NEEntry v3_a0 a0.entries, SlC Nu64 v4_a0 a0.stamps, SlC NEPair v5_a0 a0.pairs, SlC NEMember v6_b b.conf.members, SlC NEOp v7_b b.batch.ops, SlC NEEntry v8_b b.entries, SlC Nu64 v9_b b.stamps, SlC NEPair v10_b b.pairs]) :
  Calls Try.prog 11 #[.agg (cEMsg a0 v1_a0 v2_a0 v3_a0 v4_a0 v5_a0).toArray, .agg (cEMsg b v6_b v7_b v8_b v9_b v10_b).toArray] w (Ret fun vv w' => vv = vT rr ∧ ∃ I', Hf I D w I' w' []) := by
 replace H := H.hf
 unfold F_ref09_Same at hF
 refine f_enter 129 Try.func11 rfl rfl (Nat.le_of_ble_eq_true rfl) fun a Z => ?_
 replace Z := Z.sub (ts := [0, 1]) rfl
 refine wp_seq (f_region Z ?_); clear Z; intro Z
 refine h_boxv Z H (cl := (cEMsg a0 v1_a0 v2_a0 v3_a0 v4_a0 v5_a0)) rfl rfl rfl (by decide) rfl rfl rfl fun a w1 b1 H Z => ?_
 refine h_boxv Z H (cl := (cEMsg b v6_b v7_b v8_b v9_b v10_b)) rfl rfl rfl (by decide) rfl rfl rfl fun a w2 b2 H Z => ?_
 refine s_runk tMs2 Z 1 rfl rfl fun a Z => ?_
 refine s_end Z [2, 3] rfl fun Z => ?_
 refine p_then (wp_seq ?_)
 obtain ⟨s0, hx1, hF⟩ := bnd_in hF
 obtain ⟨s0_2, hx2, hF⟩ := bnd_in hF
 obtain ⟨s0_3, hx3, hF⟩ := bnd_in hF
 obtain ⟨s0_4, hx4, hF⟩ := bnd_in hF
 obtain ⟨s0_5, hx5, hF⟩ := bnd_in hF
 refine f_region Z fun Z => ?_
 refine s_runk tMs2 Z 1 rfl rfl fun a Z => ?_
 refine sO Z _ rfl (oL tMs2 rfl rfl (H.bc 1 0 rfl rfl)) fun a Z => ?_
 refine s_runk tMs2 Z 1 rfl rfl fun a Z => ?_
 refine sO Z _ rfl (oL tMs2 rfl rfl (H.bc 0 0 rfl rfl)) fun a Z => ?_
 refine s_runk tMs2 Z 2 rfl rfl fun a Z => ?_
 refine gO Z (pp b1 1) rfl (wantB_t _) (.n 2 rfl .z) (fun hp => Ob_c tMs2 rfl) fun a Z => ?_
 refine gO Z _ rfl (wantB_t _) (.c 11 rfl id .z) (fun hp => oL tMs2 rfl rfl (H.bc 1 1 rfl rfl)) fun a Z => ?_
 refine gO Z (pp b2 1) rfl (wantB_t _) (.n 3 rfl .z) (fun hp => Ob_c tMs2 rfl) fun a Z => ?_
 refine gO Z _ rfl (wantB_t _) (.c 13 rfl id .z) (fun hp => oL tMs2 rfl rfl (H.bc 0 1 rfl rfl)) fun a Z => ?_
 refine gO Z (vT (a0.epoch == b.epoch)) rfl (wantB_t _) (.c 12 rfl id (.c 14 rfl id .z)) (fun hp => Ob_c tMs2 rfl) fun a Z => ?_
 refine sO Z (vT ((a0.k == b.k) && (a0.epoch == b.epoch))) rfl (Ob_pick rfl rfl rfl rfl (pick_and _ _)) fun a Z => ?_
 refine s_runk tMs2 Z 1 rfl rfl fun a Z => ?_
 refine gO Z (pp b1 2) rfl (wantB_t _) (.n 2 rfl .z) (fun hp => Ob_c tMs2 rfl) fun a Z => ?_
 refine gO Z _ rfl (wantB_t _) (.c 18 rfl id .z) (fun hp => oL tMs2 rfl rfl (H.bc 1 2 rfl rfl)) fun a Z => ?_
 refine gO Z (pp b2 2) rfl (wantB_t _) (.n 3 rfl .z) (fun hp => Ob_c tMs2 rfl) fun a Z => ?_
 refine gO Z _ rfl (wantB_t _) (.c 20 rfl id .z) (fun hp => oL tMs2 rfl rfl (H.bc 0 2 rfl rfl)) fun a Z => ?_
 refine gO Z (vT (a0.req == b.req)) rfl (wantB_t _) (.c 19 rfl id (.c 21 rfl id .z)) (fun hp => Ob_c tMs2 rfl) fun a Z => ?_
 refine sO Z (vT (((a0.k == b.k) && (a0.epoch == b.epoch)) && (a0.req == b.req))) rfl (Ob_pick rfl rfl rfl rfl (pick_and _ _)) fun a Z => ?_
 refine s_runk tMs2 Z 1 rfl rfl fun a Z => ?_
 refine gO Z (pp b1 3) rfl (wantB_t _) (.n 2 rfl .z) (fun hp => Ob_c tMs2 rfl) fun a Z => ?_
 refine gO Z _ rfl (wantB_t _) (.c 25 rfl id .z) (fun hp => oL tMs2 rfl rfl (H.bc 1 3 rfl rfl)) fun a Z => ?_
 refine gO Z (pp b2 3) rfl (wantB_t _) (.n 3 rfl .z) (fun hp => Ob_c tMs2 rfl) fun a Z => ?_
 refine gO Z _ rfl (wantB_t _) (.c 27 rfl id .z) (fun hp => oL tMs2 rfl rfl (H.bc 0 3 rfl rfl)) fun a Z => ?_
 refine gO Z (vT (a0.serial == b.serial)) rfl (wantB_t _) (.c 26 rfl id (.c 28 rfl id .z)) (fun hp => Ob_c tMs2 rfl) fun a Z => ?_
 refine sO Z (vT ((((a0.k == b.k) && (a0.epoch == b.epoch)) && (a0.req == b.req)) && (a0.serial == b.serial))) rfl (Ob_pick rfl rfl rfl rfl (pick_and _ _)) fun a Z => ?_
 refine s_runk tMs2 Z 1 rfl rfl fun a Z => ?_
 refine gO Z (pp b1 4) rfl (wantB_t _) (.n 2 rfl .z) (fun hp => Ob_c tMs2 rfl) fun a Z => ?_
 refine gO Z _ rfl (wantB_t _) (.c 32 rfl id .z) (fun hp => oL tMs2 rfl rfl (H.bc 1 4 rfl rfl)) fun a Z => ?_
 refine gO Z (pp b2 4) rfl (wantB_t _) (.n 3 rfl .z) (fun hp => Ob_c tMs2 rfl) fun a Z => ?_
 refine gO Z _ rfl (wantB_t _) (.c 34 rfl id .z) (fun hp => oL tMs2 rfl rfl (H.bc 0 4 rfl rfl)) fun a Z => ?_
 refine gO Z (vT (a0.flag == b.flag)) rfl (wantB_t _) (.c 33 rfl id (.c 35 rfl id .z)) (fun hp => Ob_c tMs2 rfl) fun a Z => ?_
 refine sO Z (vT (((((a0.k == b.k) && (a0.epoch == b.epoch)) && (a0.req == b.req)) && (a0.serial == b.serial)) && (a0.flag == b.flag))) rfl (Ob_pick rfl rfl rfl rfl (pick_and _ _)) fun a Z => ?_
 refine s_runk tMs2 Z 1 rfl rfl fun a Z => ?_
 refine gO Z (pp b1 5) rfl (wantB_t _) (.n 2 rfl .z) (fun hp => Ob_c tMs2 rfl) fun a Z => ?_
 refine gO Z _ rfl (wantB_t _) (.c 39 rfl id .z) (fun hp => oL tMs2 rfl rfl (H.bc 1 5 rfl rfl)) fun a Z => ?_
 refine gO Z (pp b2 5) rfl (wantB_t _) (.n 3 rfl .z) (fun hp => Ob_c tMs2 rfl) fun a Z => ?_
 refine gO Z _ rfl (wantB_t _) (.c 41 rfl id .z) (fun hp => oL tMs2 rfl rfl (H.bc 0 5 rfl rfl)) fun a Z => ?_
 refine gO Z (vT (a0.at_ == b.at_)) rfl (wantB_t _) (.c 40 rfl id (.c 42 rfl id .z)) (fun hp => Ob_c tMs2 rfl) fun a Z => ?_
 refine sO Z (vT ((((((a0.k == b.k) && (a0.epoch == b.epoch)) && (a0.req == b.req)) && (a0.serial == b.serial)) && (a0.flag == b.flag)) && (a0.at_ == b.at_))) rfl (Ob_pick rfl rfl rfl rfl (pick_and _ _)) fun a Z => ?_
 refine s_runk tMs2 Z 1 rfl rfl fun a Z => ?_
 refine gO Z (pp b1 6) rfl (wantB_t _) (.n 2 rfl .z) (fun hp => Ob_c tMs2 rfl) fun a Z => ?_
 refine gO Z _ rfl (wantB_t _) (.c 46 rfl id .z) (fun hp => oL tMs2 rfl rfl (H.bc 1 6 rfl rfl)) fun a Z => ?_
 refine gO Z (pp b2 6) rfl (wantB_t _) (.n 3 rfl .z) (fun hp => Ob_c tMs2 rfl) fun a Z => ?_
 refine gO Z _ rfl (wantB_t _) (.c 48 rfl id .z) (fun hp => oL tMs2 rfl rfl (H.bc 0 6 rfl rfl)) fun a Z => ?_
 refine gO Z (vT (a0.last == b.last)) rfl (wantB_t _) (.c 47 rfl id (.c 49 rfl id .z)) (fun hp => Ob_c tMs2 rfl) fun a Z => ?_
 refine sO Z (vT (((((((a0.k == b.k) && (a0.epoch == b.epoch)) && (a0.req == b.req)) && (a0.serial == b.serial)) && (a0.flag == b.flag)) && (a0.at_ == b.at_)) && (a0.last == b.last))) rfl (Ob_pick rfl rfl rfl rfl (pick_and _ _)) fun a Z => ?_
 refine s_runk tMs2 Z 1 rfl rfl fun a Z => ?_
 refine gO Z (pp b1 7) rfl (wantB_t _) (.n 2 rfl .z) (fun hp => Ob_c tMs2 rfl) fun a Z => ?_
 refine gO Z _ rfl (wantB_t _) (.c 53 rfl id .z) (fun hp => oL tMs2 rfl rfl (H.bc 1 7 rfl rfl)) fun a Z => ?_
 refine gO Z (pp b2 7) rfl (wantB_t _) (.n 3 rfl .z) (fun hp => Ob_c tMs2 rfl) fun a Z => ?_
 refine gO Z _ rfl (wantB_t _) (.c 55 rfl id .z) (fun hp => oL tMs2 rfl rfl (H.bc 0 7 rfl rfl)) fun a Z => ?_
 refine gO Z (vT (a0.n == b.n)) rfl (wantB_t _) (.c 54 rfl id (.c 56 rfl id .z)) (fun hp => Ob_c tMs2 rfl) fun a Z => ?_
 refine sO Z (vT ((((((((a0.k == b.k) && (a0.epoch == b.epoch)) && (a0.req == b.req)) && (a0.serial == b.serial)) && (a0.flag == b.flag)) && (a0.at_ == b.at_)) && (a0.last == b.last)) && (a0.n == b.n))) rfl (Ob_pick rfl rfl rfl rfl (pick_and _ _)) fun a Z => ?_
 refine s_runk tMs2 Z 1 rfl rfl fun a Z => ?_
 refine gO Z (pp b1 8) rfl (wantB_t _) (.n 2 rfl .z) (fun hp => Ob_c tMs2 rfl) fun a Z => ?_
 refine gO Z _ rfl (wantB_t _) (.c 60 rfl id .z) (fun hp => oL tMs2 rfl rfl (H.bc 1 8 rfl rfl)) fun a Z => ?_
 refine gO Z (pp b2 8) rfl (wantB_t _) (.n 3 rfl .z) (fun hp => Ob_c tMs2 rfl) fun a Z => ?_
 refine gO Z _ rfl (wantB_t _) (.c 62 rfl id .z) (fun hp => oL tMs2 rfl rfl (H.bc 0 8 rfl rfl)) fun a Z => ?_
 refine gO Z (vT (a0.m == b.m)) rfl (wantB_t _) (.c 61 rfl id (.c 63 rfl id .z)) (fun hp => Ob_c tMs2 rfl) fun a Z => ?_
 refine sO Z (vT (((((((((a0.k == b.k) && (a0.epoch == b.epoch)) && (a0.req == b.req)) && (a0.serial == b.serial)) && (a0.flag == b.flag)) && (a0.at_ == b.at_)) && (a0.last == b.last)) && (a0.n == b.n)) && (a0.m == b.m))) rfl (Ob_pick rfl rfl rfl rfl (pick_and _ _)) fun a Z => ?_
 refine s_runk tMs2 Z 1 rfl rfl fun a Z => ?_
 refine gO Z (pp b1 9) rfl (wantB_t _) (.n 2 rfl .z) (fun hp => Ob_c tMs2 rfl) fun a Z => ?_
 refine gO Z _ rfl (wantB_t _) (.c 67 rfl id .z) (fun hp => oL tMs2 rfl rfl (H.bc 1 9 rfl rfl)) fun a Z => ?_
 refine gO Z (pp b2 9) rfl (wantB_t _) (.n 3 rfl .z) (fun hp => Ob_c tMs2 rfl) fun a Z => ?_
 refine gO Z _ rfl (wantB_t _) (.c 69 rfl id .z) (fun hp => oL tMs2 rfl rfl (H.bc 0 9 rfl rfl)) fun a Z => ?_
 refine gO Z (vT (a0.p == b.p)) rfl (wantB_t _) (.c 68 rfl id (.c 70 rfl id .z)) (fun hp => Ob_c tMs2 rfl) fun a Z => ?_
 refine sO Z (vT ((((((((((a0.k == b.k) && (a0.epoch == b.epoch)) && (a0.req == b.req)) && (a0.serial == b.serial)) && (a0.flag == b.flag)) && (a0.at_ == b.at_)) && (a0.last == b.last)) && (a0.n == b.n)) && (a0.m == b.m)) && (a0.p == b.p))) rfl (Ob_pick rfl rfl rfl rfl (pick_and _ _)) fun a Z => ?_
 refine s_runk tMs2 Z 1 rfl rfl fun a Z => ?_
 refine gO Z (pp b1 10) rfl (wantB_t _) (.n 2 rfl .z) (fun hp => Ob_c tMs2 rfl) fun a Z => ?_
 refine gO Z _ rfl (wantB_t _) (.c 74 rfl id .z) (fun hp => oL tMs2 rfl rfl (H.bc 1 10 rfl rfl)) fun a Z => ?_
 refine gO Z (pp b2 10) rfl (wantB_t _) (.n 3 rfl .z) (fun hp => Ob_c tMs2 rfl) fun a Z => ?_
 refine gO Z _ rfl (wantB_t _) (.c 76 rfl id .z) (fun hp => oL tMs2 rfl rfl (H.bc 0 10 rfl rfl)) fun a Z => ?_
 refine gO Z (vT (a0.e == b.e)) rfl (wantB_t _) (.c 75 rfl id (.c 77 rfl id .z)) (fun hp => Ob_c tMs2 rfl) fun a Z => ?_
 refine sO Z (vT (((((((((((a0.k == b.k) && (a0.epoch == b.epoch)) && (a0.req == b.req)) && (a0.serial == b.serial)) && (a0.flag == b.flag)) && (a0.at_ == b.at_)) && (a0.last == b.last)) && (a0.n == b.n)) && (a0.m == b.m)) && (a0.p == b.p)) && (a0.e == b.e))) rfl (Ob_pick rfl rfl rfl rfl (pick_and _ _)) fun a Z => ?_
 refine s_runk tMs2 Z 1 rfl rfl fun a Z => ?_
 refine gO Z (pp b1 11) rfl (wantB_t _) (.n 2 rfl .z) (fun hp => Ob_c tMs2 rfl) fun a Z => ?_
 refine gO Z _ rfl (wantB_t _) (.c 81 rfl id .z) (fun hp => oL tMs2 rfl rfl (H.bc 1 11 rfl rfl)) fun a Z => ?_
 refine gO Z (pp b2 11) rfl (wantB_t _) (.n 3 rfl .z) (fun hp => Ob_c tMs2 rfl) fun a Z => ?_
 refine gO Z _ rfl (wantB_t _) (.c 83 rfl id .z) (fun hp => oL tMs2 rfl rfl (H.bc 0 11 rfl rfl)) fun a Z => ?_
 refine gO Z (vT (seqB a0.key b.key)) rfl (wantB_t _) (.c 82 rfl id (.c 84 rfl id .z)) (fun hp => Ob_c tMs2 rfl) fun a Z => ?_
 refine sO Z (vT ((((((((((((a0.k == b.k) && (a0.epoch == b.epoch)) && (a0.req == b.req)) && (a0.serial == b.serial)) && (a0.flag == b.flag)) && (a0.at_ == b.at_)) && (a0.last == b.last)) && (a0.n == b.n)) && (a0.m == b.m)) && (a0.p == b.p)) && (a0.e == b.e)) && (seqB a0.key b.key))) rfl (Ob_pick rfl rfl rfl rfl (pick_and _ _)) fun a Z => ?_
 refine s_runk tMs2 Z 1 rfl rfl fun a Z => ?_
 refine gO Z (pp b1 12) rfl (wantB_t _) (.n 2 rfl .z) (fun hp => Ob_c tMs2 rfl) fun a Z => ?_
 refine gO Z _ rfl (wantB_t _) (.c 88 rfl id .z) (fun hp => oL tMs2 rfl rfl (H.bc 1 12 rfl rfl)) fun a Z => ?_
 refine gO Z (pp b2 12) rfl (wantB_t _) (.n 3 rfl .z) (fun hp => Ob_c tMs2 rfl) fun a Z => ?_
 refine gO Z _ rfl (wantB_t _) (.c 90 rfl id .z) (fun hp => oL tMs2 rfl rfl (H.bc 0 12 rfl rfl)) fun a Z => ?_
 refine gO Z (vT (seqB a0.to_ b.to_)) rfl (wantB_t _) (.c 89 rfl id (.c 91 rfl id .z)) (fun hp => Ob_c tMs2 rfl) fun a Z => ?_
 refine sO Z (vT (((((((((((((a0.k == b.k) && (a0.epoch == b.epoch)) && (a0.req == b.req)) && (a0.serial == b.serial)) && (a0.flag == b.flag)) && (a0.at_ == b.at_)) && (a0.last == b.last)) && (a0.n == b.n)) && (a0.m == b.m)) && (a0.p == b.p)) && (a0.e == b.e)) && (seqB a0.key b.key)) && (seqB a0.to_ b.to_))) rfl (Ob_pick rfl rfl rfl rfl (pick_and _ _)) fun a Z => ?_
 refine s_runk tMs2 Z 1 rfl rfl fun a Z => ?_
 refine gO Z (pp b1 13) rfl (wantB_t _) (.n 2 rfl .z) (fun hp => Ob_c tMs2 rfl) fun a Z => ?_
 refine gO Z (.agg #[vI a0.conf.epoch, v1_a0, vU a0.conf.floor]) rfl (wantB_t _) (.c 95 rfl id .z) (fun hp => oA tMs2 rfl rfl ((H.bx 1 rfl).part 13 rfl)) fun a Z => ?_
 refine gO Z (pp b2 13) rfl (wantB_t _) (.n 3 rfl .z) (fun hp => Ob_c tMs2 rfl) fun a Z => ?_
 refine gO Z (.agg #[vI b.conf.epoch, v6_b, vU b.conf.floor]) rfl (wantB_t _) (.c 97 rfl id .z) (fun hp => oA tMs2 rfl rfl ((H.bx 0 rfl).part 13 rfl)) fun a Z => ?_
 refine g_call Z (p := (((((((((((((a0.k == b.k) && (a0.epoch == b.epoch)) && (a0.req == b.req)) && (a0.serial == b.serial)) && (a0.flag == b.flag)) && (a0.at_ == b.at_)) && (a0.last == b.last)) && (a0.n == b.n)) && (a0.m == b.m)) && (a0.p == b.p)) && (a0.e == b.e)) && (seqB a0.key b.key)) && (seqB a0.to_ b.to_))) (v := vT s0) (S' := [(96, .agg #[vI a0.conf.epoch, v1_a0, vU a0.conf.floor]), (98, .agg #[vI b.conf.epoch, v6_b, vU b.conf.floor])]) (caps := #[]) fn_26_YMs2 rfl rfl rfl (wantB_t _) rfl (by decide) (fun hp hS => ((hS.conv (t := 96) rfl (cond_t hp)).conv (t := 98) rfl (cond_t hp)).sub (ts := [96, 98]) rfl) rfl rfl rfl rfl (fun hp => (have hq := c_ref07_Same (gif_in hx1 hp) ((H).pick0 (js := [(2, true), (7, true)]) rfl rfl); plainC hq)) fun a w3 hb Z => ?_
 replace H := H.blw hb
 clear hb
 refine sO Z (vT ((((((((((((((a0.k == b.k) && (a0.epoch == b.epoch)) && (a0.req == b.req)) && (a0.serial == b.serial)) && (a0.flag == b.flag)) && (a0.at_ == b.at_)) && (a0.last == b.last)) && (a0.n == b.n)) && (a0.m == b.m)) && (a0.p == b.p)) && (a0.e == b.e)) && (seqB a0.key b.key)) && (seqB a0.to_ b.to_)) && s0)) rfl (Ob_pick rfl rfl rfl rfl (pick_and _ _)) fun a Z => ?_
 refine s_runk tMs2 Z 1 rfl rfl fun a Z => ?_
 refine gO Z (pp b1 16) rfl (wantB_t _) (.n 2 rfl .z) (fun hp => Ob_c tMs2 rfl) fun a Z => ?_
 refine gO Z (.agg #[vI a0.batch.client, vI a0.batch.req, v2_a0]) rfl (wantB_t _) (.c 102 rfl id .z) (fun hp => oA tMs2 rfl rfl ((H.bx 1 rfl).part 16 rfl)) fun a Z => ?_
 refine gO Z (pp b2 16) rfl (wantB_t _) (.n 3 rfl .z) (fun hp => Ob_c tMs2 rfl) fun a Z => ?_
 refine gO Z (.agg #[vI b.batch.client, vI b.batch.req, v7_b]) rfl (wantB_t _) (.c 104 rfl id .z) (fun hp => oA tMs2 rfl rfl ((H.bx 0 rfl).part 16 rfl)) fun a Z => ?_
 refine g_call Z (p := ((((((((((((((a0.k == b.k) && (a0.epoch == b.epoch)) && (a0.req == b.req)) && (a0.serial == b.serial)) && (a0.flag == b.flag)) && (a0.at_ == b.at_)) && (a0.last == b.last)) && (a0.n == b.n)) && (a0.m == b.m)) && (a0.p == b.p)) && (a0.e == b.e)) && (seqB a0.key b.key)) && (seqB a0.to_ b.to_)) && s0)) (v := vT s0_2) (S' := [(103, .agg #[vI a0.batch.client, vI a0.batch.req, v2_a0]), (105, .agg #[vI b.batch.client, vI b.batch.req, v7_b])]) (caps := #[]) fn_27_YMs2 rfl rfl rfl (wantB_t _) rfl (by decide) (fun hp hS => ((hS.conv (t := 103) rfl (cond_t hp)).conv (t := 105) rfl (cond_t hp)).sub (ts := [103, 105]) rfl) rfl rfl rfl rfl (fun hp => (have hq := c_ref06_Same (gif_in hx2 hp) ((H).pick0 (js := [(3, true), (8, true)]) rfl rfl); plainC hq)) fun a w4 hb Z => ?_
 replace H := H.blw hb
 clear hb
 refine sO Z (vT (((((((((((((((a0.k == b.k) && (a0.epoch == b.epoch)) && (a0.req == b.req)) && (a0.serial == b.serial)) && (a0.flag == b.flag)) && (a0.at_ == b.at_)) && (a0.last == b.last)) && (a0.n == b.n)) && (a0.m == b.m)) && (a0.p == b.p)) && (a0.e == b.e)) && (seqB a0.key b.key)) && (seqB a0.to_ b.to_)) && s0) && s0_2)) rfl (Ob_pick rfl rfl rfl rfl (pick_and _ _)) fun a Z => ?_
 refine s_runk tMs2 Z 1 rfl rfl fun a Z => ?_
 refine gO Z (pp b1 19) rfl (wantB_t _) (.n 2 rfl .z) (fun hp => Ob_c tMs2 rfl) fun a Z => ?_
 refine gO Z _ rfl (wantB_t _) (.c 109 rfl id .z) (fun hp => oL tMs2 rfl rfl (H.bc 1 19 rfl rfl)) fun a Z => ?_
 refine gO Z (pp b2 19) rfl (wantB_t _) (.n 3 rfl .z) (fun hp => Ob_c tMs2 rfl) fun a Z => ?_
 refine gO Z _ rfl (wantB_t _) (.c 111 rfl id .z) (fun hp => oL tMs2 rfl rfl (H.bc 0 19 rfl rfl)) fun a Z => ?_
 refine g_call Z (p := (((((((((((((((a0.k == b.k) && (a0.epoch == b.epoch)) && (a0.req == b.req)) && (a0.serial == b.serial)) && (a0.flag == b.flag)) && (a0.at_ == b.at_)) && (a0.last == b.last)) && (a0.n == b.n)) && (a0.m == b.m)) && (a0.p == b.p)) && (a0.e == b.e)) && (seqB a0.key b.key)) && (seqB a0.to_ b.to_)) && s0) && s0_2)) (v := vT s0_3) (S' := [(110, v3_a0), (112, v8_b)]) (caps := #[]) fn_28_YMs2 rfl rfl rfl (wantB_t _) rfl (by decide) (fun hp hS => ((hS.conv (t := 110) rfl (cond_t hp)).conv (t := 112) rfl (cond_t hp)).sub (ts := [110, 112]) rfl) rfl rfl rfl rfl (fun hp => (have hq := c_ref08_SameAll (gif_in hx3 hp) ((H).pick0 (js := [(4, true), (9, true)]) rfl rfl); plainC hq)) fun a w5 hb Z => ?_
 replace H := H.blw hb
 clear hb
 refine sO Z (vT ((((((((((((((((a0.k == b.k) && (a0.epoch == b.epoch)) && (a0.req == b.req)) && (a0.serial == b.serial)) && (a0.flag == b.flag)) && (a0.at_ == b.at_)) && (a0.last == b.last)) && (a0.n == b.n)) && (a0.m == b.m)) && (a0.p == b.p)) && (a0.e == b.e)) && (seqB a0.key b.key)) && (seqB a0.to_ b.to_)) && s0) && s0_2) && s0_3)) rfl (Ob_pick rfl rfl rfl rfl (pick_and _ _)) fun a Z => ?_
 refine s_runk tMs2 Z 1 rfl rfl fun a Z => ?_
 refine gO Z (pp b1 20) rfl (wantB_t _) (.n 2 rfl .z) (fun hp => Ob_c tMs2 rfl) fun a Z => ?_
 refine gO Z _ rfl (wantB_t _) (.c 116 rfl id .z) (fun hp => oL tMs2 rfl rfl (H.bc 1 20 rfl rfl)) fun a Z => ?_
 refine gO Z (pp b2 20) rfl (wantB_t _) (.n 3 rfl .z) (fun hp => Ob_c tMs2 rfl) fun a Z => ?_
 refine gO Z _ rfl (wantB_t _) (.c 118 rfl id .z) (fun hp => oL tMs2 rfl rfl (H.bc 0 20 rfl rfl)) fun a Z => ?_
 refine g_call Z (p := ((((((((((((((((a0.k == b.k) && (a0.epoch == b.epoch)) && (a0.req == b.req)) && (a0.serial == b.serial)) && (a0.flag == b.flag)) && (a0.at_ == b.at_)) && (a0.last == b.last)) && (a0.n == b.n)) && (a0.m == b.m)) && (a0.p == b.p)) && (a0.e == b.e)) && (seqB a0.key b.key)) && (seqB a0.to_ b.to_)) && s0) && s0_2) && s0_3)) (v := vT s0_4) (S' := [(117, v4_a0), (119, v9_b)]) (caps := #[]) fn_29_YMs2 rfl rfl rfl (wantB_t _) rfl (by decide) (fun hp hS => ((hS.conv (t := 117) rfl (cond_t hp)).conv (t := 119) rfl (cond_t hp)).sub (ts := [117, 119]) rfl) rfl rfl rfl rfl (fun hp => (have hq := c_ref09_sameStamps (gif_in hx4 hp) ((H).pick0 (js := [(5, true), (10, true)]) rfl rfl); plainC hq)) fun a w6 hb Z => ?_
 replace H := H.blw hb
 clear hb
 refine sO Z (vT (((((((((((((((((a0.k == b.k) && (a0.epoch == b.epoch)) && (a0.req == b.req)) && (a0.serial == b.serial)) && (a0.flag == b.flag)) && (a0.at_ == b.at_)) && (a0.last == b.last)) && (a0.n == b.n)) && (a0.m == b.m)) && (a0.p == b.p)) && (a0.e == b.e)) && (seqB a0.key b.key)) && (seqB a0.to_ b.to_)) && s0) && s0_2) && s0_3) && s0_4)) rfl (Ob_pick rfl rfl rfl rfl (pick_and _ _)) fun a Z => ?_
 refine s_runk tMs2 Z 1 rfl rfl fun a Z => ?_
 refine gO Z (pp b1 21) rfl (wantB_t _) (.n 2 rfl .z) (fun hp => Ob_c tMs2 rfl) fun a Z => ?_
 refine gO Z _ rfl (wantB_t _) (.c 123 rfl id .z) (fun hp => oL tMs2 rfl rfl (H.bc 1 21 rfl rfl)) fun a Z => ?_
 refine gO Z (pp b2 21) rfl (wantB_t _) (.n 3 rfl .z) (fun hp => Ob_c tMs2 rfl) fun a Z => ?_
 refine gO Z _ rfl (wantB_t _) (.c 125 rfl id .z) (fun hp => oL tMs2 rfl rfl (H.bc 0 21 rfl rfl)) fun a Z => ?_
 refine g_call Z (p := (((((((((((((((((a0.k == b.k) && (a0.epoch == b.epoch)) && (a0.req == b.req)) && (a0.serial == b.serial)) && (a0.flag == b.flag)) && (a0.at_ == b.at_)) && (a0.last == b.last)) && (a0.n == b.n)) && (a0.m == b.m)) && (a0.p == b.p)) && (a0.e == b.e)) && (seqB a0.key b.key)) && (seqB a0.to_ b.to_)) && s0) && s0_2) && s0_3) && s0_4)) (v := vT s0_5) (S' := [(124, v5_a0), (126, v10_b)]) (caps := #[]) fn_21_YMs2 rfl rfl rfl (wantB_t _) rfl (by decide) (fun hp hS => ((hS.conv (t := 124) rfl (cond_t hp)).conv (t := 126) rfl (cond_t hp)).sub (ts := [124, 126]) rfl) rfl rfl rfl rfl (fun hp => (have hq := c_ref06_SamePairs (gif_in hx5 hp) ((H).pick0 (js := [(6, true), (11, true)]) rfl rfl); plainC hq)) fun a w7 hb Z => ?_
 replace H := H.blw hb
 clear hb
 refine sO Z (vT ((((((((((((((((((a0.k == b.k) && (a0.epoch == b.epoch)) && (a0.req == b.req)) && (a0.serial == b.serial)) && (a0.flag == b.flag)) && (a0.at_ == b.at_)) && (a0.last == b.last)) && (a0.n == b.n)) && (a0.m == b.m)) && (a0.p == b.p)) && (a0.e == b.e)) && (seqB a0.key b.key)) && (seqB a0.to_ b.to_)) && s0) && s0_2) && s0_3) && s0_4) && s0_5)) rfl (Ob_pick rfl rfl rfl rfl (pick_and _ _)) fun a Z => ?_
 refine s_runk tMs2 Z 1 rfl rfl fun a Z => ?_
 refine s_end Z [4] rfl fun Z => ?_
 refine p_then (wp_ret ?_)
 obtain rfl := some_in hF
 exact f_ret Z (run_results1 rfl Z rfl) ⟨rfl, I, (H.sub [] rfl).eq rfl⟩

end Go.Proofs.Ytaknkbbjimielaa
