/- Configurations: read out of bytes. -/
import Derived.Test.YthmjkcdpbbcdgaaGreatYConf
namespace Go.Proofs.YthmjkcdpbbcdgaaGreat
open Go.RowKit
def tC1L : TabL := ⟨[(27648, 0), (27649, 1), (27650, 2), (113665, 1)], [], [], [(25, (111, 2))], [(3, (1, false)), (23, (1, false)), (25, (1, false)), (27, (3, true)), (111, (2, true))]⟩

def tC1 : Tab Tryz.prog := ⟨tC1L, by kernel_rfl⟩

theorem fn_102_YConf1 : IsFn Tryz.prog 102 := ⟨_, Tryz.func102, by kernel_rfl, by kernel_rfl⟩

theorem neq_EMember (x y : EMember) (w : World) : (binOp .neq 111 (.agg (cEMember x).toArray) (.agg (cEMember y).toArray)).run Tryz.prog w = .ok (.bool (!eqEMember x y)) w := by
 have h1 := run_equalIn_struct (P := Tryz.prog) w 9999 111 (cEMember x).toArray (cEMember y).toArray (by rw [fieldsOf_of Tryz.underlying111]; exact Tryz.underlying111) (by kernel_rfl)
 rw [run_neq_struct, h1, fieldsOf_of Tryz.underlying111]
 simp [Op.eqFields, part, isAgg, cEMember, beqS, eqEMember, seqB_eq, run_underlying Tryz.underlying3, run_equalIn_int w 9998 3 _ _ _ _ Tryz.underlying3]
 try ((repeat' split) <;> simp_all)

theorem eqg_EMember (op : BinOp) (x y : Operand) (a b : Array Value) (w : World) : (eqGuard op 111 x y (.agg a) (.agg b)).run Tryz.prog w = .ok () w := run_eqGuard_agg (by kernel_rfl) op x y a b w

def F_ref07_Same_l1 (a0 : EConf) (b : EConf) (rc : Int → Option Bool) (sg : Int) : Option Bool := match sg with | i => if ((decide (i < (a0.members.length : Int))) && (decide (i < (b.members.length : Int)))) = true then (chk ((0 : Int) ≤ i ∧ i < (a0.members.length : Int)) (chk ((0 : Int) ≤ i ∧ i < (b.members.length : Int)) (if (!eqEMember (a0.members.getD (i).toNat default) (b.members.getD (i).toNat default)) = true then (some false) else (chk (inI (i + 1)) (rc (i + 1)))))) else (some true)

def F_ref07_Same (a0 : EConf) (b : EConf) : Option Bool := if (((a0.epoch != b.epoch) || (a0.floor != b.floor)) || ((a0.members.length : Int) != (b.members.length : Int))) = true then (some false) else (iter (F_ref07_Same_l1 a0 b) FU 0)

set_option maxHeartbeats 1000000 in
theorem c_ref07_Same {I D : Dm} {a0 : EConf} {v1_a0 : Value} {b : EConf} {v2_b : Value} {w : World} {rr : Bool} (hF : F_ref07_Same a0 b = some rr) (H : St I D w [SlC NEMember v1_a0 a0.members, SlC NEMember v2_b b.members]) :
  Calls Tryz.prog 29 #[.agg #[vI a0.epoch, v1_a0, vU a0.floor], .agg #[vI b.epoch, v2_b, vU b.floor]] w (Ret fun vv w' => vv = vT rr ∧ ∃ I', Hf I D w I' w' []) := by
 replace H := H.hf
 unfold F_ref07_Same at hF
 refine f_enter 52 Tryz.func29 rfl rfl (Nat.le_of_ble_eq_true rfl) fun a Z => ?_
 replace Z := Z.sub (ts := [0, 1]) rfl
 refine wp_seq (f_region Z ?_); clear Z; intro Z
 refine hB Z H [vI a0.epoch, v1_a0, vU a0.floor] rfl rfl rfl rfl fun a w1 b1 H Z => ?_
 refine hB Z H [vI b.epoch, v2_b, vU b.floor] rfl rfl rfl rfl fun a w2 b2 H Z => ?_
 refine s_runk tC1 Z 1 rfl rfl fun a Z => ?_
 refine s_end Z [2, 3, 4] rfl fun Z => ?_
 refine p_then (wp_seq ?_)
 refine wp_seq (f_region Z ?_); clear Z; intro Z
 refine s_runk tC1 Z 1 rfl rfl fun a Z => ?_
 refine sO Z _ rfl (oL tC1 rfl rfl (H.bc 1 0 rfl rfl)) fun a Z => ?_
 refine s_runk tC1 Z 1 rfl rfl fun a Z => ?_
 refine sO Z _ rfl (oL tC1 rfl rfl (H.bc 0 0 rfl rfl)) fun a Z => ?_
 refine s_runk tC1 Z 2 rfl rfl fun a Z => ?_
 refine gO Z (pp b1 2) rfl (wantB_f _) (.n 2 rfl .z) (fun hp => Ob_c tC1 rfl) fun a Z => ?_
 refine gO Z _ rfl (wantB_f _) (.c 12 rfl id .z) (fun hp => oL tC1 rfl rfl (H.bc 1 2 rfl rfl)) fun a Z => ?_
 refine gO Z (pp b2 2) rfl (wantB_f _) (.n 3 rfl .z) (fun hp => Ob_c tC1 rfl) fun a Z => ?_
 refine gO Z _ rfl (wantB_f _) (.c 14 rfl id .z) (fun hp => oL tC1 rfl rfl (H.bc 0 2 rfl rfl)) fun a Z => ?_
 refine gO Z (vT (a0.floor != b.floor)) rfl (wantB_f _) (.c 13 rfl id (.c 15 rfl id .z)) (fun hp => Ob_c tC1 rfl) fun a Z => ?_
 refine sO Z (vT ((a0.epoch != b.epoch) || (a0.floor != b.floor))) rfl (Ob_pick rfl rfl rfl rfl (pick_or _ _)) fun a Z => ?_
 refine s_runk tC1 Z 1 rfl rfl fun a Z => ?_
 refine gO Z (pp b1 1) rfl (wantB_f _) (.n 2 rfl .z) (fun hp => Ob_c tC1 rfl) fun a Z => ?_
 refine gO Z _ rfl (wantB_f _) (.c 19 rfl id .z) (fun hp => oL tC1 rfl rfl (H.bc 1 1 rfl rfl)) fun a Z => ?_
 refine gO Z (vI (ln a0.members)) rfl (wantB_f _) (.c 20 rfl id .z) (fun hp => Ob_slen tC1 rfl rfl rfl (H.slshape 2 rfl)) fun a Z => ?_
 refine gO Z (pp b2 1) rfl (wantB_f _) (.n 3 rfl .z) (fun hp => Ob_c tC1 rfl) fun a Z => ?_
 refine gO Z _ rfl (wantB_f _) (.c 22 rfl id .z) (fun hp => oL tC1 rfl rfl (H.bc 0 1 rfl rfl)) fun a Z => ?_
 refine gO Z (vI (ln b.members)) rfl (wantB_f _) (.c 23 rfl id .z) (fun hp => Ob_slen tC1 rfl rfl rfl (H.slshape 3 rfl)) fun a Z => ?_
 refine gO Z (vT ((ln a0.members) != (ln b.members))) rfl (wantB_f _) (.c 21 rfl id (.c 24 rfl id .z)) (fun hp => Ob_c tC1 rfl) fun a Z => ?_
 refine sO Z (vT (((a0.epoch != b.epoch) || (a0.floor != b.floor)) || ((ln a0.members) != (ln b.members)))) rfl (Ob_pick rfl rfl rfl rfl (pick_or _ _)) fun a Z => ?_
 refine s_end Z [2, 3, 4, 26] rfl fun Z => ?_
 refine p_then ?_
 refine f_cond Z rfl (fun hc1 => ?_) (fun hc1 => ?_)
 ·replace hF := ite_t hc1 hF
  refine wp_seq (f_region Z ?_); clear Z; intro Z
  refine s_runk tC1 Z 1 rfl rfl fun a Z => ?_
  refine s_end Z [2, 3, 4] rfl fun Z => ?_
  refine p_then (wp_ret ?_)
  refine p_then_r ?_
  obtain rfl := some_in hF
  exact f_ret Z (run_results1 rfl Z rfl) ⟨rfl, I, (H.sub [] rfl).eq rfl⟩
 ·replace hF := ite_f hc1 hF
  refine wp_skip ?_
  refine p_then (wp_seq ?_)
  refine wp_seq (f_region Z ?_); clear Z; intro Z
  refine s_runk tC1 Z 1 rfl rfl fun a Z => ?_
  refine s_end Z [2, 3, 4, 5] rfl fun Z => ?_
  refine p_then (wp_block ?_)
  refine f_iter hF (fun sg a' w' => match sg with | i => Sl 52 [(2, pp b1 0), (3, pp b2 0), (4, vT false), (5, vI i)] a' ∧ ∃ I2, Hf I D w I2 w' [BxC b1 27 [vI a0.epoch, v1_a0, vU a0.floor], BxC b2 27 [vI b.epoch, v2_b, vU b.floor], SlC NEMember v1_a0 a0.members, SlC NEMember v2_b b.members]) ⟨Z.sub (ts := [2, 3, 4, 5]) rfl, ⟨I, (H.sub [(1, false), (0, false), (0, true), (1, true)] rfl).eq rfl⟩⟩ ?_
  rintro rc i a w3 ⟨Z, I1, H⟩ hF
  unfold F_ref07_Same_l1 at hF
  try dsimp only at hF
  refine wp_seq ?_
  refine wp_seq (f_region Z ?_); clear Z; intro Z
  refine s_runk tC1 Z 2 rfl rfl fun a Z => ?_
  refine sO Z _ rfl (oL tC1 rfl rfl (H.bc 0 1 rfl rfl)) fun a Z => ?_
  refine sO Z (vI (ln a0.members)) rfl (Ob_slen tC1 rfl rfl rfl (H.slshape 2 rfl)) fun a Z => ?_
  refine s_runk tC1 Z 2 rfl rfl fun a Z => ?_
  refine gO Z (vI i) rfl (wantB_t _) (.n 5 rfl .z) (fun hp => Ob_c tC1 rfl) fun a Z => ?_
  refine gO Z (pp b2 1) rfl (wantB_t _) (.n 3 rfl .z) (fun hp => Ob_c tC1 rfl) fun a Z => ?_
  refine gO Z _ rfl (wantB_t _) (.c 34 rfl id .z) (fun hp => oL tC1 rfl rfl (H.bc 1 1 rfl rfl)) fun a Z => ?_
  refine gO Z (vI (ln b.members)) rfl (wantB_t _) (.c 35 rfl id .z) (fun hp => Ob_slen tC1 rfl rfl rfl (H.slshape 3 rfl)) fun a Z => ?_
  refine gO Z (vT (decide (i < (ln b.members)))) rfl (wantB_t _) (.c 33 rfl id (.c 36 rfl id .z)) (fun hp => Ob_c tC1 rfl) fun a Z => ?_
  refine sO Z (vT ((decide (i < (ln a0.members))) && (decide (i < (ln b.members))))) rfl (Ob_pick rfl rfl rfl rfl (pick_and _ _)) fun a Z => ?_
  refine s_end Z [2, 3, 4, 5, 27, 28, 29, 30, 31, 32, 38] rfl fun Z => ?_
  refine p_then ?_
  refine f_cond Z rfl (fun hc2 => ?_) (fun hc2 => ?_)
  ·replace hF := ite_t hc2 hF
   refine wp_skip ?_
   refine p_then (wp_seq ?_)
   refine wp_block ?_
   refine wp_seq ?_
   obtain ⟨hg1, hF⟩ := chk_in hF
   obtain ⟨hg2, hF⟩ := chk_in hF
   refine f_quietd (by kernel_rfl) (by kernel_rfl) Z fun Z => ?_
   refine q_runk tC1 Z 1 rfl rfl fun a Z => ?_
   refine qO Z _ rfl (fun _ hw => oL tC1 rfl rfl ((H.blw hw).bc 0 1 rfl rfl)) fun a Z => ?_
   refine q_runk tC1 Z 1 rfl rfl fun a Z => ?_
   refine qO Z (.pointer (some ⟨blkOf v1_a0, oofOf v1_a0 + (i).toNat * 2, none⟩)) rfl (fun _ hw => Ob_sidx tC1 rfl rfl rfl rfl (slPl ((H.blw hw).sl 2 rfl) hg1) hg1) fun a Z => ?_
   refine qO Z (.agg #[vI ((gi a0.members i).id), vI ((gi a0.members i).serial)]) rfl (fun _ hw => oA tC1 rfl rfl ((slFl ((H.blw hw).sl 2 rfl) hg1).part 0 rfl)) fun a Z => ?_
   refine q_runk tC1 Z 1 rfl rfl fun a Z => ?_
   refine qO Z _ rfl (fun _ hw => oL tC1 rfl rfl ((H.blw hw).bc 1 1 rfl rfl)) fun a Z => ?_
   refine q_runk tC1 Z 1 rfl rfl fun a Z => ?_
   refine qO Z (.pointer (some ⟨blkOf v2_b, oofOf v2_b + (i).toNat * 2, none⟩)) rfl (fun _ hw => Ob_sidx tC1 rfl rfl rfl rfl (slPl ((H.blw hw).sl 3 rfl) hg2) hg2) fun a Z => ?_
   refine qO Z (.agg #[vI ((gi b.members i).id), vI ((gi b.members i).serial)]) rfl (fun _ hw => oA tC1 rfl rfl ((slFl ((H.blw hw).sl 3 rfl) hg2).part 0 rfl)) fun a Z => ?_
   refine qO Z (vT (!eqEMember (gi a0.members i) (gi b.members i))) rfl (fun _ hw => Ob_bin rfl rfl rfl (eqg_EMember _ _ _ _ _ _) (neq_EMember (gi a0.members i) (gi b.members i) _)) fun a Z => ?_
   refine q_end Z [2, 3, 4, 5, 27, 28, 29, 30, 31, 32, 38, 41, 42, 43, 44, 45, 46, 47, 48, 49, 50, 51] rfl fun w4 hb Z => ?_
   replace H := H.blw hb
   clear hb
   refine p_then ?_
   refine f_cond Z rfl (fun hc3 => ?_) (fun hc3 => ?_)
   ·replace hF := ite_t hc3 hF
    refine wp_seq (f_region Z ?_); clear Z; intro Z
    refine s_runk tC1 Z 1 rfl rfl fun a Z => ?_
    refine s_end Z [2, 3, 4, 5, 27, 28, 29, 30, 31, 32, 38, 41, 42, 43, 44, 45, 46, 47, 48, 49, 50, 51] rfl fun Z => ?_
    refine p_then (wp_ret ?_)
    refine p_blk_r ?_
    refine p_then_r ?_
    refine p_then_r ?_
    refine p_blk_r ?_
    refine p_then_r ?_
    obtain rfl := some_in hF
    exact f_ret Z (run_results1 rfl Z rfl) ⟨rfl, I1, (H.sub [] rfl).eq rfl⟩
   ·replace hF := ite_f hc3 hF
    refine wp_skip ?_
    refine p_blk ?_
    refine p_then ?_
    obtain ⟨hg3, hF⟩ := chk_in hF
    refine f_region Z fun Z => ?_
    refine s_runk tC1 Z 1 rfl rfl fun a Z => ?_
    refine sO Z (vI (i + 1)) rfl (Ob_add rfl rfl rfl (wrI hg3)) fun a Z => ?_
    refine s_runk tC1 Z 1 rfl rfl fun a Z => ?_
    refine s_end Z [2, 3, 4, 5, 27, 28, 29, 30, 31, 32, 38, 41, 42, 43, 44, 45, 46, 47, 48, 49, 50, 51, 39, 40] rfl fun Z => ?_
    refine p_then ?_
    exact ⟨(i + 1), ⟨Z.sub (ts := [2, 3, 4, 5]) rfl, ⟨I1, (H.sub [(0, false), (0, false), (0, true), (1, true)] rfl).eq rfl⟩⟩, hF⟩
  ·replace hF := ite_f hc2 hF
   refine wp_exit ?_
   refine p_then_x ?_
   refine p_then_x ?_
   refine f_exit_here ?_
   refine p_then (wp_seq (f_region Z ?_)); clear Z; intro Z
   refine s_runk tC1 Z 1 rfl rfl fun a Z => ?_
   refine s_end Z [4] rfl fun Z => ?_
   refine p_then (wp_ret ?_)
   obtain rfl := some_in hF
   exact f_ret Z (run_results1 rfl Z rfl) ⟨rfl, I1, (H.sub [] rfl).eq rfl⟩

def F_slices_Equal_api_Member_api_Member_l1 (s1 : List EMember) (s2 : List EMember) (rc : Int → Option Bool) (sg : Int) : Option Bool := match sg with | x => if (decide (x < (s1.length : Int))) = true then (chk ((0 : Int) ≤ x ∧ x < (s1.length : Int)) (chk ((0 : Int) ≤ x ∧ x < (s2.length : Int)) (if (!eqEMember (s1.getD (x).toNat default) (s2.getD (x).toNat default)) = true then (some false) else (chk (inI (x + 1)) (rc (x + 1)))))) else (some true)

def F_slices_Equal_api_Member_api_Member (s1 : List EMember) (s2 : List EMember) : Option Bool := if ((s1.length : Int) != (s2.length : Int)) = true then (some false) else (iter (F_slices_Equal_api_Member_api_Member_l1 s1 s2) FU 0)

set_option maxHeartbeats 1000000 in
theorem c_slices_Equal_api_Member_api_Member {I D : Dm} {s1 : List EMember} {v1_s1 : Value} {s2 : List EMember} {v2_s2 : Value} {w : World} {rr : Bool} (hF : F_slices_Equal_api_Member_api_Member s1 s2 = some rr) (H : St I D w [SlC NEMember v1_s1 s1, SlC NEMember v2_s2 s2]) :
  Calls Tryz.prog 102 #[v1_s1, v2_s2] w (Ret fun vv w' => vv = vT rr ∧ ∃ I', Hf I D w I' w' []) := by
 replace H := H.hf
 unfold F_slices_Equal_api_Member_api_Member at hF
 refine f_enter 26 Tryz.func102 rfl rfl (Nat.le_of_ble_eq_true rfl) fun a Z => ?_
 replace Z := Z.sub (ts := [0, 1]) rfl
 refine wp_seq (f_region Z ?_); clear Z; intro Z
 refine s_runk tC1 Z 1 rfl rfl fun a Z => ?_
 refine s_end Z [0, 1, 4] rfl fun Z => ?_
 refine p_then (wp_seq ?_)
 refine wp_seq (f_region Z ?_); clear Z; intro Z
 refine s_runk tC1 Z 1 rfl rfl fun a Z => ?_
 refine sO Z (vI (ln s1)) rfl (Ob_slen tC1 rfl rfl rfl (H.slshape 0 rfl)) fun a Z => ?_
 refine s_runk tC1 Z 1 rfl rfl fun a Z => ?_
 refine sO Z (vI (ln s2)) rfl (Ob_slen tC1 rfl rfl rfl (H.slshape 1 rfl)) fun a Z => ?_
 refine s_runk tC1 Z 1 rfl rfl fun a Z => ?_
 refine s_end Z [0, 1, 4, 10] rfl fun Z => ?_
 refine p_then ?_
 refine f_cond Z rfl (fun hc1 => ?_) (fun hc1 => ?_)
 ·replace hF := ite_t hc1 hF
  refine wp_seq (f_region Z ?_); clear Z; intro Z
  refine s_runk tC1 Z 1 rfl rfl fun a Z => ?_
  refine s_end Z [0, 1, 4] rfl fun Z => ?_
  refine p_then (wp_ret ?_)
  refine p_then_r ?_
  obtain rfl := some_in hF
  exact f_ret Z (run_results1 rfl Z rfl) ⟨rfl, I, (H.sub [] rfl).eq rfl⟩
 ·replace hF := ite_f hc1 hF
  refine wp_skip ?_
  refine p_then (wp_seq ?_)
  refine wp_seq (f_region Z ?_); clear Z; intro Z
  refine s_runk tC1 Z 1 rfl rfl fun a Z => ?_
  refine sO Z (vI (ln s1)) rfl (Ob_slen tC1 rfl rfl rfl (H.slshape 0 rfl)) fun a Z => ?_
  refine s_runk tC1 Z 1 rfl rfl fun a Z => ?_
  refine s_end Z [0, 1, 4, 12, 13] rfl fun Z => ?_
  refine p_then (wp_block ?_)
  refine f_iter hF (fun sg a' w' => match sg with | x => Sl 26 [(0, v1_s1), (1, v2_s2), (4, vT false), (12, vI (ln s1)), (13, vI x)] a' ∧ ∃ I2, Hf I D w I2 w' [SlC NEMember v1_s1 s1, SlC NEMember v2_s2 s2]) ⟨Z.sub (ts := [0, 1, 4, 12, 13]) rfl, ⟨I, (H.sub [(0, true), (1, true)] rfl).eq rfl⟩⟩ ?_
  rintro rc x a w1 ⟨Z, I1, H⟩ hF
  unfold F_slices_Equal_api_Member_api_Member_l1 at hF
  try dsimp only at hF
  refine wp_seq (f_region Z ?_); clear Z; intro Z
  refine s_runk tC1 Z 1 rfl rfl fun a Z => ?_
  refine s_end Z [0, 1, 4, 12, 13, 14] rfl fun Z => ?_
  refine p_then (wp_seq ?_)
  refine f_cond Z rfl (fun hc2 => ?_) (fun hc2 => ?_)
  ·replace hF := ite_t hc2 hF
   refine wp_skip ?_
   refine p_then (wp_seq ?_)
   refine wp_block ?_
   refine wp_seq (f_region Z ?_); clear Z; intro Z
   refine s_runk tC1 Z 2 rfl rfl fun a Z => ?_
   refine s_end Z [0, 1, 4, 12, 13, 14, 15, 5] rfl fun Z => ?_
   refine p_then (wp_seq ?_)
   obtain ⟨hg1, hF⟩ := chk_in hF
   obtain ⟨hg2, hF⟩ := chk_in hF
   refine f_quietd (by kernel_rfl) (by kernel_rfl) Z fun Z => ?_
   refine q_runk tC1 Z 2 rfl rfl fun a Z => ?_
   refine qO Z (.pointer (some ⟨blkOf v1_s1, oofOf v1_s1 + (x).toNat * 2, none⟩)) rfl (fun _ hw => Ob_sidx tC1 rfl rfl rfl rfl (slPl ((H.blw hw).sl 0 rfl) hg1) hg1) fun a Z => ?_
   refine qO Z (.agg #[vI ((gi s1 x).id), vI ((gi s1 x).serial)]) rfl (fun _ hw => oA tC1 rfl rfl ((slFl ((H.blw hw).sl 0 rfl) hg1).part 0 rfl)) fun a Z => ?_
   refine q_runk tC1 Z 2 rfl rfl fun a Z => ?_
   refine qO Z (.pointer (some ⟨blkOf v2_s2, oofOf v2_s2 + (x).toNat * 2, none⟩)) rfl (fun _ hw => Ob_sidx tC1 rfl rfl rfl rfl (slPl ((H.blw hw).sl 1 rfl) hg2) hg2) fun a Z => ?_
   refine qO Z (.agg #[vI ((gi s2 x).id), vI ((gi s2 x).serial)]) rfl (fun _ hw => oA tC1 rfl rfl ((slFl ((H.blw hw).sl 1 rfl) hg2).part 0 rfl)) fun a Z => ?_
   refine qO Z (vT (!eqEMember (gi s1 x) (gi s2 x))) rfl (fun _ hw => Ob_bin rfl rfl rfl (eqg_EMember _ _ _ _ _ _) (neq_EMember (gi s1 x) (gi s2 x) _)) fun a Z => ?_
   refine q_end Z [0, 1, 4, 12, 13, 14, 15, 5, 16, 17, 18, 19, 20, 21, 22, 23, 24] rfl fun w2 hb Z => ?_
   replace H := H.blw hb
   clear hb
   refine p_then ?_
   refine f_cond Z rfl (fun hc3 => ?_) (fun hc3 => ?_)
   ·replace hF := ite_t hc3 hF
    refine wp_seq (f_region Z ?_); clear Z; intro Z
    refine s_runk tC1 Z 1 rfl rfl fun a Z => ?_
    refine s_end Z [0, 1, 4, 12, 13, 14, 15, 5, 16, 17, 18, 19, 20, 21, 22, 23, 24] rfl fun Z => ?_
    refine p_then (wp_ret ?_)
    refine p_blk_r ?_
    refine p_then_r ?_
    refine p_then_r ?_
    refine p_blk_r ?_
    refine p_then_r ?_
    obtain rfl := some_in hF
    exact f_ret Z (run_results1 rfl Z rfl) ⟨rfl, I1, (H.sub [] rfl).eq rfl⟩
   ·replace hF := ite_f hc3 hF
    refine wp_skip ?_
    refine p_blk ?_
    refine p_then ?_
    obtain ⟨hg3, hF⟩ := chk_in hF
    refine f_region Z fun Z => ?_
    refine sO Z (vI (x + 1)) rfl (Ob_add rfl rfl rfl (wrI hg3)) fun a Z => ?_
    refine s_runk tC1 Z 1 rfl rfl fun a Z => ?_
    refine s_end Z [0, 1, 4, 12, 13, 14, 15, 5, 16, 17, 18, 19, 20, 21, 22, 23, 24, 25] rfl fun Z => ?_
    refine p_then ?_
    exact ⟨(x + 1), ⟨Z.sub (ts := [0, 1, 4, 12, 13]) rfl, ⟨I1, (H.sub [(0, true), (1, true)] rfl).eq rfl⟩⟩, hF⟩
  ·replace hF := ite_f hc2 hF
   refine wp_exit ?_
   refine p_then_x ?_
   refine p_then_x ?_
   refine f_exit_here ?_
   refine p_then (wp_seq (f_region Z ?_)); clear Z; intro Z
   refine s_runk tC1 Z 1 rfl rfl fun a Z => ?_
   refine s_end Z [4] rfl fun Z => ?_
   refine p_then (wp_ret ?_)
   obtain rfl := some_in hF
   exact f_ret Z (run_results1 rfl Z rfl) ⟨rfl, I1, (H.sub [] rfl).eq rfl⟩

def F_conf_Same (a0 : EConf) (b : EConf) : Option Bool := (gif ((a0.epoch == b.epoch) && (a0.floor == b.floor)) (F_slices_Equal_api_Member_api_Member a0.members b.members) default).bind fun m => (some (((a0.epoch == b.epoch) && (a0.floor == b.floor)) && m))

set_option maxHeartbeats 1000000 in
theorem c_conf_Same {I D : Dm} {a0 : EConf} {v1_a0 : Value} {b : EConf} {v2_b : Value} {w : World} {rr : Bool} (hF : F_conf_Same a0 b = some rr) (H : St I D w [SlC NEMember v1_a0 a0.members, SlC NEMember v2_b b.members]) :
  Calls Tryz.prog 47 #[.agg #[vI a0.epoch, v1_a0, vU a0.floor], .agg #[vI b.epoch, v2_b, vU b.floor]] w (Ret fun vv w' => vv = vT rr ∧ ∃ I', Hf I D w I' w' []) := by
 replace H := H.hf
 unfold F_conf_Same at hF
 refine f_enter 24 Tryz.func47 rfl rfl (Nat.le_of_ble_eq_true rfl) fun a Z => ?_
 replace Z := Z.sub (ts := [0, 1]) rfl
 refine wp_seq (f_region Z ?_); clear Z; intro Z
 refine hB Z H [vI a0.epoch, v1_a0, vU a0.floor] rfl rfl rfl rfl fun a w1 b1 H Z => ?_
 refine hB Z H [vI b.epoch, v2_b, vU b.floor] rfl rfl rfl rfl fun a w2 b2 H Z => ?_
 refine s_runk tC1 Z 1 rfl rfl fun a Z => ?_
 refine s_end Z [2, 3, 4] rfl fun Z => ?_
 refine p_then (wp_seq ?_)
 obtain ⟨m, hx1, hF⟩ := bnd_in hF
 refine f_region Z fun Z => ?_
 refine s_runk tC1 Z 1 rfl rfl fun a Z => ?_
 refine sO Z _ rfl (oL tC1 rfl rfl (H.bc 1 0 rfl rfl)) fun a Z => ?_
 refine s_runk tC1 Z 1 rfl rfl fun a Z => ?_
 refine sO Z _ rfl (oL tC1 rfl rfl (H.bc 0 0 rfl rfl)) fun a Z => ?_
 refine s_runk tC1 Z 2 rfl rfl fun a Z => ?_
 refine gO Z (pp b1 2) rfl (wantB_t _) (.n 2 rfl .z) (fun hp => Ob_c tC1 rfl) fun a Z => ?_
 refine gO Z _ rfl (wantB_t _) (.c 11 rfl id .z) (fun hp => oL tC1 rfl rfl (H.bc 1 2 rfl rfl)) fun a Z => ?_
 refine gO Z (pp b2 2) rfl (wantB_t _) (.n 3 rfl .z) (fun hp => Ob_c tC1 rfl) fun a Z => ?_
 refine gO Z _ rfl (wantB_t _) (.c 13 rfl id .z) (fun hp => oL tC1 rfl rfl (H.bc 0 2 rfl rfl)) fun a Z => ?_
 refine gO Z (vT (a0.floor == b.floor)) rfl (wantB_t _) (.c 12 rfl id (.c 14 rfl id .z)) (fun hp => Ob_c tC1 rfl) fun a Z => ?_
 refine sO Z (vT ((a0.epoch == b.epoch) && (a0.floor == b.floor))) rfl (Ob_pick rfl rfl rfl rfl (pick_and _ _)) fun a Z => ?_
 refine s_runk tC1 Z 1 rfl rfl fun a Z => ?_
 refine gO Z (pp b1 1) rfl (wantB_t _) (.n 2 rfl .z) (fun hp => Ob_c tC1 rfl) fun a Z => ?_
 refine gO Z _ rfl (wantB_t _) (.c 18 rfl id .z) (fun hp => oL tC1 rfl rfl (H.bc 1 1 rfl rfl)) fun a Z => ?_
 refine gO Z (pp b2 1) rfl (wantB_t _) (.n 3 rfl .z) (fun hp => Ob_c tC1 rfl) fun a Z => ?_
 refine gO Z _ rfl (wantB_t _) (.c 20 rfl id .z) (fun hp => oL tC1 rfl rfl (H.bc 0 1 rfl rfl)) fun a Z => ?_
 refine g_call Z (p := ((a0.epoch == b.epoch) && (a0.floor == b.floor))) (v := vT m) (S' := [(19, v1_a0), (21, v2_b)]) (caps := #[]) fn_102_YConf1 rfl rfl rfl (wantB_t _) rfl (by decide) (fun hp hS => ((hS.conv (t := 19) rfl (cond_t hp)).conv (t := 21) rfl (cond_t hp)).sub (ts := [19, 21]) rfl) rfl rfl rfl rfl (fun hp => (have hq := c_slices_Equal_api_Member_api_Member (gif_in hx1 hp) ((H).pick0 (js := [(2, true), (3, true)]) rfl rfl); plainC hq)) fun a w3 hb Z => ?_
 replace H := H.blw hb
 clear hb
 refine sO Z (vT (((a0.epoch == b.epoch) && (a0.floor == b.floor)) && m)) rfl (Ob_pick rfl rfl rfl rfl (pick_and _ _)) fun a Z => ?_
 refine s_runk tC1 Z 1 rfl rfl fun a Z => ?_
 refine s_end Z [4] rfl fun Z => ?_
 refine p_then (wp_ret ?_)
 obtain rfl := some_in hF
 exact f_ret Z (run_results1 rfl Z rfl) ⟨rfl, I, (H.sub [] rfl).eq rfl⟩

end Go.Proofs.YthmjkcdpbbcdgaaGreat
