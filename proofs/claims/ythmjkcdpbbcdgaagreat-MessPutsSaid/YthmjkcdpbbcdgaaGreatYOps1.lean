/- Operations read out of bytes. -/
import Derived.Test.YthmjkcdpbbcdgaaGreatYOps
import Derived.Test.YthmjkcdpbbcdgaaGreatYAI
namespace Go.Proofs.YthmjkcdpbbcdgaaGreat
open Go.RowKit
def tOps1L : TabL := ⟨[(30720, 0), (30721, 1), (30722, 2), (144384, 0), (144385, 1), (144386, 2)], [], [], [(28, (141, 3))], [(3, (1, false)), (4, (1, false)), (9, (1, false)), (28, (1, false)), (30, (3, true)), (61, (3, true)), (141, (3, true))]⟩

def tOps1 : Tab Tryz.prog := ⟨tOps1L, by kernel_rfl⟩

theorem fn_72_YOps1 : IsFn Tryz.prog 72 := ⟨_, Tryz.func72, by kernel_rfl, by kernel_rfl⟩

theorem fn_103_YOps1 : IsFn Tryz.prog 103 := ⟨_, Tryz.func103, by kernel_rfl, by kernel_rfl⟩

theorem neq_EOp (x y : EOp) (w : World) : (binOp .neq 141 (.agg (cEOp x).toArray) (.agg (cEOp y).toArray)).run Tryz.prog w = .ok (.bool (!eqEOp x y)) w := by
 have h1 := run_equalIn_struct (P := Tryz.prog) w 9999 141 (cEOp x).toArray (cEOp y).toArray (by rw [fieldsOf_of Tryz.underlying141]; exact Tryz.underlying141) (by kernel_rfl)
 rw [run_neq_struct, h1, fieldsOf_of Tryz.underlying141]
 simp [Op.eqFields, part, isAgg, cEOp, beqS, eqEOp, seqB_eq, run_underlying Tryz.underlying9, run_equalIn_string w 9998 9 _ _ Tryz.underlying9, run_underlying Tryz.underlying4, run_equalIn_bool' w 9998 4 _ _ Tryz.underlying4]
 try ((repeat' split) <;> simp_all)

theorem eqg_EOp (op : BinOp) (x y : Operand) (a b : Array Value) (w : World) : (eqGuard op 141 x y (.agg a) (.agg b)).run Tryz.prog w = .ok () w := run_eqGuard_agg (by kernel_rfl) op x y a b w

def F_ref06_SameOps_l1 (a0 : List EOp) (b : List EOp) (rc : Int → Option Bool) (sg : Int) : Option Bool := match sg with | i => if ((decide (i < (a0.length : Int))) && (decide (i < (b.length : Int)))) = true then (chk ((0 : Int) ≤ i ∧ i < (a0.length : Int)) (chk ((0 : Int) ≤ i ∧ i < (b.length : Int)) (if (!eqEOp (a0.getD (i).toNat default) (b.getD (i).toNat default)) = true then (some false) else (chk (inI (i + 1)) (rc (i + 1)))))) else (some true)

def F_ref06_SameOps (a0 : List EOp) (b : List EOp) : Option Bool := if ((a0.length : Int) != (b.length : Int)) = true then (some false) else (iter (F_ref06_SameOps_l1 a0 b) FU 0)

set_option maxHeartbeats 1000000 in
theorem c_ref06_SameOps {I D : Dm} {a0 : List EOp} {v1_a0 : Value} {b : List EOp} {v2_b : Value} {w : World} {rr : Bool} (hF : F_ref06_SameOps a0 b = some rr) (H : St I D w [SlC NEOp v1_a0 a0, SlC NEOp v2_b b]) :
  Calls Tryz.prog 72 #[v1_a0, v2_b] w (Ret fun vv w' => vv = vT rr ∧ ∃ I', Hf I D w I' w' []) := by
 replace H := H.hf
 unfold F_ref06_SameOps at hF
 refine f_enter 32 Tryz.func72 rfl rfl (Nat.le_of_ble_eq_true rfl) fun a Z => ?_
 replace Z := Z.sub (ts := [0, 1]) rfl
 refine wp_seq (f_region Z ?_); clear Z; intro Z
 refine s_runk tOps1 Z 1 rfl rfl fun a Z => ?_
 refine s_end Z [0, 1, 4] rfl fun Z => ?_
 refine p_then (wp_seq ?_)
 refine wp_seq (f_region Z ?_); clear Z; intro Z
 refine s_runk tOps1 Z 1 rfl rfl fun a Z => ?_
 refine sO Z (vI (ln a0)) rfl (Ob_slen tOps1 rfl rfl rfl (H.slshape 0 rfl)) fun a Z => ?_
 refine s_runk tOps1 Z 1 rfl rfl fun a Z => ?_
 refine sO Z (vI (ln b)) rfl (Ob_slen tOps1 rfl rfl rfl (H.slshape 1 rfl)) fun a Z => ?_
 refine s_runk tOps1 Z 1 rfl rfl fun a Z => ?_
 refine s_end Z [0, 1, 4, 10] rfl fun Z => ?_
 refine p_then ?_
 refine f_cond Z rfl (fun hc1 => ?_) (fun hc1 => ?_)
 ·replace hF := ite_t hc1 hF
  refine wp_seq (f_region Z ?_); clear Z; intro Z
  refine s_runk tOps1 Z 1 rfl rfl fun a Z => ?_
  refine s_end Z [0, 1, 4] rfl fun Z => ?_
  refine p_then (wp_ret ?_)
  refine p_then_r ?_
  obtain rfl := some_in hF
  exact f_ret Z (run_results1 rfl Z rfl) ⟨rfl, I, (H.sub [] rfl).eq rfl⟩
 ·replace hF := ite_f hc1 hF
  refine wp_skip ?_
  refine p_then (wp_seq ?_)
  refine wp_seq (f_region Z ?_); clear Z; intro Z
  refine s_runk tOps1 Z 1 rfl rfl fun a Z => ?_
  refine s_end Z [0, 1, 4, 5] rfl fun Z => ?_
  refine p_then (wp_block ?_)
  refine f_iter hF (fun sg a' w' => match sg with | i => Sl 32 [(0, v1_a0), (1, v2_b), (4, vT false), (5, vI i)] a' ∧ ∃ I2, Hf I D w I2 w' [SlC NEOp v1_a0 a0, SlC NEOp v2_b b]) ⟨Z.sub (ts := [0, 1, 4, 5]) rfl, ⟨I, (H.sub [(0, true), (1, true)] rfl).eq rfl⟩⟩ ?_
  rintro rc i a w1 ⟨Z, I1, H⟩ hF
  unfold F_ref06_SameOps_l1 at hF
  try dsimp only at hF
  refine wp_seq ?_
  refine wp_seq (f_region Z ?_); clear Z; intro Z
  refine s_runk tOps1 Z 2 rfl rfl fun a Z => ?_
  refine sO Z (vI (ln a0)) rfl (Ob_slen tOps1 rfl rfl rfl (H.slshape 0 rfl)) fun a Z => ?_
  refine s_runk tOps1 Z 2 rfl rfl fun a Z => ?_
  refine gO Z (vI i) rfl (wantB_t _) (.n 5 rfl .z) (fun hp => Ob_c tOps1 rfl) fun a Z => ?_
  refine gO Z v2_b rfl (wantB_t _) (.n 1 rfl .z) (fun hp => Ob_c tOps1 rfl) fun a Z => ?_
  refine gO Z (vI (ln b)) rfl (wantB_t _) (.c 17 rfl id .z) (fun hp => Ob_slen tOps1 rfl rfl rfl (H.slshape 1 rfl)) fun a Z => ?_
  refine gO Z (vT (decide (i < (ln b)))) rfl (wantB_t _) (.c 16 rfl id (.c 18 rfl id .z)) (fun hp => Ob_c tOps1 rfl) fun a Z => ?_
  refine sO Z (vT ((decide (i < (ln a0))) && (decide (i < (ln b))))) rfl (Ob_pick rfl rfl rfl rfl (pick_and _ _)) fun a Z => ?_
  refine s_end Z [0, 1, 4, 5, 11, 12, 13, 14, 15, 20] rfl fun Z => ?_
  refine p_then ?_
  refine f_cond Z rfl (fun hc2 => ?_) (fun hc2 => ?_)
  ·replace hF := ite_t hc2 hF
   refine wp_skip ?_
   refine p_then (wp_seq ?_)
   refine wp_block ?_
   refine wp_seq ?_
   obtain ⟨hg1, hF⟩ := chk_in hF
   obtain ⟨hg2, hF⟩ := chk_in hF
   refine f_quietd (by kernel_rfl) (by kernel_rfl) Z fun Z => ?_
   refine q_runk tOps1 Z 2 rfl rfl fun a Z => ?_
   refine qO Z (.pointer (some ⟨blkOf v1_a0, oofOf v1_a0 + (i).toNat * 3, none⟩)) rfl (fun _ hw => Ob_sidx tOps1 rfl rfl rfl rfl (slPl ((H.blw hw).sl 0 rfl) hg1) hg1) fun a Z => ?_
   refine qO Z (.agg #[vS ((gi a0 i).key), vS ((gi a0 i).val), vT ((gi a0 i).del)]) rfl (fun _ hw => oA tOps1 rfl rfl ((slFl ((H.blw hw).sl 0 rfl) hg1).part 0 rfl)) fun a Z => ?_
   refine q_runk tOps1 Z 2 rfl rfl fun a Z => ?_
   refine qO Z (.pointer (some ⟨blkOf v2_b, oofOf v2_b + (i).toNat * 3, none⟩)) rfl (fun _ hw => Ob_sidx tOps1 rfl rfl rfl rfl (slPl ((H.blw hw).sl 1 rfl) hg2) hg2) fun a Z => ?_
   refine qO Z (.agg #[vS ((gi b i).key), vS ((gi b i).val), vT ((gi b i).del)]) rfl (fun _ hw => oA tOps1 rfl rfl ((slFl ((H.blw hw).sl 1 rfl) hg2).part 0 rfl)) fun a Z => ?_
   refine qO Z (vT (!eqEOp (gi a0 i) (gi b i))) rfl (fun _ hw => Ob_bin rfl rfl rfl (eqg_EOp _ _ _ _ _ _) (neq_EOp (gi a0 i) (gi b i) _)) fun a Z => ?_
   refine q_end Z [0, 1, 4, 5, 11, 12, 13, 14, 15, 20, 23, 24, 25, 26, 27, 28, 29, 30, 31] rfl fun w2 hb Z => ?_
   replace H := H.blw hb
   clear hb
   refine p_then ?_
   refine f_cond Z rfl (fun hc3 => ?_) (fun hc3 => ?_)
   ·replace hF := ite_t hc3 hF
    refine wp_seq (f_region Z ?_); clear Z; intro Z
    refine s_runk tOps1 Z 1 rfl rfl fun a Z => ?_
    refine s_end Z [0, 1, 4, 5, 11, 12, 13, 14, 15, 20, 23, 24, 25, 26, 27, 28, 29, 30, 31] rfl fun Z => ?_
    refine p_then (wp_ret ?_)
    refine p_blk_r ?_
    refine p_then_r ?_
    refine p_then_r ?_
    refine p_blk_r ?_
    refine p_then_r ?_
    obtain rfl := some_in hF
    exact f_ret Z (run_results1 rfl Z rfl) ⟨rfl, I1, (H.sub [] rfl).eq rfl⟩
   ·replace hF := ite_f hc3 hF
    refine wp_skip ?_
    refine p_blk ?_
    refine p_then ?_
    obtain ⟨hg3, hF⟩ := chk_in hF
    refine f_region Z fun Z => ?_
    refine s_runk tOps1 Z 1 rfl rfl fun a Z => ?_
    refine sO Z (vI (i + 1)) rfl (Ob_add rfl rfl rfl (wrI hg3)) fun a Z => ?_
    refine s_runk tOps1 Z 1 rfl rfl fun a Z => ?_
    refine s_end Z [0, 1, 4, 5, 11, 12, 13, 14, 15, 20, 23, 24, 25, 26, 27, 28, 29, 30, 31, 21, 22] rfl fun Z => ?_
    refine p_then ?_
    exact ⟨(i + 1), ⟨Z.sub (ts := [0, 1, 4, 5]) rfl, ⟨I1, (H.sub [(0, true), (1, true)] rfl).eq rfl⟩⟩, hF⟩
  ·replace hF := ite_f hc2 hF
   refine wp_exit ?_
   refine p_then_x ?_
   refine p_then_x ?_
   refine f_exit_here ?_
   refine p_then (wp_seq (f_region Z ?_)); clear Z; intro Z
   refine s_runk tOps1 Z 1 rfl rfl fun a Z => ?_
   refine s_end Z [4] rfl fun Z => ?_
   refine p_then (wp_ret ?_)
   obtain rfl := some_in hF
   exact f_ret Z (run_results1 rfl Z rfl) ⟨rfl, I1, (H.sub [] rfl).eq rfl⟩

def F_ref06_Same (a0 : EBatch) (b : EBatch) : Option Bool := (gif ((a0.client == b.client) && (a0.req == b.req)) (F_ref06_SameOps a0.ops b.ops) default).bind fun s0 => (some (((a0.client == b.client) && (a0.req == b.req)) && s0))

set_option maxHeartbeats 1000000 in
theorem c_ref06_Same {I D : Dm} {a0 : EBatch} {v1_a0 : Value} {b : EBatch} {v2_b : Value} {w : World} {rr : Bool} (hF : F_ref06_Same a0 b = some rr) (H : St I D w [SlC NEOp v1_a0 a0.ops, SlC NEOp v2_b b.ops]) :
  Calls Tryz.prog 30 #[.agg #[vI a0.client, vI a0.req, v1_a0], .agg #[vI b.client, vI b.req, v2_b]] w (Ret fun vv w' => vv = vT rr ∧ ∃ I', Hf I D w I' w' []) := by
 replace H := H.hf
 unfold F_ref06_Same at hF
 refine f_enter 24 Tryz.func30 rfl rfl (Nat.le_of_ble_eq_true rfl) fun a Z => ?_
 replace Z := Z.sub (ts := [0, 1]) rfl
 refine wp_seq (f_region Z ?_); clear Z; intro Z
 refine hB Z H [vI a0.client, vI a0.req, v1_a0] rfl rfl rfl rfl fun a w1 b1 H Z => ?_
 refine hB Z H [vI b.client, vI b.req, v2_b] rfl rfl rfl rfl fun a w2 b2 H Z => ?_
 refine s_runk tOps1 Z 1 rfl rfl fun a Z => ?_
 refine s_end Z [2, 3, 4] rfl fun Z => ?_
 refine p_then (wp_seq ?_)
 obtain ⟨s0, hx1, hF⟩ := bnd_in hF
 refine f_region Z fun Z => ?_
 refine s_runk tOps1 Z 1 rfl rfl fun a Z => ?_
 refine sO Z _ rfl (oL tOps1 rfl rfl (H.bc 1 0 rfl rfl)) fun a Z => ?_
 refine s_runk tOps1 Z 1 rfl rfl fun a Z => ?_
 refine sO Z _ rfl (oL tOps1 rfl rfl (H.bc 0 0 rfl rfl)) fun a Z => ?_
 refine s_runk tOps1 Z 2 rfl rfl fun a Z => ?_
 refine gO Z (pp b1 1) rfl (wantB_t _) (.n 2 rfl .z) (fun hp => Ob_c tOps1 rfl) fun a Z => ?_
 refine gO Z _ rfl (wantB_t _) (.c 11 rfl id .z) (fun hp => oL tOps1 rfl rfl (H.bc 1 1 rfl rfl)) fun a Z => ?_
 refine gO Z (pp b2 1) rfl (wantB_t _) (.n 3 rfl .z) (fun hp => Ob_c tOps1 rfl) fun a Z => ?_
 refine gO Z _ rfl (wantB_t _) (.c 13 rfl id .z) (fun hp => oL tOps1 rfl rfl (H.bc 0 1 rfl rfl)) fun a Z => ?_
 refine gO Z (vT (a0.req == b.req)) rfl (wantB_t _) (.c 12 rfl id (.c 14 rfl id .z)) (fun hp => Ob_c tOps1 rfl) fun a Z => ?_
 refine sO Z (vT ((a0.client == b.client) && (a0.req == b.req))) rfl (Ob_pick rfl rfl rfl rfl (pick_and _ _)) fun a Z => ?_
 refine s_runk tOps1 Z 1 rfl rfl fun a Z => ?_
 refine gO Z (pp b1 2) rfl (wantB_t _) (.n 2 rfl .z) (fun hp => Ob_c tOps1 rfl) fun a Z => ?_
 refine gO Z _ rfl (wantB_t _) (.c 18 rfl id .z) (fun hp => oL tOps1 rfl rfl (H.bc 1 2 rfl rfl)) fun a Z => ?_
 refine gO Z (pp b2 2) rfl (wantB_t _) (.n 3 rfl .z) (fun hp => Ob_c tOps1 rfl) fun a Z => ?_
 refine gO Z _ rfl (wantB_t _) (.c 20 rfl id .z) (fun hp => oL tOps1 rfl rfl (H.bc 0 2 rfl rfl)) fun a Z => ?_
 refine g_call Z (p := ((a0.client == b.client) && (a0.req == b.req))) (v := vT s0) (S' := [(19, v1_a0), (21, v2_b)]) (caps := #[]) fn_72_YOps1 rfl rfl rfl (wantB_t _) rfl (by decide) (fun hp hS => ((hS.conv (t := 19) rfl (cond_t hp)).conv (t := 21) rfl (cond_t hp)).sub (ts := [19, 21]) rfl) rfl rfl rfl rfl (fun hp => (have hq := c_ref06_SameOps (gif_in hx1 hp) ((H).pick0 (js := [(2, true), (3, true)]) rfl rfl); plainC hq)) fun a w3 hb Z => ?_
 replace H := H.blw hb
 clear hb
 refine sO Z (vT (((a0.client == b.client) && (a0.req == b.req)) && s0)) rfl (Ob_pick rfl rfl rfl rfl (pick_and _ _)) fun a Z => ?_
 refine s_runk tOps1 Z 1 rfl rfl fun a Z => ?_
 refine s_end Z [4] rfl fun Z => ?_
 refine p_then (wp_ret ?_)
 obtain rfl := some_in hF
 exact f_ret Z (run_results1 rfl Z rfl) ⟨rfl, I, (H.sub [] rfl).eq rfl⟩

def F_slices_Equal_api_Op_api_Op_l1 (s1 : List EOp) (s2 : List EOp) (rc : Int → Option Bool) (sg : Int) : Option Bool := match sg with | x => if (decide (x < (s1.length : Int))) = true then (chk ((0 : Int) ≤ x ∧ x < (s1.length : Int)) (chk ((0 : Int) ≤ x ∧ x < (s2.length : Int)) (if (!eqEOp (s1.getD (x).toNat default) (s2.getD (x).toNat default)) = true then (some false) else (chk (inI (x + 1)) (rc (x + 1)))))) else (some true)

def F_slices_Equal_api_Op_api_Op (s1 : List EOp) (s2 : List EOp) : Option Bool := if ((s1.length : Int) != (s2.length : Int)) = true then (some false) else (iter (F_slices_Equal_api_Op_api_Op_l1 s1 s2) FU 0)

set_option maxHeartbeats 1000000 in
theorem c_slices_Equal_api_Op_api_Op {I D : Dm} {s1 : List EOp} {v1_s1 : Value} {s2 : List EOp} {v2_s2 : Value} {w : World} {rr : Bool} (hF : F_slices_Equal_api_Op_api_Op s1 s2 = some rr) (H : St I D w [SlC NEOp v1_s1 s1, SlC NEOp v2_s2 s2]) :
  Calls Tryz.prog 103 #[v1_s1, v2_s2] w (Ret fun vv w' => vv = vT rr ∧ ∃ I', Hf I D w I' w' []) := by
 replace H := H.hf
 unfold F_slices_Equal_api_Op_api_Op at hF
 refine f_enter 26 Tryz.func103 rfl rfl (Nat.le_of_ble_eq_true rfl) fun a Z => ?_
 replace Z := Z.sub (ts := [0, 1]) rfl
 refine wp_seq (f_region Z ?_); clear Z; intro Z
 refine s_runk tOps1 Z 1 rfl rfl fun a Z => ?_
 refine s_end Z [0, 1, 4] rfl fun Z => ?_
 refine p_then (wp_seq ?_)
 refine wp_seq (f_region Z ?_); clear Z; intro Z
 refine s_runk tOps1 Z 1 rfl rfl fun a Z => ?_
 refine sO Z (vI (ln s1)) rfl (Ob_slen tOps1 rfl rfl rfl (H.slshape 0 rfl)) fun a Z => ?_
 refine s_runk tOps1 Z 1 rfl rfl fun a Z => ?_
 refine sO Z (vI (ln s2)) rfl (Ob_slen tOps1 rfl rfl rfl (H.slshape 1 rfl)) fun a Z => ?_
 refine s_runk tOps1 Z 1 rfl rfl fun a Z => ?_
 refine s_end Z [0, 1, 4, 10] rfl fun Z => ?_
 refine p_then ?_
 refine f_cond Z rfl (fun hc1 => ?_) (fun hc1 => ?_)
 ·replace hF := ite_t hc1 hF
  refine wp_seq (f_region Z ?_); clear Z; intro Z
  refine s_runk tOps1 Z 1 rfl rfl fun a Z => ?_
  refine s_end Z [0, 1, 4] rfl fun Z => ?_
  refine p_then (wp_ret ?_)
  refine p_then_r ?_
  obtain rfl := some_in hF
  exact f_ret Z (run_results1 rfl Z rfl) ⟨rfl, I, (H.sub [] rfl).eq rfl⟩
 ·replace hF := ite_f hc1 hF
  refine wp_skip ?_
  refine p_then (wp_seq ?_)
  refine wp_seq (f_region Z ?_); clear Z; intro Z
  refine s_runk tOps1 Z 1 rfl rfl fun a Z => ?_
  refine sO Z (vI (ln s1)) rfl (Ob_slen tOps1 rfl rfl rfl (H.slshape 0 rfl)) fun a Z => ?_
  refine s_runk tOps1 Z 1 rfl rfl fun a Z => ?_
  refine s_end Z [0, 1, 4, 12, 13] rfl fun Z => ?_
  refine p_then (wp_block ?_)
  refine f_iter hF (fun sg a' w' => match sg with | x => Sl 26 [(0, v1_s1), (1, v2_s2), (4, vT false), (12, vI (ln s1)), (13, vI x)] a' ∧ ∃ I2, Hf I D w I2 w' [SlC NEOp v1_s1 s1, SlC NEOp v2_s2 s2]) ⟨Z.sub (ts := [0, 1, 4, 12, 13]) rfl, ⟨I, (H.sub [(0, true), (1, true)] rfl).eq rfl⟩⟩ ?_
  rintro rc x a w1 ⟨Z, I1, H⟩ hF
  unfold F_slices_Equal_api_Op_api_Op_l1 at hF
  try dsimp only at hF
  refine wp_seq (f_region Z ?_); clear Z; intro Z
  refine s_runk tOps1 Z 1 rfl rfl fun a Z => ?_
  refine s_end Z [0, 1, 4, 12, 13, 14] rfl fun Z => ?_
  refine p_then (wp_seq ?_)
  refine f_cond Z rfl (fun hc2 => ?_) (fun hc2 => ?_)
  ·replace hF := ite_t hc2 hF
   refine wp_skip ?_
   refine p_then (wp_seq ?_)
   refine wp_block ?_
   refine wp_seq (f_region Z ?_); clear Z; intro Z
   refine s_runk tOps1 Z 2 rfl rfl fun a Z => ?_
   refine s_end Z [0, 1, 4, 12, 13, 14, 15, 5] rfl fun Z => ?_
   refine p_then (wp_seq ?_)
   obtain ⟨hg1, hF⟩ := chk_in hF
   obtain ⟨hg2, hF⟩ := chk_in hF
   refine f_quietd (by kernel_rfl) (by kernel_rfl) Z fun Z => ?_
   refine q_runk tOps1 Z 2 rfl rfl fun a Z => ?_
   refine qO Z (.pointer (some ⟨blkOf v1_s1, oofOf v1_s1 + (x).toNat * 3, none⟩)) rfl (fun _ hw => Ob_sidx tOps1 rfl rfl rfl rfl (slPl ((H.blw hw).sl 0 rfl) hg1) hg1) fun a Z => ?_
   refine qO Z (.agg #[vS ((gi s1 x).key), vS ((gi s1 x).val), vT ((gi s1 x).del)]) rfl (fun _ hw => oA tOps1 rfl rfl ((slFl ((H.blw hw).sl 0 rfl) hg1).part 0 rfl)) fun a Z => ?_
   refine q_runk tOps1 Z 2 rfl rfl fun a Z => ?_
   refine qO Z (.pointer (some ⟨blkOf v2_s2, oofOf v2_s2 + (x).toNat * 3, none⟩)) rfl (fun _ hw => Ob_sidx tOps1 rfl rfl rfl rfl (slPl ((H.blw hw).sl 1 rfl) hg2) hg2) fun a Z => ?_
   refine qO Z (.agg #[vS ((gi s2 x).key), vS ((gi s2 x).val), vT ((gi s2 x).del)]) rfl (fun _ hw => oA tOps1 rfl rfl ((slFl ((H.blw hw).sl 1 rfl) hg2).part 0 rfl)) fun a Z => ?_
   refine qO Z (vT (!eqEOp (gi s1 x) (gi s2 x))) rfl (fun _ hw => Ob_bin rfl rfl rfl (eqg_EOp _ _ _ _ _ _) (neq_EOp (gi s1 x) (gi s2 x) _)) fun a Z => ?_
   refine q_end Z [0, 1, 4, 12, 13, 14, 15, 5, 16, 17, 18, 19, 20, 21, 22, 23, 24] rfl fun w2 hb Z => ?_
   replace H := H.blw hb
   clear hb
   refine p_then ?_
   refine f_cond Z rfl (fun hc3 => ?_) (fun hc3 => ?_)
   ·replace hF := ite_t hc3 hF
    refine wp_seq (f_region Z ?_); clear Z; intro Z
    refine s_runk tOps1 Z 1 rfl rfl fun a Z => ?_
    refine s_end Z [0, 1, 4, 12, 13, 14, 15, 5, 16, 17, 18, 19, 20, 21, 22, 23, 24] rfl fun Z => ?_
    refine p_then (wp_ret ?_)
    refine p_blk_r ?_
    refine p_then_r ?_
    refine p_then_r ?_
    refine p_blk_r ?_
    refine p_then_r ?_
    obtain rfl := some_in hF
    exact f_ret Z (run_results1 rfl Z rfl) ⟨rfl, I1, (H.sub [] rfl).eq rfl⟩
   ·replace hF := ite_f hc3 hF
    refine wp_skip ?_
    refine p_blk ?_
    refine p_then ?_
    obtain ⟨hg3, hF⟩ := chk_in hF
    refine f_region Z fun Z => ?_
    refine sO Z (vI (x + 1)) rfl (Ob_add rfl rfl rfl (wrI hg3)) fun a Z => ?_
    refine s_runk tOps1 Z 1 rfl rfl fun a Z => ?_
    refine s_end Z [0, 1, 4, 12, 13, 14, 15, 5, 16, 17, 18, 19, 20, 21, 22, 23, 24, 25] rfl fun Z => ?_
    refine p_then ?_
    exact ⟨(x + 1), ⟨Z.sub (ts := [0, 1, 4, 12, 13]) rfl, ⟨I1, (H.sub [(0, true), (1, true)] rfl).eq rfl⟩⟩, hF⟩
  ·replace hF := ite_f hc2 hF
   refine wp_exit ?_
   refine p_then_x ?_
   refine p_then_x ?_
   refine f_exit_here ?_
   refine p_then (wp_seq (f_region Z ?_)); clear Z; intro Z
   refine s_runk tOps1 Z 1 rfl rfl fun a Z => ?_
   refine s_end Z [4] rfl fun Z => ?_
   refine p_then (wp_ret ?_)
   obtain rfl := some_in hF
   exact f_ret Z (run_results1 rfl Z rfl) ⟨rfl, I1, (H.sub [] rfl).eq rfl⟩

def F_ops_Same (a0 : EBatch) (b : EBatch) : Option Bool := (gif ((a0.client == b.client) && (a0.req == b.req)) (F_slices_Equal_api_Op_api_Op a0.ops b.ops) default).bind fun o => (some (((a0.client == b.client) && (a0.req == b.req)) && o))

set_option maxHeartbeats 1000000 in
theorem c_ops_Same {I D : Dm} {a0 : EBatch} {v1_a0 : Value} {b : EBatch} {v2_b : Value} {w : World} {rr : Bool} (hF : F_ops_Same a0 b = some rr) (H : St I D w [SlC NEOp v1_a0 a0.ops, SlC NEOp v2_b b.ops]) :
  Calls Tryz.prog 48 #[.agg #[vI a0.client, vI a0.req, v1_a0], .agg #[vI b.client, vI b.req, v2_b]] w (Ret fun vv w' => vv = vT rr ∧ ∃ I', Hf I D w I' w' []) := by
 replace H := H.hf
 unfold F_ops_Same at hF
 refine f_enter 24 Tryz.func48 rfl rfl (Nat.le_of_ble_eq_true rfl) fun a Z => ?_
 replace Z := Z.sub (ts := [0, 1]) rfl
 refine wp_seq (f_region Z ?_); clear Z; intro Z
 refine hB Z H [vI a0.client, vI a0.req, v1_a0] rfl rfl rfl rfl fun a w1 b1 H Z => ?_
 refine hB Z H [vI b.client, vI b.req, v2_b] rfl rfl rfl rfl fun a w2 b2 H Z => ?_
 refine s_runk tOps1 Z 1 rfl rfl fun a Z => ?_
 refine s_end Z [2, 3, 4] rfl fun Z => ?_
 refine p_then (wp_seq ?_)
 obtain ⟨o, hx1, hF⟩ := bnd_in hF
 refine f_region Z fun Z => ?_
 refine s_runk tOps1 Z 1 rfl rfl fun a Z => ?_
 refine sO Z _ rfl (oL tOps1 rfl rfl (H.bc 1 0 rfl rfl)) fun a Z => ?_
 refine s_runk tOps1 Z 1 rfl rfl fun a Z => ?_
 refine sO Z _ rfl (oL tOps1 rfl rfl (H.bc 0 0 rfl rfl)) fun a Z => ?_
 refine s_runk tOps1 Z 2 rfl rfl fun a Z => ?_
 refine gO Z (pp b1 1) rfl (wantB_t _) (.n 2 rfl .z) (fun hp => Ob_c tOps1 rfl) fun a Z => ?_
 refine gO Z _ rfl (wantB_t _) (.c 11 rfl id .z) (fun hp => oL tOps1 rfl rfl (H.bc 1 1 rfl rfl)) fun a Z => ?_
 refine gO Z (pp b2 1) rfl (wantB_t _) (.n 3 rfl .z) (fun hp => Ob_c tOps1 rfl) fun a Z => ?_
 refine gO Z _ rfl (wantB_t _) (.c 13 rfl id .z) (fun hp => oL tOps1 rfl rfl (H.bc 0 1 rfl rfl)) fun a Z => ?_
 refine gO Z (vT (a0.req == b.req)) rfl (wantB_t _) (.c 12 rfl id (.c 14 rfl id .z)) (fun hp => Ob_c tOps1 rfl) fun a Z => ?_
 refine sO Z (vT ((a0.client == b.client) && (a0.req == b.req))) rfl (Ob_pick rfl rfl rfl rfl (pick_and _ _)) fun a Z => ?_
 refine s_runk tOps1 Z 1 rfl rfl fun a Z => ?_
 refine gO Z (pp b1 2) rfl (wantB_t _) (.n 2 rfl .z) (fun hp => Ob_c tOps1 rfl) fun a Z => ?_
 refine gO Z _ rfl (wantB_t _) (.c 18 rfl id .z) (fun hp => oL tOps1 rfl rfl (H.bc 1 2 rfl rfl)) fun a Z => ?_
 refine gO Z (pp b2 2) rfl (wantB_t _) (.n 3 rfl .z) (fun hp => Ob_c tOps1 rfl) fun a Z => ?_
 refine gO Z _ rfl (wantB_t _) (.c 20 rfl id .z) (fun hp => oL tOps1 rfl rfl (H.bc 0 2 rfl rfl)) fun a Z => ?_
 refine g_call Z (p := ((a0.client == b.client) && (a0.req == b.req))) (v := vT o) (S' := [(19, v1_a0), (21, v2_b)]) (caps := #[]) fn_103_YOps1 rfl rfl rfl (wantB_t _) rfl (by decide) (fun hp hS => ((hS.conv (t := 19) rfl (cond_t hp)).conv (t := 21) rfl (cond_t hp)).sub (ts := [19, 21]) rfl) rfl rfl rfl rfl (fun hp => (have hq := c_slices_Equal_api_Op_api_Op (gif_in hx1 hp) ((H).pick0 (js := [(2, true), (3, true)]) rfl rfl); plainC hq)) fun a w3 hb Z => ?_
 replace H := H.blw hb
 clear hb
 refine sO Z (vT (((a0.client == b.client) && (a0.req == b.req)) && o)) rfl (Ob_pick rfl rfl rfl rfl (pick_and _ _)) fun a Z => ?_
 refine s_runk tOps1 Z 1 rfl rfl fun a Z => ?_
 refine s_end Z [4] rfl fun Z => ?_
 refine p_then (wp_ret ?_)
 obtain rfl := some_in hF
 exact f_ret Z (run_results1 rfl Z rfl) ⟨rfl, I, (H.sub [] rfl).eq rfl⟩

end Go.Proofs.YthmjkcdpbbcdgaaGreat
