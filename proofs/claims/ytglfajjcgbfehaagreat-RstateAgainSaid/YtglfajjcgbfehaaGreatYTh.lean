/- What later operations cover goes: the parts. -/
import Derived.Test.YtglfajjcgbfehaaGreatYDd
import Derived.Test.YtglfajjcgbfehaaGreatYDf
import Derived.StringKeys
namespace Go.Proofs.YtglfajjcgbfehaaGreat
open Go.RowKit
def tThL : TabL := ⟨[(59392, 0)], [], [], [(40, (58, 3))], [(3, (1, false)), (9, (1, false)), (58, (3, true)), (116, (1, false))]⟩

def tTh : Tab Tryz.prog := ⟨tThL, by kernel_rfl⟩

theorem fn_64_YTh : IsFn Tryz.prog 64 := ⟨_, Tryz.func64, by kernel_rfl, by kernel_rfl⟩

theorem fn_92_YTh : IsFn Tryz.prog 92 := ⟨_, Tryz.func92, by kernel_rfl, by kernel_rfl⟩

@[reducible] def M_116 : MapE ByteArray Bool := ⟨fun k => .string k, fun v => .bool v, fun k => k.size ≤ maxLen, fun a b _ _ h => by simp at h; exact h⟩

theorem MF_116 : MapF Tryz.prog 116 M_116 false := ⟨9, 4, Go.WideMaps.string_law Tryz.underlying9, fun a h => by exact ⟨_, Go.WideMaps.keyOf_string_mk Tryz.underlying9 h⟩, Tryz.underlying116, run_zero0 (by kernel_rfl)⟩

def F_rlog_Thin1 (o : EOp) (p1 : List (ByteArray × Bool)) (p2 : Int) : Option (Bool × (List (ByteArray × Bool)) × Int) := chk (o.key.size ≤ maxLen) (if (((mget p1 o.key).getD false)) = true then (chk (inI (p2 + 1)) (some (true, p1, p2 + 1))) else (chk (o.key.size ≤ maxLen) (some (false, mset p1 o.key true, p2))))

set_option maxHeartbeats 1000000 in
theorem c_rlog_Thin1 {I D : Dm} {o : EOp} {b_p1 : Nat} {p1 : List (ByteArray × Bool)} {bb_p1 : Nat} {b_p2 : Nat} {p2 : Int} {w : World} {rr : Bool × (List (ByteArray × Bool)) × Int} (hF : F_rlog_Thin1 o p1 p2 = some rr) (H : St I D w [BxC b_p1 116 [.map (some bb_p1)], MpC M_116 bb_p1 p1, BxC b_p2 3 [vI p2]]) :
  Calls Tryz.prog 64 #[.agg #[vS o.key, vS o.val, vT o.del], pp b_p1 0, pp b_p2 0] w (Ret fun vv w' => vv = vT rr.1 ∧ ∃ I', Hf I D w I' w' [BxC b_p1 116 [.map (some bb_p1)], MpC M_116 bb_p1 rr.2.1, BxC b_p2 3 [vI rr.2.2]]) := by
 replace H := H.hf
 unfold F_rlog_Thin1 at hF
 refine f_enter 14 Tryz.func64 rfl rfl (Nat.le_of_ble_eq_true rfl) fun a Z => ?_
 replace Z := Z.sub (ts := [0, 1, 2]) rfl
 refine sR Z fun Z => ?_
 refine hB Z H [vS o.key, vS o.val, vT o.del] rfl rfl rfl rfl fun a w1 b1 H Z => ?_
 refine s_runk tTh Z 1 rfl rfl fun a Z => ?_
 refine s_end Z [1, 2, 3] rfl fun Z => ?_
 refine p_then (wp_seq ?_)
 refine wp_seq ?_
 obtain ⟨hg1, hF⟩ := chk_in hF
 refine f_region Z fun Z => ?_
 refine sO Z _ rfl (oL tTh rfl rfl (H.bc 1 0 rfl rfl)) fun a Z => ?_
 refine s_runk tTh Z 1 rfl rfl fun a Z => ?_
 refine sO Z _ rfl (oL tTh rfl rfl (H.bc 0 0 rfl rfl)) fun a Z => ?_
 refine sO Z (vT ((mget p1 o.key).getD false)) rfl (Ob_mlook1 o.key MF_116 H 2 rfl rfl rfl rfl hg1) fun a Z => ?_
 refine s_end Z [1, 2, 3, 8] rfl fun Z => ?_
 refine p_then ?_
 refine f_cond Z rfl (fun hc1 => ?_) (fun hc1 => ?_)
 ·replace hF := ite_t hc1 hF
  refine wp_seq ?_
  obtain ⟨hg2, hF⟩ := chk_in hF
  refine f_region Z fun Z => ?_
  refine sO Z _ rfl (oL tTh rfl rfl (H.bc 3 0 rfl rfl)) fun a Z => ?_
  refine sO Z (vI (p2 + 1)) rfl (Ob_add rfl rfl rfl (wrI hg2)) fun a Z => ?_
  refine hT tTh Z H 3 rfl rfl rfl rfl rfl (one_cons rfl one_nil) (Nat.le_of_ble_eq_true rfl) rfl fun w2 H => ?_
  dsimp only [List.eraseIdx] at H
  refine s_end Z [] rfl fun Z => ?_
  refine pR Z fun Z => ?_
  refine s_runk tTh Z 1 rfl rfl fun a Z => ?_
  refine s_end Z [4] rfl fun Z => ?_
  refine p_then (wp_ret ?_)
  refine p_then_r ?_
  obtain rfl := some_in hF
  exact f_ret Z (run_results1 rfl Z rfl) ⟨rfl, I, (H.sub [(2, false), (2, false), (0, false)] rfl).eq rfl⟩
 ·replace hF := ite_f hc1 hF
  refine wp_skip ?_
  refine p_then (wp_seq ?_)
  obtain ⟨hg3, hF⟩ := chk_in hF
  refine f_region Z fun Z => ?_
  refine sO Z _ rfl (oL tTh rfl rfl (H.bc 1 0 rfl rfl)) fun a Z => ?_
  refine s_runk tTh Z 1 rfl rfl fun a Z => ?_
  refine sO Z _ rfl (oL tTh rfl rfl (H.bc 0 0 rfl rfl)) fun a Z => ?_
  refine h_mset Z H 2 o.key true MF_116 rfl rfl rfl rfl rfl rfl rfl hg3 fun w3 H => ?_
  dsimp only [List.eraseIdx] at H
  refine s_end Z [] rfl fun Z => ?_
  refine pR Z fun Z => ?_
  refine s_runk tTh Z 1 rfl rfl fun a Z => ?_
  refine s_end Z [4] rfl fun Z => ?_
  refine p_then (wp_ret ?_)
  obtain rfl := some_in hF
  exact f_ret Z (run_results1 rfl Z rfl) ⟨rfl, I, (H.sub [(2, false), (0, false), (1, false)] rfl).eq rfl⟩

def F_thin_IndexFunc_l1 (s0 : List EOp) (rc : (Int × (List (ByteArray × Bool)) × Int) → Option (Int × (List (ByteArray × Bool)) × Int)) (sg : Int × (List (ByteArray × Bool)) × Int) : Option (Int × (List (ByteArray × Bool)) × Int) := match sg with | (x, ybb_covered, yb_gone) => if (decide (x < (s0.length : Int))) = true then (chk ((0 : Int) ≤ x ∧ x < (s0.length : Int)) ((F_rlog_Thin1 (s0.getD (x).toNat default) ybb_covered yb_gone).bind fun t => (if (t.1) = true then (some (x, t.2.1, t.2.2)) else (chk (inI (x + 1)) (rc (x + 1, t.2.1, t.2.2)))))) else (some ((-1), ybb_covered, yb_gone))

def F_thin_IndexFunc (s0 : List EOp) (covered : List (ByteArray × Bool)) (gone : Int) : Option (Int × (List (ByteArray × Bool)) × Int) := iter (F_thin_IndexFunc_l1 s0) FU (0, covered, gone)

set_option maxHeartbeats 1000000 in
theorem c_thin_IndexFunc {I D : Dm} {s0 : List EOp} {v1_s0 : Value} {b_covered : Nat} {covered : List (ByteArray × Bool)} {bb_covered : Nat} {b_gone : Nat} {gone : Int} {w : World} {rr : Int × (List (ByteArray × Bool)) × Int} (hF : F_thin_IndexFunc s0 covered gone = some rr) (H : St I D w [OwC NEOp 58 v1_s0 s0, BxC b_covered 116 [.map (some bb_covered)], MpC M_116 bb_covered covered, BxC b_gone 3 [vI gone]]) :
  Calls Tryz.prog 92 #[v1_s0, .func (.func 64) #[] #[pp b_covered 0, pp b_gone 0]] w (Ret fun vv w' => vv = vI rr.1 ∧ ∃ I', Hf I D w I' w' [OwC NEOp 58 v1_s0 s0, BxC b_covered 116 [.map (some bb_covered)], MpC M_116 bb_covered rr.2.1, BxC b_gone 3 [vI rr.2.2]]) := by
 replace H := H.hf
 unfold F_thin_IndexFunc at hF
 refine f_enter 19 Tryz.func92 rfl rfl (Nat.le_of_ble_eq_true rfl) fun a Z => ?_
 replace Z := Z.sub (ts := [0, 1]) rfl
 refine sR Z fun Z => ?_
 refine s_runk tTh Z 1 rfl rfl fun a Z => ?_
 refine s_end Z [0, 1] rfl fun Z => ?_
 refine p_then (wp_seq ?_)
 refine sR Z fun Z => ?_
 refine s_runk tTh Z 1 rfl rfl fun a Z => ?_
 refine sO Z (vI (ln s0)) rfl (Ob_slen tTh rfl rfl rfl (H.owshape 0 rfl)) fun a Z => ?_
 refine s_runk tTh Z 1 rfl rfl fun a Z => ?_
 refine s_end Z [0, 1, 7, 8] rfl fun Z => ?_
 refine p_then (wp_block ?_)
 refine f_iter hF (fun sg a' w' => match sg with | (x, ybb_covered, yb_gone) => Sl 19 [(0, v1_s0), (1, .func (.func 64) #[] #[pp b_covered 0, pp b_gone 0]), (7, vI (ln s0)), (8, vI x)] a' ∧ ∃ I2, Hf I D w I2 w' [MpC M_116 bb_covered ybb_covered, BxC b_covered 116 [.map (some bb_covered)], BxC b_gone 3 [vI yb_gone], OwC NEOp 58 v1_s0 s0]) ⟨Z.sub (ts := [0, 1, 7, 8]) rfl, ⟨I, (H.sub [(2, false), (1, false), (1, false), (0, false)] rfl).eq rfl⟩⟩ ?_
 rintro rc ⟨x, ybb_covered, yb_gone⟩ a w1 ⟨Z, I1, H⟩ hF
 unfold F_thin_IndexFunc_l1 at hF
 try dsimp only at hF
 refine sR Z fun Z => ?_
 refine s_runk tTh Z 1 rfl rfl fun a Z => ?_
 refine s_end Z [0, 1, 7, 8, 9] rfl fun Z => ?_
 refine p_then (wp_seq ?_)
 refine f_cond Z rfl (fun hc1 => ?_) (fun hc1 => ?_)
 ·replace hF := ite_t hc1 hF
  refine wp_skip ?_
  refine p_then (wp_seq ?_)
  refine wp_block ?_
  refine sR Z fun Z => ?_
  refine s_runk tTh Z 2 rfl rfl fun a Z => ?_
  refine s_end Z [0, 1, 7, 8, 5] rfl fun Z => ?_
  refine p_then (wp_seq ?_)
  obtain ⟨hg1, hF⟩ := chk_in hF
  obtain ⟨t, hx1, hF⟩ := bnd_in hF
  refine f_region Z fun Z => ?_
  refine s_runk tTh Z 3 rfl rfl fun a Z => ?_
  refine sO Z (.pointer (some ⟨blkOf v1_s0, oofOf v1_s0 + (x).toNat * 3, none⟩)) rfl (Ob_sidx tTh rfl rfl rfl rfl (slPl (H.owA 3 rfl) hg1) hg1) fun a Z => ?_
  refine sO Z (.agg #[vS ((gi s0 x).key), vS ((gi s0 x).val), vT ((gi s0 x).del)]) rfl (oA tTh rfl rfl ((slFl (H.owA 3 rfl) hg1).part 0 rfl)) fun a Z => ?_
  refine hC Z H [(1, false), (0, false), (0, false)] rfl #[pp b_covered 0, pp b_gone 0] fn_64_YTh rfl rfl (fun D h => have q := c_rlog_Thin1 hx1 h; q) fun vv a w2 D2 hr hF2 Z => ?_
  obtain ⟨rfl, I2, K⟩ := hr
  have H := (hF2 K).nf rfl
  refine s_end Z [0, 1, 7, 8, 5, 16] rfl fun Z => ?_
  refine p_then ?_
  refine f_cond Z rfl (fun hc2 => ?_) (fun hc2 => ?_)
  ·replace hF := ite_t hc2 hF
   refine sR Z fun Z => ?_
   refine s_runk tTh Z 2 rfl rfl fun a Z => ?_
   refine s_end Z [0, 4] rfl fun Z => ?_
   refine p_then (wp_ret ?_)
   refine p_blk_r ?_
   refine p_then_r ?_
   refine p_then_r ?_
   refine p_blk_r ?_
   refine p_then_r ?_
   obtain rfl := some_in hF
   exact f_ret Z (run_results1 rfl Z rfl) ⟨rfl, I2, (H.sub [(3, false), (0, false), (0, false), (0, false)] rfl).eq rfl⟩
  ·replace hF := ite_f hc2 hF
   refine wp_skip ?_
   refine p_blk ?_
   refine p_then ?_
   obtain ⟨hg2, hF⟩ := chk_in hF
   refine f_region Z fun Z => ?_
   refine sO Z (vI (x + 1)) rfl (Ob_add rfl rfl rfl (wrI hg2)) fun a Z => ?_
   refine s_runk tTh Z 1 rfl rfl fun a Z => ?_
   refine s_end Z [0, 1, 7, 8] rfl fun Z => ?_
   refine p_then ?_
   exact ⟨(x + 1, t.2.1, t.2.2), ⟨Z.sub (ts := [0, 1, 7, 8]) rfl, ⟨I2, (H.sub [(1, false), (0, false), (0, false), (0, false)] rfl).eq rfl⟩⟩, hF⟩
 ·replace hF := ite_f hc1 hF
  refine wp_exit ?_
  refine p_then_x ?_
  refine p_then_x ?_
  refine f_exit_here ?_
  refine pR Z fun Z => ?_
  refine s_runk tTh Z 1 rfl rfl fun a Z => ?_
  refine s_end Z [0, 4] rfl fun Z => ?_
  refine p_then (wp_ret ?_)
  obtain rfl := some_in hF
  exact f_ret Z (run_results1 rfl Z rfl) ⟨rfl, I1, (H.sub [(3, false), (1, false), (0, false), (0, false)] rfl).eq rfl⟩

def F_thin_DeleteFunc_k2 (j : Int) (rc : ((List EOp) × Int × Int × (List (ByteArray × Bool)) × Int) → Option ((List EOp) × (List (ByteArray × Bool)) × Int)) (s0_3 : List EOp) (i_3 : Int) (ybb_covered_2 : List (ByteArray × Bool)) (yb_gone_2 : Int) : Option ((List EOp) × (List (ByteArray × Bool)) × Int) := chk (inI (j + 1)) (rc (s0_3, i_3, j + 1, ybb_covered_2, yb_gone_2))

def F_thin_DeleteFunc_l1 (rc : ((List EOp) × Int × Int × (List (ByteArray × Bool)) × Int) → Option ((List EOp) × (List (ByteArray × Bool)) × Int)) (sg : (List EOp) × Int × Int × (List (ByteArray × Bool)) × Int) : Option ((List EOp) × (List (ByteArray × Bool)) × Int) := match sg with | (s0_2, i_2, j, ybb_covered, yb_gone) => if (decide (j < (s0_2.length : Int))) = true then (chk ((0 : Int) ≤ j ∧ j < (s0_2.length : Int)) ((F_rlog_Thin1 (s0_2.getD (j).toNat default) ybb_covered yb_gone).bind fun t => (if (!t.1) = true then (chk ((0 : Int) ≤ i_2 ∧ i_2 < (s0_2.length : Int)) (chk (inI (i_2 + 1)) (F_thin_DeleteFunc_k2 j rc (s0_2.set (i_2).toNat (s0_2.getD (j).toNat default)) (i_2 + 1) t.2.1 t.2.2))) else (F_thin_DeleteFunc_k2 j rc s0_2 i_2 t.2.1 t.2.2)))) else (chk ((0 : Int) ≤ i_2 ∧ i_2 ≤ (s0_2.length : Int)) (chk ((0 : Int) ≤ i_2 ∧ i_2 ≤ ((s0_2.take ((i_2).toNat) ++ List.replicate (s0_2.length - ((i_2).toNat)) default).length : Int)) (some ((s0_2.take ((i_2).toNat) ++ List.replicate (s0_2.length - ((i_2).toNat)) default).take ((i_2).toNat), ybb_covered, yb_gone))))

def F_thin_DeleteFunc (s0 : List EOp) (covered : List (ByteArray × Bool)) (gone : Int) : Option ((List EOp) × (List (ByteArray × Bool)) × Int) := (F_thin_IndexFunc s0 covered gone).bind fun i => (if (i.1 == (-1)) = true then (some (s0, i.2.1, i.2.2)) else (chk (inI (i.1 + 1)) (iter (F_thin_DeleteFunc_l1) FU (s0, i.1, i.1 + 1, i.2.1, i.2.2))))

set_option maxHeartbeats 1000000 in
theorem c_thin_DeleteFunc {I D : Dm} {s0 : List EOp} {v1_s0 : Value} {b_covered : Nat} {covered : List (ByteArray × Bool)} {bb_covered : Nat} {b_gone : Nat} {gone : Int} {w : World} {rr : (List EOp) × (List (ByteArray × Bool)) × Int} (hF : F_thin_DeleteFunc s0 covered gone = some rr) (H : St I D w [OwC NEOp 58 v1_s0 s0, BxC b_covered 116 [.map (some bb_covered)], MpC M_116 bb_covered covered, BxC b_gone 3 [vI gone]]) :
  Calls Tryz.prog 65 #[v1_s0, .func (.func 64) #[] #[pp b_covered 0, pp b_gone 0]] w (Ret fun vv w' => ∃ q1 : Value, vv = q1 ∧ ∃ I', Hf I D w I' w' [BxC b_covered 116 [.map (some bb_covered)], MpC M_116 bb_covered rr.2.1, BxC b_gone 3 [vI rr.2.2], OwC NEOp 58 q1 rr.1]) := by
 replace H := H.hf
 unfold F_thin_DeleteFunc at hF
 refine f_enter 42 Tryz.func65 rfl rfl (Nat.le_of_ble_eq_true rfl) fun a Z => ?_
 replace Z := Z.sub (ts := [0, 1]) rfl
 refine sR Z fun Z => ?_
 refine s_runk tTh Z 1 rfl rfl fun a Z => ?_
 refine s_end Z [0, 1] rfl fun Z => ?_
 refine p_then (wp_seq ?_)
 obtain ⟨i, hx1, hF⟩ := bnd_in hF
 refine f_region Z fun Z => ?_
 refine s_runk tTh Z 2 rfl rfl fun a Z => ?_
 refine hC Z H [(0, false), (0, false), (0, false), (0, false)] rfl #[] fn_92_YTh rfl rfl (fun D h => have q := c_thin_IndexFunc hx1 h; q) fun vv a w1 D2 hr hF2 Z => ?_
 obtain ⟨rfl, I1, K⟩ := hr
 have H := (hF2 K).nf rfl
 refine s_runk tTh Z 1 rfl rfl fun a Z => ?_
 refine s_end Z [0, 1, 5] rfl fun Z => ?_
 refine p_then (wp_seq ?_)
 refine sR Z fun Z => ?_
 refine s_runk tTh Z 2 rfl rfl fun a Z => ?_
 refine s_end Z [0, 1, 5, 12] rfl fun Z => ?_
 refine p_then ?_
 refine f_cond Z rfl (fun hc1 => ?_) (fun hc1 => ?_)
 ·replace hF := ite_t hc1 hF
  refine sR Z fun Z => ?_
  refine s_runk tTh Z 2 rfl rfl fun a Z => ?_
  refine s_end Z [4] rfl fun Z => ?_
  refine p_then (wp_ret ?_)
  refine p_then_r ?_
  obtain rfl := some_in hF
  exact f_ret Z (run_results1 rfl Z rfl) ⟨v1_s0, rfl, I1, (H.sub [(1, false), (1, false), (1, false), (0, false)] rfl).eq rfl⟩
 ·replace hF := ite_f hc1 hF
  refine wp_skip ?_
  refine p_then (wp_seq ?_)
  refine wp_seq ?_
  obtain ⟨hg1, hF⟩ := chk_in hF
  refine f_region Z fun Z => ?_
  refine s_runk tTh Z 1 rfl rfl fun a Z => ?_
  refine sO Z (vI (i.1 + 1)) rfl (Ob_add rfl rfl rfl (wrI hg1)) fun a Z => ?_
  refine s_runk tTh Z 1 rfl rfl fun a Z => ?_
  refine s_end Z [0, 1, 5, 6] rfl fun Z => ?_
  refine p_then (wp_block ?_)
  refine f_iter hF (fun sg a' w' => match sg with | (s0_2, i_2, j, ybb_covered, yb_gone) => ∃ v2 : Value, Sl 42 [(0, v2), (1, .func (.func 64) #[] #[pp b_covered 0, pp b_gone 0]), (5, vI i_2), (6, vI j)] a' ∧ ∃ I2, Hf I D w I2 w' [MpC M_116 bb_covered ybb_covered, BxC b_covered 116 [.map (some bb_covered)], BxC b_gone 3 [vI yb_gone], OwC NEOp 58 v2 s0_2]) ⟨v1_s0, Z.sub (ts := [0, 1, 5, 6]) rfl, ⟨I1, (H.sub [(2, false), (1, false), (1, false), (0, false)] rfl).eq rfl⟩⟩ ?_
  rintro rc ⟨s0_2, i_2, j, ybb_covered, yb_gone⟩ a w2 ⟨v2, Z, I2, H⟩ hF
  unfold F_thin_DeleteFunc_l1 at hF
  try dsimp only at hF
  refine wp_seq ?_
  refine sR Z fun Z => ?_
  refine s_runk tTh Z 2 rfl rfl fun a Z => ?_
  refine sO Z (vI (ln s0_2)) rfl (Ob_slen tTh rfl rfl rfl (H.owshape 3 rfl)) fun a Z => ?_
  refine s_runk tTh Z 1 rfl rfl fun a Z => ?_
  refine s_end Z [0, 1, 5, 6, 19] rfl fun Z => ?_
  refine p_then ?_
  refine f_cond Z rfl (fun hc2 => ?_) (fun hc2 => ?_)
  ·replace hF := ite_t hc2 hF
   refine wp_skip ?_
   refine p_then ?_
   refine f_cut (fun a' w' => ∃ (s0_3 : List EOp) (i_3 : Int) (ybb_covered_2 : List (ByteArray × Bool)) (yb_gone_2 : Int), ∃ v3 : Value, Sl 42 [(0, v3), (1, .func (.func 64) #[] #[pp b_covered 0, pp b_gone 0]), (5, vI i_3), (6, vI j)] a' ∧ (∃ I2, Hf I D w I2 w' [MpC M_116 bb_covered ybb_covered_2, BxC b_covered 116 [.map (some bb_covered)], BxC b_gone 3 [vI yb_gone_2], OwC NEOp 58 v3 s0_3]) ∧ F_thin_DeleteFunc_k2 j rc s0_3 i_3 ybb_covered_2 yb_gone_2 = some rr) ?_ ?_
   ·rintro a w3 ⟨s0_3, i_3, ybb_covered_2, yb_gone_2, v3, Z, ⟨I3, H⟩, hF⟩
    unfold F_thin_DeleteFunc_k2 at hF
    try dsimp only at hF
    obtain ⟨hg2, hF⟩ := chk_in hF
    refine f_region Z fun Z => ?_
    refine s_runk tTh Z 1 rfl rfl fun a Z => ?_
    refine sO Z (vI (j + 1)) rfl (Ob_add rfl rfl rfl (wrI hg2)) fun a Z => ?_
    refine s_runk tTh Z 1 rfl rfl fun a Z => ?_
    refine s_end Z [0, 1, 5, 6] rfl fun Z => ?_
    refine p_then ?_
    exact ⟨(s0_3, i_3, j + 1, ybb_covered_2, yb_gone_2), ⟨v3, Z.sub (ts := [0, 1, 5, 6]) rfl, ⟨I3, (H.sub [(0, false), (0, false), (0, false), (0, false)] rfl).eq rfl⟩⟩, hF⟩
   ·skip
    refine wp_block ?_
    refine wp_seq ?_
    obtain ⟨hg3, hF⟩ := chk_in hF
    refine f_region Z fun Z => ?_
    refine s_runk tTh Z 2 rfl rfl fun a Z => ?_
    refine sO Z (.pointer (some ⟨blkOf v2, oofOf v2 + (j).toNat * 3, none⟩)) rfl (Ob_sidx tTh rfl rfl rfl rfl (slPl (H.owA 3 rfl) hg3) hg3) fun a Z => ?_
    refine sO Z (.agg #[vS ((gi s0_2 j).key), vS ((gi s0_2 j).val), vT ((gi s0_2 j).del)]) rfl (oA tTh rfl rfl ((slFl (H.owA 3 rfl) hg3).part 0 rfl)) fun a Z => ?_
    refine hA Z H [vS ByteArray.empty, vS ByteArray.empty, vT false] rfl rfl (by kernel_rfl) fun a w4 b1 H Z => ?_
    refine hT tTh Z H 0 rfl rfl rfl rfl rfl (onR 3 rfl one_nil) (Nat.le_of_ble_eq_true rfl) rfl fun w5 H => ?_
    dsimp only [List.eraseIdx] at H
    refine s_end Z [0, 1, 5, 6, 7] rfl fun Z => ?_
    refine p_then (wp_seq ?_)
    obtain ⟨t, hx2, hF⟩ := bnd_in hF
    refine f_region Z fun Z => ?_
    refine s_runk tTh Z 1 rfl rfl fun a Z => ?_
    refine sO Z (.agg #[vS ((gi s0_2 j).key), vS ((gi s0_2 j).val), vT ((gi s0_2 j).del)]) rfl (oA tTh rfl rfl ((H.bx 0 rfl).part 0 rfl)) fun a Z => ?_
    refine hC Z H [(2, false), (1, false), (1, false)] rfl #[pp b_covered 0, pp b_gone 0] fn_64_YTh rfl rfl (fun D h => have q := c_rlog_Thin1 hx2 h; q) fun vv a w6 D2 hr hF2 Z => ?_
    obtain ⟨rfl, I4, K⟩ := hr
    have H := (hF2 K).nf rfl
    refine s_runk tTh Z 1 rfl rfl fun a Z => ?_
    refine s_end Z [0, 1, 5, 6, 7, 29] rfl fun Z => ?_
    refine p_then ?_
    refine f_cond Z rfl (fun hc3 => ?_) (fun hc3 => ?_)
    ·replace hF := ite_t hc3 hF
     refine wp_seq ?_
     obtain ⟨hg4, hF⟩ := chk_in hF
     refine f_region Z fun Z => ?_
     refine s_runk tTh Z 2 rfl rfl fun a Z => ?_
     refine sO Z (.agg #[vS ((gi s0_2 j).key), vS ((gi s0_2 j).val), vT ((gi s0_2 j).del)]) rfl (oA tTh rfl rfl ((H.bx 3 rfl).part 0 rfl)) fun a Z => ?_
     refine sO Z (.pointer (some ⟨blkOf v2, oofOf v2 + (i_2).toNat * 3, none⟩)) rfl (Ob_sidx tTh rfl rfl rfl rfl (slPl (H.owA 4 rfl) hg4) hg4) fun a Z => ?_
     refine h_setE tTh Z H 4 (z := i_2) (gi s0_2 j) [vS ((gi s0_2 j).key), vS ((gi s0_2 j).val), vT ((gi s0_2 j).del)] rfl NEOp.isFlat hg4 rfl rfl rfl 3 rfl rfl rfl (NEOp.one (A := NoA) (w := w6) (x := (gi s0_2 j)) ⟨rfl, trivial⟩) rfl rfl rfl (by decide) (fun _ _ => ⟨rfl, trivial⟩) fun w8 H => ?_
     dsimp only [List.eraseIdx] at H
     refine s_end Z [0, 1, 5, 6] rfl fun Z => ?_
     refine p_then ?_
     obtain ⟨hg5, hF⟩ := chk_in hF
     refine f_region Z fun Z => ?_
     refine s_runk tTh Z 1 rfl rfl fun a Z => ?_
     refine sO Z (vI (i_2 + 1)) rfl (Ob_add rfl rfl rfl (wrI hg5)) fun a Z => ?_
     refine s_runk tTh Z 1 rfl rfl fun a Z => ?_
     refine s_end Z [0, 1, 5, 6] rfl fun Z => ?_
     refine p_blk ?_
     refine p_then ?_
     exact ⟨s0_2.set (i_2).toNat (gi s0_2 j), i_2 + 1, t.2.1, t.2.2, v2, Z.sub (ts := [0, 1, 5, 6]) rfl, ⟨I4, (H.sub [(2, false), (1, false), (1, false), (0, false)] rfl).eq rfl⟩, hF⟩
    ·replace hF := ite_f hc3 hF
     refine wp_skip ?_
     refine p_blk ?_
     refine p_then ?_
     exact ⟨s0_2, i_2, t.2.1, t.2.2, v2, Z.sub (ts := [0, 1, 5, 6]) rfl, ⟨I4, (H.sub [(1, false), (0, false), (0, false), (1, false)] rfl).eq rfl⟩, hF⟩
  ·replace hF := ite_f hc2 hF
   refine wp_exit ?_
   refine p_then_x ?_
   refine p_then_x ?_
   refine f_exit_here ?_
   refine p_then (wp_seq ?_)
   obtain ⟨hg6, hF⟩ := chk_in hF
   refine f_region Z fun Z => ?_
   refine s_runk tTh Z 2 rfl rfl fun a Z => ?_
   refine sO Z (subV v2 ((i_2).toNat) s0_2.length 3) rfl (Ob_sub_from tTh rfl rfl rfl rfl (H.owshape 3 rfl) hg6) fun a Z => ?_
   refine h_clear Z H 3 (zv := .agg #[vS ByteArray.empty, vS ByteArray.empty, vT false]) default [vS ByteArray.empty, vS ByteArray.empty, vT false] rfl NEOp.isFlat hg6 rfl rfl rfl 3 rfl Tryz.underlying40 (run_zero0 (by kernel_rfl)) rfl (NEOp.one (A := NoA) (w := w2) (x := default) ⟨rfl, trivial⟩) rfl rfl (by decide) (fun _ _ => ⟨rfl, trivial⟩) fun w9 H => ?_
   dsimp only [List.eraseIdx] at H
   refine s_end Z [0, 5] rfl fun Z => ?_
   refine p_then (wp_seq ?_)
   obtain ⟨hg7, hF⟩ := chk_in hF
   refine f_region Z fun Z => ?_
   refine s_runk tTh Z 2 rfl rfl fun a Z => ?_
   refine sO Z (subV v2 0 ((i_2).toNat) 3) rfl (Ob_sub_to tTh rfl rfl rfl rfl (H.owshape 0 rfl) hg7) fun a Z => ?_
   replace H : Hf I D w I2 w9 [OwC NEOp 58 (subV v2 0 ((i_2).toNat) 3) ((s0_2.take ((i_2).toNat) ++ List.replicate (s0_2.length - ((i_2).toNat)) default).take ((i_2).toNat)), MpC M_116 bb_covered ybb_covered, BxC b_covered 116 [.map (some bb_covered)], BxC b_gone 3 [vI yb_gone]] := H.truncO 0 rfl hg7 3
   refine s_runk tTh Z 1 rfl rfl fun a Z => ?_
   refine s_end Z [4] rfl fun Z => ?_
   refine p_then (wp_ret ?_)
   obtain rfl := some_in hF
   exact f_ret Z (run_results1 rfl Z rfl) ⟨subV v2 0 ((i_2).toNat) 3, rfl, I2, (H.sub [(2, false), (1, false), (1, false), (0, false)] rfl).eq rfl⟩

end Go.Proofs.YtglfajjcgbfehaaGreat
