/- Operations read out of bytes. -/
import Derived.Test.YtodgamombdaoiaaYOps
namespace Go.Proofs.Ytodgamombdaoiaa
open Go.RowKit
def tOps1L : TabL := ⟨[(33792, 0), (33793, 1), (33794, 2), (86016, 0), (86017, 1), (86018, 2)], [], [], [(31, (84, 3))], [(3, (1, false)), (4, (1, false)), (9, (1, false)), (31, (1, false)), (33, (3, true)), (78, (3, true)), (84, (3, true))]⟩

def tOps1 : Tab Try.prog := ⟨tOps1L, by kernel_rfl⟩

theorem fn_59_YOps1 : IsFn Try.prog 59 := ⟨_, Try.func59, by kernel_rfl, by kernel_rfl⟩

theorem fn_60_YOps1 : IsFn Try.prog 60 := ⟨_, Try.func60, by kernel_rfl, by kernel_rfl⟩

theorem neq_EOp (x y : EOp) (w : World) : (binOp .neq 84 (.agg (cEOp x).toArray) (.agg (cEOp y).toArray)).run Try.prog w = .ok (.bool (!eqEOp x y)) w := by
 have h1 := run_equalIn_struct (P := Try.prog) w 9999 84 (cEOp x).toArray (cEOp y).toArray (by rw [fieldsOf_of Try.underlying84]; exact Try.underlying84) (by kernel_rfl)
 rw [run_neq_struct, h1, fieldsOf_of Try.underlying84]
 simp [Op.eqFields, part, isAgg, cEOp, beqS, eqEOp, seqB_eq, run_underlying Try.underlying9, run_equalIn_string w 9998 9 _ _ Try.underlying9, run_underlying Try.underlying4, run_equalIn_bool' w 9998 4 _ _ Try.underlying4]
 try ((repeat' split) <;> simp_all)

theorem eqg_EOp (op : BinOp) (x y : Operand) (a b : Array Value) (w : World) : (eqGuard op 84 x y (.agg a) (.agg b)).run Try.prog w = .ok () w := run_eqGuard_agg (by kernel_rfl) op x y a b w

def F_ref06_SameOps_l1 (a0 : List EOp) (b : List EOp) (rc : Int → Option Bool) (sg : Int) : Option Bool := match sg with | i => if ((decide (i < (a0.length : Int))) && (decide (i < (b.length : Int)))) = true then (chk ((0 : Int) ≤ i ∧ i < (a0.length : Int)) (chk ((0 : Int) ≤ i ∧ i < (b.length : Int)) (if (!eqEOp (a0.getD (i).toNat default) (b.getD (i).toNat default)) = true then (some false) else (chk (inI (i + 1)) (rc (i + 1)))))) else (some true)

def F_ref06_SameOps (a0 : List EOp) (b : List EOp) : Option Bool := if ((a0.length : Int) != (b.length : Int)) = true then (some false) else (iter (F_ref06_SameOps_l1 a0 b) FU 0)

set_option maxHeartbeats 1000000 in
theorem c_ref06_SameOps {I D : Dm} {a0 : List EOp} {v1_a0 : Value} {b : List EOp} {v2_b : Value} {w : World} {rr : Bool} (hF : F_ref06_SameOps a0 b = some rr) (H : St I D w [SlC NEOp v1_a0 a0, SlC NEOp v2_b b]) :
  Calls Try.prog 60 #[v1_a0, v2_b] w (Ret fun vv w' => vv = .bool rr ∧ ∃ I', Hf I D w I' w' []) := by
 replace H := H.hf
 unfold F_ref06_SameOps at hF
 refine f_enter 32 Try.func60 rfl rfl (Nat.le_of_ble_eq_true rfl) fun a Z => ?_
 replace Z := Z.sub (ts := [0, 1]) rfl
 refine wp_seq (f_region Z ?_); clear Z; intro Z
 refine s_runk tOps1 Z 1 rfl rfl ?_; clear Z a; intro a Z
 refine s_end Z [0, 1, 4] rfl ?_; clear Z; intro Z
 refine p_then (wp_seq ?_)
 refine wp_seq (f_region Z ?_); clear Z; intro Z
 refine s_runk tOps1 Z 1 rfl rfl ?_; clear Z a; intro a Z
 refine s_ob Z (v := .int .i64 (a0.length : Int)) rfl rfl (by decide) rfl (Ob_slen tOps1 rfl rfl rfl (H.slshape 0 rfl)) ?_; clear Z a; intro a Z
 refine s_runk tOps1 Z 1 rfl rfl ?_; clear Z a; intro a Z
 refine s_ob Z (v := .int .i64 (b.length : Int)) rfl rfl (by decide) rfl (Ob_slen tOps1 rfl rfl rfl (H.slshape 1 rfl)) ?_; clear Z a; intro a Z
 refine s_runk tOps1 Z 1 rfl rfl ?_; clear Z a; intro a Z
 refine s_end Z [0, 1, 4, 10] rfl ?_; clear Z; intro Z
 refine p_then ?_
 refine f_cond Z rfl (fun hc1 => ?_) (fun hc1 => ?_)
 ·replace hF := ite_t hc1 hF
  refine wp_seq (f_region Z ?_); clear Z; intro Z
  refine s_runk tOps1 Z 1 rfl rfl ?_; clear Z a; intro a Z
  refine s_end Z [0, 1, 4] rfl ?_; clear Z; intro Z
  refine p_then (wp_ret ?_)
  refine p_then_r ?_
  obtain rfl := some_in hF
  exact f_ret Z (run_results1 rfl Z rfl) ⟨rfl, I, (H.sub [] rfl).eq rfl⟩
 ·replace hF := ite_f hc1 hF
  refine wp_skip ?_
  refine p_then (wp_seq ?_)
  refine wp_seq (f_region Z ?_); clear Z; intro Z
  refine s_runk tOps1 Z 1 rfl rfl ?_; clear Z a; intro a Z
  refine s_end Z [0, 1, 4, 5] rfl ?_; clear Z; intro Z
  refine p_then (wp_block ?_)
  refine f_iter hF (fun sg a' w' => match sg with | i => Sl 32 [(0, v1_a0), (1, v2_b), (4, .bool false), (5, .int .i64 i)] a' ∧ ∃ I2, Hf I D w I2 w' [SlC NEOp v1_a0 a0, SlC NEOp v2_b b]) ⟨Z.sub (ts := [0, 1, 4, 5]) rfl, ⟨I, (H.sub [(0, true), (1, true)] rfl).eq rfl⟩⟩ ?_
  clear Z H hF a
  rintro rc i a w1 ⟨Z, I1, H⟩ hF
  unfold F_ref06_SameOps_l1 at hF
  try dsimp only at hF
  refine wp_seq ?_
  refine wp_seq (f_region Z ?_); clear Z; intro Z
  refine s_runk tOps1 Z 2 rfl rfl ?_; clear Z a; intro a Z
  refine s_ob Z (v := .int .i64 (a0.length : Int)) rfl rfl (by decide) rfl (Ob_slen tOps1 rfl rfl rfl (H.slshape 0 rfl)) ?_; clear Z a; intro a Z
  refine s_runk tOps1 Z 2 rfl rfl ?_; clear Z a; intro a Z
  refine g_ob Z (p := (decide (i < (a0.length : Int)))) (v := .int .i64 i) (S' := [(5, .int .i64 i)]) rfl rfl rfl (wantB_t _) rfl (by decide) (fun hp hS => hS.sub (ts := [5]) rfl) (fun hp => Ob_c tOps1 rfl) ?_; clear Z a; intro a Z
  refine g_ob Z (p := (decide (i < (a0.length : Int)))) (v := v2_b) (S' := [(1, v2_b)]) rfl rfl rfl (wantB_t _) rfl (by decide) (fun hp hS => hS.sub (ts := [1]) rfl) (fun hp => Ob_c tOps1 rfl) ?_; clear Z a; intro a Z
  refine g_ob Z (p := (decide (i < (a0.length : Int)))) (v := .int .i64 (b.length : Int)) (S' := [(17, v2_b)]) rfl rfl rfl (wantB_t _) rfl (by decide) (fun hp hS => (hS.conv (t := 17) rfl (cond_t hp)).sub (ts := [17]) rfl) (fun hp => Ob_slen tOps1 rfl rfl rfl (H.slshape 1 rfl)) ?_; clear Z a; intro a Z
  refine g_ob Z (p := (decide (i < (a0.length : Int)))) (v := .bool (decide (i < (b.length : Int)))) (S' := [(16, .int .i64 i), (18, .int .i64 (b.length : Int))]) rfl rfl rfl (wantB_t _) rfl (by decide) (fun hp hS => ((hS.conv (t := 16) rfl (cond_t hp)).conv (t := 18) rfl (cond_t hp)).sub (ts := [16, 18]) rfl) (fun hp => Ob_c tOps1 rfl) ?_; clear Z a; intro a Z
  refine s_ob Z (v := .bool ((decide (i < (a0.length : Int))) && (decide (i < (b.length : Int))))) rfl rfl (by decide) rfl (Ob_pick rfl rfl rfl rfl (pick_and _ _)) ?_; clear Z a; intro a Z
  refine s_end Z [0, 1, 4, 5, 11, 12, 13, 14, 15, 20] rfl ?_; clear Z; intro Z
  refine p_then ?_
  refine f_cond Z rfl (fun hc2 => ?_) (fun hc2 => ?_)
  ·replace hF := ite_t hc2 hF
   refine wp_skip ?_
   refine p_then (wp_seq ?_)
   refine wp_block ?_
   refine wp_seq ?_
   obtain ⟨hg1, hF⟩ := chk_in hF
   obtain ⟨hg2, hF⟩ := chk_in hF
   refine f_quietd (by kernel_rfl) (by kernel_rfl) Z ?_; clear Z; intro Z
   refine q_runk tOps1 Z 2 rfl rfl ?_; clear Z a; intro a Z
   refine q_ob Z (v := .pointer (some ⟨blkOf v1_a0, oofOf v1_a0 + (i).toNat * 3, none⟩)) rfl rfl (by decide) rfl (fun _ hw => Ob_sidx tOps1 rfl rfl rfl rfl (slPl ((H.blw hw).sl 0 rfl) hg1) hg1) ?_; clear Z a; intro a Z
   refine q_ob Z (v := .agg #[.string ((a0.getD (i).toNat default).key), .string ((a0.getD (i).toNat default).val), .bool ((a0.getD (i).toNat default).del)]) rfl rfl (by decide) rfl (fun _ hw => Ob_loads tOps1 rfl rfl rfl ((slFl ((H.blw hw).sl 0 rfl) hg1).part 0 rfl)) ?_; clear Z a; intro a Z
   refine q_runk tOps1 Z 2 rfl rfl ?_; clear Z a; intro a Z
   refine q_ob Z (v := .pointer (some ⟨blkOf v2_b, oofOf v2_b + (i).toNat * 3, none⟩)) rfl rfl (by decide) rfl (fun _ hw => Ob_sidx tOps1 rfl rfl rfl rfl (slPl ((H.blw hw).sl 1 rfl) hg2) hg2) ?_; clear Z a; intro a Z
   refine q_ob Z (v := .agg #[.string ((b.getD (i).toNat default).key), .string ((b.getD (i).toNat default).val), .bool ((b.getD (i).toNat default).del)]) rfl rfl (by decide) rfl (fun _ hw => Ob_loads tOps1 rfl rfl rfl ((slFl ((H.blw hw).sl 1 rfl) hg2).part 0 rfl)) ?_; clear Z a; intro a Z
   refine q_ob Z (v := .bool (!eqEOp (a0.getD (i).toNat default) (b.getD (i).toNat default))) rfl rfl (by decide) rfl (fun _ hw => Ob_bin rfl rfl rfl (eqg_EOp _ _ _ _ _ _) (neq_EOp (a0.getD (i).toNat default) (b.getD (i).toNat default) _)) ?_; clear Z a; intro a Z
   refine q_end Z [0, 1, 4, 5, 11, 12, 13, 14, 15, 20, 23, 24, 25, 26, 27, 28, 29, 30, 31] rfl ?_; clear Z; intro w2 hb Z
   replace H : Hf I D w I1 w2 [SlC NEOp v1_a0 a0, SlC NEOp v2_b b] := H.blw hb
   clear hb
   refine p_then ?_
   refine f_cond Z rfl (fun hc3 => ?_) (fun hc3 => ?_)
   ·replace hF := ite_t hc3 hF
    refine wp_seq (f_region Z ?_); clear Z; intro Z
    refine s_runk tOps1 Z 1 rfl rfl ?_; clear Z a; intro a Z
    refine s_end Z [0, 1, 4, 5, 11, 12, 13, 14, 15, 20, 23, 24, 25, 26, 27, 28, 29, 30, 31] rfl ?_; clear Z; intro Z
    refine p_then (wp_ret ?_)
    refine p_blk_r ?_
    refine p_then_r ?_
    refine p_then_r ?_
    refine p_blk_r ?_
    refine p_then_r ?_
    obtain rfl := some_in hF
    exact f_ret Z (run_results1 rfl Z rfl) ⟨rfl, I1, (H.sub [] rfl).eq rfl⟩
   ·replace hF := ite_f hc3 hF
    refine wp_skip ?_
    refine p_blk ?_
    refine p_then ?_
    obtain ⟨hg3, hF⟩ := chk_in hF
    refine f_region Z ?_; clear Z; intro Z
    refine s_runk tOps1 Z 1 rfl rfl ?_; clear Z a; intro a Z
    refine s_ob Z (v := .int .i64 (i + 1)) rfl rfl (by decide) rfl (Ob_add rfl rfl rfl (wrI hg3)) ?_; clear Z a; intro a Z
    refine s_runk tOps1 Z 1 rfl rfl ?_; clear Z a; intro a Z
    refine s_end Z [0, 1, 4, 5, 11, 12, 13, 14, 15, 20, 23, 24, 25, 26, 27, 28, 29, 30, 31, 21, 22] rfl ?_; clear Z; intro Z
    refine p_then ?_
    exact ⟨(i + 1), ⟨Z.sub (ts := [0, 1, 4, 5]) rfl, ⟨I1, (H.sub [(0, true), (1, true)] rfl).eq rfl⟩⟩, hF⟩
  ·replace hF := ite_f hc2 hF
   refine wp_exit ?_
   refine p_then_x ?_
   refine p_then_x ?_
   refine f_exit_here ?_
   refine p_then (wp_seq (f_region Z ?_)); clear Z; intro Z
   refine s_runk tOps1 Z 1 rfl rfl ?_; clear Z a; intro a Z
   refine s_end Z [4] rfl ?_; clear Z; intro Z
   refine p_then (wp_ret ?_)
   obtain rfl := some_in hF
   exact f_ret Z (run_results1 rfl Z rfl) ⟨rfl, I1, (H.sub [] rfl).eq rfl⟩

def F_ref06_Same (a0 : EBatch) (b : EBatch) : Option Bool := (gif ((a0.client == b.client) && (a0.req == b.req)) (F_ref06_SameOps a0.ops b.ops) default).bind fun s0 => (some (((a0.client == b.client) && (a0.req == b.req)) && s0))

set_option maxHeartbeats 1000000 in
theorem c_ref06_Same {I D : Dm} {a0 : EBatch} {v1_a0 : Value} {b : EBatch} {v2_b : Value} {w : World} {rr : Bool} (hF : F_ref06_Same a0 b = some rr) (H : St I D w [SlC NEOp v1_a0 a0.ops, SlC NEOp v2_b b.ops]) :
  Calls Try.prog 39 #[.agg #[.int .i64 a0.client, .int .i64 a0.req, v1_a0], .agg #[.int .i64 b.client, .int .i64 b.req, v2_b]] w (Ret fun vv w' => vv = .bool rr ∧ ∃ I', Hf I D w I' w' []) := by
 replace H := H.hf
 unfold F_ref06_Same at hF
 refine f_enter 24 Try.func39 rfl rfl (Nat.le_of_ble_eq_true rfl) fun a Z => ?_
 replace Z := Z.sub (ts := [0, 1]) rfl
 refine wp_seq (f_region Z ?_); clear Z; intro Z
 refine h_boxv Z H (cl := [.int .i64 a0.client, .int .i64 a0.req, v1_a0]) rfl rfl rfl (by decide) rfl rfl rfl ?_; clear Z a H; intro a w1 b1 H Z
 refine h_boxv Z H (cl := [.int .i64 b.client, .int .i64 b.req, v2_b]) rfl rfl rfl (by decide) rfl rfl rfl ?_; clear Z a H; intro a w2 b2 H Z
 refine s_runk tOps1 Z 1 rfl rfl ?_; clear Z a; intro a Z
 refine s_end Z [2, 3, 4] rfl ?_; clear Z; intro Z
 refine p_then (wp_seq ?_)
 obtain ⟨s0, hx1, hF⟩ := bnd_in hF
 refine f_region Z ?_; clear Z; intro Z
 refine s_runk tOps1 Z 1 rfl rfl ?_; clear Z a; intro a Z
 refine s_ob Z (v := .int .i64 a0.client) rfl rfl (by decide) rfl (Ob_load tOps1 rfl rfl rfl ((H.bx 1 rfl).cell 0 rfl)) ?_; clear Z a; intro a Z
 refine s_runk tOps1 Z 1 rfl rfl ?_; clear Z a; intro a Z
 refine s_ob Z (v := .int .i64 b.client) rfl rfl (by decide) rfl (Ob_load tOps1 rfl rfl rfl ((H.bx 0 rfl).cell 0 rfl)) ?_; clear Z a; intro a Z
 refine s_runk tOps1 Z 2 rfl rfl ?_; clear Z a; intro a Z
 refine g_ob Z (p := (a0.client == b.client)) (v := .pointer (some ⟨b1, 1, none⟩)) (S' := [(2, .pointer (some ⟨b1, 0, none⟩))]) rfl rfl rfl (wantB_t _) rfl (by decide) (fun hp hS => hS.sub (ts := [2]) rfl) (fun hp => Ob_c tOps1 rfl) ?_; clear Z a; intro a Z
 refine g_ob Z (p := (a0.client == b.client)) (v := .int .i64 a0.req) (S' := [(11, .pointer (some ⟨b1, 1, none⟩))]) rfl rfl rfl (wantB_t _) rfl (by decide) (fun hp hS => (hS.conv (t := 11) rfl (cond_t hp)).sub (ts := [11]) rfl) (fun hp => Ob_load tOps1 rfl rfl rfl ((H.bx 1 rfl).cell 1 rfl)) ?_; clear Z a; intro a Z
 refine g_ob Z (p := (a0.client == b.client)) (v := .pointer (some ⟨b2, 1, none⟩)) (S' := [(3, .pointer (some ⟨b2, 0, none⟩))]) rfl rfl rfl (wantB_t _) rfl (by decide) (fun hp hS => hS.sub (ts := [3]) rfl) (fun hp => Ob_c tOps1 rfl) ?_; clear Z a; intro a Z
 refine g_ob Z (p := (a0.client == b.client)) (v := .int .i64 b.req) (S' := [(13, .pointer (some ⟨b2, 1, none⟩))]) rfl rfl rfl (wantB_t _) rfl (by decide) (fun hp hS => (hS.conv (t := 13) rfl (cond_t hp)).sub (ts := [13]) rfl) (fun hp => Ob_load tOps1 rfl rfl rfl ((H.bx 0 rfl).cell 1 rfl)) ?_; clear Z a; intro a Z
 refine g_ob Z (p := (a0.client == b.client)) (v := .bool (a0.req == b.req)) (S' := [(12, .int .i64 a0.req), (14, .int .i64 b.req)]) rfl rfl rfl (wantB_t _) rfl (by decide) (fun hp hS => ((hS.conv (t := 12) rfl (cond_t hp)).conv (t := 14) rfl (cond_t hp)).sub (ts := [12, 14]) rfl) (fun hp => Ob_c tOps1 rfl) ?_; clear Z a; intro a Z
 refine s_ob Z (v := .bool ((a0.client == b.client) && (a0.req == b.req))) rfl rfl (by decide) rfl (Ob_pick rfl rfl rfl rfl (pick_and _ _)) ?_; clear Z a; intro a Z
 refine s_runk tOps1 Z 1 rfl rfl ?_; clear Z a; intro a Z
 refine g_ob Z (p := ((a0.client == b.client) && (a0.req == b.req))) (v := .pointer (some ⟨b1, 2, none⟩)) (S' := [(2, .pointer (some ⟨b1, 0, none⟩))]) rfl rfl rfl (wantB_t _) rfl (by decide) (fun hp hS => hS.sub (ts := [2]) rfl) (fun hp => Ob_c tOps1 rfl) ?_; clear Z a; intro a Z
 refine g_ob Z (p := ((a0.client == b.client) && (a0.req == b.req))) (v := v1_a0) (S' := [(18, .pointer (some ⟨b1, 2, none⟩))]) rfl rfl rfl (wantB_t _) rfl (by decide) (fun hp hS => (hS.conv (t := 18) rfl (cond_t hp)).sub (ts := [18]) rfl) (fun hp => Ob_load tOps1 rfl rfl rfl ((H.bx 1 rfl).cell 2 rfl)) ?_; clear Z a; intro a Z
 refine g_ob Z (p := ((a0.client == b.client) && (a0.req == b.req))) (v := .pointer (some ⟨b2, 2, none⟩)) (S' := [(3, .pointer (some ⟨b2, 0, none⟩))]) rfl rfl rfl (wantB_t _) rfl (by decide) (fun hp hS => hS.sub (ts := [3]) rfl) (fun hp => Ob_c tOps1 rfl) ?_; clear Z a; intro a Z
 refine g_ob Z (p := ((a0.client == b.client) && (a0.req == b.req))) (v := v2_b) (S' := [(20, .pointer (some ⟨b2, 2, none⟩))]) rfl rfl rfl (wantB_t _) rfl (by decide) (fun hp hS => (hS.conv (t := 20) rfl (cond_t hp)).sub (ts := [20]) rfl) (fun hp => Ob_load tOps1 rfl rfl rfl ((H.bx 0 rfl).cell 2 rfl)) ?_; clear Z a; intro a Z
 refine g_call Z (p := ((a0.client == b.client) && (a0.req == b.req))) (v := .bool s0) (S' := [(19, v1_a0), (21, v2_b)]) (caps := #[]) fn_60_YOps1 rfl rfl rfl (wantB_t _) rfl (by decide) (fun hp hS => ((hS.conv (t := 19) rfl (cond_t hp)).conv (t := 21) rfl (cond_t hp)).sub (ts := [19, 21]) rfl) rfl rfl rfl rfl (fun hp => have hq := c_ref06_SameOps (gif_in hx1 hp) (H.pick0 (js := [(2, true), (3, true)]) rfl rfl); plainC hq) ?_; clear Z a; intro a w3 hb Z
 replace H : Hf I D w I w3 [BxC b2 33 [.int .i64 b.client, .int .i64 b.req, v2_b], BxC b1 33 [.int .i64 a0.client, .int .i64 a0.req, v1_a0], SlC NEOp v1_a0 a0.ops, SlC NEOp v2_b b.ops] := H.blw hb
 clear hb
 refine s_ob Z (v := .bool (((a0.client == b.client) && (a0.req == b.req)) && s0)) rfl rfl (by decide) rfl (Ob_pick rfl rfl rfl rfl (pick_and _ _)) ?_; clear Z a; intro a Z
 refine s_runk tOps1 Z 1 rfl rfl ?_; clear Z a; intro a Z
 refine s_end Z [4] rfl ?_; clear Z; intro Z
 refine p_then (wp_ret ?_)
 obtain rfl := some_in hF
 exact f_ret Z (run_results1 rfl Z rfl) ⟨rfl, I, (H.sub [] rfl).eq rfl⟩

def F_slices_Equal_api_Op_api_Op_l1 (s1 : List EOp) (s2 : List EOp) (rc : Int → Option Bool) (sg : Int) : Option Bool := match sg with | x => if (decide (x < (s1.length : Int))) = true then (chk ((0 : Int) ≤ x ∧ x < (s1.length : Int)) (chk ((0 : Int) ≤ x ∧ x < (s2.length : Int)) (if (!eqEOp (s1.getD (x).toNat default) (s2.getD (x).toNat default)) = true then (some false) else (chk (inI (x + 1)) (rc (x + 1)))))) else (some true)

def F_slices_Equal_api_Op_api_Op (s1 : List EOp) (s2 : List EOp) : Option Bool := if ((s1.length : Int) != (s2.length : Int)) = true then (some false) else (iter (F_slices_Equal_api_Op_api_Op_l1 s1 s2) FU 0)

set_option maxHeartbeats 1000000 in
theorem c_slices_Equal_api_Op_api_Op {I D : Dm} {s1 : List EOp} {v1_s1 : Value} {s2 : List EOp} {v2_s2 : Value} {w : World} {rr : Bool} (hF : F_slices_Equal_api_Op_api_Op s1 s2 = some rr) (H : St I D w [SlC NEOp v1_s1 s1, SlC NEOp v2_s2 s2]) :
  Calls Try.prog 59 #[v1_s1, v2_s2] w (Ret fun vv w' => vv = .bool rr ∧ ∃ I', Hf I D w I' w' []) := by
 replace H := H.hf
 unfold F_slices_Equal_api_Op_api_Op at hF
 refine f_enter 26 Try.func59 rfl rfl (Nat.le_of_ble_eq_true rfl) fun a Z => ?_
 replace Z := Z.sub (ts := [0, 1]) rfl
 refine wp_seq (f_region Z ?_); clear Z; intro Z
 refine s_runk tOps1 Z 1 rfl rfl ?_; clear Z a; intro a Z
 refine s_end Z [0, 1, 4] rfl ?_; clear Z; intro Z
 refine p_then (wp_seq ?_)
 refine wp_seq (f_region Z ?_); clear Z; intro Z
 refine s_runk tOps1 Z 1 rfl rfl ?_; clear Z a; intro a Z
 refine s_ob Z (v := .int .i64 (s1.length : Int)) rfl rfl (by decide) rfl (Ob_slen tOps1 rfl rfl rfl (H.slshape 0 rfl)) ?_; clear Z a; intro a Z
 refine s_runk tOps1 Z 1 rfl rfl ?_; clear Z a; intro a Z
 refine s_ob Z (v := .int .i64 (s2.length : Int)) rfl rfl (by decide) rfl (Ob_slen tOps1 rfl rfl rfl (H.slshape 1 rfl)) ?_; clear Z a; intro a Z
 refine s_runk tOps1 Z 1 rfl rfl ?_; clear Z a; intro a Z
 refine s_end Z [0, 1, 4, 10] rfl ?_; clear Z; intro Z
 refine p_then ?_
 refine f_cond Z rfl (fun hc1 => ?_) (fun hc1 => ?_)
 ·replace hF := ite_t hc1 hF
  refine wp_seq (f_region Z ?_); clear Z; intro Z
  refine s_runk tOps1 Z 1 rfl rfl ?_; clear Z a; intro a Z
  refine s_end Z [0, 1, 4] rfl ?_; clear Z; intro Z
  refine p_then (wp_ret ?_)
  refine p_then_r ?_
  obtain rfl := some_in hF
  exact f_ret Z (run_results1 rfl Z rfl) ⟨rfl, I, (H.sub [] rfl).eq rfl⟩
 ·replace hF := ite_f hc1 hF
  refine wp_skip ?_
  refine p_then (wp_seq ?_)
  refine wp_seq (f_region Z ?_); clear Z; intro Z
  refine s_runk tOps1 Z 1 rfl rfl ?_; clear Z a; intro a Z
  refine s_ob Z (v := .int .i64 (s1.length : Int)) rfl rfl (by decide) rfl (Ob_slen tOps1 rfl rfl rfl (H.slshape 0 rfl)) ?_; clear Z a; intro a Z
  refine s_runk tOps1 Z 1 rfl rfl ?_; clear Z a; intro a Z
  refine s_end Z [0, 1, 4, 12, 13] rfl ?_; clear Z; intro Z
  refine p_then (wp_block ?_)
  refine f_iter hF (fun sg a' w' => match sg with | x => Sl 26 [(0, v1_s1), (1, v2_s2), (4, .bool false), (12, .int .i64 (s1.length : Int)), (13, .int .i64 x)] a' ∧ ∃ I2, Hf I D w I2 w' [SlC NEOp v1_s1 s1, SlC NEOp v2_s2 s2]) ⟨Z.sub (ts := [0, 1, 4, 12, 13]) rfl, ⟨I, (H.sub [(0, true), (1, true)] rfl).eq rfl⟩⟩ ?_
  clear Z H hF a
  rintro rc x a w1 ⟨Z, I1, H⟩ hF
  unfold F_slices_Equal_api_Op_api_Op_l1 at hF
  try dsimp only at hF
  refine wp_seq (f_region Z ?_); clear Z; intro Z
  refine s_runk tOps1 Z 1 rfl rfl ?_; clear Z a; intro a Z
  refine s_end Z [0, 1, 4, 12, 13, 14] rfl ?_; clear Z; intro Z
  refine p_then (wp_seq ?_)
  refine f_cond Z rfl (fun hc2 => ?_) (fun hc2 => ?_)
  ·replace hF := ite_t hc2 hF
   refine wp_skip ?_
   refine p_then (wp_seq ?_)
   refine wp_block ?_
   refine wp_seq (f_region Z ?_); clear Z; intro Z
   refine s_runk tOps1 Z 2 rfl rfl ?_; clear Z a; intro a Z
   refine s_end Z [0, 1, 4, 12, 13, 14, 15, 5] rfl ?_; clear Z; intro Z
   refine p_then (wp_seq ?_)
   obtain ⟨hg1, hF⟩ := chk_in hF
   obtain ⟨hg2, hF⟩ := chk_in hF
   refine f_quietd (by kernel_rfl) (by kernel_rfl) Z ?_; clear Z; intro Z
   refine q_runk tOps1 Z 2 rfl rfl ?_; clear Z a; intro a Z
   refine q_ob Z (v := .pointer (some ⟨blkOf v1_s1, oofOf v1_s1 + (x).toNat * 3, none⟩)) rfl rfl (by decide) rfl (fun _ hw => Ob_sidx tOps1 rfl rfl rfl rfl (slPl ((H.blw hw).sl 0 rfl) hg1) hg1) ?_; clear Z a; intro a Z
   refine q_ob Z (v := .agg #[.string ((s1.getD (x).toNat default).key), .string ((s1.getD (x).toNat default).val), .bool ((s1.getD (x).toNat default).del)]) rfl rfl (by decide) rfl (fun _ hw => Ob_loads tOps1 rfl rfl rfl ((slFl ((H.blw hw).sl 0 rfl) hg1).part 0 rfl)) ?_; clear Z a; intro a Z
   refine q_runk tOps1 Z 2 rfl rfl ?_; clear Z a; intro a Z
   refine q_ob Z (v := .pointer (some ⟨blkOf v2_s2, oofOf v2_s2 + (x).toNat * 3, none⟩)) rfl rfl (by decide) rfl (fun _ hw => Ob_sidx tOps1 rfl rfl rfl rfl (slPl ((H.blw hw).sl 1 rfl) hg2) hg2) ?_; clear Z a; intro a Z
   refine q_ob Z (v := .agg #[.string ((s2.getD (x).toNat default).key), .string ((s2.getD (x).toNat default).val), .bool ((s2.getD (x).toNat default).del)]) rfl rfl (by decide) rfl (fun _ hw => Ob_loads tOps1 rfl rfl rfl ((slFl ((H.blw hw).sl 1 rfl) hg2).part 0 rfl)) ?_; clear Z a; intro a Z
   refine q_ob Z (v := .bool (!eqEOp (s1.getD (x).toNat default) (s2.getD (x).toNat default))) rfl rfl (by decide) rfl (fun _ hw => Ob_bin rfl rfl rfl (eqg_EOp _ _ _ _ _ _) (neq_EOp (s1.getD (x).toNat default) (s2.getD (x).toNat default) _)) ?_; clear Z a; intro a Z
   refine q_end Z [0, 1, 4, 12, 13, 14, 15, 5, 16, 17, 18, 19, 20, 21, 22, 23, 24] rfl ?_; clear Z; intro w2 hb Z
   replace H : Hf I D w I1 w2 [SlC NEOp v1_s1 s1, SlC NEOp v2_s2 s2] := H.blw hb
   clear hb
   refine p_then ?_
   refine f_cond Z rfl (fun hc3 => ?_) (fun hc3 => ?_)
   ·replace hF := ite_t hc3 hF
    refine wp_seq (f_region Z ?_); clear Z; intro Z
    refine s_runk tOps1 Z 1 rfl rfl ?_; clear Z a; intro a Z
    refine s_end Z [0, 1, 4, 12, 13, 14, 15, 5, 16, 17, 18, 19, 20, 21, 22, 23, 24] rfl ?_; clear Z; intro Z
    refine p_then (wp_ret ?_)
    refine p_blk_r ?_
    refine p_then_r ?_
    refine p_then_r ?_
    refine p_blk_r ?_
    refine p_then_r ?_
    obtain rfl := some_in hF
    exact f_ret Z (run_results1 rfl Z rfl) ⟨rfl, I1, (H.sub [] rfl).eq rfl⟩
   ·replace hF := ite_f hc3 hF
    refine wp_skip ?_
    refine p_blk ?_
    refine p_then ?_
    obtain ⟨hg3, hF⟩ := chk_in hF
    refine f_region Z ?_; clear Z; intro Z
    refine s_ob Z (v := .int .i64 (x + 1)) rfl rfl (by decide) rfl (Ob_add rfl rfl rfl (wrI hg3)) ?_; clear Z a; intro a Z
    refine s_runk tOps1 Z 1 rfl rfl ?_; clear Z a; intro a Z
    refine s_end Z [0, 1, 4, 12, 13, 14, 15, 5, 16, 17, 18, 19, 20, 21, 22, 23, 24, 25] rfl ?_; clear Z; intro Z
    refine p_then ?_
    exact ⟨(x + 1), ⟨Z.sub (ts := [0, 1, 4, 12, 13]) rfl, ⟨I1, (H.sub [(0, true), (1, true)] rfl).eq rfl⟩⟩, hF⟩
  ·replace hF := ite_f hc2 hF
   refine wp_exit ?_
   refine p_then_x ?_
   refine p_then_x ?_
   refine f_exit_here ?_
   refine p_then (wp_seq (f_region Z ?_)); clear Z; intro Z
   refine s_runk tOps1 Z 1 rfl rfl ?_; clear Z a; intro a Z
   refine s_end Z [4] rfl ?_; clear Z; intro Z
   refine p_then (wp_ret ?_)
   obtain rfl := some_in hF
   exact f_ret Z (run_results1 rfl Z rfl) ⟨rfl, I1, (H.sub [] rfl).eq rfl⟩

def F_ops_Same (a0 : EBatch) (b : EBatch) : Option Bool := (gif ((a0.client == b.client) && (a0.req == b.req)) (F_slices_Equal_api_Op_api_Op a0.ops b.ops) default).bind fun o => (some (((a0.client == b.client) && (a0.req == b.req)) && o))

set_option maxHeartbeats 1000000 in
theorem c_ops_Same {I D : Dm} {a0 : EBatch} {v1_a0 : Value} {b : EBatch} {v2_b : Value} {w : World} {rr : Bool} (hF : F_ops_Same a0 b = some rr) (H : St I D w [SlC NEOp v1_a0 a0.ops, SlC NEOp v2_b b.ops]) :
  Calls Try.prog 38 #[.agg #[.int .i64 a0.client, .int .i64 a0.req, v1_a0], .agg #[.int .i64 b.client, .int .i64 b.req, v2_b]] w (Ret fun vv w' => vv = .bool rr ∧ ∃ I', Hf I D w I' w' []) := by
 replace H := H.hf
 unfold F_ops_Same at hF
 refine f_enter 24 Try.func38 rfl rfl (Nat.le_of_ble_eq_true rfl) fun a Z => ?_
 replace Z := Z.sub (ts := [0, 1]) rfl
 refine wp_seq (f_region Z ?_); clear Z; intro Z
 refine h_boxv Z H (cl := [.int .i64 a0.client, .int .i64 a0.req, v1_a0]) rfl rfl rfl (by decide) rfl rfl rfl ?_; clear Z a H; intro a w1 b1 H Z
 refine h_boxv Z H (cl := [.int .i64 b.client, .int .i64 b.req, v2_b]) rfl rfl rfl (by decide) rfl rfl rfl ?_; clear Z a H; intro a w2 b2 H Z
 refine s_runk tOps1 Z 1 rfl rfl ?_; clear Z a; intro a Z
 refine s_end Z [2, 3, 4] rfl ?_; clear Z; intro Z
 refine p_then (wp_seq ?_)
 obtain ⟨o, hx1, hF⟩ := bnd_in hF
 refine f_region Z ?_; clear Z; intro Z
 refine s_runk tOps1 Z 1 rfl rfl ?_; clear Z a; intro a Z
 refine s_ob Z (v := .int .i64 a0.client) rfl rfl (by decide) rfl (Ob_load tOps1 rfl rfl rfl ((H.bx 1 rfl).cell 0 rfl)) ?_; clear Z a; intro a Z
 refine s_runk tOps1 Z 1 rfl rfl ?_; clear Z a; intro a Z
 refine s_ob Z (v := .int .i64 b.client) rfl rfl (by decide) rfl (Ob_load tOps1 rfl rfl rfl ((H.bx 0 rfl).cell 0 rfl)) ?_; clear Z a; intro a Z
 refine s_runk tOps1 Z 2 rfl rfl ?_; clear Z a; intro a Z
 refine g_ob Z (p := (a0.client == b.client)) (v := .pointer (some ⟨b1, 1, none⟩)) (S' := [(2, .pointer (some ⟨b1, 0, none⟩))]) rfl rfl rfl (wantB_t _) rfl (by decide) (fun hp hS => hS.sub (ts := [2]) rfl) (fun hp => Ob_c tOps1 rfl) ?_; clear Z a; intro a Z
 refine g_ob Z (p := (a0.client == b.client)) (v := .int .i64 a0.req) (S' := [(11, .pointer (some ⟨b1, 1, none⟩))]) rfl rfl rfl (wantB_t _) rfl (by decide) (fun hp hS => (hS.conv (t := 11) rfl (cond_t hp)).sub (ts := [11]) rfl) (fun hp => Ob_load tOps1 rfl rfl rfl ((H.bx 1 rfl).cell 1 rfl)) ?_; clear Z a; intro a Z
 refine g_ob Z (p := (a0.client == b.client)) (v := .pointer (some ⟨b2, 1, none⟩)) (S' := [(3, .pointer (some ⟨b2, 0, none⟩))]) rfl rfl rfl (wantB_t _) rfl (by decide) (fun hp hS => hS.sub (ts := [3]) rfl) (fun hp => Ob_c tOps1 rfl) ?_; clear Z a; intro a Z
 refine g_ob Z (p := (a0.client == b.client)) (v := .int .i64 b.req) (S' := [(13, .pointer (some ⟨b2, 1, none⟩))]) rfl rfl rfl (wantB_t _) rfl (by decide) (fun hp hS => (hS.conv (t := 13) rfl (cond_t hp)).sub (ts := [13]) rfl) (fun hp => Ob_load tOps1 rfl rfl rfl ((H.bx 0 rfl).cell 1 rfl)) ?_; clear Z a; intro a Z
 refine g_ob Z (p := (a0.client == b.client)) (v := .bool (a0.req == b.req)) (S' := [(12, .int .i64 a0.req), (14, .int .i64 b.req)]) rfl rfl rfl (wantB_t _) rfl (by decide) (fun hp hS => ((hS.conv (t := 12) rfl (cond_t hp)).conv (t := 14) rfl (cond_t hp)).sub (ts := [12, 14]) rfl) (fun hp => Ob_c tOps1 rfl) ?_; clear Z a; intro a Z
 refine s_ob Z (v := .bool ((a0.client == b.client) && (a0.req == b.req))) rfl rfl (by decide) rfl (Ob_pick rfl rfl rfl rfl (pick_and _ _)) ?_; clear Z a; intro a Z
 refine s_runk tOps1 Z 1 rfl rfl ?_; clear Z a; intro a Z
 refine g_ob Z (p := ((a0.client == b.client) && (a0.req == b.req))) (v := .pointer (some ⟨b1, 2, none⟩)) (S' := [(2, .pointer (some ⟨b1, 0, none⟩))]) rfl rfl rfl (wantB_t _) rfl (by decide) (fun hp hS => hS.sub (ts := [2]) rfl) (fun hp => Ob_c tOps1 rfl) ?_; clear Z a; intro a Z
 refine g_ob Z (p := ((a0.client == b.client) && (a0.req == b.req))) (v := v1_a0) (S' := [(18, .pointer (some ⟨b1, 2, none⟩))]) rfl rfl rfl (wantB_t _) rfl (by decide) (fun hp hS => (hS.conv (t := 18) rfl (cond_t hp)).sub (ts := [18]) rfl) (fun hp => Ob_load tOps1 rfl rfl rfl ((H.bx 1 rfl).cell 2 rfl)) ?_; clear Z a; intro a Z
 refine g_ob Z (p := ((a0.client == b.client) && (a0.req == b.req))) (v := .pointer (some ⟨b2, 2, none⟩)) (S' := [(3, .pointer (some ⟨b2, 0, none⟩))]) rfl rfl rfl (wantB_t _) rfl (by decide) (fun hp hS => hS.sub (ts := [3]) rfl) (fun hp => Ob_c tOps1 rfl) ?_; clear Z a; intro a Z
 refine g_ob Z (p := ((a0.client == b.client) && (a0.req == b.req))) (v := v2_b) (S' := [(20, .pointer (some ⟨b2, 2, none⟩))]) rfl rfl rfl (wantB_t _) rfl (by decide) (fun hp hS => (hS.conv (t := 20) rfl (cond_t hp)).sub (ts := [20]) rfl) (fun hp => Ob_load tOps1 rfl rfl rfl ((H.bx 0 rfl).cell 2 rfl)) ?_; clear Z a; intro a Z
 refine g_call Z (p := ((a0.client == b.client) && (a0.req == b.req))) (v := .bool o) (S' := [(19, v1_a0), (21, v2_b)]) (caps := #[]) fn_59_YOps1 rfl rfl rfl (wantB_t _) rfl (by decide) (fun hp hS => ((hS.conv (t := 19) rfl (cond_t hp)).conv (t := 21) rfl (cond_t hp)).sub (ts := [19, 21]) rfl) rfl rfl rfl rfl (fun hp => have hq := c_slices_Equal_api_Op_api_Op (gif_in hx1 hp) (H.pick0 (js := [(2, true), (3, true)]) rfl rfl); plainC hq) ?_; clear Z a; intro a w3 hb Z
 replace H : Hf I D w I w3 [BxC b2 33 [.int .i64 b.client, .int .i64 b.req, v2_b], BxC b1 33 [.int .i64 a0.client, .int .i64 a0.req, v1_a0], SlC NEOp v1_a0 a0.ops, SlC NEOp v2_b b.ops] := H.blw hb
 clear hb
 refine s_ob Z (v := .bool (((a0.client == b.client) && (a0.req == b.req)) && o)) rfl rfl (by decide) rfl (Ob_pick rfl rfl rfl rfl (pick_and _ _)) ?_; clear Z a; intro a Z
 refine s_runk tOps1 Z 1 rfl rfl ?_; clear Z a; intro a Z
 refine s_end Z [4] rfl ?_; clear Z; intro Z
 refine p_then (wp_ret ?_)
 obtain rfl := some_in hF
 exact f_ret Z (run_results1 rfl Z rfl) ⟨rfl, I, (H.sub [] rfl).eq rfl⟩

end Go.Proofs.Ytodgamombdaoiaa
