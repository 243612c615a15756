/- Lists of entries; the laws. -/
import Derived.Test.YtodgamombdaoiaaYItem
import Derived.Test.YtodgamombdaoiaaYM
namespace Go.Proofs.Ytodgamombdaoiaa
open Go.RowKit
def tI1L : TabL := ⟨[(33792, 0), (33793, 1), (33794, 2), (35840, 0), (35841, 3)], [9], [4], [(22, (35, 4)), (31, (84, 3))], [(3, (1, false)), (27, (1, false)), (31, (1, false)), (35, (4, true)), (50, (2, true))]⟩

def tI1 : Tab Try.prog := ⟨tI1L, by kernel_rfl⟩

theorem fn_7_YItem1 : IsFn Try.prog 7 := ⟨_, Try.func7, by kernel_rfl, by kernel_rfl⟩

theorem fn_8_YItem1 : IsFn Try.prog 8 := ⟨_, Try.func8, by kernel_rfl, by kernel_rfl⟩

theorem fn_9_YItem1 : IsFn Try.prog 9 := ⟨_, Try.func9, by kernel_rfl, by kernel_rfl⟩

theorem fn_11_YItem1 : IsFn Try.prog 11 := ⟨_, Try.func11, by kernel_rfl, by kernel_rfl⟩

theorem fn_13_YItem1 : IsFn Try.prog 13 := ⟨_, Try.func13, by kernel_rfl, by kernel_rfl⟩

theorem fn_15_YItem1 : IsFn Try.prog 15 := ⟨_, Try.func15, by kernel_rfl, by kernel_rfl⟩

theorem fn_17_YItem1 : IsFn Try.prog 17 := ⟨_, Try.func17, by kernel_rfl, by kernel_rfl⟩

theorem fn_21_YItem1 : IsFn Try.prog 21 := ⟨_, Try.func21, by kernel_rfl, by kernel_rfl⟩

theorem fn_25_YItem1 : IsFn Try.prog 25 := ⟨_, Try.func25, by kernel_rfl, by kernel_rfl⟩

theorem fn_26_YItem1 : IsFn Try.prog 26 := ⟨_, Try.func26, by kernel_rfl, by kernel_rfl⟩

@[reducible] def M_48 : MapE (List Int) Bool := ⟨fun k => .agg #[.int .i64 (k.getD 0 0), .int .i64 (k.getD 1 0)], fun v => .bool v, fun k => k.length = 2 ∧ inI (k.getD 0 0) ∧ inI (k.getD 1 0), fun a b ha hb h => inj_pair ha.1 hb.1 (by simp at h; exact h)⟩

theorem MF_48 : MapF Try.prog 48 M_48 false := ⟨50, 4, Go.deep_law_gate (by kernel_rfl) (of_decide_eq_true (by kernel_rfl)) (of_decide_eq_true (by kernel_rfl)) (by kernel_rfl) (by rw [Try.underlying50]), fun a h => by exact ⟨_, Go.WideMaps.keyOf_pair ⟨Try.underlying50, by kernel_rfl, by kernel_rfl, by kernel_rfl⟩ Try.underlying3 ⟨_, (by kernel_rfl : Try.prog.types.size = 132 + 1)⟩ (Lit_wfI h.2.1) (Lit_wfI h.2.2)⟩, Try.underlying48, run_zero0 (by kernel_rfl)⟩

theorem eql_a50 (a b c d : Int) (w : World) : (binOp .eql 50 (.agg #[.int .i64 a, .int .i64 b]) (.agg #[.int .i64 c, .int .i64 d])).run Try.prog w = .ok (.bool ((a == c && b == d))) w := run_eql_pair Try.underlying50 Try.underlying3 (by kernel_rfl) (by kernel_rfl) a b c d w

theorem eqga_50 (op : BinOp) (x y : Operand) (a b : Array Value) (w : World) : (eqGuard op 50 x y (.agg a) (.agg b)).run Try.prog w = .ok () w := run_eqGuard_agg (by kernel_rfl) op x y a b w

def F_item_of (e : EEntry) : Option (List Int) := some [e.batch.client, e.batch.req]

set_option maxHeartbeats 1000000 in
theorem c_item_of {I D : Dm} {e : EEntry} {v1_e : Value} {w : World} {rr : (List Int)} (hF : F_item_of e = some rr) (H : St I D w [SlC NEOp v1_e e.batch.ops]) :
  Calls Try.prog 25 #[.agg #[.int .i64 e.batch.client, .int .i64 e.batch.req, v1_e, .int .u64 e.ts]] w (Ret fun vv w' => vv = .agg #[.int .i64 (rr.getD 0 0), .int .i64 (rr.getD 1 0)] ∧ ∃ I', Hf I D w I' w' []) := by
 replace H := H.hf
 unfold F_item_of at hF
 refine f_enter 10 Try.func25 rfl rfl (Nat.le_of_ble_eq_true rfl) fun a Z => ?_
 replace Z := Z.sub (ts := [0]) rfl
 refine wp_seq (f_region Z ?_); clear Z; intro Z
 refine h_boxv Z H (cl := [.int .i64 e.batch.client, .int .i64 e.batch.req, v1_e, .int .u64 e.ts]) rfl rfl rfl (by decide) rfl rfl rfl ?_; clear Z a H; intro a w1 b1 H Z
 refine h_alloc Z H (cl := [.int .i64 0, .int .i64 0]) (z := .agg #[.int .i64 0, .int .i64 0]) rfl rfl rfl (by decide) rfl (by kernel_rfl) rfl ?_; clear Z a H; intro a w2 b2 H Z
 refine s_end Z [1, 2] rfl ?_; clear Z; intro Z
 refine p_then (wp_seq (f_region Z ?_)); clear Z; intro Z
 refine s_runk tI1 Z 2 rfl rfl ?_; clear Z a; intro a Z
 refine s_ob Z (v := .int .i64 e.batch.client) rfl rfl (by decide) rfl (Ob_load tI1 rfl rfl rfl ((H.bx 1 rfl).cell 0 rfl)) ?_; clear Z a; intro a Z
 refine s_runk tI1 Z 2 rfl rfl ?_; clear Z a; intro a Z
 refine s_ob Z (v := .int .i64 e.batch.req) rfl rfl (by decide) rfl (Ob_load tI1 rfl rfl rfl ((H.bx 1 rfl).cell 1 rfl)) ?_; clear Z a; intro a Z
 refine s_ob Z (v := .agg #[.int .i64 e.batch.client, .int .i64 e.batch.req]) rfl rfl (by decide) rfl (Ob_build (vs := [(0, .int .i64 e.batch.client), (1, .int .i64 e.batch.req)]) rfl rfl (by go_simp <;> rfl)) ?_; clear Z a; intro a Z
 refine h_store tI1 Z H 0 rfl rfl rfl rfl rfl rfl rfl rfl rfl (one_cons rfl (one_cons rfl one_nil)) (Nat.le_of_ble_eq_true rfl) rfl ?_; clear H; intro w3 H
 dsimp only [List.eraseIdx] at H
 refine s_end Z [2] rfl ?_; clear Z; intro Z
 refine p_then (wp_ret ?_)
 obtain rfl := some_in hF
 exact f_ret Z (run_resultsC rfl Z rfl (run_loadVar_agg tI1 rfl (H.bx 0 rfl).at)) ⟨rfl, I, (H.sub [] rfl).eq rfl⟩

def F_item_follows (ahead : Int) (ts : Int) : Option Bool := some ((ts == 0) || ((ahead != 0) && (decide (ahead < ts))))

set_option maxHeartbeats 1000000 in
theorem c_item_follows {I D : Dm} {ahead : Int} {ts : Int} {w : World} {rr : Bool} (hF : F_item_follows ahead ts = some rr) (H : St I D w []) :
  Calls Try.prog 26 #[.int .u64 ahead, .int .u64 ts] w (Ret fun vv w' => vv = .bool rr ∧ ∃ I', Hf I D w I' w' []) := by
 replace H := H.hf
 unfold F_item_follows at hF
 refine f_enter 16 Try.func26 rfl rfl (Nat.le_of_ble_eq_true rfl) fun a Z => ?_
 replace Z := Z.sub (ts := [0, 1]) rfl
 refine wp_seq (f_region Z ?_); clear Z; intro Z
 refine s_runk tI1 Z 1 rfl rfl ?_; clear Z a; intro a Z
 refine s_end Z [0, 1, 4] rfl ?_; clear Z; intro Z
 refine p_then (wp_seq (f_region Z ?_)); clear Z; intro Z
 refine s_runk tI1 Z 3 rfl rfl ?_; clear Z a; intro a Z
 refine g_ob Z (p := (!(ts == 0))) (v := .int .u64 ahead) (S' := [(0, .int .u64 ahead)]) rfl rfl rfl (wantB_f _) rfl (by decide) (fun hp hS => hS.sub (ts := [0]) rfl) (fun hp => Ob_c tI1 rfl) ?_; clear Z a; intro a Z
 refine g_ob Z (p := (!(ts == 0))) (v := .bool (ahead != 0)) (S' := [(8, .int .u64 ahead)]) rfl rfl rfl (wantB_f _) rfl (by decide) (fun hp hS => (hS.conv (t := 8) rfl (cond_t hp)).sub (ts := [8]) rfl) (fun hp => Ob_c tI1 rfl) ?_; clear Z a; intro a Z
 refine g_ob Z (p := (!(ts == 0))) (v := .bool (ahead != 0)) (S' := [(9, .bool (ahead != 0))]) rfl rfl rfl (wantB_f _) rfl (by decide) (fun hp hS => (hS.conv (t := 9) rfl (cond_t hp)).sub (ts := [9]) rfl) (fun hp => Ob_c tI1 rfl) ?_; clear Z a; intro a Z
 refine g_ob Z (p := ((!(ts == 0)) && (ahead != 0))) (v := .int .u64 ahead) (S' := [(0, .int .u64 ahead)]) rfl rfl rfl (wantB_ct _ _) rfl (by decide) (fun hp hS => hS.sub (ts := [0]) rfl) (fun hp => Ob_c tI1 rfl) ?_; clear Z a; intro a Z
 refine g_ob Z (p := ((!(ts == 0)) && (ahead != 0))) (v := .int .u64 ts) (S' := [(1, .int .u64 ts)]) rfl rfl rfl (wantB_ct _ _) rfl (by decide) (fun hp hS => hS.sub (ts := [1]) rfl) (fun hp => Ob_c tI1 rfl) ?_; clear Z a; intro a Z
 refine g_ob Z (p := ((!(ts == 0)) && (ahead != 0))) (v := .bool (decide (ahead < ts))) (S' := [(11, .int .u64 ahead), (12, .int .u64 ts)]) rfl rfl rfl (wantB_ct _ _) rfl (by decide) (fun hp hS => ((hS.conv (t := 11) rfl (cond_t hp)).conv (t := 12) rfl (cond_t hp)).sub (ts := [11, 12]) rfl) (fun hp => Ob_c tI1 rfl) ?_; clear Z a; intro a Z
 refine g_ob Z (p := (!(ts == 0))) (v := .bool ((ahead != 0) && (decide (ahead < ts)))) (S' := [(10, .bool (ahead != 0)), (13, cond ((!(ts == 0)) && (ahead != 0)) (.bool (decide (ahead < ts))) undef)]) rfl rfl rfl (wantB_f _) rfl (by decide) (fun hp hS => (hS.conv (t := 10) rfl (cond_t hp)).sub (ts := [10, 13]) rfl) (fun hp => Ob_pick rfl rfl rfl rfl (pick_andp _ _ hp)) ?_; clear Z a; intro a Z
 refine s_ob Z (v := .bool ((ts == 0) || ((ahead != 0) && (decide (ahead < ts))))) rfl rfl (by decide) rfl (Ob_pick rfl rfl rfl rfl (pick_or _ _)) ?_; clear Z a; intro a Z
 refine s_runk tI1 Z 1 rfl rfl ?_; clear Z a; intro a Z
 refine s_end Z [4] rfl ?_; clear Z; intro Z
 refine p_then (wp_ret ?_)
 obtain rfl := some_in hF
 exact f_ret Z (run_results1 rfl Z rfl) ⟨rfl, I, (H.sub [] rfl).eq rfl⟩

def F_item_Right_l1 (l : List EEntry) (rc : (Int × (List (List Int × Bool))) → Option Int) (sg : Int × (List (List Int × Bool))) : Option Int := match sg with | (x, seen) => if (decide (x < (l.length : Int))) = true then (chk ((0 : Int) ≤ x ∧ x < (l.length : Int)) ((F_item_Check ({ (l.getD (x).toNat default) with batch := ({ client := ((l.getD (x).toNat default).batch).client, req := ((l.getD (x).toNat default).batch).req, ops := ((l.getD (x).toNat default).batch).ops } : EBatch) } : EEntry)).bind fun c => (if (c != 0) = true then (some c) else ((F_item_of ({ (l.getD (x).toNat default) with batch := ({ client := ((l.getD (x).toNat default).batch).client, req := ((l.getD (x).toNat default).batch).req, ops := ((l.getD (x).toNat default).batch).ops } : EBatch) } : EEntry)).bind fun o => (chk (o.length = 2 ∧ inI (o.getD 0 0) ∧ inI (o.getD 1 0)) (chk (((!((mget seen o).getD false)) && (decide (x > 0))) = true → inI (x - 1)) (chk (((!((mget seen o).getD false)) && (decide (x > 0))) = true → (0 : Int) ≤ x - 1 ∧ x - 1 < (l.length : Int)) ((gif ((!((mget seen o).getD false)) && (decide (x > 0))) (F_item_follows ((l.getD (x - 1).toNat default).ts) ((l.getD (x).toNat default).ts)) default).bind fun f => (if (((mget seen o).getD false) || ((decide (x > 0)) && !f)) = true then (some 18) else ((F_item_of ({ (l.getD (x).toNat default) with batch := ({ client := ((l.getD (x).toNat default).batch).client, req := ((l.getD (x).toNat default).batch).req, ops := ((l.getD (x).toNat default).batch).ops } : EBatch) } : EEntry)).bind fun o_2 => (chk (o_2.length = 2 ∧ inI (o_2.getD 0 0) ∧ inI (o_2.getD 1 0)) (chk (inI (x + 1)) (rc (x + 1, mset seen o_2 true)))))))))))))) else (some 0)

def F_item_Right (l : List EEntry) : Option Int := iter (F_item_Right_l1 l) FU (0, ([] : List (List Int × Bool)))

set_option maxHeartbeats 1000000 in
theorem c_item_Right {I D : Dm} {l : List EEntry} {v1_l : Value} {w : World} {rr : Int} (hF : F_item_Right l = some rr) (H : St I D w [SlC NEEntry v1_l l]) :
  Calls Try.prog 9 #[v1_l] w (Ret fun vv w' => vv = .int .i64 rr ∧ ∃ I', Hf I D w I' w' []) := by
 replace H := H.hf
 unfold F_item_Right at hF
 refine f_enter 44 Try.func9 rfl rfl (Nat.le_of_ble_eq_true rfl) fun a Z => ?_
 replace Z := Z.sub (ts := [0]) rfl
 refine wp_seq (f_region Z ?_); clear Z; intro Z
 refine s_runk tI1 Z 1 rfl rfl ?_; clear Z a; intro a Z
 refine s_end Z [0, 2] rfl ?_; clear Z; intro Z
 refine p_then (wp_seq (f_region Z ?_)); clear Z; intro Z
 refine h_mkmap Z H M_48 rfl rfl rfl (by decide) rfl ?_; clear Z a H; intro a w1 b1 H Z
 refine s_runk tI1 Z 1 rfl rfl ?_; clear Z a; intro a Z
 refine s_end Z [0, 2, 3] rfl ?_; clear Z; intro Z
 refine p_then (wp_seq ?_)
 refine wp_seq (f_region Z ?_); clear Z; intro Z
 refine s_runk tI1 Z 1 rfl rfl ?_; clear Z a; intro a Z
 refine s_ob Z (v := .int .i64 (l.length : Int)) rfl rfl (by decide) rfl (Ob_slen tI1 rfl rfl rfl (H.slshape 1 rfl)) ?_; clear Z a; intro a Z
 refine s_runk tI1 Z 1 rfl rfl ?_; clear Z a; intro a Z
 refine s_end Z [0, 2, 3, 8, 9, 10] rfl ?_; clear Z; intro Z
 refine p_then (wp_block ?_)
 refine f_iter hF (fun sg a' w' => match sg with | (x, seen) => Sl 44 [(0, v1_l), (2, .int .i64 0), (3, .map (some b1)), (8, v1_l), (9, .int .i64 (l.length : Int)), (10, .int .i64 x)] a' ∧ ∃ I2, Hf I D w I2 w' [MpC M_48 b1 seen, SlC NEEntry v1_l l]) ⟨Z.sub (ts := [0, 2, 3, 8, 9, 10]) rfl, ⟨I, (H.sub [(0, false), (0, true)] rfl).eq rfl⟩⟩ ?_
 clear Z H hF a
 rintro rc ⟨x, seen⟩ a w2 ⟨Z, I1, H⟩ hF
 unfold F_item_Right_l1 at hF
 try dsimp only at hF
 refine wp_seq (f_region Z ?_); clear Z; intro Z
 refine s_runk tI1 Z 1 rfl rfl ?_; clear Z a; intro a Z
 refine s_end Z [0, 2, 3, 8, 9, 10, 11] rfl ?_; clear Z; intro Z
 refine p_then (wp_seq ?_)
 refine f_cond Z rfl (fun hc1 => ?_) (fun hc1 => ?_)
 ·replace hF := ite_t hc1 hF
  refine wp_skip ?_
  refine p_then (wp_seq ?_)
  refine wp_block ?_
  refine wp_seq ?_
  obtain ⟨hg1, hF⟩ := chk_in hF
  refine f_region Z ?_; clear Z; intro Z
  refine s_runk tI1 Z 1 rfl rfl ?_; clear Z a; intro a Z
  refine s_ob Z (v := .pointer (some ⟨blkOf v1_l, oofOf v1_l + (x).toNat * 4, none⟩)) rfl rfl (by decide) rfl (Ob_sidx tI1 rfl rfl rfl rfl (slPl (H.sl 1 rfl) hg1) hg1) ?_; clear Z a; intro a Z
  obtain ⟨_, ⟨u1, rfl, L1⟩, H⟩ := H.elG 1 rfl (x) (NEEntry.dft _ _)
  replace H := H.addsl L1
  replace H : Hf I D w I1 w2 [SlC NEOp u1 (((l.getD (x).toNat default).batch).ops), AtG ((0 : Int) ≤ x ∧ x < (l.length : Int)) (blkOf v1_l) (oofOf v1_l + (x).toNat * 4) [.int .i64 (((l.getD (x).toNat default).batch).client), .int .i64 (((l.getD (x).toNat default).batch).req), u1, .int .u64 ((l.getD (x).toNat default).ts)], MpC M_48 b1 seen, SlC NEEntry v1_l l] := H
  refine s_ob Z (v := .agg #[.int .i64 (((l.getD (x).toNat default).batch).client), .int .i64 (((l.getD (x).toNat default).batch).req), u1, .int .u64 ((l.getD (x).toNat default).ts)]) rfl rfl (by decide) rfl (Ob_loads tI1 rfl rfl rfl ((H.atg 1 rfl hg1).part 0 rfl)) ?_; clear Z a; intro a Z
  refine h_alloc Z H (cl := [.int .i64 0, .int .i64 0, .slice none 0 0, .int .u64 0]) (z := .agg #[.int .i64 0, .int .i64 0, .slice none 0 0, .int .u64 0]) rfl rfl rfl (by decide) rfl (by kernel_rfl) rfl ?_; clear Z a H; intro a w3 b2 H Z
  refine s_runk tI1 Z 1 rfl rfl ?_; clear Z a; intro a Z
  refine h_store tI1 Z H 0 rfl rfl rfl rfl rfl rfl rfl rfl rfl (one_cons rfl (one_cons rfl (one_cons (slS.one (H.slshape 1 rfl)) (one_cons rfl one_nil)))) (Nat.le_of_ble_eq_true rfl) rfl ?_; clear H; intro w4 H
  dsimp only [List.eraseIdx] at H
  refine s_end Z [0, 2, 3, 8, 9, 10, 11, 12, 13, 14, 5, 4] rfl ?_; clear Z; intro Z
  refine p_then (wp_seq ?_)
  refine wp_seq ?_
  obtain ⟨c, hx1, hF⟩ := bnd_in hF
  refine f_region Z ?_; clear Z; intro Z
  refine s_ob Z (v := .agg #[.int .i64 (((l.getD (x).toNat default).batch).client), .int .i64 (((l.getD (x).toNat default).batch).req), u1, .int .u64 ((l.getD (x).toNat default).ts)]) rfl rfl (by decide) rfl (Ob_loads tI1 rfl rfl rfl ((H.bx 0 rfl).part 0 rfl)) ?_; clear Z a; intro a Z
  refine h_call Z H (js := [(1, true)]) rfl (caps := #[]) fn_17_YItem1 rfl rfl rfl rfl rfl (by decide) rfl rfl (fun D1 hS => have hq := c_item_Check hx1 hS; hq) ?_; clear Z a; intro vv a w5 D2 hr hF2 Z
  obtain ⟨rfl, I2, K⟩ := hr
  have H : Hf I D w I2 w5 [BxC b2 35 [.int .i64 (((l.getD (x).toNat default).batch).client), .int .i64 (((l.getD (x).toNat default).batch).req), u1, .int .u64 ((l.getD (x).toNat default).ts)], SlC NEOp u1 (((l.getD (x).toNat default).batch).ops), AtG ((0 : Int) ≤ x ∧ x < (l.length : Int)) (blkOf v1_l) (oofOf v1_l + (x).toNat * 4) [.int .i64 (((l.getD (x).toNat default).batch).client), .int .i64 (((l.getD (x).toNat default).batch).req), u1, .int .u64 ((l.getD (x).toNat default).ts)], MpC M_48 b1 seen, SlC NEEntry v1_l l] := hF2 K
  clear hF2 K
  refine s_runk tI1 Z 1 rfl rfl ?_; clear Z a; intro a Z
  refine s_end Z [0, 2, 3, 8, 9, 10, 11, 12, 13, 14, 5, 4, 15, 16, 6] rfl ?_; clear Z; intro Z
  refine p_then (wp_seq (f_region Z ?_)); clear Z; intro Z
  refine s_runk tI1 Z 2 rfl rfl ?_; clear Z a; intro a Z
  refine s_end Z [0, 2, 3, 8, 9, 10, 11, 12, 13, 14, 5, 4, 15, 16, 6, 17, 18] rfl ?_; clear Z; intro Z
  refine p_then ?_
  refine f_cond Z rfl (fun hc2 => ?_) (fun hc2 => ?_)
  ·replace hF := ite_t hc2 hF
   refine wp_seq (f_region Z ?_); clear Z; intro Z
   refine s_runk tI1 Z 2 rfl rfl ?_; clear Z a; intro a Z
   refine s_end Z [0, 2, 3, 8, 9, 10, 11, 12, 13, 14, 5, 4, 15, 16, 6, 17, 18, 19] rfl ?_; clear Z; intro Z
   refine p_then (wp_ret ?_)
   refine p_then_r ?_
   refine p_blk_r ?_
   refine p_then_r ?_
   refine p_then_r ?_
   refine p_blk_r ?_
   refine p_then_r ?_
   obtain rfl := some_in hF
   exact f_ret Z (run_results1 rfl Z rfl) ⟨rfl, I2, (H.sub [] rfl).eq rfl⟩
  ·replace hF := ite_f hc2 hF
   refine wp_skip ?_
   refine p_then (wp_seq ?_)
   refine wp_seq ?_
   obtain ⟨o, hx2, hF⟩ := bnd_in hF
   obtain ⟨hg2, hF⟩ := chk_in hF
   obtain ⟨hg3, hF⟩ := chk_in hF
   obtain ⟨hg4, hF⟩ := chk_in hF
   obtain ⟨_, ⟨u2, rfl, L2⟩, H⟩ := H.elG 4 rfl (x - 1) (NEEntry.dft _ _)
   replace H := H.addsl L2
   replace H : Hf I D w I2 w5 [SlC NEOp u2 (((l.getD (x - 1).toNat default).batch).ops), AtG ((0 : Int) ≤ x - 1 ∧ x - 1 < (l.length : Int)) (blkOf v1_l) (oofOf v1_l + (x - 1).toNat * 4) [.int .i64 (((l.getD (x - 1).toNat default).batch).client), .int .i64 (((l.getD (x - 1).toNat default).batch).req), u2, .int .u64 ((l.getD (x - 1).toNat default).ts)], BxC b2 35 [.int .i64 (((l.getD (x).toNat default).batch).client), .int .i64 (((l.getD (x).toNat default).batch).req), u1, .int .u64 ((l.getD (x).toNat default).ts)], SlC NEOp u1 (((l.getD (x).toNat default).batch).ops), AtG ((0 : Int) ≤ x ∧ x < (l.length : Int)) (blkOf v1_l) (oofOf v1_l + (x).toNat * 4) [.int .i64 (((l.getD (x).toNat default).batch).client), .int .i64 (((l.getD (x).toNat default).batch).req), u1, .int .u64 ((l.getD (x).toNat default).ts)], MpC M_48 b1 seen, SlC NEEntry v1_l l] := H
   obtain ⟨f, hx3, hF⟩ := bnd_in hF
   refine f_quietd (by kernel_rfl) (by kernel_rfl) Z ?_; clear Z; intro Z
   refine q_runk tI1 Z 1 rfl rfl ?_; clear Z a; intro a Z
   refine q_ob Z (v := .agg #[.int .i64 (((l.getD (x).toNat default).batch).client), .int .i64 (((l.getD (x).toNat default).batch).req), u1, .int .u64 ((l.getD (x).toNat default).ts)]) rfl rfl (by decide) rfl (fun _ hw => Ob_loads tI1 rfl rfl rfl (((H.blw hw).bx 2 rfl).part 0 rfl)) ?_; clear Z a; intro a Z
   refine q_call Z (caps := #[]) fn_25_YItem1 rfl rfl rfl rfl rfl (by decide) rfl rfl (fun _ hw => (have hq := c_item_of hx2 (((H.blw hw)).pick0 (js := [(3, true)]) rfl rfl); plainC hq)) ?_; clear Z a; intro a Z
   refine q_ob Z (v := .bool ((mget seen o).getD false)) rfl rfl (by decide) rfl (fun _ hw => Ob_mlook1 o MF_48 (H.blw hw) 5 rfl rfl rfl rfl hg2) ?_; clear Z a; intro a Z
   refine q_runk tI1 Z 1 rfl rfl ?_; clear Z a; intro a Z
   refine gq_ob Z (p := (!((mget seen o).getD false))) (v := .int .i64 x) (S' := [(4, .int .i64 x)]) rfl rfl rfl (wantB_f _) rfl (by decide) (fun hp hS => hS.sub (ts := [4]) rfl) (fun hp _ hw => Ob_c tI1 rfl) ?_; clear Z a; intro a Z
   refine gq_ob Z (p := (!((mget seen o).getD false))) (v := .bool (decide (x > 0))) (S' := [(25, .int .i64 x)]) rfl rfl rfl (wantB_f _) rfl (by decide) (fun hp hS => (hS.conv (t := 25) rfl (cond_t hp)).sub (ts := [25]) rfl) (fun hp _ hw => Ob_c tI1 rfl) ?_; clear Z a; intro a Z
   refine gq_ob Z (p := (!((mget seen o).getD false))) (v := .bool (decide (x > 0))) (S' := [(26, .bool (decide (x > 0)))]) rfl rfl rfl (wantB_f _) rfl (by decide) (fun hp hS => (hS.conv (t := 26) rfl (cond_t hp)).sub (ts := [26]) rfl) (fun hp _ hw => Ob_c tI1 rfl) ?_; clear Z a; intro a Z
   refine gq_ob Z (p := ((!((mget seen o).getD false)) && (decide (x > 0)))) (v := v1_l) (S' := [(0, v1_l)]) rfl rfl rfl (wantB_ct _ _) rfl (by decide) (fun hp hS => hS.sub (ts := [0]) rfl) (fun hp _ hw => Ob_c tI1 rfl) ?_; clear Z a; intro a Z
   refine gq_ob Z (p := ((!((mget seen o).getD false)) && (decide (x > 0)))) (v := .int .i64 x) (S' := [(4, .int .i64 x)]) rfl rfl rfl (wantB_ct _ _) rfl (by decide) (fun hp hS => hS.sub (ts := [4]) rfl) (fun hp _ hw => Ob_c tI1 rfl) ?_; clear Z a; intro a Z
   refine gq_ob Z (p := ((!((mget seen o).getD false)) && (decide (x > 0)))) (v := .int .i64 (x - 1)) (S' := [(29, .int .i64 x)]) rfl rfl rfl (wantB_ct _ _) rfl (by decide) (fun hp hS => (hS.conv (t := 29) rfl (cond_t hp)).sub (ts := [29]) rfl) (fun hp _ hw => Ob_sub rfl rfl rfl (wrI (hg3 hp))) ?_; clear Z a; intro a Z
   refine gq_ob Z (p := ((!((mget seen o).getD false)) && (decide (x > 0)))) (v := .pointer (some ⟨blkOf v1_l, oofOf v1_l + (x - 1).toNat * 4, none⟩)) (S' := [(28, v1_l), (30, .int .i64 (x - 1))]) rfl rfl rfl (wantB_ct _ _) rfl (by decide) (fun hp hS => ((hS.conv (t := 28) rfl (cond_t hp)).conv (t := 30) rfl (cond_t hp)).sub (ts := [28, 30]) rfl) (fun hp _ hw => Ob_sidx tI1 rfl rfl rfl rfl (slPl ((H.blw hw).sl 6 rfl) (hg4 hp)) (hg4 hp)) ?_; clear Z a; intro a Z
   refine gq_ob Z (p := ((!((mget seen o).getD false)) && (decide (x > 0)))) (v := .pointer (some ⟨blkOf v1_l, oofOf v1_l + (x - 1).toNat * 4 + 3, none⟩)) (S' := [(31, .pointer (some ⟨blkOf v1_l, oofOf v1_l + (x - 1).toNat * 4, none⟩))]) rfl rfl rfl (wantB_ct _ _) rfl (by decide) (fun hp hS => (hS.conv (t := 31) rfl (cond_t hp)).sub (ts := [31]) rfl) (fun hp _ hw => Ob_c tI1 rfl) ?_; clear Z a; intro a Z
   refine gq_ob Z (p := ((!((mget seen o).getD false)) && (decide (x > 0)))) (v := .int .u64 ((l.getD (x - 1).toNat default).ts)) (S' := [(32, .pointer (some ⟨blkOf v1_l, oofOf v1_l + (x - 1).toNat * 4 + 3, none⟩))]) rfl rfl rfl (wantB_ct _ _) rfl (by decide) (fun hp hS => (hS.conv (t := 32) rfl (cond_t hp)).sub (ts := [32]) rfl) (fun hp _ hw => Ob_load tI1 rfl rfl rfl (((H.blw hw).atg 1 rfl (hg4 hp)) 3 _ rfl)) ?_; clear Z a; intro a Z
   refine gq_ob Z (p := ((!((mget seen o).getD false)) && (decide (x > 0)))) (v := .pointer (some ⟨b2, 3, none⟩)) (S' := [(5, .pointer (some ⟨b2, 0, none⟩))]) rfl rfl rfl (wantB_ct _ _) rfl (by decide) (fun hp hS => hS.sub (ts := [5]) rfl) (fun hp _ hw => Ob_c tI1 rfl) ?_; clear Z a; intro a Z
   refine gq_ob Z (p := ((!((mget seen o).getD false)) && (decide (x > 0)))) (v := .int .u64 ((l.getD (x).toNat default).ts)) (S' := [(34, .pointer (some ⟨b2, 3, none⟩))]) rfl rfl rfl (wantB_ct _ _) rfl (by decide) (fun hp hS => (hS.conv (t := 34) rfl (cond_t hp)).sub (ts := [34]) rfl) (fun hp _ hw => Ob_load tI1 rfl rfl rfl (((H.blw hw).bx 2 rfl).cell 3 rfl)) ?_; clear Z a; intro a Z
   refine gq_call Z (p := ((!((mget seen o).getD false)) && (decide (x > 0)))) (v := .bool f) (S' := [(33, .int .u64 ((l.getD (x - 1).toNat default).ts)), (35, .int .u64 ((l.getD (x).toNat default).ts))]) (caps := #[]) fn_26_YItem1 rfl rfl rfl (wantB_ct _ _) rfl (by decide) (fun hp hS => ((hS.conv (t := 33) rfl (cond_t hp)).conv (t := 35) rfl (cond_t hp)).sub (ts := [33, 35]) rfl) rfl rfl rfl rfl (fun hp _ hw => (have hq := c_item_follows (gif_in hx3 hp) (((H.blw hw)).pick0 (js := []) rfl rfl); plainC hq)) ?_; clear Z a; intro a Z
   refine gq_ob Z (p := ((!((mget seen o).getD false)) && (decide (x > 0)))) (v := .bool !f) (S' := [(36, .bool f)]) rfl rfl rfl (wantB_ct _ _) rfl (by decide) (fun hp hS => (hS.conv (t := 36) rfl (cond_t hp)).sub (ts := [36]) rfl) (fun hp _ hw => Ob_c tI1 rfl) ?_; clear Z a; intro a Z
   refine gq_ob Z (p := (!((mget seen o).getD false))) (v := .bool ((decide (x > 0)) && !f)) (S' := [(27, .bool (decide (x > 0))), (37, cond ((!((mget seen o).getD false)) && (decide (x > 0))) (.bool !f) undef)]) rfl rfl rfl (wantB_f _) rfl (by decide) (fun hp hS => (hS.conv (t := 27) rfl (cond_t hp)).sub (ts := [27, 37]) rfl) (fun hp _ hw => Ob_pick rfl rfl rfl rfl (pick_andp _ _ hp)) ?_; clear Z a; intro a Z
   refine q_ob Z (v := .bool (((mget seen o).getD false) || ((decide (x > 0)) && !f))) rfl rfl (by decide) rfl (fun _ hw => Ob_pick rfl rfl rfl rfl (pick_or _ _)) ?_; clear Z a; intro a Z
   refine q_end Z [0, 2, 3, 8, 9, 10, 11, 12, 13, 14, 5, 4, 15, 16, 6, 17, 18, 20, 21, 22, 23, 24, 39] rfl ?_; clear Z; intro w6 hb Z
   replace H : Hf I D w I2 w6 [SlC NEOp u2 (((l.getD (x - 1).toNat default).batch).ops), AtG ((0 : Int) ≤ x - 1 ∧ x - 1 < (l.length : Int)) (blkOf v1_l) (oofOf v1_l + (x - 1).toNat * 4) [.int .i64 (((l.getD (x - 1).toNat default).batch).client), .int .i64 (((l.getD (x - 1).toNat default).batch).req), u2, .int .u64 ((l.getD (x - 1).toNat default).ts)], BxC b2 35 [.int .i64 (((l.getD (x).toNat default).batch).client), .int .i64 (((l.getD (x).toNat default).batch).req), u1, .int .u64 ((l.getD (x).toNat default).ts)], SlC NEOp u1 (((l.getD (x).toNat default).batch).ops), AtG ((0 : Int) ≤ x ∧ x < (l.length : Int)) (blkOf v1_l) (oofOf v1_l + (x).toNat * 4) [.int .i64 (((l.getD (x).toNat default).batch).client), .int .i64 (((l.getD (x).toNat default).batch).req), u1, .int .u64 ((l.getD (x).toNat default).ts)], MpC M_48 b1 seen, SlC NEEntry v1_l l] := H.blw hb
   clear hb
   refine p_then ?_
   refine f_cond Z rfl (fun hc3 => ?_) (fun hc3 => ?_)
   ·replace hF := ite_t hc3 hF
    refine wp_seq (f_region Z ?_); clear Z; intro Z
    refine s_runk tI1 Z 1 rfl rfl ?_; clear Z a; intro a Z
    refine s_end Z [0, 2, 3, 8, 9, 10, 11, 12, 13, 14, 5, 4, 15, 16, 6, 17, 18, 20, 21, 22, 23, 24, 39] rfl ?_; clear Z; intro Z
    refine p_then (wp_ret ?_)
    refine p_then_r ?_
    refine p_blk_r ?_
    refine p_then_r ?_
    refine p_then_r ?_
    refine p_blk_r ?_
    refine p_then_r ?_
    obtain rfl := some_in hF
    exact f_ret Z (run_results1 rfl Z rfl) ⟨rfl, I2, (H.sub [] rfl).eq rfl⟩
   ·replace hF := ite_f hc3 hF
    refine wp_skip ?_
    refine p_then ?_
    obtain ⟨o_2, hx4, hF⟩ := bnd_in hF
    obtain ⟨hg5, hF⟩ := chk_in hF
    refine f_region Z ?_; clear Z; intro Z
    refine s_runk tI1 Z 1 rfl rfl ?_; clear Z a; intro a Z
    refine s_ob Z (v := .agg #[.int .i64 (((l.getD (x).toNat default).batch).client), .int .i64 (((l.getD (x).toNat default).batch).req), u1, .int .u64 ((l.getD (x).toNat default).ts)]) rfl rfl (by decide) rfl (Ob_loads tI1 rfl rfl rfl ((H.bx 2 rfl).part 0 rfl)) ?_; clear Z a; intro a Z
    refine h_call Z H (js := [(3, true)]) rfl (caps := #[]) fn_25_YItem1 rfl rfl rfl rfl rfl (by decide) rfl rfl (fun D1 hS => have hq := c_item_of hx4 hS; hq) ?_; clear Z a; intro vv a w7 D2 hr hF2 Z
    obtain ⟨rfl, I3, K⟩ := hr
    have H : Hf I D w I3 w7 [SlC NEOp u2 (((l.getD (x - 1).toNat default).batch).ops), AtG ((0 : Int) ≤ x - 1 ∧ x - 1 < (l.length : Int)) (blkOf v1_l) (oofOf v1_l + (x - 1).toNat * 4) [.int .i64 (((l.getD (x - 1).toNat default).batch).client), .int .i64 (((l.getD (x - 1).toNat default).batch).req), u2, .int .u64 ((l.getD (x - 1).toNat default).ts)], BxC b2 35 [.int .i64 (((l.getD (x).toNat default).batch).client), .int .i64 (((l.getD (x).toNat default).batch).req), u1, .int .u64 ((l.getD (x).toNat default).ts)], SlC NEOp u1 (((l.getD (x).toNat default).batch).ops), AtG ((0 : Int) ≤ x ∧ x < (l.length : Int)) (blkOf v1_l) (oofOf v1_l + (x).toNat * 4) [.int .i64 (((l.getD (x).toNat default).batch).client), .int .i64 (((l.getD (x).toNat default).batch).req), u1, .int .u64 ((l.getD (x).toNat default).ts)], MpC M_48 b1 seen, SlC NEEntry v1_l l] := hF2 K
    clear hF2 K
    refine h_mset Z H 5 o_2 true MF_48 rfl rfl rfl rfl rfl rfl rfl hg5 ?_; clear H; intro w8 H
    dsimp only [List.eraseIdx] at H
    refine s_end Z [0, 2, 3, 8, 9, 10, 11, 12, 13, 14, 5, 4, 15, 16, 6, 17, 18, 20, 21, 22, 23, 24, 39, 40, 41, 42] rfl ?_; clear Z; intro Z
    refine p_blk ?_
    refine p_then ?_
    obtain ⟨hg6, hF⟩ := chk_in hF
    refine f_region Z ?_; clear Z; intro Z
    refine s_ob Z (v := .int .i64 (x + 1)) rfl rfl (by decide) rfl (Ob_add rfl rfl rfl (wrI hg6)) ?_; clear Z a; intro a Z
    refine s_runk tI1 Z 1 rfl rfl ?_; clear Z a; intro a Z
    refine s_end Z [0, 2, 3, 8, 9, 10, 11, 12, 13, 14, 5, 4, 15, 16, 6, 17, 18, 20, 21, 22, 23, 24, 39, 40, 41, 42, 43] rfl ?_; clear Z; intro Z
    refine p_then ?_
    exact ⟨(x + 1, mset seen o_2 true), ⟨Z.sub (ts := [0, 2, 3, 8, 9, 10]) rfl, ⟨I3, (H.sub [(0, false), (5, true)] rfl).eq rfl⟩⟩, hF⟩
 ·replace hF := ite_f hc1 hF
  refine wp_exit ?_
  refine p_then_x ?_
  refine p_then_x ?_
  refine f_exit_here ?_
  refine p_then (wp_seq (f_region Z ?_)); clear Z; intro Z
  refine s_runk tI1 Z 1 rfl rfl ?_; clear Z a; intro a Z
  refine s_end Z [2] rfl ?_; clear Z; intro Z
  refine p_then (wp_ret ?_)
  obtain rfl := some_in hF
  exact f_ret Z (run_results1 rfl Z rfl) ⟨rfl, I1, (H.sub [] rfl).eq rfl⟩

def F_ref08_Twins (a0 : EEntry) (b : EEntry) : Option Bool := some ((a0.batch.client == b.batch.client) && (a0.batch.req == b.batch.req))

def F_ref08_Right_l2 (l : List EEntry) (i : Int) (rc : Int → Option Int) (rc_2 : Int → Option Int) (sg : Int) : Option Int := match sg with | k => if (decide (k < i)) = true then (chk ((0 : Int) ≤ k ∧ k < (l.length : Int)) (chk ((0 : Int) ≤ i ∧ i < (l.length : Int)) ((F_ref08_Twins ({ (l.getD (k).toNat default) with batch := ({ client := ((l.getD (k).toNat default).batch).client, req := ((l.getD (k).toNat default).batch).req, ops := ((l.getD (k).toNat default).batch).ops } : EBatch) } : EEntry) ({ (l.getD (i).toNat default) with batch := ({ client := ((l.getD (i).toNat default).batch).client, req := ((l.getD (i).toNat default).batch).req, ops := ((l.getD (i).toNat default).batch).ops } : EBatch) } : EEntry)).bind fun t => (if (t) = true then (some 18) else (chk (inI (k + 1)) (rc_2 (k + 1))))))) else (chk ((decide (i > 0)) = true → (0 : Int) ≤ i ∧ i < (l.length : Int)) (chk (((decide (i > 0)) && (((l.getD (i).toNat default).ts) != 0)) = true → inI (i - 1)) (chk (((decide (i > 0)) && (((l.getD (i).toNat default).ts) != 0)) = true → (0 : Int) ≤ i - 1 ∧ i - 1 < (l.length : Int)) (chk ((((decide (i > 0)) && (((l.getD (i).toNat default).ts) != 0)) && (!(((l.getD (i - 1).toNat default).ts) == 0))) = true → inI (i - 1)) (chk ((((decide (i > 0)) && (((l.getD (i).toNat default).ts) != 0)) && (!(((l.getD (i - 1).toNat default).ts) == 0))) = true → (0 : Int) ≤ i - 1 ∧ i - 1 < (l.length : Int)) (chk ((((decide (i > 0)) && (((l.getD (i).toNat default).ts) != 0)) && (!(((l.getD (i - 1).toNat default).ts) == 0))) = true → (0 : Int) ≤ i ∧ i < (l.length : Int)) (if (((decide (i > 0)) && (((l.getD (i).toNat default).ts) != 0)) && ((((l.getD (i - 1).toNat default).ts) == 0) || (decide ((l.getD (i - 1).toNat default).ts ≥ (l.getD (i).toNat default).ts)))) = true then (some 18) else (chk (inI (i + 1)) (rc (i + 1))))))))))

def F_ref08_Right_l1 (l : List EEntry) (rc : Int → Option Int) (sg : Int) : Option Int := match sg with | i => if (decide (i < (l.length : Int))) = true then (chk ((0 : Int) ≤ i ∧ i < (l.length : Int)) ((F_ref08_Check ({ (l.getD (i).toNat default) with batch := ({ client := ((l.getD (i).toNat default).batch).client, req := ((l.getD (i).toNat default).batch).req, ops := ((l.getD (i).toNat default).batch).ops } : EBatch) } : EEntry)).bind fun c => (if (c != 0) = true then (some c) else (iter (F_ref08_Right_l2 l i rc) FU 0)))) else (some 0)

def F_ref08_Stamped_l1 (l : List EEntry) (rc : Int → Option Int) (sg : Int) : Option Int := match sg with | i => if (decide (i < (l.length : Int))) = true then (chk ((0 : Int) ≤ i ∧ i < (l.length : Int)) (if (((l.getD (i).toNat default).ts) == 0) = true then (some i) else (chk (inI (i + 1)) (rc (i + 1))))) else (some (l.length : Int))

def F_ref08_Stamped (l : List EEntry) : Option Int := iter (F_ref08_Stamped_l1 l) FU 0

def F_item_Stamped_l1 (l : List EEntry) (rc : Int → Option Int) (sg : Int) : Option Int := match sg with | x => if (decide (x < (l.length : Int))) = true then (chk ((0 : Int) ≤ x ∧ x < (l.length : Int)) (if (((l.getD (x).toNat default).ts) == 0) = true then (some x) else (chk (inI (x + 1)) (rc (x + 1))))) else (some (l.length : Int))

def F_item_Stamped (l : List EEntry) : Option Int := iter (F_item_Stamped_l1 l) FU 0

set_option maxHeartbeats 1000000 in
theorem c_item_Stamped {I D : Dm} {l : List EEntry} {v1_l : Value} {w : World} {rr : Int} (hF : F_item_Stamped l = some rr) (H : St I D w [SlC NEEntry v1_l l]) :
  Calls Try.prog 11 #[v1_l] w (Ret fun vv w' => vv = .int .i64 rr ∧ ∃ I', Hf I D w I' w' []) := by
 replace H := H.hf
 unfold F_item_Stamped at hF
 refine f_enter 19 Try.func11 rfl rfl (Nat.le_of_ble_eq_true rfl) fun a Z => ?_
 replace Z := Z.sub (ts := [0]) rfl
 refine wp_seq (f_region Z ?_); clear Z; intro Z
 refine s_runk tI1 Z 1 rfl rfl ?_; clear Z a; intro a Z
 refine s_end Z [0, 2] rfl ?_; clear Z; intro Z
 refine p_then (wp_seq ?_)
 refine wp_seq (f_region Z ?_); clear Z; intro Z
 refine s_runk tI1 Z 1 rfl rfl ?_; clear Z a; intro a Z
 refine s_ob Z (v := .int .i64 (l.length : Int)) rfl rfl (by decide) rfl (Ob_slen tI1 rfl rfl rfl (H.slshape 0 rfl)) ?_; clear Z a; intro a Z
 refine s_runk tI1 Z 1 rfl rfl ?_; clear Z a; intro a Z
 refine s_end Z [0, 2, 5, 6, 7] rfl ?_; clear Z; intro Z
 refine p_then (wp_block ?_)
 refine f_iter hF (fun sg a' w' => match sg with | x => Sl 19 [(0, v1_l), (2, .int .i64 0), (5, v1_l), (6, .int .i64 (l.length : Int)), (7, .int .i64 x)] a' ∧ ∃ I2, Hf I D w I2 w' [SlC NEEntry v1_l l]) ⟨Z.sub (ts := [0, 2, 5, 6, 7]) rfl, ⟨I, (H.sub [(0, true)] rfl).eq rfl⟩⟩ ?_
 clear Z H hF a
 rintro rc x a w1 ⟨Z, I1, H⟩ hF
 unfold F_item_Stamped_l1 at hF
 try dsimp only at hF
 refine wp_seq (f_region Z ?_); clear Z; intro Z
 refine s_runk tI1 Z 1 rfl rfl ?_; clear Z a; intro a Z
 refine s_end Z [0, 2, 5, 6, 7, 8] rfl ?_; clear Z; intro Z
 refine p_then (wp_seq ?_)
 refine f_cond Z rfl (fun hc1 => ?_) (fun hc1 => ?_)
 ·replace hF := ite_t hc1 hF
  refine wp_skip ?_
  refine p_then (wp_seq ?_)
  refine wp_block ?_
  refine wp_seq ?_
  obtain ⟨hg1, hF⟩ := chk_in hF
  refine f_region Z ?_; clear Z; intro Z
  refine s_runk tI1 Z 1 rfl rfl ?_; clear Z a; intro a Z
  refine s_ob Z (v := .pointer (some ⟨blkOf v1_l, oofOf v1_l + (x).toNat * 4, none⟩)) rfl rfl (by decide) rfl (Ob_sidx tI1 rfl rfl rfl rfl (slPl (H.sl 0 rfl) hg1) hg1) ?_; clear Z a; intro a Z
  obtain ⟨_, ⟨u1, rfl, L1⟩, H⟩ := H.elG 0 rfl (x) (NEEntry.dft _ _)
  replace H := H.addsl L1
  replace H : Hf I D w I1 w1 [SlC NEOp u1 (((l.getD (x).toNat default).batch).ops), AtG ((0 : Int) ≤ x ∧ x < (l.length : Int)) (blkOf v1_l) (oofOf v1_l + (x).toNat * 4) [.int .i64 (((l.getD (x).toNat default).batch).client), .int .i64 (((l.getD (x).toNat default).batch).req), u1, .int .u64 ((l.getD (x).toNat default).ts)], SlC NEEntry v1_l l] := H
  refine s_ob Z (v := .agg #[.int .i64 (((l.getD (x).toNat default).batch).client), .int .i64 (((l.getD (x).toNat default).batch).req), u1, .int .u64 ((l.getD (x).toNat default).ts)]) rfl rfl (by decide) rfl (Ob_loads tI1 rfl rfl rfl ((H.atg 1 rfl hg1).part 0 rfl)) ?_; clear Z a; intro a Z
  refine h_alloc Z H (cl := [.int .i64 0, .int .i64 0, .slice none 0 0, .int .u64 0]) (z := .agg #[.int .i64 0, .int .i64 0, .slice none 0 0, .int .u64 0]) rfl rfl rfl (by decide) rfl (by kernel_rfl) rfl ?_; clear Z a H; intro a w2 b1 H Z
  refine s_runk tI1 Z 1 rfl rfl ?_; clear Z a; intro a Z
  refine h_store tI1 Z H 0 rfl rfl rfl rfl rfl rfl rfl rfl rfl (one_cons rfl (one_cons rfl (one_cons (slS.one (H.slshape 1 rfl)) (one_cons rfl one_nil)))) (Nat.le_of_ble_eq_true rfl) rfl ?_; clear H; intro w3 H
  dsimp only [List.eraseIdx] at H
  refine s_end Z [0, 2, 5, 6, 7, 8, 9, 10, 11, 4, 3] rfl ?_; clear Z; intro Z
  refine p_then (wp_seq (f_region Z ?_)); clear Z; intro Z
  refine s_runk tI1 Z 1 rfl rfl ?_; clear Z a; intro a Z
  refine s_ob Z (v := .int .u64 ((l.getD (x).toNat default).ts)) rfl rfl (by decide) rfl (Ob_load tI1 rfl rfl rfl ((H.bx 0 rfl).cell 3 rfl)) ?_; clear Z a; intro a Z
  refine s_runk tI1 Z 1 rfl rfl ?_; clear Z a; intro a Z
  refine s_end Z [0, 2, 5, 6, 7, 8, 9, 10, 11, 4, 3, 12, 13, 14] rfl ?_; clear Z; intro Z
  refine p_then ?_
  refine f_cond Z rfl (fun hc2 => ?_) (fun hc2 => ?_)
  ·replace hF := ite_t hc2 hF
   refine wp_seq (f_region Z ?_); clear Z; intro Z
   refine s_runk tI1 Z 2 rfl rfl ?_; clear Z a; intro a Z
   refine s_end Z [0, 2, 5, 6, 7, 8, 9, 10, 11, 4, 3, 12, 13, 14, 15] rfl ?_; clear Z; intro Z
   refine p_then (wp_ret ?_)
   refine p_blk_r ?_
   refine p_then_r ?_
   refine p_then_r ?_
   refine p_blk_r ?_
   refine p_then_r ?_
   obtain rfl := some_in hF
   exact f_ret Z (run_results1 rfl Z rfl) ⟨rfl, I1, (H.sub [] rfl).eq rfl⟩
  ·replace hF := ite_f hc2 hF
   refine wp_skip ?_
   refine p_blk ?_
   refine p_then ?_
   obtain ⟨hg2, hF⟩ := chk_in hF
   refine f_region Z ?_; clear Z; intro Z
   refine s_ob Z (v := .int .i64 (x + 1)) rfl rfl (by decide) rfl (Ob_add rfl rfl rfl (wrI hg2)) ?_; clear Z a; intro a Z
   refine s_runk tI1 Z 1 rfl rfl ?_; clear Z a; intro a Z
   refine s_end Z [0, 2, 5, 6, 7, 8, 9, 10, 11, 4, 3, 12, 13, 14, 16] rfl ?_; clear Z; intro Z
   refine p_then ?_
   exact ⟨(x + 1), ⟨Z.sub (ts := [0, 2, 5, 6, 7]) rfl, ⟨I1, (H.sub [(3, true)] rfl).eq rfl⟩⟩, hF⟩
 ·replace hF := ite_f hc1 hF
  refine wp_exit ?_
  refine p_then_x ?_
  refine p_then_x ?_
  refine f_exit_here ?_
  refine p_then (wp_seq (f_region Z ?_)); clear Z; intro Z
  refine s_runk tI1 Z 1 rfl rfl ?_; clear Z a; intro a Z
  refine s_ob Z (v := .int .i64 (l.length : Int)) rfl rfl (by decide) rfl (Ob_slen tI1 rfl rfl rfl (H.slshape 0 rfl)) ?_; clear Z a; intro a Z
  refine s_runk tI1 Z 1 rfl rfl ?_; clear Z a; intro a Z
  refine s_end Z [2] rfl ?_; clear Z; intro Z
  refine p_then (wp_ret ?_)
  obtain rfl := some_in hF
  exact f_ret Z (run_results1 rfl Z rfl) ⟨rfl, I1, (H.sub [] rfl).eq rfl⟩

def F_ref08_Last (l : List EEntry) : Option Int := (F_ref08_Stamped l).bind fun s0 => (if (s0 == 0) = true then (some 0) else (chk (inI (s0 - 1)) (chk ((0 : Int) ≤ s0 - 1 ∧ s0 - 1 < (l.length : Int)) (some ((l.getD (s0 - 1).toNat default).ts)))))

def F_item_Last (l : List EEntry) : Option Int := (F_item_Stamped l).bind fun s0 => (if (decide (s0 > 0)) = true then (chk (inI (s0 - 1)) (chk ((0 : Int) ≤ s0 - 1 ∧ s0 - 1 < (l.length : Int)) (some ((l.getD (s0 - 1).toNat default).ts)))) else (some 0))

set_option maxHeartbeats 1000000 in
theorem c_item_Last {I D : Dm} {l : List EEntry} {v1_l : Value} {w : World} {rr : Int} (hF : F_item_Last l = some rr) (H : St I D w [SlC NEEntry v1_l l]) :
  Calls Try.prog 13 #[v1_l] w (Ret fun vv w' => vv = .int .u64 rr ∧ ∃ I', Hf I D w I' w' []) := by
 replace H := H.hf
 unfold F_item_Last at hF
 refine f_enter 14 Try.func13 rfl rfl (Nat.le_of_ble_eq_true rfl) fun a Z => ?_
 replace Z := Z.sub (ts := [0]) rfl
 refine wp_seq (f_region Z ?_); clear Z; intro Z
 refine s_runk tI1 Z 1 rfl rfl ?_; clear Z a; intro a Z
 refine s_end Z [0, 2] rfl ?_; clear Z; intro Z
 refine p_then (wp_seq ?_)
 refine wp_seq ?_
 obtain ⟨s0, hx1, hF⟩ := bnd_in hF
 refine f_region Z ?_; clear Z; intro Z
 refine s_runk tI1 Z 1 rfl rfl ?_; clear Z a; intro a Z
 refine h_call Z H (js := [(0, true)]) rfl (caps := #[]) fn_11_YItem1 rfl rfl rfl rfl rfl (by decide) rfl rfl (fun D1 hS => have hq := c_item_Stamped hx1 hS; hq) ?_; clear Z a; intro vv a w1 D2 hr hF2 Z
 obtain ⟨rfl, I1, K⟩ := hr
 have H : Hf I D w I1 w1 [SlC NEEntry v1_l l] := hF2 K
 clear hF2 K
 refine s_runk tI1 Z 1 rfl rfl ?_; clear Z a; intro a Z
 refine s_end Z [0, 2, 3] rfl ?_; clear Z; intro Z
 refine p_then (wp_seq (f_region Z ?_)); clear Z; intro Z
 refine s_runk tI1 Z 2 rfl rfl ?_; clear Z a; intro a Z
 refine s_end Z [0, 2, 3, 7] rfl ?_; clear Z; intro Z
 refine p_then ?_
 refine f_cond Z rfl (fun hc1 => ?_) (fun hc1 => ?_)
 ·replace hF := ite_t hc1 hF
  refine wp_seq ?_
  obtain ⟨hg1, hF⟩ := chk_in hF
  obtain ⟨hg2, hF⟩ := chk_in hF
  refine f_region Z ?_; clear Z; intro Z
  refine s_runk tI1 Z 2 rfl rfl ?_; clear Z a; intro a Z
  refine s_ob Z (v := .int .i64 (s0 - 1)) rfl rfl (by decide) rfl (Ob_sub rfl rfl rfl (wrI hg1)) ?_; clear Z a; intro a Z
  refine s_ob Z (v := .pointer (some ⟨blkOf v1_l, oofOf v1_l + (s0 - 1).toNat * 4, none⟩)) rfl rfl (by decide) rfl (Ob_sidx tI1 rfl rfl rfl rfl (slPl (H.sl 0 rfl) hg2) hg2) ?_; clear Z a; intro a Z
  refine s_runk tI1 Z 1 rfl rfl ?_; clear Z a; intro a Z
  obtain ⟨_, ⟨u1, rfl, L1⟩, H⟩ := H.elG 0 rfl (s0 - 1) (NEEntry.dft _ _)
  replace H := H.addsl L1
  replace H : Hf I D w I1 w1 [SlC NEOp u1 (((l.getD (s0 - 1).toNat default).batch).ops), AtG ((0 : Int) ≤ s0 - 1 ∧ s0 - 1 < (l.length : Int)) (blkOf v1_l) (oofOf v1_l + (s0 - 1).toNat * 4) [.int .i64 (((l.getD (s0 - 1).toNat default).batch).client), .int .i64 (((l.getD (s0 - 1).toNat default).batch).req), u1, .int .u64 ((l.getD (s0 - 1).toNat default).ts)], SlC NEEntry v1_l l] := H
  refine s_ob Z (v := .int .u64 ((l.getD (s0 - 1).toNat default).ts)) rfl rfl (by decide) rfl (Ob_load tI1 rfl rfl rfl ((H.atg 1 rfl hg2) 3 _ rfl)) ?_; clear Z a; intro a Z
  refine s_runk tI1 Z 1 rfl rfl ?_; clear Z a; intro a Z
  refine s_end Z [2] rfl ?_; clear Z; intro Z
  refine p_then (wp_ret ?_)
  refine p_then_r ?_
  obtain rfl := some_in hF
  exact f_ret Z (run_results1 rfl Z rfl) ⟨rfl, I1, (H.sub [] rfl).eq rfl⟩
 ·replace hF := ite_f hc1 hF
  refine wp_skip ?_
  refine p_then (wp_seq (f_region Z ?_)); clear Z; intro Z
  refine s_runk tI1 Z 1 rfl rfl ?_; clear Z a; intro a Z
  refine s_end Z [2] rfl ?_; clear Z; intro Z
  refine p_then (wp_ret ?_)
  obtain rfl := some_in hF
  exact f_ret Z (run_results1 rfl Z rfl) ⟨rfl, I1, (H.sub [] rfl).eq rfl⟩

def F_item_Twins (a0 : EEntry) (b : EEntry) : Option Bool := (F_item_of a0).bind fun o => ((F_item_of b).bind fun o_2 => (some ((o.getD 0 0) == (o_2.getD 0 0) && (o.getD 1 0) == (o_2.getD 1 0))))

set_option maxHeartbeats 1000000 in
theorem c_item_Twins {I D : Dm} {a0 : EEntry} {v1_a0 : Value} {b : EEntry} {v2_b : Value} {w : World} {rr : Bool} (hF : F_item_Twins a0 b = some rr) (H : St I D w [SlC NEOp v1_a0 a0.batch.ops, SlC NEOp v2_b b.batch.ops]) :
  Calls Try.prog 21 #[.agg #[.int .i64 a0.batch.client, .int .i64 a0.batch.req, v1_a0, .int .u64 a0.ts], .agg #[.int .i64 b.batch.client, .int .i64 b.batch.req, v2_b, .int .u64 b.ts]] w (Ret fun vv w' => vv = .bool rr ∧ ∃ I', Hf I D w I' w' []) := by
 replace H := H.hf
 unfold F_item_Twins at hF
 refine f_enter 10 Try.func21 rfl rfl (Nat.le_of_ble_eq_true rfl) fun a Z => ?_
 replace Z := Z.sub (ts := [0, 1]) rfl
 refine wp_seq (f_region Z ?_); clear Z; intro Z
 refine h_boxv Z H (cl := [.int .i64 a0.batch.client, .int .i64 a0.batch.req, v1_a0, .int .u64 a0.ts]) rfl rfl rfl (by decide) rfl rfl rfl ?_; clear Z a H; intro a w1 b1 H Z
 refine h_boxv Z H (cl := [.int .i64 b.batch.client, .int .i64 b.batch.req, v2_b, .int .u64 b.ts]) rfl rfl rfl (by decide) rfl rfl rfl ?_; clear Z a H; intro a w2 b2 H Z
 refine s_runk tI1 Z 1 rfl rfl ?_; clear Z a; intro a Z
 refine s_end Z [2, 3, 4] rfl ?_; clear Z; intro Z
 refine p_then (wp_seq ?_)
 obtain ⟨o, hx1, hF⟩ := bnd_in hF
 obtain ⟨o_2, hx2, hF⟩ := bnd_in hF
 refine f_quietd (by kernel_rfl) (by kernel_rfl) Z ?_; clear Z; intro Z
 refine q_ob Z (v := .agg #[.int .i64 a0.batch.client, .int .i64 a0.batch.req, v1_a0, .int .u64 a0.ts]) rfl rfl (by decide) rfl (fun _ hw => Ob_loads tI1 rfl rfl rfl (((H.blw hw).bx 1 rfl).part 0 rfl)) ?_; clear Z a; intro a Z
 refine q_call Z (caps := #[]) fn_25_YItem1 rfl rfl rfl rfl rfl (by decide) rfl rfl (fun _ hw => (have hq := c_item_of hx1 (((H.blw hw)).pick0 (js := [(2, true)]) rfl rfl); plainC hq)) ?_; clear Z a; intro a Z
 refine q_ob Z (v := .agg #[.int .i64 b.batch.client, .int .i64 b.batch.req, v2_b, .int .u64 b.ts]) rfl rfl (by decide) rfl (fun _ hw => Ob_loads tI1 rfl rfl rfl (((H.blw hw).bx 0 rfl).part 0 rfl)) ?_; clear Z a; intro a Z
 refine q_call Z (caps := #[]) fn_25_YItem1 rfl rfl rfl rfl rfl (by decide) rfl rfl (fun _ hw => (have hq := c_item_of hx2 (((H.blw hw)).pick0 (js := [(3, true)]) rfl rfl); plainC hq)) ?_; clear Z a; intro a Z
 refine q_ob Z (v := .bool ((o.getD 0 0) == (o_2.getD 0 0) && (o.getD 1 0) == (o_2.getD 1 0))) rfl rfl (by decide) rfl (fun _ hw => Ob_bin rfl rfl rfl (eqga_50 _ _ _ _ _ _) (eql_a50 (o.getD 0 0) (o.getD 1 0) (o_2.getD 0 0) (o_2.getD 1 0) _)) ?_; clear Z a; intro a Z
 refine q_runk tI1 Z 1 rfl rfl ?_; clear Z a; intro a Z
 refine q_end Z [4] rfl ?_; clear Z; intro w3 hb Z
 replace H : Hf I D w I w3 [BxC b2 35 (cEEntry b v2_b), BxC b1 35 (cEEntry a0 v1_a0), SlC NEOp v1_a0 a0.batch.ops, SlC NEOp v2_b b.batch.ops] := H.blw hb
 clear hb
 refine p_then (wp_ret ?_)
 obtain rfl := some_in hF
 exact f_ret Z (run_results1 rfl Z rfl) ⟨rfl, I, (H.sub [] rfl).eq rfl⟩

def F_law08_awake : Option Bool := (F_item_Put ({ batch := ({ (default : EBatch) with req := 1 } : EBatch), ts := 3 } : EEntry)).bind fun p => ((gif ((seqB p.1 ⟨#[3, 3, 0, 1, 0]⟩) && (p.2 == 0)) (F_item_Twins ({ batch := ({ (default : EBatch) with req := 1 } : EBatch), ts := 3 } : EEntry) ({ batch := ({ (default : EBatch) with req := 1 } : EBatch), ts := 0 } : EEntry)) default).bind fun t => (if (((seqB p.1 ⟨#[3, 3, 0, 1, 0]⟩) && (p.2 == 0)) && t) = true then ((F_item_Last [({ batch := ({ (default : EBatch) with req := 1 } : EBatch), ts := 3 } : EEntry)]).bind fun l => (if (l == 3) = true then ((F_item_Right [({ batch := ({ (default : EBatch) with req := 1 } : EBatch), ts := 3 } : EEntry), ({ batch := ({ (default : EBatch) with req := 1 } : EBatch), ts := 3 } : EEntry)]).bind fun r0 => (some (r0 == 18))) else (some false))) else (some false)))

set_option maxHeartbeats 1000000 in
theorem c_law08_awake {I D : Dm} {w : World} {rr : Bool} (hF : F_law08_awake = some rr) (H : St I D w []) :
  Calls Try.prog 8 #[] w (Ret fun vv w' => vv = .bool rr ∧ ∃ I', Hf I D w I' w' []) := by
 replace H := H.hf
 unfold F_law08_awake at hF
 refine f_enter 36 Try.func8 rfl rfl (Nat.le_of_ble_eq_true rfl) fun a Z => ?_
 replace Z := Z.sub (ts := []) rfl
 refine wp_seq (f_region Z ?_); clear Z; intro Z
 refine s_runk tI1 Z 1 rfl rfl ?_; clear Z a; intro a Z
 refine s_end Z [0] rfl ?_; clear Z; intro Z
 refine p_then (wp_seq (f_region Z ?_)); clear Z; intro Z
 refine s_ob Z (v := .agg #[.int .i64 0, .int .i64 1, .slice none 0 0]) rfl rfl (by decide) rfl (Ob_build (vs := [(1, .int .i64 1)]) rfl rfl (by go_simp <;> rfl)) ?_; clear Z a; intro a Z
 refine s_ob Z (v := .agg #[.int .i64 0, .int .i64 1, .slice none 0 0, .int .u64 3]) rfl rfl (by decide) rfl (Ob_build (vs := [(0, .agg #[.int .i64 0, .int .i64 1, .slice none 0 0]), (1, .int .u64 3)]) rfl rfl (by go_simp <;> rfl)) ?_; clear Z a; intro a Z
 refine h_alloc Z H (cl := [.int .i64 0, .int .i64 0, .slice none 0 0, .int .u64 0]) (z := .agg #[.int .i64 0, .int .i64 0, .slice none 0 0, .int .u64 0]) rfl rfl rfl (by decide) rfl (by kernel_rfl) rfl ?_; clear Z a H; intro a w1 b1 H Z
 refine h_store tI1 Z H 0 rfl rfl rfl rfl rfl rfl rfl rfl rfl (one_cons rfl (one_cons rfl (one_cons (slS.one slS.nil) (one_cons rfl one_nil)))) (Nat.le_of_ble_eq_true rfl) rfl ?_; clear H; intro w2 H
 dsimp only [List.eraseIdx] at H
 refine s_end Z [0, 1] rfl ?_; clear Z; intro Z
 refine p_then (wp_seq ?_)
 obtain ⟨p, hx1, hF⟩ := bnd_in hF
 refine f_region Z ?_; clear Z; intro Z
 refine s_ob Z (v := .agg #[.int .i64 0, .int .i64 1, .slice none 0 0, .int .u64 3]) rfl rfl (by decide) rfl (Ob_loads tI1 rfl rfl rfl ((H.bx 0 rfl).part 0 rfl)) ?_; clear Z a; intro a Z
 replace H : Hf I D w I w2 [SlC NEOp (.slice none 0 0) ([] : List EOp), BxC b1 35 [.int .i64 0, .int .i64 1, .slice none 0 0, .int .u64 3]] := H.slNil NEOp
 refine h_call Z H (js := [(0, true)]) rfl (caps := #[]) fn_15_YItem1 rfl rfl rfl rfl rfl (by decide) rfl rfl (fun D1 hS => have hq := c_item_Put hx1 hS; hq) ?_; clear Z a; intro vv a w3 D2 hr hF2 Z
 obtain ⟨rfl, I1, K⟩ := hr
 have H : Hf I D w I1 w3 [SlC NEOp (.slice none 0 0) ([] : List EOp), BxC b1 35 [.int .i64 0, .int .i64 1, .slice none 0 0, .int .u64 3]] := hF2 K
 clear hF2 K
 refine s_runk tI1 Z 5 rfl rfl ?_; clear Z a; intro a Z
 refine s_end Z [0, 1, 2, 3] rfl ?_; clear Z; intro Z
 refine p_then (wp_seq ?_)
 obtain ⟨t, hx2, hF⟩ := bnd_in hF
 refine f_region Z ?_; clear Z; intro Z
 refine s_runk tI1 Z 3 rfl rfl ?_; clear Z a; intro a Z
 refine g_ob Z (p := (seqB p.1 ⟨#[3, 3, 0, 1, 0]⟩)) (v := .int .i64 p.2) (S' := [(3, .int .i64 p.2)]) rfl rfl rfl (wantB_t _) rfl (by decide) (fun hp hS => hS.sub (ts := [3]) rfl) (fun hp => Ob_c tI1 rfl) ?_; clear Z a; intro a Z
 refine g_ob Z (p := (seqB p.1 ⟨#[3, 3, 0, 1, 0]⟩)) (v := .bool (p.2 == 0)) (S' := [(14, .int .i64 p.2)]) rfl rfl rfl (wantB_t _) rfl (by decide) (fun hp hS => (hS.conv (t := 14) rfl (cond_t hp)).sub (ts := [14]) rfl) (fun hp => Ob_c tI1 rfl) ?_; clear Z a; intro a Z
 refine s_ob Z (v := .bool ((seqB p.1 ⟨#[3, 3, 0, 1, 0]⟩) && (p.2 == 0))) rfl rfl (by decide) rfl (Ob_pick rfl rfl rfl rfl (pick_and _ _)) ?_; clear Z a; intro a Z
 refine s_runk tI1 Z 1 rfl rfl ?_; clear Z a; intro a Z
 refine g_ob Z (p := ((seqB p.1 ⟨#[3, 3, 0, 1, 0]⟩) && (p.2 == 0))) (v := .agg #[.int .i64 0, .int .i64 1, .slice none 0 0, .int .u64 3]) (S' := [(1, .pointer (some ⟨b1, 0, none⟩))]) rfl rfl rfl (wantB_t _) rfl (by decide) (fun hp hS => hS.sub (ts := [1]) rfl) (fun hp => Ob_loads tI1 rfl rfl rfl ((H.bx 1 rfl).part 0 rfl)) ?_; clear Z a; intro a Z
 refine g_ob Z (p := ((seqB p.1 ⟨#[3, 3, 0, 1, 0]⟩) && (p.2 == 0))) (v := .agg #[.int .i64 0, .int .i64 1, .slice none 0 0]) (S' := []) rfl rfl rfl (wantB_t _) rfl (by decide) (fun hp hS => hS.sub (ts := []) rfl) (fun hp => Ob_build (vs := [(1, .int .i64 1)]) rfl rfl (by go_simp <;> rfl)) ?_; clear Z a; intro a Z
 refine g_ob Z (p := ((seqB p.1 ⟨#[3, 3, 0, 1, 0]⟩) && (p.2 == 0))) (v := .agg #[.int .i64 0, .int .i64 1, .slice none 0 0, .int .u64 0]) (S' := [(19, .agg #[.int .i64 0, .int .i64 1, .slice none 0 0])]) rfl rfl rfl (wantB_t _) rfl (by decide) (fun hp hS => (hS.conv (t := 19) rfl (cond_t hp)).sub (ts := [19]) rfl) (fun hp => Ob_build (vs := [(0, .agg #[.int .i64 0, .int .i64 1, .slice none 0 0])]) rfl rfl (by go_simp <;> rfl)) ?_; clear Z a; intro a Z
 replace H : Hf I D w I1 w3 [SlC NEOp (.slice none 0 0) ([] : List EOp), SlC NEOp (.slice none 0 0) ([] : List EOp), BxC b1 35 [.int .i64 0, .int .i64 1, .slice none 0 0, .int .u64 3]] := H.slNil NEOp
 refine g_call Z (p := ((seqB p.1 ⟨#[3, 3, 0, 1, 0]⟩) && (p.2 == 0))) (v := .bool t) (S' := [(18, .agg #[.int .i64 0, .int .i64 1, .slice none 0 0, .int .u64 3]), (20, .agg #[.int .i64 0, .int .i64 1, .slice none 0 0, .int .u64 0])]) (caps := #[]) fn_21_YItem1 rfl rfl rfl (wantB_t _) rfl (by decide) (fun hp hS => ((hS.conv (t := 18) rfl (cond_t hp)).conv (t := 20) rfl (cond_t hp)).sub (ts := [18, 20]) rfl) rfl rfl rfl rfl (fun hp => have hq := c_item_Twins (gif_in hx2 hp) (H.pick0 (js := [(1, true), (0, true)]) rfl rfl); plainC hq) ?_; clear Z a; intro a w4 hb Z
 replace H : Hf I D w I1 w4 [SlC NEOp (.slice none 0 0) ([] : List EOp), SlC NEOp (.slice none 0 0) ([] : List EOp), BxC b1 35 [.int .i64 0, .int .i64 1, .slice none 0 0, .int .u64 3]] := H.blw hb
 clear hb
 refine s_ob Z (v := .bool (((seqB p.1 ⟨#[3, 3, 0, 1, 0]⟩) && (p.2 == 0)) && t)) rfl rfl (by decide) rfl (Ob_pick rfl rfl rfl rfl (pick_and _ _)) ?_; clear Z a; intro a Z
 refine s_runk tI1 Z 1 rfl rfl ?_; clear Z a; intro a Z
 refine g_ob Z (p := (((seqB p.1 ⟨#[3, 3, 0, 1, 0]⟩) && (p.2 == 0)) && t)) (v := .agg #[.int .i64 0, .int .i64 1, .slice none 0 0, .int .u64 3]) (S' := [(1, .pointer (some ⟨b1, 0, none⟩))]) rfl rfl rfl (wantB_t _) rfl (by decide) (fun hp hS => hS.sub (ts := [1]) rfl) (fun hp => Ob_loads tI1 rfl rfl rfl ((H.bx 2 rfl).part 0 rfl)) ?_; clear Z a; intro a Z
 refine bsplit (((seqB p.1 ⟨#[3, 3, 0, 1, 0]⟩) && (p.2 == 0)) && t) (fun hc1 => ?_) (fun hc1 => ?_)
 ·replace hF := ite_t hc1 hF; replace Z := Z.conv (t := 23) rfl (show Value.bool (((seqB p.1 ⟨#[3, 3, 0, 1, 0]⟩) && (p.2 == 0)) && t) = .bool true from congrArg Value.bool hc1); replace Z := Z.sub (ts := [0, 1, 2, 3, 11, 12, 13, 14, 15, 16, 17, 18, 19, 20, 21, 22, 23, 24]) rfl
  replace Z := Z.conv (t := 24) rfl (cond_t hc1); replace Z := Z.sub (ts := [0, 1, 2, 3, 11, 12, 13, 14, 15, 16, 17, 18, 19, 20, 21, 22, 23, 24]) rfl
  obtain ⟨l, hx3, hF⟩ := bnd_in hF
  refine g_if Z rfl rfl rfl (p := true) rfl rfl (by decide) (fun _ => ?_) (fun h => by cases h)
  refine h_bslice Z H (vs := [(0, .agg #[.int .i64 0, .int .i64 1, .slice none 0 0, .int .u64 3])]) (cl := [.int .i64 0, .int .i64 1, .slice none 0 0, .int .u64 3]) (e := 35) rfl rfl rfl (by decide) rfl rfl (fun w => run_bslice (z := .agg #[.int .i64 0, .int .i64 0, .slice none 0 0, .int .u64 0]) (m := 4) Try.underlying22 (by kernel_rfl) rfl rfl (by decide) (by simp [Instr.fill, Value.cells]) w) ?_; clear Z a H; intro a w5 b2 H Z
  refine g_if Z rfl rfl rfl (p := true) rfl rfl (by decide) (fun _ => ?_) (fun h => by cases h)
  obtain ⟨I2, _, H⟩ := H.frzlit 0 rfl (R := NEEntry) [[.int .i64 0, .int .i64 1, .slice none 0 0, .int .u64 3]] [({ batch := ({ (default : EBatch) with req := 1 } : EBatch), ts := 3 } : EEntry)] rfl rfl (fun i h1 h2 => by match i, h1, h2 with | 0, _, _ => exact ⟨_, rfl, (H.sl 2 rfl)⟩) (show 1 ≤ maxLen from by decide) (n := 1) rfl
  replace H : Hf I D w I2 w5 [SlC NEEntry (.slice (some ⟨b2, 0, none⟩) 1 1) [({ batch := ({ (default : EBatch) with req := 1 } : EBatch), ts := 3 } : EEntry)], SlC NEOp (.slice none 0 0) ([] : List EOp), SlC NEOp (.slice none 0 0) ([] : List EOp), BxC b1 35 [.int .i64 0, .int .i64 1, .slice none 0 0, .int .u64 3]] := H
  refine h_call Z H (js := [(0, true)]) rfl (caps := #[]) fn_13_YItem1 rfl rfl rfl rfl rfl (by decide) rfl rfl (fun D1 hS => have hq := c_item_Last hx3 hS; hq) ?_; clear Z a; intro vv a w6 D2 hr hF2 Z
  obtain ⟨rfl, I3, K⟩ := hr
  have H : Hf I D w I3 w6 [SlC NEEntry (.slice (some ⟨b2, 0, none⟩) 1 1) [({ batch := ({ (default : EBatch) with req := 1 } : EBatch), ts := 3 } : EEntry)], SlC NEOp (.slice none 0 0) ([] : List EOp), SlC NEOp (.slice none 0 0) ([] : List EOp), BxC b1 35 [.int .i64 0, .int .i64 1, .slice none 0 0, .int .u64 3]] := hF2 K
  clear hF2 K
  refine g_if Z rfl rfl rfl (p := true) rfl rfl (by decide) (fun _ => ?_) (fun h => by cases h)
  refine s_runk tI1 Z 1 rfl rfl ?_; clear Z a; intro a Z
  refine s_ob Z (v := .bool (l == 3)) rfl rfl (by decide) rfl (Ob_pick rfl rfl rfl rfl rfl) ?_; clear Z a; intro a Z
  refine s_runk tI1 Z 1 rfl rfl ?_; clear Z a; intro a Z
  refine g_ob Z (p := (l == 3)) (v := .agg #[.int .i64 0, .int .i64 1, .slice none 0 0, .int .u64 3]) (S' := [(1, .pointer (some ⟨b1, 0, none⟩))]) rfl rfl rfl (wantB_t _) rfl (by decide) (fun hp hS => hS.sub (ts := [1]) rfl) (fun hp => Ob_loads tI1 rfl rfl rfl ((H.bx 3 rfl).part 0 rfl)) ?_; clear Z a; intro a Z
  refine g_ob Z (p := (l == 3)) (v := .agg #[.int .i64 0, .int .i64 1, .slice none 0 0, .int .u64 3]) (S' := [(1, .pointer (some ⟨b1, 0, none⟩))]) rfl rfl rfl (wantB_t _) rfl (by decide) (fun hp hS => hS.sub (ts := [1]) rfl) (fun hp => Ob_loads tI1 rfl rfl rfl ((H.bx 3 rfl).part 0 rfl)) ?_; clear Z a; intro a Z
  refine bsplit (l == 3) (fun hc2 => ?_) (fun hc2 => ?_)
  ·replace hF := ite_t hc2 hF; replace Z := Z.conv (t := 29) rfl (show Value.bool (l == 3) = .bool true from congrArg Value.bool hc2); replace Z := Z.sub (ts := [0, 1, 2, 3, 11, 12, 13, 14, 15, 16, 17, 18, 19, 20, 21, 22, 23, 24, 25, 26, 27, 28, 29, 30, 31]) rfl
   replace Z := Z.conv (t := 30) rfl (cond_t hc2); replace Z := Z.sub (ts := [0, 1, 2, 3, 11, 12, 13, 14, 15, 16, 17, 18, 19, 20, 21, 22, 23, 24, 25, 26, 27, 28, 29, 30, 31]) rfl
   replace Z := Z.conv (t := 31) rfl (cond_t hc2); replace Z := Z.sub (ts := [0, 1, 2, 3, 11, 12, 13, 14, 15, 16, 17, 18, 19, 20, 21, 22, 23, 24, 25, 26, 27, 28, 29, 30, 31]) rfl
   obtain ⟨r0, hx4, hF⟩ := bnd_in hF
   refine g_if Z rfl rfl rfl (p := true) rfl rfl (by decide) (fun _ => ?_) (fun h => by cases h)
   refine h_bslice Z H (vs := [(0, .agg #[.int .i64 0, .int .i64 1, .slice none 0 0, .int .u64 3]), (1, .agg #[.int .i64 0, .int .i64 1, .slice none 0 0, .int .u64 3])]) (cl := [.int .i64 0, .int .i64 1, .slice none 0 0, .int .u64 3, .int .i64 0, .int .i64 1, .slice none 0 0, .int .u64 3]) (e := 35) rfl rfl rfl (by decide) rfl rfl (fun w => run_bslice (z := .agg #[.int .i64 0, .int .i64 0, .slice none 0 0, .int .u64 0]) (m := 4) Try.underlying22 (by kernel_rfl) rfl rfl (by decide) (by simp [Instr.fill, Value.cells]) w) ?_; clear Z a H; intro a w7 b3 H Z
   refine g_if Z rfl rfl rfl (p := true) rfl rfl (by decide) (fun _ => ?_) (fun h => by cases h)
   obtain ⟨I4, _, H⟩ := H.frzlit 0 rfl (R := NEEntry) [[.int .i64 0, .int .i64 1, .slice none 0 0, .int .u64 3], [.int .i64 0, .int .i64 1, .slice none 0 0, .int .u64 3]] [({ batch := ({ (default : EBatch) with req := 1 } : EBatch), ts := 3 } : EEntry), ({ batch := ({ (default : EBatch) with req := 1 } : EBatch), ts := 3 } : EEntry)] rfl rfl (fun i h1 h2 => by match i, h1, h2 with | 0, _, _ => exact ⟨_, rfl, (H.sl 3 rfl)⟩ | 1, _, _ => exact ⟨_, rfl, (H.sl 3 rfl)⟩) (show 2 ≤ maxLen from by decide) (n := 2) rfl
   replace H : Hf I D w I4 w7 [SlC NEEntry (.slice (some ⟨b3, 0, none⟩) 2 2) [({ batch := ({ (default : EBatch) with req := 1 } : EBatch), ts := 3 } : EEntry), ({ batch := ({ (default : EBatch) with req := 1 } : EBatch), ts := 3 } : EEntry)], SlC NEEntry (.slice (some ⟨b2, 0, none⟩) 1 1) [({ batch := ({ (default : EBatch) with req := 1 } : EBatch), ts := 3 } : EEntry)], SlC NEOp (.slice none 0 0) ([] : List EOp), SlC NEOp (.slice none 0 0) ([] : List EOp), BxC b1 35 [.int .i64 0, .int .i64 1, .slice none 0 0, .int .u64 3]] := H
   refine h_call Z H (js := [(0, true)]) rfl (caps := #[]) fn_9_YItem1 rfl rfl rfl rfl rfl (by decide) rfl rfl (fun D1 hS => have hq := c_item_Right hx4 hS; hq) ?_; clear Z a; intro vv a w8 D2 hr hF2 Z
   obtain ⟨rfl, I5, K⟩ := hr
   have H : Hf I D w I5 w8 [SlC NEEntry (.slice (some ⟨b3, 0, none⟩) 2 2) [({ batch := ({ (default : EBatch) with req := 1 } : EBatch), ts := 3 } : EEntry), ({ batch := ({ (default : EBatch) with req := 1 } : EBatch), ts := 3 } : EEntry)], SlC NEEntry (.slice (some ⟨b2, 0, none⟩) 1 1) [({ batch := ({ (default : EBatch) with req := 1 } : EBatch), ts := 3 } : EEntry)], SlC NEOp (.slice none 0 0) ([] : List EOp), SlC NEOp (.slice none 0 0) ([] : List EOp), BxC b1 35 [.int .i64 0, .int .i64 1, .slice none 0 0, .int .u64 3]] := hF2 K
   clear hF2 K
   refine g_if Z rfl rfl rfl (p := true) rfl rfl (by decide) (fun _ => ?_) (fun h => by cases h)
   refine s_runk tI1 Z 1 rfl rfl ?_; clear Z a; intro a Z
   refine s_ob Z (v := .bool (r0 == 18)) rfl rfl (by decide) rfl (Ob_pick rfl rfl rfl rfl rfl) ?_; clear Z a; intro a Z
   refine s_runk tI1 Z 1 rfl rfl ?_; clear Z a; intro a Z
   refine s_end Z [0] rfl ?_; clear Z; intro Z
   refine p_then (wp_ret ?_)
   obtain rfl := some_in hF
   exact f_ret Z (run_results1 rfl Z rfl) ⟨rfl, I5, (H.sub [] rfl).eq rfl⟩
  ·replace hF := ite_f hc2 hF; replace Z := Z.conv (t := 29) rfl (show Value.bool (l == 3) = .bool false from congrArg Value.bool hc2); replace Z := Z.sub (ts := [0, 1, 2, 3, 11, 12, 13, 14, 15, 16, 17, 18, 19, 20, 21, 22, 23, 24, 25, 26, 27, 28, 29, 30, 31]) rfl
   refine g_if Z rfl rfl rfl (p := false) rfl rfl (by decide) (fun h => by cases h) ?_; clear Z; intro _ a Z
   refine g_if Z rfl rfl rfl (p := false) rfl rfl (by decide) (fun h => by cases h) ?_; clear Z; intro _ a Z
   refine g_if Z rfl rfl rfl (p := false) rfl rfl (by decide) (fun h => by cases h) ?_; clear Z; intro _ a Z
   refine s_ob Z (v := .bool false) rfl rfl (by decide) rfl (Ob_pick rfl rfl rfl rfl rfl) ?_; clear Z a; intro a Z
   refine s_runk tI1 Z 1 rfl rfl ?_; clear Z a; intro a Z
   refine s_end Z [0] rfl ?_; clear Z; intro Z
   refine p_then (wp_ret ?_)
   obtain rfl := some_in hF
   exact f_ret Z (run_results1 rfl Z rfl) ⟨rfl, I3, (H.sub [] rfl).eq rfl⟩
 ·replace hF := ite_f hc1 hF; replace Z := Z.conv (t := 23) rfl (show Value.bool (((seqB p.1 ⟨#[3, 3, 0, 1, 0]⟩) && (p.2 == 0)) && t) = .bool false from congrArg Value.bool hc1); replace Z := Z.sub (ts := [0, 1, 2, 3, 11, 12, 13, 14, 15, 16, 17, 18, 19, 20, 21, 22, 23, 24]) rfl
  refine g_if Z rfl rfl rfl (p := false) rfl rfl (by decide) (fun h => by cases h) ?_; clear Z; intro _ a Z
  refine g_if Z rfl rfl rfl (p := false) rfl rfl (by decide) (fun h => by cases h) ?_; clear Z; intro _ a Z
  refine g_if Z rfl rfl rfl (p := false) rfl rfl (by decide) (fun h => by cases h) ?_; clear Z; intro _ a Z
  refine s_ob Z (v := .bool false) rfl rfl (by decide) rfl (Ob_pick rfl rfl rfl rfl rfl) ?_; clear Z a; intro a Z
  refine s_runk tI1 Z 1 rfl rfl ?_; clear Z a; intro a Z
  refine g_if Z rfl rfl rfl (p := false) rfl rfl (by decide) (fun h => by cases h) ?_; clear Z; intro _ a Z
  refine g_if Z rfl rfl rfl (p := false) rfl rfl (by decide) (fun h => by cases h) ?_; clear Z; intro _ a Z
  refine g_if Z rfl rfl rfl (p := false) rfl rfl (by decide) (fun h => by cases h) ?_; clear Z; intro _ a Z
  refine g_if Z rfl rfl rfl (p := false) rfl rfl (by decide) (fun h => by cases h) ?_; clear Z; intro _ a Z
  refine g_if Z rfl rfl rfl (p := false) rfl rfl (by decide) (fun h => by cases h) ?_; clear Z; intro _ a Z
  refine s_ob Z (v := .bool false) rfl rfl (by decide) rfl (Ob_pick rfl rfl rfl rfl rfl) ?_; clear Z a; intro a Z
  refine s_runk tI1 Z 1 rfl rfl ?_; clear Z a; intro a Z
  refine s_end Z [0] rfl ?_; clear Z; intro Z
  refine p_then (wp_ret ?_)
  obtain rfl := some_in hF
  exact f_ret Z (run_results1 rfl Z rfl) ⟨rfl, I1, (H.sub [] rfl).eq rfl⟩

def F_law08_Much_l1 (l : List EEntry) (rc : (Int × Int) → Option Int) (sg : Int × Int) : Option Int := match sg with | (n0, i) => if ((decide (i < (l.length : Int))) && (decide (i < 200))) = true then (chk ((0 : Int) ≤ i ∧ i < (l.length : Int)) (chk (inI (n0 + ((((l.getD (i).toNat default).batch).ops).length : Int))) (chk (inI (i + 1)) (rc (n0 + ((((l.getD (i).toNat default).batch).ops).length : Int), i + 1))))) else (some n0)

def F_law08_Much (l : List EEntry) : Option Int := iter (F_law08_Much_l1 l) FU ((l.length : Int), 0)

set_option maxHeartbeats 1000000 in
theorem c_law08_Much {I D : Dm} {l : List EEntry} {v1_l : Value} {w : World} {rr : Int} (hF : F_law08_Much l = some rr) (H : St I D w [SlC NEEntry v1_l l]) :
  Calls Try.prog 7 #[v1_l] w (Ret fun vv w' => vv = .int .i64 rr ∧ ∃ I', Hf I D w I' w' []) := by
 replace H := H.hf
 unfold F_law08_Much at hF
 refine f_enter 27 Try.func7 rfl rfl (Nat.le_of_ble_eq_true rfl) fun a Z => ?_
 replace Z := Z.sub (ts := [0]) rfl
 refine wp_seq (f_region Z ?_); clear Z; intro Z
 refine s_runk tI1 Z 1 rfl rfl ?_; clear Z a; intro a Z
 refine s_end Z [0, 2] rfl ?_; clear Z; intro Z
 refine p_then (wp_seq (f_region Z ?_)); clear Z; intro Z
 refine s_runk tI1 Z 1 rfl rfl ?_; clear Z a; intro a Z
 refine s_ob Z (v := .int .i64 (l.length : Int)) rfl rfl (by decide) rfl (Ob_slen tI1 rfl rfl rfl (H.slshape 0 rfl)) ?_; clear Z a; intro a Z
 refine s_runk tI1 Z 1 rfl rfl ?_; clear Z a; intro a Z
 refine s_end Z [0, 2, 3] rfl ?_; clear Z; intro Z
 refine p_then (wp_seq ?_)
 refine wp_seq (f_region Z ?_); clear Z; intro Z
 refine s_runk tI1 Z 1 rfl rfl ?_; clear Z a; intro a Z
 refine s_end Z [0, 2, 3, 4] rfl ?_; clear Z; intro Z
 refine p_then (wp_block ?_)
 refine f_iter hF (fun sg a' w' => match sg with | (n0, i) => Sl 27 [(0, v1_l), (2, .int .i64 0), (3, .int .i64 n0), (4, .int .i64 i)] a' ∧ ∃ I2, Hf I D w I2 w' [SlC NEEntry v1_l l]) ⟨Z.sub (ts := [0, 2, 3, 4]) rfl, ⟨I, (H.sub [(0, true)] rfl).eq rfl⟩⟩ ?_
 clear Z H hF a
 rintro rc ⟨n0, i⟩ a w1 ⟨Z, I1, H⟩ hF
 unfold F_law08_Much_l1 at hF
 try dsimp only at hF
 refine wp_seq ?_
 refine wp_seq (f_region Z ?_); clear Z; intro Z
 refine s_runk tI1 Z 2 rfl rfl ?_; clear Z a; intro a Z
 refine s_ob Z (v := .int .i64 (l.length : Int)) rfl rfl (by decide) rfl (Ob_slen tI1 rfl rfl rfl (H.slshape 0 rfl)) ?_; clear Z a; intro a Z
 refine s_runk tI1 Z 2 rfl rfl ?_; clear Z a; intro a Z
 refine g_ob Z (p := (decide (i < (l.length : Int)))) (v := .int .i64 i) (S' := [(4, .int .i64 i)]) rfl rfl rfl (wantB_t _) rfl (by decide) (fun hp hS => hS.sub (ts := [4]) rfl) (fun hp => Ob_c tI1 rfl) ?_; clear Z a; intro a Z
 refine g_ob Z (p := (decide (i < (l.length : Int)))) (v := .bool (decide (i < 200))) (S' := [(12, .int .i64 i)]) rfl rfl rfl (wantB_t _) rfl (by decide) (fun hp hS => (hS.conv (t := 12) rfl (cond_t hp)).sub (ts := [12]) rfl) (fun hp => Ob_c tI1 rfl) ?_; clear Z a; intro a Z
 refine s_ob Z (v := .bool ((decide (i < (l.length : Int))) && (decide (i < 200)))) rfl rfl (by decide) rfl (Ob_pick rfl rfl rfl rfl (pick_and _ _)) ?_; clear Z a; intro a Z
 refine s_end Z [0, 2, 3, 4, 7, 8, 9, 10, 11, 14] rfl ?_; clear Z; intro Z
 refine p_then ?_
 refine f_cond Z rfl (fun hc1 => ?_) (fun hc1 => ?_)
 ·replace hF := ite_t hc1 hF
  refine wp_skip ?_
  refine p_then (wp_seq ?_)
  refine wp_block ?_
  obtain ⟨hg1, hF⟩ := chk_in hF
  obtain ⟨hg2, hF⟩ := chk_in hF
  refine f_region Z ?_; clear Z; intro Z
  refine s_runk tI1 Z 3 rfl rfl ?_; clear Z a; intro a Z
  refine s_ob Z (v := .pointer (some ⟨blkOf v1_l, oofOf v1_l + (i).toNat * 4, none⟩)) rfl rfl (by decide) rfl (Ob_sidx tI1 rfl rfl rfl rfl (slPl (H.sl 0 rfl) hg1) hg1) ?_; clear Z a; intro a Z
  refine s_runk tI1 Z 2 rfl rfl ?_; clear Z a; intro a Z
  obtain ⟨_, ⟨u1, rfl, L1⟩, H⟩ := H.elG 0 rfl (i) (NEEntry.dft _ _)
  replace H := H.addsl L1
  replace H : Hf I D w I1 w1 [SlC NEOp u1 (((l.getD (i).toNat default).batch).ops), AtG ((0 : Int) ≤ i ∧ i < (l.length : Int)) (blkOf v1_l) (oofOf v1_l + (i).toNat * 4) [.int .i64 (((l.getD (i).toNat default).batch).client), .int .i64 (((l.getD (i).toNat default).batch).req), u1, .int .u64 ((l.getD (i).toNat default).ts)], SlC NEEntry v1_l l] := H
  refine s_ob Z (v := u1) rfl rfl (by decide) rfl (Ob_load tI1 rfl rfl rfl ((H.atg 1 rfl hg1) 2 _ rfl)) ?_; clear Z a; intro a Z
  refine s_ob Z (v := .int .i64 ((((l.getD (i).toNat default).batch).ops).length : Int)) rfl rfl (by decide) rfl (Ob_slen tI1 rfl rfl rfl (H.slshape 0 rfl)) ?_; clear Z a; intro a Z
  refine s_ob Z (v := .int .i64 (n0 + ((((l.getD (i).toNat default).batch).ops).length : Int))) rfl rfl (by decide) rfl (Ob_add rfl rfl rfl (wrI hg2)) ?_; clear Z a; intro a Z
  refine s_runk tI1 Z 1 rfl rfl ?_; clear Z a; intro a Z
  refine s_end Z [0, 2, 3, 4, 7, 8, 9, 10, 11, 14, 17, 18, 19, 20, 21, 22, 23, 24, 25] rfl ?_; clear Z; intro Z
  refine p_blk ?_
  refine p_then ?_
  obtain ⟨hg3, hF⟩ := chk_in hF
  refine f_region Z ?_; clear Z; intro Z
  refine s_runk tI1 Z 1 rfl rfl ?_; clear Z a; intro a Z
  refine s_ob Z (v := .int .i64 (i + 1)) rfl rfl (by decide) rfl (Ob_add rfl rfl rfl (wrI hg3)) ?_; clear Z a; intro a Z
  refine s_runk tI1 Z 1 rfl rfl ?_; clear Z a; intro a Z
  refine s_end Z [0, 2, 3, 4, 7, 8, 9, 10, 11, 14, 17, 18, 19, 20, 21, 22, 23, 24, 25, 15, 16] rfl ?_; clear Z; intro Z
  refine p_then ?_
  exact ⟨(n0 + ((((l.getD (i).toNat default).batch).ops).length : Int), i + 1), ⟨Z.sub (ts := [0, 2, 3, 4]) rfl, ⟨I1, (H.sub [(2, true)] rfl).eq rfl⟩⟩, hF⟩
 ·replace hF := ite_f hc1 hF
  refine wp_exit ?_
  refine p_then_x ?_
  refine p_then_x ?_
  refine f_exit_here ?_
  refine p_then (wp_seq (f_region Z ?_)); clear Z; intro Z
  refine s_runk tI1 Z 2 rfl rfl ?_; clear Z a; intro a Z
  refine s_end Z [2] rfl ?_; clear Z; intro Z
  refine p_then (wp_ret ?_)
  obtain rfl := some_in hF
  exact f_ret Z (run_results1 rfl Z rfl) ⟨rfl, I1, (H.sub [] rfl).eq rfl⟩

def F_law08_ItemBegins (l : List EEntry) (n0 : Int) : Option Bool := (F_law08_Much l).bind fun m => ((gif (!(decide (m > 100))) (F_item_Right l) default).bind fun r0 => (if ((decide (m > 100)) || (r0 != 0)) = true then ((F_law08_awake).bind fun a0 => (some a0)) else (chk (inI n0) (chk (inI ((l.length : Int) + 1)) (chk ((l.length : Int) + 1 ≠ 0) (chk ((0 : Int) ≤ n0.tmod ((l.length : Int) + 1) ∧ n0.tmod ((l.length : Int) + 1) ≤ (l.length : Int)) ((F_item_Right (l.take ((n0.tmod ((l.length : Int) + 1)).toNat))).bind fun r0_2 => ((gif (r0_2 == 0) (F_item_Stamped (l.take ((n0.tmod ((l.length : Int) + 1)).toNat))) default).bind fun s0 => ((gif (r0_2 == 0) (F_item_Stamped l) default).bind fun s0_2 => ((gif ((r0_2 == 0) && (s0 == (min (n0.tmod ((l.length : Int) + 1)) s0_2))) (F_item_Last (l.take ((n0.tmod ((l.length : Int) + 1)).toNat))) default).bind fun l_2 => ((gif ((r0_2 == 0) && (s0 == (min (n0.tmod ((l.length : Int) + 1)) s0_2))) (F_item_Last l) default).bind fun l_3 => ((gif (((r0_2 == 0) && (s0 == (min (n0.tmod ((l.length : Int) + 1)) s0_2))) && (decide (l_2 ≤ l_3))) (F_law08_awake) default).bind fun a0_2 => (some ((((r0_2 == 0) && (s0 == (min (n0.tmod ((l.length : Int) + 1)) s0_2))) && (decide (l_2 ≤ l_3))) && a0_2))))))))))))))

set_option maxHeartbeats 1000000 in
theorem c_law08_ItemBegins {I D : Dm} {l : List EEntry} {v1_l : Value} {n0 : Int} {w : World} {rr : Bool} (hF : F_law08_ItemBegins l n0 = some rr) (H : St I D w [SlC NEEntry v1_l l]) :
  Calls Try.prog 4 #[v1_l, .int .u8 n0] w (Ret fun vv w' => vv = .bool rr ∧ ∃ I', Hf I D w I' w' []) := by
 replace H := H.hf
 unfold F_law08_ItemBegins at hF
 refine f_enter 47 Try.func4 rfl rfl (Nat.le_of_ble_eq_true rfl) fun a Z => ?_
 replace Z := Z.sub (ts := [0, 1]) rfl
 refine wp_seq (f_region Z ?_); clear Z; intro Z
 refine s_runk tI1 Z 1 rfl rfl ?_; clear Z a; intro a Z
 refine s_end Z [0, 1, 4] rfl ?_; clear Z; intro Z
 refine p_then (wp_seq ?_)
 refine wp_seq ?_
 obtain ⟨m, hx1, hF⟩ := bnd_in hF
 obtain ⟨r0, hx2, hF⟩ := bnd_in hF
 refine f_region Z ?_; clear Z; intro Z
 refine s_runk tI1 Z 1 rfl rfl ?_; clear Z a; intro a Z
 refine h_call Z H (js := [(0, true)]) rfl (caps := #[]) fn_7_YItem1 rfl rfl rfl rfl rfl (by decide) rfl rfl (fun D1 hS => have hq := c_law08_Much hx1 hS; hq) ?_; clear Z a; intro vv a w1 D2 hr hF2 Z
 obtain ⟨rfl, I1, K⟩ := hr
 have H : Hf I D w I1 w1 [SlC NEEntry v1_l l] := hF2 K
 clear hF2 K
 refine s_runk tI1 Z 2 rfl rfl ?_; clear Z a; intro a Z
 refine g_ob Z (p := (!(decide (m > 100)))) (v := v1_l) (S' := [(0, v1_l)]) rfl rfl rfl (wantB_f _) rfl (by decide) (fun hp hS => hS.sub (ts := [0]) rfl) (fun hp => Ob_c tI1 rfl) ?_; clear Z a; intro a Z
 refine g_call Z (p := (!(decide (m > 100)))) (v := .int .i64 r0) (S' := [(11, v1_l)]) (caps := #[]) fn_9_YItem1 rfl rfl rfl (wantB_f _) rfl (by decide) (fun hp hS => (hS.conv (t := 11) rfl (cond_t hp)).sub (ts := [11]) rfl) rfl rfl rfl rfl (fun hp => have hq := c_item_Right (gif_in hx2 hp) (H.pick0 (js := [(0, true)]) rfl rfl); plainC hq) ?_; clear Z a; intro a w2 hb Z
 replace H : Hf I D w I1 w2 [SlC NEEntry v1_l l] := H.blw hb
 clear hb
 refine g_ob Z (p := (!(decide (m > 100)))) (v := .bool (r0 != 0)) (S' := [(12, .int .i64 r0)]) rfl rfl rfl (wantB_f _) rfl (by decide) (fun hp hS => (hS.conv (t := 12) rfl (cond_t hp)).sub (ts := [12]) rfl) (fun hp => Ob_c tI1 rfl) ?_; clear Z a; intro a Z
 refine s_ob Z (v := .bool ((decide (m > 100)) || (r0 != 0))) rfl rfl (by decide) rfl (Ob_pick rfl rfl rfl rfl (pick_or _ _)) ?_; clear Z a; intro a Z
 refine s_end Z [0, 1, 4, 14] rfl ?_; clear Z; intro Z
 refine p_then ?_
 refine f_cond Z rfl (fun hc1 => ?_) (fun hc1 => ?_)
 ·replace hF := ite_t hc1 hF
  refine wp_seq ?_
  obtain ⟨a0, hx3, hF⟩ := bnd_in hF
  refine f_region Z ?_; clear Z; intro Z
  refine h_call Z H (js := []) rfl (caps := #[]) fn_8_YItem1 rfl rfl rfl rfl rfl (by decide) rfl rfl (fun D1 hS => have hq := c_law08_awake hx3 hS; hq) ?_; clear Z a; intro vv a w3 D2 hr hF2 Z
  obtain ⟨rfl, I2, K⟩ := hr
  have H : Hf I D w I2 w3 [SlC NEEntry v1_l l] := hF2 K
  clear hF2 K
  refine s_runk tI1 Z 1 rfl rfl ?_; clear Z a; intro a Z
  refine s_end Z [0, 1, 4] rfl ?_; clear Z; intro Z
  refine p_then (wp_ret ?_)
  refine p_then_r ?_
  obtain rfl := some_in hF
  exact f_ret Z (run_results1 rfl Z rfl) ⟨rfl, I2, (H.sub [] rfl).eq rfl⟩
 ·replace hF := ite_f hc1 hF
  refine wp_skip ?_
  refine p_then (wp_seq ?_)
  obtain ⟨hg1, hF⟩ := chk_in hF
  obtain ⟨hg2, hF⟩ := chk_in hF
  obtain ⟨hg3, hF⟩ := chk_in hF
  refine f_region Z ?_; clear Z; intro Z
  refine s_runk tI1 Z 1 rfl rfl ?_; clear Z a; intro a Z
  refine s_ob Z (v := .int .i64 n0) rfl rfl (by decide) rfl (Ob_conv rfl rfl (run_convi Try.underlying5 Try.underlying3 _ _ (wrI hg1) _)) ?_; clear Z a; intro a Z
  refine s_runk tI1 Z 1 rfl rfl ?_; clear Z a; intro a Z
  refine s_ob Z (v := .int .i64 (l.length : Int)) rfl rfl (by decide) rfl (Ob_slen tI1 rfl rfl rfl (H.slshape 0 rfl)) ?_; clear Z a; intro a Z
  refine s_ob Z (v := .int .i64 ((l.length : Int) + 1)) rfl rfl (by decide) rfl (Ob_add rfl rfl rfl (wrI hg2)) ?_; clear Z a; intro a Z
  refine s_ob Z (v := .int .i64 (n0.tmod ((l.length : Int) + 1))) rfl rfl (by decide) rfl (Ob_rem rfl rfl rfl hg3 rfl) ?_; clear Z a; intro a Z
  refine s_runk tI1 Z 1 rfl rfl ?_; clear Z a; intro a Z
  refine s_end Z [0, 4, 5] rfl ?_; clear Z; intro Z
  refine p_then (wp_seq ?_)
  obtain ⟨hg4, hF⟩ := chk_in hF
  refine f_region Z ?_; clear Z; intro Z
  refine s_runk tI1 Z 2 rfl rfl ?_; clear Z a; intro a Z
  replace H : Hf I D w I1 w2 [SlC NEEntry (subV v1_l 0 ((n0.tmod ((l.length : Int) + 1)).toNat) 4) (l.take ((n0.tmod ((l.length : Int) + 1)).toNat)), SlC NEEntry v1_l l] := H.slPart_to 0 rfl hg4 4 rfl
  refine s_ob Z (v := subV v1_l 0 ((n0.tmod ((l.length : Int) + 1)).toNat) 4) rfl rfl (by decide) rfl (Ob_sub_to tI1 rfl rfl rfl rfl (H.slshape 1 rfl) hg4) ?_; clear Z a; intro a Z
  refine s_runk tI1 Z 1 rfl rfl ?_; clear Z a; intro a Z
  refine s_end Z [0, 4, 5, 6] rfl ?_; clear Z; intro Z
  refine p_then (wp_seq ?_)
  obtain ⟨r0_2, hx4, hF⟩ := bnd_in hF
  obtain ⟨s0, hx5, hF⟩ := bnd_in hF
  obtain ⟨s0_2, hx6, hF⟩ := bnd_in hF
  obtain ⟨l_2, hx7, hF⟩ := bnd_in hF
  obtain ⟨l_3, hx8, hF⟩ := bnd_in hF
  obtain ⟨a0_2, hx9, hF⟩ := bnd_in hF
  refine f_region Z ?_; clear Z; intro Z
  refine s_runk tI1 Z 1 rfl rfl ?_; clear Z a; intro a Z
  refine h_call Z H (js := [(0, true)]) rfl (caps := #[]) fn_9_YItem1 rfl rfl rfl rfl rfl (by decide) rfl rfl (fun D1 hS => have hq := c_item_Right hx4 hS; hq) ?_; clear Z a; intro vv a w4 D2 hr hF2 Z
  obtain ⟨rfl, I3, K⟩ := hr
  have H : Hf I D w I3 w4 [SlC NEEntry (subV v1_l 0 ((n0.tmod ((l.length : Int) + 1)).toNat) 4) (l.take ((n0.tmod ((l.length : Int) + 1)).toNat)), SlC NEEntry v1_l l] := hF2 K
  clear hF2 K
  refine s_runk tI1 Z 2 rfl rfl ?_; clear Z a; intro a Z
  refine g_ob Z (p := (r0_2 == 0)) (v := subV v1_l 0 ((n0.tmod ((l.length : Int) + 1)).toNat) 4) (S' := [(6, subV v1_l 0 ((n0.tmod ((l.length : Int) + 1)).toNat) 4)]) rfl rfl rfl (wantB_t _) rfl (by decide) (fun hp hS => hS.sub (ts := [6]) rfl) (fun hp => Ob_c tI1 rfl) ?_; clear Z a; intro a Z
  refine g_call Z (p := (r0_2 == 0)) (v := .int .i64 s0) (S' := [(29, subV v1_l 0 ((n0.tmod ((l.length : Int) + 1)).toNat) 4)]) (caps := #[]) fn_11_YItem1 rfl rfl rfl (wantB_t _) rfl (by decide) (fun hp hS => (hS.conv (t := 29) rfl (cond_t hp)).sub (ts := [29]) rfl) rfl rfl rfl rfl (fun hp => have hq := c_item_Stamped (gif_in hx5 hp) (H.pick0 (js := [(0, true)]) rfl rfl); plainC hq) ?_; clear Z a; intro a w5 hb Z
  replace H : Hf I D w I3 w5 [SlC NEEntry (subV v1_l 0 ((n0.tmod ((l.length : Int) + 1)).toNat) 4) (l.take ((n0.tmod ((l.length : Int) + 1)).toNat)), SlC NEEntry v1_l l] := H.blw hb
  clear hb
  refine g_ob Z (p := (r0_2 == 0)) (v := .int .i64 (n0.tmod ((l.length : Int) + 1))) (S' := [(5, .int .i64 (n0.tmod ((l.length : Int) + 1)))]) rfl rfl rfl (wantB_t _) rfl (by decide) (fun hp hS => hS.sub (ts := [5]) rfl) (fun hp => Ob_c tI1 rfl) ?_; clear Z a; intro a Z
  refine g_ob Z (p := (r0_2 == 0)) (v := v1_l) (S' := [(0, v1_l)]) rfl rfl rfl (wantB_t _) rfl (by decide) (fun hp hS => hS.sub (ts := [0]) rfl) (fun hp => Ob_c tI1 rfl) ?_; clear Z a; intro a Z
  refine g_call Z (p := (r0_2 == 0)) (v := .int .i64 s0_2) (S' := [(32, v1_l)]) (caps := #[]) fn_11_YItem1 rfl rfl rfl (wantB_t _) rfl (by decide) (fun hp hS => (hS.conv (t := 32) rfl (cond_t hp)).sub (ts := [32]) rfl) rfl rfl rfl rfl (fun hp => have hq := c_item_Stamped (gif_in hx6 hp) (H.pick0 (js := [(1, true)]) rfl rfl); plainC hq) ?_; clear Z a; intro a w6 hb Z
  replace H : Hf I D w I3 w6 [SlC NEEntry (subV v1_l 0 ((n0.tmod ((l.length : Int) + 1)).toNat) 4) (l.take ((n0.tmod ((l.length : Int) + 1)).toNat)), SlC NEEntry v1_l l] := H.blw hb
  clear hb
  refine g_ob Z (p := (r0_2 == 0)) (v := .int .i64 (min (n0.tmod ((l.length : Int) + 1)) s0_2)) (S' := [(31, .int .i64 (n0.tmod ((l.length : Int) + 1))), (33, .int .i64 s0_2)]) rfl rfl rfl (wantB_t _) rfl (by decide) (fun hp hS => ((hS.conv (t := 31) rfl (cond_t hp)).conv (t := 33) rfl (cond_t hp)).sub (ts := [31, 33]) rfl) (fun hp => Ob_c tI1 rfl) ?_; clear Z a; intro a Z
  refine g_ob Z (p := (r0_2 == 0)) (v := .bool (s0 == (min (n0.tmod ((l.length : Int) + 1)) s0_2))) (S' := [(30, .int .i64 s0), (34, .int .i64 (min (n0.tmod ((l.length : Int) + 1)) s0_2))]) rfl rfl rfl (wantB_t _) rfl (by decide) (fun hp hS => ((hS.conv (t := 30) rfl (cond_t hp)).conv (t := 34) rfl (cond_t hp)).sub (ts := [30, 34]) rfl) (fun hp => Ob_c tI1 rfl) ?_; clear Z a; intro a Z
  refine s_ob Z (v := .bool ((r0_2 == 0) && (s0 == (min (n0.tmod ((l.length : Int) + 1)) s0_2)))) rfl rfl (by decide) rfl (Ob_pick rfl rfl rfl rfl (pick_and _ _)) ?_; clear Z a; intro a Z
  refine s_runk tI1 Z 1 rfl rfl ?_; clear Z a; intro a Z
  refine g_ob Z (p := ((r0_2 == 0) && (s0 == (min (n0.tmod ((l.length : Int) + 1)) s0_2)))) (v := subV v1_l 0 ((n0.tmod ((l.length : Int) + 1)).toNat) 4) (S' := [(6, subV v1_l 0 ((n0.tmod ((l.length : Int) + 1)).toNat) 4)]) rfl rfl rfl (wantB_t _) rfl (by decide) (fun hp hS => hS.sub (ts := [6]) rfl) (fun hp => Ob_c tI1 rfl) ?_; clear Z a; intro a Z
  refine g_call Z (p := ((r0_2 == 0) && (s0 == (min (n0.tmod ((l.length : Int) + 1)) s0_2)))) (v := .int .u64 l_2) (S' := [(38, subV v1_l 0 ((n0.tmod ((l.length : Int) + 1)).toNat) 4)]) (caps := #[]) fn_13_YItem1 rfl rfl rfl (wantB_t _) rfl (by decide) (fun hp hS => (hS.conv (t := 38) rfl (cond_t hp)).sub (ts := [38]) rfl) rfl rfl rfl rfl (fun hp => have hq := c_item_Last (gif_in hx7 hp) (H.pick0 (js := [(0, true)]) rfl rfl); plainC hq) ?_; clear Z a; intro a w7 hb Z
  replace H : Hf I D w I3 w7 [SlC NEEntry (subV v1_l 0 ((n0.tmod ((l.length : Int) + 1)).toNat) 4) (l.take ((n0.tmod ((l.length : Int) + 1)).toNat)), SlC NEEntry v1_l l] := H.blw hb
  clear hb
  refine g_ob Z (p := ((r0_2 == 0) && (s0 == (min (n0.tmod ((l.length : Int) + 1)) s0_2)))) (v := v1_l) (S' := [(0, v1_l)]) rfl rfl rfl (wantB_t _) rfl (by decide) (fun hp hS => hS.sub (ts := [0]) rfl) (fun hp => Ob_c tI1 rfl) ?_; clear Z a; intro a Z
  refine g_call Z (p := ((r0_2 == 0) && (s0 == (min (n0.tmod ((l.length : Int) + 1)) s0_2)))) (v := .int .u64 l_3) (S' := [(40, v1_l)]) (caps := #[]) fn_13_YItem1 rfl rfl rfl (wantB_t _) rfl (by decide) (fun hp hS => (hS.conv (t := 40) rfl (cond_t hp)).sub (ts := [40]) rfl) rfl rfl rfl rfl (fun hp => have hq := c_item_Last (gif_in hx8 hp) (H.pick0 (js := [(1, true)]) rfl rfl); plainC hq) ?_; clear Z a; intro a w8 hb Z
  replace H : Hf I D w I3 w8 [SlC NEEntry (subV v1_l 0 ((n0.tmod ((l.length : Int) + 1)).toNat) 4) (l.take ((n0.tmod ((l.length : Int) + 1)).toNat)), SlC NEEntry v1_l l] := H.blw hb
  clear hb
  refine g_ob Z (p := ((r0_2 == 0) && (s0 == (min (n0.tmod ((l.length : Int) + 1)) s0_2)))) (v := .bool (decide (l_2 ≤ l_3))) (S' := [(39, .int .u64 l_2), (41, .int .u64 l_3)]) rfl rfl rfl (wantB_t _) rfl (by decide) (fun hp hS => ((hS.conv (t := 39) rfl (cond_t hp)).conv (t := 41) rfl (cond_t hp)).sub (ts := [39, 41]) rfl) (fun hp => Ob_c tI1 rfl) ?_; clear Z a; intro a Z
  refine s_ob Z (v := .bool (((r0_2 == 0) && (s0 == (min (n0.tmod ((l.length : Int) + 1)) s0_2))) && (decide (l_2 ≤ l_3)))) rfl rfl (by decide) rfl (Ob_pick rfl rfl rfl rfl (pick_and _ _)) ?_; clear Z a; intro a Z
  refine s_runk tI1 Z 1 rfl rfl ?_; clear Z a; intro a Z
  refine g_call Z (p := (((r0_2 == 0) && (s0 == (min (n0.tmod ((l.length : Int) + 1)) s0_2))) && (decide (l_2 ≤ l_3)))) (v := .bool a0_2) (S' := []) (caps := #[]) fn_8_YItem1 rfl rfl rfl (wantB_t _) rfl (by decide) (fun hp hS => hS.sub (ts := []) rfl) rfl rfl rfl rfl (fun hp => have hq := c_law08_awake (gif_in hx9 hp) (H.pick0 (js := []) rfl rfl); plainC hq) ?_; clear Z a; intro a w9 hb Z
  replace H : Hf I D w I3 w9 [SlC NEEntry (subV v1_l 0 ((n0.tmod ((l.length : Int) + 1)).toNat) 4) (l.take ((n0.tmod ((l.length : Int) + 1)).toNat)), SlC NEEntry v1_l l] := H.blw hb
  clear hb
  refine s_ob Z (v := .bool ((((r0_2 == 0) && (s0 == (min (n0.tmod ((l.length : Int) + 1)) s0_2))) && (decide (l_2 ≤ l_3))) && a0_2)) rfl rfl (by decide) rfl (Ob_pick rfl rfl rfl rfl (pick_and _ _)) ?_; clear Z a; intro a Z
  refine s_runk tI1 Z 1 rfl rfl ?_; clear Z a; intro a Z
  refine s_end Z [4] rfl ?_; clear Z; intro Z
  refine p_then (wp_ret ?_)
  obtain rfl := some_in hF
  exact f_ret Z (run_results1 rfl Z rfl) ⟨rfl, I3, (H.sub [] rfl).eq rfl⟩

end Go.Proofs.Ytodgamombdaoiaa
