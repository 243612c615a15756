/- A replica's log: one that nobody made, and the law RlogZero walked. -/
import Derived.Test.YtmmdghdindoclaaYRlN
namespace Go.Proofs.Ytmmdghdindoclaa
open Go.RowKit
def tRlWL : TabL := ⟨[(24578, 2), (27648, 0), (27649, 3)], [], [], [(22, (57, 3)), (30, (27, 4))], [(22, (1, false)), (25, (1, false)), (27, (4, true)), (33, (3, true))]⟩

def tRlW : Tab Try.prog := ⟨tRlWL, by kernel_rfl⟩

theorem fn_4_YRlW : IsFn Try.prog 4 := ⟨_, Try.func4, by kernel_rfl, by kernel_rfl⟩

theorem fn_5_YRlW : IsFn Try.prog 5 := ⟨_, Try.func5, by kernel_rfl, by kernel_rfl⟩

theorem fn_6_YRlW : IsFn Try.prog 6 := ⟨_, Try.func6, by kernel_rfl, by kernel_rfl⟩

theorem fn_7_YRlW : IsFn Try.prog 7 := ⟨_, Try.func7, by kernel_rfl, by kernel_rfl⟩

theorem fn_8_YRlW : IsFn Try.prog 8 := ⟨_, Try.func8, by kernel_rfl, by kernel_rfl⟩

theorem fn_9_YRlW : IsFn Try.prog 9 := ⟨_, Try.func9, by kernel_rfl, by kernel_rfl⟩

theorem fn_10_YRlW : IsFn Try.prog 10 := ⟨_, Try.func10, by kernel_rfl, by kernel_rfl⟩

theorem fn_11_YRlW : IsFn Try.prog 11 := ⟨_, Try.func11, by kernel_rfl, by kernel_rfl⟩

theorem fn_12_YRlW : IsFn Try.prog 12 := ⟨_, Try.func12, by kernel_rfl, by kernel_rfl⟩

theorem fn_13_YRlW : IsFn Try.prog 13 := ⟨_, Try.func13, by kernel_rfl, by kernel_rfl⟩

theorem fn_14_YRlW : IsFn Try.prog 14 := ⟨_, Try.func14, by kernel_rfl, by kernel_rfl⟩

theorem fn_15_YRlW : IsFn Try.prog 15 := ⟨_, Try.func15, by kernel_rfl, by kernel_rfl⟩

theorem fn_17_YRlW : IsFn Try.prog 17 := ⟨_, Try.func17, by kernel_rfl, by kernel_rfl⟩

def F_rlog_Log_Thin (l : Erlog_Log) (h : Int) (n0 : Int) : Option Int := (F_rlog_Log_none l).bind fun n0_2 => (chk ((n0_2) = true) (some 0))

set_option maxHeartbeats 1000000 in
theorem c_rlog_Log_Thin {I D : Dm} {b_l : Nat} {l : Erlog_Log} {h : Int} {n0 : Int} {w : World} {rr : Int} (hF : F_rlog_Log_Thin l h n0 = some rr) (H : St I D w [OErlog_Log b_l l]) :
  Calls Try.prog 10 #[.pointer (some ⟨b_l, 0, none⟩), .int .u64 h, .int .i64 n0] w (Ret fun vv w' => vv = .int .i64 rr ∧ ∃ I', Hf I D w I' w' [OErlog_Log b_l l]) := by
 replace H := H.hf
 unfold F_rlog_Log_Thin at hF
 refine f_enter 51 Try.func10 rfl rfl (Nat.le_of_ble_eq_true rfl) fun a Z => ?_
 replace Z := Z.sub (ts := [0, 1, 2]) rfl
 refine wp_seq (f_region Z ?_); clear Z; intro Z
 refine s_runk tRlW Z 1 rfl rfl ?_; clear Z a; intro a Z
 refine s_end Z [0, 1, 2, 6] rfl ?_; clear Z; intro Z
 refine p_then (wp_seq ?_)
 refine wp_seq ?_
 obtain ⟨n0_2, hx1, hF⟩ := bnd_in hF
 refine f_region Z ?_; clear Z; intro Z
 refine s_runk tRlW Z 1 rfl rfl ?_; clear Z a; intro a Z
 refine h_call Z H (js := [(0, false)]) rfl (caps := #[]) fn_15_YRlW rfl rfl rfl rfl rfl (by decide) rfl rfl (fun D1 hS => have hq := c_rlog_Log_none hx1 hS; hq) ?_; clear Z a; intro vv a w1 D2 hr hF2 Z
 obtain ⟨rfl, I1, K⟩ := hr
 have H : Hf I D w I1 w1 [OErlog_Log b_l l] := hF2 K
 clear hF2 K
 refine s_end Z [0, 1, 2, 6, 13] rfl ?_; clear Z; intro Z
 refine p_then ?_
 obtain ⟨hg1, hF⟩ := chk_in hF
 refine f_cond Z rfl (fun hc1 => ?_) (fun hc1 => ?_)
 ·skip
  refine wp_seq (f_region Z ?_); clear Z; intro Z
  refine s_runk tRlW Z 1 rfl rfl ?_; clear Z a; intro a Z
  refine s_end Z [0, 1, 2, 6] rfl ?_; clear Z; intro Z
  refine p_then (wp_ret ?_)
  refine p_then_r ?_
  obtain rfl := some_in hF
  exact f_ret Z (run_results1 rfl Z rfl) ⟨rfl, I1, (H.sub [(0, false)] rfl).eq rfl⟩
 ·rw [hg1] at hc1; cases hc1

def F_rlog_Log_Thin_nil (h : Int) (n0 : Int) : Option Int := (F_rlog_Log_none_nil).bind fun n0_2 => (chk ((n0_2) = true) (some 0))

set_option maxHeartbeats 1000000 in
theorem c_rlog_Log_Thin_nil {I D : Dm} {h : Int} {n0 : Int} {w : World} {rr : Int} (hF : F_rlog_Log_Thin_nil h n0 = some rr) (H : St I D w []) :
  Calls Try.prog 10 #[.pointer none, .int .u64 h, .int .i64 n0] w (Ret fun vv w' => vv = .int .i64 rr ∧ ∃ I', Hf I D w I' w' []) := by
 replace H := H.hf
 unfold F_rlog_Log_Thin_nil at hF
 refine f_enter 51 Try.func10 rfl rfl (Nat.le_of_ble_eq_true rfl) fun a Z => ?_
 replace Z := Z.sub (ts := [0, 1, 2]) rfl
 refine wp_seq (f_region Z ?_); clear Z; intro Z
 refine s_runk tRlW Z 1 rfl rfl ?_; clear Z a; intro a Z
 refine s_end Z [0, 1, 2, 6] rfl ?_; clear Z; intro Z
 refine p_then (wp_seq ?_)
 refine wp_seq ?_
 obtain ⟨n0_2, hx1, hF⟩ := bnd_in hF
 refine f_region Z ?_; clear Z; intro Z
 refine s_runk tRlW Z 1 rfl rfl ?_; clear Z a; intro a Z
 refine h_call Z H (js := []) rfl (caps := #[]) fn_15_YRlW rfl rfl rfl rfl rfl (by decide) rfl rfl (fun D1 hS => have hq := c_rlog_Log_none_nil hx1 hS; hq) ?_; clear Z a; intro vv a w1 D2 hr hF2 Z
 obtain ⟨rfl, I1, K⟩ := hr
 have H : Hf I D w I1 w1 [] := hF2 K
 clear hF2 K
 refine s_end Z [0, 1, 2, 6, 13] rfl ?_; clear Z; intro Z
 refine p_then ?_
 obtain ⟨hg1, hF⟩ := chk_in hF
 refine f_cond Z rfl (fun hc1 => ?_) (fun hc1 => ?_)
 ·skip
  refine wp_seq (f_region Z ?_); clear Z; intro Z
  refine s_runk tRlW Z 1 rfl rfl ?_; clear Z a; intro a Z
  refine s_end Z [0, 1, 2, 6] rfl ?_; clear Z; intro Z
  refine p_then (wp_ret ?_)
  refine p_then_r ?_
  obtain rfl := some_in hF
  exact f_ret Z (run_results1 rfl Z rfl) ⟨rfl, I1, (H.sub [] rfl).eq rfl⟩
 ·rw [hg1] at hc1; cases hc1

def F_law17_awake : Option Bool := (F_rlog_New).bind fun n0 => ((F_rlog_Log_Set n0 0 ({ batch := ({ (default : EBatch) with req := 1 } : EBatch), ts := 0 } : EEntry)).bind fun s0 => ((F_rlog_Log_Set s0.2 1 ({ batch := ({ (default : EBatch) with req := 2 } : EBatch), ts := 0 } : EEntry)).bind fun s0_2 => ((F_rlog_Log_Stamp s0_2.2 0 5).bind fun s0_3 => ((gif (((s0.1 == 0) && (s0_2.1 == 0)) && (s0_3.1 == 0)) (F_rlog_Log_Len s0_3.2) default).bind fun l => ((gif ((((s0.1 == 0) && (s0_2.1 == 0)) && (s0_3.1 == 0)) && (l == 2)) (F_rlog_Log_Stamped s0_3.2) default).bind fun s0_4 => ((gif (((((s0.1 == 0) && (s0_2.1 == 0)) && (s0_3.1 == 0)) && (l == 2)) && (s0_4 == 1)) (F_rlog_Log_Find s0_3.2 0 2) default).bind fun f => ((gif ((((((s0.1 == 0) && (s0_2.1 == 0)) && (s0_3.1 == 0)) && (l == 2)) && (s0_4 == 1)) && (f.1 == 1)) (F_rlog_Log_Top (cond (((((s0.1 == 0) && (s0_2.1 == 0)) && (s0_3.1 == 0)) && (l == 2)) && (s0_4 == 1)) f.2 s0_3.2) 0) default).bind fun t => (some (((((((s0.1 == 0) && (s0_2.1 == 0)) && (s0_3.1 == 0)) && (l == 2)) && (s0_4 == 1)) && (f.1 == 1)) && (t.1 == 2))))))))))

set_option maxHeartbeats 1000000 in
theorem c_law17_awake {I D : Dm} {w : World} {rr : Bool} (hF : F_law17_awake = some rr) (H : St I D w []) :
  Calls Try.prog 4 #[] w (Ret fun vv w' => vv = .bool rr ∧ ∃ I', Hf I D w I' w' []) := by
 replace H := H.hf
 unfold F_law17_awake at hF
 refine f_enter 46 Try.func4 rfl rfl (Nat.le_of_ble_eq_true rfl) fun a Z => ?_
 replace Z := Z.sub (ts := []) rfl
 refine wp_seq (f_region Z ?_); clear Z; intro Z
 refine s_runk tRlW Z 1 rfl rfl ?_; clear Z a; intro a Z
 refine s_end Z [0] rfl ?_; clear Z; intro Z
 refine p_then (wp_seq ?_)
 obtain ⟨n0, hx1, hF⟩ := bnd_in hF
 refine f_region Z ?_; clear Z; intro Z
 refine h_call Z H (js := []) rfl (caps := #[]) fn_14_YRlW rfl rfl rfl rfl rfl (by decide) rfl rfl (fun D1 hS => have hq := c_rlog_New hx1 hS; hq) ?_; clear Z a; intro vv a w1 D2 hr hF2 Z
 obtain ⟨g1, rfl, I1, K⟩ := hr
 have H : Hf I D w I1 w1 [OErlog_Log g1 n0] := hF2 K
 clear hF2 K
 refine s_runk tRlW Z 1 rfl rfl ?_; clear Z a; intro a Z
 refine s_end Z [0, 1] rfl ?_; clear Z; intro Z
 refine p_then (wp_seq ?_)
 obtain ⟨s0, hx2, hF⟩ := bnd_in hF
 refine f_region Z ?_; clear Z; intro Z
 refine s_runk tRlW Z 1 rfl rfl ?_; clear Z a; intro a Z
 refine s_ob Z (v := .agg #[.int .i64 0, .int .i64 1, .slice none 0 0]) rfl rfl (by decide) rfl (Ob_build (vs := [(1, .int .i64 1)]) rfl rfl (by go_simp <;> rfl)) ?_; clear Z a; intro a Z
 refine s_ob Z (v := .agg #[.int .i64 0, .int .i64 1, .slice none 0 0, .int .u64 0]) rfl rfl (by decide) rfl (Ob_build (vs := [(0, .agg #[.int .i64 0, .int .i64 1, .slice none 0 0])]) rfl rfl (by go_simp <;> rfl)) ?_; clear Z a; intro a Z
 replace H : Hf I D w I1 w1 [SlC NEOp (.slice none 0 0) ([] : List EOp), OErlog_Log g1 n0] := H.slNil NEOp
 refine h_call Z H (js := [(1, false), (0, true)]) rfl (caps := #[]) fn_6_YRlW rfl rfl rfl rfl rfl (by decide) rfl rfl (fun D1 hS => have hq := c_rlog_Log_Set hx2 hS; hq) ?_; clear Z a; intro vv a w2 D2 hr hF2 Z
 obtain ⟨rfl, I2, K⟩ := hr
 have H : Hf I D w I2 w2 [OErlog_Log g1 s0.2, SlC NEOp (.slice none 0 0) ([] : List EOp)] := hF2 K
 clear hF2 K
 refine s_runk tRlW Z 1 rfl rfl ?_; clear Z a; intro a Z
 refine s_end Z [0, 1, 2] rfl ?_; clear Z; intro Z
 refine p_then (wp_seq ?_)
 obtain ⟨s0_2, hx3, hF⟩ := bnd_in hF
 refine f_region Z ?_; clear Z; intro Z
 refine s_runk tRlW Z 1 rfl rfl ?_; clear Z a; intro a Z
 refine s_ob Z (v := .agg #[.int .i64 0, .int .i64 2, .slice none 0 0]) rfl rfl (by decide) rfl (Ob_build (vs := [(1, .int .i64 2)]) rfl rfl (by go_simp <;> rfl)) ?_; clear Z a; intro a Z
 refine s_ob Z (v := .agg #[.int .i64 0, .int .i64 2, .slice none 0 0, .int .u64 0]) rfl rfl (by decide) rfl (Ob_build (vs := [(0, .agg #[.int .i64 0, .int .i64 2, .slice none 0 0])]) rfl rfl (by go_simp <;> rfl)) ?_; clear Z a; intro a Z
 replace H : Hf I D w I2 w2 [SlC NEOp (.slice none 0 0) ([] : List EOp), OErlog_Log g1 s0.2, SlC NEOp (.slice none 0 0) ([] : List EOp)] := H.slNil NEOp
 refine h_call Z H (js := [(1, false), (0, true)]) rfl (caps := #[]) fn_6_YRlW rfl rfl rfl rfl rfl (by decide) rfl rfl (fun D1 hS => have hq := c_rlog_Log_Set hx3 hS; hq) ?_; clear Z a; intro vv a w3 D2 hr hF2 Z
 obtain ⟨rfl, I3, K⟩ := hr
 have H : Hf I D w I3 w3 [OErlog_Log g1 s0_2.2, SlC NEOp (.slice none 0 0) ([] : List EOp), SlC NEOp (.slice none 0 0) ([] : List EOp)] := hF2 K
 clear hF2 K
 refine s_runk tRlW Z 1 rfl rfl ?_; clear Z a; intro a Z
 refine s_end Z [0, 1, 2, 3] rfl ?_; clear Z; intro Z
 refine p_then (wp_seq ?_)
 obtain ⟨s0_3, hx4, hF⟩ := bnd_in hF
 refine f_region Z ?_; clear Z; intro Z
 refine s_runk tRlW Z 1 rfl rfl ?_; clear Z a; intro a Z
 refine h_call Z H (js := [(0, false)]) rfl (caps := #[]) fn_7_YRlW rfl rfl rfl rfl rfl (by decide) rfl rfl (fun D1 hS => have hq := c_rlog_Log_Stamp hx4 hS; hq) ?_; clear Z a; intro vv a w4 D2 hr hF2 Z
 obtain ⟨rfl, I4, K⟩ := hr
 have H : Hf I D w I4 w4 [OErlog_Log g1 s0_3.2, SlC NEOp (.slice none 0 0) ([] : List EOp), SlC NEOp (.slice none 0 0) ([] : List EOp)] := hF2 K
 clear hF2 K
 refine s_runk tRlW Z 1 rfl rfl ?_; clear Z a; intro a Z
 refine s_end Z [0, 1, 2, 3, 4] rfl ?_; clear Z; intro Z
 refine p_then (wp_seq ?_)
 obtain ⟨l, hx5, hF⟩ := bnd_in hF
 obtain ⟨s0_4, hx6, hF⟩ := bnd_in hF
 obtain ⟨f, hx7, hF⟩ := bnd_in hF
 obtain ⟨t, hx8, hF⟩ := bnd_in hF
 refine f_region Z ?_; clear Z; intro Z
 refine s_runk tRlW Z 3 rfl rfl ?_; clear Z a; intro a Z
 refine g_ob Z (p := (s0.1 == 0)) (v := .int .i64 s0_2.1) (S' := [(3, .int .i64 s0_2.1)]) rfl rfl rfl (wantB_t _) rfl (by decide) (fun hp hS => hS.sub (ts := [3]) rfl) (fun hp => Ob_c tRlW rfl) ?_; clear Z a; intro a Z
 refine g_ob Z (p := (s0.1 == 0)) (v := .bool (s0_2.1 == 0)) (S' := [(19, .int .i64 s0_2.1)]) rfl rfl rfl (wantB_t _) rfl (by decide) (fun hp hS => (hS.conv (t := 19) rfl (cond_t hp)).sub (ts := [19]) rfl) (fun hp => Ob_c tRlW rfl) ?_; clear Z a; intro a Z
 refine s_ob Z (v := .bool ((s0.1 == 0) && (s0_2.1 == 0))) rfl rfl (by decide) rfl (Ob_pick rfl rfl rfl rfl (pick_and _ _)) ?_; clear Z a; intro a Z
 refine s_runk tRlW Z 1 rfl rfl ?_; clear Z a; intro a Z
 refine g_ob Z (p := ((s0.1 == 0) && (s0_2.1 == 0))) (v := .int .i64 s0_3.1) (S' := [(4, .int .i64 s0_3.1)]) rfl rfl rfl (wantB_t _) rfl (by decide) (fun hp hS => hS.sub (ts := [4]) rfl) (fun hp => Ob_c tRlW rfl) ?_; clear Z a; intro a Z
 refine g_ob Z (p := ((s0.1 == 0) && (s0_2.1 == 0))) (v := .bool (s0_3.1 == 0)) (S' := [(23, .int .i64 s0_3.1)]) rfl rfl rfl (wantB_t _) rfl (by decide) (fun hp hS => (hS.conv (t := 23) rfl (cond_t hp)).sub (ts := [23]) rfl) (fun hp => Ob_c tRlW rfl) ?_; clear Z a; intro a Z
 refine s_ob Z (v := .bool (((s0.1 == 0) && (s0_2.1 == 0)) && (s0_3.1 == 0))) rfl rfl (by decide) rfl (Ob_pick rfl rfl rfl rfl (pick_and _ _)) ?_; clear Z a; intro a Z
 refine s_runk tRlW Z 1 rfl rfl ?_; clear Z a; intro a Z
 refine g_ob Z (p := (((s0.1 == 0) && (s0_2.1 == 0)) && (s0_3.1 == 0))) (v := .pointer (some ⟨g1, 0, none⟩)) (S' := [(1, .pointer (some ⟨g1, 0, none⟩))]) rfl rfl rfl (wantB_t _) rfl (by decide) (fun hp hS => hS.sub (ts := [1]) rfl) (fun hp => Ob_c tRlW rfl) ?_; clear Z a; intro a Z
 refine h_gcall Z H (js := [(0, false)]) rfl (p := (((s0.1 == 0) && (s0_2.1 == 0)) && (s0_3.1 == 0))) (v := .int .i64 l) (S' := [(27, .pointer (some ⟨g1, 0, none⟩))]) (caps := #[]) (fun _ => [OErlog_Log g1 s0_3.2]) fn_11_YRlW rfl rfl rfl (wantB_t _) rfl (by decide) (fun hp hS => (hS.conv (t := 27) rfl (cond_t hp)).sub (ts := [27]) rfl) rfl rfl rfl rfl (fun hp D1 hS => have hq := c_rlog_Log_Len (gif_in hx5 hp) hS; hq) (fun hp => H.sub [(0, false), (0, true), (1, true)] rfl) ?_; clear Z a H; intro a w5 I5 H Z
 replace H : Hf I D w I5 w5 [OErlog_Log g1 s0_3.2, SlC NEOp (.slice none 0 0) ([] : List EOp), SlC NEOp (.slice none 0 0) ([] : List EOp)] := H
 refine g_ob Z (p := (((s0.1 == 0) && (s0_2.1 == 0)) && (s0_3.1 == 0))) (v := .bool (l == 2)) (S' := [(28, .int .i64 l)]) rfl rfl rfl (wantB_t _) rfl (by decide) (fun hp hS => (hS.conv (t := 28) rfl (cond_t hp)).sub (ts := [28]) rfl) (fun hp => Ob_c tRlW rfl) ?_; clear Z a; intro a Z
 refine s_ob Z (v := .bool ((((s0.1 == 0) && (s0_2.1 == 0)) && (s0_3.1 == 0)) && (l == 2))) rfl rfl (by decide) rfl (Ob_pick rfl rfl rfl rfl (pick_and _ _)) ?_; clear Z a; intro a Z
 refine s_runk tRlW Z 1 rfl rfl ?_; clear Z a; intro a Z
 refine g_ob Z (p := ((((s0.1 == 0) && (s0_2.1 == 0)) && (s0_3.1 == 0)) && (l == 2))) (v := .pointer (some ⟨g1, 0, none⟩)) (S' := [(1, .pointer (some ⟨g1, 0, none⟩))]) rfl rfl rfl (wantB_t _) rfl (by decide) (fun hp hS => hS.sub (ts := [1]) rfl) (fun hp => Ob_c tRlW rfl) ?_; clear Z a; intro a Z
 refine h_gcall Z H (js := [(0, false)]) rfl (p := ((((s0.1 == 0) && (s0_2.1 == 0)) && (s0_3.1 == 0)) && (l == 2))) (v := .int .i64 s0_4) (S' := [(32, .pointer (some ⟨g1, 0, none⟩))]) (caps := #[]) (fun _ => [OErlog_Log g1 s0_3.2]) fn_12_YRlW rfl rfl rfl (wantB_t _) rfl (by decide) (fun hp hS => (hS.conv (t := 32) rfl (cond_t hp)).sub (ts := [32]) rfl) rfl rfl rfl rfl (fun hp D1 hS => have hq := c_rlog_Log_Stamped (gif_in hx6 hp) hS; hq) (fun hp => H.sub [(0, false), (0, true), (1, true)] rfl) ?_; clear Z a H; intro a w6 I6 H Z
 replace H : Hf I D w I6 w6 [OErlog_Log g1 s0_3.2, SlC NEOp (.slice none 0 0) ([] : List EOp), SlC NEOp (.slice none 0 0) ([] : List EOp)] := H
 refine g_ob Z (p := ((((s0.1 == 0) && (s0_2.1 == 0)) && (s0_3.1 == 0)) && (l == 2))) (v := .bool (s0_4 == 1)) (S' := [(33, .int .i64 s0_4)]) rfl rfl rfl (wantB_t _) rfl (by decide) (fun hp hS => (hS.conv (t := 33) rfl (cond_t hp)).sub (ts := [33]) rfl) (fun hp => Ob_c tRlW rfl) ?_; clear Z a; intro a Z
 refine s_ob Z (v := .bool (((((s0.1 == 0) && (s0_2.1 == 0)) && (s0_3.1 == 0)) && (l == 2)) && (s0_4 == 1))) rfl rfl (by decide) rfl (Ob_pick rfl rfl rfl rfl (pick_and _ _)) ?_; clear Z a; intro a Z
 refine s_runk tRlW Z 1 rfl rfl ?_; clear Z a; intro a Z
 refine g_ob Z (p := (((((s0.1 == 0) && (s0_2.1 == 0)) && (s0_3.1 == 0)) && (l == 2)) && (s0_4 == 1))) (v := .pointer (some ⟨g1, 0, none⟩)) (S' := [(1, .pointer (some ⟨g1, 0, none⟩))]) rfl rfl rfl (wantB_t _) rfl (by decide) (fun hp hS => hS.sub (ts := [1]) rfl) (fun hp => Ob_c tRlW rfl) ?_; clear Z a; intro a Z
 refine h_gcall Z H (js := [(0, false)]) rfl (p := (((((s0.1 == 0) && (s0_2.1 == 0)) && (s0_3.1 == 0)) && (l == 2)) && (s0_4 == 1))) (v := .int .i64 f.1) (S' := [(37, .pointer (some ⟨g1, 0, none⟩))]) (caps := #[]) (fun qq => [OErlog_Log g1 (cond qq f.2 s0_3.2)]) fn_8_YRlW rfl rfl rfl (wantB_t _) rfl (by decide) (fun hp hS => (hS.conv (t := 37) rfl (cond_t hp)).sub (ts := [37]) rfl) rfl rfl rfl rfl (fun hp D1 hS => have hq := c_rlog_Log_Find (gif_in hx7 hp) hS; hq) (fun hp => H.sub [(0, false), (0, true), (1, true)] rfl) ?_; clear Z a H; intro a w7 I7 H Z
 replace H : Hf I D w I7 w7 [OErlog_Log g1 (cond (((((s0.1 == 0) && (s0_2.1 == 0)) && (s0_3.1 == 0)) && (l == 2)) && (s0_4 == 1)) f.2 s0_3.2), SlC NEOp (.slice none 0 0) ([] : List EOp), SlC NEOp (.slice none 0 0) ([] : List EOp)] := H
 refine g_ob Z (p := (((((s0.1 == 0) && (s0_2.1 == 0)) && (s0_3.1 == 0)) && (l == 2)) && (s0_4 == 1))) (v := .bool (f.1 == 1)) (S' := [(38, .int .i64 f.1)]) rfl rfl rfl (wantB_t _) rfl (by decide) (fun hp hS => (hS.conv (t := 38) rfl (cond_t hp)).sub (ts := [38]) rfl) (fun hp => Ob_c tRlW rfl) ?_; clear Z a; intro a Z
 refine s_ob Z (v := .bool ((((((s0.1 == 0) && (s0_2.1 == 0)) && (s0_3.1 == 0)) && (l == 2)) && (s0_4 == 1)) && (f.1 == 1))) rfl rfl (by decide) rfl (Ob_pick rfl rfl rfl rfl (pick_and _ _)) ?_; clear Z a; intro a Z
 refine s_runk tRlW Z 1 rfl rfl ?_; clear Z a; intro a Z
 refine g_ob Z (p := ((((((s0.1 == 0) && (s0_2.1 == 0)) && (s0_3.1 == 0)) && (l == 2)) && (s0_4 == 1)) && (f.1 == 1))) (v := .pointer (some ⟨g1, 0, none⟩)) (S' := [(1, .pointer (some ⟨g1, 0, none⟩))]) rfl rfl rfl (wantB_t _) rfl (by decide) (fun hp hS => hS.sub (ts := [1]) rfl) (fun hp => Ob_c tRlW rfl) ?_; clear Z a; intro a Z
 refine h_gcall Z H (js := [(0, false)]) rfl (p := ((((((s0.1 == 0) && (s0_2.1 == 0)) && (s0_3.1 == 0)) && (l == 2)) && (s0_4 == 1)) && (f.1 == 1))) (v := .int .i64 t.1) (S' := [(42, .pointer (some ⟨g1, 0, none⟩))]) (caps := #[]) (fun qq => [OErlog_Log g1 (cond qq t.2 (cond (((((s0.1 == 0) && (s0_2.1 == 0)) && (s0_3.1 == 0)) && (l == 2)) && (s0_4 == 1)) f.2 s0_3.2))]) fn_9_YRlW rfl rfl rfl (wantB_t _) rfl (by decide) (fun hp hS => (hS.conv (t := 42) rfl (cond_t hp)).sub (ts := [42]) rfl) rfl rfl rfl rfl (fun hp D1 hS => have hq := c_rlog_Log_Top (gif_in hx8 hp) hS; hq) (fun hp => H.sub [(0, false), (0, true), (1, true)] rfl) ?_; clear Z a H; intro a w8 I8 H Z
 replace H : Hf I D w I8 w8 [OErlog_Log g1 (cond ((((((s0.1 == 0) && (s0_2.1 == 0)) && (s0_3.1 == 0)) && (l == 2)) && (s0_4 == 1)) && (f.1 == 1)) t.2 (cond (((((s0.1 == 0) && (s0_2.1 == 0)) && (s0_3.1 == 0)) && (l == 2)) && (s0_4 == 1)) f.2 s0_3.2)), SlC NEOp (.slice none 0 0) ([] : List EOp), SlC NEOp (.slice none 0 0) ([] : List EOp)] := H
 refine g_ob Z (p := ((((((s0.1 == 0) && (s0_2.1 == 0)) && (s0_3.1 == 0)) && (l == 2)) && (s0_4 == 1)) && (f.1 == 1))) (v := .bool (t.1 == 2)) (S' := [(43, .int .i64 t.1)]) rfl rfl rfl (wantB_t _) rfl (by decide) (fun hp hS => (hS.conv (t := 43) rfl (cond_t hp)).sub (ts := [43]) rfl) (fun hp => Ob_c tRlW rfl) ?_; clear Z a; intro a Z
 refine s_ob Z (v := .bool (((((((s0.1 == 0) && (s0_2.1 == 0)) && (s0_3.1 == 0)) && (l == 2)) && (s0_4 == 1)) && (f.1 == 1)) && (t.1 == 2))) rfl rfl (by decide) rfl (Ob_pick rfl rfl rfl rfl (pick_and _ _)) ?_; clear Z a; intro a Z
 refine s_runk tRlW Z 1 rfl rfl ?_; clear Z a; intro a Z
 refine s_end Z [0] rfl ?_; clear Z; intro Z
 refine p_then (wp_ret ?_)
 obtain rfl := some_in hF
 exact f_ret Z (run_results1 rfl Z rfl) ⟨rfl, I8, (H.sub [] rfl).eq rfl⟩

def F_rlog_Log_may_nil (i : Int) (e : EEntry) : Option Int := none

set_option maxHeartbeats 1000000 in
theorem c_rlog_Log_may_nil {I D : Dm} {i : Int} {e : EEntry} {v1_e : Value} {w : World} {rr : Int} (hF : F_rlog_Log_may_nil i e = some rr) (H : St I D w [SlC NEOp v1_e e.batch.ops]) :
  Calls Try.prog 17 #[.pointer none, .int .i64 i, .agg #[.int .i64 e.batch.client, .int .i64 e.batch.req, v1_e, .int .u64 e.ts]] w (Ret fun vv w' => vv = .int .i64 rr ∧ ∃ I', Hf I D w I' w' []) := by
 replace H := H.hf
 unfold F_rlog_Log_may_nil at hF
 refine f_enter 77 Try.func17 rfl rfl (Nat.le_of_ble_eq_true rfl) fun a Z => ?_
 replace Z := Z.sub (ts := [0, 1, 2]) rfl
 refine wp_seq (f_region Z ?_); clear Z; intro Z
 refine h_boxv Z H (cl := [.int .i64 e.batch.client, .int .i64 e.batch.req, v1_e, .int .u64 e.ts]) rfl rfl rfl (by decide) rfl rfl rfl ?_; clear Z a H; intro a w1 b1 H Z
 refine s_runk tRlW Z 1 rfl rfl ?_; clear Z a; intro a Z
 refine s_end Z [0, 1, 5, 6] rfl ?_; clear Z; intro Z
 refine p_then (wp_seq ?_)
 refine wp_seq ?_
 cases hF

def F_rlog_Log_Set_nil (i : Int) (e : EEntry) : Option Int := (F_rlog_Log_none_nil).bind fun n0 => (if (n0) = true then (some 8) else ((F_rlog_Log_may_nil i e).bind fun n0_2 => (if (n0_2 != 0) = true then (some n0_2) else (none))))

set_option maxHeartbeats 1000000 in
theorem c_rlog_Log_Set_nil {I D : Dm} {i : Int} {e : EEntry} {v1_e : Value} {w : World} {rr : Int} (hF : F_rlog_Log_Set_nil i e = some rr) (H : St I D w [SlC NEOp v1_e e.batch.ops]) :
  Calls Try.prog 6 #[.pointer none, .int .i64 i, .agg #[.int .i64 e.batch.client, .int .i64 e.batch.req, v1_e, .int .u64 e.ts]] w (Ret fun vv w' => vv = .int .i64 rr ∧ ∃ I', Hf I D w I' w' []) := by
 replace H := H.hf
 unfold F_rlog_Log_Set_nil at hF
 refine f_enter 107 Try.func6 rfl rfl (Nat.le_of_ble_eq_true rfl) fun a Z => ?_
 replace Z := Z.sub (ts := [0, 1, 2]) rfl
 refine wp_seq (f_region Z ?_); clear Z; intro Z
 refine h_boxv Z H (cl := [.int .i64 e.batch.client, .int .i64 e.batch.req, v1_e, .int .u64 e.ts]) rfl rfl rfl (by decide) rfl rfl rfl ?_; clear Z a H; intro a w1 b1 H Z
 refine s_runk tRlW Z 1 rfl rfl ?_; clear Z a; intro a Z
 refine s_end Z [0, 1, 5, 6] rfl ?_; clear Z; intro Z
 refine p_then (wp_seq ?_)
 refine wp_seq ?_
 obtain ⟨n0, hx1, hF⟩ := bnd_in hF
 refine f_region Z ?_; clear Z; intro Z
 refine s_runk tRlW Z 1 rfl rfl ?_; clear Z a; intro a Z
 refine h_call Z H (js := []) rfl (caps := #[]) fn_15_YRlW rfl rfl rfl rfl rfl (by decide) rfl rfl (fun D1 hS => have hq := c_rlog_Log_none_nil hx1 hS; hq) ?_; clear Z a; intro vv a w2 D2 hr hF2 Z
 obtain ⟨rfl, I1, K⟩ := hr
 have H : Hf I D w I1 w2 [BxC b1 27 (cEEntry e v1_e), SlC NEOp v1_e e.batch.ops] := hF2 K
 clear hF2 K
 refine s_end Z [0, 1, 5, 6, 10] rfl ?_; clear Z; intro Z
 refine p_then ?_
 refine f_cond Z rfl (fun hc1 => ?_) (fun hc1 => ?_)
 ·replace hF := ite_t hc1 hF
  refine wp_seq (f_region Z ?_); clear Z; intro Z
  refine s_runk tRlW Z 1 rfl rfl ?_; clear Z a; intro a Z
  refine s_end Z [0, 1, 5, 6] rfl ?_; clear Z; intro Z
  refine p_then (wp_ret ?_)
  refine p_then_r ?_
  obtain rfl := some_in hF
  exact f_ret Z (run_results1 rfl Z rfl) ⟨rfl, I1, (H.sub [] rfl).eq rfl⟩
 ·replace hF := ite_f hc1 hF
  refine wp_skip ?_
  refine p_then (wp_seq ?_)
  refine wp_seq ?_
  obtain ⟨n0_2, hx2, hF⟩ := bnd_in hF
  refine f_region Z ?_; clear Z; intro Z
  refine s_runk tRlW Z 2 rfl rfl ?_; clear Z a; intro a Z
  refine s_ob Z (v := .agg #[.int .i64 e.batch.client, .int .i64 e.batch.req, v1_e, .int .u64 e.ts]) rfl rfl (by decide) rfl (Ob_loads tRlW rfl rfl rfl ((H.bx 0 rfl).part 0 rfl)) ?_; clear Z a; intro a Z
  refine h_call Z H (js := [(1, true)]) rfl (caps := #[]) fn_17_YRlW rfl rfl rfl rfl rfl (by decide) rfl rfl (fun D1 hS => have hq := c_rlog_Log_may_nil hx2 hS; hq) ?_; clear Z a; intro vv a w3 D2 hr hF2 Z
  obtain ⟨rfl, I2, K⟩ := hr
  have H : Hf I D w I2 w3 [BxC b1 27 (cEEntry e v1_e), SlC NEOp v1_e e.batch.ops] := hF2 K
  clear hF2 K
  refine s_runk tRlW Z 1 rfl rfl ?_; clear Z a; intro a Z
  refine s_end Z [0, 1, 5, 6, 7] rfl ?_; clear Z; intro Z
  refine p_then (wp_seq (f_region Z ?_)); clear Z; intro Z
  refine s_runk tRlW Z 2 rfl rfl ?_; clear Z a; intro a Z
  refine s_end Z [0, 1, 5, 6, 7, 16] rfl ?_; clear Z; intro Z
  refine p_then ?_
  refine f_cond Z rfl (fun hc2 => ?_) (fun hc2 => ?_)
  ·replace hF := ite_t hc2 hF
   refine wp_seq (f_region Z ?_); clear Z; intro Z
   refine s_runk tRlW Z 2 rfl rfl ?_; clear Z a; intro a Z
   refine s_end Z [0, 1, 5, 6] rfl ?_; clear Z; intro Z
   refine p_then (wp_ret ?_)
   refine p_then_r ?_
   obtain rfl := some_in hF
   exact f_ret Z (run_results1 rfl Z rfl) ⟨rfl, I2, (H.sub [] rfl).eq rfl⟩
  ·replace hF := ite_f hc2 hF
   refine wp_skip ?_
   refine p_then (wp_seq ?_)
   refine wp_seq ?_
   cases hF

def F_rlog_Log_Stamp_nil (i : Int) (ts : Int) : Option Int := (F_rlog_Log_none_nil).bind fun n0 => (if (n0) = true then (some 8) else (none))

set_option maxHeartbeats 1000000 in
theorem c_rlog_Log_Stamp_nil {I D : Dm} {i : Int} {ts : Int} {w : World} {rr : Int} (hF : F_rlog_Log_Stamp_nil i ts = some rr) (H : St I D w []) :
  Calls Try.prog 7 #[.pointer none, .int .i64 i, .int .u64 ts] w (Ret fun vv w' => vv = .int .i64 rr ∧ ∃ I', Hf I D w I' w' []) := by
 replace H := H.hf
 unfold F_rlog_Log_Stamp_nil at hF
 refine f_enter 56 Try.func7 rfl rfl (Nat.le_of_ble_eq_true rfl) fun a Z => ?_
 replace Z := Z.sub (ts := [0, 1, 2]) rfl
 refine wp_seq (f_region Z ?_); clear Z; intro Z
 refine s_runk tRlW Z 1 rfl rfl ?_; clear Z a; intro a Z
 refine s_end Z [0, 1, 2, 6] rfl ?_; clear Z; intro Z
 refine p_then (wp_seq ?_)
 refine wp_block ?_
 refine wp_seq ?_
 obtain ⟨n0, hx1, hF⟩ := bnd_in hF
 refine f_region Z ?_; clear Z; intro Z
 refine s_runk tRlW Z 1 rfl rfl ?_; clear Z a; intro a Z
 refine h_call Z H (js := []) rfl (caps := #[]) fn_15_YRlW rfl rfl rfl rfl rfl (by decide) rfl rfl (fun D1 hS => have hq := c_rlog_Log_none_nil hx1 hS; hq) ?_; clear Z a; intro vv a w1 D2 hr hF2 Z
 obtain ⟨rfl, I1, K⟩ := hr
 have H : Hf I D w I1 w1 [] := hF2 K
 clear hF2 K
 refine s_runk tRlW Z 1 rfl rfl ?_; clear Z a; intro a Z
 refine s_end Z [0, 1, 2, 6, 7] rfl ?_; clear Z; intro Z
 refine p_then ?_
 refine f_cond Z rfl (fun hc1 => ?_) (fun hc1 => ?_)
 ·replace hF := ite_t hc1 hF
  refine wp_seq (f_region Z ?_); clear Z; intro Z
  refine s_runk tRlW Z 1 rfl rfl ?_; clear Z a; intro a Z
  refine s_end Z [0, 1, 2, 6] rfl ?_; clear Z; intro Z
  refine p_then (wp_ret ?_)
  refine p_blk_r ?_
  refine p_then_r ?_
  obtain rfl := some_in hF
  exact f_ret Z (run_results1 rfl Z rfl) ⟨rfl, I1, (H.sub [] rfl).eq rfl⟩
 ·replace hF := ite_f hc1 hF
  refine wp_seq ?_
  cases hF

def F_rlog_Log_Find_nil (client : Int) (req : Int) : Option Int := (F_rlog_Log_none_nil).bind fun n0 => (if (n0) = true then (some (-1)) else (none))

set_option maxHeartbeats 1000000 in
theorem c_rlog_Log_Find_nil {I D : Dm} {client : Int} {req : Int} {w : World} {rr : Int} (hF : F_rlog_Log_Find_nil client req = some rr) (H : St I D w []) :
  Calls Try.prog 8 #[.pointer none, .int .i64 client, .int .i64 req] w (Ret fun vv w' => vv = .int .i64 rr ∧ ∃ I', Hf I D w I' w' []) := by
 replace H := H.hf
 unfold F_rlog_Log_Find_nil at hF
 refine f_enter 24 Try.func8 rfl rfl (Nat.le_of_ble_eq_true rfl) fun a Z => ?_
 replace Z := Z.sub (ts := [0, 1, 2]) rfl
 refine wp_seq (f_region Z ?_); clear Z; intro Z
 refine s_runk tRlW Z 1 rfl rfl ?_; clear Z a; intro a Z
 refine s_end Z [0, 1, 2, 6] rfl ?_; clear Z; intro Z
 refine p_then (wp_seq ?_)
 refine wp_seq ?_
 obtain ⟨n0, hx1, hF⟩ := bnd_in hF
 refine f_region Z ?_; clear Z; intro Z
 refine s_runk tRlW Z 1 rfl rfl ?_; clear Z a; intro a Z
 refine h_call Z H (js := []) rfl (caps := #[]) fn_15_YRlW rfl rfl rfl rfl rfl (by decide) rfl rfl (fun D1 hS => have hq := c_rlog_Log_none_nil hx1 hS; hq) ?_; clear Z a; intro vv a w1 D2 hr hF2 Z
 obtain ⟨rfl, I1, K⟩ := hr
 have H : Hf I D w I1 w1 [] := hF2 K
 clear hF2 K
 refine s_end Z [0, 1, 2, 6, 10] rfl ?_; clear Z; intro Z
 refine p_then ?_
 refine f_cond Z rfl (fun hc1 => ?_) (fun hc1 => ?_)
 ·replace hF := ite_t hc1 hF
  refine wp_seq (f_region Z ?_); clear Z; intro Z
  refine s_runk tRlW Z 1 rfl rfl ?_; clear Z a; intro a Z
  refine s_end Z [0, 1, 2, 6] rfl ?_; clear Z; intro Z
  refine p_then (wp_ret ?_)
  refine p_then_r ?_
  obtain rfl := some_in hF
  exact f_ret Z (run_results1 rfl Z rfl) ⟨rfl, I1, (H.sub [] rfl).eq rfl⟩
 ·replace hF := ite_f hc1 hF
  refine wp_skip ?_
  refine p_then (wp_seq ?_)
  refine wp_seq ?_
  cases hF

def F_rlog_Log_Top_nil (client : Int) : Option Int := (F_rlog_Log_none_nil).bind fun n0 => (if (n0) = true then (some 0) else (none))

set_option maxHeartbeats 1000000 in
theorem c_rlog_Log_Top_nil {I D : Dm} {client : Int} {w : World} {rr : Int} (hF : F_rlog_Log_Top_nil client = some rr) (H : St I D w []) :
  Calls Try.prog 9 #[.pointer none, .int .i64 client] w (Ret fun vv w' => vv = .int .i64 rr ∧ ∃ I', Hf I D w I' w' []) := by
 replace H := H.hf
 unfold F_rlog_Log_Top_nil at hF
 refine f_enter 27 Try.func9 rfl rfl (Nat.le_of_ble_eq_true rfl) fun a Z => ?_
 replace Z := Z.sub (ts := [0, 1]) rfl
 refine wp_seq (f_region Z ?_); clear Z; intro Z
 refine s_runk tRlW Z 1 rfl rfl ?_; clear Z a; intro a Z
 refine s_end Z [0, 1, 4] rfl ?_; clear Z; intro Z
 refine p_then (wp_seq ?_)
 refine wp_seq ?_
 obtain ⟨n0, hx1, hF⟩ := bnd_in hF
 refine f_region Z ?_; clear Z; intro Z
 refine s_runk tRlW Z 1 rfl rfl ?_; clear Z a; intro a Z
 refine h_call Z H (js := []) rfl (caps := #[]) fn_15_YRlW rfl rfl rfl rfl rfl (by decide) rfl rfl (fun D1 hS => have hq := c_rlog_Log_none_nil hx1 hS; hq) ?_; clear Z a; intro vv a w1 D2 hr hF2 Z
 obtain ⟨rfl, I1, K⟩ := hr
 have H : Hf I D w I1 w1 [] := hF2 K
 clear hF2 K
 refine s_end Z [0, 1, 4, 8] rfl ?_; clear Z; intro Z
 refine p_then ?_
 refine f_cond Z rfl (fun hc1 => ?_) (fun hc1 => ?_)
 ·replace hF := ite_t hc1 hF
  refine wp_seq (f_region Z ?_); clear Z; intro Z
  refine s_runk tRlW Z 1 rfl rfl ?_; clear Z a; intro a Z
  refine s_end Z [0, 1, 4] rfl ?_; clear Z; intro Z
  refine p_then (wp_ret ?_)
  refine p_then_r ?_
  obtain rfl := some_in hF
  exact f_ret Z (run_results1 rfl Z rfl) ⟨rfl, I1, (H.sub [] rfl).eq rfl⟩
 ·replace hF := ite_f hc1 hF
  refine wp_skip ?_
  refine p_then (wp_seq (f_region Z ?_)); clear Z; intro Z
  refine s_runk tRlW Z 1 rfl rfl ?_; clear Z a; intro a Z
  refine s_end Z [0, 1, 4, 5] rfl ?_; clear Z; intro Z
  refine p_then (wp_seq ?_)
  refine wp_seq ?_
  cases hF

def F_rlog_Log_Len_nil : Option Int := (F_rlog_Log_none_nil).bind fun n0 => (if (n0) = true then (some 0) else (none))

set_option maxHeartbeats 1000000 in
theorem c_rlog_Log_Len_nil {I D : Dm} {w : World} {rr : Int} (hF : F_rlog_Log_Len_nil = some rr) (H : St I D w []) :
  Calls Try.prog 11 #[.pointer none] w (Ret fun vv w' => vv = .int .i64 rr ∧ ∃ I', Hf I D w I' w' []) := by
 replace H := H.hf
 unfold F_rlog_Log_Len_nil at hF
 refine f_enter 10 Try.func11 rfl rfl (Nat.le_of_ble_eq_true rfl) fun a Z => ?_
 replace Z := Z.sub (ts := [0]) rfl
 refine wp_seq (f_region Z ?_); clear Z; intro Z
 refine s_runk tRlW Z 1 rfl rfl ?_; clear Z a; intro a Z
 refine s_end Z [0, 2] rfl ?_; clear Z; intro Z
 refine p_then (wp_seq ?_)
 refine wp_seq ?_
 obtain ⟨n0, hx1, hF⟩ := bnd_in hF
 refine f_region Z ?_; clear Z; intro Z
 refine s_runk tRlW Z 1 rfl rfl ?_; clear Z a; intro a Z
 refine h_call Z H (js := []) rfl (caps := #[]) fn_15_YRlW rfl rfl rfl rfl rfl (by decide) rfl rfl (fun D1 hS => have hq := c_rlog_Log_none_nil hx1 hS; hq) ?_; clear Z a; intro vv a w1 D2 hr hF2 Z
 obtain ⟨rfl, I1, K⟩ := hr
 have H : Hf I D w I1 w1 [] := hF2 K
 clear hF2 K
 refine s_end Z [0, 2, 4] rfl ?_; clear Z; intro Z
 refine p_then ?_
 refine f_cond Z rfl (fun hc1 => ?_) (fun hc1 => ?_)
 ·replace hF := ite_t hc1 hF
  refine wp_seq (f_region Z ?_); clear Z; intro Z
  refine s_runk tRlW Z 1 rfl rfl ?_; clear Z a; intro a Z
  refine s_end Z [0, 2] rfl ?_; clear Z; intro Z
  refine p_then (wp_ret ?_)
  refine p_then_r ?_
  obtain rfl := some_in hF
  exact f_ret Z (run_results1 rfl Z rfl) ⟨rfl, I1, (H.sub [] rfl).eq rfl⟩
 ·replace hF := ite_f hc1 hF
  refine wp_skip ?_
  refine p_then (wp_seq ?_)
  cases hF

def F_rlog_Log_Stamped_nil : Option Int := (F_rlog_Log_none_nil).bind fun n0 => (if (n0) = true then (some 0) else (none))

set_option maxHeartbeats 1000000 in
theorem c_rlog_Log_Stamped_nil {I D : Dm} {w : World} {rr : Int} (hF : F_rlog_Log_Stamped_nil = some rr) (H : St I D w []) :
  Calls Try.prog 12 #[.pointer none] w (Ret fun vv w' => vv = .int .i64 rr ∧ ∃ I', Hf I D w I' w' []) := by
 replace H := H.hf
 unfold F_rlog_Log_Stamped_nil at hF
 refine f_enter 9 Try.func12 rfl rfl (Nat.le_of_ble_eq_true rfl) fun a Z => ?_
 replace Z := Z.sub (ts := [0]) rfl
 refine wp_seq (f_region Z ?_); clear Z; intro Z
 refine s_runk tRlW Z 1 rfl rfl ?_; clear Z a; intro a Z
 refine s_end Z [0, 2] rfl ?_; clear Z; intro Z
 refine p_then (wp_seq ?_)
 refine wp_seq ?_
 obtain ⟨n0, hx1, hF⟩ := bnd_in hF
 refine f_region Z ?_; clear Z; intro Z
 refine s_runk tRlW Z 1 rfl rfl ?_; clear Z a; intro a Z
 refine h_call Z H (js := []) rfl (caps := #[]) fn_15_YRlW rfl rfl rfl rfl rfl (by decide) rfl rfl (fun D1 hS => have hq := c_rlog_Log_none_nil hx1 hS; hq) ?_; clear Z a; intro vv a w1 D2 hr hF2 Z
 obtain ⟨rfl, I1, K⟩ := hr
 have H : Hf I D w I1 w1 [] := hF2 K
 clear hF2 K
 refine s_end Z [0, 2, 4] rfl ?_; clear Z; intro Z
 refine p_then ?_
 refine f_cond Z rfl (fun hc1 => ?_) (fun hc1 => ?_)
 ·replace hF := ite_t hc1 hF
  refine wp_seq (f_region Z ?_); clear Z; intro Z
  refine s_runk tRlW Z 1 rfl rfl ?_; clear Z a; intro a Z
  refine s_end Z [0, 2] rfl ?_; clear Z; intro Z
  refine p_then (wp_ret ?_)
  refine p_then_r ?_
  obtain rfl := some_in hF
  exact f_ret Z (run_results1 rfl Z rfl) ⟨rfl, I1, (H.sub [] rfl).eq rfl⟩
 ·replace hF := ite_f hc1 hF
  refine wp_skip ?_
  refine p_then (wp_seq ?_)
  cases hF

def F_rlog_Log_All_nil : Option (List EEntry) := (F_rlog_Log_none_nil).bind fun n0 => (if (n0) = true then (some ([] : List EEntry)) else (none))

set_option maxHeartbeats 1000000 in
theorem c_rlog_Log_All_nil {I D : Dm} {w : World} {rr : List EEntry} (hF : F_rlog_Log_All_nil = some rr) (H : St I D w []) :
  Calls Try.prog 13 #[.pointer none] w (Ret fun vv w' => ∃ q1 : Value, vv = q1 ∧ ∃ I', Hf I D w I' w' [SlC NEEntry q1 rr]) := by
 replace H := H.hf
 unfold F_rlog_Log_All_nil at hF
 refine f_enter 24 Try.func13 rfl rfl (Nat.le_of_ble_eq_true rfl) fun a Z => ?_
 replace Z := Z.sub (ts := [0]) rfl
 refine wp_seq (f_region Z ?_); clear Z; intro Z
 refine s_runk tRlW Z 1 rfl rfl ?_; clear Z a; intro a Z
 refine s_end Z [0, 2] rfl ?_; clear Z; intro Z
 refine p_then (wp_seq ?_)
 refine wp_seq ?_
 obtain ⟨n0, hx1, hF⟩ := bnd_in hF
 refine f_region Z ?_; clear Z; intro Z
 refine s_runk tRlW Z 1 rfl rfl ?_; clear Z a; intro a Z
 refine h_call Z H (js := []) rfl (caps := #[]) fn_15_YRlW rfl rfl rfl rfl rfl (by decide) rfl rfl (fun D1 hS => have hq := c_rlog_Log_none_nil hx1 hS; hq) ?_; clear Z a; intro vv a w1 D2 hr hF2 Z
 obtain ⟨rfl, I1, K⟩ := hr
 have H : Hf I D w I1 w1 [] := hF2 K
 clear hF2 K
 refine s_end Z [0, 2, 7] rfl ?_; clear Z; intro Z
 refine p_then ?_
 refine f_cond Z rfl (fun hc1 => ?_) (fun hc1 => ?_)
 ·replace hF := ite_t hc1 hF
  refine wp_seq (f_region Z ?_); clear Z; intro Z
  refine s_runk tRlW Z 1 rfl rfl ?_; clear Z a; intro a Z
  refine s_end Z [0, 2] rfl ?_; clear Z; intro Z
  refine p_then (wp_ret ?_)
  refine p_then_r ?_
  replace H : Hf I D w I1 w1 [SlC NEEntry (.slice none 0 0) ([] : List EEntry)] := H.slNil NEEntry
  obtain rfl := some_in hF
  exact f_ret Z (run_results1 rfl Z rfl) ⟨.slice none 0 0, rfl, I1, (H.sub [(0, true)] rfl).eq rfl⟩
 ·replace hF := ite_f hc1 hF
  refine wp_skip ?_
  refine p_then (wp_seq (f_region Z ?_)); clear Z; intro Z
  refine s_runk tRlW Z 1 rfl rfl ?_; clear Z a; intro a Z
  refine s_end Z [0, 2, 3] rfl ?_; clear Z; intro Z
  refine p_then (wp_seq ?_)
  refine wp_seq ?_
  cases hF

def F_law17_RlogZero (i : Int) (e : EEntry) : Option Bool := if (decide ((e.batch.ops.length : Int) > 20)) = true then ((F_law17_awake).bind fun a0 => (some a0)) else ((F_rlog_Log_At_nil i).bind fun a0_2 => ((F_rlog_Log_At (default : Erlog_Log) i).bind fun a0_3 => ((F_rlog_Log_Set_nil i e).bind fun n0 => ((gif (n0 == 8) (F_rlog_Log_Set (default : Erlog_Log) i e) default).bind fun s0 => ((gif ((n0 == 8) && (s0.1 == 8)) (F_rlog_Log_Stamp_nil i e.ts) default).bind fun n0_2 => ((gif (((n0 == 8) && (s0.1 == 8)) && (n0_2 == 8)) (F_rlog_Log_Stamp (cond (n0 == 8) s0.2 (default : Erlog_Log)) i e.ts) default).bind fun s0_2 => ((gif ((((((n0 == 8) && (s0.1 == 8)) && (n0_2 == 8)) && (s0_2.1 == 8)) && (!a0_2.2)) && (!a0_3.2)) (F_rlog_Log_Find_nil i i) default).bind fun n0_3 => ((gif ((((((n0 == 8) && (s0.1 == 8)) && (n0_2 == 8)) && (s0_2.1 == 8)) && (!a0_2.2)) && (!a0_3.2)) (F_rlog_Log_Find (cond (((n0 == 8) && (s0.1 == 8)) && (n0_2 == 8)) s0_2.2 (cond (n0 == 8) s0.2 (default : Erlog_Log))) i i) default).bind fun f => (chk (((((((n0 == 8) && (s0.1 == 8)) && (n0_2 == 8)) && (s0_2.1 == 8)) && (!a0_2.2)) && (!a0_3.2)) = true → inI (n0_3 + f.1)) ((gif (((((((n0 == 8) && (s0.1 == 8)) && (n0_2 == 8)) && (s0_2.1 == 8)) && (!a0_2.2)) && (!a0_3.2)) && ((n0_3 + f.1) == (-2))) (F_rlog_Log_Top_nil i) default).bind fun n0_4 => ((gif (((((((n0 == 8) && (s0.1 == 8)) && (n0_2 == 8)) && (s0_2.1 == 8)) && (!a0_2.2)) && (!a0_3.2)) && ((n0_3 + f.1) == (-2))) (F_rlog_Log_Top (cond ((((((n0 == 8) && (s0.1 == 8)) && (n0_2 == 8)) && (s0_2.1 == 8)) && (!a0_2.2)) && (!a0_3.2)) f.2 (cond (((n0 == 8) && (s0.1 == 8)) && (n0_2 == 8)) s0_2.2 (cond (n0 == 8) s0.2 (default : Erlog_Log)))) i) default).bind fun t => (chk ((((((((n0 == 8) && (s0.1 == 8)) && (n0_2 == 8)) && (s0_2.1 == 8)) && (!a0_2.2)) && (!a0_3.2)) && ((n0_3 + f.1) == (-2))) = true → inI (n0_4 + t.1)) ((gif (((((((n0 == 8) && (s0.1 == 8)) && (n0_2 == 8)) && (s0_2.1 == 8)) && (!a0_2.2)) && (!a0_3.2)) && ((n0_3 + f.1) == (-2))) (F_rlog_Log_Thin_nil e.ts i) default).bind fun n0_5 => (chk ((((((((n0 == 8) && (s0.1 == 8)) && (n0_2 == 8)) && (s0_2.1 == 8)) && (!a0_2.2)) && (!a0_3.2)) && ((n0_3 + f.1) == (-2))) = true → inI (n0_4 + t.1 + n0_5)) ((gif (((((((n0 == 8) && (s0.1 == 8)) && (n0_2 == 8)) && (s0_2.1 == 8)) && (!a0_2.2)) && (!a0_3.2)) && ((n0_3 + f.1) == (-2))) (F_rlog_Log_Thin (cond (((((((n0 == 8) && (s0.1 == 8)) && (n0_2 == 8)) && (s0_2.1 == 8)) && (!a0_2.2)) && (!a0_3.2)) && ((n0_3 + f.1) == (-2))) t.2 (cond ((((((n0 == 8) && (s0.1 == 8)) && (n0_2 == 8)) && (s0_2.1 == 8)) && (!a0_2.2)) && (!a0_3.2)) f.2 (cond (((n0 == 8) && (s0.1 == 8)) && (n0_2 == 8)) s0_2.2 (cond (n0 == 8) s0.2 (default : Erlog_Log))))) e.ts i) default).bind fun t_2 => (chk ((((((((n0 == 8) && (s0.1 == 8)) && (n0_2 == 8)) && (s0_2.1 == 8)) && (!a0_2.2)) && (!a0_3.2)) && ((n0_3 + f.1) == (-2))) = true → inI (n0_4 + t.1 + n0_5 + t_2)) ((gif (((((((n0 == 8) && (s0.1 == 8)) && (n0_2 == 8)) && (s0_2.1 == 8)) && (!a0_2.2)) && (!a0_3.2)) && ((n0_3 + f.1) == (-2))) (F_rlog_Log_Len_nil) default).bind fun n0_6 => (chk ((((((((n0 == 8) && (s0.1 == 8)) && (n0_2 == 8)) && (s0_2.1 == 8)) && (!a0_2.2)) && (!a0_3.2)) && ((n0_3 + f.1) == (-2))) = true → inI (n0_4 + t.1 + n0_5 + t_2 + n0_6)) ((gif (((((((n0 == 8) && (s0.1 == 8)) && (n0_2 == 8)) && (s0_2.1 == 8)) && (!a0_2.2)) && (!a0_3.2)) && ((n0_3 + f.1) == (-2))) (F_rlog_Log_Len (cond (((((((n0 == 8) && (s0.1 == 8)) && (n0_2 == 8)) && (s0_2.1 == 8)) && (!a0_2.2)) && (!a0_3.2)) && ((n0_3 + f.1) == (-2))) t.2 (cond ((((((n0 == 8) && (s0.1 == 8)) && (n0_2 == 8)) && (s0_2.1 == 8)) && (!a0_2.2)) && (!a0_3.2)) f.2 (cond (((n0 == 8) && (s0.1 == 8)) && (n0_2 == 8)) s0_2.2 (cond (n0 == 8) s0.2 (default : Erlog_Log)))))) default).bind fun l => (chk ((((((((n0 == 8) && (s0.1 == 8)) && (n0_2 == 8)) && (s0_2.1 == 8)) && (!a0_2.2)) && (!a0_3.2)) && ((n0_3 + f.1) == (-2))) = true → inI (n0_4 + t.1 + n0_5 + t_2 + n0_6 + l)) ((gif (((((((n0 == 8) && (s0.1 == 8)) && (n0_2 == 8)) && (s0_2.1 == 8)) && (!a0_2.2)) && (!a0_3.2)) && ((n0_3 + f.1) == (-2))) (F_rlog_Log_Stamped_nil) default).bind fun n0_7 => (chk ((((((((n0 == 8) && (s0.1 == 8)) && (n0_2 == 8)) && (s0_2.1 == 8)) && (!a0_2.2)) && (!a0_3.2)) && ((n0_3 + f.1) == (-2))) = true → inI (n0_4 + t.1 + n0_5 + t_2 + n0_6 + l + n0_7)) ((gif (((((((n0 == 8) && (s0.1 == 8)) && (n0_2 == 8)) && (s0_2.1 == 8)) && (!a0_2.2)) && (!a0_3.2)) && ((n0_3 + f.1) == (-2))) (F_rlog_Log_Stamped (cond (((((((n0 == 8) && (s0.1 == 8)) && (n0_2 == 8)) && (s0_2.1 == 8)) && (!a0_2.2)) && (!a0_3.2)) && ((n0_3 + f.1) == (-2))) t.2 (cond ((((((n0 == 8) && (s0.1 == 8)) && (n0_2 == 8)) && (s0_2.1 == 8)) && (!a0_2.2)) && (!a0_3.2)) f.2 (cond (((n0 == 8) && (s0.1 == 8)) && (n0_2 == 8)) s0_2.2 (cond (n0 == 8) s0.2 (default : Erlog_Log)))))) default).bind fun s0_3 => (chk ((((((((n0 == 8) && (s0.1 == 8)) && (n0_2 == 8)) && (s0_2.1 == 8)) && (!a0_2.2)) && (!a0_3.2)) && ((n0_3 + f.1) == (-2))) = true → inI (n0_4 + t.1 + n0_5 + t_2 + n0_6 + l + n0_7 + s0_3)) ((gif (((((((n0 == 8) && (s0.1 == 8)) && (n0_2 == 8)) && (s0_2.1 == 8)) && (!a0_2.2)) && (!a0_3.2)) && ((n0_3 + f.1) == (-2))) (F_rlog_Log_All_nil) default).bind fun n0_8 => (chk ((((((((n0 == 8) && (s0.1 == 8)) && (n0_2 == 8)) && (s0_2.1 == 8)) && (!a0_2.2)) && (!a0_3.2)) && ((n0_3 + f.1) == (-2))) = true → inI (n0_4 + t.1 + n0_5 + t_2 + n0_6 + l + n0_7 + s0_3 + (n0_8.length : Int))) ((gif (((((((n0 == 8) && (s0.1 == 8)) && (n0_2 == 8)) && (s0_2.1 == 8)) && (!a0_2.2)) && (!a0_3.2)) && ((n0_3 + f.1) == (-2))) (F_rlog_Log_All (cond (((((((n0 == 8) && (s0.1 == 8)) && (n0_2 == 8)) && (s0_2.1 == 8)) && (!a0_2.2)) && (!a0_3.2)) && ((n0_3 + f.1) == (-2))) t.2 (cond ((((((n0 == 8) && (s0.1 == 8)) && (n0_2 == 8)) && (s0_2.1 == 8)) && (!a0_2.2)) && (!a0_3.2)) f.2 (cond (((n0 == 8) && (s0.1 == 8)) && (n0_2 == 8)) s0_2.2 (cond (n0 == 8) s0.2 (default : Erlog_Log)))))) default).bind fun a0_4 => (chk ((((((((n0 == 8) && (s0.1 == 8)) && (n0_2 == 8)) && (s0_2.1 == 8)) && (!a0_2.2)) && (!a0_3.2)) && ((n0_3 + f.1) == (-2))) = true → inI (n0_4 + t.1 + n0_5 + t_2 + n0_6 + l + n0_7 + s0_3 + (n0_8.length : Int) + (a0_4.length : Int))) ((gif ((((((((n0 == 8) && (s0.1 == 8)) && (n0_2 == 8)) && (s0_2.1 == 8)) && (!a0_2.2)) && (!a0_3.2)) && ((n0_3 + f.1) == (-2))) && ((n0_4 + t.1 + n0_5 + t_2 + n0_6 + l + n0_7 + s0_3 + (n0_8.length : Int) + (a0_4.length : Int)) == 0)) (F_law17_awake) default).bind fun a0_5 => (some (((((((((n0 == 8) && (s0.1 == 8)) && (n0_2 == 8)) && (s0_2.1 == 8)) && (!a0_2.2)) && (!a0_3.2)) && ((n0_3 + f.1) == (-2))) && ((n0_4 + t.1 + n0_5 + t_2 + n0_6 + l + n0_7 + s0_3 + (n0_8.length : Int) + (a0_4.length : Int)) == 0)) && a0_5)))))))))))))))))))))))))))))))

set_option maxHeartbeats 1000000 in
theorem c_law17_RlogZero {I D : Dm} {i : Int} {e : EEntry} {v1_e : Value} {w : World} {rr : Bool} (hF : F_law17_RlogZero i e = some rr) (H : St I D w [SlC NEOp v1_e e.batch.ops]) :
  Calls Try.prog 3 #[.int .i64 i, .agg #[.int .i64 e.batch.client, .int .i64 e.batch.req, v1_e, .int .u64 e.ts]] w (Ret fun vv w' => vv = .bool rr ∧ ∃ I', Hf I D w I' w' []) := by
 replace H := H.hf
 unfold F_law17_RlogZero at hF
 refine f_enter 118 Try.func3 rfl rfl (Nat.le_of_ble_eq_true rfl) fun a Z => ?_
 replace Z := Z.sub (ts := [0, 1]) rfl
 refine wp_seq (f_region Z ?_); clear Z; intro Z
 refine h_boxv Z H (cl := [.int .i64 e.batch.client, .int .i64 e.batch.req, v1_e, .int .u64 e.ts]) rfl rfl rfl (by decide) rfl rfl rfl ?_; clear Z a H; intro a w1 b1 H Z
 refine s_runk tRlW Z 1 rfl rfl ?_; clear Z a; intro a Z
 refine s_end Z [0, 3, 4] rfl ?_; clear Z; intro Z
 refine p_then (wp_seq ?_)
 refine wp_seq (f_region Z ?_); clear Z; intro Z
 refine s_runk tRlW Z 2 rfl rfl ?_; clear Z a; intro a Z
 refine s_ob Z (v := v1_e) rfl rfl (by decide) rfl (Ob_load tRlW rfl rfl rfl ((H.bx 0 rfl).cell 2 rfl)) ?_; clear Z a; intro a Z
 refine s_ob Z (v := .int .i64 (e.batch.ops.length : Int)) rfl rfl (by decide) rfl (Ob_slen tRlW rfl rfl rfl (H.slshape 1 rfl)) ?_; clear Z a; intro a Z
 refine s_runk tRlW Z 1 rfl rfl ?_; clear Z a; intro a Z
 refine s_end Z [0, 3, 4, 16] rfl ?_; clear Z; intro Z
 refine p_then ?_
 refine f_cond Z rfl (fun hc1 => ?_) (fun hc1 => ?_)
 ·replace hF := ite_t hc1 hF
  refine wp_seq ?_
  obtain ⟨a0, hx1, hF⟩ := bnd_in hF
  refine f_region Z ?_; clear Z; intro Z
  refine h_call Z H (js := []) rfl (caps := #[]) fn_4_YRlW rfl rfl rfl rfl rfl (by decide) rfl rfl (fun D1 hS => have hq := c_law17_awake hx1 hS; hq) ?_; clear Z a; intro vv a w2 D2 hr hF2 Z
  obtain ⟨rfl, I1, K⟩ := hr
  have H : Hf I D w I1 w2 [BxC b1 27 (cEEntry e v1_e), SlC NEOp v1_e e.batch.ops] := hF2 K
  clear hF2 K
  refine s_runk tRlW Z 1 rfl rfl ?_; clear Z a; intro a Z
  refine s_end Z [0, 3, 4] rfl ?_; clear Z; intro Z
  refine p_then (wp_ret ?_)
  refine p_then_r ?_
  obtain rfl := some_in hF
  exact f_ret Z (run_results1 rfl Z rfl) ⟨rfl, I1, (H.sub [] rfl).eq rfl⟩
 ·replace hF := ite_f hc1 hF
  refine wp_skip ?_
  refine p_then (wp_seq (f_region Z ?_)); clear Z; intro Z
  refine s_runk tRlW Z 1 rfl rfl ?_; clear Z a; intro a Z
  refine s_end Z [0, 3, 4, 5] rfl ?_; clear Z; intro Z
  refine p_then (wp_seq (f_region Z ?_)); clear Z; intro Z
  refine h_alloc Z H (cl := [.slice none 0 0, .map none, .int .i64 0]) (z := .agg #[.slice none 0 0, .map none, .int .i64 0]) rfl rfl rfl (by decide) rfl (by kernel_rfl) rfl ?_; clear Z a H; intro a w3 b2 H Z
  refine s_end Z [0, 3, 4, 5, 6] rfl ?_; clear Z; intro Z
  refine p_then (wp_seq ?_)
  obtain ⟨a0_2, hx2, hF⟩ := bnd_in hF
  refine f_region Z ?_; clear Z; intro Z
  refine s_runk tRlW Z 2 rfl rfl ?_; clear Z a; intro a Z
  refine h_call Z H (js := []) rfl (caps := #[]) fn_5_YRlW rfl rfl rfl rfl rfl (by decide) rfl rfl (fun D1 hS => have hq := c_rlog_Log_At_nil hx2 hS; hq) ?_; clear Z a; intro vv a w4 D2 hr hF2 Z
  obtain ⟨q1, rfl, I2, K⟩ := hr
  have H : Hf I D w I2 w4 [SlC NEOp q1 a0_2.1.batch.ops, BxC b2 33 [.slice none 0 0, .map none, .int .i64 0], BxC b1 27 (cEEntry e v1_e), SlC NEOp v1_e e.batch.ops] := hF2 K
  clear hF2 K
  refine s_runk tRlW Z 3 rfl rfl ?_; clear Z a; intro a Z
  refine h_alloc Z H (cl := [.int .i64 0, .int .i64 0, .slice none 0 0, .int .u64 0]) (z := .agg #[.int .i64 0, .int .i64 0, .slice none 0 0, .int .u64 0]) rfl rfl rfl (by decide) rfl (by kernel_rfl) rfl ?_; clear Z a H; intro a w5 b3 H Z
  refine h_store tRlW Z H 0 rfl rfl rfl rfl rfl rfl rfl rfl rfl (one_cons rfl (one_cons rfl (one_cons (slS.one (H.slshape 1 rfl)) (one_cons rfl one_nil)))) (Nat.le_of_ble_eq_true rfl) rfl ?_; clear H; intro w6 H
  dsimp only [List.eraseIdx] at H
  refine s_runk tRlW Z 1 rfl rfl ?_; clear Z a; intro a Z
  refine s_end Z [0, 3, 4, 5, 6, 8] rfl ?_; clear Z; intro Z
  refine p_then (wp_seq ?_)
  obtain ⟨a0_3, hx3, hF⟩ := bnd_in hF
  refine f_region Z ?_; clear Z; intro Z
  refine s_runk tRlW Z 1 rfl rfl ?_; clear Z a; intro a Z
  replace H : Hf I D w I2 w6 [PmC M_31 (.map none) none, BxC b3 27 (cEEntry a0_2.1 q1), SlC NEOp q1 a0_2.1.batch.ops, BxC b2 33 [.slice none 0 0, .map none, .int .i64 0], BxC b1 27 (cEEntry e v1_e), SlC NEOp v1_e e.batch.ops] := H.mkMN M_31
  replace H : Hf I D w I2 w6 [OwC NEEntry 27 (.slice none 0 0) ([] : List EEntry), PmC M_31 (.map none) none, BxC b3 27 (cEEntry a0_2.1 q1), SlC NEOp q1 a0_2.1.batch.ops, BxC b2 33 [.slice none 0 0, .map none, .int .i64 0], BxC b1 27 (cEEntry e v1_e), SlC NEOp v1_e e.batch.ops] := H.nilow NEEntry 27
  replace H : Hf I D w I2 w6 [OErlog_Log b2 (default : Erlog_Log), BxC b3 27 (cEEntry a0_2.1 q1), SlC NEOp q1 a0_2.1.batch.ops, BxC b1 27 (cEEntry e v1_e), SlC NEOp v1_e e.batch.ops] := H.shutX (.slice none 0 0, .map none) [(4, false), (0, false), (0, false)] rfl
  refine h_call Z H (js := [(0, false)]) rfl (caps := #[]) fn_5_YRlW rfl rfl rfl rfl rfl (by decide) rfl rfl (fun D1 hS => have hq := c_rlog_Log_At hx3 hS; hq) ?_; clear Z a; intro vv a w7 D2 hr hF2 Z
  obtain ⟨q2, rfl, I3, K⟩ := hr
  have H : Hf I D w I3 w7 [OErlog_Log b2 (default : Erlog_Log), SlC NEOp q2 a0_3.1.batch.ops, BxC b3 27 (cEEntry a0_2.1 q1), SlC NEOp q1 a0_2.1.batch.ops, BxC b1 27 (cEEntry e v1_e), SlC NEOp v1_e e.batch.ops] := hF2 K
  clear hF2 K
  refine s_runk tRlW Z 3 rfl rfl ?_; clear Z a; intro a Z
  refine h_alloc Z H (cl := [.int .i64 0, .int .i64 0, .slice none 0 0, .int .u64 0]) (z := .agg #[.int .i64 0, .int .i64 0, .slice none 0 0, .int .u64 0]) rfl rfl rfl (by decide) rfl (by kernel_rfl) rfl ?_; clear Z a H; intro a w8 b4 H Z
  refine h_store tRlW Z H 0 rfl rfl rfl rfl rfl rfl rfl rfl rfl (one_cons rfl (one_cons rfl (one_cons (slS.one (H.slshape 2 rfl)) (one_cons rfl one_nil)))) (Nat.le_of_ble_eq_true rfl) rfl ?_; clear H; intro w9 H
  dsimp only [List.eraseIdx] at H
  refine s_runk tRlW Z 1 rfl rfl ?_; clear Z a; intro a Z
  refine s_end Z [0, 3, 4, 5, 6, 8, 10] rfl ?_; clear Z; intro Z
  refine p_then (wp_seq (f_region Z ?_)); clear Z; intro Z
  refine s_runk tRlW Z 1 rfl rfl ?_; clear Z a; intro a Z
  refine s_end Z [0, 3, 4, 5, 6, 8, 10, 11] rfl ?_; clear Z; intro Z
  refine p_then (wp_seq ?_)
  obtain ⟨n0, hx4, hF⟩ := bnd_in hF
  obtain ⟨s0, hx5, hF⟩ := bnd_in hF
  obtain ⟨n0_2, hx6, hF⟩ := bnd_in hF
  obtain ⟨s0_2, hx7, hF⟩ := bnd_in hF
  obtain ⟨n0_3, hx8, hF⟩ := bnd_in hF
  obtain ⟨f, hx9, hF⟩ := bnd_in hF
  obtain ⟨hg1, hF⟩ := chk_in hF
  obtain ⟨n0_4, hx10, hF⟩ := bnd_in hF
  obtain ⟨t, hx11, hF⟩ := bnd_in hF
  obtain ⟨hg2, hF⟩ := chk_in hF
  obtain ⟨n0_5, hx12, hF⟩ := bnd_in hF
  obtain ⟨hg3, hF⟩ := chk_in hF
  obtain ⟨t_2, hx13, hF⟩ := bnd_in hF
  obtain ⟨hg4, hF⟩ := chk_in hF
  obtain ⟨n0_6, hx14, hF⟩ := bnd_in hF
  obtain ⟨hg5, hF⟩ := chk_in hF
  obtain ⟨l, hx15, hF⟩ := bnd_in hF
  obtain ⟨hg6, hF⟩ := chk_in hF
  obtain ⟨n0_7, hx16, hF⟩ := bnd_in hF
  obtain ⟨hg7, hF⟩ := chk_in hF
  obtain ⟨s0_3, hx17, hF⟩ := bnd_in hF
  obtain ⟨hg8, hF⟩ := chk_in hF
  obtain ⟨n0_8, hx18, hF⟩ := bnd_in hF
  obtain ⟨hg9, hF⟩ := chk_in hF
  obtain ⟨a0_4, hx19, hF⟩ := bnd_in hF
  obtain ⟨hg10, hF⟩ := chk_in hF
  obtain ⟨a0_5, hx20, hF⟩ := bnd_in hF
  refine f_regionL Z (by kernel_rfl) (by kernel_rfl) (by decide) (by decide) [9, 26, 45, 54, 65, 70, 75, 78, 81] [(0, 0, 0), (0, 0, 0), (0, 0, 0), (7, 0, 0), (0, 0, 0), (31, 0, 0), (63, 0, 0), (127, 0, 0), (127, 0, 0), (511, 0, 0), (127, 0, 1), (2047, 1, 1), (4095, 1, 1), (8191, 1, 1), (16383, 1, 1), (16383, 1, 1), (16383, 1, 1), (81919, 1, 1), (262143, 1, 1), (16383, 1, 1), (1048575, 1, 1), (2097151, 1, 1), (4194303, 1, 1), (8388607, 1, 1), (8388607, 1, 1), (25165823, 1, 1), (67108863, 1, 1), (8388607, 1, 2), (268435455, 2, 2), (536870911, 2, 2), (1073741823, 2, 2), (2147483647, 2, 2), (4294967295, 2, 2), (8589934591, 2, 2), (17179869183, 2, 2), (34359738367, 2, 2), (68719476735, 2, 2), (137438953471, 2, 2), (274877906943, 2, 2), (549755813887, 2, 2), (549755813887, 2, 2), (549755813887, 2, 2), (4398046511103, 2, 2), (549755813887, 2, 2), (549755813887, 2, 2), (35184372088831, 2, 2), (70368744177663, 3, 3), (140737488355327, 3, 3), (281474976710655, 3, 3), (562949953421311, 3, 3), (1125899906842623, 3, 3), (1125899906842623, 3, 3), (4503599627370495, 3, 3), (1125899906842623, 3, 3), (18014398509481983, 3, 3), (36028797018963967, 4, 9), (1125899906842623, 3, 4), (1125899906842623, 3, 4), (145241087982698495, 3, 4), (1125899906842623, 3, 4), (1116892707587883007, 4, 4), (2305843009213693951, 4, 9), (1125899906842623, 3, 4), (4612811918334230527, 3, 4), (1125899906842623, 3, 4), (34551616341186445311, 4, 4), (73786976294838206463, 5, 9), (1125899906842623, 3, 5), (219019057078281961471, 5, 5), (590295810358705651711, 5, 9), (514166962257634787327, 5, 5), (2361183241434822606847, 6, 9), (1125899906842623, 3, 6), (6417125065844691304447, 6, 6), (18889465931478580854783, 6, 9), (15861858031583981731839, 6, 6), (75557863725914323419135, 7, 9), (1125899906842623, 3, 7), (204756517346369790279679, 7, 7), (506987972250027083956223, 8, 9), (1208925819614629174706175, 8, 9), (506987972250027083956223, 8, 8), (2924839611479285433368575, 9, 9), (9671406556917033397649407, 9, 9), (19342813113834066795298815, 9, 9), (38685626227668133590597631, 9, 9), (77371252455336267181195263, 9, 9), (154742504910672534362390527, 9, 9), (309485009821345068724781055, 9, 9), (618970019642690137449562111, 9, 9)] (by kernel_rfl) (fun jj vv => cond (Nat.blt jj 45) (cond (Nat.blt jj 22) (cond (Nat.blt jj 11) (cond (Nat.blt jj 5) (cond (Nat.blt jj 2) (cond (Nat.blt jj 1) (vv = .pointer none) (vv = .int .i64 i)) (cond (Nat.blt jj 3) (vv = .agg #[.int .i64 e.batch.client, .int .i64 e.batch.req, v1_e, .int .u64 e.ts]) (cond (Nat.blt jj 4) (vv = .int .i64 n0) (vv = .int .i64 8)))) (cond (Nat.blt jj 8) (cond (Nat.blt jj 6) (vv = .bool (n0 == 8)) (cond (Nat.blt jj 7) (vv = .bool (n0 == 8)) (vv = cond (n0 == 8) (.int .i64 i) undef))) (cond (Nat.blt jj 9) (vv = cond (n0 == 8) (.agg #[.int .i64 e.batch.client, .int .i64 e.batch.req, v1_e, .int .u64 e.ts]) undef) (cond (Nat.blt jj 10) (vv = cond (n0 == 8) (.int .i64 s0.1) undef) (vv = cond (n0 == 8) (.int .i64 8) undef))))) (cond (Nat.blt jj 16) (cond (Nat.blt jj 13) (cond (Nat.blt jj 12) (vv = cond (n0 == 8) (.bool (s0.1 == 8)) undef) (vv = .bool ((n0 == 8) && (s0.1 == 8)))) (cond (Nat.blt jj 14) (vv = .bool ((n0 == 8) && (s0.1 == 8))) (cond (Nat.blt jj 15) (vv = cond ((n0 == 8) && (s0.1 == 8)) (.pointer none) undef) (vv = cond ((n0 == 8) && (s0.1 == 8)) (.int .i64 i) undef)))) (cond (Nat.blt jj 19) (cond (Nat.blt jj 17) (vv = cond ((n0 == 8) && (s0.1 == 8)) (.pointer (some ⟨b1, 3, none⟩)) undef) (cond (Nat.blt jj 18) (vv = cond ((n0 == 8) && (s0.1 == 8)) (.int .u64 e.ts) undef) (vv = cond ((n0 == 8) && (s0.1 == 8)) (.int .i64 n0_2) undef))) (cond (Nat.blt jj 20) (vv = cond ((n0 == 8) && (s0.1 == 8)) (.int .i64 8) undef) (cond (Nat.blt jj 21) (vv = cond ((n0 == 8) && (s0.1 == 8)) (.bool (n0_2 == 8)) undef) (vv = .bool (((n0 == 8) && (s0.1 == 8)) && (n0_2 == 8)))))))) (cond (Nat.blt jj 33) (cond (Nat.blt jj 27) (cond (Nat.blt jj 24) (cond (Nat.blt jj 23) (vv = .bool (((n0 == 8) && (s0.1 == 8)) && (n0_2 == 8))) (vv = cond (((n0 == 8) && (s0.1 == 8)) && (n0_2 == 8)) (.int .i64 i) undef)) (cond (Nat.blt jj 25) (vv = cond (((n0 == 8) && (s0.1 == 8)) && (n0_2 == 8)) (.pointer (some ⟨b1, 3, none⟩)) undef) (cond (Nat.blt jj 26) (vv = cond (((n0 == 8) && (s0.1 == 8)) && (n0_2 == 8)) (.int .u64 e.ts) undef) (vv = cond (((n0 == 8) && (s0.1 == 8)) && (n0_2 == 8)) (.int .i64 s0_2.1) undef)))) (cond (Nat.blt jj 30) (cond (Nat.blt jj 28) (vv = cond (((n0 == 8) && (s0.1 == 8)) && (n0_2 == 8)) (.int .i64 8) undef) (cond (Nat.blt jj 29) (vv = cond (((n0 == 8) && (s0.1 == 8)) && (n0_2 == 8)) (.bool (s0_2.1 == 8)) undef) (vv = .bool ((((n0 == 8) && (s0.1 == 8)) && (n0_2 == 8)) && (s0_2.1 == 8))))) (cond (Nat.blt jj 31) (vv = .bool ((((n0 == 8) && (s0.1 == 8)) && (n0_2 == 8)) && (s0_2.1 == 8))) (cond (Nat.blt jj 32) (vv = cond ((((n0 == 8) && (s0.1 == 8)) && (n0_2 == 8)) && (s0_2.1 == 8)) (.bool a0_2.2) undef) (vv = cond ((((n0 == 8) && (s0.1 == 8)) && (n0_2 == 8)) && (s0_2.1 == 8)) (.bool (!a0_2.2)) undef))))) (cond (Nat.blt jj 39) (cond (Nat.blt jj 36) (cond (Nat.blt jj 34) (vv = .bool (((((n0 == 8) && (s0.1 == 8)) && (n0_2 == 8)) && (s0_2.1 == 8)) && (!a0_2.2))) (cond (Nat.blt jj 35) (vv = .bool (((((n0 == 8) && (s0.1 == 8)) && (n0_2 == 8)) && (s0_2.1 == 8)) && (!a0_2.2))) (vv = cond (((((n0 == 8) && (s0.1 == 8)) && (n0_2 == 8)) && (s0_2.1 == 8)) && (!a0_2.2)) (.bool a0_3.2) undef))) (cond (Nat.blt jj 37) (vv = cond (((((n0 == 8) && (s0.1 == 8)) && (n0_2 == 8)) && (s0_2.1 == 8)) && (!a0_2.2)) (.bool (!a0_3.2)) undef) (cond (Nat.blt jj 38) (vv = .bool ((((((n0 == 8) && (s0.1 == 8)) && (n0_2 == 8)) && (s0_2.1 == 8)) && (!a0_2.2)) && (!a0_3.2))) (vv = .bool ((((((n0 == 8) && (s0.1 == 8)) && (n0_2 == 8)) && (s0_2.1 == 8)) && (!a0_2.2)) && (!a0_3.2)))))) (cond (Nat.blt jj 42) (cond (Nat.blt jj 40) (vv = cond ((((((n0 == 8) && (s0.1 == 8)) && (n0_2 == 8)) && (s0_2.1 == 8)) && (!a0_2.2)) && (!a0_3.2)) (.pointer none) undef) (cond (Nat.blt jj 41) (vv = cond ((((((n0 == 8) && (s0.1 == 8)) && (n0_2 == 8)) && (s0_2.1 == 8)) && (!a0_2.2)) && (!a0_3.2)) (.int .i64 i) undef) (vv = cond ((((((n0 == 8) && (s0.1 == 8)) && (n0_2 == 8)) && (s0_2.1 == 8)) && (!a0_2.2)) && (!a0_3.2)) (.int .i64 i) undef))) (cond (Nat.blt jj 43) (vv = cond ((((((n0 == 8) && (s0.1 == 8)) && (n0_2 == 8)) && (s0_2.1 == 8)) && (!a0_2.2)) && (!a0_3.2)) (.int .i64 n0_3) undef) (cond (Nat.blt jj 44) (vv = cond ((((((n0 == 8) && (s0.1 == 8)) && (n0_2 == 8)) && (s0_2.1 == 8)) && (!a0_2.2)) && (!a0_3.2)) (.int .i64 i) undef) (vv = cond ((((((n0 == 8) && (s0.1 == 8)) && (n0_2 == 8)) && (s0_2.1 == 8)) && (!a0_2.2)) && (!a0_3.2)) (.int .i64 i) undef))))))) (cond (Nat.blt jj 67) (cond (Nat.blt jj 56) (cond (Nat.blt jj 50) (cond (Nat.blt jj 47) (cond (Nat.blt jj 46) (vv = cond ((((((n0 == 8) && (s0.1 == 8)) && (n0_2 == 8)) && (s0_2.1 == 8)) && (!a0_2.2)) && (!a0_3.2)) (.int .i64 f.1) undef) (vv = cond ((((((n0 == 8) && (s0.1 == 8)) && (n0_2 == 8)) && (s0_2.1 == 8)) && (!a0_2.2)) && (!a0_3.2)) (.int .i64 (n0_3 + f.1)) undef)) (cond (Nat.blt jj 48) (vv = cond ((((((n0 == 8) && (s0.1 == 8)) && (n0_2 == 8)) && (s0_2.1 == 8)) && (!a0_2.2)) && (!a0_3.2)) (.bool ((n0_3 + f.1) == (-2))) undef) (cond (Nat.blt jj 49) (vv = .bool (((((((n0 == 8) && (s0.1 == 8)) && (n0_2 == 8)) && (s0_2.1 == 8)) && (!a0_2.2)) && (!a0_3.2)) && ((n0_3 + f.1) == (-2)))) (vv = .bool (((((((n0 == 8) && (s0.1 == 8)) && (n0_2 == 8)) && (s0_2.1 == 8)) && (!a0_2.2)) && (!a0_3.2)) && ((n0_3 + f.1) == (-2))))))) (cond (Nat.blt jj 53) (cond (Nat.blt jj 51) (vv = cond (((((((n0 == 8) && (s0.1 == 8)) && (n0_2 == 8)) && (s0_2.1 == 8)) && (!a0_2.2)) && (!a0_3.2)) && ((n0_3 + f.1) == (-2))) (.pointer none) undef) (cond (Nat.blt jj 52) (vv = cond (((((((n0 == 8) && (s0.1 == 8)) && (n0_2 == 8)) && (s0_2.1 == 8)) && (!a0_2.2)) && (!a0_3.2)) && ((n0_3 + f.1) == (-2))) (.int .i64 i) undef) (vv = cond (((((((n0 == 8) && (s0.1 == 8)) && (n0_2 == 8)) && (s0_2.1 == 8)) && (!a0_2.2)) && (!a0_3.2)) && ((n0_3 + f.1) == (-2))) (.int .i64 n0_4) undef))) (cond (Nat.blt jj 54) (vv = cond (((((((n0 == 8) && (s0.1 == 8)) && (n0_2 == 8)) && (s0_2.1 == 8)) && (!a0_2.2)) && (!a0_3.2)) && ((n0_3 + f.1) == (-2))) (.int .i64 i) undef) (cond (Nat.blt jj 55) (vv = cond (((((((n0 == 8) && (s0.1 == 8)) && (n0_2 == 8)) && (s0_2.1 == 8)) && (!a0_2.2)) && (!a0_3.2)) && ((n0_3 + f.1) == (-2))) (.int .i64 t.1) undef) (vv = cond (((((((n0 == 8) && (s0.1 == 8)) && (n0_2 == 8)) && (s0_2.1 == 8)) && (!a0_2.2)) && (!a0_3.2)) && ((n0_3 + f.1) == (-2))) (.int .i64 (n0_4 + t.1)) undef))))) (cond (Nat.blt jj 61) (cond (Nat.blt jj 58) (cond (Nat.blt jj 57) (vv = cond (((((((n0 == 8) && (s0.1 == 8)) && (n0_2 == 8)) && (s0_2.1 == 8)) && (!a0_2.2)) && (!a0_3.2)) && ((n0_3 + f.1) == (-2))) (.pointer none) undef) (vv = cond (((((((n0 == 8) && (s0.1 == 8)) && (n0_2 == 8)) && (s0_2.1 == 8)) && (!a0_2.2)) && (!a0_3.2)) && ((n0_3 + f.1) == (-2))) (.pointer (some ⟨b1, 3, none⟩)) undef)) (cond (Nat.blt jj 59) (vv = cond (((((((n0 == 8) && (s0.1 == 8)) && (n0_2 == 8)) && (s0_2.1 == 8)) && (!a0_2.2)) && (!a0_3.2)) && ((n0_3 + f.1) == (-2))) (.int .u64 e.ts) undef) (cond (Nat.blt jj 60) (vv = cond (((((((n0 == 8) && (s0.1 == 8)) && (n0_2 == 8)) && (s0_2.1 == 8)) && (!a0_2.2)) && (!a0_3.2)) && ((n0_3 + f.1) == (-2))) (.int .i64 i) undef) (vv = cond (((((((n0 == 8) && (s0.1 == 8)) && (n0_2 == 8)) && (s0_2.1 == 8)) && (!a0_2.2)) && (!a0_3.2)) && ((n0_3 + f.1) == (-2))) (.int .i64 n0_5) undef)))) (cond (Nat.blt jj 64) (cond (Nat.blt jj 62) (vv = cond (((((((n0 == 8) && (s0.1 == 8)) && (n0_2 == 8)) && (s0_2.1 == 8)) && (!a0_2.2)) && (!a0_3.2)) && ((n0_3 + f.1) == (-2))) (.int .i64 (n0_4 + t.1 + n0_5)) undef) (cond (Nat.blt jj 63) (vv = cond (((((((n0 == 8) && (s0.1 == 8)) && (n0_2 == 8)) && (s0_2.1 == 8)) && (!a0_2.2)) && (!a0_3.2)) && ((n0_3 + f.1) == (-2))) (.pointer (some ⟨b1, 3, none⟩)) undef) (vv = cond (((((((n0 == 8) && (s0.1 == 8)) && (n0_2 == 8)) && (s0_2.1 == 8)) && (!a0_2.2)) && (!a0_3.2)) && ((n0_3 + f.1) == (-2))) (.int .u64 e.ts) undef))) (cond (Nat.blt jj 65) (vv = cond (((((((n0 == 8) && (s0.1 == 8)) && (n0_2 == 8)) && (s0_2.1 == 8)) && (!a0_2.2)) && (!a0_3.2)) && ((n0_3 + f.1) == (-2))) (.int .i64 i) undef) (cond (Nat.blt jj 66) (vv = cond (((((((n0 == 8) && (s0.1 == 8)) && (n0_2 == 8)) && (s0_2.1 == 8)) && (!a0_2.2)) && (!a0_3.2)) && ((n0_3 + f.1) == (-2))) (.int .i64 t_2) undef) (vv = cond (((((((n0 == 8) && (s0.1 == 8)) && (n0_2 == 8)) && (s0_2.1 == 8)) && (!a0_2.2)) && (!a0_3.2)) && ((n0_3 + f.1) == (-2))) (.int .i64 (n0_4 + t.1 + n0_5 + t_2)) undef)))))) (cond (Nat.blt jj 78) (cond (Nat.blt jj 72) (cond (Nat.blt jj 69) (cond (Nat.blt jj 68) (vv = cond (((((((n0 == 8) && (s0.1 == 8)) && (n0_2 == 8)) && (s0_2.1 == 8)) && (!a0_2.2)) && (!a0_3.2)) && ((n0_3 + f.1) == (-2))) (.pointer none) undef) (vv = cond (((((((n0 == 8) && (s0.1 == 8)) && (n0_2 == 8)) && (s0_2.1 == 8)) && (!a0_2.2)) && (!a0_3.2)) && ((n0_3 + f.1) == (-2))) (.int .i64 n0_6) undef)) (cond (Nat.blt jj 70) (vv = cond (((((((n0 == 8) && (s0.1 == 8)) && (n0_2 == 8)) && (s0_2.1 == 8)) && (!a0_2.2)) && (!a0_3.2)) && ((n0_3 + f.1) == (-2))) (.int .i64 (n0_4 + t.1 + n0_5 + t_2 + n0_6)) undef) (cond (Nat.blt jj 71) (vv = cond (((((((n0 == 8) && (s0.1 == 8)) && (n0_2 == 8)) && (s0_2.1 == 8)) && (!a0_2.2)) && (!a0_3.2)) && ((n0_3 + f.1) == (-2))) (.int .i64 l) undef) (vv = cond (((((((n0 == 8) && (s0.1 == 8)) && (n0_2 == 8)) && (s0_2.1 == 8)) && (!a0_2.2)) && (!a0_3.2)) && ((n0_3 + f.1) == (-2))) (.int .i64 (n0_4 + t.1 + n0_5 + t_2 + n0_6 + l)) undef)))) (cond (Nat.blt jj 75) (cond (Nat.blt jj 73) (vv = cond (((((((n0 == 8) && (s0.1 == 8)) && (n0_2 == 8)) && (s0_2.1 == 8)) && (!a0_2.2)) && (!a0_3.2)) && ((n0_3 + f.1) == (-2))) (.pointer none) undef) (cond (Nat.blt jj 74) (vv = cond (((((((n0 == 8) && (s0.1 == 8)) && (n0_2 == 8)) && (s0_2.1 == 8)) && (!a0_2.2)) && (!a0_3.2)) && ((n0_3 + f.1) == (-2))) (.int .i64 n0_7) undef) (vv = cond (((((((n0 == 8) && (s0.1 == 8)) && (n0_2 == 8)) && (s0_2.1 == 8)) && (!a0_2.2)) && (!a0_3.2)) && ((n0_3 + f.1) == (-2))) (.int .i64 (n0_4 + t.1 + n0_5 + t_2 + n0_6 + l + n0_7)) undef))) (cond (Nat.blt jj 76) (vv = cond (((((((n0 == 8) && (s0.1 == 8)) && (n0_2 == 8)) && (s0_2.1 == 8)) && (!a0_2.2)) && (!a0_3.2)) && ((n0_3 + f.1) == (-2))) (.int .i64 s0_3) undef) (cond (Nat.blt jj 77) (vv = cond (((((((n0 == 8) && (s0.1 == 8)) && (n0_2 == 8)) && (s0_2.1 == 8)) && (!a0_2.2)) && (!a0_3.2)) && ((n0_3 + f.1) == (-2))) (.int .i64 (n0_4 + t.1 + n0_5 + t_2 + n0_6 + l + n0_7 + s0_3)) undef) (vv = cond (((((((n0 == 8) && (s0.1 == 8)) && (n0_2 == 8)) && (s0_2.1 == 8)) && (!a0_2.2)) && (!a0_3.2)) && ((n0_3 + f.1) == (-2))) (.pointer none) undef))))) (cond (Nat.blt jj 84) (cond (Nat.blt jj 81) (cond (Nat.blt jj 79) (vv = cond (((((((n0 == 8) && (s0.1 == 8)) && (n0_2 == 8)) && (s0_2.1 == 8)) && (!a0_2.2)) && (!a0_3.2)) && ((n0_3 + f.1) == (-2))) ((slG vv)) undef) (cond (Nat.blt jj 80) (vv = cond (((((((n0 == 8) && (s0.1 == 8)) && (n0_2 == 8)) && (s0_2.1 == 8)) && (!a0_2.2)) && (!a0_3.2)) && ((n0_3 + f.1) == (-2))) (.int .i64 (n0_8.length : Int)) undef) (vv = cond (((((((n0 == 8) && (s0.1 == 8)) && (n0_2 == 8)) && (s0_2.1 == 8)) && (!a0_2.2)) && (!a0_3.2)) && ((n0_3 + f.1) == (-2))) (.int .i64 (n0_4 + t.1 + n0_5 + t_2 + n0_6 + l + n0_7 + s0_3 + (n0_8.length : Int))) undef))) (cond (Nat.blt jj 82) (vv = cond (((((((n0 == 8) && (s0.1 == 8)) && (n0_2 == 8)) && (s0_2.1 == 8)) && (!a0_2.2)) && (!a0_3.2)) && ((n0_3 + f.1) == (-2))) ((slG vv)) undef) (cond (Nat.blt jj 83) (vv = cond (((((((n0 == 8) && (s0.1 == 8)) && (n0_2 == 8)) && (s0_2.1 == 8)) && (!a0_2.2)) && (!a0_3.2)) && ((n0_3 + f.1) == (-2))) (.int .i64 (a0_4.length : Int)) undef) (vv = cond (((((((n0 == 8) && (s0.1 == 8)) && (n0_2 == 8)) && (s0_2.1 == 8)) && (!a0_2.2)) && (!a0_3.2)) && ((n0_3 + f.1) == (-2))) (.int .i64 (n0_4 + t.1 + n0_5 + t_2 + n0_6 + l + n0_7 + s0_3 + (n0_8.length : Int) + (a0_4.length : Int))) undef)))) (cond (Nat.blt jj 87) (cond (Nat.blt jj 85) (vv = cond (((((((n0 == 8) && (s0.1 == 8)) && (n0_2 == 8)) && (s0_2.1 == 8)) && (!a0_2.2)) && (!a0_3.2)) && ((n0_3 + f.1) == (-2))) (.bool ((n0_4 + t.1 + n0_5 + t_2 + n0_6 + l + n0_7 + s0_3 + (n0_8.length : Int) + (a0_4.length : Int)) == 0)) undef) (cond (Nat.blt jj 86) (vv = .bool ((((((((n0 == 8) && (s0.1 == 8)) && (n0_2 == 8)) && (s0_2.1 == 8)) && (!a0_2.2)) && (!a0_3.2)) && ((n0_3 + f.1) == (-2))) && ((n0_4 + t.1 + n0_5 + t_2 + n0_6 + l + n0_7 + s0_3 + (n0_8.length : Int) + (a0_4.length : Int)) == 0))) (vv = .bool ((((((((n0 == 8) && (s0.1 == 8)) && (n0_2 == 8)) && (s0_2.1 == 8)) && (!a0_2.2)) && (!a0_3.2)) && ((n0_3 + f.1) == (-2))) && ((n0_4 + t.1 + n0_5 + t_2 + n0_6 + l + n0_7 + s0_3 + (n0_8.length : Int) + (a0_4.length : Int)) == 0))))) (cond (Nat.blt jj 88) (vv = cond ((((((((n0 == 8) && (s0.1 == 8)) && (n0_2 == 8)) && (s0_2.1 == 8)) && (!a0_2.2)) && (!a0_3.2)) && ((n0_3 + f.1) == (-2))) && ((n0_4 + t.1 + n0_5 + t_2 + n0_6 + l + n0_7 + s0_3 + (n0_8.length : Int) + (a0_4.length : Int)) == 0)) (.bool a0_5) undef) (cond (Nat.blt jj 89) (vv = .bool (((((((((n0 == 8) && (s0.1 == 8)) && (n0_2 == 8)) && (s0_2.1 == 8)) && (!a0_2.2)) && (!a0_3.2)) && ((n0_3 + f.1) == (-2))) && ((n0_4 + t.1 + n0_5 + t_2 + n0_6 + l + n0_7 + s0_3 + (n0_8.length : Int) + (a0_4.length : Int)) == 0)) && a0_5)) (vv = .bool (((((((((n0 == 8) && (s0.1 == 8)) && (n0_2 == 8)) && (s0_2.1 == 8)) && (!a0_2.2)) && (!a0_3.2)) && ((n0_3 + f.1) == (-2))) && ((n0_4 + t.1 + n0_5 + t_2 + n0_6 + l + n0_7 + s0_3 + (n0_8.length : Int) + (a0_4.length : Int)) == 0)) && a0_5))))))))) (fun ss vals1 xw => match ss with | 0 => Gx I D w I3 w9 xw [BxC b4 27 (cEEntry a0_3.1 q2), OErlog_Log b2 (default : Erlog_Log), SlC NEOp q2 a0_3.1.batch.ops, BxC b3 27 (cEEntry a0_2.1 q1), SlC NEOp q1 a0_2.1.batch.ops, BxC b1 27 (cEEntry e v1_e), SlC NEOp v1_e e.batch.ops] | 1 => Gx I D w I3 w9 xw [OErlog_Log b2 (cond (n0 == 8) s0.2 (default : Erlog_Log)), BxC b4 27 (cEEntry a0_3.1 q2), SlC NEOp q2 a0_3.1.batch.ops, BxC b3 27 (cEEntry a0_2.1 q1), SlC NEOp q1 a0_2.1.batch.ops, BxC b1 27 (cEEntry e v1_e), SlC NEOp v1_e e.batch.ops] | 2 => Gx I D w I3 w9 xw [OErlog_Log b2 (cond (((n0 == 8) && (s0.1 == 8)) && (n0_2 == 8)) s0_2.2 (cond (n0 == 8) s0.2 (default : Erlog_Log))), BxC b4 27 (cEEntry a0_3.1 q2), SlC NEOp q2 a0_3.1.batch.ops, BxC b3 27 (cEEntry a0_2.1 q1), SlC NEOp q1 a0_2.1.batch.ops, BxC b1 27 (cEEntry e v1_e), SlC NEOp v1_e e.batch.ops] | 3 => Gx I D w I3 w9 xw [OErlog_Log b2 (cond ((((((n0 == 8) && (s0.1 == 8)) && (n0_2 == 8)) && (s0_2.1 == 8)) && (!a0_2.2)) && (!a0_3.2)) f.2 (cond (((n0 == 8) && (s0.1 == 8)) && (n0_2 == 8)) s0_2.2 (cond (n0 == 8) s0.2 (default : Erlog_Log)))), BxC b4 27 (cEEntry a0_3.1 q2), SlC NEOp q2 a0_3.1.batch.ops, BxC b3 27 (cEEntry a0_2.1 q1), SlC NEOp q1 a0_2.1.batch.ops, BxC b1 27 (cEEntry e v1_e), SlC NEOp v1_e e.batch.ops] | 4 => Gx I D w I3 w9 xw [OErlog_Log b2 (cond (((((((n0 == 8) && (s0.1 == 8)) && (n0_2 == 8)) && (s0_2.1 == 8)) && (!a0_2.2)) && (!a0_3.2)) && ((n0_3 + f.1) == (-2))) t.2 (cond ((((((n0 == 8) && (s0.1 == 8)) && (n0_2 == 8)) && (s0_2.1 == 8)) && (!a0_2.2)) && (!a0_3.2)) f.2 (cond (((n0 == 8) && (s0.1 == 8)) && (n0_2 == 8)) s0_2.2 (cond (n0 == 8) s0.2 (default : Erlog_Log))))), BxC b4 27 (cEEntry a0_3.1 q2), SlC NEOp q2 a0_3.1.batch.ops, BxC b3 27 (cEEntry a0_2.1 q1), SlC NEOp q1 a0_2.1.batch.ops, BxC b1 27 (cEEntry e v1_e), SlC NEOp v1_e e.batch.ops] | 5 => Gx I D w I3 w9 xw [OErlog_Log b2 (cond (((((((n0 == 8) && (s0.1 == 8)) && (n0_2 == 8)) && (s0_2.1 == 8)) && (!a0_2.2)) && (!a0_3.2)) && ((n0_3 + f.1) == (-2))) t.2 (cond ((((((n0 == 8) && (s0.1 == 8)) && (n0_2 == 8)) && (s0_2.1 == 8)) && (!a0_2.2)) && (!a0_3.2)) f.2 (cond (((n0 == 8) && (s0.1 == 8)) && (n0_2 == 8)) s0_2.2 (cond (n0 == 8) s0.2 (default : Erlog_Log))))), BxC b4 27 (cEEntry a0_3.1 q2), SlC NEOp q2 a0_3.1.batch.ops, BxC b3 27 (cEEntry a0_2.1 q1), SlC NEOp q1 a0_2.1.batch.ops, BxC b1 27 (cEEntry e v1_e), SlC NEOp v1_e e.batch.ops] | 6 => Gx I D w I3 w9 xw [OErlog_Log b2 (cond (((((((n0 == 8) && (s0.1 == 8)) && (n0_2 == 8)) && (s0_2.1 == 8)) && (!a0_2.2)) && (!a0_3.2)) && ((n0_3 + f.1) == (-2))) t.2 (cond ((((((n0 == 8) && (s0.1 == 8)) && (n0_2 == 8)) && (s0_2.1 == 8)) && (!a0_2.2)) && (!a0_3.2)) f.2 (cond (((n0 == 8) && (s0.1 == 8)) && (n0_2 == 8)) s0_2.2 (cond (n0 == 8) s0.2 (default : Erlog_Log))))), BxC b4 27 (cEEntry a0_3.1 q2), SlC NEOp q2 a0_3.1.batch.ops, BxC b3 27 (cEEntry a0_2.1 q1), SlC NEOp q1 a0_2.1.batch.ops, BxC b1 27 (cEEntry e v1_e), SlC NEOp v1_e e.batch.ops] | 7 => Gx I D w I3 w9 xw [OErlog_Log b2 (cond (((((((n0 == 8) && (s0.1 == 8)) && (n0_2 == 8)) && (s0_2.1 == 8)) && (!a0_2.2)) && (!a0_3.2)) && ((n0_3 + f.1) == (-2))) t.2 (cond ((((((n0 == 8) && (s0.1 == 8)) && (n0_2 == 8)) && (s0_2.1 == 8)) && (!a0_2.2)) && (!a0_3.2)) f.2 (cond (((n0 == 8) && (s0.1 == 8)) && (n0_2 == 8)) s0_2.2 (cond (n0 == 8) s0.2 (default : Erlog_Log))))), BxC b4 27 (cEEntry a0_3.1 q2), SlC NEOp q2 a0_3.1.batch.ops, BxC b3 27 (cEEntry a0_2.1 q1), SlC NEOp q1 a0_2.1.batch.ops, BxC b1 27 (cEEntry e v1_e), SlC NEOp v1_e e.batch.ops] | 8 => Gx I D w I3 w9 xw [SlC NEEntry (slG (vals1 78)) n0_8, OErlog_Log b2 (cond (((((((n0 == 8) && (s0.1 == 8)) && (n0_2 == 8)) && (s0_2.1 == 8)) && (!a0_2.2)) && (!a0_3.2)) && ((n0_3 + f.1) == (-2))) t.2 (cond ((((((n0 == 8) && (s0.1 == 8)) && (n0_2 == 8)) && (s0_2.1 == 8)) && (!a0_2.2)) && (!a0_3.2)) f.2 (cond (((n0 == 8) && (s0.1 == 8)) && (n0_2 == 8)) s0_2.2 (cond (n0 == 8) s0.2 (default : Erlog_Log))))), BxC b4 27 (cEEntry a0_3.1 q2), SlC NEOp q2 a0_3.1.batch.ops, BxC b3 27 (cEEntry a0_2.1 q1), SlC NEOp q1 a0_2.1.batch.ops, BxC b1 27 (cEEntry e v1_e), SlC NEOp v1_e e.batch.ops] | _ => Gx I D w I3 w9 xw [OErlog_Log b2 (cond (((((((n0 == 8) && (s0.1 == 8)) && (n0_2 == 8)) && (s0_2.1 == 8)) && (!a0_2.2)) && (!a0_3.2)) && ((n0_3 + f.1) == (-2))) t.2 (cond ((((((n0 == 8) && (s0.1 == 8)) && (n0_2 == 8)) && (s0_2.1 == 8)) && (!a0_2.2)) && (!a0_3.2)) f.2 (cond (((n0 == 8) && (s0.1 == 8)) && (n0_2 == 8)) s0_2.2 (cond (n0 == 8) s0.2 (default : Erlog_Log))))), SlC NEEntry (slG (vals1 81)) a0_4, SlC NEEntry (slG (vals1 78)) n0_8, BxC b4 27 (cEEntry a0_3.1 q2), SlC NEOp q2 a0_3.1.batch.ops, BxC b3 27 (cEEntry a0_2.1 q1), SlC NEOp q1 a0_2.1.batch.ops, BxC b1 27 (cEEntry e v1_e), SlC NEOp v1_e e.batch.ops]) (fun _ => Gx.start H) ?_ ?_
  ·intro fr hfr hfe
   refine .cons (fun ss hlo hhi vals1 xw hG hV => ?_) ?_
   ·obtain rfl : ss = 0 := Nat.le_antisymm hhi hlo
    rw [← hfe]
    have hS := (hfr vals1).sub (ts := [5]) (S' := [(5, .pointer none)]) rfl
    exact L_val hS rfl (Ob_c tRlW rfl) ⟨rfl, hG⟩
   refine .cons (fun ss hlo hhi vals1 xw hG hV => ?_) ?_
   ·obtain rfl : ss = 0 := Nat.le_antisymm hhi hlo
    rw [← hfe]
    have hS := (hfr vals1).sub (ts := [0]) (S' := [(0, .int .i64 i)]) rfl
    exact L_val hS rfl (Ob_c tRlW rfl) ⟨rfl, hG⟩
   refine .cons (fun ss hlo hhi vals1 xw hG hV => ?_) ?_
   ·obtain rfl : ss = 0 := Nat.le_antisymm hhi hlo
    rw [← hfe]
    have hS := (hfr vals1).sub (ts := [3]) (S' := [(3, .pointer (some ⟨b1, 0, none⟩))]) rfl
    obtain ⟨I2, hI2, H⟩ := Gx.ex hG
    exact L_val hS rfl (Ob_loads tRlW rfl rfl rfl ((H.bx 5 rfl).part 0 rfl)) ⟨rfl, hG⟩
   refine .cons (fun ss hlo hhi vals1 xw hG hV => ?_) ?_
   ·obtain rfl : ss = 0 := Nat.le_antisymm hhi hlo
    rw [← hfe]
    have hS := (hfr vals1).sub (ts := [29, 30, 31]) (S' := [(29, vals1 0), (30, vals1 1), (31, vals1 2)]) rfl
    replace hS := hS.conv (t := 29) rfl (show (vals1 0) = .pointer none from hV 0 (by decide))
    replace hS := hS.conv (t := 30) rfl (show (vals1 1) = .int .i64 i from hV 1 (by decide))
    replace hS := hS.conv (t := 31) rfl (show (vals1 2) = .agg #[.int .i64 e.batch.client, .int .i64 e.batch.req, v1_e, .int .u64 e.ts] from hV 2 (by decide))
    obtain ⟨I2, hI2, H⟩ := Gx.ex hG
    refine L_call (caps := #[]) hS fn_6_YRlW rfl rfl rfl rfl rfl ((have hq := c_rlog_Log_Set_nil hx4 ((H).pick0 (js := [(6, true)]) rfl rfl); plainC hq)) fun r yw hr => ?_
    obtain ⟨rfl, hb⟩ := hr
    exact ⟨rfl, Gx.blw hG hb⟩
   refine .cons (fun ss hlo hhi vals1 xw hG hV => ?_) ?_
   ·obtain rfl : ss = 0 := Nat.le_antisymm hhi hlo
    rw [← hfe]
    have hS := (hfr vals1).sub (ts := [11]) (S' := [(11, .int .i64 8)]) rfl
    exact L_val hS rfl (Ob_c tRlW rfl) ⟨rfl, hG⟩
   refine .cons (fun ss hlo hhi vals1 xw hG hV => ?_) ?_
   ·obtain rfl : ss = 0 := Nat.le_antisymm hhi hlo
    rw [← hfe]
    have hS := (hfr vals1).sub (ts := [32, 33]) (S' := [(32, vals1 3), (33, vals1 4)]) rfl
    replace hS := hS.conv (t := 32) rfl (show (vals1 3) = .int .i64 n0 from hV 3 (by decide))
    replace hS := hS.conv (t := 33) rfl (show (vals1 4) = .int .i64 8 from hV 4 (by decide))
    exact L_val hS rfl (Ob_c tRlW rfl) ⟨rfl, hG⟩
   refine .cons (fun ss hlo hhi vals1 xw hG hV => ?_) ?_
   ·obtain rfl : ss = 0 := Nat.le_antisymm hhi hlo
    rw [← hfe]
    have hS := (hfr vals1).sub (ts := [34]) (S' := [(34, vals1 5)]) rfl
    replace hS := hS.conv (t := 34) rfl (show (vals1 5) = .bool (n0 == 8) from hV 5 (by decide))
    exact L_val hS rfl (Ob_c tRlW rfl) ⟨rfl, hG⟩
   refine .cons (fun ss hlo hhi vals1 xw hG hV => ?_) ?_
   ·obtain rfl : ss = 0 := Nat.le_antisymm hhi hlo
    rw [← hfe]
    have hS := (hfr vals1).sub (ts := [35, 0]) (S' := [(35, vals1 6), (0, .int .i64 i)]) rfl
    replace hS := hS.conv (t := 35) rfl (show (vals1 6) = .bool (n0 == 8) from hV 6 (by decide))
    refine L_gw (p := (n0 == 8)) hS rfl rfl rfl (wantB_t _) (fun hp => ?_) (fun hp => ⟨by rw [hp]; rfl, hG⟩)
    exact L_val hS rfl (Ob_c tRlW rfl) ⟨(by rw [hp]; rfl), hG⟩
   refine .cons (fun ss hlo hhi vals1 xw hG hV => ?_) ?_
   ·obtain rfl : ss = 0 := Nat.le_antisymm hhi hlo
    rw [← hfe]
    have hS := (hfr vals1).sub (ts := [35, 3]) (S' := [(35, vals1 6), (3, .pointer (some ⟨b1, 0, none⟩))]) rfl
    replace hS := hS.conv (t := 35) rfl (show (vals1 6) = .bool (n0 == 8) from hV 6 (by decide))
    refine L_gw (p := (n0 == 8)) hS rfl rfl rfl (wantB_t _) (fun hp => ?_) (fun hp => ⟨by rw [hp]; rfl, hG⟩)
    obtain ⟨I2, hI2, H⟩ := Gx.ex hG
    exact L_val hS rfl (Ob_loads tRlW rfl rfl rfl ((H.bx 5 rfl).part 0 rfl)) ⟨(by rw [hp]; rfl), hG⟩
   refine .cons (fun ss hlo hhi vals1 xw hG hV => ?_) ?_
   ·obtain rfl : ss = 0 := Nat.le_antisymm hhi hlo
    rw [← hfe]
    have hS := (hfr vals1).sub (ts := [36, 37, 35, 6]) (S' := [(36, vals1 7), (37, vals1 8), (35, vals1 6), (6, .pointer (some ⟨b2, 0, none⟩))]) rfl
    replace hS := hS.conv (t := 36) rfl (show (vals1 7) = cond (n0 == 8) (.int .i64 i) undef from hV 7 (by decide))
    replace hS := hS.conv (t := 37) rfl (show (vals1 8) = cond (n0 == 8) (.agg #[.int .i64 e.batch.client, .int .i64 e.batch.req, v1_e, .int .u64 e.ts]) undef from hV 8 (by decide))
    replace hS := hS.conv (t := 35) rfl (show (vals1 6) = .bool (n0 == 8) from hV 6 (by decide))
    refine L_gw (p := (n0 == 8)) hS rfl rfl rfl (wantB_t _) (fun hp => ?_) (fun hp => ⟨by rw [hp]; rfl, ?_⟩)
    ·obtain ⟨I2, hI2, H⟩ := Gx.ex hG
     replace hS := hS.conv (t := 36) rfl (cond_t hp)
     replace hS := hS.conv (t := 37) rfl (cond_t hp)
     refine L_hcall H (js := [(1, false), (5, true)]) rfl (caps := #[]) hS fn_6_YRlW rfl rfl rfl rfl rfl (fun D1 hS => have hq := c_rlog_Log_Set (gif_in hx5 hp) hS; hq) fun _ yw D1 hr hF2 => ?_
     obtain ⟨rfl, I3, K⟩ := hr
     obtain ⟨hK, H2⟩ := hF2 K
     exact ⟨by rw [hp]; rfl, by first | (rw [hp] at H2 ⊢; exact Gx.go hG hI2 hK K.imm H2) | (rw [hp]; exact Gx.go hG hI2 hK K.imm H2) | exact Gx.go hG hI2 hK K.imm H2⟩
    ·(try rw [hp]); obtain ⟨I2, hI2, H⟩ := Gx.ex hG; (try rw [hp] at H); exact Gx.go hG hI2 (Keep.refl _ _) (fun _ h => h) (H.sub [(1, false), (0, false), (0, true), (1, false), (1, true), (2, false), (2, true)] rfl)
   refine .cons (fun ss hlo hhi vals1 xw hG hV => ?_) ?_
   ·obtain rfl | rfl : ss = 0 ∨ ss = 1 := st1 hlo hhi
    all_goals
    ·rw [← hfe]
     have hS := (hfr vals1).sub (ts := [35, 11]) (S' := [(35, vals1 6), (11, .int .i64 8)]) rfl
     replace hS := hS.conv (t := 35) rfl (show (vals1 6) = .bool (n0 == 8) from hV 6 (by decide))
     refine L_gw (p := (n0 == 8)) hS rfl rfl rfl (wantB_t _) (fun hp => ?_) (fun hp => ⟨by rw [hp]; rfl, hG⟩)
     exact L_val hS rfl (Ob_c tRlW rfl) ⟨(by rw [hp]; rfl), hG⟩
   refine .cons (fun ss hlo hhi vals1 xw hG hV => ?_) ?_
   ·obtain rfl : ss = 1 := Nat.le_antisymm hhi hlo
    rw [← hfe]
    have hS := (hfr vals1).sub (ts := [38, 39, 35]) (S' := [(38, vals1 9), (39, vals1 10), (35, vals1 6)]) rfl
    replace hS := hS.conv (t := 38) rfl (show (vals1 9) = cond (n0 == 8) (.int .i64 s0.1) undef from hV 9 (by decide))
    replace hS := hS.conv (t := 39) rfl (show (vals1 10) = cond (n0 == 8) (.int .i64 8) undef from hV 10 (by decide))
    replace hS := hS.conv (t := 35) rfl (show (vals1 6) = .bool (n0 == 8) from hV 6 (by decide))
    refine L_gw (p := (n0 == 8)) hS rfl rfl rfl (wantB_t _) (fun hp => ?_) (fun hp => ⟨by rw [hp]; rfl, hG⟩)
    replace hS := hS.conv (t := 38) rfl (cond_t hp)
    replace hS := hS.conv (t := 39) rfl (cond_t hp)
    exact L_val hS rfl (Ob_c tRlW rfl) ⟨(by rw [hp]; rfl), hG⟩
   refine .cons (fun ss hlo hhi vals1 xw hG hV => ?_) ?_
   ·obtain rfl : ss = 1 := Nat.le_antisymm hhi hlo
    rw [← hfe]
    have hS := (hfr vals1).sub (ts := [35, 40]) (S' := [(35, vals1 6), (40, vals1 11)]) rfl
    replace hS := hS.conv (t := 35) rfl (show (vals1 6) = .bool (n0 == 8) from hV 6 (by decide))
    replace hS := hS.conv (t := 40) rfl (show (vals1 11) = cond (n0 == 8) (.bool (s0.1 == 8)) undef from hV 11 (by decide))
    exact L_val hS rfl (Ob_pick rfl rfl rfl rfl (pick_and _ _)) ⟨rfl, hG⟩
   refine .cons (fun ss hlo hhi vals1 xw hG hV => ?_) ?_
   ·obtain rfl : ss = 1 := Nat.le_antisymm hhi hlo
    rw [← hfe]
    have hS := (hfr vals1).sub (ts := [41]) (S' := [(41, vals1 12)]) rfl
    replace hS := hS.conv (t := 41) rfl (show (vals1 12) = .bool ((n0 == 8) && (s0.1 == 8)) from hV 12 (by decide))
    exact L_val hS rfl (Ob_c tRlW rfl) ⟨rfl, hG⟩
   refine .cons (fun ss hlo hhi vals1 xw hG hV => ?_) ?_
   ·obtain rfl : ss = 1 := Nat.le_antisymm hhi hlo
    rw [← hfe]
    have hS := (hfr vals1).sub (ts := [42, 5]) (S' := [(42, vals1 13), (5, .pointer none)]) rfl
    replace hS := hS.conv (t := 42) rfl (show (vals1 13) = .bool ((n0 == 8) && (s0.1 == 8)) from hV 13 (by decide))
    refine L_gw (p := ((n0 == 8) && (s0.1 == 8))) hS rfl rfl rfl (wantB_t _) (fun hp => ?_) (fun hp => ⟨by rw [hp]; rfl, hG⟩)
    exact L_val hS rfl (Ob_c tRlW rfl) ⟨(by rw [hp]; rfl), hG⟩
   refine .cons (fun ss hlo hhi vals1 xw hG hV => ?_) ?_
   ·obtain rfl : ss = 1 := Nat.le_antisymm hhi hlo
    rw [← hfe]
    have hS := (hfr vals1).sub (ts := [42, 0]) (S' := [(42, vals1 13), (0, .int .i64 i)]) rfl
    replace hS := hS.conv (t := 42) rfl (show (vals1 13) = .bool ((n0 == 8) && (s0.1 == 8)) from hV 13 (by decide))
    refine L_gw (p := ((n0 == 8) && (s0.1 == 8))) hS rfl rfl rfl (wantB_t _) (fun hp => ?_) (fun hp => ⟨by rw [hp]; rfl, hG⟩)
    exact L_val hS rfl (Ob_c tRlW rfl) ⟨(by rw [hp]; rfl), hG⟩
   refine .cons (fun ss hlo hhi vals1 xw hG hV => ?_) ?_
   ·obtain rfl : ss = 1 := Nat.le_antisymm hhi hlo
    rw [← hfe]
    have hS := (hfr vals1).sub (ts := [42, 3]) (S' := [(42, vals1 13), (3, .pointer (some ⟨b1, 0, none⟩))]) rfl
    replace hS := hS.conv (t := 42) rfl (show (vals1 13) = .bool ((n0 == 8) && (s0.1 == 8)) from hV 13 (by decide))
    refine L_gw (p := ((n0 == 8) && (s0.1 == 8))) hS rfl rfl rfl (wantB_t _) (fun hp => ?_) (fun hp => ⟨by rw [hp]; rfl, hG⟩)
    exact L_val hS rfl (Ob_c tRlW rfl) ⟨(by rw [hp]; rfl), hG⟩
   refine .cons (fun ss hlo hhi vals1 xw hG hV => ?_) ?_
   ·obtain rfl : ss = 1 := Nat.le_antisymm hhi hlo
    rw [← hfe]
    have hS := (hfr vals1).sub (ts := [45, 42]) (S' := [(45, vals1 16), (42, vals1 13)]) rfl
    replace hS := hS.conv (t := 45) rfl (show (vals1 16) = cond ((n0 == 8) && (s0.1 == 8)) (.pointer (some ⟨b1, 3, none⟩)) undef from hV 16 (by decide))
    replace hS := hS.conv (t := 42) rfl (show (vals1 13) = .bool ((n0 == 8) && (s0.1 == 8)) from hV 13 (by decide))
    refine L_gw (p := ((n0 == 8) && (s0.1 == 8))) hS rfl rfl rfl (wantB_t _) (fun hp => ?_) (fun hp => ⟨by rw [hp]; rfl, hG⟩)
    replace hS := hS.conv (t := 45) rfl (cond_t hp)
    obtain ⟨I2, hI2, H⟩ := Gx.ex hG
    exact L_val hS rfl (Ob_load tRlW rfl rfl rfl ((H.bx 5 rfl).cell 3 rfl)) ⟨(by rw [hp]; rfl), hG⟩
   refine .cons (fun ss hlo hhi vals1 xw hG hV => ?_) ?_
   ·obtain rfl : ss = 1 := Nat.le_antisymm hhi hlo
    rw [← hfe]
    have hS := (hfr vals1).sub (ts := [43, 44, 46, 42]) (S' := [(43, vals1 14), (44, vals1 15), (46, vals1 17), (42, vals1 13)]) rfl
    replace hS := hS.conv (t := 43) rfl (show (vals1 14) = cond ((n0 == 8) && (s0.1 == 8)) (.pointer none) undef from hV 14 (by decide))
    replace hS := hS.conv (t := 44) rfl (show (vals1 15) = cond ((n0 == 8) && (s0.1 == 8)) (.int .i64 i) undef from hV 15 (by decide))
    replace hS := hS.conv (t := 46) rfl (show (vals1 17) = cond ((n0 == 8) && (s0.1 == 8)) (.int .u64 e.ts) undef from hV 17 (by decide))
    replace hS := hS.conv (t := 42) rfl (show (vals1 13) = .bool ((n0 == 8) && (s0.1 == 8)) from hV 13 (by decide))
    refine L_gw (p := ((n0 == 8) && (s0.1 == 8))) hS rfl rfl rfl (wantB_t _) (fun hp => ?_) (fun hp => ⟨by rw [hp]; rfl, hG⟩)
    replace hS := hS.conv (t := 43) rfl (cond_t hp)
    replace hS := hS.conv (t := 44) rfl (cond_t hp)
    replace hS := hS.conv (t := 46) rfl (cond_t hp)
    obtain ⟨I2, hI2, H⟩ := Gx.ex hG
    refine L_call (caps := #[]) hS fn_7_YRlW rfl rfl rfl rfl rfl ((have hq := c_rlog_Log_Stamp_nil (gif_in hx6 hp) ((H).pick0 (js := []) rfl rfl); plainC hq)) fun r yw hr => ?_
    obtain ⟨rfl, hb⟩ := hr
    exact ⟨(by rw [hp]; rfl), Gx.blw hG hb⟩
   refine .cons (fun ss hlo hhi vals1 xw hG hV => ?_) ?_
   ·obtain rfl : ss = 1 := Nat.le_antisymm hhi hlo
    rw [← hfe]
    have hS := (hfr vals1).sub (ts := [42, 11]) (S' := [(42, vals1 13), (11, .int .i64 8)]) rfl
    replace hS := hS.conv (t := 42) rfl (show (vals1 13) = .bool ((n0 == 8) && (s0.1 == 8)) from hV 13 (by decide))
    refine L_gw (p := ((n0 == 8) && (s0.1 == 8))) hS rfl rfl rfl (wantB_t _) (fun hp => ?_) (fun hp => ⟨by rw [hp]; rfl, hG⟩)
    exact L_val hS rfl (Ob_c tRlW rfl) ⟨(by rw [hp]; rfl), hG⟩
   refine .cons (fun ss hlo hhi vals1 xw hG hV => ?_) ?_
   ·obtain rfl : ss = 1 := Nat.le_antisymm hhi hlo
    rw [← hfe]
    have hS := (hfr vals1).sub (ts := [47, 48, 42]) (S' := [(47, vals1 18), (48, vals1 19), (42, vals1 13)]) rfl
    replace hS := hS.conv (t := 47) rfl (show (vals1 18) = cond ((n0 == 8) && (s0.1 == 8)) (.int .i64 n0_2) undef from hV 18 (by decide))
    replace hS := hS.conv (t := 48) rfl (show (vals1 19) = cond ((n0 == 8) && (s0.1 == 8)) (.int .i64 8) undef from hV 19 (by decide))
    replace hS := hS.conv (t := 42) rfl (show (vals1 13) = .bool ((n0 == 8) && (s0.1 == 8)) from hV 13 (by decide))
    refine L_gw (p := ((n0 == 8) && (s0.1 == 8))) hS rfl rfl rfl (wantB_t _) (fun hp => ?_) (fun hp => ⟨by rw [hp]; rfl, hG⟩)
    replace hS := hS.conv (t := 47) rfl (cond_t hp)
    replace hS := hS.conv (t := 48) rfl (cond_t hp)
    exact L_val hS rfl (Ob_c tRlW rfl) ⟨(by rw [hp]; rfl), hG⟩
   refine .cons (fun ss hlo hhi vals1 xw hG hV => ?_) ?_
   ·obtain rfl : ss = 1 := Nat.le_antisymm hhi hlo
    rw [← hfe]
    have hS := (hfr vals1).sub (ts := [42, 49]) (S' := [(42, vals1 13), (49, vals1 20)]) rfl
    replace hS := hS.conv (t := 42) rfl (show (vals1 13) = .bool ((n0 == 8) && (s0.1 == 8)) from hV 13 (by decide))
    replace hS := hS.conv (t := 49) rfl (show (vals1 20) = cond ((n0 == 8) && (s0.1 == 8)) (.bool (n0_2 == 8)) undef from hV 20 (by decide))
    exact L_val hS rfl (Ob_pick rfl rfl rfl rfl (pick_and _ _)) ⟨rfl, hG⟩
   refine .cons (fun ss hlo hhi vals1 xw hG hV => ?_) ?_
   ·obtain rfl : ss = 1 := Nat.le_antisymm hhi hlo
    rw [← hfe]
    have hS := (hfr vals1).sub (ts := [50]) (S' := [(50, vals1 21)]) rfl
    replace hS := hS.conv (t := 50) rfl (show (vals1 21) = .bool (((n0 == 8) && (s0.1 == 8)) && (n0_2 == 8)) from hV 21 (by decide))
    exact L_val hS rfl (Ob_c tRlW rfl) ⟨rfl, hG⟩
   refine .cons (fun ss hlo hhi vals1 xw hG hV => ?_) ?_
   ·obtain rfl : ss = 1 := Nat.le_antisymm hhi hlo
    rw [← hfe]
    have hS := (hfr vals1).sub (ts := [51, 0]) (S' := [(51, vals1 22), (0, .int .i64 i)]) rfl
    replace hS := hS.conv (t := 51) rfl (show (vals1 22) = .bool (((n0 == 8) && (s0.1 == 8)) && (n0_2 == 8)) from hV 22 (by decide))
    refine L_gw (p := (((n0 == 8) && (s0.1 == 8)) && (n0_2 == 8))) hS rfl rfl rfl (wantB_t _) (fun hp => ?_) (fun hp => ⟨by rw [hp]; rfl, hG⟩)
    exact L_val hS rfl (Ob_c tRlW rfl) ⟨(by rw [hp]; rfl), hG⟩
   refine .cons (fun ss hlo hhi vals1 xw hG hV => ?_) ?_
   ·obtain rfl : ss = 1 := Nat.le_antisymm hhi hlo
    rw [← hfe]
    have hS := (hfr vals1).sub (ts := [51, 3]) (S' := [(51, vals1 22), (3, .pointer (some ⟨b1, 0, none⟩))]) rfl
    replace hS := hS.conv (t := 51) rfl (show (vals1 22) = .bool (((n0 == 8) && (s0.1 == 8)) && (n0_2 == 8)) from hV 22 (by decide))
    refine L_gw (p := (((n0 == 8) && (s0.1 == 8)) && (n0_2 == 8))) hS rfl rfl rfl (wantB_t _) (fun hp => ?_) (fun hp => ⟨by rw [hp]; rfl, hG⟩)
    exact L_val hS rfl (Ob_c tRlW rfl) ⟨(by rw [hp]; rfl), hG⟩
   refine .cons (fun ss hlo hhi vals1 xw hG hV => ?_) ?_
   ·obtain rfl : ss = 1 := Nat.le_antisymm hhi hlo
    rw [← hfe]
    have hS := (hfr vals1).sub (ts := [53, 51]) (S' := [(53, vals1 24), (51, vals1 22)]) rfl
    replace hS := hS.conv (t := 53) rfl (show (vals1 24) = cond (((n0 == 8) && (s0.1 == 8)) && (n0_2 == 8)) (.pointer (some ⟨b1, 3, none⟩)) undef from hV 24 (by decide))
    replace hS := hS.conv (t := 51) rfl (show (vals1 22) = .bool (((n0 == 8) && (s0.1 == 8)) && (n0_2 == 8)) from hV 22 (by decide))
    refine L_gw (p := (((n0 == 8) && (s0.1 == 8)) && (n0_2 == 8))) hS rfl rfl rfl (wantB_t _) (fun hp => ?_) (fun hp => ⟨by rw [hp]; rfl, hG⟩)
    replace hS := hS.conv (t := 53) rfl (cond_t hp)
    obtain ⟨I2, hI2, H⟩ := Gx.ex hG
    exact L_val hS rfl (Ob_load tRlW rfl rfl rfl ((H.bx 5 rfl).cell 3 rfl)) ⟨(by rw [hp]; rfl), hG⟩
   refine .cons (fun ss hlo hhi vals1 xw hG hV => ?_) ?_
   ·obtain rfl : ss = 1 := Nat.le_antisymm hhi hlo
    rw [← hfe]
    have hS := (hfr vals1).sub (ts := [52, 54, 51, 6]) (S' := [(52, vals1 23), (54, vals1 25), (51, vals1 22), (6, .pointer (some ⟨b2, 0, none⟩))]) rfl
    replace hS := hS.conv (t := 52) rfl (show (vals1 23) = cond (((n0 == 8) && (s0.1 == 8)) && (n0_2 == 8)) (.int .i64 i) undef from hV 23 (by decide))
    replace hS := hS.conv (t := 54) rfl (show (vals1 25) = cond (((n0 == 8) && (s0.1 == 8)) && (n0_2 == 8)) (.int .u64 e.ts) undef from hV 25 (by decide))
    replace hS := hS.conv (t := 51) rfl (show (vals1 22) = .bool (((n0 == 8) && (s0.1 == 8)) && (n0_2 == 8)) from hV 22 (by decide))
    refine L_gw (p := (((n0 == 8) && (s0.1 == 8)) && (n0_2 == 8))) hS rfl rfl rfl (wantB_t _) (fun hp => ?_) (fun hp => ⟨by rw [hp]; rfl, ?_⟩)
    ·obtain ⟨I2, hI2, H⟩ := Gx.ex hG
     replace hS := hS.conv (t := 52) rfl (cond_t hp)
     replace hS := hS.conv (t := 54) rfl (cond_t hp)
     refine L_hcall H (js := [(0, false)]) rfl (caps := #[]) hS fn_7_YRlW rfl rfl rfl rfl rfl (fun D1 hS => have hq := c_rlog_Log_Stamp (gif_in hx7 hp) hS; hq) fun _ yw D1 hr hF2 => ?_
     obtain ⟨rfl, I3, K⟩ := hr
     obtain ⟨hK, H2⟩ := hF2 K
     exact ⟨by rw [hp]; rfl, by first | (rw [hp] at H2 ⊢; exact Gx.go hG hI2 hK K.imm H2) | (rw [hp]; exact Gx.go hG hI2 hK K.imm H2) | exact Gx.go hG hI2 hK K.imm H2⟩
    ·(try rw [hp]); obtain ⟨I2, hI2, H⟩ := Gx.ex hG; (try rw [hp] at H); exact Gx.go hG hI2 (Keep.refl _ _) (fun _ h => h) (H.sub [(0, false), (0, false), (0, true), (1, false), (1, true), (2, false), (2, true)] rfl)
   refine .cons (fun ss hlo hhi vals1 xw hG hV => ?_) ?_
   ·obtain rfl | rfl : ss = 1 ∨ ss = 2 := st1 hlo hhi
    all_goals
    ·rw [← hfe]
     have hS := (hfr vals1).sub (ts := [51, 11]) (S' := [(51, vals1 22), (11, .int .i64 8)]) rfl
     replace hS := hS.conv (t := 51) rfl (show (vals1 22) = .bool (((n0 == 8) && (s0.1 == 8)) && (n0_2 == 8)) from hV 22 (by decide))
     refine L_gw (p := (((n0 == 8) && (s0.1 == 8)) && (n0_2 == 8))) hS rfl rfl rfl (wantB_t _) (fun hp => ?_) (fun hp => ⟨by rw [hp]; rfl, hG⟩)
     exact L_val hS rfl (Ob_c tRlW rfl) ⟨(by rw [hp]; rfl), hG⟩
   refine .cons (fun ss hlo hhi vals1 xw hG hV => ?_) ?_
   ·obtain rfl : ss = 2 := Nat.le_antisymm hhi hlo
    rw [← hfe]
    have hS := (hfr vals1).sub (ts := [55, 56, 51]) (S' := [(55, vals1 26), (56, vals1 27), (51, vals1 22)]) rfl
    replace hS := hS.conv (t := 55) rfl (show (vals1 26) = cond (((n0 == 8) && (s0.1 == 8)) && (n0_2 == 8)) (.int .i64 s0_2.1) undef from hV 26 (by decide))
    replace hS := hS.conv (t := 56) rfl (show (vals1 27) = cond (((n0 == 8) && (s0.1 == 8)) && (n0_2 == 8)) (.int .i64 8) undef from hV 27 (by decide))
    replace hS := hS.conv (t := 51) rfl (show (vals1 22) = .bool (((n0 == 8) && (s0.1 == 8)) && (n0_2 == 8)) from hV 22 (by decide))
    refine L_gw (p := (((n0 == 8) && (s0.1 == 8)) && (n0_2 == 8))) hS rfl rfl rfl (wantB_t _) (fun hp => ?_) (fun hp => ⟨by rw [hp]; rfl, hG⟩)
    replace hS := hS.conv (t := 55) rfl (cond_t hp)
    replace hS := hS.conv (t := 56) rfl (cond_t hp)
    exact L_val hS rfl (Ob_c tRlW rfl) ⟨(by rw [hp]; rfl), hG⟩
   refine .cons (fun ss hlo hhi vals1 xw hG hV => ?_) ?_
   ·obtain rfl : ss = 2 := Nat.le_antisymm hhi hlo
    rw [← hfe]
    have hS := (hfr vals1).sub (ts := [51, 57]) (S' := [(51, vals1 22), (57, vals1 28)]) rfl
    replace hS := hS.conv (t := 51) rfl (show (vals1 22) = .bool (((n0 == 8) && (s0.1 == 8)) && (n0_2 == 8)) from hV 22 (by decide))
    replace hS := hS.conv (t := 57) rfl (show (vals1 28) = cond (((n0 == 8) && (s0.1 == 8)) && (n0_2 == 8)) (.bool (s0_2.1 == 8)) undef from hV 28 (by decide))
    exact L_val hS rfl (Ob_pick rfl rfl rfl rfl (pick_and _ _)) ⟨rfl, hG⟩
   refine .cons (fun ss hlo hhi vals1 xw hG hV => ?_) ?_
   ·obtain rfl : ss = 2 := Nat.le_antisymm hhi hlo
    rw [← hfe]
    have hS := (hfr vals1).sub (ts := [58]) (S' := [(58, vals1 29)]) rfl
    replace hS := hS.conv (t := 58) rfl (show (vals1 29) = .bool ((((n0 == 8) && (s0.1 == 8)) && (n0_2 == 8)) && (s0_2.1 == 8)) from hV 29 (by decide))
    exact L_val hS rfl (Ob_c tRlW rfl) ⟨rfl, hG⟩
   refine .cons (fun ss hlo hhi vals1 xw hG hV => ?_) ?_
   ·obtain rfl : ss = 2 := Nat.le_antisymm hhi hlo
    rw [← hfe]
    have hS := (hfr vals1).sub (ts := [59, 8]) (S' := [(59, vals1 30), (8, .bool a0_2.2)]) rfl
    replace hS := hS.conv (t := 59) rfl (show (vals1 30) = .bool ((((n0 == 8) && (s0.1 == 8)) && (n0_2 == 8)) && (s0_2.1 == 8)) from hV 30 (by decide))
    refine L_gw (p := ((((n0 == 8) && (s0.1 == 8)) && (n0_2 == 8)) && (s0_2.1 == 8))) hS rfl rfl rfl (wantB_t _) (fun hp => ?_) (fun hp => ⟨by rw [hp]; rfl, hG⟩)
    exact L_val hS rfl (Ob_c tRlW rfl) ⟨(by rw [hp]; rfl), hG⟩
   refine .cons (fun ss hlo hhi vals1 xw hG hV => ?_) ?_
   ·obtain rfl : ss = 2 := Nat.le_antisymm hhi hlo
    rw [← hfe]
    have hS := (hfr vals1).sub (ts := [60, 59]) (S' := [(60, vals1 31), (59, vals1 30)]) rfl
    replace hS := hS.conv (t := 60) rfl (show (vals1 31) = cond ((((n0 == 8) && (s0.1 == 8)) && (n0_2 == 8)) && (s0_2.1 == 8)) (.bool a0_2.2) undef from hV 31 (by decide))
    replace hS := hS.conv (t := 59) rfl (show (vals1 30) = .bool ((((n0 == 8) && (s0.1 == 8)) && (n0_2 == 8)) && (s0_2.1 == 8)) from hV 30 (by decide))
    refine L_gw (p := ((((n0 == 8) && (s0.1 == 8)) && (n0_2 == 8)) && (s0_2.1 == 8))) hS rfl rfl rfl (wantB_t _) (fun hp => ?_) (fun hp => ⟨by rw [hp]; rfl, hG⟩)
    replace hS := hS.conv (t := 60) rfl (cond_t hp)
    exact L_val hS rfl (Ob_c tRlW rfl) ⟨(by rw [hp]; rfl), hG⟩
   refine .cons (fun ss hlo hhi vals1 xw hG hV => ?_) ?_
   ·obtain rfl : ss = 2 := Nat.le_antisymm hhi hlo
    rw [← hfe]
    have hS := (hfr vals1).sub (ts := [59, 61]) (S' := [(59, vals1 30), (61, vals1 32)]) rfl
    replace hS := hS.conv (t := 59) rfl (show (vals1 30) = .bool ((((n0 == 8) && (s0.1 == 8)) && (n0_2 == 8)) && (s0_2.1 == 8)) from hV 30 (by decide))
    replace hS := hS.conv (t := 61) rfl (show (vals1 32) = cond ((((n0 == 8) && (s0.1 == 8)) && (n0_2 == 8)) && (s0_2.1 == 8)) (.bool (!a0_2.2)) undef from hV 32 (by decide))
    exact L_val hS rfl (Ob_pick rfl rfl rfl rfl (pick_and _ _)) ⟨rfl, hG⟩
   refine .cons (fun ss hlo hhi vals1 xw hG hV => ?_) ?_
   ·obtain rfl : ss = 2 := Nat.le_antisymm hhi hlo
    rw [← hfe]
    have hS := (hfr vals1).sub (ts := [62]) (S' := [(62, vals1 33)]) rfl
    replace hS := hS.conv (t := 62) rfl (show (vals1 33) = .bool (((((n0 == 8) && (s0.1 == 8)) && (n0_2 == 8)) && (s0_2.1 == 8)) && (!a0_2.2)) from hV 33 (by decide))
    exact L_val hS rfl (Ob_c tRlW rfl) ⟨rfl, hG⟩
   refine .cons (fun ss hlo hhi vals1 xw hG hV => ?_) ?_
   ·obtain rfl : ss = 2 := Nat.le_antisymm hhi hlo
    rw [← hfe]
    have hS := (hfr vals1).sub (ts := [63, 10]) (S' := [(63, vals1 34), (10, .bool a0_3.2)]) rfl
    replace hS := hS.conv (t := 63) rfl (show (vals1 34) = .bool (((((n0 == 8) && (s0.1 == 8)) && (n0_2 == 8)) && (s0_2.1 == 8)) && (!a0_2.2)) from hV 34 (by decide))
    refine L_gw (p := (((((n0 == 8) && (s0.1 == 8)) && (n0_2 == 8)) && (s0_2.1 == 8)) && (!a0_2.2))) hS rfl rfl rfl (wantB_t _) (fun hp => ?_) (fun hp => ⟨by rw [hp]; rfl, hG⟩)
    exact L_val hS rfl (Ob_c tRlW rfl) ⟨(by rw [hp]; rfl), hG⟩
   refine .cons (fun ss hlo hhi vals1 xw hG hV => ?_) ?_
   ·obtain rfl : ss = 2 := Nat.le_antisymm hhi hlo
    rw [← hfe]
    have hS := (hfr vals1).sub (ts := [64, 63]) (S' := [(64, vals1 35), (63, vals1 34)]) rfl
    replace hS := hS.conv (t := 64) rfl (show (vals1 35) = cond (((((n0 == 8) && (s0.1 == 8)) && (n0_2 == 8)) && (s0_2.1 == 8)) && (!a0_2.2)) (.bool a0_3.2) undef from hV 35 (by decide))
    replace hS := hS.conv (t := 63) rfl (show (vals1 34) = .bool (((((n0 == 8) && (s0.1 == 8)) && (n0_2 == 8)) && (s0_2.1 == 8)) && (!a0_2.2)) from hV 34 (by decide))
    refine L_gw (p := (((((n0 == 8) && (s0.1 == 8)) && (n0_2 == 8)) && (s0_2.1 == 8)) && (!a0_2.2))) hS rfl rfl rfl (wantB_t _) (fun hp => ?_) (fun hp => ⟨by rw [hp]; rfl, hG⟩)
    replace hS := hS.conv (t := 64) rfl (cond_t hp)
    exact L_val hS rfl (Ob_c tRlW rfl) ⟨(by rw [hp]; rfl), hG⟩
   refine .cons (fun ss hlo hhi vals1 xw hG hV => ?_) ?_
   ·obtain rfl : ss = 2 := Nat.le_antisymm hhi hlo
    rw [← hfe]
    have hS := (hfr vals1).sub (ts := [63, 65]) (S' := [(63, vals1 34), (65, vals1 36)]) rfl
    replace hS := hS.conv (t := 63) rfl (show (vals1 34) = .bool (((((n0 == 8) && (s0.1 == 8)) && (n0_2 == 8)) && (s0_2.1 == 8)) && (!a0_2.2)) from hV 34 (by decide))
    replace hS := hS.conv (t := 65) rfl (show (vals1 36) = cond (((((n0 == 8) && (s0.1 == 8)) && (n0_2 == 8)) && (s0_2.1 == 8)) && (!a0_2.2)) (.bool (!a0_3.2)) undef from hV 36 (by decide))
    exact L_val hS rfl (Ob_pick rfl rfl rfl rfl (pick_and _ _)) ⟨rfl, hG⟩
   refine .cons (fun ss hlo hhi vals1 xw hG hV => ?_) ?_
   ·obtain rfl : ss = 2 := Nat.le_antisymm hhi hlo
    rw [← hfe]
    have hS := (hfr vals1).sub (ts := [66]) (S' := [(66, vals1 37)]) rfl
    replace hS := hS.conv (t := 66) rfl (show (vals1 37) = .bool ((((((n0 == 8) && (s0.1 == 8)) && (n0_2 == 8)) && (s0_2.1 == 8)) && (!a0_2.2)) && (!a0_3.2)) from hV 37 (by decide))
    exact L_val hS rfl (Ob_c tRlW rfl) ⟨rfl, hG⟩
   refine .cons (fun ss hlo hhi vals1 xw hG hV => ?_) ?_
   ·obtain rfl : ss = 2 := Nat.le_antisymm hhi hlo
    rw [← hfe]
    have hS := (hfr vals1).sub (ts := [67, 5]) (S' := [(67, vals1 38), (5, .pointer none)]) rfl
    replace hS := hS.conv (t := 67) rfl (show (vals1 38) = .bool ((((((n0 == 8) && (s0.1 == 8)) && (n0_2 == 8)) && (s0_2.1 == 8)) && (!a0_2.2)) && (!a0_3.2)) from hV 38 (by decide))
    refine L_gw (p := ((((((n0 == 8) && (s0.1 == 8)) && (n0_2 == 8)) && (s0_2.1 == 8)) && (!a0_2.2)) && (!a0_3.2))) hS rfl rfl rfl (wantB_t _) (fun hp => ?_) (fun hp => ⟨by rw [hp]; rfl, hG⟩)
    exact L_val hS rfl (Ob_c tRlW rfl) ⟨(by rw [hp]; rfl), hG⟩
   refine .cons (fun ss hlo hhi vals1 xw hG hV => ?_) ?_
   ·obtain rfl : ss = 2 := Nat.le_antisymm hhi hlo
    rw [← hfe]
    have hS := (hfr vals1).sub (ts := [67, 0]) (S' := [(67, vals1 38), (0, .int .i64 i)]) rfl
    replace hS := hS.conv (t := 67) rfl (show (vals1 38) = .bool ((((((n0 == 8) && (s0.1 == 8)) && (n0_2 == 8)) && (s0_2.1 == 8)) && (!a0_2.2)) && (!a0_3.2)) from hV 38 (by decide))
    refine L_gw (p := ((((((n0 == 8) && (s0.1 == 8)) && (n0_2 == 8)) && (s0_2.1 == 8)) && (!a0_2.2)) && (!a0_3.2))) hS rfl rfl rfl (wantB_t _) (fun hp => ?_) (fun hp => ⟨by rw [hp]; rfl, hG⟩)
    exact L_val hS rfl (Ob_c tRlW rfl) ⟨(by rw [hp]; rfl), hG⟩
   refine .cons (fun ss hlo hhi vals1 xw hG hV => ?_) ?_
   ·obtain rfl : ss = 2 := Nat.le_antisymm hhi hlo
    rw [← hfe]
    have hS := (hfr vals1).sub (ts := [67, 0]) (S' := [(67, vals1 38), (0, .int .i64 i)]) rfl
    replace hS := hS.conv (t := 67) rfl (show (vals1 38) = .bool ((((((n0 == 8) && (s0.1 == 8)) && (n0_2 == 8)) && (s0_2.1 == 8)) && (!a0_2.2)) && (!a0_3.2)) from hV 38 (by decide))
    refine L_gw (p := ((((((n0 == 8) && (s0.1 == 8)) && (n0_2 == 8)) && (s0_2.1 == 8)) && (!a0_2.2)) && (!a0_3.2))) hS rfl rfl rfl (wantB_t _) (fun hp => ?_) (fun hp => ⟨by rw [hp]; rfl, hG⟩)
    exact L_val hS rfl (Ob_c tRlW rfl) ⟨(by rw [hp]; rfl), hG⟩
   refine .cons (fun ss hlo hhi vals1 xw hG hV => ?_) ?_
   ·obtain rfl : ss = 2 := Nat.le_antisymm hhi hlo
    rw [← hfe]
    have hS := (hfr vals1).sub (ts := [68, 69, 70, 67]) (S' := [(68, vals1 39), (69, vals1 40), (70, vals1 41), (67, vals1 38)]) rfl
    replace hS := hS.conv (t := 68) rfl (show (vals1 39) = cond ((((((n0 == 8) && (s0.1 == 8)) && (n0_2 == 8)) && (s0_2.1 == 8)) && (!a0_2.2)) && (!a0_3.2)) (.pointer none) undef from hV 39 (by decide))
    replace hS := hS.conv (t := 69) rfl (show (vals1 40) = cond ((((((n0 == 8) && (s0.1 == 8)) && (n0_2 == 8)) && (s0_2.1 == 8)) && (!a0_2.2)) && (!a0_3.2)) (.int .i64 i) undef from hV 40 (by decide))
    replace hS := hS.conv (t := 70) rfl (show (vals1 41) = cond ((((((n0 == 8) && (s0.1 == 8)) && (n0_2 == 8)) && (s0_2.1 == 8)) && (!a0_2.2)) && (!a0_3.2)) (.int .i64 i) undef from hV 41 (by decide))
    replace hS := hS.conv (t := 67) rfl (show (vals1 38) = .bool ((((((n0 == 8) && (s0.1 == 8)) && (n0_2 == 8)) && (s0_2.1 == 8)) && (!a0_2.2)) && (!a0_3.2)) from hV 38 (by decide))
    refine L_gw (p := ((((((n0 == 8) && (s0.1 == 8)) && (n0_2 == 8)) && (s0_2.1 == 8)) && (!a0_2.2)) && (!a0_3.2))) hS rfl rfl rfl (wantB_t _) (fun hp => ?_) (fun hp => ⟨by rw [hp]; rfl, hG⟩)
    replace hS := hS.conv (t := 68) rfl (cond_t hp)
    replace hS := hS.conv (t := 69) rfl (cond_t hp)
    replace hS := hS.conv (t := 70) rfl (cond_t hp)
    obtain ⟨I2, hI2, H⟩ := Gx.ex hG
    refine L_call (caps := #[]) hS fn_8_YRlW rfl rfl rfl rfl rfl ((have hq := c_rlog_Log_Find_nil (gif_in hx8 hp) ((H).pick0 (js := []) rfl rfl); plainC hq)) fun r yw hr => ?_
    obtain ⟨rfl, hb⟩ := hr
    exact ⟨(by rw [hp]; rfl), Gx.blw hG hb⟩
   refine .cons (fun ss hlo hhi vals1 xw hG hV => ?_) ?_
   ·obtain rfl : ss = 2 := Nat.le_antisymm hhi hlo
    rw [← hfe]
    have hS := (hfr vals1).sub (ts := [67, 0]) (S' := [(67, vals1 38), (0, .int .i64 i)]) rfl
    replace hS := hS.conv (t := 67) rfl (show (vals1 38) = .bool ((((((n0 == 8) && (s0.1 == 8)) && (n0_2 == 8)) && (s0_2.1 == 8)) && (!a0_2.2)) && (!a0_3.2)) from hV 38 (by decide))
    refine L_gw (p := ((((((n0 == 8) && (s0.1 == 8)) && (n0_2 == 8)) && (s0_2.1 == 8)) && (!a0_2.2)) && (!a0_3.2))) hS rfl rfl rfl (wantB_t _) (fun hp => ?_) (fun hp => ⟨by rw [hp]; rfl, hG⟩)
    exact L_val hS rfl (Ob_c tRlW rfl) ⟨(by rw [hp]; rfl), hG⟩
   refine .cons (fun ss hlo hhi vals1 xw hG hV => ?_) ?_
   ·obtain rfl : ss = 2 := Nat.le_antisymm hhi hlo
    rw [← hfe]
    have hS := (hfr vals1).sub (ts := [67, 0]) (S' := [(67, vals1 38), (0, .int .i64 i)]) rfl
    replace hS := hS.conv (t := 67) rfl (show (vals1 38) = .bool ((((((n0 == 8) && (s0.1 == 8)) && (n0_2 == 8)) && (s0_2.1 == 8)) && (!a0_2.2)) && (!a0_3.2)) from hV 38 (by decide))
    refine L_gw (p := ((((((n0 == 8) && (s0.1 == 8)) && (n0_2 == 8)) && (s0_2.1 == 8)) && (!a0_2.2)) && (!a0_3.2))) hS rfl rfl rfl (wantB_t _) (fun hp => ?_) (fun hp => ⟨by rw [hp]; rfl, hG⟩)
    exact L_val hS rfl (Ob_c tRlW rfl) ⟨(by rw [hp]; rfl), hG⟩
   refine .cons (fun ss hlo hhi vals1 xw hG hV => ?_) ?_
   ·obtain rfl : ss = 2 := Nat.le_antisymm hhi hlo
    rw [← hfe]
    have hS := (hfr vals1).sub (ts := [72, 73, 67, 6]) (S' := [(72, vals1 43), (73, vals1 44), (67, vals1 38), (6, .pointer (some ⟨b2, 0, none⟩))]) rfl
    replace hS := hS.conv (t := 72) rfl (show (vals1 43) = cond ((((((n0 == 8) && (s0.1 == 8)) && (n0_2 == 8)) && (s0_2.1 == 8)) && (!a0_2.2)) && (!a0_3.2)) (.int .i64 i) undef from hV 43 (by decide))
    replace hS := hS.conv (t := 73) rfl (show (vals1 44) = cond ((((((n0 == 8) && (s0.1 == 8)) && (n0_2 == 8)) && (s0_2.1 == 8)) && (!a0_2.2)) && (!a0_3.2)) (.int .i64 i) undef from hV 44 (by decide))
    replace hS := hS.conv (t := 67) rfl (show (vals1 38) = .bool ((((((n0 == 8) && (s0.1 == 8)) && (n0_2 == 8)) && (s0_2.1 == 8)) && (!a0_2.2)) && (!a0_3.2)) from hV 38 (by decide))
    refine L_gw (p := ((((((n0 == 8) && (s0.1 == 8)) && (n0_2 == 8)) && (s0_2.1 == 8)) && (!a0_2.2)) && (!a0_3.2))) hS rfl rfl rfl (wantB_t _) (fun hp => ?_) (fun hp => ⟨by rw [hp]; rfl, ?_⟩)
    ·obtain ⟨I2, hI2, H⟩ := Gx.ex hG
     replace hS := hS.conv (t := 72) rfl (cond_t hp)
     replace hS := hS.conv (t := 73) rfl (cond_t hp)
     refine L_hcall H (js := [(0, false)]) rfl (caps := #[]) hS fn_8_YRlW rfl rfl rfl rfl rfl (fun D1 hS => have hq := c_rlog_Log_Find (gif_in hx9 hp) hS; hq) fun _ yw D1 hr hF2 => ?_
     obtain ⟨rfl, I3, K⟩ := hr
     obtain ⟨hK, H2⟩ := hF2 K
     exact ⟨by rw [hp]; rfl, by first | (rw [hp] at H2 ⊢; exact Gx.go hG hI2 hK K.imm H2) | (rw [hp]; exact Gx.go hG hI2 hK K.imm H2) | exact Gx.go hG hI2 hK K.imm H2⟩
    ·(try rw [hp]); obtain ⟨I2, hI2, H⟩ := Gx.ex hG; (try rw [hp] at H); exact Gx.go hG hI2 (Keep.refl _ _) (fun _ h => h) (H.sub [(0, false), (0, false), (0, true), (1, false), (1, true), (2, false), (2, true)] rfl)
   refine .cons (fun ss hlo hhi vals1 xw hG hV => ?_) ?_
   ·obtain rfl : ss = 3 := Nat.le_antisymm hhi hlo
    rw [← hfe]
    have hS := (hfr vals1).sub (ts := [71, 74, 67]) (S' := [(71, vals1 42), (74, vals1 45), (67, vals1 38)]) rfl
    replace hS := hS.conv (t := 71) rfl (show (vals1 42) = cond ((((((n0 == 8) && (s0.1 == 8)) && (n0_2 == 8)) && (s0_2.1 == 8)) && (!a0_2.2)) && (!a0_3.2)) (.int .i64 n0_3) undef from hV 42 (by decide))
    replace hS := hS.conv (t := 74) rfl (show (vals1 45) = cond ((((((n0 == 8) && (s0.1 == 8)) && (n0_2 == 8)) && (s0_2.1 == 8)) && (!a0_2.2)) && (!a0_3.2)) (.int .i64 f.1) undef from hV 45 (by decide))
    replace hS := hS.conv (t := 67) rfl (show (vals1 38) = .bool ((((((n0 == 8) && (s0.1 == 8)) && (n0_2 == 8)) && (s0_2.1 == 8)) && (!a0_2.2)) && (!a0_3.2)) from hV 38 (by decide))
    refine L_gw (p := ((((((n0 == 8) && (s0.1 == 8)) && (n0_2 == 8)) && (s0_2.1 == 8)) && (!a0_2.2)) && (!a0_3.2))) hS rfl rfl rfl (wantB_t _) (fun hp => ?_) (fun hp => ⟨by rw [hp]; rfl, hG⟩)
    replace hS := hS.conv (t := 71) rfl (cond_t hp)
    replace hS := hS.conv (t := 74) rfl (cond_t hp)
    exact L_val hS rfl (Ob_add rfl rfl rfl (wrI (hg1 hp))) ⟨(by rw [hp]; rfl), hG⟩
   refine .cons (fun ss hlo hhi vals1 xw hG hV => ?_) ?_
   ·obtain rfl : ss = 3 := Nat.le_antisymm hhi hlo
    rw [← hfe]
    have hS := (hfr vals1).sub (ts := [75, 67]) (S' := [(75, vals1 46), (67, vals1 38)]) rfl
    replace hS := hS.conv (t := 75) rfl (show (vals1 46) = cond ((((((n0 == 8) && (s0.1 == 8)) && (n0_2 == 8)) && (s0_2.1 == 8)) && (!a0_2.2)) && (!a0_3.2)) (.int .i64 (n0_3 + f.1)) undef from hV 46 (by decide))
    replace hS := hS.conv (t := 67) rfl (show (vals1 38) = .bool ((((((n0 == 8) && (s0.1 == 8)) && (n0_2 == 8)) && (s0_2.1 == 8)) && (!a0_2.2)) && (!a0_3.2)) from hV 38 (by decide))
    refine L_gw (p := ((((((n0 == 8) && (s0.1 == 8)) && (n0_2 == 8)) && (s0_2.1 == 8)) && (!a0_2.2)) && (!a0_3.2))) hS rfl rfl rfl (wantB_t _) (fun hp => ?_) (fun hp => ⟨by rw [hp]; rfl, hG⟩)
    replace hS := hS.conv (t := 75) rfl (cond_t hp)
    exact L_val hS rfl (Ob_c tRlW rfl) ⟨(by rw [hp]; rfl), hG⟩
   refine .cons (fun ss hlo hhi vals1 xw hG hV => ?_) ?_
   ·obtain rfl : ss = 3 := Nat.le_antisymm hhi hlo
    rw [← hfe]
    have hS := (hfr vals1).sub (ts := [67, 76]) (S' := [(67, vals1 38), (76, vals1 47)]) rfl
    replace hS := hS.conv (t := 67) rfl (show (vals1 38) = .bool ((((((n0 == 8) && (s0.1 == 8)) && (n0_2 == 8)) && (s0_2.1 == 8)) && (!a0_2.2)) && (!a0_3.2)) from hV 38 (by decide))
    replace hS := hS.conv (t := 76) rfl (show (vals1 47) = cond ((((((n0 == 8) && (s0.1 == 8)) && (n0_2 == 8)) && (s0_2.1 == 8)) && (!a0_2.2)) && (!a0_3.2)) (.bool ((n0_3 + f.1) == (-2))) undef from hV 47 (by decide))
    exact L_val hS rfl (Ob_pick rfl rfl rfl rfl (pick_and _ _)) ⟨rfl, hG⟩
   refine .cons (fun ss hlo hhi vals1 xw hG hV => ?_) ?_
   ·obtain rfl : ss = 3 := Nat.le_antisymm hhi hlo
    rw [← hfe]
    have hS := (hfr vals1).sub (ts := [77]) (S' := [(77, vals1 48)]) rfl
    replace hS := hS.conv (t := 77) rfl (show (vals1 48) = .bool (((((((n0 == 8) && (s0.1 == 8)) && (n0_2 == 8)) && (s0_2.1 == 8)) && (!a0_2.2)) && (!a0_3.2)) && ((n0_3 + f.1) == (-2))) from hV 48 (by decide))
    exact L_val hS rfl (Ob_c tRlW rfl) ⟨rfl, hG⟩
   refine .cons (fun ss hlo hhi vals1 xw hG hV => ?_) ?_
   ·obtain rfl : ss = 3 := Nat.le_antisymm hhi hlo
    rw [← hfe]
    have hS := (hfr vals1).sub (ts := [78, 5]) (S' := [(78, vals1 49), (5, .pointer none)]) rfl
    replace hS := hS.conv (t := 78) rfl (show (vals1 49) = .bool (((((((n0 == 8) && (s0.1 == 8)) && (n0_2 == 8)) && (s0_2.1 == 8)) && (!a0_2.2)) && (!a0_3.2)) && ((n0_3 + f.1) == (-2))) from hV 49 (by decide))
    refine L_gw (p := (((((((n0 == 8) && (s0.1 == 8)) && (n0_2 == 8)) && (s0_2.1 == 8)) && (!a0_2.2)) && (!a0_3.2)) && ((n0_3 + f.1) == (-2)))) hS rfl rfl rfl (wantB_t _) (fun hp => ?_) (fun hp => ⟨by rw [hp]; rfl, hG⟩)
    exact L_val hS rfl (Ob_c tRlW rfl) ⟨(by rw [hp]; rfl), hG⟩
   refine .cons (fun ss hlo hhi vals1 xw hG hV => ?_) ?_
   ·obtain rfl : ss = 3 := Nat.le_antisymm hhi hlo
    rw [← hfe]
    have hS := (hfr vals1).sub (ts := [78, 0]) (S' := [(78, vals1 49), (0, .int .i64 i)]) rfl
    replace hS := hS.conv (t := 78) rfl (show (vals1 49) = .bool (((((((n0 == 8) && (s0.1 == 8)) && (n0_2 == 8)) && (s0_2.1 == 8)) && (!a0_2.2)) && (!a0_3.2)) && ((n0_3 + f.1) == (-2))) from hV 49 (by decide))
    refine L_gw (p := (((((((n0 == 8) && (s0.1 == 8)) && (n0_2 == 8)) && (s0_2.1 == 8)) && (!a0_2.2)) && (!a0_3.2)) && ((n0_3 + f.1) == (-2)))) hS rfl rfl rfl (wantB_t _) (fun hp => ?_) (fun hp => ⟨by rw [hp]; rfl, hG⟩)
    exact L_val hS rfl (Ob_c tRlW rfl) ⟨(by rw [hp]; rfl), hG⟩
   refine .cons (fun ss hlo hhi vals1 xw hG hV => ?_) ?_
   ·obtain rfl : ss = 3 := Nat.le_antisymm hhi hlo
    rw [← hfe]
    have hS := (hfr vals1).sub (ts := [79, 80, 78]) (S' := [(79, vals1 50), (80, vals1 51), (78, vals1 49)]) rfl
    replace hS := hS.conv (t := 79) rfl (show (vals1 50) = cond (((((((n0 == 8) && (s0.1 == 8)) && (n0_2 == 8)) && (s0_2.1 == 8)) && (!a0_2.2)) && (!a0_3.2)) && ((n0_3 + f.1) == (-2))) (.pointer none) undef from hV 50 (by decide))
    replace hS := hS.conv (t := 80) rfl (show (vals1 51) = cond (((((((n0 == 8) && (s0.1 == 8)) && (n0_2 == 8)) && (s0_2.1 == 8)) && (!a0_2.2)) && (!a0_3.2)) && ((n0_3 + f.1) == (-2))) (.int .i64 i) undef from hV 51 (by decide))
    replace hS := hS.conv (t := 78) rfl (show (vals1 49) = .bool (((((((n0 == 8) && (s0.1 == 8)) && (n0_2 == 8)) && (s0_2.1 == 8)) && (!a0_2.2)) && (!a0_3.2)) && ((n0_3 + f.1) == (-2))) from hV 49 (by decide))
    refine L_gw (p := (((((((n0 == 8) && (s0.1 == 8)) && (n0_2 == 8)) && (s0_2.1 == 8)) && (!a0_2.2)) && (!a0_3.2)) && ((n0_3 + f.1) == (-2)))) hS rfl rfl rfl (wantB_t _) (fun hp => ?_) (fun hp => ⟨by rw [hp]; rfl, hG⟩)
    replace hS := hS.conv (t := 79) rfl (cond_t hp)
    replace hS := hS.conv (t := 80) rfl (cond_t hp)
    obtain ⟨I2, hI2, H⟩ := Gx.ex hG
    refine L_call (caps := #[]) hS fn_9_YRlW rfl rfl rfl rfl rfl ((have hq := c_rlog_Log_Top_nil (gif_in hx10 hp) ((H).pick0 (js := []) rfl rfl); plainC hq)) fun r yw hr => ?_
    obtain ⟨rfl, hb⟩ := hr
    exact ⟨(by rw [hp]; rfl), Gx.blw hG hb⟩
   refine .cons (fun ss hlo hhi vals1 xw hG hV => ?_) ?_
   ·obtain rfl : ss = 3 := Nat.le_antisymm hhi hlo
    rw [← hfe]
    have hS := (hfr vals1).sub (ts := [78, 0]) (S' := [(78, vals1 49), (0, .int .i64 i)]) rfl
    replace hS := hS.conv (t := 78) rfl (show (vals1 49) = .bool (((((((n0 == 8) && (s0.1 == 8)) && (n0_2 == 8)) && (s0_2.1 == 8)) && (!a0_2.2)) && (!a0_3.2)) && ((n0_3 + f.1) == (-2))) from hV 49 (by decide))
    refine L_gw (p := (((((((n0 == 8) && (s0.1 == 8)) && (n0_2 == 8)) && (s0_2.1 == 8)) && (!a0_2.2)) && (!a0_3.2)) && ((n0_3 + f.1) == (-2)))) hS rfl rfl rfl (wantB_t _) (fun hp => ?_) (fun hp => ⟨by rw [hp]; rfl, hG⟩)
    exact L_val hS rfl (Ob_c tRlW rfl) ⟨(by rw [hp]; rfl), hG⟩
   refine .cons (fun ss hlo hhi vals1 xw hG hV => ?_) ?_
   ·obtain rfl : ss = 3 := Nat.le_antisymm hhi hlo
    rw [← hfe]
    have hS := (hfr vals1).sub (ts := [82, 78, 6]) (S' := [(82, vals1 53), (78, vals1 49), (6, .pointer (some ⟨b2, 0, none⟩))]) rfl
    replace hS := hS.conv (t := 82) rfl (show (vals1 53) = cond (((((((n0 == 8) && (s0.1 == 8)) && (n0_2 == 8)) && (s0_2.1 == 8)) && (!a0_2.2)) && (!a0_3.2)) && ((n0_3 + f.1) == (-2))) (.int .i64 i) undef from hV 53 (by decide))
    replace hS := hS.conv (t := 78) rfl (show (vals1 49) = .bool (((((((n0 == 8) && (s0.1 == 8)) && (n0_2 == 8)) && (s0_2.1 == 8)) && (!a0_2.2)) && (!a0_3.2)) && ((n0_3 + f.1) == (-2))) from hV 49 (by decide))
    refine L_gw (p := (((((((n0 == 8) && (s0.1 == 8)) && (n0_2 == 8)) && (s0_2.1 == 8)) && (!a0_2.2)) && (!a0_3.2)) && ((n0_3 + f.1) == (-2)))) hS rfl rfl rfl (wantB_t _) (fun hp => ?_) (fun hp => ⟨by rw [hp]; rfl, ?_⟩)
    ·obtain ⟨I2, hI2, H⟩ := Gx.ex hG
     replace hS := hS.conv (t := 82) rfl (cond_t hp)
     refine L_hcall H (js := [(0, false)]) rfl (caps := #[]) hS fn_9_YRlW rfl rfl rfl rfl rfl (fun D1 hS => have hq := c_rlog_Log_Top (gif_in hx11 hp) hS; hq) fun _ yw D1 hr hF2 => ?_
     obtain ⟨rfl, I3, K⟩ := hr
     obtain ⟨hK, H2⟩ := hF2 K
     exact ⟨by rw [hp]; rfl, by first | (rw [hp] at H2 ⊢; exact Gx.go hG hI2 hK K.imm H2) | (rw [hp]; exact Gx.go hG hI2 hK K.imm H2) | exact Gx.go hG hI2 hK K.imm H2⟩
    ·(try rw [hp]); obtain ⟨I2, hI2, H⟩ := Gx.ex hG; (try rw [hp] at H); exact Gx.go hG hI2 (Keep.refl _ _) (fun _ h => h) (H.sub [(0, false), (0, false), (0, true), (1, false), (1, true), (2, false), (2, true)] rfl)
   refine .cons (fun ss hlo hhi vals1 xw hG hV => ?_) ?_
   ·obtain rfl | rfl | rfl | rfl | rfl | rfl : ss = 4 ∨ ss = 5 ∨ ss = 6 ∨ ss = 7 ∨ ss = 8 ∨ ss = 9 := st5 hlo hhi
    all_goals
    ·rw [← hfe]
     have hS := (hfr vals1).sub (ts := [81, 83, 78]) (S' := [(81, vals1 52), (83, vals1 54), (78, vals1 49)]) rfl
     replace hS := hS.conv (t := 81) rfl (show (vals1 52) = cond (((((((n0 == 8) && (s0.1 == 8)) && (n0_2 == 8)) && (s0_2.1 == 8)) && (!a0_2.2)) && (!a0_3.2)) && ((n0_3 + f.1) == (-2))) (.int .i64 n0_4) undef from hV 52 (by decide))
     replace hS := hS.conv (t := 83) rfl (show (vals1 54) = cond (((((((n0 == 8) && (s0.1 == 8)) && (n0_2 == 8)) && (s0_2.1 == 8)) && (!a0_2.2)) && (!a0_3.2)) && ((n0_3 + f.1) == (-2))) (.int .i64 t.1) undef from hV 54 (by decide))
     replace hS := hS.conv (t := 78) rfl (show (vals1 49) = .bool (((((((n0 == 8) && (s0.1 == 8)) && (n0_2 == 8)) && (s0_2.1 == 8)) && (!a0_2.2)) && (!a0_3.2)) && ((n0_3 + f.1) == (-2))) from hV 49 (by decide))
     refine L_gw (p := (((((((n0 == 8) && (s0.1 == 8)) && (n0_2 == 8)) && (s0_2.1 == 8)) && (!a0_2.2)) && (!a0_3.2)) && ((n0_3 + f.1) == (-2)))) hS rfl rfl rfl (wantB_t _) (fun hp => ?_) (fun hp => ⟨by rw [hp]; rfl, hG⟩)
     replace hS := hS.conv (t := 81) rfl (cond_t hp)
     replace hS := hS.conv (t := 83) rfl (cond_t hp)
     exact L_val hS rfl (Ob_add rfl rfl rfl (wrI (hg2 hp))) ⟨(by rw [hp]; rfl), hG⟩
   refine .cons (fun ss hlo hhi vals1 xw hG hV => ?_) ?_
   ·obtain rfl | rfl : ss = 3 ∨ ss = 4 := st1 hlo hhi
    all_goals
    ·rw [← hfe]
     have hS := (hfr vals1).sub (ts := [78, 5]) (S' := [(78, vals1 49), (5, .pointer none)]) rfl
     replace hS := hS.conv (t := 78) rfl (show (vals1 49) = .bool (((((((n0 == 8) && (s0.1 == 8)) && (n0_2 == 8)) && (s0_2.1 == 8)) && (!a0_2.2)) && (!a0_3.2)) && ((n0_3 + f.1) == (-2))) from hV 49 (by decide))
     refine L_gw (p := (((((((n0 == 8) && (s0.1 == 8)) && (n0_2 == 8)) && (s0_2.1 == 8)) && (!a0_2.2)) && (!a0_3.2)) && ((n0_3 + f.1) == (-2)))) hS rfl rfl rfl (wantB_t _) (fun hp => ?_) (fun hp => ⟨by rw [hp]; rfl, hG⟩)
     exact L_val hS rfl (Ob_c tRlW rfl) ⟨(by rw [hp]; rfl), hG⟩
   refine .cons (fun ss hlo hhi vals1 xw hG hV => ?_) ?_
   ·obtain rfl | rfl : ss = 3 ∨ ss = 4 := st1 hlo hhi
    all_goals
    ·rw [← hfe]
     have hS := (hfr vals1).sub (ts := [78, 3]) (S' := [(78, vals1 49), (3, .pointer (some ⟨b1, 0, none⟩))]) rfl
     replace hS := hS.conv (t := 78) rfl (show (vals1 49) = .bool (((((((n0 == 8) && (s0.1 == 8)) && (n0_2 == 8)) && (s0_2.1 == 8)) && (!a0_2.2)) && (!a0_3.2)) && ((n0_3 + f.1) == (-2))) from hV 49 (by decide))
     refine L_gw (p := (((((((n0 == 8) && (s0.1 == 8)) && (n0_2 == 8)) && (s0_2.1 == 8)) && (!a0_2.2)) && (!a0_3.2)) && ((n0_3 + f.1) == (-2)))) hS rfl rfl rfl (wantB_t _) (fun hp => ?_) (fun hp => ⟨by rw [hp]; rfl, hG⟩)
     exact L_val hS rfl (Ob_c tRlW rfl) ⟨(by rw [hp]; rfl), hG⟩
   refine .cons (fun ss hlo hhi vals1 xw hG hV => ?_) ?_
   ·obtain rfl | rfl : ss = 3 ∨ ss = 4 := st1 hlo hhi
    all_goals
    ·rw [← hfe]
     have hS := (hfr vals1).sub (ts := [86, 78]) (S' := [(86, vals1 57), (78, vals1 49)]) rfl
     replace hS := hS.conv (t := 86) rfl (show (vals1 57) = cond (((((((n0 == 8) && (s0.1 == 8)) && (n0_2 == 8)) && (s0_2.1 == 8)) && (!a0_2.2)) && (!a0_3.2)) && ((n0_3 + f.1) == (-2))) (.pointer (some ⟨b1, 3, none⟩)) undef from hV 57 (by decide))
     replace hS := hS.conv (t := 78) rfl (show (vals1 49) = .bool (((((((n0 == 8) && (s0.1 == 8)) && (n0_2 == 8)) && (s0_2.1 == 8)) && (!a0_2.2)) && (!a0_3.2)) && ((n0_3 + f.1) == (-2))) from hV 49 (by decide))
     refine L_gw (p := (((((((n0 == 8) && (s0.1 == 8)) && (n0_2 == 8)) && (s0_2.1 == 8)) && (!a0_2.2)) && (!a0_3.2)) && ((n0_3 + f.1) == (-2)))) hS rfl rfl rfl (wantB_t _) (fun hp => ?_) (fun hp => ⟨by rw [hp]; rfl, hG⟩)
     replace hS := hS.conv (t := 86) rfl (cond_t hp)
     obtain ⟨I2, hI2, H⟩ := Gx.ex hG
     exact L_val hS rfl (Ob_load tRlW rfl rfl rfl ((H.bx 5 rfl).cell 3 rfl)) ⟨(by rw [hp]; rfl), hG⟩
   refine .cons (fun ss hlo hhi vals1 xw hG hV => ?_) ?_
   ·obtain rfl | rfl : ss = 3 ∨ ss = 4 := st1 hlo hhi
    all_goals
    ·rw [← hfe]
     have hS := (hfr vals1).sub (ts := [78, 0]) (S' := [(78, vals1 49), (0, .int .i64 i)]) rfl
     replace hS := hS.conv (t := 78) rfl (show (vals1 49) = .bool (((((((n0 == 8) && (s0.1 == 8)) && (n0_2 == 8)) && (s0_2.1 == 8)) && (!a0_2.2)) && (!a0_3.2)) && ((n0_3 + f.1) == (-2))) from hV 49 (by decide))
     refine L_gw (p := (((((((n0 == 8) && (s0.1 == 8)) && (n0_2 == 8)) && (s0_2.1 == 8)) && (!a0_2.2)) && (!a0_3.2)) && ((n0_3 + f.1) == (-2)))) hS rfl rfl rfl (wantB_t _) (fun hp => ?_) (fun hp => ⟨by rw [hp]; rfl, hG⟩)
     exact L_val hS rfl (Ob_c tRlW rfl) ⟨(by rw [hp]; rfl), hG⟩
   refine .cons (fun ss hlo hhi vals1 xw hG hV => ?_) ?_
   ·obtain rfl : ss = 4 := Nat.le_antisymm hhi hlo
    rw [← hfe]
    have hS := (hfr vals1).sub (ts := [85, 87, 88, 78]) (S' := [(85, vals1 56), (87, vals1 58), (88, vals1 59), (78, vals1 49)]) rfl
    replace hS := hS.conv (t := 85) rfl (show (vals1 56) = cond (((((((n0 == 8) && (s0.1 == 8)) && (n0_2 == 8)) && (s0_2.1 == 8)) && (!a0_2.2)) && (!a0_3.2)) && ((n0_3 + f.1) == (-2))) (.pointer none) undef from hV 56 (by decide))
    replace hS := hS.conv (t := 87) rfl (show (vals1 58) = cond (((((((n0 == 8) && (s0.1 == 8)) && (n0_2 == 8)) && (s0_2.1 == 8)) && (!a0_2.2)) && (!a0_3.2)) && ((n0_3 + f.1) == (-2))) (.int .u64 e.ts) undef from hV 58 (by decide))
    replace hS := hS.conv (t := 88) rfl (show (vals1 59) = cond (((((((n0 == 8) && (s0.1 == 8)) && (n0_2 == 8)) && (s0_2.1 == 8)) && (!a0_2.2)) && (!a0_3.2)) && ((n0_3 + f.1) == (-2))) (.int .i64 i) undef from hV 59 (by decide))
    replace hS := hS.conv (t := 78) rfl (show (vals1 49) = .bool (((((((n0 == 8) && (s0.1 == 8)) && (n0_2 == 8)) && (s0_2.1 == 8)) && (!a0_2.2)) && (!a0_3.2)) && ((n0_3 + f.1) == (-2))) from hV 49 (by decide))
    refine L_gw (p := (((((((n0 == 8) && (s0.1 == 8)) && (n0_2 == 8)) && (s0_2.1 == 8)) && (!a0_2.2)) && (!a0_3.2)) && ((n0_3 + f.1) == (-2)))) hS rfl rfl rfl (wantB_t _) (fun hp => ?_) (fun hp => ⟨by rw [hp]; rfl, hG⟩)
    replace hS := hS.conv (t := 85) rfl (cond_t hp)
    replace hS := hS.conv (t := 87) rfl (cond_t hp)
    replace hS := hS.conv (t := 88) rfl (cond_t hp)
    obtain ⟨I2, hI2, H⟩ := Gx.ex hG
    refine L_call (caps := #[]) hS fn_10_YRlW rfl rfl rfl rfl rfl ((have hq := c_rlog_Log_Thin_nil (gif_in hx12 hp) ((H).pick0 (js := []) rfl rfl); plainC hq)) fun r yw hr => ?_
    obtain ⟨rfl, hb⟩ := hr
    exact ⟨(by rw [hp]; rfl), Gx.blw hG hb⟩
   refine .cons (fun ss hlo hhi vals1 xw hG hV => ?_) ?_
   ·obtain rfl | rfl | rfl | rfl | rfl | rfl : ss = 4 ∨ ss = 5 ∨ ss = 6 ∨ ss = 7 ∨ ss = 8 ∨ ss = 9 := st5 hlo hhi
    all_goals
    ·rw [← hfe]
     have hS := (hfr vals1).sub (ts := [84, 89, 78]) (S' := [(84, vals1 55), (89, vals1 60), (78, vals1 49)]) rfl
     replace hS := hS.conv (t := 84) rfl (show (vals1 55) = cond (((((((n0 == 8) && (s0.1 == 8)) && (n0_2 == 8)) && (s0_2.1 == 8)) && (!a0_2.2)) && (!a0_3.2)) && ((n0_3 + f.1) == (-2))) (.int .i64 (n0_4 + t.1)) undef from hV 55 (by decide))
     replace hS := hS.conv (t := 89) rfl (show (vals1 60) = cond (((((((n0 == 8) && (s0.1 == 8)) && (n0_2 == 8)) && (s0_2.1 == 8)) && (!a0_2.2)) && (!a0_3.2)) && ((n0_3 + f.1) == (-2))) (.int .i64 n0_5) undef from hV 60 (by decide))
     replace hS := hS.conv (t := 78) rfl (show (vals1 49) = .bool (((((((n0 == 8) && (s0.1 == 8)) && (n0_2 == 8)) && (s0_2.1 == 8)) && (!a0_2.2)) && (!a0_3.2)) && ((n0_3 + f.1) == (-2))) from hV 49 (by decide))
     refine L_gw (p := (((((((n0 == 8) && (s0.1 == 8)) && (n0_2 == 8)) && (s0_2.1 == 8)) && (!a0_2.2)) && (!a0_3.2)) && ((n0_3 + f.1) == (-2)))) hS rfl rfl rfl (wantB_t _) (fun hp => ?_) (fun hp => ⟨by rw [hp]; rfl, hG⟩)
     replace hS := hS.conv (t := 84) rfl (cond_t hp)
     replace hS := hS.conv (t := 89) rfl (cond_t hp)
     exact L_val hS rfl (Ob_add rfl rfl rfl (wrI (hg3 hp))) ⟨(by rw [hp]; rfl), hG⟩
   refine .cons (fun ss hlo hhi vals1 xw hG hV => ?_) ?_
   ·obtain rfl | rfl : ss = 3 ∨ ss = 4 := st1 hlo hhi
    all_goals
    ·rw [← hfe]
     have hS := (hfr vals1).sub (ts := [78, 3]) (S' := [(78, vals1 49), (3, .pointer (some ⟨b1, 0, none⟩))]) rfl
     replace hS := hS.conv (t := 78) rfl (show (vals1 49) = .bool (((((((n0 == 8) && (s0.1 == 8)) && (n0_2 == 8)) && (s0_2.1 == 8)) && (!a0_2.2)) && (!a0_3.2)) && ((n0_3 + f.1) == (-2))) from hV 49 (by decide))
     refine L_gw (p := (((((((n0 == 8) && (s0.1 == 8)) && (n0_2 == 8)) && (s0_2.1 == 8)) && (!a0_2.2)) && (!a0_3.2)) && ((n0_3 + f.1) == (-2)))) hS rfl rfl rfl (wantB_t _) (fun hp => ?_) (fun hp => ⟨by rw [hp]; rfl, hG⟩)
     exact L_val hS rfl (Ob_c tRlW rfl) ⟨(by rw [hp]; rfl), hG⟩
   refine .cons (fun ss hlo hhi vals1 xw hG hV => ?_) ?_
   ·obtain rfl | rfl : ss = 3 ∨ ss = 4 := st1 hlo hhi
    all_goals
    ·rw [← hfe]
     have hS := (hfr vals1).sub (ts := [91, 78]) (S' := [(91, vals1 62), (78, vals1 49)]) rfl
     replace hS := hS.conv (t := 91) rfl (show (vals1 62) = cond (((((((n0 == 8) && (s0.1 == 8)) && (n0_2 == 8)) && (s0_2.1 == 8)) && (!a0_2.2)) && (!a0_3.2)) && ((n0_3 + f.1) == (-2))) (.pointer (some ⟨b1, 3, none⟩)) undef from hV 62 (by decide))
     replace hS := hS.conv (t := 78) rfl (show (vals1 49) = .bool (((((((n0 == 8) && (s0.1 == 8)) && (n0_2 == 8)) && (s0_2.1 == 8)) && (!a0_2.2)) && (!a0_3.2)) && ((n0_3 + f.1) == (-2))) from hV 49 (by decide))
     refine L_gw (p := (((((((n0 == 8) && (s0.1 == 8)) && (n0_2 == 8)) && (s0_2.1 == 8)) && (!a0_2.2)) && (!a0_3.2)) && ((n0_3 + f.1) == (-2)))) hS rfl rfl rfl (wantB_t _) (fun hp => ?_) (fun hp => ⟨by rw [hp]; rfl, hG⟩)
     replace hS := hS.conv (t := 91) rfl (cond_t hp)
     obtain ⟨I2, hI2, H⟩ := Gx.ex hG
     exact L_val hS rfl (Ob_load tRlW rfl rfl rfl ((H.bx 5 rfl).cell 3 rfl)) ⟨(by rw [hp]; rfl), hG⟩
   refine .cons (fun ss hlo hhi vals1 xw hG hV => ?_) ?_
   ·obtain rfl | rfl : ss = 3 ∨ ss = 4 := st1 hlo hhi
    all_goals
    ·rw [← hfe]
     have hS := (hfr vals1).sub (ts := [78, 0]) (S' := [(78, vals1 49), (0, .int .i64 i)]) rfl
     replace hS := hS.conv (t := 78) rfl (show (vals1 49) = .bool (((((((n0 == 8) && (s0.1 == 8)) && (n0_2 == 8)) && (s0_2.1 == 8)) && (!a0_2.2)) && (!a0_3.2)) && ((n0_3 + f.1) == (-2))) from hV 49 (by decide))
     refine L_gw (p := (((((((n0 == 8) && (s0.1 == 8)) && (n0_2 == 8)) && (s0_2.1 == 8)) && (!a0_2.2)) && (!a0_3.2)) && ((n0_3 + f.1) == (-2)))) hS rfl rfl rfl (wantB_t _) (fun hp => ?_) (fun hp => ⟨by rw [hp]; rfl, hG⟩)
     exact L_val hS rfl (Ob_c tRlW rfl) ⟨(by rw [hp]; rfl), hG⟩
   refine .cons (fun ss hlo hhi vals1 xw hG hV => ?_) ?_
   ·obtain rfl : ss = 4 := Nat.le_antisymm hhi hlo
    rw [← hfe]
    have hS := (hfr vals1).sub (ts := [92, 93, 78, 6]) (S' := [(92, vals1 63), (93, vals1 64), (78, vals1 49), (6, .pointer (some ⟨b2, 0, none⟩))]) rfl
    replace hS := hS.conv (t := 92) rfl (show (vals1 63) = cond (((((((n0 == 8) && (s0.1 == 8)) && (n0_2 == 8)) && (s0_2.1 == 8)) && (!a0_2.2)) && (!a0_3.2)) && ((n0_3 + f.1) == (-2))) (.int .u64 e.ts) undef from hV 63 (by decide))
    replace hS := hS.conv (t := 93) rfl (show (vals1 64) = cond (((((((n0 == 8) && (s0.1 == 8)) && (n0_2 == 8)) && (s0_2.1 == 8)) && (!a0_2.2)) && (!a0_3.2)) && ((n0_3 + f.1) == (-2))) (.int .i64 i) undef from hV 64 (by decide))
    replace hS := hS.conv (t := 78) rfl (show (vals1 49) = .bool (((((((n0 == 8) && (s0.1 == 8)) && (n0_2 == 8)) && (s0_2.1 == 8)) && (!a0_2.2)) && (!a0_3.2)) && ((n0_3 + f.1) == (-2))) from hV 49 (by decide))
    refine L_gw (p := (((((((n0 == 8) && (s0.1 == 8)) && (n0_2 == 8)) && (s0_2.1 == 8)) && (!a0_2.2)) && (!a0_3.2)) && ((n0_3 + f.1) == (-2)))) hS rfl rfl rfl (wantB_t _) (fun hp => ?_) (fun hp => ⟨by rw [hp]; rfl, ?_⟩)
    ·obtain ⟨I2, hI2, H⟩ := Gx.ex hG
     replace hS := hS.conv (t := 92) rfl (cond_t hp)
     replace hS := hS.conv (t := 93) rfl (cond_t hp)
     refine L_hcall H (js := [(0, false)]) rfl (caps := #[]) hS fn_10_YRlW rfl rfl rfl rfl rfl (fun D1 hS => have hq := c_rlog_Log_Thin (gif_in hx13 hp) hS; hq) fun _ yw D1 hr hF2 => ?_
     obtain ⟨rfl, I3, K⟩ := hr
     obtain ⟨hK, H2⟩ := hF2 K
     exact ⟨by rw [hp]; rfl, by first | (rw [hp] at H2 ⊢; exact Gx.go hG hI2 hK K.imm H2) | (rw [hp]; exact Gx.go hG hI2 hK K.imm H2) | exact Gx.go hG hI2 hK K.imm H2⟩
    ·(try rw [hp]); obtain ⟨I2, hI2, H⟩ := Gx.ex hG; (try rw [hp] at H); exact Gx.go hG hI2 (Keep.refl _ _) (fun _ h => h) (H.sub [(0, false), (0, false), (0, true), (1, false), (1, true), (2, false), (2, true)] rfl)
   refine .cons (fun ss hlo hhi vals1 xw hG hV => ?_) ?_
   ·obtain rfl | rfl | rfl | rfl | rfl : ss = 5 ∨ ss = 6 ∨ ss = 7 ∨ ss = 8 ∨ ss = 9 := st4 hlo hhi
    all_goals
    ·rw [← hfe]
     have hS := (hfr vals1).sub (ts := [90, 94, 78]) (S' := [(90, vals1 61), (94, vals1 65), (78, vals1 49)]) rfl
     replace hS := hS.conv (t := 90) rfl (show (vals1 61) = cond (((((((n0 == 8) && (s0.1 == 8)) && (n0_2 == 8)) && (s0_2.1 == 8)) && (!a0_2.2)) && (!a0_3.2)) && ((n0_3 + f.1) == (-2))) (.int .i64 (n0_4 + t.1 + n0_5)) undef from hV 61 (by decide))
     replace hS := hS.conv (t := 94) rfl (show (vals1 65) = cond (((((((n0 == 8) && (s0.1 == 8)) && (n0_2 == 8)) && (s0_2.1 == 8)) && (!a0_2.2)) && (!a0_3.2)) && ((n0_3 + f.1) == (-2))) (.int .i64 t_2) undef from hV 65 (by decide))
     replace hS := hS.conv (t := 78) rfl (show (vals1 49) = .bool (((((((n0 == 8) && (s0.1 == 8)) && (n0_2 == 8)) && (s0_2.1 == 8)) && (!a0_2.2)) && (!a0_3.2)) && ((n0_3 + f.1) == (-2))) from hV 49 (by decide))
     refine L_gw (p := (((((((n0 == 8) && (s0.1 == 8)) && (n0_2 == 8)) && (s0_2.1 == 8)) && (!a0_2.2)) && (!a0_3.2)) && ((n0_3 + f.1) == (-2)))) hS rfl rfl rfl (wantB_t _) (fun hp => ?_) (fun hp => ⟨by rw [hp]; rfl, hG⟩)
     replace hS := hS.conv (t := 90) rfl (cond_t hp)
     replace hS := hS.conv (t := 94) rfl (cond_t hp)
     exact L_val hS rfl (Ob_add rfl rfl rfl (wrI (hg4 hp))) ⟨(by rw [hp]; rfl), hG⟩
   refine .cons (fun ss hlo hhi vals1 xw hG hV => ?_) ?_
   ·obtain rfl | rfl | rfl : ss = 3 ∨ ss = 4 ∨ ss = 5 := st2 hlo hhi
    all_goals
    ·rw [← hfe]
     have hS := (hfr vals1).sub (ts := [78, 5]) (S' := [(78, vals1 49), (5, .pointer none)]) rfl
     replace hS := hS.conv (t := 78) rfl (show (vals1 49) = .bool (((((((n0 == 8) && (s0.1 == 8)) && (n0_2 == 8)) && (s0_2.1 == 8)) && (!a0_2.2)) && (!a0_3.2)) && ((n0_3 + f.1) == (-2))) from hV 49 (by decide))
     refine L_gw (p := (((((((n0 == 8) && (s0.1 == 8)) && (n0_2 == 8)) && (s0_2.1 == 8)) && (!a0_2.2)) && (!a0_3.2)) && ((n0_3 + f.1) == (-2)))) hS rfl rfl rfl (wantB_t _) (fun hp => ?_) (fun hp => ⟨by rw [hp]; rfl, hG⟩)
     exact L_val hS rfl (Ob_c tRlW rfl) ⟨(by rw [hp]; rfl), hG⟩
   refine .cons (fun ss hlo hhi vals1 xw hG hV => ?_) ?_
   ·obtain rfl : ss = 5 := Nat.le_antisymm hhi hlo
    rw [← hfe]
    have hS := (hfr vals1).sub (ts := [96, 78]) (S' := [(96, vals1 67), (78, vals1 49)]) rfl
    replace hS := hS.conv (t := 96) rfl (show (vals1 67) = cond (((((((n0 == 8) && (s0.1 == 8)) && (n0_2 == 8)) && (s0_2.1 == 8)) && (!a0_2.2)) && (!a0_3.2)) && ((n0_3 + f.1) == (-2))) (.pointer none) undef from hV 67 (by decide))
    replace hS := hS.conv (t := 78) rfl (show (vals1 49) = .bool (((((((n0 == 8) && (s0.1 == 8)) && (n0_2 == 8)) && (s0_2.1 == 8)) && (!a0_2.2)) && (!a0_3.2)) && ((n0_3 + f.1) == (-2))) from hV 49 (by decide))
    refine L_gw (p := (((((((n0 == 8) && (s0.1 == 8)) && (n0_2 == 8)) && (s0_2.1 == 8)) && (!a0_2.2)) && (!a0_3.2)) && ((n0_3 + f.1) == (-2)))) hS rfl rfl rfl (wantB_t _) (fun hp => ?_) (fun hp => ⟨by rw [hp]; rfl, hG⟩)
    replace hS := hS.conv (t := 96) rfl (cond_t hp)
    obtain ⟨I2, hI2, H⟩ := Gx.ex hG
    refine L_call (caps := #[]) hS fn_11_YRlW rfl rfl rfl rfl rfl ((have hq := c_rlog_Log_Len_nil (gif_in hx14 hp) ((H).pick0 (js := []) rfl rfl); plainC hq)) fun r yw hr => ?_
    obtain ⟨rfl, hb⟩ := hr
    exact ⟨(by rw [hp]; rfl), Gx.blw hG hb⟩
   refine .cons (fun ss hlo hhi vals1 xw hG hV => ?_) ?_
   ·obtain rfl | rfl | rfl | rfl | rfl : ss = 5 ∨ ss = 6 ∨ ss = 7 ∨ ss = 8 ∨ ss = 9 := st4 hlo hhi
    all_goals
    ·rw [← hfe]
     have hS := (hfr vals1).sub (ts := [95, 97, 78]) (S' := [(95, vals1 66), (97, vals1 68), (78, vals1 49)]) rfl
     replace hS := hS.conv (t := 95) rfl (show (vals1 66) = cond (((((((n0 == 8) && (s0.1 == 8)) && (n0_2 == 8)) && (s0_2.1 == 8)) && (!a0_2.2)) && (!a0_3.2)) && ((n0_3 + f.1) == (-2))) (.int .i64 (n0_4 + t.1 + n0_5 + t_2)) undef from hV 66 (by decide))
     replace hS := hS.conv (t := 97) rfl (show (vals1 68) = cond (((((((n0 == 8) && (s0.1 == 8)) && (n0_2 == 8)) && (s0_2.1 == 8)) && (!a0_2.2)) && (!a0_3.2)) && ((n0_3 + f.1) == (-2))) (.int .i64 n0_6) undef from hV 68 (by decide))
     replace hS := hS.conv (t := 78) rfl (show (vals1 49) = .bool (((((((n0 == 8) && (s0.1 == 8)) && (n0_2 == 8)) && (s0_2.1 == 8)) && (!a0_2.2)) && (!a0_3.2)) && ((n0_3 + f.1) == (-2))) from hV 49 (by decide))
     refine L_gw (p := (((((((n0 == 8) && (s0.1 == 8)) && (n0_2 == 8)) && (s0_2.1 == 8)) && (!a0_2.2)) && (!a0_3.2)) && ((n0_3 + f.1) == (-2)))) hS rfl rfl rfl (wantB_t _) (fun hp => ?_) (fun hp => ⟨by rw [hp]; rfl, hG⟩)
     replace hS := hS.conv (t := 95) rfl (cond_t hp)
     replace hS := hS.conv (t := 97) rfl (cond_t hp)
     exact L_val hS rfl (Ob_add rfl rfl rfl (wrI (hg5 hp))) ⟨(by rw [hp]; rfl), hG⟩
   refine .cons (fun ss hlo hhi vals1 xw hG hV => ?_) ?_
   ·obtain rfl : ss = 5 := Nat.le_antisymm hhi hlo
    rw [← hfe]
    have hS := (hfr vals1).sub (ts := [78, 6]) (S' := [(78, vals1 49), (6, .pointer (some ⟨b2, 0, none⟩))]) rfl
    replace hS := hS.conv (t := 78) rfl (show (vals1 49) = .bool (((((((n0 == 8) && (s0.1 == 8)) && (n0_2 == 8)) && (s0_2.1 == 8)) && (!a0_2.2)) && (!a0_3.2)) && ((n0_3 + f.1) == (-2))) from hV 49 (by decide))
    refine L_gw (p := (((((((n0 == 8) && (s0.1 == 8)) && (n0_2 == 8)) && (s0_2.1 == 8)) && (!a0_2.2)) && (!a0_3.2)) && ((n0_3 + f.1) == (-2)))) hS rfl rfl rfl (wantB_t _) (fun hp => ?_) (fun hp => ⟨by rw [hp]; rfl, ?_⟩)
    ·obtain ⟨I2, hI2, H⟩ := Gx.ex hG
     refine L_hcall H (js := [(0, false)]) rfl (caps := #[]) hS fn_11_YRlW rfl rfl rfl rfl rfl (fun D1 hS => have hq := c_rlog_Log_Len (gif_in hx15 hp) hS; hq) fun _ yw D1 hr hF2 => ?_
     obtain ⟨rfl, I3, K⟩ := hr
     obtain ⟨hK, H2⟩ := hF2 K
     exact ⟨by rw [hp]; rfl, by first | (rw [hp] at H2 ⊢; exact Gx.go hG hI2 hK K.imm H2) | (rw [hp]; exact Gx.go hG hI2 hK K.imm H2) | exact Gx.go hG hI2 hK K.imm H2⟩
    ·(try rw [hp]); obtain ⟨I2, hI2, H⟩ := Gx.ex hG; (try rw [hp] at H); exact Gx.go hG hI2 (Keep.refl _ _) (fun _ h => h) (H.sub [(0, false), (0, false), (0, true), (1, false), (1, true), (2, false), (2, true)] rfl)
   refine .cons (fun ss hlo hhi vals1 xw hG hV => ?_) ?_
   ·obtain rfl | rfl | rfl | rfl : ss = 6 ∨ ss = 7 ∨ ss = 8 ∨ ss = 9 := st3 hlo hhi
    all_goals
    ·rw [← hfe]
     have hS := (hfr vals1).sub (ts := [98, 99, 78]) (S' := [(98, vals1 69), (99, vals1 70), (78, vals1 49)]) rfl
     replace hS := hS.conv (t := 98) rfl (show (vals1 69) = cond (((((((n0 == 8) && (s0.1 == 8)) && (n0_2 == 8)) && (s0_2.1 == 8)) && (!a0_2.2)) && (!a0_3.2)) && ((n0_3 + f.1) == (-2))) (.int .i64 (n0_4 + t.1 + n0_5 + t_2 + n0_6)) undef from hV 69 (by decide))
     replace hS := hS.conv (t := 99) rfl (show (vals1 70) = cond (((((((n0 == 8) && (s0.1 == 8)) && (n0_2 == 8)) && (s0_2.1 == 8)) && (!a0_2.2)) && (!a0_3.2)) && ((n0_3 + f.1) == (-2))) (.int .i64 l) undef from hV 70 (by decide))
     replace hS := hS.conv (t := 78) rfl (show (vals1 49) = .bool (((((((n0 == 8) && (s0.1 == 8)) && (n0_2 == 8)) && (s0_2.1 == 8)) && (!a0_2.2)) && (!a0_3.2)) && ((n0_3 + f.1) == (-2))) from hV 49 (by decide))
     refine L_gw (p := (((((((n0 == 8) && (s0.1 == 8)) && (n0_2 == 8)) && (s0_2.1 == 8)) && (!a0_2.2)) && (!a0_3.2)) && ((n0_3 + f.1) == (-2)))) hS rfl rfl rfl (wantB_t _) (fun hp => ?_) (fun hp => ⟨by rw [hp]; rfl, hG⟩)
     replace hS := hS.conv (t := 98) rfl (cond_t hp)
     replace hS := hS.conv (t := 99) rfl (cond_t hp)
     exact L_val hS rfl (Ob_add rfl rfl rfl (wrI (hg6 hp))) ⟨(by rw [hp]; rfl), hG⟩
   refine .cons (fun ss hlo hhi vals1 xw hG hV => ?_) ?_
   ·obtain rfl | rfl | rfl | rfl : ss = 3 ∨ ss = 4 ∨ ss = 5 ∨ ss = 6 := st3 hlo hhi
    all_goals
    ·rw [← hfe]
     have hS := (hfr vals1).sub (ts := [78, 5]) (S' := [(78, vals1 49), (5, .pointer none)]) rfl
     replace hS := hS.conv (t := 78) rfl (show (vals1 49) = .bool (((((((n0 == 8) && (s0.1 == 8)) && (n0_2 == 8)) && (s0_2.1 == 8)) && (!a0_2.2)) && (!a0_3.2)) && ((n0_3 + f.1) == (-2))) from hV 49 (by decide))
     refine L_gw (p := (((((((n0 == 8) && (s0.1 == 8)) && (n0_2 == 8)) && (s0_2.1 == 8)) && (!a0_2.2)) && (!a0_3.2)) && ((n0_3 + f.1) == (-2)))) hS rfl rfl rfl (wantB_t _) (fun hp => ?_) (fun hp => ⟨by rw [hp]; rfl, hG⟩)
     exact L_val hS rfl (Ob_c tRlW rfl) ⟨(by rw [hp]; rfl), hG⟩
   refine .cons (fun ss hlo hhi vals1 xw hG hV => ?_) ?_
   ·obtain rfl : ss = 6 := Nat.le_antisymm hhi hlo
    rw [← hfe]
    have hS := (hfr vals1).sub (ts := [101, 78]) (S' := [(101, vals1 72), (78, vals1 49)]) rfl
    replace hS := hS.conv (t := 101) rfl (show (vals1 72) = cond (((((((n0 == 8) && (s0.1 == 8)) && (n0_2 == 8)) && (s0_2.1 == 8)) && (!a0_2.2)) && (!a0_3.2)) && ((n0_3 + f.1) == (-2))) (.pointer none) undef from hV 72 (by decide))
    replace hS := hS.conv (t := 78) rfl (show (vals1 49) = .bool (((((((n0 == 8) && (s0.1 == 8)) && (n0_2 == 8)) && (s0_2.1 == 8)) && (!a0_2.2)) && (!a0_3.2)) && ((n0_3 + f.1) == (-2))) from hV 49 (by decide))
    refine L_gw (p := (((((((n0 == 8) && (s0.1 == 8)) && (n0_2 == 8)) && (s0_2.1 == 8)) && (!a0_2.2)) && (!a0_3.2)) && ((n0_3 + f.1) == (-2)))) hS rfl rfl rfl (wantB_t _) (fun hp => ?_) (fun hp => ⟨by rw [hp]; rfl, hG⟩)
    replace hS := hS.conv (t := 101) rfl (cond_t hp)
    obtain ⟨I2, hI2, H⟩ := Gx.ex hG
    refine L_call (caps := #[]) hS fn_12_YRlW rfl rfl rfl rfl rfl ((have hq := c_rlog_Log_Stamped_nil (gif_in hx16 hp) ((H).pick0 (js := []) rfl rfl); plainC hq)) fun r yw hr => ?_
    obtain ⟨rfl, hb⟩ := hr
    exact ⟨(by rw [hp]; rfl), Gx.blw hG hb⟩
   refine .cons (fun ss hlo hhi vals1 xw hG hV => ?_) ?_
   ·obtain rfl | rfl | rfl | rfl : ss = 6 ∨ ss = 7 ∨ ss = 8 ∨ ss = 9 := st3 hlo hhi
    all_goals
    ·rw [← hfe]
     have hS := (hfr vals1).sub (ts := [100, 102, 78]) (S' := [(100, vals1 71), (102, vals1 73), (78, vals1 49)]) rfl
     replace hS := hS.conv (t := 100) rfl (show (vals1 71) = cond (((((((n0 == 8) && (s0.1 == 8)) && (n0_2 == 8)) && (s0_2.1 == 8)) && (!a0_2.2)) && (!a0_3.2)) && ((n0_3 + f.1) == (-2))) (.int .i64 (n0_4 + t.1 + n0_5 + t_2 + n0_6 + l)) undef from hV 71 (by decide))
     replace hS := hS.conv (t := 102) rfl (show (vals1 73) = cond (((((((n0 == 8) && (s0.1 == 8)) && (n0_2 == 8)) && (s0_2.1 == 8)) && (!a0_2.2)) && (!a0_3.2)) && ((n0_3 + f.1) == (-2))) (.int .i64 n0_7) undef from hV 73 (by decide))
     replace hS := hS.conv (t := 78) rfl (show (vals1 49) = .bool (((((((n0 == 8) && (s0.1 == 8)) && (n0_2 == 8)) && (s0_2.1 == 8)) && (!a0_2.2)) && (!a0_3.2)) && ((n0_3 + f.1) == (-2))) from hV 49 (by decide))
     refine L_gw (p := (((((((n0 == 8) && (s0.1 == 8)) && (n0_2 == 8)) && (s0_2.1 == 8)) && (!a0_2.2)) && (!a0_3.2)) && ((n0_3 + f.1) == (-2)))) hS rfl rfl rfl (wantB_t _) (fun hp => ?_) (fun hp => ⟨by rw [hp]; rfl, hG⟩)
     replace hS := hS.conv (t := 100) rfl (cond_t hp)
     replace hS := hS.conv (t := 102) rfl (cond_t hp)
     exact L_val hS rfl (Ob_add rfl rfl rfl (wrI (hg7 hp))) ⟨(by rw [hp]; rfl), hG⟩
   refine .cons (fun ss hlo hhi vals1 xw hG hV => ?_) ?_
   ·obtain rfl : ss = 6 := Nat.le_antisymm hhi hlo
    rw [← hfe]
    have hS := (hfr vals1).sub (ts := [78, 6]) (S' := [(78, vals1 49), (6, .pointer (some ⟨b2, 0, none⟩))]) rfl
    replace hS := hS.conv (t := 78) rfl (show (vals1 49) = .bool (((((((n0 == 8) && (s0.1 == 8)) && (n0_2 == 8)) && (s0_2.1 == 8)) && (!a0_2.2)) && (!a0_3.2)) && ((n0_3 + f.1) == (-2))) from hV 49 (by decide))
    refine L_gw (p := (((((((n0 == 8) && (s0.1 == 8)) && (n0_2 == 8)) && (s0_2.1 == 8)) && (!a0_2.2)) && (!a0_3.2)) && ((n0_3 + f.1) == (-2)))) hS rfl rfl rfl (wantB_t _) (fun hp => ?_) (fun hp => ⟨by rw [hp]; rfl, ?_⟩)
    ·obtain ⟨I2, hI2, H⟩ := Gx.ex hG
     refine L_hcall H (js := [(0, false)]) rfl (caps := #[]) hS fn_12_YRlW rfl rfl rfl rfl rfl (fun D1 hS => have hq := c_rlog_Log_Stamped (gif_in hx17 hp) hS; hq) fun _ yw D1 hr hF2 => ?_
     obtain ⟨rfl, I3, K⟩ := hr
     obtain ⟨hK, H2⟩ := hF2 K
     exact ⟨by rw [hp]; rfl, by first | (rw [hp] at H2 ⊢; exact Gx.go hG hI2 hK K.imm H2) | (rw [hp]; exact Gx.go hG hI2 hK K.imm H2) | exact Gx.go hG hI2 hK K.imm H2⟩
    ·(try rw [hp]); obtain ⟨I2, hI2, H⟩ := Gx.ex hG; (try rw [hp] at H); exact Gx.go hG hI2 (Keep.refl _ _) (fun _ h => h) (H.sub [(0, false), (0, false), (0, true), (1, false), (1, true), (2, false), (2, true)] rfl)
   refine .cons (fun ss hlo hhi vals1 xw hG hV => ?_) ?_
   ·obtain rfl | rfl | rfl : ss = 7 ∨ ss = 8 ∨ ss = 9 := st2 hlo hhi
    all_goals
    ·rw [← hfe]
     have hS := (hfr vals1).sub (ts := [103, 104, 78]) (S' := [(103, vals1 74), (104, vals1 75), (78, vals1 49)]) rfl
     replace hS := hS.conv (t := 103) rfl (show (vals1 74) = cond (((((((n0 == 8) && (s0.1 == 8)) && (n0_2 == 8)) && (s0_2.1 == 8)) && (!a0_2.2)) && (!a0_3.2)) && ((n0_3 + f.1) == (-2))) (.int .i64 (n0_4 + t.1 + n0_5 + t_2 + n0_6 + l + n0_7)) undef from hV 74 (by decide))
     replace hS := hS.conv (t := 104) rfl (show (vals1 75) = cond (((((((n0 == 8) && (s0.1 == 8)) && (n0_2 == 8)) && (s0_2.1 == 8)) && (!a0_2.2)) && (!a0_3.2)) && ((n0_3 + f.1) == (-2))) (.int .i64 s0_3) undef from hV 75 (by decide))
     replace hS := hS.conv (t := 78) rfl (show (vals1 49) = .bool (((((((n0 == 8) && (s0.1 == 8)) && (n0_2 == 8)) && (s0_2.1 == 8)) && (!a0_2.2)) && (!a0_3.2)) && ((n0_3 + f.1) == (-2))) from hV 49 (by decide))
     refine L_gw (p := (((((((n0 == 8) && (s0.1 == 8)) && (n0_2 == 8)) && (s0_2.1 == 8)) && (!a0_2.2)) && (!a0_3.2)) && ((n0_3 + f.1) == (-2)))) hS rfl rfl rfl (wantB_t _) (fun hp => ?_) (fun hp => ⟨by rw [hp]; rfl, hG⟩)
     replace hS := hS.conv (t := 103) rfl (cond_t hp)
     replace hS := hS.conv (t := 104) rfl (cond_t hp)
     exact L_val hS rfl (Ob_add rfl rfl rfl (wrI (hg8 hp))) ⟨(by rw [hp]; rfl), hG⟩
   refine .cons (fun ss hlo hhi vals1 xw hG hV => ?_) ?_
   ·obtain rfl | rfl | rfl | rfl | rfl : ss = 3 ∨ ss = 4 ∨ ss = 5 ∨ ss = 6 ∨ ss = 7 := st4 hlo hhi
    all_goals
    ·rw [← hfe]
     have hS := (hfr vals1).sub (ts := [78, 5]) (S' := [(78, vals1 49), (5, .pointer none)]) rfl
     replace hS := hS.conv (t := 78) rfl (show (vals1 49) = .bool (((((((n0 == 8) && (s0.1 == 8)) && (n0_2 == 8)) && (s0_2.1 == 8)) && (!a0_2.2)) && (!a0_3.2)) && ((n0_3 + f.1) == (-2))) from hV 49 (by decide))
     refine L_gw (p := (((((((n0 == 8) && (s0.1 == 8)) && (n0_2 == 8)) && (s0_2.1 == 8)) && (!a0_2.2)) && (!a0_3.2)) && ((n0_3 + f.1) == (-2)))) hS rfl rfl rfl (wantB_t _) (fun hp => ?_) (fun hp => ⟨by rw [hp]; rfl, hG⟩)
     exact L_val hS rfl (Ob_c tRlW rfl) ⟨(by rw [hp]; rfl), hG⟩
   refine .cons (fun ss hlo hhi vals1 xw hG hV => ?_) ?_
   ·obtain rfl : ss = 7 := Nat.le_antisymm hhi hlo
    rw [← hfe]
    have hS := (hfr vals1).sub (ts := [106, 78]) (S' := [(106, vals1 77), (78, vals1 49)]) rfl
    replace hS := hS.conv (t := 106) rfl (show (vals1 77) = cond (((((((n0 == 8) && (s0.1 == 8)) && (n0_2 == 8)) && (s0_2.1 == 8)) && (!a0_2.2)) && (!a0_3.2)) && ((n0_3 + f.1) == (-2))) (.pointer none) undef from hV 77 (by decide))
    replace hS := hS.conv (t := 78) rfl (show (vals1 49) = .bool (((((((n0 == 8) && (s0.1 == 8)) && (n0_2 == 8)) && (s0_2.1 == 8)) && (!a0_2.2)) && (!a0_3.2)) && ((n0_3 + f.1) == (-2))) from hV 49 (by decide))
    refine L_gw (p := (((((((n0 == 8) && (s0.1 == 8)) && (n0_2 == 8)) && (s0_2.1 == 8)) && (!a0_2.2)) && (!a0_3.2)) && ((n0_3 + f.1) == (-2)))) hS rfl rfl rfl (wantB_t _) (fun hp => ?_) (fun hp => ⟨by rw [hp]; rfl, ?_⟩)
    ·obtain ⟨I2, hI2, H⟩ := Gx.ex hG
     replace hS := hS.conv (t := 106) rfl (cond_t hp)
     refine L_hcall H (js := []) rfl (caps := #[]) hS fn_13_YRlW rfl rfl rfl rfl rfl (fun D1 hS => have hq := c_rlog_Log_All_nil (gif_in hx18 hp) hS; hq) fun _ yw D1 hr hF2 => ?_
     obtain ⟨q0_, rfl, I3, K⟩ := hr
     obtain ⟨hK, H2⟩ := hF2 K
     obtain ⟨_, _, rfl, _, _⟩ := H2.slshape 0 rfl
     exact ⟨by rw [hp]; rfl, by first | (rw [hp] at H2 ⊢; exact Gx.go hG hI2 hK K.imm H2) | (rw [hp]; exact Gx.go hG hI2 hK K.imm H2) | exact Gx.go hG hI2 hK K.imm H2⟩
    ·obtain rfl := gif_no hx18 hp; (try rw [hp]); obtain ⟨I2, hI2, H⟩ := Gx.ex hG; (try rw [hp] at H); exact Gx.go hG hI2 (Keep.refl _ _) (fun _ h => h) (Hf.sub (Hf.slNil (H.sub [(0, false), (0, false), (0, true), (1, false), (1, true), (2, false), (2, true)] rfl) NEEntry) [(0, false), (0, false), (0, false), (0, true), (1, false), (1, true), (2, false), (2, true)] rfl)
   refine .cons (fun ss hlo hhi vals1 xw hG hV => ?_) ?_
   ·obtain rfl | rfl : ss = 8 ∨ ss = 9 := st1 hlo hhi
    ·rw [← hfe]
     have hS := (hfr vals1).sub (ts := [107, 78]) (S' := [(107, vals1 78), (78, vals1 49)]) rfl
     replace hS := hS.conv (t := 107) rfl (show (vals1 78) = cond (((((((n0 == 8) && (s0.1 == 8)) && (n0_2 == 8)) && (s0_2.1 == 8)) && (!a0_2.2)) && (!a0_3.2)) && ((n0_3 + f.1) == (-2))) ((slG (vals1 78))) undef from hV 78 (by decide))
     replace hS := hS.conv (t := 78) rfl (show (vals1 49) = .bool (((((((n0 == 8) && (s0.1 == 8)) && (n0_2 == 8)) && (s0_2.1 == 8)) && (!a0_2.2)) && (!a0_3.2)) && ((n0_3 + f.1) == (-2))) from hV 49 (by decide))
     refine L_gw (p := (((((((n0 == 8) && (s0.1 == 8)) && (n0_2 == 8)) && (s0_2.1 == 8)) && (!a0_2.2)) && (!a0_3.2)) && ((n0_3 + f.1) == (-2)))) hS rfl rfl rfl (wantB_t _) (fun hp => ?_) (fun hp => ⟨by rw [hp]; rfl, hG⟩)
     replace hS := hS.conv (t := 107) rfl (cond_t hp)
     obtain ⟨I2, hI2, H⟩ := Gx.ex hG
     exact L_val hS rfl (Ob_slen tRlW rfl rfl rfl (H.slshape 0 rfl)) ⟨(by rw [hp]; rfl), hG⟩
    ·rw [← hfe]
     have hS := (hfr vals1).sub (ts := [107, 78]) (S' := [(107, vals1 78), (78, vals1 49)]) rfl
     replace hS := hS.conv (t := 107) rfl (show (vals1 78) = cond (((((((n0 == 8) && (s0.1 == 8)) && (n0_2 == 8)) && (s0_2.1 == 8)) && (!a0_2.2)) && (!a0_3.2)) && ((n0_3 + f.1) == (-2))) ((slG (vals1 78))) undef from hV 78 (by decide))
     replace hS := hS.conv (t := 78) rfl (show (vals1 49) = .bool (((((((n0 == 8) && (s0.1 == 8)) && (n0_2 == 8)) && (s0_2.1 == 8)) && (!a0_2.2)) && (!a0_3.2)) && ((n0_3 + f.1) == (-2))) from hV 49 (by decide))
     refine L_gw (p := (((((((n0 == 8) && (s0.1 == 8)) && (n0_2 == 8)) && (s0_2.1 == 8)) && (!a0_2.2)) && (!a0_3.2)) && ((n0_3 + f.1) == (-2)))) hS rfl rfl rfl (wantB_t _) (fun hp => ?_) (fun hp => ⟨by rw [hp]; rfl, hG⟩)
     replace hS := hS.conv (t := 107) rfl (cond_t hp)
     obtain ⟨I2, hI2, H⟩ := Gx.ex hG
     exact L_val hS rfl (Ob_slen tRlW rfl rfl rfl (H.slshape 2 rfl)) ⟨(by rw [hp]; rfl), hG⟩
   refine .cons (fun ss hlo hhi vals1 xw hG hV => ?_) ?_
   ·obtain rfl | rfl : ss = 8 ∨ ss = 9 := st1 hlo hhi
    all_goals
    ·rw [← hfe]
     have hS := (hfr vals1).sub (ts := [105, 108, 78]) (S' := [(105, vals1 76), (108, vals1 79), (78, vals1 49)]) rfl
     replace hS := hS.conv (t := 105) rfl (show (vals1 76) = cond (((((((n0 == 8) && (s0.1 == 8)) && (n0_2 == 8)) && (s0_2.1 == 8)) && (!a0_2.2)) && (!a0_3.2)) && ((n0_3 + f.1) == (-2))) (.int .i64 (n0_4 + t.1 + n0_5 + t_2 + n0_6 + l + n0_7 + s0_3)) undef from hV 76 (by decide))
     replace hS := hS.conv (t := 108) rfl (show (vals1 79) = cond (((((((n0 == 8) && (s0.1 == 8)) && (n0_2 == 8)) && (s0_2.1 == 8)) && (!a0_2.2)) && (!a0_3.2)) && ((n0_3 + f.1) == (-2))) (.int .i64 (n0_8.length : Int)) undef from hV 79 (by decide))
     replace hS := hS.conv (t := 78) rfl (show (vals1 49) = .bool (((((((n0 == 8) && (s0.1 == 8)) && (n0_2 == 8)) && (s0_2.1 == 8)) && (!a0_2.2)) && (!a0_3.2)) && ((n0_3 + f.1) == (-2))) from hV 49 (by decide))
     refine L_gw (p := (((((((n0 == 8) && (s0.1 == 8)) && (n0_2 == 8)) && (s0_2.1 == 8)) && (!a0_2.2)) && (!a0_3.2)) && ((n0_3 + f.1) == (-2)))) hS rfl rfl rfl (wantB_t _) (fun hp => ?_) (fun hp => ⟨by rw [hp]; rfl, hG⟩)
     replace hS := hS.conv (t := 105) rfl (cond_t hp)
     replace hS := hS.conv (t := 108) rfl (cond_t hp)
     exact L_val hS rfl (Ob_add rfl rfl rfl (wrI (hg9 hp))) ⟨(by rw [hp]; rfl), hG⟩
   refine .cons (fun ss hlo hhi vals1 xw hG hV => ?_) ?_
   ·obtain rfl : ss = 8 := Nat.le_antisymm hhi hlo
    rw [← hfe]
    have hS := (hfr vals1).sub (ts := [78, 6]) (S' := [(78, vals1 49), (6, .pointer (some ⟨b2, 0, none⟩))]) rfl
    replace hS := hS.conv (t := 78) rfl (show (vals1 49) = .bool (((((((n0 == 8) && (s0.1 == 8)) && (n0_2 == 8)) && (s0_2.1 == 8)) && (!a0_2.2)) && (!a0_3.2)) && ((n0_3 + f.1) == (-2))) from hV 49 (by decide))
    refine L_gw (p := (((((((n0 == 8) && (s0.1 == 8)) && (n0_2 == 8)) && (s0_2.1 == 8)) && (!a0_2.2)) && (!a0_3.2)) && ((n0_3 + f.1) == (-2)))) hS rfl rfl rfl (wantB_t _) (fun hp => ?_) (fun hp => ⟨by rw [hp]; rfl, ?_⟩)
    ·obtain ⟨I2, hI2, H⟩ := Gx.ex hG
     refine L_hcall H (js := [(1, false)]) rfl (caps := #[]) hS fn_13_YRlW rfl rfl rfl rfl rfl (fun D1 hS => have hq := c_rlog_Log_All (gif_in hx19 hp) hS; hq) fun _ yw D1 hr hF2 => ?_
     obtain ⟨q0_, rfl, I3, K⟩ := hr
     obtain ⟨hK, H2⟩ := hF2 K
     obtain ⟨_, _, rfl, _, _⟩ := H2.slshape 1 rfl
     exact ⟨by rw [hp]; rfl, by first | (rw [hp] at H2 ⊢; exact Gx.go hG hI2 hK K.imm H2) | (rw [hp]; exact Gx.go hG hI2 hK K.imm H2) | exact Gx.go hG hI2 hK K.imm H2⟩
    ·obtain rfl := gif_no hx19 hp; (try rw [hp]); obtain ⟨I2, hI2, H⟩ := Gx.ex hG; (try rw [hp] at H); exact Gx.go hG hI2 (Keep.refl _ _) (fun _ h => h) (Hf.sub (Hf.slNil (H.sub [(1, false), (0, true), (1, false), (1, true), (2, false), (2, true), (3, false), (3, true)] rfl) NEEntry) [(1, false), (0, false), (0, true), (1, false), (1, true), (2, false), (2, true), (3, false), (3, true)] rfl)
   refine .cons (fun ss hlo hhi vals1 xw hG hV => ?_) ?_
   ·obtain rfl : ss = 9 := Nat.le_antisymm hhi hlo
    rw [← hfe]
    have hS := (hfr vals1).sub (ts := [110, 78]) (S' := [(110, vals1 81), (78, vals1 49)]) rfl
    replace hS := hS.conv (t := 110) rfl (show (vals1 81) = cond (((((((n0 == 8) && (s0.1 == 8)) && (n0_2 == 8)) && (s0_2.1 == 8)) && (!a0_2.2)) && (!a0_3.2)) && ((n0_3 + f.1) == (-2))) ((slG (vals1 81))) undef from hV 81 (by decide))
    replace hS := hS.conv (t := 78) rfl (show (vals1 49) = .bool (((((((n0 == 8) && (s0.1 == 8)) && (n0_2 == 8)) && (s0_2.1 == 8)) && (!a0_2.2)) && (!a0_3.2)) && ((n0_3 + f.1) == (-2))) from hV 49 (by decide))
    refine L_gw (p := (((((((n0 == 8) && (s0.1 == 8)) && (n0_2 == 8)) && (s0_2.1 == 8)) && (!a0_2.2)) && (!a0_3.2)) && ((n0_3 + f.1) == (-2)))) hS rfl rfl rfl (wantB_t _) (fun hp => ?_) (fun hp => ⟨by rw [hp]; rfl, hG⟩)
    replace hS := hS.conv (t := 110) rfl (cond_t hp)
    obtain ⟨I2, hI2, H⟩ := Gx.ex hG
    exact L_val hS rfl (Ob_slen tRlW rfl rfl rfl (H.slshape 1 rfl)) ⟨(by rw [hp]; rfl), hG⟩
   refine .cons (fun ss hlo hhi vals1 xw hG hV => ?_) ?_
   ·obtain rfl : ss = 9 := Nat.le_antisymm hhi hlo
    rw [← hfe]
    have hS := (hfr vals1).sub (ts := [109, 111, 78]) (S' := [(109, vals1 80), (111, vals1 82), (78, vals1 49)]) rfl
    replace hS := hS.conv (t := 109) rfl (show (vals1 80) = cond (((((((n0 == 8) && (s0.1 == 8)) && (n0_2 == 8)) && (s0_2.1 == 8)) && (!a0_2.2)) && (!a0_3.2)) && ((n0_3 + f.1) == (-2))) (.int .i64 (n0_4 + t.1 + n0_5 + t_2 + n0_6 + l + n0_7 + s0_3 + (n0_8.length : Int))) undef from hV 80 (by decide))
    replace hS := hS.conv (t := 111) rfl (show (vals1 82) = cond (((((((n0 == 8) && (s0.1 == 8)) && (n0_2 == 8)) && (s0_2.1 == 8)) && (!a0_2.2)) && (!a0_3.2)) && ((n0_3 + f.1) == (-2))) (.int .i64 (a0_4.length : Int)) undef from hV 82 (by decide))
    replace hS := hS.conv (t := 78) rfl (show (vals1 49) = .bool (((((((n0 == 8) && (s0.1 == 8)) && (n0_2 == 8)) && (s0_2.1 == 8)) && (!a0_2.2)) && (!a0_3.2)) && ((n0_3 + f.1) == (-2))) from hV 49 (by decide))
    refine L_gw (p := (((((((n0 == 8) && (s0.1 == 8)) && (n0_2 == 8)) && (s0_2.1 == 8)) && (!a0_2.2)) && (!a0_3.2)) && ((n0_3 + f.1) == (-2)))) hS rfl rfl rfl (wantB_t _) (fun hp => ?_) (fun hp => ⟨by rw [hp]; rfl, hG⟩)
    replace hS := hS.conv (t := 109) rfl (cond_t hp)
    replace hS := hS.conv (t := 111) rfl (cond_t hp)
    exact L_val hS rfl (Ob_add rfl rfl rfl (wrI (hg10 hp))) ⟨(by rw [hp]; rfl), hG⟩
   refine .cons (fun ss hlo hhi vals1 xw hG hV => ?_) ?_
   ·obtain rfl : ss = 9 := Nat.le_antisymm hhi hlo
    rw [← hfe]
    have hS := (hfr vals1).sub (ts := [112, 78]) (S' := [(112, vals1 83), (78, vals1 49)]) rfl
    replace hS := hS.conv (t := 112) rfl (show (vals1 83) = cond (((((((n0 == 8) && (s0.1 == 8)) && (n0_2 == 8)) && (s0_2.1 == 8)) && (!a0_2.2)) && (!a0_3.2)) && ((n0_3 + f.1) == (-2))) (.int .i64 (n0_4 + t.1 + n0_5 + t_2 + n0_6 + l + n0_7 + s0_3 + (n0_8.length : Int) + (a0_4.length : Int))) undef from hV 83 (by decide))
    replace hS := hS.conv (t := 78) rfl (show (vals1 49) = .bool (((((((n0 == 8) && (s0.1 == 8)) && (n0_2 == 8)) && (s0_2.1 == 8)) && (!a0_2.2)) && (!a0_3.2)) && ((n0_3 + f.1) == (-2))) from hV 49 (by decide))
    refine L_gw (p := (((((((n0 == 8) && (s0.1 == 8)) && (n0_2 == 8)) && (s0_2.1 == 8)) && (!a0_2.2)) && (!a0_3.2)) && ((n0_3 + f.1) == (-2)))) hS rfl rfl rfl (wantB_t _) (fun hp => ?_) (fun hp => ⟨by rw [hp]; rfl, hG⟩)
    replace hS := hS.conv (t := 112) rfl (cond_t hp)
    exact L_val hS rfl (Ob_c tRlW rfl) ⟨(by rw [hp]; rfl), hG⟩
   refine .cons (fun ss hlo hhi vals1 xw hG hV => ?_) ?_
   ·obtain rfl : ss = 9 := Nat.le_antisymm hhi hlo
    rw [← hfe]
    have hS := (hfr vals1).sub (ts := [78, 113]) (S' := [(78, vals1 49), (113, vals1 84)]) rfl
    replace hS := hS.conv (t := 78) rfl (show (vals1 49) = .bool (((((((n0 == 8) && (s0.1 == 8)) && (n0_2 == 8)) && (s0_2.1 == 8)) && (!a0_2.2)) && (!a0_3.2)) && ((n0_3 + f.1) == (-2))) from hV 49 (by decide))
    replace hS := hS.conv (t := 113) rfl (show (vals1 84) = cond (((((((n0 == 8) && (s0.1 == 8)) && (n0_2 == 8)) && (s0_2.1 == 8)) && (!a0_2.2)) && (!a0_3.2)) && ((n0_3 + f.1) == (-2))) (.bool ((n0_4 + t.1 + n0_5 + t_2 + n0_6 + l + n0_7 + s0_3 + (n0_8.length : Int) + (a0_4.length : Int)) == 0)) undef from hV 84 (by decide))
    exact L_val hS rfl (Ob_pick rfl rfl rfl rfl (pick_and _ _)) ⟨rfl, hG⟩
   refine .cons (fun ss hlo hhi vals1 xw hG hV => ?_) ?_
   ·obtain rfl : ss = 9 := Nat.le_antisymm hhi hlo
    rw [← hfe]
    have hS := (hfr vals1).sub (ts := [114]) (S' := [(114, vals1 85)]) rfl
    replace hS := hS.conv (t := 114) rfl (show (vals1 85) = .bool ((((((((n0 == 8) && (s0.1 == 8)) && (n0_2 == 8)) && (s0_2.1 == 8)) && (!a0_2.2)) && (!a0_3.2)) && ((n0_3 + f.1) == (-2))) && ((n0_4 + t.1 + n0_5 + t_2 + n0_6 + l + n0_7 + s0_3 + (n0_8.length : Int) + (a0_4.length : Int)) == 0)) from hV 85 (by decide))
    exact L_val hS rfl (Ob_c tRlW rfl) ⟨rfl, hG⟩
   refine .cons (fun ss hlo hhi vals1 xw hG hV => ?_) ?_
   ·obtain rfl : ss = 9 := Nat.le_antisymm hhi hlo
    rw [← hfe]
    have hS := (hfr vals1).sub (ts := [115]) (S' := [(115, vals1 86)]) rfl
    replace hS := hS.conv (t := 115) rfl (show (vals1 86) = .bool ((((((((n0 == 8) && (s0.1 == 8)) && (n0_2 == 8)) && (s0_2.1 == 8)) && (!a0_2.2)) && (!a0_3.2)) && ((n0_3 + f.1) == (-2))) && ((n0_4 + t.1 + n0_5 + t_2 + n0_6 + l + n0_7 + s0_3 + (n0_8.length : Int) + (a0_4.length : Int)) == 0)) from hV 86 (by decide))
    refine L_gw (p := ((((((((n0 == 8) && (s0.1 == 8)) && (n0_2 == 8)) && (s0_2.1 == 8)) && (!a0_2.2)) && (!a0_3.2)) && ((n0_3 + f.1) == (-2))) && ((n0_4 + t.1 + n0_5 + t_2 + n0_6 + l + n0_7 + s0_3 + (n0_8.length : Int) + (a0_4.length : Int)) == 0))) hS rfl rfl rfl (wantB_t _) (fun hp => ?_) (fun hp => ⟨by rw [hp]; rfl, hG⟩)
    obtain ⟨I2, hI2, H⟩ := Gx.ex hG
    refine L_call (caps := #[]) hS fn_4_YRlW rfl rfl rfl rfl rfl ((have hq := c_law17_awake (gif_in hx20 hp) ((H).pick0 (js := []) rfl rfl); plainC hq)) fun r yw hr => ?_
    obtain ⟨rfl, hb⟩ := hr
    exact ⟨(by rw [hp]; rfl), Gx.blw hG hb⟩
   refine .cons (fun ss hlo hhi vals1 xw hG hV => ?_) ?_
   ·obtain rfl : ss = 9 := Nat.le_antisymm hhi hlo
    rw [← hfe]
    have hS := (hfr vals1).sub (ts := [115, 116]) (S' := [(115, vals1 86), (116, vals1 87)]) rfl
    replace hS := hS.conv (t := 115) rfl (show (vals1 86) = .bool ((((((((n0 == 8) && (s0.1 == 8)) && (n0_2 == 8)) && (s0_2.1 == 8)) && (!a0_2.2)) && (!a0_3.2)) && ((n0_3 + f.1) == (-2))) && ((n0_4 + t.1 + n0_5 + t_2 + n0_6 + l + n0_7 + s0_3 + (n0_8.length : Int) + (a0_4.length : Int)) == 0)) from hV 86 (by decide))
    replace hS := hS.conv (t := 116) rfl (show (vals1 87) = cond ((((((((n0 == 8) && (s0.1 == 8)) && (n0_2 == 8)) && (s0_2.1 == 8)) && (!a0_2.2)) && (!a0_3.2)) && ((n0_3 + f.1) == (-2))) && ((n0_4 + t.1 + n0_5 + t_2 + n0_6 + l + n0_7 + s0_3 + (n0_8.length : Int) + (a0_4.length : Int)) == 0)) (.bool a0_5) undef from hV 87 (by decide))
    exact L_val hS rfl (Ob_pick rfl rfl rfl rfl (pick_and _ _)) ⟨rfl, hG⟩
   refine .cons (fun ss hlo hhi vals1 xw hG hV => ?_) ?_
   ·obtain rfl : ss = 9 := Nat.le_antisymm hhi hlo
    rw [← hfe]
    have hS := (hfr vals1).sub (ts := [117]) (S' := [(117, vals1 88)]) rfl
    replace hS := hS.conv (t := 117) rfl (show (vals1 88) = .bool (((((((((n0 == 8) && (s0.1 == 8)) && (n0_2 == 8)) && (s0_2.1 == 8)) && (!a0_2.2)) && (!a0_3.2)) && ((n0_3 + f.1) == (-2))) && ((n0_4 + t.1 + n0_5 + t_2 + n0_6 + l + n0_7 + s0_3 + (n0_8.length : Int) + (a0_4.length : Int)) == 0)) && a0_5) from hV 88 (by decide))
    exact L_val hS rfl (Ob_c tRlW rfl) ⟨rfl, hG⟩
   exact .nil
  ·intro vals1 a w10 Z hG hV
   replace Z := Z.sub (ts := [4]) (S' := [(4, vals1 89)]) rfl
   replace Z := Z.conv (t := 4) rfl (show (vals1 89) = .bool (((((((((n0 == 8) && (s0.1 == 8)) && (n0_2 == 8)) && (s0_2.1 == 8)) && (!a0_2.2)) && (!a0_3.2)) && ((n0_3 + f.1) == (-2))) && ((n0_4 + t.1 + n0_5 + t_2 + n0_6 + l + n0_7 + s0_3 + (n0_8.length : Int) + (a0_4.length : Int)) == 0)) && a0_5) from hV 89 (by decide))
   obtain ⟨I4, _, H⟩ := Gx.ex hG
   clear hG hV
   replace Z := Z.sub (ts := [4]) rfl
   replace H : Hf I D w I4 w10 [OErlog_Log b2 (cond (((((((n0 == 8) && (s0.1 == 8)) && (n0_2 == 8)) && (s0_2.1 == 8)) && (!a0_2.2)) && (!a0_3.2)) && ((n0_3 + f.1) == (-2))) t.2 (cond ((((((n0 == 8) && (s0.1 == 8)) && (n0_2 == 8)) && (s0_2.1 == 8)) && (!a0_2.2)) && (!a0_3.2)) f.2 (cond (((n0 == 8) && (s0.1 == 8)) && (n0_2 == 8)) s0_2.2 (cond (n0 == 8) s0.2 (default : Erlog_Log))))), SlC NEEntry (slG (vals1 81)) a0_4, SlC NEEntry (slG (vals1 78)) n0_8, BxC b4 27 (cEEntry a0_3.1 q2), SlC NEOp q2 a0_3.1.batch.ops, BxC b3 27 (cEEntry a0_2.1 q1), SlC NEOp q1 a0_2.1.batch.ops, BxC b1 27 (cEEntry e v1_e), SlC NEOp v1_e e.batch.ops] := H
   refine p_then (wp_ret ?_)
   obtain rfl := some_in hF
   exact f_ret Z (run_results1 rfl Z rfl) ⟨rfl, I4, (H.sub [] rfl).eq rfl⟩

end Go.Proofs.Ytmmdghdindoclaa
