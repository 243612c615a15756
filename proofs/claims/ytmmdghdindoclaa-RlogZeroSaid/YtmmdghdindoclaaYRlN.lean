/- A replica's log: At of one that nobody made, by hand. -/
import Derived.Test.YtmmdghdindoclaaYRlT
namespace Go.Proofs.Ytmmdghdindoclaa
open Go.RowKit
def tRlNL : TabL := ⟨[], [], [], [], []⟩

def tRlN : Tab Try.prog := ⟨tRlNL, by kernel_rfl⟩

def F_rlog_Log_none_nil : Option Bool := some true

set_option maxHeartbeats 1000000 in
theorem c_rlog_Log_none_nil {I D : Dm} {w : World} {rr : Bool} (hF : F_rlog_Log_none_nil = some rr) (H : St I D w []) :
  Calls Try.prog 15 #[.pointer none] w (Ret fun vv w' => vv = .bool rr ∧ ∃ I', Hf I D w I' w' []) := by
 replace H := H.hf
 unfold F_rlog_Log_none_nil at hF
 refine f_enter 12 Try.func15 rfl rfl (Nat.le_of_ble_eq_true rfl) fun a Z => ?_
 replace Z := Z.sub (ts := [0]) rfl
 refine wp_seq (f_region Z ?_); clear Z; intro Z
 refine s_runk tRlN Z 1 rfl rfl ?_; clear Z a; intro a Z
 refine s_end Z [0, 2] rfl ?_; clear Z; intro Z
 refine p_then (wp_seq (f_region Z ?_)); clear Z; intro Z
 refine s_runk tRlN Z 1 rfl rfl ?_; clear Z a; intro a Z
 refine s_ob Z (v := .bool true) rfl rfl (by decide) rfl (Ob_pnil rfl rfl rfl Try.underlying29 (.inl ⟨rfl, rfl⟩)) ?_; clear Z a; intro a Z
 refine s_runk tRlN Z 1 rfl rfl ?_; clear Z a; intro a Z
 refine g_if Z rfl rfl rfl (p := false) rfl rfl (by decide) (fun h => by cases h) ?_; clear Z; intro _ a Z
 refine g_if Z rfl rfl rfl (p := false) rfl rfl (by decide) (fun h => by cases h) ?_; clear Z; intro _ a Z
 refine g_if Z rfl rfl rfl (p := false) rfl rfl (by decide) (fun h => by cases h) ?_; clear Z; intro _ a Z
 refine g_if Z rfl rfl rfl (p := false) rfl rfl (by decide) (fun h => by cases h) ?_; clear Z; intro _ a Z
 refine g_if Z rfl rfl rfl (p := false) rfl rfl (by decide) (fun h => by cases h) ?_; clear Z; intro _ a Z
 refine s_ob Z (v := .bool true) rfl rfl (by decide) rfl (Ob_pick rfl rfl rfl rfl rfl) ?_; clear Z a; intro a Z
 refine s_runk tRlN Z 1 rfl rfl ?_; clear Z a; intro a Z
 refine s_end Z [2] rfl ?_; clear Z; intro Z
 refine p_then (wp_ret ?_)
 obtain rfl := some_in hF
 exact f_ret Z (run_results1 rfl Z rfl) ⟨rfl, I, (H.sub [] rfl).eq rfl⟩

def F_rlog_Log_At_nil (_ : Int) : Option (EEntry × Bool) := some (default, false)

set_option maxHeartbeats 1000000 in
theorem c_rlog_Log_At_nil {I D : Dm} {i : Int} {w : World} {rr : EEntry × Bool} (hF : F_rlog_Log_At_nil i = some rr) (H : St I D w []) :
  Calls Try.prog 5 #[.pointer none, .int .i64 i] w (Ret fun vv w' => ∃ q1 : Value, vv = .tuple #[.agg #[.int .i64 rr.1.batch.client, .int .i64 rr.1.batch.req, q1, .int .u64 rr.1.ts], .bool rr.2] ∧ ∃ I', Hf I D w I' w' [SlC NEOp q1 rr.1.batch.ops]) := by
 replace H := H.hf
 unfold F_rlog_Log_At_nil at hF
 refine f_enter 30 Try.func5 rfl rfl (Nat.le_of_ble_eq_true rfl) fun a Z => ?_
 replace Z := Z.sub (ts := [0, 1]) rfl
 refine wp_seq (f_region Z ?_); clear Z; intro Z
 refine h_alloc Z H (cl := [.int .i64 0, .int .i64 0, .slice none 0 0, .int .u64 0]) (z := .agg #[.int .i64 0, .int .i64 0, .slice none 0 0, .int .u64 0]) rfl rfl rfl (by decide) rfl (by kernel_rfl) rfl ?_; clear Z a H; intro a w1 b1 H Z
 refine s_runk tAd Z 1 rfl rfl ?_; clear Z a; intro a Z
 refine s_end Z [0, 1, 4, 5] rfl ?_; clear Z; intro Z
 refine p_then (wp_seq ?_)
 refine wp_seq (f_region Z ?_); clear Z; intro Z
 refine s_runk tAd Z 1 rfl rfl ?_; clear Z a; intro a Z
 refine h_call Z H (js := []) rfl (caps := #[]) fn_15_YAd rfl rfl rfl rfl rfl (by decide) rfl rfl (fun D1 hS => have hq := c_rlog_Log_none_nil (rr := true) rfl hS; hq) ?_; clear Z a; intro vv a w2 D2 hr hF2 Z
 obtain ⟨rfl, I1, K⟩ := hr
 have H : Hf I D w I1 w2 [BxC b1 27 [.int .i64 0, .int .i64 0, .slice none 0 0, .int .u64 0]] := hF2 K
 clear hF2 K
 refine s_runk tAd Z 1 rfl rfl ?_; clear Z a; intro a Z
 refine g_ob Z (p := false) (v := .bool false) (S' := []) rfl rfl rfl rfl rfl (by decide) (fun hp _ => absurd hp (by decide)) (fun hp => absurd hp (by decide)) ?_; clear Z a; intro a Z
 refine g_ob Z (p := false) (v := .bool false) (S' := []) rfl rfl rfl rfl rfl (by decide) (fun hp _ => absurd hp (by decide)) (fun hp => absurd hp (by decide)) ?_; clear Z a; intro a Z
 refine s_ob Z (v := .bool (true || false)) rfl rfl (by decide) rfl (Ob_pick rfl rfl rfl rfl (pick_or true false)) ?_; clear Z a; intro a Z
 refine s_runk tAd Z 1 rfl rfl ?_; clear Z a; intro a Z
 refine g_ob Z (p := false) (v := .bool false) (S' := []) rfl rfl rfl rfl rfl (by decide) (fun hp _ => absurd hp (by decide)) (fun hp => absurd hp (by decide)) ?_; clear Z a; intro a Z
 refine g_ob Z (p := false) (v := .bool false) (S' := []) rfl rfl rfl rfl rfl (by decide) (fun hp _ => absurd hp (by decide)) (fun hp => absurd hp (by decide)) ?_; clear Z a; intro a Z
 refine g_ob Z (p := false) (v := .bool false) (S' := []) rfl rfl rfl rfl rfl (by decide) (fun hp _ => absurd hp (by decide)) (fun hp => absurd hp (by decide)) ?_; clear Z a; intro a Z
 refine g_ob Z (p := false) (v := .bool false) (S' := []) rfl rfl rfl rfl rfl (by decide) (fun hp _ => absurd hp (by decide)) (fun hp => absurd hp (by decide)) ?_; clear Z a; intro a Z
 refine g_ob Z (p := false) (v := .bool false) (S' := []) rfl rfl rfl rfl rfl (by decide) (fun hp _ => absurd hp (by decide)) (fun hp => absurd hp (by decide)) ?_; clear Z a; intro a Z
 refine g_ob Z (p := false) (v := .bool false) (S' := []) rfl rfl rfl rfl rfl (by decide) (fun hp _ => absurd hp (by decide)) (fun hp => absurd hp (by decide)) ?_; clear Z a; intro a Z
 refine g_ob Z (p := false) (v := .bool false) (S' := []) rfl rfl rfl rfl rfl (by decide) (fun hp _ => absurd hp (by decide)) (fun hp => absurd hp (by decide)) ?_; clear Z a; intro a Z
 refine s_ob Z (v := .bool (true || false)) rfl rfl (by decide) rfl (Ob_pick rfl rfl rfl rfl (pick_or true false)) ?_; clear Z a; intro a Z
 refine s_end Z [0, 1, 4, 5, 20] rfl ?_; clear Z; intro Z
 refine p_then ?_
 refine f_cond Z rfl (fun hc1 => ?_) (fun hc1 => by cases hc1)
 refine wp_seq (f_region Z ?_); clear Z; intro Z
 refine s_ob Z (v := .agg #[.int .i64 0, .int .i64 0, .slice none 0 0, .int .u64 0]) rfl rfl (by decide) rfl (Ob_build (vs := []) rfl rfl (by go_simp <;> rfl)) ?_; clear Z a; intro a Z
 refine h_store tAd Z H 0 rfl rfl rfl rfl rfl rfl rfl rfl rfl (one_cons rfl (one_cons rfl (one_cons (slS.one slS.nil) (one_cons rfl one_nil)))) (Nat.le_of_ble_eq_true rfl) rfl ?_; clear H; intro w3 H
 dsimp only [List.eraseIdx] at H
 refine s_runk tAd Z 1 rfl rfl ?_; clear Z a; intro a Z
 refine s_end Z [0, 1, 4, 5] rfl ?_; clear Z; intro Z
 refine p_then (wp_ret ?_)
 refine p_then_r ?_
 replace H : Hf I D w I1 w3 [SlC NEOp (.slice none 0 0) ([] : List EOp), BxC b1 27 [.int .i64 0, .int .i64 0, .slice none 0 0, .int .u64 0]] := H.slNil NEOp
 obtain rfl := some_in hF
 exact f_ret Z (run_resultsCT rfl Z rfl (run_loadVar_agg tAd rfl (H.bx 1 rfl).at) rfl) ⟨.slice none 0 0, rfl, I1, (H.sub [(0, true)] rfl).eq rfl⟩

end Go.Proofs.Ytmmdghdindoclaa
