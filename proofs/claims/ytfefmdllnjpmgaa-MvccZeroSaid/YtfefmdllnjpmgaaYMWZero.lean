/- Many versions: the law MvccZero walked. -/
import Derived.Test.YtfefmdllnjpmgaaYMW
namespace Go.Proofs.Ytfefmdllnjpmgaa
open Go.RowKit
def tMWZeroL : TabL := ⟨[], [], [], [(30, (60, 3)), (33, (39, 2))], [(57, (3, true))]⟩

def tMWZero : Tab Try.prog := ⟨tMWZeroL, by kernel_rfl⟩

theorem fn_9_YMWZero : IsFn Try.prog 9 := ⟨_, Try.func9, by kernel_rfl, by kernel_rfl⟩

theorem fn_11_YMWZero : IsFn Try.prog 11 := ⟨_, Try.func11, by kernel_rfl, by kernel_rfl⟩

theorem fn_12_YMWZero : IsFn Try.prog 12 := ⟨_, Try.func12, by kernel_rfl, by kernel_rfl⟩

theorem fn_17_YMWZero : IsFn Try.prog 17 := ⟨_, Try.func17, by kernel_rfl, by kernel_rfl⟩

theorem fn_20_YMWZero : IsFn Try.prog 20 := ⟨_, Try.func20, by kernel_rfl, by kernel_rfl⟩

theorem fn_21_YMWZero : IsFn Try.prog 21 := ⟨_, Try.func21, by kernel_rfl, by kernel_rfl⟩

theorem fn_23_YMWZero : IsFn Try.prog 23 := ⟨_, Try.func23, by kernel_rfl, by kernel_rfl⟩

theorem fn_25_YMWZero : IsFn Try.prog 25 := ⟨_, Try.func25, by kernel_rfl, by kernel_rfl⟩

def F_mvcc_Store_none_nil : Option Bool := some true

set_option maxHeartbeats 1000000 in
theorem c_mvcc_Store_none_nil {I D : Dm} {w : World} {rr : Bool} (hF : F_mvcc_Store_none_nil = some rr) (H : St I D w []) :
  Calls Try.prog 25 #[.pointer none] w (Ret fun vv w' => vv = .bool rr ∧ ∃ I', Hf I D w I' w' []) := by
 replace H := H.hf
 unfold F_mvcc_Store_none_nil at hF
 refine f_enter 12 Try.func25 rfl rfl (Nat.le_of_ble_eq_true rfl) fun a Z => ?_
 replace Z := Z.sub (ts := [0]) rfl
 refine wp_seq (f_region Z ?_); clear Z; intro Z
 refine s_runk tMWZero Z 1 rfl rfl ?_; clear Z a; intro a Z
 refine s_end Z [0, 2] rfl ?_; clear Z; intro Z
 refine p_then (wp_seq (f_region Z ?_)); clear Z; intro Z
 refine s_runk tMWZero Z 1 rfl rfl ?_; clear Z a; intro a Z
 refine s_ob Z (v := .bool true) rfl rfl (by decide) rfl (Ob_pnil rfl rfl rfl Try.underlying26 (.inl ⟨rfl, rfl⟩)) ?_; clear Z a; intro a Z
 refine s_runk tMWZero Z 1 rfl rfl ?_; clear Z a; intro a Z
 refine g_if Z rfl rfl rfl (p := false) rfl rfl (by decide) (fun h => by cases h) ?_; clear Z; intro _ a Z
 refine g_if Z rfl rfl rfl (p := false) rfl rfl (by decide) (fun h => by cases h) ?_; clear Z; intro _ a Z
 refine g_if Z rfl rfl rfl (p := false) rfl rfl (by decide) (fun h => by cases h) ?_; clear Z; intro _ a Z
 refine g_if Z rfl rfl rfl (p := false) rfl rfl (by decide) (fun h => by cases h) ?_; clear Z; intro _ a Z
 refine g_if Z rfl rfl rfl (p := false) rfl rfl (by decide) (fun h => by cases h) ?_; clear Z; intro _ a Z
 refine s_ob Z (v := .bool true) rfl rfl (by decide) rfl (Ob_pick rfl rfl rfl rfl rfl) ?_; clear Z a; intro a Z
 refine s_runk tMWZero Z 1 rfl rfl ?_; clear Z a; intro a Z
 refine s_end Z [2] rfl ?_; clear Z; intro Z
 refine p_then (wp_ret ?_)
 obtain rfl := some_in hF
 exact f_ret Z (run_results1 rfl Z rfl) ⟨rfl, I, (H.sub [] rfl).eq rfl⟩

def F_mvcc_Store_Get_nil (k : ByteArray) (t : Int) : Option (ByteArray × Bool) := (F_mvcc_Store_none_nil).bind fun n0 => (if (n0) = true then (some (⟨#[]⟩, false)) else (none))

set_option maxHeartbeats 1000000 in
theorem c_mvcc_Store_Get_nil {I D : Dm} {k : ByteArray} {t : Int} {w : World} {rr : ByteArray × Bool} (hF : F_mvcc_Store_Get_nil k t = some rr) (H : St I D w []) :
  Calls Try.prog 23 #[.pointer none, .string k, .int .u64 t] w (Ret fun vv w' => vv = .tuple #[.string rr.1, .bool rr.2] ∧ ∃ I', Hf I D w I' w' []) := by
 replace H := H.hf
 unfold F_mvcc_Store_Get_nil at hF
 refine f_enter 26 Try.func23 rfl rfl (Nat.le_of_ble_eq_true rfl) fun a Z => ?_
 replace Z := Z.sub (ts := [0, 1, 2]) rfl
 refine wp_seq (f_region Z ?_); clear Z; intro Z
 refine s_runk tMWZero Z 2 rfl rfl ?_; clear Z a; intro a Z
 refine s_end Z [0, 1, 2, 6, 7] rfl ?_; clear Z; intro Z
 refine p_then (wp_seq ?_)
 refine wp_seq ?_
 obtain ⟨n0, hx1, hF⟩ := bnd_in hF
 refine f_region Z ?_; clear Z; intro Z
 refine s_runk tMWZero Z 1 rfl rfl ?_; clear Z a; intro a Z
 refine h_call Z H (js := []) rfl (caps := #[]) fn_25_YMWZero rfl rfl rfl rfl rfl (by decide) rfl rfl (fun D1 hS => have hq := c_mvcc_Store_none_nil hx1 hS; hq) ?_; clear Z a; intro vv a w1 D2 hr hF2 Z
 obtain ⟨rfl, I1, K⟩ := hr
 have H : Hf I D w I1 w1 [] := hF2 K
 clear hF2 K
 refine s_end Z [0, 1, 2, 6, 7, 11] rfl ?_; clear Z; intro Z
 refine p_then ?_
 refine f_cond Z rfl (fun hc1 => ?_) (fun hc1 => ?_)
 ·replace hF := ite_t hc1 hF
  refine wp_seq (f_region Z ?_); clear Z; intro Z
  refine s_runk tMWZero Z 2 rfl rfl ?_; clear Z a; intro a Z
  refine s_end Z [0, 1, 2, 6, 7] rfl ?_; clear Z; intro Z
  refine p_then (wp_ret ?_)
  refine p_then_r ?_
  obtain rfl := some_in hF
  exact f_ret Z (run_results2 rfl Z rfl rfl) ⟨rfl, I1, (H.sub [] rfl).eq rfl⟩
 ·replace hF := ite_f hc1 hF
  refine wp_skip ?_
  refine p_then (wp_seq ?_)
  cases hF

def F_mvcc_Store_Scan_nil (from_ : ByteArray) (to_ : ByteArray) (t : Int) (most : Int) : Option ((List EPair) × Bool) := (F_mvcc_Store_none_nil).bind fun n0 => (if (n0) = true then (some (([] : List EPair), false)) else (none))

set_option maxHeartbeats 1000000 in
theorem c_mvcc_Store_Scan_nil {I D : Dm} {from_ : ByteArray} {to_ : ByteArray} {t : Int} {most : Int} {w : World} {rr : (List EPair) × Bool} (hF : F_mvcc_Store_Scan_nil from_ to_ t most = some rr) (H : St I D w []) :
  Calls Try.prog 12 #[.pointer none, .string from_, .string to_, .int .u64 t, .int .i64 most] w (Ret fun vv w' => ∃ q1 : Value, vv = .tuple #[q1, .bool rr.2] ∧ ∃ I', Hf I D w I' w' [SlC NEPair q1 rr.1]) := by
 replace H := H.hf
 unfold F_mvcc_Store_Scan_nil at hF
 refine f_enter 63 Try.func12 rfl rfl (Nat.le_of_ble_eq_true rfl) fun a Z => ?_
 replace Z := Z.sub (ts := [0, 1, 2, 3, 4]) rfl
 refine wp_seq (f_region Z ?_); clear Z; intro Z
 refine s_runk tMWZero Z 2 rfl rfl ?_; clear Z a; intro a Z
 refine s_end Z [0, 1, 2, 3, 4, 10, 11] rfl ?_; clear Z; intro Z
 refine p_then ?_
 refine wp_scope_straight ?_
 refine wp_seq ?_
 refine wp_seq ?_
 obtain ⟨n0, hx1, hF⟩ := bnd_in hF
 refine f_region Z ?_; clear Z; intro Z
 refine s_runk tMWZero Z 1 rfl rfl ?_; clear Z a; intro a Z
 refine h_call Z H (js := []) rfl (caps := #[]) fn_25_YMWZero rfl rfl rfl rfl rfl (by decide) rfl rfl (fun D1 hS => have hq := c_mvcc_Store_none_nil hx1 hS; hq) ?_; clear Z a; intro vv a w1 D2 hr hF2 Z
 obtain ⟨rfl, I1, K⟩ := hr
 have H : Hf I D w I1 w1 [] := hF2 K
 clear hF2 K
 refine s_end Z [0, 1, 2, 3, 4, 10, 11, 19] rfl ?_; clear Z; intro Z
 refine p_then ?_
 refine f_cond Z rfl (fun hc1 => ?_) (fun hc1 => ?_)
 ·replace hF := ite_t hc1 hF
  refine wp_seq (f_region Z ?_); clear Z; intro Z
  refine s_runk tMWZero Z 2 rfl rfl ?_; clear Z a; intro a Z
  refine s_end Z [0, 1, 2, 3, 4, 10, 11] rfl ?_; clear Z; intro Z
  refine p_then (wp_ret ?_)
  refine p_then_r ?_
  refine p_scp_r ?_
  replace H : Hf I D w I1 w1 [SlC NEPair (.slice none 0 0) ([] : List EPair)] := H.slNil NEPair
  obtain rfl := some_in hF
  exact f_ret Z (run_results2 rfl Z rfl rfl) ⟨.slice none 0 0, rfl, I1, (H.sub [(0, true)] rfl).eq rfl⟩
 ·replace hF := ite_f hc1 hF
  refine wp_skip ?_
  refine p_then (wp_seq (f_region Z ?_)); clear Z; intro Z
  refine s_runk tMWZero Z 1 rfl rfl ?_; clear Z a; intro a Z
  refine s_end Z [0, 1, 2, 3, 4, 10, 11, 12] rfl ?_; clear Z; intro Z
  refine p_then (wp_seq (f_region Z ?_)); clear Z; intro Z
  refine s_runk tMWZero Z 1 rfl rfl ?_; clear Z a; intro a Z
  refine s_end Z [0, 1, 2, 3, 4, 10, 11, 12, 13] rfl ?_; clear Z; intro Z
  refine p_then (wp_seq ?_)
  refine wp_label ?_
  refine p_then (wp_seq ?_)
  refine wp_seq ?_
  cases hF

def F_mvcc_Store_Put_nil (ts : Int) (l : List EOp) : Option Int := (F_mvcc_Store_none_nil).bind fun n0 => (if (n0) = true then (some 8) else (if (ts == 0) = true then (some 5) else (none)))

set_option maxHeartbeats 1000000 in
theorem c_mvcc_Store_Put_nil {I D : Dm} {ts : Int} {l : List EOp} {v1_l : Value} {w : World} {rr : Int} (hF : F_mvcc_Store_Put_nil ts l = some rr) (H : St I D w [SlC NEOp v1_l l]) :
  Calls Try.prog 11 #[.pointer none, .int .u64 ts, v1_l] w (Ret fun vv w' => vv = .int .i64 rr ∧ ∃ I', Hf I D w I' w' []) := by
 replace H := H.hf
 unfold F_mvcc_Store_Put_nil at hF
 refine f_enter 80 Try.func11 rfl rfl (Nat.le_of_ble_eq_true rfl) fun a Z => ?_
 replace Z := Z.sub (ts := [0, 1, 2]) rfl
 refine wp_seq (f_region Z ?_); clear Z; intro Z
 refine s_runk tMWZero Z 1 rfl rfl ?_; clear Z a; intro a Z
 refine s_end Z [0, 1, 2, 6] rfl ?_; clear Z; intro Z
 refine p_then (wp_seq ?_)
 refine wp_block ?_
 refine wp_seq ?_
 obtain ⟨n0, hx1, hF⟩ := bnd_in hF
 refine f_region Z ?_; clear Z; intro Z
 refine s_runk tMWZero Z 1 rfl rfl ?_; clear Z a; intro a Z
 refine h_call Z H (js := []) rfl (caps := #[]) fn_25_YMWZero rfl rfl rfl rfl rfl (by decide) rfl rfl (fun D1 hS => have hq := c_mvcc_Store_none_nil hx1 hS; hq) ?_; clear Z a; intro vv a w1 D2 hr hF2 Z
 obtain ⟨rfl, I1, K⟩ := hr
 have H : Hf I D w I1 w1 [SlC NEOp v1_l l] := hF2 K
 clear hF2 K
 refine s_runk tMWZero Z 1 rfl rfl ?_; clear Z a; intro a Z
 refine s_end Z [0, 1, 2, 6, 14] rfl ?_; clear Z; intro Z
 refine p_then ?_
 refine f_cond Z rfl (fun hc1 => ?_) (fun hc1 => ?_)
 ·replace hF := ite_t hc1 hF
  refine wp_seq (f_region Z ?_); clear Z; intro Z
  refine s_runk tMWZero Z 1 rfl rfl ?_; clear Z a; intro a Z
  refine s_end Z [0, 1, 2, 6] rfl ?_; clear Z; intro Z
  refine p_then (wp_ret ?_)
  refine p_blk_r ?_
  refine p_then_r ?_
  obtain rfl := some_in hF
  exact f_ret Z (run_results1 rfl Z rfl) ⟨rfl, I1, (H.sub [] rfl).eq rfl⟩
 ·replace hF := ite_f hc1 hF
  refine wp_seq (f_region Z ?_); clear Z; intro Z
  refine s_runk tMWZero Z 3 rfl rfl ?_; clear Z a; intro a Z
  refine s_end Z [0, 1, 2, 6, 17] rfl ?_; clear Z; intro Z
  refine p_then ?_
  refine f_cond Z rfl (fun hc2 => ?_) (fun hc2 => ?_)
  ·replace hF := ite_t hc2 hF
   refine wp_seq (f_region Z ?_); clear Z; intro Z
   refine s_runk tMWZero Z 1 rfl rfl ?_; clear Z a; intro a Z
   refine s_end Z [0, 1, 2, 6] rfl ?_; clear Z; intro Z
   refine p_then (wp_ret ?_)
   refine p_blk_r ?_
   refine p_then_r ?_
   obtain rfl := some_in hF
   exact f_ret Z (run_results1 rfl Z rfl) ⟨rfl, I1, (H.sub [] rfl).eq rfl⟩
  ·replace hF := ite_f hc2 hF
   refine wp_seq ?_
   cases hF

def F_mvcc_Store_Prune_nil (h : Int) : Option Int := (F_mvcc_Store_none_nil).bind fun n0 => (if (n0) = true then (some 0) else (none))

set_option maxHeartbeats 1000000 in
theorem c_mvcc_Store_Prune_nil {I D : Dm} {h : Int} {w : World} {rr : Int} (hF : F_mvcc_Store_Prune_nil h = some rr) (H : St I D w []) :
  Calls Try.prog 17 #[.pointer none, .int .u64 h] w (Ret fun vv w' => vv = .int .i64 rr ∧ ∃ I', Hf I D w I' w' []) := by
 replace H := H.hf
 unfold F_mvcc_Store_Prune_nil at hF
 refine f_enter 68 Try.func17 rfl rfl (Nat.le_of_ble_eq_true rfl) fun a Z => ?_
 replace Z := Z.sub (ts := [0, 1]) rfl
 refine wp_seq (f_region Z ?_); clear Z; intro Z
 refine s_runk tMWZero Z 1 rfl rfl ?_; clear Z a; intro a Z
 refine s_end Z [0, 1, 4] rfl ?_; clear Z; intro Z
 refine p_then (wp_seq ?_)
 refine wp_seq ?_
 obtain ⟨n0, hx1, hF⟩ := bnd_in hF
 refine f_region Z ?_; clear Z; intro Z
 refine s_runk tMWZero Z 1 rfl rfl ?_; clear Z a; intro a Z
 refine h_call Z H (js := []) rfl (caps := #[]) fn_25_YMWZero rfl rfl rfl rfl rfl (by decide) rfl rfl (fun D1 hS => have hq := c_mvcc_Store_none_nil hx1 hS; hq) ?_; clear Z a; intro vv a w1 D2 hr hF2 Z
 obtain ⟨rfl, I1, K⟩ := hr
 have H : Hf I D w I1 w1 [] := hF2 K
 clear hF2 K
 refine s_end Z [0, 1, 4, 12] rfl ?_; clear Z; intro Z
 refine p_then ?_
 refine f_cond Z rfl (fun hc1 => ?_) (fun hc1 => ?_)
 ·replace hF := ite_t hc1 hF
  refine wp_seq (f_region Z ?_); clear Z; intro Z
  refine s_runk tMWZero Z 1 rfl rfl ?_; clear Z a; intro a Z
  refine s_end Z [0, 1, 4] rfl ?_; clear Z; intro Z
  refine p_then (wp_ret ?_)
  refine p_then_r ?_
  obtain rfl := some_in hF
  exact f_ret Z (run_results1 rfl Z rfl) ⟨rfl, I1, (H.sub [] rfl).eq rfl⟩
 ·replace hF := ite_f hc1 hF
  refine wp_skip ?_
  refine p_then (wp_seq (f_region Z ?_)); clear Z; intro Z
  refine s_runk tMWZero Z 1 rfl rfl ?_; clear Z a; intro a Z
  refine s_end Z [0, 1, 4, 5] rfl ?_; clear Z; intro Z
  refine p_then (wp_seq ?_)
  refine wp_seq ?_
  cases hF

def F_mvcc_Store_Cells_nil : Option Int := (F_mvcc_Store_none_nil).bind fun n0 => (if (n0) = true then (some 0) else (none))

set_option maxHeartbeats 1000000 in
theorem c_mvcc_Store_Cells_nil {I D : Dm} {w : World} {rr : Int} (hF : F_mvcc_Store_Cells_nil = some rr) (H : St I D w []) :
  Calls Try.prog 21 #[.pointer none] w (Ret fun vv w' => vv = .int .i64 rr ∧ ∃ I', Hf I D w I' w' []) := by
 replace H := H.hf
 unfold F_mvcc_Store_Cells_nil at hF
 refine f_enter 9 Try.func21 rfl rfl (Nat.le_of_ble_eq_true rfl) fun a Z => ?_
 replace Z := Z.sub (ts := [0]) rfl
 refine wp_seq (f_region Z ?_); clear Z; intro Z
 refine s_runk tMWZero Z 1 rfl rfl ?_; clear Z a; intro a Z
 refine s_end Z [0, 2] rfl ?_; clear Z; intro Z
 refine p_then (wp_seq ?_)
 refine wp_seq ?_
 obtain ⟨n0, hx1, hF⟩ := bnd_in hF
 refine f_region Z ?_; clear Z; intro Z
 refine s_runk tMWZero Z 1 rfl rfl ?_; clear Z a; intro a Z
 refine h_call Z H (js := []) rfl (caps := #[]) fn_25_YMWZero rfl rfl rfl rfl rfl (by decide) rfl rfl (fun D1 hS => have hq := c_mvcc_Store_none_nil hx1 hS; hq) ?_; clear Z a; intro vv a w1 D2 hr hF2 Z
 obtain ⟨rfl, I1, K⟩ := hr
 have H : Hf I D w I1 w1 [] := hF2 K
 clear hF2 K
 refine s_end Z [0, 2, 4] rfl ?_; clear Z; intro Z
 refine p_then ?_
 refine f_cond Z rfl (fun hc1 => ?_) (fun hc1 => ?_)
 ·replace hF := ite_t hc1 hF
  refine wp_seq (f_region Z ?_); clear Z; intro Z
  refine s_runk tMWZero Z 1 rfl rfl ?_; clear Z a; intro a Z
  refine s_end Z [0, 2] rfl ?_; clear Z; intro Z
  refine p_then (wp_ret ?_)
  refine p_then_r ?_
  obtain rfl := some_in hF
  exact f_ret Z (run_results1 rfl Z rfl) ⟨rfl, I1, (H.sub [] rfl).eq rfl⟩
 ·replace hF := ite_f hc1 hF
  refine wp_skip ?_
  refine p_then (wp_seq ?_)
  cases hF

def F_mvcc_Store_Last_nil : Option Int := (F_mvcc_Store_none_nil).bind fun n0 => (if (n0) = true then (some 0) else (none))

set_option maxHeartbeats 1000000 in
theorem c_mvcc_Store_Last_nil {I D : Dm} {w : World} {rr : Int} (hF : F_mvcc_Store_Last_nil = some rr) (H : St I D w []) :
  Calls Try.prog 20 #[.pointer none] w (Ret fun vv w' => vv = .int .u64 rr ∧ ∃ I', Hf I D w I' w' []) := by
 replace H := H.hf
 unfold F_mvcc_Store_Last_nil at hF
 refine f_enter 9 Try.func20 rfl rfl (Nat.le_of_ble_eq_true rfl) fun a Z => ?_
 replace Z := Z.sub (ts := [0]) rfl
 refine wp_seq (f_region Z ?_); clear Z; intro Z
 refine s_runk tMWZero Z 1 rfl rfl ?_; clear Z a; intro a Z
 refine s_end Z [0, 2] rfl ?_; clear Z; intro Z
 refine p_then (wp_seq ?_)
 refine wp_seq ?_
 obtain ⟨n0, hx1, hF⟩ := bnd_in hF
 refine f_region Z ?_; clear Z; intro Z
 refine s_runk tMWZero Z 1 rfl rfl ?_; clear Z a; intro a Z
 refine h_call Z H (js := []) rfl (caps := #[]) fn_25_YMWZero rfl rfl rfl rfl rfl (by decide) rfl rfl (fun D1 hS => have hq := c_mvcc_Store_none_nil hx1 hS; hq) ?_; clear Z a; intro vv a w1 D2 hr hF2 Z
 obtain ⟨rfl, I1, K⟩ := hr
 have H : Hf I D w I1 w1 [] := hF2 K
 clear hF2 K
 refine s_end Z [0, 2, 4] rfl ?_; clear Z; intro Z
 refine p_then ?_
 refine f_cond Z rfl (fun hc1 => ?_) (fun hc1 => ?_)
 ·replace hF := ite_t hc1 hF
  refine wp_seq (f_region Z ?_); clear Z; intro Z
  refine s_runk tMWZero Z 1 rfl rfl ?_; clear Z a; intro a Z
  refine s_end Z [0, 2] rfl ?_; clear Z; intro Z
  refine p_then (wp_ret ?_)
  refine p_then_r ?_
  obtain rfl := some_in hF
  exact f_ret Z (run_results1 rfl Z rfl) ⟨rfl, I1, (H.sub [] rfl).eq rfl⟩
 ·replace hF := ite_f hc1 hF
  refine wp_skip ?_
  refine p_then (wp_seq ?_)
  cases hF

def F_law16_MvccZero (ts : Int) (l : List EOp) (k : ByteArray) : Option Bool := if (decide ((l.length : Int) > 20)) = true then ((F_law16_awake).bind fun a0 => (some a0)) else ((F_mvcc_Store_Get_nil k ts).bind fun n0 => ((F_mvcc_Store_Get (default : Emvcc_Store) k ts).bind fun g => ((F_mvcc_Store_Scan_nil k ⟨#[]⟩ ts 9).bind fun n0_2 => ((F_mvcc_Store_Scan g.2.2 k ⟨#[]⟩ ts 9).bind fun s0 => ((F_mvcc_Store_Put_nil ts l).bind fun n0_3 => ((gif (n0_3 == 8) (F_mvcc_Store_Put s0.2.2 ts l) default).bind fun p => (chk (((((((n0_3 == 8) && (p.1 == 8)) && (!n0.2)) && (!g.2.1)) && (!n0_2.2)) && (!s0.2.1)) = true → inI ((n0_2.1.length : Int) + (s0.1.length : Int))) ((gif ((((((n0_3 == 8) && (p.1 == 8)) && (!n0.2)) && (!g.2.1)) && (!n0_2.2)) && (!s0.2.1)) (F_mvcc_Store_Prune_nil ts) default).bind fun n0_4 => (chk (((((((n0_3 == 8) && (p.1 == 8)) && (!n0.2)) && (!g.2.1)) && (!n0_2.2)) && (!s0.2.1)) = true → inI ((n0_2.1.length : Int) + (s0.1.length : Int) + n0_4)) ((gif ((((((n0_3 == 8) && (p.1 == 8)) && (!n0.2)) && (!g.2.1)) && (!n0_2.2)) && (!s0.2.1)) (F_mvcc_Store_Prune (cond (n0_3 == 8) p.2 s0.2.2) ts) default).bind fun p_2 => (chk (((((((n0_3 == 8) && (p.1 == 8)) && (!n0.2)) && (!g.2.1)) && (!n0_2.2)) && (!s0.2.1)) = true → inI ((n0_2.1.length : Int) + (s0.1.length : Int) + n0_4 + p_2.1)) ((gif ((((((n0_3 == 8) && (p.1 == 8)) && (!n0.2)) && (!g.2.1)) && (!n0_2.2)) && (!s0.2.1)) (F_mvcc_Store_Cells_nil) default).bind fun n0_5 => (chk (((((((n0_3 == 8) && (p.1 == 8)) && (!n0.2)) && (!g.2.1)) && (!n0_2.2)) && (!s0.2.1)) = true → inI ((n0_2.1.length : Int) + (s0.1.length : Int) + n0_4 + p_2.1 + n0_5)) ((gif ((((((n0_3 == 8) && (p.1 == 8)) && (!n0.2)) && (!g.2.1)) && (!n0_2.2)) && (!s0.2.1)) (F_mvcc_Store_Cells (cond ((((((n0_3 == 8) && (p.1 == 8)) && (!n0.2)) && (!g.2.1)) && (!n0_2.2)) && (!s0.2.1)) p_2.2 (cond (n0_3 == 8) p.2 s0.2.2))) default).bind fun c => (chk (((((((n0_3 == 8) && (p.1 == 8)) && (!n0.2)) && (!g.2.1)) && (!n0_2.2)) && (!s0.2.1)) = true → inI ((n0_2.1.length : Int) + (s0.1.length : Int) + n0_4 + p_2.1 + n0_5 + c)) ((gif (((((((n0_3 == 8) && (p.1 == 8)) && (!n0.2)) && (!g.2.1)) && (!n0_2.2)) && (!s0.2.1)) && (((n0_2.1.length : Int) + (s0.1.length : Int) + n0_4 + p_2.1 + n0_5 + c) == 0)) (F_mvcc_Store_Last_nil) default).bind fun n0_6 => ((gif (((((((n0_3 == 8) && (p.1 == 8)) && (!n0.2)) && (!g.2.1)) && (!n0_2.2)) && (!s0.2.1)) && (((n0_2.1.length : Int) + (s0.1.length : Int) + n0_4 + p_2.1 + n0_5 + c) == 0)) (F_mvcc_Store_Last (cond ((((((n0_3 == 8) && (p.1 == 8)) && (!n0.2)) && (!g.2.1)) && (!n0_2.2)) && (!s0.2.1)) p_2.2 (cond (n0_3 == 8) p.2 s0.2.2))) default).bind fun l_2 => (chk ((((((((n0_3 == 8) && (p.1 == 8)) && (!n0.2)) && (!g.2.1)) && (!n0_2.2)) && (!s0.2.1)) && (((n0_2.1.length : Int) + (s0.1.length : Int) + n0_4 + p_2.1 + n0_5 + c) == 0)) = true → inU (n0_6 + l_2)) ((gif ((((((((n0_3 == 8) && (p.1 == 8)) && (!n0.2)) && (!g.2.1)) && (!n0_2.2)) && (!s0.2.1)) && (((n0_2.1.length : Int) + (s0.1.length : Int) + n0_4 + p_2.1 + n0_5 + c) == 0)) && ((n0_6 + l_2) == 0)) (F_law16_awake) default).bind fun a0_2 => (some (((((((((n0_3 == 8) && (p.1 == 8)) && (!n0.2)) && (!g.2.1)) && (!n0_2.2)) && (!s0.2.1)) && (((n0_2.1.length : Int) + (s0.1.length : Int) + n0_4 + p_2.1 + n0_5 + c) == 0)) && ((n0_6 + l_2) == 0)) && a0_2)))))))))))))))))))))

set_option maxHeartbeats 1000000 in
theorem c_law16_MvccZero {I D : Dm} {ts : Int} {l : List EOp} {v1_l : Value} {k : ByteArray} {w : World} {rr : Bool} (hF : F_law16_MvccZero ts l k = some rr) (H : St I D w [SlC NEOp v1_l l]) :
  Calls Try.prog 7 #[.int .u64 ts, v1_l, .string k] w (Ret fun vv w' => vv = .bool rr ∧ ∃ I', Hf I D w I' w' []) := by
 replace H := H.hf
 unfold F_law16_MvccZero at hF
 refine f_enter 104 Try.func7 rfl rfl (Nat.le_of_ble_eq_true rfl) fun a Z => ?_
 replace Z := Z.sub (ts := [0, 1, 2]) rfl
 refine wp_seq (f_region Z ?_); clear Z; intro Z
 refine s_runk tMWZero Z 1 rfl rfl ?_; clear Z a; intro a Z
 refine s_end Z [0, 1, 2, 6] rfl ?_; clear Z; intro Z
 refine p_then (wp_seq ?_)
 refine wp_seq (f_region Z ?_); clear Z; intro Z
 refine s_runk tMWZero Z 1 rfl rfl ?_; clear Z a; intro a Z
 refine s_ob Z (v := .int .i64 (l.length : Int)) rfl rfl (by decide) rfl (Ob_slen tMWZero rfl rfl rfl (H.slshape 0 rfl)) ?_; clear Z a; intro a Z
 refine s_runk tMWZero Z 1 rfl rfl ?_; clear Z a; intro a Z
 refine s_end Z [0, 1, 2, 6, 19] rfl ?_; clear Z; intro Z
 refine p_then ?_
 refine f_cond Z rfl (fun hc1 => ?_) (fun hc1 => ?_)
 ·replace hF := ite_t hc1 hF
  refine wp_seq ?_
  obtain ⟨a0, hx1, hF⟩ := bnd_in hF
  refine f_region Z ?_; clear Z; intro Z
  refine h_call Z H (js := []) rfl (caps := #[]) fn_9_YMWZero rfl rfl rfl rfl rfl (by decide) rfl rfl (fun D1 hS => have hq := c_law16_awake hx1 hS; hq) ?_; clear Z a; intro vv a w1 D2 hr hF2 Z
  obtain ⟨rfl, I1, K⟩ := hr
  have H : Hf I D w I1 w1 [SlC NEOp v1_l l] := hF2 K
  clear hF2 K
  refine s_runk tMWZero Z 1 rfl rfl ?_; clear Z a; intro a Z
  refine s_end Z [0, 1, 2, 6] rfl ?_; clear Z; intro Z
  refine p_then (wp_ret ?_)
  refine p_then_r ?_
  obtain rfl := some_in hF
  exact f_ret Z (run_results1 rfl Z rfl) ⟨rfl, I1, (H.sub [] rfl).eq rfl⟩
 ·replace hF := ite_f hc1 hF
  refine wp_skip ?_
  refine p_then (wp_seq (f_region Z ?_)); clear Z; intro Z
  refine s_runk tMWZero Z 1 rfl rfl ?_; clear Z a; intro a Z
  refine s_end Z [0, 1, 2, 6, 7] rfl ?_; clear Z; intro Z
  refine p_then (wp_seq (f_region Z ?_)); clear Z; intro Z
  refine h_alloc Z H (cl := [.pointer none, .int .u64 0, .int .i64 0]) (z := .agg #[.pointer none, .int .u64 0, .int .i64 0]) rfl rfl rfl (by decide) rfl (by kernel_rfl) rfl ?_; clear Z a H; intro a w2 b1 H Z
  refine s_end Z [0, 1, 2, 6, 7, 8] rfl ?_; clear Z; intro Z
  refine p_then (wp_seq ?_)
  obtain ⟨n0, hx2, hF⟩ := bnd_in hF
  refine f_region Z ?_; clear Z; intro Z
  refine s_runk tMWZero Z 3 rfl rfl ?_; clear Z a; intro a Z
  refine h_call Z H (js := []) rfl (caps := #[]) fn_23_YMWZero rfl rfl rfl rfl rfl (by decide) rfl rfl (fun D1 hS => have hq := c_mvcc_Store_Get_nil hx2 hS; hq) ?_; clear Z a; intro vv a w3 D2 hr hF2 Z
  obtain ⟨rfl, I2, K⟩ := hr
  have H : Hf I D w I2 w3 [BxC b1 57 [.pointer none, .int .u64 0, .int .i64 0], SlC NEOp v1_l l] := hF2 K
  clear hF2 K
  refine s_runk tMWZero Z 5 rfl rfl ?_; clear Z a; intro a Z
  refine s_end Z [0, 1, 2, 6, 7, 8, 10] rfl ?_; clear Z; intro Z
  refine p_then (wp_seq ?_)
  obtain ⟨g, hx3, hF⟩ := bnd_in hF
  refine f_region Z ?_; clear Z; intro Z
  refine s_runk tMWZero Z 2 rfl rfl ?_; clear Z a; intro a Z
  replace H : Hf I D w I2 w3 [PtC OEtree_Tree_api_Cell (.pointer none) none, BxC b1 57 [.pointer none, .int .u64 0, .int .i64 0], SlC NEOp v1_l l] := H.mkN OEtree_Tree_api_Cell
  replace H : Hf I D w I2 w3 [OEmvcc_Store b1 (default : Emvcc_Store), SlC NEOp v1_l l] := H.shutX (.pointer none) [(1, false), (0, false)] rfl
  refine h_call Z H (js := [(0, false)]) rfl (caps := #[]) fn_23_YMWZero rfl rfl rfl rfl rfl (by decide) rfl rfl (fun D1 hS => have hq := c_mvcc_Store_Get hx3 hS; hq) ?_; clear Z a; intro vv a w4 D2 hr hF2 Z
  obtain ⟨rfl, I3, K⟩ := hr
  have H : Hf I D w I3 w4 [OEmvcc_Store b1 g.2.2, SlC NEOp v1_l l] := hF2 K
  clear hF2 K
  refine s_runk tMWZero Z 5 rfl rfl ?_; clear Z a; intro a Z
  refine s_end Z [0, 1, 2, 6, 7, 8, 10, 12] rfl ?_; clear Z; intro Z
  refine p_then (wp_seq ?_)
  obtain ⟨n0_2, hx4, hF⟩ := bnd_in hF
  refine f_region Z ?_; clear Z; intro Z
  refine s_runk tMWZero Z 3 rfl rfl ?_; clear Z a; intro a Z
  refine h_call Z H (js := []) rfl (caps := #[]) fn_12_YMWZero rfl rfl rfl rfl rfl (by decide) rfl rfl (fun D1 hS => have hq := c_mvcc_Store_Scan_nil hx4 hS; hq) ?_; clear Z a; intro vv a w5 D2 hr hF2 Z
  obtain ⟨q1, rfl, I4, K⟩ := hr
  have H : Hf I D w I4 w5 [SlC NEPair q1 n0_2.1, OEmvcc_Store b1 g.2.2, SlC NEOp v1_l l] := hF2 K
  clear hF2 K
  refine s_runk tMWZero Z 5 rfl rfl ?_; clear Z a; intro a Z
  refine s_end Z [0, 1, 2, 6, 7, 8, 10, 12, 13, 14] rfl ?_; clear Z; intro Z
  refine p_then (wp_seq ?_)
  obtain ⟨s0, hx5, hF⟩ := bnd_in hF
  refine f_region Z ?_; clear Z; intro Z
  refine s_runk tMWZero Z 2 rfl rfl ?_; clear Z a; intro a Z
  refine h_call Z H (js := [(1, false)]) rfl (caps := #[]) fn_12_YMWZero rfl rfl rfl rfl rfl (by decide) rfl rfl (fun D1 hS => have hq := c_mvcc_Store_Scan hx5 hS; hq) ?_; clear Z a; intro vv a w6 D2 hr hF2 Z
  obtain ⟨q2, rfl, I5, K⟩ := hr
  have H : Hf I D w I5 w6 [OEmvcc_Store b1 s0.2.2, SlC NEPair q2 s0.1, SlC NEPair q1 n0_2.1, SlC NEOp v1_l l] := hF2 K
  clear hF2 K
  refine s_runk tMWZero Z 5 rfl rfl ?_; clear Z a; intro a Z
  refine s_end Z [0, 1, 6, 7, 8, 10, 12, 13, 14, 15, 16] rfl ?_; clear Z; intro Z
  refine p_then (wp_seq ?_)
  obtain ⟨n0_3, hx6, hF⟩ := bnd_in hF
  obtain ⟨p, hx7, hF⟩ := bnd_in hF
  obtain ⟨hg1, hF⟩ := chk_in hF
  obtain ⟨n0_4, hx8, hF⟩ := bnd_in hF
  obtain ⟨hg2, hF⟩ := chk_in hF
  obtain ⟨p_2, hx9, hF⟩ := bnd_in hF
  obtain ⟨hg3, hF⟩ := chk_in hF
  obtain ⟨n0_5, hx10, hF⟩ := bnd_in hF
  obtain ⟨hg4, hF⟩ := chk_in hF
  obtain ⟨c, hx11, hF⟩ := bnd_in hF
  obtain ⟨hg5, hF⟩ := chk_in hF
  obtain ⟨n0_6, hx12, hF⟩ := bnd_in hF
  obtain ⟨l_2, hx13, hF⟩ := bnd_in hF
  obtain ⟨hg6, hF⟩ := chk_in hF
  obtain ⟨a0_2, hx14, hF⟩ := bnd_in hF
  refine f_region Z ?_; clear Z; intro Z
  refine s_runk tMWZero Z 3 rfl rfl ?_; clear Z a; intro a Z
  refine h_call Z H (js := [(3, true)]) rfl (caps := #[]) fn_11_YMWZero rfl rfl rfl rfl rfl (by decide) rfl rfl (fun D1 hS => have hq := c_mvcc_Store_Put_nil hx6 hS; hq) ?_; clear Z a; intro vv a w7 D2 hr hF2 Z
  obtain ⟨rfl, I6, K⟩ := hr
  have H : Hf I D w I6 w7 [OEmvcc_Store b1 s0.2.2, SlC NEPair q2 s0.1, SlC NEPair q1 n0_2.1, SlC NEOp v1_l l] := hF2 K
  clear hF2 K
  refine s_runk tMWZero Z 2 rfl rfl ?_; clear Z a; intro a Z
  refine g_ob Z (p := (n0_3 == 8)) (v := .int .u64 ts) (S' := [(0, .int .u64 ts)]) rfl rfl rfl (wantB_t _) rfl (by decide) (fun hp hS => hS.sub (ts := [0]) rfl) (fun hp => Ob_c tMWZero rfl) ?_; clear Z a; intro a Z
  refine g_ob Z (p := (n0_3 == 8)) (v := v1_l) (S' := [(1, v1_l)]) rfl rfl rfl (wantB_t _) rfl (by decide) (fun hp hS => hS.sub (ts := [1]) rfl) (fun hp => Ob_c tMWZero rfl) ?_; clear Z a; intro a Z
  refine h_gcall Z H (js := [(0, false), (2, true)]) rfl (p := (n0_3 == 8)) (v := .int .i64 p.1) (S' := [(8, .pointer (some ⟨b1, 0, none⟩)), (53, .int .u64 ts), (54, v1_l)]) (caps := #[]) (fun qq => [OEmvcc_Store b1 (cond qq p.2 s0.2.2)]) fn_11_YMWZero rfl rfl rfl (wantB_t _) rfl (by decide) (fun hp hS => ((hS.conv (t := 53) rfl (cond_t hp)).conv (t := 54) rfl (cond_t hp)).sub (ts := [8, 53, 54]) rfl) rfl rfl rfl rfl (fun hp D1 hS => have hq := c_mvcc_Store_Put (gif_in hx7 hp) hS; hq) (fun hp => H.sub [(0, false), (0, true), (1, true), (2, true)] rfl) ?_; clear Z a H; intro a w8 I7 H Z
  replace H : Hf I D w I7 w8 [OEmvcc_Store b1 (cond (n0_3 == 8) p.2 s0.2.2), SlC NEPair q2 s0.1, SlC NEPair q1 n0_2.1, SlC NEOp v1_l l] := H
  refine g_ob Z (p := (n0_3 == 8)) (v := .bool (p.1 == 8)) (S' := [(55, .int .i64 p.1)]) rfl rfl rfl (wantB_t _) rfl (by decide) (fun hp hS => (hS.conv (t := 55) rfl (cond_t hp)).sub (ts := [55]) rfl) (fun hp => Ob_c tMWZero rfl) ?_; clear Z a; intro a Z
  refine s_ob Z (v := .bool ((n0_3 == 8) && (p.1 == 8))) rfl rfl (by decide) rfl (Ob_pick rfl rfl rfl rfl (pick_and _ _)) ?_; clear Z a; intro a Z
  refine s_runk tMWZero Z 1 rfl rfl ?_; clear Z a; intro a Z
  refine g_ob Z (p := ((n0_3 == 8) && (p.1 == 8))) (v := .bool n0.2) (S' := [(10, .bool n0.2)]) rfl rfl rfl (wantB_t _) rfl (by decide) (fun hp hS => hS.sub (ts := [10]) rfl) (fun hp => Ob_c tMWZero rfl) ?_; clear Z a; intro a Z
  refine g_ob Z (p := ((n0_3 == 8) && (p.1 == 8))) (v := .bool (!n0.2)) (S' := [(59, .bool n0.2)]) rfl rfl rfl (wantB_t _) rfl (by decide) (fun hp hS => (hS.conv (t := 59) rfl (cond_t hp)).sub (ts := [59]) rfl) (fun hp => Ob_c tMWZero rfl) ?_; clear Z a; intro a Z
  refine s_ob Z (v := .bool (((n0_3 == 8) && (p.1 == 8)) && (!n0.2))) rfl rfl (by decide) rfl (Ob_pick rfl rfl rfl rfl (pick_and _ _)) ?_; clear Z a; intro a Z
  refine s_runk tMWZero Z 1 rfl rfl ?_; clear Z a; intro a Z
  refine g_ob Z (p := (((n0_3 == 8) && (p.1 == 8)) && (!n0.2))) (v := .bool g.2.1) (S' := [(12, .bool g.2.1)]) rfl rfl rfl (wantB_t _) rfl (by decide) (fun hp hS => hS.sub (ts := [12]) rfl) (fun hp => Ob_c tMWZero rfl) ?_; clear Z a; intro a Z
  refine g_ob Z (p := (((n0_3 == 8) && (p.1 == 8)) && (!n0.2))) (v := .bool (!g.2.1)) (S' := [(63, .bool g.2.1)]) rfl rfl rfl (wantB_t _) rfl (by decide) (fun hp hS => (hS.conv (t := 63) rfl (cond_t hp)).sub (ts := [63]) rfl) (fun hp => Ob_c tMWZero rfl) ?_; clear Z a; intro a Z
  refine s_ob Z (v := .bool ((((n0_3 == 8) && (p.1 == 8)) && (!n0.2)) && (!g.2.1))) rfl rfl (by decide) rfl (Ob_pick rfl rfl rfl rfl (pick_and _ _)) ?_; clear Z a; intro a Z
  refine s_runk tMWZero Z 1 rfl rfl ?_; clear Z a; intro a Z
  refine g_ob Z (p := ((((n0_3 == 8) && (p.1 == 8)) && (!n0.2)) && (!g.2.1))) (v := .bool n0_2.2) (S' := [(14, .bool n0_2.2)]) rfl rfl rfl (wantB_t _) rfl (by decide) (fun hp hS => hS.sub (ts := [14]) rfl) (fun hp => Ob_c tMWZero rfl) ?_; clear Z a; intro a Z
  refine g_ob Z (p := ((((n0_3 == 8) && (p.1 == 8)) && (!n0.2)) && (!g.2.1))) (v := .bool (!n0_2.2)) (S' := [(67, .bool n0_2.2)]) rfl rfl rfl (wantB_t _) rfl (by decide) (fun hp hS => (hS.conv (t := 67) rfl (cond_t hp)).sub (ts := [67]) rfl) (fun hp => Ob_c tMWZero rfl) ?_; clear Z a; intro a Z
  refine s_ob Z (v := .bool (((((n0_3 == 8) && (p.1 == 8)) && (!n0.2)) && (!g.2.1)) && (!n0_2.2))) rfl rfl (by decide) rfl (Ob_pick rfl rfl rfl rfl (pick_and _ _)) ?_; clear Z a; intro a Z
  refine s_runk tMWZero Z 1 rfl rfl ?_; clear Z a; intro a Z
  refine g_ob Z (p := (((((n0_3 == 8) && (p.1 == 8)) && (!n0.2)) && (!g.2.1)) && (!n0_2.2))) (v := .bool s0.2.1) (S' := [(16, .bool s0.2.1)]) rfl rfl rfl (wantB_t _) rfl (by decide) (fun hp hS => hS.sub (ts := [16]) rfl) (fun hp => Ob_c tMWZero rfl) ?_; clear Z a; intro a Z
  refine g_ob Z (p := (((((n0_3 == 8) && (p.1 == 8)) && (!n0.2)) && (!g.2.1)) && (!n0_2.2))) (v := .bool (!s0.2.1)) (S' := [(71, .bool s0.2.1)]) rfl rfl rfl (wantB_t _) rfl (by decide) (fun hp hS => (hS.conv (t := 71) rfl (cond_t hp)).sub (ts := [71]) rfl) (fun hp => Ob_c tMWZero rfl) ?_; clear Z a; intro a Z
  refine s_ob Z (v := .bool ((((((n0_3 == 8) && (p.1 == 8)) && (!n0.2)) && (!g.2.1)) && (!n0_2.2)) && (!s0.2.1))) rfl rfl (by decide) rfl (Ob_pick rfl rfl rfl rfl (pick_and _ _)) ?_; clear Z a; intro a Z
  refine s_runk tMWZero Z 1 rfl rfl ?_; clear Z a; intro a Z
  refine g_ob Z (p := ((((((n0_3 == 8) && (p.1 == 8)) && (!n0.2)) && (!g.2.1)) && (!n0_2.2)) && (!s0.2.1))) (v := q1) (S' := [(13, q1)]) rfl rfl rfl (wantB_t _) rfl (by decide) (fun hp hS => hS.sub (ts := [13]) rfl) (fun hp => Ob_c tMWZero rfl) ?_; clear Z a; intro a Z
  refine g_ob Z (p := ((((((n0_3 == 8) && (p.1 == 8)) && (!n0.2)) && (!g.2.1)) && (!n0_2.2)) && (!s0.2.1))) (v := .int .i64 (n0_2.1.length : Int)) (S' := [(75, q1)]) rfl rfl rfl (wantB_t _) rfl (by decide) (fun hp hS => (hS.conv (t := 75) rfl (cond_t hp)).sub (ts := [75]) rfl) (fun hp => Ob_slen tMWZero rfl rfl rfl (H.slshape 2 rfl)) ?_; clear Z a; intro a Z
  refine g_ob Z (p := ((((((n0_3 == 8) && (p.1 == 8)) && (!n0.2)) && (!g.2.1)) && (!n0_2.2)) && (!s0.2.1))) (v := q2) (S' := [(15, q2)]) rfl rfl rfl (wantB_t _) rfl (by decide) (fun hp hS => hS.sub (ts := [15]) rfl) (fun hp => Ob_c tMWZero rfl) ?_; clear Z a; intro a Z
  refine g_ob Z (p := ((((((n0_3 == 8) && (p.1 == 8)) && (!n0.2)) && (!g.2.1)) && (!n0_2.2)) && (!s0.2.1))) (v := .int .i64 (s0.1.length : Int)) (S' := [(77, q2)]) rfl rfl rfl (wantB_t _) rfl (by decide) (fun hp hS => (hS.conv (t := 77) rfl (cond_t hp)).sub (ts := [77]) rfl) (fun hp => Ob_slen tMWZero rfl rfl rfl (H.slshape 1 rfl)) ?_; clear Z a; intro a Z
  refine g_ob Z (p := ((((((n0_3 == 8) && (p.1 == 8)) && (!n0.2)) && (!g.2.1)) && (!n0_2.2)) && (!s0.2.1))) (v := .int .i64 ((n0_2.1.length : Int) + (s0.1.length : Int))) (S' := [(76, .int .i64 (n0_2.1.length : Int)), (78, .int .i64 (s0.1.length : Int))]) rfl rfl rfl (wantB_t _) rfl (by decide) (fun hp hS => ((hS.conv (t := 76) rfl (cond_t hp)).conv (t := 78) rfl (cond_t hp)).sub (ts := [76, 78]) rfl) (fun hp => Ob_add rfl rfl rfl (wrI (hg1 hp))) ?_; clear Z a; intro a Z
  refine g_ob Z (p := ((((((n0_3 == 8) && (p.1 == 8)) && (!n0.2)) && (!g.2.1)) && (!n0_2.2)) && (!s0.2.1))) (v := .pointer none) (S' := [(7, .pointer none)]) rfl rfl rfl (wantB_t _) rfl (by decide) (fun hp hS => hS.sub (ts := [7]) rfl) (fun hp => Ob_c tMWZero rfl) ?_; clear Z a; intro a Z
  refine g_ob Z (p := ((((((n0_3 == 8) && (p.1 == 8)) && (!n0.2)) && (!g.2.1)) && (!n0_2.2)) && (!s0.2.1))) (v := .int .u64 ts) (S' := [(0, .int .u64 ts)]) rfl rfl rfl (wantB_t _) rfl (by decide) (fun hp hS => hS.sub (ts := [0]) rfl) (fun hp => Ob_c tMWZero rfl) ?_; clear Z a; intro a Z
  refine g_call Z (p := ((((((n0_3 == 8) && (p.1 == 8)) && (!n0.2)) && (!g.2.1)) && (!n0_2.2)) && (!s0.2.1))) (v := .int .i64 n0_4) (S' := [(80, .pointer none), (81, .int .u64 ts)]) (caps := #[]) fn_17_YMWZero rfl rfl rfl (wantB_t _) rfl (by decide) (fun hp hS => ((hS.conv (t := 80) rfl (cond_t hp)).conv (t := 81) rfl (cond_t hp)).sub (ts := [80, 81]) rfl) rfl rfl rfl rfl (fun hp => have hq := c_mvcc_Store_Prune_nil (gif_in hx8 hp) (H.pick0 (js := []) rfl rfl); plainC hq) ?_; clear Z a; intro a w9 hb Z
  replace H : Hf I D w I7 w9 [OEmvcc_Store b1 (cond (n0_3 == 8) p.2 s0.2.2), SlC NEPair q2 s0.1, SlC NEPair q1 n0_2.1, SlC NEOp v1_l l] := H.blw hb
  clear hb
  refine g_ob Z (p := ((((((n0_3 == 8) && (p.1 == 8)) && (!n0.2)) && (!g.2.1)) && (!n0_2.2)) && (!s0.2.1))) (v := .int .i64 ((n0_2.1.length : Int) + (s0.1.length : Int) + n0_4)) (S' := [(79, .int .i64 ((n0_2.1.length : Int) + (s0.1.length : Int))), (82, .int .i64 n0_4)]) rfl rfl rfl (wantB_t _) rfl (by decide) (fun hp hS => ((hS.conv (t := 79) rfl (cond_t hp)).conv (t := 82) rfl (cond_t hp)).sub (ts := [79, 82]) rfl) (fun hp => Ob_add rfl rfl rfl (wrI (hg2 hp))) ?_; clear Z a; intro a Z
  refine g_ob Z (p := ((((((n0_3 == 8) && (p.1 == 8)) && (!n0.2)) && (!g.2.1)) && (!n0_2.2)) && (!s0.2.1))) (v := .int .u64 ts) (S' := [(0, .int .u64 ts)]) rfl rfl rfl (wantB_t _) rfl (by decide) (fun hp hS => hS.sub (ts := [0]) rfl) (fun hp => Ob_c tMWZero rfl) ?_; clear Z a; intro a Z
  refine h_gcall Z H (js := [(0, false)]) rfl (p := ((((((n0_3 == 8) && (p.1 == 8)) && (!n0.2)) && (!g.2.1)) && (!n0_2.2)) && (!s0.2.1))) (v := .int .i64 p_2.1) (S' := [(8, .pointer (some ⟨b1, 0, none⟩)), (84, .int .u64 ts)]) (caps := #[]) (fun qq => [OEmvcc_Store b1 (cond qq p_2.2 (cond (n0_3 == 8) p.2 s0.2.2))]) fn_17_YMWZero rfl rfl rfl (wantB_t _) rfl (by decide) (fun hp hS => (hS.conv (t := 84) rfl (cond_t hp)).sub (ts := [8, 84]) rfl) rfl rfl rfl rfl (fun hp D1 hS => have hq := c_mvcc_Store_Prune (gif_in hx9 hp) hS; hq) (fun hp => H.sub [(0, false), (0, true), (1, true), (2, true)] rfl) ?_; clear Z a H; intro a w10 I8 H Z
  replace H : Hf I D w I8 w10 [OEmvcc_Store b1 (cond ((((((n0_3 == 8) && (p.1 == 8)) && (!n0.2)) && (!g.2.1)) && (!n0_2.2)) && (!s0.2.1)) p_2.2 (cond (n0_3 == 8) p.2 s0.2.2)), SlC NEPair q2 s0.1, SlC NEPair q1 n0_2.1, SlC NEOp v1_l l] := H
  refine g_ob Z (p := ((((((n0_3 == 8) && (p.1 == 8)) && (!n0.2)) && (!g.2.1)) && (!n0_2.2)) && (!s0.2.1))) (v := .int .i64 ((n0_2.1.length : Int) + (s0.1.length : Int) + n0_4 + p_2.1)) (S' := [(83, .int .i64 ((n0_2.1.length : Int) + (s0.1.length : Int) + n0_4)), (85, .int .i64 p_2.1)]) rfl rfl rfl (wantB_t _) rfl (by decide) (fun hp hS => ((hS.conv (t := 83) rfl (cond_t hp)).conv (t := 85) rfl (cond_t hp)).sub (ts := [83, 85]) rfl) (fun hp => Ob_add rfl rfl rfl (wrI (hg3 hp))) ?_; clear Z a; intro a Z
  refine g_ob Z (p := ((((((n0_3 == 8) && (p.1 == 8)) && (!n0.2)) && (!g.2.1)) && (!n0_2.2)) && (!s0.2.1))) (v := .pointer none) (S' := [(7, .pointer none)]) rfl rfl rfl (wantB_t _) rfl (by decide) (fun hp hS => hS.sub (ts := [7]) rfl) (fun hp => Ob_c tMWZero rfl) ?_; clear Z a; intro a Z
  refine g_call Z (p := ((((((n0_3 == 8) && (p.1 == 8)) && (!n0.2)) && (!g.2.1)) && (!n0_2.2)) && (!s0.2.1))) (v := .int .i64 n0_5) (S' := [(87, .pointer none)]) (caps := #[]) fn_21_YMWZero rfl rfl rfl (wantB_t _) rfl (by decide) (fun hp hS => (hS.conv (t := 87) rfl (cond_t hp)).sub (ts := [87]) rfl) rfl rfl rfl rfl (fun hp => have hq := c_mvcc_Store_Cells_nil (gif_in hx10 hp) (H.pick0 (js := []) rfl rfl); plainC hq) ?_; clear Z a; intro a w11 hb Z
  replace H : Hf I D w I8 w11 [OEmvcc_Store b1 (cond ((((((n0_3 == 8) && (p.1 == 8)) && (!n0.2)) && (!g.2.1)) && (!n0_2.2)) && (!s0.2.1)) p_2.2 (cond (n0_3 == 8) p.2 s0.2.2)), SlC NEPair q2 s0.1, SlC NEPair q1 n0_2.1, SlC NEOp v1_l l] := H.blw hb
  clear hb
  refine g_ob Z (p := ((((((n0_3 == 8) && (p.1 == 8)) && (!n0.2)) && (!g.2.1)) && (!n0_2.2)) && (!s0.2.1))) (v := .int .i64 ((n0_2.1.length : Int) + (s0.1.length : Int) + n0_4 + p_2.1 + n0_5)) (S' := [(86, .int .i64 ((n0_2.1.length : Int) + (s0.1.length : Int) + n0_4 + p_2.1)), (88, .int .i64 n0_5)]) rfl rfl rfl (wantB_t _) rfl (by decide) (fun hp hS => ((hS.conv (t := 86) rfl (cond_t hp)).conv (t := 88) rfl (cond_t hp)).sub (ts := [86, 88]) rfl) (fun hp => Ob_add rfl rfl rfl (wrI (hg4 hp))) ?_; clear Z a; intro a Z
  refine h_gcall Z H (js := [(0, false)]) rfl (p := ((((((n0_3 == 8) && (p.1 == 8)) && (!n0.2)) && (!g.2.1)) && (!n0_2.2)) && (!s0.2.1))) (v := .int .i64 c) (S' := [(8, .pointer (some ⟨b1, 0, none⟩))]) (caps := #[]) (fun _ => [OEmvcc_Store b1 (cond ((((((n0_3 == 8) && (p.1 == 8)) && (!n0.2)) && (!g.2.1)) && (!n0_2.2)) && (!s0.2.1)) p_2.2 (cond (n0_3 == 8) p.2 s0.2.2))]) fn_21_YMWZero rfl rfl rfl (wantB_t _) rfl (by decide) (fun hp hS => hS.sub (ts := [8]) rfl) rfl rfl rfl rfl (fun hp D1 hS => have hq := c_mvcc_Store_Cells (gif_in hx11 hp) hS; hq) (fun hp => H.sub [(0, false), (0, true), (1, true), (2, true)] rfl) ?_; clear Z a H; intro a w12 I9 H Z
  replace H : Hf I D w I9 w12 [OEmvcc_Store b1 (cond ((((((n0_3 == 8) && (p.1 == 8)) && (!n0.2)) && (!g.2.1)) && (!n0_2.2)) && (!s0.2.1)) p_2.2 (cond (n0_3 == 8) p.2 s0.2.2)), SlC NEPair q2 s0.1, SlC NEPair q1 n0_2.1, SlC NEOp v1_l l] := H
  refine g_ob Z (p := ((((((n0_3 == 8) && (p.1 == 8)) && (!n0.2)) && (!g.2.1)) && (!n0_2.2)) && (!s0.2.1))) (v := .int .i64 ((n0_2.1.length : Int) + (s0.1.length : Int) + n0_4 + p_2.1 + n0_5 + c)) (S' := [(89, .int .i64 ((n0_2.1.length : Int) + (s0.1.length : Int) + n0_4 + p_2.1 + n0_5)), (90, .int .i64 c)]) rfl rfl rfl (wantB_t _) rfl (by decide) (fun hp hS => ((hS.conv (t := 89) rfl (cond_t hp)).conv (t := 90) rfl (cond_t hp)).sub (ts := [89, 90]) rfl) (fun hp => Ob_add rfl rfl rfl (wrI (hg5 hp))) ?_; clear Z a; intro a Z
  refine g_ob Z (p := ((((((n0_3 == 8) && (p.1 == 8)) && (!n0.2)) && (!g.2.1)) && (!n0_2.2)) && (!s0.2.1))) (v := .bool (((n0_2.1.length : Int) + (s0.1.length : Int) + n0_4 + p_2.1 + n0_5 + c) == 0)) (S' := [(91, .int .i64 ((n0_2.1.length : Int) + (s0.1.length : Int) + n0_4 + p_2.1 + n0_5 + c))]) rfl rfl rfl (wantB_t _) rfl (by decide) (fun hp hS => (hS.conv (t := 91) rfl (cond_t hp)).sub (ts := [91]) rfl) (fun hp => Ob_c tMWZero rfl) ?_; clear Z a; intro a Z
  refine s_ob Z (v := .bool (((((((n0_3 == 8) && (p.1 == 8)) && (!n0.2)) && (!g.2.1)) && (!n0_2.2)) && (!s0.2.1)) && (((n0_2.1.length : Int) + (s0.1.length : Int) + n0_4 + p_2.1 + n0_5 + c) == 0))) rfl rfl (by decide) rfl (Ob_pick rfl rfl rfl rfl (pick_and _ _)) ?_; clear Z a; intro a Z
  refine s_runk tMWZero Z 1 rfl rfl ?_; clear Z a; intro a Z
  refine g_ob Z (p := (((((((n0_3 == 8) && (p.1 == 8)) && (!n0.2)) && (!g.2.1)) && (!n0_2.2)) && (!s0.2.1)) && (((n0_2.1.length : Int) + (s0.1.length : Int) + n0_4 + p_2.1 + n0_5 + c) == 0))) (v := .pointer none) (S' := [(7, .pointer none)]) rfl rfl rfl (wantB_t _) rfl (by decide) (fun hp hS => hS.sub (ts := [7]) rfl) (fun hp => Ob_c tMWZero rfl) ?_; clear Z a; intro a Z
  refine g_call Z (p := (((((((n0_3 == 8) && (p.1 == 8)) && (!n0.2)) && (!g.2.1)) && (!n0_2.2)) && (!s0.2.1)) && (((n0_2.1.length : Int) + (s0.1.length : Int) + n0_4 + p_2.1 + n0_5 + c) == 0))) (v := .int .u64 n0_6) (S' := [(95, .pointer none)]) (caps := #[]) fn_20_YMWZero rfl rfl rfl (wantB_t _) rfl (by decide) (fun hp hS => (hS.conv (t := 95) rfl (cond_t hp)).sub (ts := [95]) rfl) rfl rfl rfl rfl (fun hp => have hq := c_mvcc_Store_Last_nil (gif_in hx12 hp) (H.pick0 (js := []) rfl rfl); plainC hq) ?_; clear Z a; intro a w13 hb Z
  replace H : Hf I D w I9 w13 [OEmvcc_Store b1 (cond ((((((n0_3 == 8) && (p.1 == 8)) && (!n0.2)) && (!g.2.1)) && (!n0_2.2)) && (!s0.2.1)) p_2.2 (cond (n0_3 == 8) p.2 s0.2.2)), SlC NEPair q2 s0.1, SlC NEPair q1 n0_2.1, SlC NEOp v1_l l] := H.blw hb
  clear hb
  refine h_gcall Z H (js := [(0, false)]) rfl (p := (((((((n0_3 == 8) && (p.1 == 8)) && (!n0.2)) && (!g.2.1)) && (!n0_2.2)) && (!s0.2.1)) && (((n0_2.1.length : Int) + (s0.1.length : Int) + n0_4 + p_2.1 + n0_5 + c) == 0))) (v := .int .u64 l_2) (S' := [(8, .pointer (some ⟨b1, 0, none⟩))]) (caps := #[]) (fun _ => [OEmvcc_Store b1 (cond ((((((n0_3 == 8) && (p.1 == 8)) && (!n0.2)) && (!g.2.1)) && (!n0_2.2)) && (!s0.2.1)) p_2.2 (cond (n0_3 == 8) p.2 s0.2.2))]) fn_20_YMWZero rfl rfl rfl (wantB_t _) rfl (by decide) (fun hp hS => hS.sub (ts := [8]) rfl) rfl rfl rfl rfl (fun hp D1 hS => have hq := c_mvcc_Store_Last (gif_in hx13 hp) hS; hq) (fun hp => H.sub [(0, false), (0, true), (1, true), (2, true)] rfl) ?_; clear Z a H; intro a w14 I10 H Z
  replace H : Hf I D w I10 w14 [OEmvcc_Store b1 (cond ((((((n0_3 == 8) && (p.1 == 8)) && (!n0.2)) && (!g.2.1)) && (!n0_2.2)) && (!s0.2.1)) p_2.2 (cond (n0_3 == 8) p.2 s0.2.2)), SlC NEPair q2 s0.1, SlC NEPair q1 n0_2.1, SlC NEOp v1_l l] := H
  refine g_ob Z (p := (((((((n0_3 == 8) && (p.1 == 8)) && (!n0.2)) && (!g.2.1)) && (!n0_2.2)) && (!s0.2.1)) && (((n0_2.1.length : Int) + (s0.1.length : Int) + n0_4 + p_2.1 + n0_5 + c) == 0))) (v := .int .u64 (n0_6 + l_2)) (S' := [(96, .int .u64 n0_6), (97, .int .u64 l_2)]) rfl rfl rfl (wantB_t _) rfl (by decide) (fun hp hS => ((hS.conv (t := 96) rfl (cond_t hp)).conv (t := 97) rfl (cond_t hp)).sub (ts := [96, 97]) rfl) (fun hp => Ob_add rfl rfl rfl (wrU (hg6 hp))) ?_; clear Z a; intro a Z
  refine g_ob Z (p := (((((((n0_3 == 8) && (p.1 == 8)) && (!n0.2)) && (!g.2.1)) && (!n0_2.2)) && (!s0.2.1)) && (((n0_2.1.length : Int) + (s0.1.length : Int) + n0_4 + p_2.1 + n0_5 + c) == 0))) (v := .bool ((n0_6 + l_2) == 0)) (S' := [(98, .int .u64 (n0_6 + l_2))]) rfl rfl rfl (wantB_t _) rfl (by decide) (fun hp hS => (hS.conv (t := 98) rfl (cond_t hp)).sub (ts := [98]) rfl) (fun hp => Ob_c tMWZero rfl) ?_; clear Z a; intro a Z
  refine s_ob Z (v := .bool ((((((((n0_3 == 8) && (p.1 == 8)) && (!n0.2)) && (!g.2.1)) && (!n0_2.2)) && (!s0.2.1)) && (((n0_2.1.length : Int) + (s0.1.length : Int) + n0_4 + p_2.1 + n0_5 + c) == 0)) && ((n0_6 + l_2) == 0))) rfl rfl (by decide) rfl (Ob_pick rfl rfl rfl rfl (pick_and _ _)) ?_; clear Z a; intro a Z
  refine s_runk tMWZero Z 1 rfl rfl ?_; clear Z a; intro a Z
  refine g_call Z (p := ((((((((n0_3 == 8) && (p.1 == 8)) && (!n0.2)) && (!g.2.1)) && (!n0_2.2)) && (!s0.2.1)) && (((n0_2.1.length : Int) + (s0.1.length : Int) + n0_4 + p_2.1 + n0_5 + c) == 0)) && ((n0_6 + l_2) == 0))) (v := .bool a0_2) (S' := []) (caps := #[]) fn_9_YMWZero rfl rfl rfl (wantB_t _) rfl (by decide) (fun hp hS => hS.sub (ts := []) rfl) rfl rfl rfl rfl (fun hp => have hq := c_law16_awake (gif_in hx14 hp) (H.pick0 (js := []) rfl rfl); plainC hq) ?_; clear Z a; intro a w15 hb Z
  replace H : Hf I D w I10 w15 [OEmvcc_Store b1 (cond ((((((n0_3 == 8) && (p.1 == 8)) && (!n0.2)) && (!g.2.1)) && (!n0_2.2)) && (!s0.2.1)) p_2.2 (cond (n0_3 == 8) p.2 s0.2.2)), SlC NEPair q2 s0.1, SlC NEPair q1 n0_2.1, SlC NEOp v1_l l] := H.blw hb
  clear hb
  refine s_ob Z (v := .bool (((((((((n0_3 == 8) && (p.1 == 8)) && (!n0.2)) && (!g.2.1)) && (!n0_2.2)) && (!s0.2.1)) && (((n0_2.1.length : Int) + (s0.1.length : Int) + n0_4 + p_2.1 + n0_5 + c) == 0)) && ((n0_6 + l_2) == 0)) && a0_2)) rfl rfl (by decide) rfl (Ob_pick rfl rfl rfl rfl (pick_and _ _)) ?_; clear Z a; intro a Z
  refine s_runk tMWZero Z 1 rfl rfl ?_; clear Z a; intro a Z
  refine s_end Z [6] rfl ?_; clear Z; intro Z
  refine p_then (wp_ret ?_)
  obtain rfl := some_in hF
  exact f_ret Z (run_results1 rfl Z rfl) ⟨rfl, I10, (H.sub [] rfl).eq rfl⟩

end Go.Proofs.Ytfefmdllnjpmgaa
