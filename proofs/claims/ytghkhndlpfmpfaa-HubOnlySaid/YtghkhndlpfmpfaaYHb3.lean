/- A hub: the law's parts. -/
import Derived.Test.YtghkhndlpfmpfaaYHb2
namespace Go.Proofs.Ytghkhndlpfmpfaa
open Go.RowKit
def tHb3L : TabL := ⟨[(38912, 0)], [], [], [(34, (38, 2))], [(3, (1, false)), (9, (1, false)), (25, (1, false))]⟩

def tHb3 : Tab Try.prog := ⟨tHb3L, by kernel_rfl⟩

theorem fn_4_YHb3 : IsFn Try.prog 4 := ⟨_, Try.func4, by kernel_rfl, by kernel_rfl⟩

theorem fn_5_YHb3 : IsFn Try.prog 5 := ⟨_, Try.func5, by kernel_rfl, by kernel_rfl⟩

theorem fn_6_YHb3 : IsFn Try.prog 6 := ⟨_, Try.func6, by kernel_rfl, by kernel_rfl⟩

theorem fn_9_YHb3 : IsFn Try.prog 9 := ⟨_, Try.func9, by kernel_rfl, by kernel_rfl⟩

theorem fn_12_YHb3 : IsFn Try.prog 12 := ⟨_, Try.func12, by kernel_rfl, by kernel_rfl⟩

theorem fn_15_YHb3 : IsFn Try.prog 15 := ⟨_, Try.func15, by kernel_rfl, by kernel_rfl⟩

theorem fn_16_YHb3 : IsFn Try.prog 16 := ⟨_, Try.func16, by kernel_rfl, by kernel_rfl⟩

def F_hub_Hub_none_nil : Option Bool := some true

set_option maxHeartbeats 1000000 in
theorem c_hub_Hub_none_nil {I D : Dm} {w : World} {rr : Bool} (hF : F_hub_Hub_none_nil = some rr) (H : St I D w []) :
  Calls Try.prog 16 #[.pointer none] w (Ret fun vv w' => vv = .bool rr ∧ ∃ I', Hf I D w I' w' []) := by
 replace H := H.hf
 unfold F_hub_Hub_none_nil at hF
 refine f_enter 12 Try.func16 rfl rfl (Nat.le_of_ble_eq_true rfl) fun a Z => ?_
 replace Z := Z.sub (ts := [0]) rfl
 refine wp_seq (f_region Z ?_); clear Z; intro Z
 refine s_runk tHb3 Z 1 rfl rfl ?_; clear Z a; intro a Z
 refine s_end Z [0] rfl ?_; clear Z; intro Z
 refine p_then (wp_seq (f_region Z ?_)); clear Z; intro Z
 refine s_runk tHb3 Z 1 rfl rfl ?_; clear Z a; intro a Z
 refine s_ob Z (v := .bool true) rfl rfl (by decide) rfl (Ob_pnil rfl rfl rfl Try.underlying23 (.inl ⟨rfl, rfl⟩)) ?_; clear Z a; intro a Z
 refine s_runk tHb3 Z 1 rfl rfl ?_; clear Z a; intro a Z
 refine g_if Z rfl rfl rfl (p := false) rfl rfl (by decide) (fun h => by cases h) ?_; clear Z; intro _ a Z
 refine g_if Z rfl rfl rfl (p := false) rfl rfl (by decide) (fun h => by cases h) ?_; clear Z; intro _ a Z
 refine g_if Z rfl rfl rfl (p := false) rfl rfl (by decide) (fun h => by cases h) ?_; clear Z; intro _ a Z
 refine g_if Z rfl rfl rfl (p := false) rfl rfl (by decide) (fun h => by cases h) ?_; clear Z; intro _ a Z
 refine g_if Z rfl rfl rfl (p := false) rfl rfl (by decide) (fun h => by cases h) ?_; clear Z; intro _ a Z
 refine s_ob Z (v := .bool true) rfl rfl (by decide) rfl (Ob_pick rfl rfl rfl rfl rfl) ?_; clear Z a; intro a Z
 refine s_runk tHb3 Z 1 rfl rfl ?_; clear Z a; intro a Z
 refine s_end Z [2] rfl ?_; clear Z; intro Z
 refine p_then (wp_ret ?_)
 obtain rfl := some_in hF
 exact f_ret Z (run_results1 rfl Z rfl) ⟨rfl, I, (H.sub [] rfl).eq rfl⟩

def F_hub_Hub_with_nil__hub_Hub_Send_1 (id : Int) (p1 : ByteArray) (p2 : Int) : Option Bool := none

set_option maxHeartbeats 1000000 in
theorem c_hub_Hub_with_nil__hub_Hub_Send_1 {I D : Dm} {id : Int} {b_p1 : Nat} {p1 : ByteArray} {b_p2 : Nat} {p2 : Int} {w : World} {rr : Bool} (hF : F_hub_Hub_with_nil__hub_Hub_Send_1 id p1 p2 = some rr) (H : St I D w [BxC b_p1 9 [.string p1], BxC b_p2 25 [.int .i64 p2]]) :
  Calls Try.prog 12 #[.pointer none, .int .i64 id, .func (.func 13) #[] #[.pointer (some ⟨b_p1, 0, none⟩), .pointer (some ⟨b_p2, 0, none⟩)]] w (Ret fun vv w' => vv = .bool rr ∧ ∃ I', Hf I D w I' w' [BxC b_p1 9 [.string p1], BxC b_p2 25 [.int .i64 p2]]) := by
 replace H := H.hf
 unfold F_hub_Hub_with_nil__hub_Hub_Send_1 at hF
 refine f_enter 34 Try.func12 rfl rfl (Nat.le_of_ble_eq_true rfl) fun a Z => ?_
 replace Z := Z.sub (ts := [0, 1, 2]) rfl
 refine wp_seq (f_region Z ?_); clear Z; intro Z
 refine s_runk tHb3 Z 1 rfl rfl ?_; clear Z a; intro a Z
 refine s_end Z [0, 1, 2] rfl ?_; clear Z; intro Z
 refine p_then (wp_seq ?_)
 refine wp_seq ?_
 cases hF

def F_hub_Hub_nobody_nil : Option Int := (F_hub_Hub_none_nil).bind fun n0 => (if (n0) = true then (some 8) else (some 1))

set_option maxHeartbeats 1000000 in
theorem c_hub_Hub_nobody_nil {I D : Dm} {w : World} {rr : Int} (hF : F_hub_Hub_nobody_nil = some rr) (H : St I D w []) :
  Calls Try.prog 15 #[.pointer none] w (Ret fun vv w' => vv = .int .i64 rr ∧ ∃ I', Hf I D w I' w' []) := by
 replace H := H.hf
 unfold F_hub_Hub_nobody_nil at hF
 refine f_enter 5 Try.func15 rfl rfl (Nat.le_of_ble_eq_true rfl) fun a Z => ?_
 replace Z := Z.sub (ts := [0]) rfl
 refine wp_seq (f_region Z ?_); clear Z; intro Z
 refine s_runk tHb3 Z 1 rfl rfl ?_; clear Z a; intro a Z
 refine s_end Z [0] rfl ?_; clear Z; intro Z
 refine p_then (wp_seq ?_)
 refine wp_seq ?_
 obtain ⟨n0, hx1, hF⟩ := bnd_in hF
 refine f_region Z ?_; clear Z; intro Z
 refine s_runk tHb3 Z 1 rfl rfl ?_; clear Z a; intro a Z
 refine h_call Z H (js := []) rfl (caps := #[]) fn_16_YHb3 rfl rfl rfl rfl rfl (by decide) rfl rfl (fun D1 hS => have hq := c_hub_Hub_none_nil hx1 hS; hq) ?_; clear Z a; intro vv a w1 D2 hr hF2 Z
 obtain ⟨rfl, I1, K⟩ := hr
 have H : Hf I D w I1 w1 [] := hF2 K
 clear hF2 K
 refine s_end Z [4] rfl ?_; clear Z; intro Z
 refine p_then ?_
 refine f_cond Z rfl (fun hc1 => ?_) (fun hc1 => ?_)
 ·replace hF := ite_t hc1 hF
  refine wp_seq (f_region Z ?_); clear Z; intro Z
  refine s_runk tHb3 Z 1 rfl rfl ?_; clear Z a; intro a Z
  refine s_end Z [2] rfl ?_; clear Z; intro Z
  refine p_then (wp_ret ?_)
  refine p_then_r ?_
  obtain rfl := some_in hF
  exact f_ret Z (run_results1 rfl Z rfl) ⟨rfl, I1, (H.sub [] rfl).eq rfl⟩
 ·replace hF := ite_f hc1 hF
  refine wp_skip ?_
  refine p_then (wp_seq (f_region Z ?_)); clear Z; intro Z
  refine s_runk tHb3 Z 1 rfl rfl ?_; clear Z a; intro a Z
  refine s_end Z [2] rfl ?_; clear Z; intro Z
  refine p_then (wp_ret ?_)
  obtain rfl := some_in hF
  exact f_ret Z (run_results1 rfl Z rfl) ⟨rfl, I1, (H.sub [] rfl).eq rfl⟩

def F_hub_Hub_Send_nil (to_ : Int) (s0 : ByteArray) : Option Int := (F_hub_Hub_with_nil__hub_Hub_Send_1 to_ s0 0).bind fun x0 => (if (!x0) = true then ((F_hub_Hub_nobody_nil).bind fun n0 => (some n0)) else (some 0))

set_option maxHeartbeats 1000000 in
theorem c_hub_Hub_Send_nil {I D : Dm} {to_ : Int} {s0 : ByteArray} {w : World} {rr : Int} (hF : F_hub_Hub_Send_nil to_ s0 = some rr) (H : St I D w []) :
  Calls Try.prog 5 #[.pointer none, .int .i64 to_, .string s0] w (Ret fun vv w' => vv = .int .i64 rr ∧ ∃ I', Hf I D w I' w' []) := by
 replace H := H.hf
 unfold F_hub_Hub_Send_nil at hF
 refine f_enter 15 Try.func5 rfl rfl (Nat.le_of_ble_eq_true rfl) fun a Z => ?_
 replace Z := Z.sub (ts := [0, 1, 2]) rfl
 refine wp_seq (f_region Z ?_); clear Z; intro Z
 refine h_boxv Z H (cl := [.string s0]) rfl rfl rfl (by decide) rfl rfl rfl ?_; clear Z a H; intro a w1 b1 H Z
 refine h_alloc Z H (cl := [.int .i64 0]) (z := .int .i64 0) rfl rfl rfl (by decide) rfl (by kernel_rfl) rfl ?_; clear Z a H; intro a w2 b2 H Z
 refine s_end Z [0, 1, 5, 6] rfl ?_; clear Z; intro Z
 refine p_then (wp_seq ?_)
 refine wp_seq ?_
 obtain ⟨x0, hx1, hF⟩ := bnd_in hF
 refine f_region Z ?_; clear Z; intro Z
 refine s_runk tHb3 Z 3 rfl rfl ?_; clear Z a; intro a Z
 refine h_call Z H (js := [(1, false), (0, false)]) rfl (caps := #[]) fn_12_YHb3 rfl rfl rfl rfl rfl (by decide) rfl rfl (fun D1 hS => have hq := c_hub_Hub_with_nil__hub_Hub_Send_1 hx1 hS; hq) ?_; clear Z a; intro vv a w3 D2 hr hF2 Z
 obtain ⟨rfl, I1, K⟩ := hr
 have H : Hf I D w I1 w3 [BxC b1 9 [.string s0], BxC b2 25 [.int .i64 0]] := hF2 K
 clear hF2 K
 refine s_runk tHb3 Z 1 rfl rfl ?_; clear Z a; intro a Z
 refine s_end Z [0, 6, 11] rfl ?_; clear Z; intro Z
 refine p_then ?_
 refine f_cond Z rfl (fun hc1 => ?_) (fun hc1 => ?_)
 ·replace hF := ite_t hc1 hF
  refine wp_seq ?_
  obtain ⟨n0, hx2, hF⟩ := bnd_in hF
  refine f_region Z ?_; clear Z; intro Z
  refine s_runk tHb3 Z 1 rfl rfl ?_; clear Z a; intro a Z
  refine h_call Z H (js := []) rfl (caps := #[]) fn_15_YHb3 rfl rfl rfl rfl rfl (by decide) rfl rfl (fun D1 hS => have hq := c_hub_Hub_nobody_nil hx2 hS; hq) ?_; clear Z a; intro vv a w4 D2 hr hF2 Z
  obtain ⟨rfl, I2, K⟩ := hr
  have H : Hf I D w I2 w4 [BxC b1 9 [.string s0], BxC b2 25 [.int .i64 0]] := hF2 K
  clear hF2 K
  refine h_store tHb3 Z H 1 rfl rfl rfl rfl rfl rfl rfl rfl rfl (one_cons rfl one_nil) (Nat.le_of_ble_eq_true rfl) rfl ?_; clear H; intro w5 H
  dsimp only [List.eraseIdx] at H
  refine s_end Z [6] rfl ?_; clear Z; intro Z
  refine p_then (wp_ret ?_)
  refine p_then_r ?_
  obtain rfl := some_in hF
  exact f_ret Z (run_resultsC rfl Z rfl (run_loadVar_one tHb3 rfl ((H.bx 0 rfl).cell 0 rfl))) ⟨rfl, I2, (H.sub [] rfl).eq rfl⟩
 ·replace hF := ite_f hc1 hF
  refine wp_skip ?_
  refine p_then (wp_seq (f_region Z ?_)); clear Z; intro Z
  refine s_ob Z (v := .int .i64 0) rfl rfl (by decide) rfl (Ob_load tHb3 rfl rfl rfl ((H.bx 1 rfl).cell 0 rfl)) ?_; clear Z a; intro a Z
  refine h_store tHb3 Z H 1 rfl rfl rfl rfl rfl rfl rfl rfl rfl (one_cons rfl one_nil) (Nat.le_of_ble_eq_true rfl) rfl ?_; clear H; intro w6 H
  dsimp only [List.eraseIdx] at H
  refine s_end Z [6] rfl ?_; clear Z; intro Z
  refine p_then (wp_ret ?_)
  obtain rfl := some_in hF
  exact f_ret Z (run_resultsC rfl Z rfl (run_loadVar_one tHb3 rfl ((H.bx 0 rfl).cell 0 rfl))) ⟨rfl, I1, (H.sub [] rfl).eq rfl⟩

def F_hub_Hub_Out_nil (again : Bool) : Option (List EOut) := (F_hub_Hub_none_nil).bind fun n0 => (if (n0) = true then (some ([] : List EOut)) else (none))

set_option maxHeartbeats 1000000 in
theorem c_hub_Hub_Out_nil {I D : Dm} {again : Bool} {w : World} {rr : List EOut} (hF : F_hub_Hub_Out_nil again = some rr) (H : St I D w []) :
  Calls Try.prog 6 #[.pointer none, .bool again] w (Ret fun vv w' => ∃ q1 : Value, vv = q1 ∧ ∃ I', Hf I D w I' w' [SlC NEOut q1 rr]) := by
 replace H := H.hf
 unfold F_hub_Hub_Out_nil at hF
 refine f_enter 46 Try.func6 rfl rfl (Nat.le_of_ble_eq_true rfl) fun a Z => ?_
 replace Z := Z.sub (ts := [0, 1]) rfl
 refine wp_seq (f_region Z ?_); clear Z; intro Z
 refine s_runk tHb3 Z 1 rfl rfl ?_; clear Z a; intro a Z
 refine s_end Z [0, 1] rfl ?_; clear Z; intro Z
 refine p_then (wp_seq ?_)
 refine wp_seq ?_
 obtain ⟨n0, hx1, hF⟩ := bnd_in hF
 refine f_region Z ?_; clear Z; intro Z
 refine s_runk tHb3 Z 1 rfl rfl ?_; clear Z a; intro a Z
 refine h_call Z H (js := []) rfl (caps := #[]) fn_16_YHb3 rfl rfl rfl rfl rfl (by decide) rfl rfl (fun D1 hS => have hq := c_hub_Hub_none_nil hx1 hS; hq) ?_; clear Z a; intro vv a w1 D2 hr hF2 Z
 obtain ⟨rfl, I1, K⟩ := hr
 have H : Hf I D w I1 w1 [] := hF2 K
 clear hF2 K
 refine s_end Z [0, 1, 13] rfl ?_; clear Z; intro Z
 refine p_then ?_
 refine f_cond Z rfl (fun hc1 => ?_) (fun hc1 => ?_)
 ·replace hF := ite_t hc1 hF
  refine wp_seq (f_region Z ?_); clear Z; intro Z
  refine s_runk tHb3 Z 1 rfl rfl ?_; clear Z a; intro a Z
  refine s_end Z [4] rfl ?_; clear Z; intro Z
  refine p_then (wp_ret ?_)
  refine p_then_r ?_
  replace H : Hf I D w I1 w1 [SlC NEOut (.slice none 0 0) ([] : List EOut)] := H.slNil NEOut
  obtain rfl := some_in hF
  exact f_ret Z (run_results1 rfl Z rfl) ⟨.slice none 0 0, rfl, I1, (H.sub [(0, true)] rfl).eq rfl⟩
 ·replace hF := ite_f hc1 hF
  refine wp_skip ?_
  refine p_then (wp_seq (f_region Z ?_)); clear Z; intro Z
  refine s_runk tHb3 Z 1 rfl rfl ?_; clear Z a; intro a Z
  refine s_end Z [0, 1, 5] rfl ?_; clear Z; intro Z
  refine p_then (wp_seq ?_)
  refine wp_seq ?_
  cases hF

def F_hub_Hub_with_nil__hub_Hub_Waiting_1 (id : Int) (p1 : Int) : Option Bool := none

set_option maxHeartbeats 1000000 in
theorem c_hub_Hub_with_nil__hub_Hub_Waiting_1 {I D : Dm} {id : Int} {b_p1 : Nat} {p1 : Int} {w : World} {rr : Bool} (hF : F_hub_Hub_with_nil__hub_Hub_Waiting_1 id p1 = some rr) (H : St I D w [BxC b_p1 3 [.int .i64 p1]]) :
  Calls Try.prog 12 #[.pointer none, .int .i64 id, .func (.func 22) #[] #[.pointer (some ⟨b_p1, 0, none⟩)]] w (Ret fun vv w' => vv = .bool rr ∧ ∃ I', Hf I D w I' w' [BxC b_p1 3 [.int .i64 p1]]) := by
 replace H := H.hf
 unfold F_hub_Hub_with_nil__hub_Hub_Waiting_1 at hF
 refine f_enter 34 Try.func12 rfl rfl (Nat.le_of_ble_eq_true rfl) fun a Z => ?_
 replace Z := Z.sub (ts := [0, 1, 2]) rfl
 refine wp_seq (f_region Z ?_); clear Z; intro Z
 refine s_runk tHb3 Z 1 rfl rfl ?_; clear Z a; intro a Z
 refine s_end Z [0, 1, 2] rfl ?_; clear Z; intro Z
 refine p_then (wp_seq ?_)
 refine wp_seq ?_
 cases hF

def F_hub_Hub_Waiting_nil (to_ : Int) : Option Int := (F_hub_Hub_with_nil__hub_Hub_Waiting_1 to_ 0).bind fun x0 => (some 0)

set_option maxHeartbeats 1000000 in
theorem c_hub_Hub_Waiting_nil {I D : Dm} {to_ : Int} {w : World} {rr : Int} (hF : F_hub_Hub_Waiting_nil to_ = some rr) (H : St I D w []) :
  Calls Try.prog 9 #[.pointer none, .int .i64 to_] w (Ret fun vv w' => vv = .int .i64 rr ∧ ∃ I', Hf I D w I' w' []) := by
 replace H := H.hf
 unfold F_hub_Hub_Waiting_nil at hF
 refine f_enter 10 Try.func9 rfl rfl (Nat.le_of_ble_eq_true rfl) fun a Z => ?_
 replace Z := Z.sub (ts := [0, 1]) rfl
 refine wp_seq (f_region Z ?_); clear Z; intro Z
 refine h_alloc Z H (cl := [.int .i64 0]) (z := .int .i64 0) rfl rfl rfl (by decide) rfl (by kernel_rfl) rfl ?_; clear Z a H; intro a w1 b1 H Z
 refine s_end Z [0, 1, 4] rfl ?_; clear Z; intro Z
 refine p_then (wp_seq ?_)
 obtain ⟨x0, hx1, hF⟩ := bnd_in hF
 refine f_region Z ?_; clear Z; intro Z
 refine s_runk tHb3 Z 3 rfl rfl ?_; clear Z a; intro a Z
 refine h_call Z H (js := [(0, false)]) rfl (caps := #[]) fn_12_YHb3 rfl rfl rfl rfl rfl (by decide) rfl rfl (fun D1 hS => have hq := c_hub_Hub_with_nil__hub_Hub_Waiting_1 hx1 hS; hq) ?_; clear Z a; intro vv a w2 D2 hr hF2 Z
 obtain ⟨rfl, I1, K⟩ := hr
 have H : Hf I D w I1 w2 [BxC b1 3 [.int .i64 0]] := hF2 K
 clear hF2 K
 refine s_end Z [4] rfl ?_; clear Z; intro Z
 refine p_then (wp_seq (f_region Z ?_)); clear Z; intro Z
 refine s_ob Z (v := .int .i64 0) rfl rfl (by decide) rfl (Ob_load tHb3 rfl rfl rfl ((H.bx 0 rfl).cell 0 rfl)) ?_; clear Z a; intro a Z
 refine h_store tHb3 Z H 0 rfl rfl rfl rfl rfl rfl rfl rfl rfl (one_cons rfl one_nil) (Nat.le_of_ble_eq_true rfl) rfl ?_; clear H; intro w3 H
 dsimp only [List.eraseIdx] at H
 refine s_end Z [4] rfl ?_; clear Z; intro Z
 refine p_then (wp_ret ?_)
 obtain rfl := some_in hF
 exact f_ret Z (run_resultsC rfl Z rfl (run_loadVar_one tHb3 rfl ((H.bx 0 rfl).cell 0 rfl))) ⟨rfl, I1, (H.sub [] rfl).eq rfl⟩

def F_law23_awake : Option Bool := (F_hub_New 0 1).bind fun n0 => (optE n0.1 ((F_hub_Hub_Send_nil 2 ⟨#[120]⟩).bind fun n0_2 => ((F_hub_Hub_Out_nil true).bind fun n0_3 => (chk ((((n0.2 == 0) && (n0_2 == 0)) && ((n0_3.length : Int) == 1)) = true → (0 : Int) ≤ 0 ∧ 0 < (n0_3.length : Int)) ((gif ((((n0.2 == 0) && (n0_2 == 0)) && ((n0_3.length : Int) == 1)) && (((n0_3.getD (0 : Int).toNat default).to_) == 2)) (F_hub_Hub_Waiting_nil 2) default).bind fun n0_4 => ((gif (((((n0.2 == 0) && (n0_2 == 0)) && ((n0_3.length : Int) == 1)) && (((n0_3.getD (0 : Int).toNat default).to_) == 2)) && (n0_4 == 1)) (F_hub_Hub_Send_nil 0 ⟨#[120]⟩) default).bind fun n0_5 => (some ((((((n0.2 == 0) && (n0_2 == 0)) && ((n0_3.length : Int) == 1)) && (((n0_3.getD (0 : Int).toNat default).to_) == 2)) && (n0_4 == 1)) && (n0_5 == 1)))))))) (fun x => (F_hub_Hub_Send x 2 ⟨#[120]⟩).bind fun s0 => ((F_hub_Hub_Out s0.2 true).bind fun o => (chk ((((n0.2 == 0) && (s0.1 == 0)) && ((o.1.length : Int) == 1)) = true → (0 : Int) ≤ 0 ∧ 0 < (o.1.length : Int)) ((gif ((((n0.2 == 0) && (s0.1 == 0)) && ((o.1.length : Int) == 1)) && (((o.1.getD (0 : Int).toNat default).to_) == 2)) (F_hub_Hub_Waiting o.2 2) default).bind fun w0 => ((gif (((((n0.2 == 0) && (s0.1 == 0)) && ((o.1.length : Int) == 1)) && (((o.1.getD (0 : Int).toNat default).to_) == 2)) && (w0.1 == 1)) (F_hub_Hub_Send (cond ((((n0.2 == 0) && (s0.1 == 0)) && ((o.1.length : Int) == 1)) && (((o.1.getD (0 : Int).toNat default).to_) == 2)) w0.2 o.2) 0 ⟨#[120]⟩) default).bind fun s0_2 => (some ((((((n0.2 == 0) && (s0.1 == 0)) && ((o.1.length : Int) == 1)) && (((o.1.getD (0 : Int).toNat default).to_) == 2)) && (w0.1 == 1)) && (s0_2.1 == 1)))))))))

set_option maxHeartbeats 1000000 in
theorem c_law23_awake {I D : Dm} {w : World} {rr : Bool} (hF : F_law23_awake = some rr) (H : St I D w []) :
  Calls Try.prog 10 #[] w (Ret fun vv w' => vv = .bool rr ∧ ∃ I', Hf I D w I' w' []) := by
 replace H := H.hf
 unfold F_law23_awake at hF
 refine f_enter 41 Try.func10 rfl rfl (Nat.le_of_ble_eq_true rfl) fun a Z => ?_
 replace Z := Z.sub (ts := []) rfl
 refine wp_seq (f_region Z ?_); clear Z; intro Z
 refine s_runk tHb3 Z 1 rfl rfl ?_; clear Z a; intro a Z
 refine s_end Z [] rfl ?_; clear Z; intro Z
 refine p_then (wp_seq ?_)
 obtain ⟨n0, hx1, hF⟩ := bnd_in hF
 refine f_region Z ?_; clear Z; intro Z
 refine h_call Z H (js := []) rfl (caps := #[]) fn_4_YHb3 rfl rfl rfl rfl rfl (by decide) rfl rfl (fun D1 hS => have hq := c_hub_New hx1 hS; hq) ?_; clear Z a; intro vv a w1 D2 hr hF2 Z
 obtain ⟨q1, rfl, I1, K⟩ := hr
 have H : Hf I D w I1 w1 [PtC OEhub_Hub q1 n0.1] := hF2 K
 clear hF2 K
 refine s_runk tHb3 Z 5 rfl rfl ?_; clear Z a; intro a Z
 refine s_end Z [1, 2] rfl ?_; clear Z; intro Z
 rcases optE_in hF with ⟨ho1, hF⟩ | ⟨x, ho1, hF⟩
 ·obtain ⟨hv, H⟩ := H.optN 0 rfl ho1
  subst hv
  replace H : Hf I D w I1 w1 [] := H
  refine p_then (wp_seq ?_)
  obtain ⟨n0_2, hx2, hF⟩ := bnd_in hF
  refine f_region Z ?_; clear Z; intro Z
  refine s_runk tHb3 Z 1 rfl rfl ?_; clear Z a; intro a Z
  refine h_call Z H (js := []) rfl (caps := #[]) fn_5_YHb3 rfl rfl rfl rfl rfl (by decide) rfl rfl (fun D1 hS => have hq := c_hub_Hub_Send_nil hx2 hS; hq) ?_; clear Z a; intro vv a w2 D2 hr hF2 Z
  obtain ⟨rfl, I2, K⟩ := hr
  have H : Hf I D w I2 w2 [] := hF2 K
  clear hF2 K
  refine s_runk tHb3 Z 1 rfl rfl ?_; clear Z a; intro a Z
  refine s_end Z [1, 2, 3] rfl ?_; clear Z; intro Z
  refine p_then (wp_seq ?_)
  obtain ⟨n0_3, hx3, hF⟩ := bnd_in hF
  refine f_region Z ?_; clear Z; intro Z
  refine s_runk tHb3 Z 1 rfl rfl ?_; clear Z a; intro a Z
  refine h_call Z H (js := []) rfl (caps := #[]) fn_6_YHb3 rfl rfl rfl rfl rfl (by decide) rfl rfl (fun D1 hS => have hq := c_hub_Hub_Out_nil hx3 hS; hq) ?_; clear Z a; intro vv a w3 D2 hr hF2 Z
  obtain ⟨q2, hvv, I3, K⟩ := hr; obtain rfl := hvv.symm
  have H : Hf I D w I3 w3 [SlC NEOut q2 n0_3] := hF2 K
  clear hF2 K
  refine s_runk tHb3 Z 1 rfl rfl ?_; clear Z a; intro a Z
  refine s_end Z [1, 2, 3, 4] rfl ?_; clear Z; intro Z
  refine p_then (wp_seq ?_)
  obtain ⟨hg1, hF⟩ := chk_in hF
  obtain ⟨n0_4, hx4, hF⟩ := bnd_in hF
  obtain ⟨n0_5, hx5, hF⟩ := bnd_in hF
  refine f_region Z ?_; clear Z; intro Z
  refine s_runk tHb3 Z 3 rfl rfl ?_; clear Z a; intro a Z
  refine g_ob Z (p := (n0.2 == 0)) (v := .int .i64 n0_2) (S' := [(3, .int .i64 n0_2)]) rfl rfl rfl (wantB_t _) rfl (by decide) (fun hp hS => hS.sub (ts := [3]) rfl) (fun hp => Ob_c tHb3 rfl) ?_; clear Z a; intro a Z
  refine g_ob Z (p := (n0.2 == 0)) (v := .bool (n0_2 == 0)) (S' := [(16, .int .i64 n0_2)]) rfl rfl rfl (wantB_t _) rfl (by decide) (fun hp hS => (hS.conv (t := 16) rfl (cond_t hp)).sub (ts := [16]) rfl) (fun hp => Ob_c tHb3 rfl) ?_; clear Z a; intro a Z
  refine s_ob Z (v := .bool ((n0.2 == 0) && (n0_2 == 0))) rfl rfl (by decide) rfl (Ob_pick rfl rfl rfl rfl (pick_and _ _)) ?_; clear Z a; intro a Z
  refine s_runk tHb3 Z 1 rfl rfl ?_; clear Z a; intro a Z
  refine g_ob Z (p := ((n0.2 == 0) && (n0_2 == 0))) (v := q2) (S' := [(4, q2)]) rfl rfl rfl (wantB_t _) rfl (by decide) (fun hp hS => hS.sub (ts := [4]) rfl) (fun hp => Ob_c tHb3 rfl) ?_; clear Z a; intro a Z
  refine g_ob Z (p := ((n0.2 == 0) && (n0_2 == 0))) (v := .int .i64 (n0_3.length : Int)) (S' := [(20, q2)]) rfl rfl rfl (wantB_t _) rfl (by decide) (fun hp hS => (hS.conv (t := 20) rfl (cond_t hp)).sub (ts := [20]) rfl) (fun hp => Ob_slen tHb3 rfl rfl rfl (H.slshape 0 rfl)) ?_; clear Z a; intro a Z
  refine g_ob Z (p := ((n0.2 == 0) && (n0_2 == 0))) (v := .bool ((n0_3.length : Int) == 1)) (S' := [(21, .int .i64 (n0_3.length : Int))]) rfl rfl rfl (wantB_t _) rfl (by decide) (fun hp hS => (hS.conv (t := 21) rfl (cond_t hp)).sub (ts := [21]) rfl) (fun hp => Ob_c tHb3 rfl) ?_; clear Z a; intro a Z
  refine s_ob Z (v := .bool (((n0.2 == 0) && (n0_2 == 0)) && ((n0_3.length : Int) == 1))) rfl rfl (by decide) rfl (Ob_pick rfl rfl rfl rfl (pick_and _ _)) ?_; clear Z a; intro a Z
  refine s_runk tHb3 Z 1 rfl rfl ?_; clear Z a; intro a Z
  refine g_ob Z (p := (((n0.2 == 0) && (n0_2 == 0)) && ((n0_3.length : Int) == 1))) (v := q2) (S' := [(4, q2)]) rfl rfl rfl (wantB_t _) rfl (by decide) (fun hp hS => hS.sub (ts := [4]) rfl) (fun hp => Ob_c tHb3 rfl) ?_; clear Z a; intro a Z
  refine g_ob Z (p := (((n0.2 == 0) && (n0_2 == 0)) && ((n0_3.length : Int) == 1))) (v := .pointer (some ⟨blkOf q2, oofOf q2 + (0 : Int).toNat * 2, none⟩)) (S' := [(25, q2)]) rfl rfl rfl (wantB_t _) rfl (by decide) (fun hp hS => (hS.conv (t := 25) rfl (cond_t hp)).sub (ts := [25]) rfl) (fun hp => Ob_sidx tHb3 rfl rfl rfl rfl (slPl (H.sl 0 rfl) (hg1 hp)) (hg1 hp)) ?_; clear Z a; intro a Z
  refine g_ob Z (p := (((n0.2 == 0) && (n0_2 == 0)) && ((n0_3.length : Int) == 1))) (v := .pointer (some ⟨blkOf q2, oofOf q2 + (0 : Int).toNat * 2, none⟩)) (S' := [(26, .pointer (some ⟨blkOf q2, oofOf q2 + (0 : Int).toNat * 2, none⟩))]) rfl rfl rfl (wantB_t _) rfl (by decide) (fun hp hS => (hS.conv (t := 26) rfl (cond_t hp)).sub (ts := [26]) rfl) (fun hp => Ob_c tHb3 rfl) ?_; clear Z a; intro a Z
  refine g_ob Z (p := (((n0.2 == 0) && (n0_2 == 0)) && ((n0_3.length : Int) == 1))) (v := .int .i64 ((n0_3.getD (0 : Int).toNat default).to_)) (S' := [(27, .pointer (some ⟨blkOf q2, oofOf q2 + (0 : Int).toNat * 2, none⟩))]) rfl rfl rfl (wantB_t _) rfl (by decide) (fun hp hS => (hS.conv (t := 27) rfl (cond_t hp)).sub (ts := [27]) rfl) (fun hp => Ob_load tHb3 rfl rfl rfl ((slFl (H.sl 0 rfl) (hg1 hp)) 0 _ rfl)) ?_; clear Z a; intro a Z
  refine g_ob Z (p := (((n0.2 == 0) && (n0_2 == 0)) && ((n0_3.length : Int) == 1))) (v := .bool (((n0_3.getD (0 : Int).toNat default).to_) == 2)) (S' := [(28, .int .i64 ((n0_3.getD (0 : Int).toNat default).to_))]) rfl rfl rfl (wantB_t _) rfl (by decide) (fun hp hS => (hS.conv (t := 28) rfl (cond_t hp)).sub (ts := [28]) rfl) (fun hp => Ob_c tHb3 rfl) ?_; clear Z a; intro a Z
  refine s_ob Z (v := .bool ((((n0.2 == 0) && (n0_2 == 0)) && ((n0_3.length : Int) == 1)) && (((n0_3.getD (0 : Int).toNat default).to_) == 2))) rfl rfl (by decide) rfl (Ob_pick rfl rfl rfl rfl (pick_and _ _)) ?_; clear Z a; intro a Z
  refine s_runk tHb3 Z 1 rfl rfl ?_; clear Z a; intro a Z
  refine g_ob Z (p := ((((n0.2 == 0) && (n0_2 == 0)) && ((n0_3.length : Int) == 1)) && (((n0_3.getD (0 : Int).toNat default).to_) == 2))) (v := .pointer none) (S' := [(1, .pointer none)]) rfl rfl rfl (wantB_t _) rfl (by decide) (fun hp hS => hS.sub (ts := [1]) rfl) (fun hp => Ob_c tHb3 rfl) ?_; clear Z a; intro a Z
  refine g_call Z (p := ((((n0.2 == 0) && (n0_2 == 0)) && ((n0_3.length : Int) == 1)) && (((n0_3.getD (0 : Int).toNat default).to_) == 2))) (v := .int .i64 n0_4) (S' := [(32, .pointer none)]) (caps := #[]) fn_9_YHb3 rfl rfl rfl (wantB_t _) rfl (by decide) (fun hp hS => (hS.conv (t := 32) rfl (cond_t hp)).sub (ts := [32]) rfl) rfl rfl rfl rfl (fun hp => (have hq := c_hub_Hub_Waiting_nil (gif_in hx4 hp) ((H).pick0 (js := []) rfl rfl); plainC hq)) ?_; clear Z a; intro a w4 hb Z
  replace H : Hf I D w I3 w4 [SlC NEOut q2 n0_3] := H.blw hb
  clear hb
  refine g_ob Z (p := ((((n0.2 == 0) && (n0_2 == 0)) && ((n0_3.length : Int) == 1)) && (((n0_3.getD (0 : Int).toNat default).to_) == 2))) (v := .bool (n0_4 == 1)) (S' := [(33, .int .i64 n0_4)]) rfl rfl rfl (wantB_t _) rfl (by decide) (fun hp hS => (hS.conv (t := 33) rfl (cond_t hp)).sub (ts := [33]) rfl) (fun hp => Ob_c tHb3 rfl) ?_; clear Z a; intro a Z
  refine s_ob Z (v := .bool (((((n0.2 == 0) && (n0_2 == 0)) && ((n0_3.length : Int) == 1)) && (((n0_3.getD (0 : Int).toNat default).to_) == 2)) && (n0_4 == 1))) rfl rfl (by decide) rfl (Ob_pick rfl rfl rfl rfl (pick_and _ _)) ?_; clear Z a; intro a Z
  refine s_runk tHb3 Z 1 rfl rfl ?_; clear Z a; intro a Z
  refine g_ob Z (p := (((((n0.2 == 0) && (n0_2 == 0)) && ((n0_3.length : Int) == 1)) && (((n0_3.getD (0 : Int).toNat default).to_) == 2)) && (n0_4 == 1))) (v := .pointer none) (S' := [(1, .pointer none)]) rfl rfl rfl (wantB_t _) rfl (by decide) (fun hp hS => hS.sub (ts := [1]) rfl) (fun hp => Ob_c tHb3 rfl) ?_; clear Z a; intro a Z
  refine g_call Z (p := (((((n0.2 == 0) && (n0_2 == 0)) && ((n0_3.length : Int) == 1)) && (((n0_3.getD (0 : Int).toNat default).to_) == 2)) && (n0_4 == 1))) (v := .int .i64 n0_5) (S' := [(37, .pointer none)]) (caps := #[]) fn_5_YHb3 rfl rfl rfl (wantB_t _) rfl (by decide) (fun hp hS => (hS.conv (t := 37) rfl (cond_t hp)).sub (ts := [37]) rfl) rfl rfl rfl rfl (fun hp => (have hq := c_hub_Hub_Send_nil (gif_in hx5 hp) ((H).pick0 (js := []) rfl rfl); plainC hq)) ?_; clear Z a; intro a w5 hb Z
  replace H : Hf I D w I3 w5 [SlC NEOut q2 n0_3] := H.blw hb
  clear hb
  refine g_ob Z (p := (((((n0.2 == 0) && (n0_2 == 0)) && ((n0_3.length : Int) == 1)) && (((n0_3.getD (0 : Int).toNat default).to_) == 2)) && (n0_4 == 1))) (v := .bool (n0_5 == 1)) (S' := [(38, .int .i64 n0_5)]) rfl rfl rfl (wantB_t _) rfl (by decide) (fun hp hS => (hS.conv (t := 38) rfl (cond_t hp)).sub (ts := [38]) rfl) (fun hp => Ob_c tHb3 rfl) ?_; clear Z a; intro a Z
  refine s_ob Z (v := .bool ((((((n0.2 == 0) && (n0_2 == 0)) && ((n0_3.length : Int) == 1)) && (((n0_3.getD (0 : Int).toNat default).to_) == 2)) && (n0_4 == 1)) && (n0_5 == 1))) rfl rfl (by decide) rfl (Ob_pick rfl rfl rfl rfl (pick_and _ _)) ?_; clear Z a; intro a Z
  refine s_runk tHb3 Z 1 rfl rfl ?_; clear Z a; intro a Z
  refine s_end Z [0] rfl ?_; clear Z; intro Z
  refine p_then (wp_ret ?_)
  obtain rfl := some_in hF
  exact f_ret Z (run_results1 rfl Z rfl) ⟨rfl, I3, (H.sub [] rfl).eq rfl⟩
 ·obtain ⟨b1, hv, H⟩ := H.optS 0 rfl ho1
  subst hv
  replace H : Hf I D w I1 w1 [OEhub_Hub b1 x] := H
  refine p_then (wp_seq ?_)
  obtain ⟨s0, hx6, hF⟩ := bnd_in hF
  refine f_region Z ?_; clear Z; intro Z
  refine s_runk tHb3 Z 1 rfl rfl ?_; clear Z a; intro a Z
  refine h_call Z H (js := [(0, false)]) rfl (caps := #[]) fn_5_YHb3 rfl rfl rfl rfl rfl (by decide) rfl rfl (fun D1 hS => have hq := c_hub_Hub_Send hx6 hS; hq) ?_; clear Z a; intro vv a w6 D2 hr hF2 Z
  obtain ⟨rfl, I4, K⟩ := hr
  have H : Hf I D w I4 w6 [OEhub_Hub b1 s0.2] := hF2 K
  clear hF2 K
  refine s_runk tHb3 Z 1 rfl rfl ?_; clear Z a; intro a Z
  refine s_end Z [1, 2, 3] rfl ?_; clear Z; intro Z
  refine p_then (wp_seq ?_)
  obtain ⟨o, hx7, hF⟩ := bnd_in hF
  refine f_region Z ?_; clear Z; intro Z
  refine s_runk tHb3 Z 1 rfl rfl ?_; clear Z a; intro a Z
  refine h_call Z H (js := [(0, false)]) rfl (caps := #[]) fn_6_YHb3 rfl rfl rfl rfl rfl (by decide) rfl rfl (fun D1 hS => have hq := c_hub_Hub_Out hx7 hS; hq) ?_; clear Z a; intro vv a w7 D2 hr hF2 Z
  obtain ⟨q3, hvv, I5, K⟩ := hr; obtain rfl := hvv.symm
  have H : Hf I D w I5 w7 [OEhub_Hub b1 o.2, SlC NEOut q3 o.1] := hF2 K
  clear hF2 K
  refine s_runk tHb3 Z 1 rfl rfl ?_; clear Z a; intro a Z
  refine s_end Z [1, 2, 3, 4] rfl ?_; clear Z; intro Z
  refine p_then (wp_seq ?_)
  obtain ⟨hg2, hF⟩ := chk_in hF
  obtain ⟨w0, hx8, hF⟩ := bnd_in hF
  obtain ⟨s0_2, hx9, hF⟩ := bnd_in hF
  refine f_region Z ?_; clear Z; intro Z
  refine s_runk tHb3 Z 3 rfl rfl ?_; clear Z a; intro a Z
  refine g_ob Z (p := (n0.2 == 0)) (v := .int .i64 s0.1) (S' := [(3, .int .i64 s0.1)]) rfl rfl rfl (wantB_t _) rfl (by decide) (fun hp hS => hS.sub (ts := [3]) rfl) (fun hp => Ob_c tHb3 rfl) ?_; clear Z a; intro a Z
  refine g_ob Z (p := (n0.2 == 0)) (v := .bool (s0.1 == 0)) (S' := [(16, .int .i64 s0.1)]) rfl rfl rfl (wantB_t _) rfl (by decide) (fun hp hS => (hS.conv (t := 16) rfl (cond_t hp)).sub (ts := [16]) rfl) (fun hp => Ob_c tHb3 rfl) ?_; clear Z a; intro a Z
  refine s_ob Z (v := .bool ((n0.2 == 0) && (s0.1 == 0))) rfl rfl (by decide) rfl (Ob_pick rfl rfl rfl rfl (pick_and _ _)) ?_; clear Z a; intro a Z
  refine s_runk tHb3 Z 1 rfl rfl ?_; clear Z a; intro a Z
  refine g_ob Z (p := ((n0.2 == 0) && (s0.1 == 0))) (v := q3) (S' := [(4, q3)]) rfl rfl rfl (wantB_t _) rfl (by decide) (fun hp hS => hS.sub (ts := [4]) rfl) (fun hp => Ob_c tHb3 rfl) ?_; clear Z a; intro a Z
  refine g_ob Z (p := ((n0.2 == 0) && (s0.1 == 0))) (v := .int .i64 (o.1.length : Int)) (S' := [(20, q3)]) rfl rfl rfl (wantB_t _) rfl (by decide) (fun hp hS => (hS.conv (t := 20) rfl (cond_t hp)).sub (ts := [20]) rfl) (fun hp => Ob_slen tHb3 rfl rfl rfl (H.slshape 1 rfl)) ?_; clear Z a; intro a Z
  refine g_ob Z (p := ((n0.2 == 0) && (s0.1 == 0))) (v := .bool ((o.1.length : Int) == 1)) (S' := [(21, .int .i64 (o.1.length : Int))]) rfl rfl rfl (wantB_t _) rfl (by decide) (fun hp hS => (hS.conv (t := 21) rfl (cond_t hp)).sub (ts := [21]) rfl) (fun hp => Ob_c tHb3 rfl) ?_; clear Z a; intro a Z
  refine s_ob Z (v := .bool (((n0.2 == 0) && (s0.1 == 0)) && ((o.1.length : Int) == 1))) rfl rfl (by decide) rfl (Ob_pick rfl rfl rfl rfl (pick_and _ _)) ?_; clear Z a; intro a Z
  refine s_runk tHb3 Z 1 rfl rfl ?_; clear Z a; intro a Z
  refine g_ob Z (p := (((n0.2 == 0) && (s0.1 == 0)) && ((o.1.length : Int) == 1))) (v := q3) (S' := [(4, q3)]) rfl rfl rfl (wantB_t _) rfl (by decide) (fun hp hS => hS.sub (ts := [4]) rfl) (fun hp => Ob_c tHb3 rfl) ?_; clear Z a; intro a Z
  refine g_ob Z (p := (((n0.2 == 0) && (s0.1 == 0)) && ((o.1.length : Int) == 1))) (v := .pointer (some ⟨blkOf q3, oofOf q3 + (0 : Int).toNat * 2, none⟩)) (S' := [(25, q3)]) rfl rfl rfl (wantB_t _) rfl (by decide) (fun hp hS => (hS.conv (t := 25) rfl (cond_t hp)).sub (ts := [25]) rfl) (fun hp => Ob_sidx tHb3 rfl rfl rfl rfl (slPl (H.sl 1 rfl) (hg2 hp)) (hg2 hp)) ?_; clear Z a; intro a Z
  refine g_ob Z (p := (((n0.2 == 0) && (s0.1 == 0)) && ((o.1.length : Int) == 1))) (v := .pointer (some ⟨blkOf q3, oofOf q3 + (0 : Int).toNat * 2, none⟩)) (S' := [(26, .pointer (some ⟨blkOf q3, oofOf q3 + (0 : Int).toNat * 2, none⟩))]) rfl rfl rfl (wantB_t _) rfl (by decide) (fun hp hS => (hS.conv (t := 26) rfl (cond_t hp)).sub (ts := [26]) rfl) (fun hp => Ob_c tHb3 rfl) ?_; clear Z a; intro a Z
  refine g_ob Z (p := (((n0.2 == 0) && (s0.1 == 0)) && ((o.1.length : Int) == 1))) (v := .int .i64 ((o.1.getD (0 : Int).toNat default).to_)) (S' := [(27, .pointer (some ⟨blkOf q3, oofOf q3 + (0 : Int).toNat * 2, none⟩))]) rfl rfl rfl (wantB_t _) rfl (by decide) (fun hp hS => (hS.conv (t := 27) rfl (cond_t hp)).sub (ts := [27]) rfl) (fun hp => Ob_load tHb3 rfl rfl rfl ((slFl (H.sl 1 rfl) (hg2 hp)) 0 _ rfl)) ?_; clear Z a; intro a Z
  refine g_ob Z (p := (((n0.2 == 0) && (s0.1 == 0)) && ((o.1.length : Int) == 1))) (v := .bool (((o.1.getD (0 : Int).toNat default).to_) == 2)) (S' := [(28, .int .i64 ((o.1.getD (0 : Int).toNat default).to_))]) rfl rfl rfl (wantB_t _) rfl (by decide) (fun hp hS => (hS.conv (t := 28) rfl (cond_t hp)).sub (ts := [28]) rfl) (fun hp => Ob_c tHb3 rfl) ?_; clear Z a; intro a Z
  refine s_ob Z (v := .bool ((((n0.2 == 0) && (s0.1 == 0)) && ((o.1.length : Int) == 1)) && (((o.1.getD (0 : Int).toNat default).to_) == 2))) rfl rfl (by decide) rfl (Ob_pick rfl rfl rfl rfl (pick_and _ _)) ?_; clear Z a; intro a Z
  refine s_runk tHb3 Z 1 rfl rfl ?_; clear Z a; intro a Z
  refine g_ob Z (p := ((((n0.2 == 0) && (s0.1 == 0)) && ((o.1.length : Int) == 1)) && (((o.1.getD (0 : Int).toNat default).to_) == 2))) (v := .pointer (some ⟨b1, 0, none⟩)) (S' := [(1, .pointer (some ⟨b1, 0, none⟩))]) rfl rfl rfl (wantB_t _) rfl (by decide) (fun hp hS => hS.sub (ts := [1]) rfl) (fun hp => Ob_c tHb3 rfl) ?_; clear Z a; intro a Z
  refine h_gcall Z H (js := [(0, false)]) rfl (p := ((((n0.2 == 0) && (s0.1 == 0)) && ((o.1.length : Int) == 1)) && (((o.1.getD (0 : Int).toNat default).to_) == 2))) (v := .int .i64 w0.1) (S' := [(32, .pointer (some ⟨b1, 0, none⟩))]) (caps := #[]) (fun qq => [OEhub_Hub b1 (cond qq w0.2 o.2)]) fn_9_YHb3 rfl rfl rfl (wantB_t _) rfl (by decide) (fun hp hS => (hS.conv (t := 32) rfl (cond_t hp)).sub (ts := [32]) rfl) rfl rfl rfl rfl (fun hp D1 hS => have hq := c_hub_Hub_Waiting (gif_in hx8 hp) hS; hq) (fun hp => H.sub [(0, false), (0, true)] rfl) ?_; clear Z a H; intro a w8 I6 H Z
  replace H : Hf I D w I6 w8 [OEhub_Hub b1 (cond ((((n0.2 == 0) && (s0.1 == 0)) && ((o.1.length : Int) == 1)) && (((o.1.getD (0 : Int).toNat default).to_) == 2)) w0.2 o.2), SlC NEOut q3 o.1] := H
  refine g_ob Z (p := ((((n0.2 == 0) && (s0.1 == 0)) && ((o.1.length : Int) == 1)) && (((o.1.getD (0 : Int).toNat default).to_) == 2))) (v := .bool (w0.1 == 1)) (S' := [(33, .int .i64 w0.1)]) rfl rfl rfl (wantB_t _) rfl (by decide) (fun hp hS => (hS.conv (t := 33) rfl (cond_t hp)).sub (ts := [33]) rfl) (fun hp => Ob_c tHb3 rfl) ?_; clear Z a; intro a Z
  refine s_ob Z (v := .bool (((((n0.2 == 0) && (s0.1 == 0)) && ((o.1.length : Int) == 1)) && (((o.1.getD (0 : Int).toNat default).to_) == 2)) && (w0.1 == 1))) rfl rfl (by decide) rfl (Ob_pick rfl rfl rfl rfl (pick_and _ _)) ?_; clear Z a; intro a Z
  refine s_runk tHb3 Z 1 rfl rfl ?_; clear Z a; intro a Z
  refine g_ob Z (p := (((((n0.2 == 0) && (s0.1 == 0)) && ((o.1.length : Int) == 1)) && (((o.1.getD (0 : Int).toNat default).to_) == 2)) && (w0.1 == 1))) (v := .pointer (some ⟨b1, 0, none⟩)) (S' := [(1, .pointer (some ⟨b1, 0, none⟩))]) rfl rfl rfl (wantB_t _) rfl (by decide) (fun hp hS => hS.sub (ts := [1]) rfl) (fun hp => Ob_c tHb3 rfl) ?_; clear Z a; intro a Z
  refine h_gcall Z H (js := [(0, false)]) rfl (p := (((((n0.2 == 0) && (s0.1 == 0)) && ((o.1.length : Int) == 1)) && (((o.1.getD (0 : Int).toNat default).to_) == 2)) && (w0.1 == 1))) (v := .int .i64 s0_2.1) (S' := [(37, .pointer (some ⟨b1, 0, none⟩))]) (caps := #[]) (fun qq => [OEhub_Hub b1 (cond qq s0_2.2 (cond ((((n0.2 == 0) && (s0.1 == 0)) && ((o.1.length : Int) == 1)) && (((o.1.getD (0 : Int).toNat default).to_) == 2)) w0.2 o.2))]) fn_5_YHb3 rfl rfl rfl (wantB_t _) rfl (by decide) (fun hp hS => (hS.conv (t := 37) rfl (cond_t hp)).sub (ts := [37]) rfl) rfl rfl rfl rfl (fun hp D1 hS => have hq := c_hub_Hub_Send (gif_in hx9 hp) hS; hq) (fun hp => H.sub [(0, false), (0, true)] rfl) ?_; clear Z a H; intro a w9 I7 H Z
  replace H : Hf I D w I7 w9 [OEhub_Hub b1 (cond (((((n0.2 == 0) && (s0.1 == 0)) && ((o.1.length : Int) == 1)) && (((o.1.getD (0 : Int).toNat default).to_) == 2)) && (w0.1 == 1)) s0_2.2 (cond ((((n0.2 == 0) && (s0.1 == 0)) && ((o.1.length : Int) == 1)) && (((o.1.getD (0 : Int).toNat default).to_) == 2)) w0.2 o.2)), SlC NEOut q3 o.1] := H
  refine g_ob Z (p := (((((n0.2 == 0) && (s0.1 == 0)) && ((o.1.length : Int) == 1)) && (((o.1.getD (0 : Int).toNat default).to_) == 2)) && (w0.1 == 1))) (v := .bool (s0_2.1 == 1)) (S' := [(38, .int .i64 s0_2.1)]) rfl rfl rfl (wantB_t _) rfl (by decide) (fun hp hS => (hS.conv (t := 38) rfl (cond_t hp)).sub (ts := [38]) rfl) (fun hp => Ob_c tHb3 rfl) ?_; clear Z a; intro a Z
  refine s_ob Z (v := .bool ((((((n0.2 == 0) && (s0.1 == 0)) && ((o.1.length : Int) == 1)) && (((o.1.getD (0 : Int).toNat default).to_) == 2)) && (w0.1 == 1)) && (s0_2.1 == 1))) rfl rfl (by decide) rfl (Ob_pick rfl rfl rfl rfl (pick_and _ _)) ?_; clear Z a; intro a Z
  refine s_runk tHb3 Z 1 rfl rfl ?_; clear Z a; intro a Z
  refine s_end Z [0] rfl ?_; clear Z; intro Z
  refine p_then (wp_ret ?_)
  obtain rfl := some_in hF
  exact f_ret Z (run_results1 rfl Z rfl) ⟨rfl, I7, (H.sub [] rfl).eq rfl⟩

end Go.Proofs.Ytghkhndlpfmpfaa
