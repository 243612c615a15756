/- Links: the law's test of itself. -/
import Derived.Test.YthomnhhjgcabkaaYLinkB
namespace Go.Proofs.Ythomnhhjgcabkaa
open Go.RowKit
def tLinkCL : TabL := ⟨[(31744, 0)], [9], [], [(37, (31, 8)), (39, (9, 1))], [(3, (1, false)), (9, (1, false)), (31, (8, true))]⟩

def tLinkC : Tab Try.prog := ⟨tLinkCL, by kernel_rfl⟩

theorem fn_8_YLinkC : IsFn Try.prog 8 := ⟨_, Try.func8, by kernel_rfl, by kernel_rfl⟩

theorem fn_10_YLinkC : IsFn Try.prog 10 := ⟨_, Try.func10, by kernel_rfl, by kernel_rfl⟩

theorem fn_13_YLinkC : IsFn Try.prog 13 := ⟨_, Try.func13, by kernel_rfl, by kernel_rfl⟩

theorem fn_15_YLinkC : IsFn Try.prog 15 := ⟨_, Try.func15, by kernel_rfl, by kernel_rfl⟩

theorem fn_18_YLinkC : IsFn Try.prog 18 := ⟨_, Try.func18, by kernel_rfl, by kernel_rfl⟩

theorem fn_19_YLinkC : IsFn Try.prog 19 := ⟨_, Try.func19, by kernel_rfl, by kernel_rfl⟩

theorem fn_29_YLinkC : IsFn Try.prog 29 := ⟨_, Try.func29, by kernel_rfl, by kernel_rfl⟩

theorem fn_32_YLinkC : IsFn Try.prog 32 := ⟨_, Try.func32, by kernel_rfl, by kernel_rfl⟩

def F_link_Link_none_nil : Option Bool := some true

set_option maxHeartbeats 1000000 in
theorem c_link_Link_none_nil {I D : Dm} {w : World} {rr : Bool} (hF : F_link_Link_none_nil = some rr) (H : St I D w []) :
  Calls Try.prog 29 #[.pointer none] w (Ret fun vv w' => vv = .bool rr ∧ ∃ I', Hf I D w I' w' []) := by
 replace H := H.hf
 unfold F_link_Link_none_nil at hF
 refine f_enter 12 Try.func29 rfl rfl (Nat.le_of_ble_eq_true rfl) fun a Z => ?_
 replace Z := Z.sub (ts := [0]) rfl
 refine wp_seq (f_region Z ?_); clear Z; intro Z
 refine s_runk tLinkC Z 1 rfl rfl ?_; clear Z a; intro a Z
 refine s_end Z [0, 2] rfl ?_; clear Z; intro Z
 refine p_then (wp_seq (f_region Z ?_)); clear Z; intro Z
 refine s_runk tLinkC Z 1 rfl rfl ?_; clear Z a; intro a Z
 refine s_ob Z (v := .bool true) rfl rfl (by decide) rfl (Ob_pnil rfl rfl rfl Try.underlying23 (.inl ⟨rfl, rfl⟩)) ?_; clear Z a; intro a Z
 refine s_runk tLinkC Z 1 rfl rfl ?_; clear Z a; intro a Z
 refine g_if Z rfl rfl rfl (p := false) rfl rfl (by decide) (fun h => by cases h) ?_; clear Z; intro _ a Z
 refine g_if Z rfl rfl rfl (p := false) rfl rfl (by decide) (fun h => by cases h) ?_; clear Z; intro _ a Z
 refine g_if Z rfl rfl rfl (p := false) rfl rfl (by decide) (fun h => by cases h) ?_; clear Z; intro _ a Z
 refine g_if Z rfl rfl rfl (p := false) rfl rfl (by decide) (fun h => by cases h) ?_; clear Z; intro _ a Z
 refine g_if Z rfl rfl rfl (p := false) rfl rfl (by decide) (fun h => by cases h) ?_; clear Z; intro _ a Z
 refine s_ob Z (v := .bool true) rfl rfl (by decide) rfl (Ob_pick rfl rfl rfl rfl rfl) ?_; clear Z a; intro a Z
 refine s_runk tLinkC Z 1 rfl rfl ?_; clear Z a; intro a Z
 refine s_end Z [2] rfl ?_; clear Z; intro Z
 refine p_then (wp_ret ?_)
 obtain rfl := some_in hF
 exact f_ret Z (run_results1 rfl Z rfl) ⟨rfl, I, (H.sub [] rfl).eq rfl⟩

def F_link_Link_Send_nil (s0 : ByteArray) : Option Int := (F_link_Link_none_nil).bind fun n0 => (if (n0) = true then (some 8) else (if (decide ((s0.size : Int) > 65536)) = true then (some 3) else (none)))

set_option maxHeartbeats 1000000 in
theorem c_link_Link_Send_nil {I D : Dm} {s0 : ByteArray} {w : World} {rr : Int} (hF : F_link_Link_Send_nil s0 = some rr) (H : St I D w []) :
  Calls Try.prog 10 #[.pointer none, .string s0] w (Ret fun vv w' => vv = .int .i64 rr ∧ ∃ I', Hf I D w I' w' []) := by
 replace H := H.hf
 unfold F_link_Link_Send_nil at hF
 refine f_enter 32 Try.func10 rfl rfl (Nat.le_of_ble_eq_true rfl) fun a Z => ?_
 replace Z := Z.sub (ts := [0, 1]) rfl
 refine wp_seq (f_region Z ?_); clear Z; intro Z
 refine s_runk tLinkC Z 1 rfl rfl ?_; clear Z a; intro a Z
 refine s_end Z [0, 1, 4] rfl ?_; clear Z; intro Z
 refine p_then (wp_seq ?_)
 refine wp_block ?_
 refine wp_seq ?_
 obtain ⟨n0, hx1, hF⟩ := bnd_in hF
 refine f_region Z ?_; clear Z; intro Z
 refine s_runk tLinkC Z 1 rfl rfl ?_; clear Z a; intro a Z
 refine h_call Z H (js := []) rfl (caps := #[]) fn_29_YLinkC rfl rfl rfl rfl rfl (by decide) rfl rfl (fun D1 hS => have hq := c_link_Link_none_nil hx1 hS; hq) ?_; clear Z a; intro vv a w1 D2 hr hF2 Z
 obtain ⟨rfl, I1, K⟩ := hr
 have H : Hf I D w I1 w1 [] := hF2 K
 clear hF2 K
 refine s_runk tLinkC Z 1 rfl rfl ?_; clear Z a; intro a Z
 refine s_end Z [0, 1, 4, 5] rfl ?_; clear Z; intro Z
 refine p_then ?_
 refine f_cond Z rfl (fun hc1 => ?_) (fun hc1 => ?_)
 ·replace hF := ite_t hc1 hF
  refine wp_seq (f_region Z ?_); clear Z; intro Z
  refine s_runk tLinkC Z 1 rfl rfl ?_; clear Z a; intro a Z
  refine s_end Z [0, 1, 4] rfl ?_; clear Z; intro Z
  refine p_then (wp_ret ?_)
  refine p_blk_r ?_
  refine p_then_r ?_
  obtain rfl := some_in hF
  exact f_ret Z (run_results1 rfl Z rfl) ⟨rfl, I1, (H.sub [] rfl).eq rfl⟩
 ·replace hF := ite_f hc1 hF
  refine wp_seq (f_region Z ?_); clear Z; intro Z
  refine s_runk tLinkC Z 4 rfl rfl ?_; clear Z a; intro a Z
  refine s_end Z [0, 1, 4, 8] rfl ?_; clear Z; intro Z
  refine p_then ?_
  refine f_cond Z rfl (fun hc2 => ?_) (fun hc2 => ?_)
  ·replace hF := ite_t hc2 hF
   refine wp_seq (f_region Z ?_); clear Z; intro Z
   refine s_runk tLinkC Z 1 rfl rfl ?_; clear Z a; intro a Z
   refine s_end Z [0, 1, 4] rfl ?_; clear Z; intro Z
   refine p_then (wp_ret ?_)
   refine p_blk_r ?_
   refine p_then_r ?_
   obtain rfl := some_in hF
   exact f_ret Z (run_results1 rfl Z rfl) ⟨rfl, I1, (H.sub [] rfl).eq rfl⟩
  ·replace hF := ite_f hc2 hF
   refine wp_seq ?_
   cases hF

def F_link_Link_Out_nil (again : Bool) : Option (List ESeg) := (F_link_Link_none_nil).bind fun n0 => (if (n0) = true then (some ([] : List ESeg)) else (none))

set_option maxHeartbeats 1000000 in
theorem c_link_Link_Out_nil {I D : Dm} {again : Bool} {w : World} {rr : List ESeg} (hF : F_link_Link_Out_nil again = some rr) (H : St I D w []) :
  Calls Try.prog 13 #[.pointer none, .bool again] w (Ret fun vv w' => ∃ q1 : Value, vv = q1 ∧ ∃ I', Hf I D w I' w' [SlC NESeg q1 rr]) := by
 replace H := H.hf
 unfold F_link_Link_Out_nil at hF
 refine f_enterM 59 Try.func13 rfl rfl (Nat.le_of_ble_eq_true rfl) fun a Z => ?_
 replace Z := Z.sub (ts := [0, 1]) rfl
 refine wp_seq (f_region Z ?_); clear Z; intro Z
 refine s_runk tLinkC Z 1 rfl rfl ?_; clear Z a; intro a Z
 refine s_end Z [0, 1, 4] rfl ?_; clear Z; intro Z
 refine p_then (wp_seq ?_)
 refine wp_seq ?_
 obtain ⟨n0, hx1, hF⟩ := bnd_in hF
 refine f_region Z ?_; clear Z; intro Z
 refine s_runk tLinkC Z 1 rfl rfl ?_; clear Z a; intro a Z
 refine h_call Z H (js := []) rfl (caps := #[]) fn_29_YLinkC rfl rfl rfl rfl rfl (by decide) rfl rfl (fun D1 hS => have hq := c_link_Link_none_nil hx1 hS; hq) ?_; clear Z a; intro vv a w1 D2 hr hF2 Z
 obtain ⟨rfl, I1, K⟩ := hr
 have H : Hf I D w I1 w1 [] := hF2 K
 clear hF2 K
 refine s_end Z [0, 1, 4, 9] rfl ?_; clear Z; intro Z
 refine p_then ?_
 refine f_cond Z rfl (fun hc1 => ?_) (fun hc1 => ?_)
 ·replace hF := ite_t hc1 hF
  refine wp_seq (f_region Z ?_); clear Z; intro Z
  refine s_runk tLinkC Z 1 rfl rfl ?_; clear Z a; intro a Z
  refine s_end Z [0, 1, 4] rfl ?_; clear Z; intro Z
  refine p_then (wp_ret ?_)
  refine p_then_r ?_
  replace H : Hf I D w I1 w1 [SlC NESeg (.slice none 0 0) ([] : List ESeg)] := H.slNil NESeg
  obtain rfl := some_in hF
  exact f_retM0 Z (run_results1 rfl Z rfl) ⟨.slice none 0 0, rfl, I1, (H.sub [(0, true)] rfl).eq rfl⟩
 ·replace hF := ite_f hc1 hF
  refine wp_skip ?_
  refine p_then (wp_seq ?_)
  cases hF

def F_link_Link_In_nil (s0 : ESeg) : Option ((List ByteArray) × Int) := (F_link_Link_none_nil).bind fun n0 => (if (n0) = true then (some (([] : List ByteArray), 8)) else ((F_link_may s0).bind fun m => (if (!m) = true then (some (([] : List ByteArray), 1)) else (none))))

set_option maxHeartbeats 1000000 in
theorem c_link_Link_In_nil {I D : Dm} {s0 : ESeg} {w : World} {rr : (List ByteArray) × Int} (hF : F_link_Link_In_nil s0 = some rr) (H : St I D w []) :
  Calls Try.prog 15 #[.pointer none, .agg #[.int .i64 s0.boot, .int .i64 s0.stream, .int .i64 s0.seq, .int .i64 s0.ackBoot, .int .i64 s0.ackStream, .int .i64 s0.ackSeq, .bool s0.has, .string s0.body]] w (Ret fun vv w' => ∃ q1 : Value, vv = .tuple #[q1, .int .i64 rr.2] ∧ ∃ I', Hf I D w I' w' [SlC NS q1 rr.1]) := by
 replace H := H.hf
 unfold F_link_Link_In_nil at hF
 refine f_enter 89 Try.func15 rfl rfl (Nat.le_of_ble_eq_true rfl) fun a Z => ?_
 replace Z := Z.sub (ts := [0, 1]) rfl
 refine wp_seq (f_region Z ?_); clear Z; intro Z
 refine h_boxv Z H (cl := [.int .i64 s0.boot, .int .i64 s0.stream, .int .i64 s0.seq, .int .i64 s0.ackBoot, .int .i64 s0.ackStream, .int .i64 s0.ackSeq, .bool s0.has, .string s0.body]) rfl rfl rfl (by decide) rfl rfl rfl ?_; clear Z a H; intro a w1 b1 H Z
 refine s_runk tLinkC Z 2 rfl rfl ?_; clear Z a; intro a Z
 refine s_end Z [0, 3, 4, 5] rfl ?_; clear Z; intro Z
 refine p_then (wp_seq ?_)
 refine wp_block ?_
 refine wp_seq ?_
 obtain ⟨n0, hx1, hF⟩ := bnd_in hF
 refine f_region Z ?_; clear Z; intro Z
 refine s_runk tLinkC Z 1 rfl rfl ?_; clear Z a; intro a Z
 refine h_call Z H (js := []) rfl (caps := #[]) fn_29_YLinkC rfl rfl rfl rfl rfl (by decide) rfl rfl (fun D1 hS => have hq := c_link_Link_none_nil hx1 hS; hq) ?_; clear Z a; intro vv a w2 D2 hr hF2 Z
 obtain ⟨rfl, I1, K⟩ := hr
 have H : Hf I D w I1 w2 [BxC b1 31 (cESeg s0)] := hF2 K
 clear hF2 K
 refine s_runk tLinkC Z 1 rfl rfl ?_; clear Z a; intro a Z
 refine s_end Z [0, 3, 4, 5, 7] rfl ?_; clear Z; intro Z
 refine p_then ?_
 refine f_cond Z rfl (fun hc1 => ?_) (fun hc1 => ?_)
 ·replace hF := ite_t hc1 hF
  refine wp_seq (f_region Z ?_); clear Z; intro Z
  refine s_runk tLinkC Z 2 rfl rfl ?_; clear Z a; intro a Z
  refine s_end Z [0, 3, 4, 5] rfl ?_; clear Z; intro Z
  refine p_then (wp_ret ?_)
  refine p_blk_r ?_
  refine p_then_r ?_
  replace H : Hf I D w I1 w2 [SlC NS (.slice none 0 0) ([] : List ByteArray), BxC b1 31 (cESeg s0)] := H.slNil NS
  obtain rfl := some_in hF
  exact f_ret Z (run_results2 rfl Z rfl rfl) ⟨.slice none 0 0, rfl, I1, (H.sub [(0, true)] rfl).eq rfl⟩
 ·replace hF := ite_f hc1 hF
  refine wp_seq ?_
  obtain ⟨m, hx2, hF⟩ := bnd_in hF
  refine f_region Z ?_; clear Z; intro Z
  refine s_ob Z (v := .agg #[.int .i64 s0.boot, .int .i64 s0.stream, .int .i64 s0.seq, .int .i64 s0.ackBoot, .int .i64 s0.ackStream, .int .i64 s0.ackSeq, .bool s0.has, .string s0.body]) rfl rfl (by decide) rfl (Ob_loads tLinkC rfl rfl rfl ((H.bx 0 rfl).part 0 rfl)) ?_; clear Z a; intro a Z
  refine h_call Z H (js := []) rfl (caps := #[]) fn_32_YLinkC rfl rfl rfl rfl rfl (by decide) rfl rfl (fun D1 hS => have hq := c_link_may hx2 hS; hq) ?_; clear Z a; intro vv a w3 D2 hr hF2 Z
  obtain ⟨rfl, I2, K⟩ := hr
  have H : Hf I D w I2 w3 [BxC b1 31 (cESeg s0)] := hF2 K
  clear hF2 K
  refine s_runk tLinkC Z 2 rfl rfl ?_; clear Z a; intro a Z
  refine s_end Z [0, 3, 4, 5, 10] rfl ?_; clear Z; intro Z
  refine p_then ?_
  refine f_cond Z rfl (fun hc2 => ?_) (fun hc2 => ?_)
  ·replace hF := ite_t hc2 hF
   refine wp_seq (f_region Z ?_); clear Z; intro Z
   refine s_runk tLinkC Z 2 rfl rfl ?_; clear Z a; intro a Z
   refine s_end Z [0, 3, 4, 5] rfl ?_; clear Z; intro Z
   refine p_then (wp_ret ?_)
   refine p_blk_r ?_
   refine p_then_r ?_
   replace H : Hf I D w I2 w3 [SlC NS (.slice none 0 0) ([] : List ByteArray), BxC b1 31 (cESeg s0)] := H.slNil NS
   obtain rfl := some_in hF
   exact f_ret Z (run_results2 rfl Z rfl rfl) ⟨.slice none 0 0, rfl, I2, (H.sub [(0, true)] rfl).eq rfl⟩
  ·replace hF := ite_f hc2 hF
   refine wp_seq ?_
   cases hF

def F_link_Link_Waiting_nil : Option Int := (F_link_Link_none_nil).bind fun n0 => (if (n0) = true then (some 0) else (none))

set_option maxHeartbeats 1000000 in
theorem c_link_Link_Waiting_nil {I D : Dm} {w : World} {rr : Int} (hF : F_link_Link_Waiting_nil = some rr) (H : St I D w []) :
  Calls Try.prog 18 #[.pointer none] w (Ret fun vv w' => vv = .int .i64 rr ∧ ∃ I', Hf I D w I' w' []) := by
 replace H := H.hf
 unfold F_link_Link_Waiting_nil at hF
 refine f_enter 11 Try.func18 rfl rfl (Nat.le_of_ble_eq_true rfl) fun a Z => ?_
 replace Z := Z.sub (ts := [0]) rfl
 refine wp_seq (f_region Z ?_); clear Z; intro Z
 refine s_runk tLinkC Z 1 rfl rfl ?_; clear Z a; intro a Z
 refine s_end Z [0, 2] rfl ?_; clear Z; intro Z
 refine p_then (wp_seq ?_)
 refine wp_seq ?_
 obtain ⟨n0, hx1, hF⟩ := bnd_in hF
 refine f_region Z ?_; clear Z; intro Z
 refine s_runk tLinkC Z 1 rfl rfl ?_; clear Z a; intro a Z
 refine h_call Z H (js := []) rfl (caps := #[]) fn_29_YLinkC rfl rfl rfl rfl rfl (by decide) rfl rfl (fun D1 hS => have hq := c_link_Link_none_nil hx1 hS; hq) ?_; clear Z a; intro vv a w1 D2 hr hF2 Z
 obtain ⟨rfl, I1, K⟩ := hr
 have H : Hf I D w I1 w1 [] := hF2 K
 clear hF2 K
 refine s_end Z [0, 2, 4] rfl ?_; clear Z; intro Z
 refine p_then ?_
 refine f_cond Z rfl (fun hc1 => ?_) (fun hc1 => ?_)
 ·replace hF := ite_t hc1 hF
  refine wp_seq (f_region Z ?_); clear Z; intro Z
  refine s_runk tLinkC Z 1 rfl rfl ?_; clear Z a; intro a Z
  refine s_end Z [0, 2] rfl ?_; clear Z; intro Z
  refine p_then (wp_ret ?_)
  refine p_then_r ?_
  obtain rfl := some_in hF
  exact f_ret Z (run_results1 rfl Z rfl) ⟨rfl, I1, (H.sub [] rfl).eq rfl⟩
 ·replace hF := ite_f hc1 hF
  refine wp_skip ?_
  refine p_then (wp_seq ?_)
  cases hF

def F_link_Link_Knows_nil : Option Int := (F_link_Link_none_nil).bind fun n0 => (if (n0) = true then (some 0) else (none))

set_option maxHeartbeats 1000000 in
theorem c_link_Link_Knows_nil {I D : Dm} {w : World} {rr : Int} (hF : F_link_Link_Knows_nil = some rr) (H : St I D w []) :
  Calls Try.prog 19 #[.pointer none] w (Ret fun vv w' => vv = .int .i64 rr ∧ ∃ I', Hf I D w I' w' []) := by
 replace H := H.hf
 unfold F_link_Link_Knows_nil at hF
 refine f_enter 10 Try.func19 rfl rfl (Nat.le_of_ble_eq_true rfl) fun a Z => ?_
 replace Z := Z.sub (ts := [0]) rfl
 refine wp_seq (f_region Z ?_); clear Z; intro Z
 refine s_runk tLinkC Z 1 rfl rfl ?_; clear Z a; intro a Z
 refine s_end Z [0, 2] rfl ?_; clear Z; intro Z
 refine p_then (wp_seq ?_)
 refine wp_seq ?_
 obtain ⟨n0, hx1, hF⟩ := bnd_in hF
 refine f_region Z ?_; clear Z; intro Z
 refine s_runk tLinkC Z 1 rfl rfl ?_; clear Z a; intro a Z
 refine h_call Z H (js := []) rfl (caps := #[]) fn_29_YLinkC rfl rfl rfl rfl rfl (by decide) rfl rfl (fun D1 hS => have hq := c_link_Link_none_nil hx1 hS; hq) ?_; clear Z a; intro vv a w1 D2 hr hF2 Z
 obtain ⟨rfl, I1, K⟩ := hr
 have H : Hf I D w I1 w1 [] := hF2 K
 clear hF2 K
 refine s_end Z [0, 2, 4] rfl ?_; clear Z; intro Z
 refine p_then ?_
 refine f_cond Z rfl (fun hc1 => ?_) (fun hc1 => ?_)
 ·replace hF := ite_t hc1 hF
  refine wp_seq (f_region Z ?_); clear Z; intro Z
  refine s_runk tLinkC Z 1 rfl rfl ?_; clear Z a; intro a Z
  refine s_end Z [0, 2] rfl ?_; clear Z; intro Z
  refine p_then (wp_ret ?_)
  refine p_then_r ?_
  obtain rfl := some_in hF
  exact f_ret Z (run_results1 rfl Z rfl) ⟨rfl, I1, (H.sub [] rfl).eq rfl⟩
 ·replace hF := ite_f hc1 hF
  refine wp_skip ?_
  refine p_then (wp_seq ?_)
  cases hF

def F_law22_awake_l3 (k : Int) (rc_2 : (ByteArray × Int) → Option Bool) (n0_5 : (List ByteArray) × Int) (rc_3 : (ByteArray × Int) → Option Bool) (sg : ByteArray × Int) : Option Bool := match sg with | (got_3, j) => if ((decide (j < (n0_5.1.length : Int))) && (decide (j < 9))) = true then (chk ((0 : Int) ≤ j ∧ j < (n0_5.1.length : Int)) (chk (got_3.size + (n0_5.1.getD (j).toNat default).size ≤ maxLen) (chk (inI (j + 1)) (rc_3 (got_3 ++ (n0_5.1.getD (j).toNat default), j + 1))))) else (chk (inI (k + 1)) (rc_2 (got_3, k + 1)))

def F_law22_awake_l4 (i : Int) (rc : (ByteArray × Int) → Option Bool) (got_2 : ByteArray) (n0_6 : List ESeg) (rc_4 : Int → Option Bool) (sg : Int) : Option Bool := match sg with | k_2 => if ((decide (k_2 < (n0_6.length : Int))) && (decide (k_2 < 9))) = true then (chk ((0 : Int) ≤ k_2 ∧ k_2 < (n0_6.length : Int)) ((F_link_Link_In_nil (n0_6.getD (k_2).toNat default)).bind fun n0_7 => (chk (inI (k_2 + 1)) (rc_4 (k_2 + 1))))) else (chk (inI (i + 1)) (rc (got_2, i + 1)))

def F_law22_awake_l2 (i : Int) (rc : (ByteArray × Int) → Option Bool) (n0_4 : List ESeg) (rc_2 : (ByteArray × Int) → Option Bool) (sg : ByteArray × Int) : Option Bool := match sg with | (got_2, k) => if ((decide (k < (n0_4.length : Int))) && (decide (k < 9))) = true then (chk ((0 : Int) ≤ k ∧ k < (n0_4.length : Int)) ((F_link_Link_In_nil (n0_4.getD (k).toNat default)).bind fun n0_5 => (iter (F_law22_awake_l3 k rc_2 n0_5) FU (got_2, 0)))) else ((F_link_Link_Out_nil true).bind fun n0_6 => (iter (F_law22_awake_l4 i rc got_2 n0_6) FU 0))

def F_law22_awake_l1 (rc : (ByteArray × Int) → Option Bool) (sg : ByteArray × Int) : Option Bool := match sg with | (got, i) => if (decide (i < 4)) = true then ((F_link_Link_Out_nil true).bind fun n0_4 => (iter (F_law22_awake_l2 i rc n0_4) FU (got, 0))) else ((gif (seqB got ⟨#[120]⟩) (F_link_Link_Waiting_nil) default).bind fun n0_8 => ((gif ((seqB got ⟨#[120]⟩) && (n0_8 == 0)) (F_link_Link_Knows_nil) default).bind fun n0_9 => (some (((seqB got ⟨#[120]⟩) && (n0_8 == 0)) && (n0_9 == 1)))))

def F_law22_awake_l7 (k_3 : Int) (rc_6 : (ByteArray × Int × Elink_Link) → Option Bool) (i_3 : (List ByteArray) × Int × Elink_Link) (rc_7 : (ByteArray × Int) → Option Bool) (sg : ByteArray × Int) : Option Bool := match sg with | (got_6, j_2) => if ((decide (j_2 < (i_3.1.length : Int))) && (decide (j_2 < 9))) = true then (chk ((0 : Int) ≤ j_2 ∧ j_2 < (i_3.1.length : Int)) (chk (got_6.size + (i_3.1.getD (j_2).toNat default).size ≤ maxLen) (chk (inI (j_2 + 1)) (rc_7 (got_6 ++ (i_3.1.getD (j_2).toNat default), j_2 + 1))))) else (chk (inI (k_3 + 1)) (rc_6 (got_6, k_3 + 1, i_3.2.2)))

def F_law22_awake_l8 (i_2 : Int) (rc_5 : (ByteArray × Int × Elink_Link) → Option Bool) (got_5 : ByteArray) (o : (List ESeg) × Elink_Link) (rc_8 : Int → Option Bool) (sg : Int) : Option Bool := match sg with | k_4 => if ((decide (k_4 < (o.1.length : Int))) && (decide (k_4 < 9))) = true then (chk ((0 : Int) ≤ k_4 ∧ k_4 < (o.1.length : Int)) ((F_link_Link_In_nil (o.1.getD (k_4).toNat default)).bind fun n0_12 => (chk (inI (k_4 + 1)) (rc_8 (k_4 + 1))))) else (chk (inI (i_2 + 1)) (rc_5 (got_5, i_2 + 1, o.2)))

def F_law22_awake_l6 (i_2 : Int) (rc_5 : (ByteArray × Int × Elink_Link) → Option Bool) (n0_11 : List ESeg) (rc_6 : (ByteArray × Int × Elink_Link) → Option Bool) (sg : ByteArray × Int × Elink_Link) : Option Bool := match sg with | (got_5, k_3, b_2) => if ((decide (k_3 < (n0_11.length : Int))) && (decide (k_3 < 9))) = true then (chk ((0 : Int) ≤ k_3 ∧ k_3 < (n0_11.length : Int)) ((F_link_Link_In b_2 (n0_11.getD (k_3).toNat default)).bind fun i_3 => (iter (F_law22_awake_l7 k_3 rc_6 i_3) FU (got_5, 0)))) else ((F_link_Link_Out b_2 true).bind fun o => (iter (F_law22_awake_l8 i_2 rc_5 got_5 o) FU 0))

def F_law22_awake_l5 (rc_5 : (ByteArray × Int × Elink_Link) → Option Bool) (sg : ByteArray × Int × Elink_Link) : Option Bool := match sg with | (got_4, i_2, b) => if (decide (i_2 < 4)) = true then ((F_link_Link_Out_nil true).bind fun n0_11 => (iter (F_law22_awake_l6 i_2 rc_5 n0_11) FU (got_4, 0, b))) else ((gif (seqB got_4 ⟨#[120]⟩) (F_link_Link_Waiting_nil) default).bind fun n0_13 => ((gif ((seqB got_4 ⟨#[120]⟩) && (n0_13 == 0)) (F_link_Link_Knows_nil) default).bind fun n0_14 => (some (((seqB got_4 ⟨#[120]⟩) && (n0_13 == 0)) && (n0_14 == 1)))))

def F_law22_awake_l11 (k_5 : Int) (rc_10 : (ByteArray × Int) → Option Bool) (n0_16 : (List ByteArray) × Int) (rc_11 : (ByteArray × Int) → Option Bool) (sg : ByteArray × Int) : Option Bool := match sg with | (got_9, j_3) => if ((decide (j_3 < (n0_16.1.length : Int))) && (decide (j_3 < 9))) = true then (chk ((0 : Int) ≤ j_3 ∧ j_3 < (n0_16.1.length : Int)) (chk (got_9.size + (n0_16.1.getD (j_3).toNat default).size ≤ maxLen) (chk (inI (j_3 + 1)) (rc_11 (got_9 ++ (n0_16.1.getD (j_3).toNat default), j_3 + 1))))) else (chk (inI (k_5 + 1)) (rc_10 (got_9, k_5 + 1)))

def F_law22_awake_l12 (i_4 : Int) (rc_9 : (ByteArray × Int × Elink_Link) → Option Bool) (got_8 : ByteArray) (n0_17 : List ESeg) (rc_12 : (Int × Elink_Link) → Option Bool) (sg : Int × Elink_Link) : Option Bool := match sg with | (k_6, a0_2) => if ((decide (k_6 < (n0_17.length : Int))) && (decide (k_6 < 9))) = true then (chk ((0 : Int) ≤ k_6 ∧ k_6 < (n0_17.length : Int)) ((F_link_Link_In a0_2 (n0_17.getD (k_6).toNat default)).bind fun i_5 => (chk (inI (k_6 + 1)) (rc_12 (k_6 + 1, i_5.2.2))))) else (chk (inI (i_4 + 1)) (rc_9 (got_8, i_4 + 1, a0_2)))

def F_law22_awake_l10 (i_4 : Int) (rc_9 : (ByteArray × Int × Elink_Link) → Option Bool) (o_2 : (List ESeg) × Elink_Link) (rc_10 : (ByteArray × Int) → Option Bool) (sg : ByteArray × Int) : Option Bool := match sg with | (got_8, k_5) => if ((decide (k_5 < (o_2.1.length : Int))) && (decide (k_5 < 9))) = true then (chk ((0 : Int) ≤ k_5 ∧ k_5 < (o_2.1.length : Int)) ((F_link_Link_In_nil (o_2.1.getD (k_5).toNat default)).bind fun n0_16 => (iter (F_law22_awake_l11 k_5 rc_10 n0_16) FU (got_8, 0)))) else ((F_link_Link_Out_nil true).bind fun n0_17 => (iter (F_law22_awake_l12 i_4 rc_9 got_8 n0_17) FU (0, o_2.2)))

def F_law22_awake_l9 (rc_9 : (ByteArray × Int × Elink_Link) → Option Bool) (sg : ByteArray × Int × Elink_Link) : Option Bool := match sg with | (got_7, i_4, a0) => if (decide (i_4 < 4)) = true then ((F_link_Link_Out a0 true).bind fun o_2 => (iter (F_law22_awake_l10 i_4 rc_9 o_2) FU (got_7, 0))) else ((gif (seqB got_7 ⟨#[120]⟩) (F_link_Link_Waiting a0) default).bind fun w0 => ((gif ((seqB got_7 ⟨#[120]⟩) && (w0 == 0)) (F_link_Link_Knows a0) default).bind fun k_7 => (some (((seqB got_7 ⟨#[120]⟩) && (w0 == 0)) && (k_7 == 1)))))

def F_law22_awake_l15 (k_8 : Int) (rc_14 : (ByteArray × Int × Elink_Link) → Option Bool) (i_7 : (List ByteArray) × Int × Elink_Link) (rc_15 : (ByteArray × Int) → Option Bool) (sg : ByteArray × Int) : Option Bool := match sg with | (got_12, j_4) => if ((decide (j_4 < (i_7.1.length : Int))) && (decide (j_4 < 9))) = true then (chk ((0 : Int) ≤ j_4 ∧ j_4 < (i_7.1.length : Int)) (chk (got_12.size + (i_7.1.getD (j_4).toNat default).size ≤ maxLen) (chk (inI (j_4 + 1)) (rc_15 (got_12 ++ (i_7.1.getD (j_4).toNat default), j_4 + 1))))) else (chk (inI (k_8 + 1)) (rc_14 (got_12, k_8 + 1, i_7.2.2)))

def F_law22_awake_l16 (i_6 : Int) (rc_13 : (ByteArray × Int × Elink_Link × Elink_Link) → Option Bool) (got_11 : ByteArray) (o_4 : (List ESeg) × Elink_Link) (rc_16 : (Int × Elink_Link) → Option Bool) (sg : Int × Elink_Link) : Option Bool := match sg with | (k_9, a0_4) => if ((decide (k_9 < (o_4.1.length : Int))) && (decide (k_9 < 9))) = true then (chk ((0 : Int) ≤ k_9 ∧ k_9 < (o_4.1.length : Int)) ((F_link_Link_In a0_4 (o_4.1.getD (k_9).toNat default)).bind fun i_8 => (chk (inI (k_9 + 1)) (rc_16 (k_9 + 1, i_8.2.2))))) else (chk (inI (i_6 + 1)) (rc_13 (got_11, i_6 + 1, a0_4, o_4.2)))

def F_law22_awake_l14 (i_6 : Int) (rc_13 : (ByteArray × Int × Elink_Link × Elink_Link) → Option Bool) (o_3 : (List ESeg) × Elink_Link) (rc_14 : (ByteArray × Int × Elink_Link) → Option Bool) (sg : ByteArray × Int × Elink_Link) : Option Bool := match sg with | (got_11, k_8, b_4) => if ((decide (k_8 < (o_3.1.length : Int))) && (decide (k_8 < 9))) = true then (chk ((0 : Int) ≤ k_8 ∧ k_8 < (o_3.1.length : Int)) ((F_link_Link_In b_4 (o_3.1.getD (k_8).toNat default)).bind fun i_7 => (iter (F_law22_awake_l15 k_8 rc_14 i_7) FU (got_11, 0)))) else ((F_link_Link_Out b_4 true).bind fun o_4 => (iter (F_law22_awake_l16 i_6 rc_13 got_11 o_4) FU (0, o_3.2)))

def F_law22_awake_l13 (rc_13 : (ByteArray × Int × Elink_Link × Elink_Link) → Option Bool) (sg : ByteArray × Int × Elink_Link × Elink_Link) : Option Bool := match sg with | (got_10, i_6, a0_3, b_3) => if (decide (i_6 < 4)) = true then ((F_link_Link_Out a0_3 true).bind fun o_3 => (iter (F_law22_awake_l14 i_6 rc_13 o_3) FU (got_10, 0, b_3))) else ((gif (seqB got_10 ⟨#[120]⟩) (F_link_Link_Waiting a0_3) default).bind fun w0_2 => ((gif ((seqB got_10 ⟨#[120]⟩) && (w0_2 == 0)) (F_link_Link_Knows a0_3) default).bind fun k_10 => (some (((seqB got_10 ⟨#[120]⟩) && (w0_2 == 0)) && (k_10 == 1)))))

def F_law22_awake : Option Bool := (F_link_New 1).bind fun n0 => (optE n0.1 ((F_link_New 1).bind fun n0_2 => (optE n0_2.1 ((F_link_Link_Send_nil ⟨#[120]⟩).bind fun n0_3 => (iter (F_law22_awake_l1) FU (⟨#[]⟩, 0))) (fun x_2 => (F_link_Link_Send_nil ⟨#[120]⟩).bind fun n0_10 => (iter (F_law22_awake_l5) FU (⟨#[]⟩, 0, x_2))))) (fun x => (F_link_New 1).bind fun n0_15 => (optE n0_15.1 ((F_link_Link_Send x ⟨#[120]⟩).bind fun s0 => (iter (F_law22_awake_l9) FU (⟨#[]⟩, 0, s0.2))) (fun x_3 => (F_link_Link_Send x ⟨#[120]⟩).bind fun s0_2 => (iter (F_law22_awake_l13) FU (⟨#[]⟩, 0, s0_2.2, x_3))))))

set_option maxHeartbeats 1000000 in
theorem c_law22_awake {I D : Dm} {w : World} {rr : Bool} (hF : F_law22_awake = some rr) (H : St I D w []) :
  Calls Try.prog 20 #[] w (Ret fun vv w' => vv = .bool rr ∧ ∃ I', Hf I D w I' w' []) := by
 replace H := H.hf
 unfold F_law22_awake at hF
 refine f_enter 94 Try.func20 rfl rfl (Nat.le_of_ble_eq_true rfl) fun a Z => ?_
 replace Z := Z.sub (ts := []) rfl
 refine wp_seq (f_region Z ?_); clear Z; intro Z
 refine s_runk tLinkC Z 1 rfl rfl ?_; clear Z a; intro a Z
 refine s_end Z [0] rfl ?_; clear Z; intro Z
 refine p_then (wp_seq ?_)
 obtain ⟨n0, hx1, hF⟩ := bnd_in hF
 refine f_region Z ?_; clear Z; intro Z
 refine h_call Z H (js := []) rfl (caps := #[]) fn_8_YLinkC rfl rfl rfl rfl rfl (by decide) rfl rfl (fun D1 hS => have hq := c_link_New hx1 hS; hq) ?_; clear Z a; intro vv a w1 D2 hr hF2 Z
 obtain ⟨q1, rfl, I1, K⟩ := hr
 have H : Hf I D w I1 w1 [PtC OElink_Link q1 n0.1] := hF2 K
 clear hF2 K
 refine s_runk tLinkC Z 5 rfl rfl ?_; clear Z a; intro a Z
 refine s_end Z [0, 1] rfl ?_; clear Z; intro Z
 rcases optE_in hF with ⟨ho1, hF⟩ | ⟨x, ho1, hF⟩
 ·obtain ⟨hv, H⟩ := H.optN 0 rfl ho1
  subst hv
  replace H : Hf I D w I1 w1 [] := H
  refine p_then (wp_seq ?_)
  obtain ⟨n0_2, hx2, hF⟩ := bnd_in hF
  refine f_region Z ?_; clear Z; intro Z
  refine h_call Z H (js := []) rfl (caps := #[]) fn_8_YLinkC rfl rfl rfl rfl rfl (by decide) rfl rfl (fun D1 hS => have hq := c_link_New hx2 hS; hq) ?_; clear Z a; intro vv a w2 D2 hr hF2 Z
  obtain ⟨q2, rfl, I2, K⟩ := hr
  have H : Hf I D w I2 w2 [PtC OElink_Link q2 n0_2.1] := hF2 K
  clear hF2 K
  refine s_runk tLinkC Z 5 rfl rfl ?_; clear Z a; intro a Z
  refine s_end Z [0, 1, 3] rfl ?_; clear Z; intro Z
  rcases optE_in hF with ⟨ho2, hF⟩ | ⟨x_2, ho2, hF⟩
  ·obtain ⟨hv, H⟩ := H.optN 0 rfl ho2
   subst hv
   replace H : Hf I D w I2 w2 [] := H
   refine p_then (wp_seq ?_)
   obtain ⟨n0_3, hx3, hF⟩ := bnd_in hF
   refine f_region Z ?_; clear Z; intro Z
   refine s_runk tLinkC Z 1 rfl rfl ?_; clear Z a; intro a Z
   refine h_call Z H (js := []) rfl (caps := #[]) fn_10_YLinkC rfl rfl rfl rfl rfl (by decide) rfl rfl (fun D1 hS => have hq := c_link_Link_Send_nil hx3 hS; hq) ?_; clear Z a; intro vv a w3 D2 hr hF2 Z
   obtain ⟨rfl, I3, K⟩ := hr
   have H : Hf I D w I3 w3 [] := hF2 K
   clear hF2 K
   refine s_end Z [0, 1, 3] rfl ?_; clear Z; intro Z
   refine p_then (wp_seq (f_region Z ?_)); clear Z; intro Z
   refine s_runk tLinkC Z 1 rfl rfl ?_; clear Z a; intro a Z
   refine s_end Z [0, 1, 3, 5] rfl ?_; clear Z; intro Z
   refine p_then (wp_seq ?_)
   refine wp_seq (f_region Z ?_); clear Z; intro Z
   refine s_runk tLinkC Z 1 rfl rfl ?_; clear Z a; intro a Z
   refine s_end Z [0, 1, 3, 5, 6] rfl ?_; clear Z; intro Z
   refine p_then (wp_block ?_)
   refine f_iter hF (fun sg a' w' => match sg with | (got, i) => Sl 94 [(0, .bool false), (1, .pointer none), (3, .pointer none), (5, .string got), (6, .int .i64 i)] a' ∧ ∃ I2, Hf I D w I2 w' []) ⟨Z.sub (ts := [0, 1, 3, 5, 6]) rfl, ⟨I3, (H.sub [] rfl).eq rfl⟩⟩ ?_
   clear Z H hF a
   rintro rc ⟨got, i⟩ a w4 ⟨Z, I4, H⟩ hF
   unfold F_law22_awake_l1 at hF
   try dsimp only at hF
   refine wp_seq ?_
   refine wp_seq (f_region Z ?_); clear Z; intro Z
   refine s_runk tLinkC Z 2 rfl rfl ?_; clear Z a; intro a Z
   refine s_end Z [0, 1, 3, 5, 6, 23, 24] rfl ?_; clear Z; intro Z
   refine p_then ?_
   refine f_cond Z rfl (fun hc1 => ?_) (fun hc1 => ?_)
   ·replace hF := ite_t hc1 hF
    refine wp_skip ?_
    refine p_then (wp_seq ?_)
    refine wp_block ?_
    refine wp_seq ?_
    obtain ⟨n0_4, hx4, hF⟩ := bnd_in hF
    refine f_region Z ?_; clear Z; intro Z
    refine s_runk tLinkC Z 1 rfl rfl ?_; clear Z a; intro a Z
    refine h_call Z H (js := []) rfl (caps := #[]) fn_13_YLinkC rfl rfl rfl rfl rfl (by decide) rfl rfl (fun D1 hS => have hq := c_link_Link_Out_nil hx4 hS; hq) ?_; clear Z a; intro vv a w5 D2 hr hF2 Z
    obtain ⟨q3, hvv, I5, K⟩ := hr; obtain rfl := hvv.symm
    have H : Hf I D w I5 w5 [SlC NESeg q3 n0_4] := hF2 K
    clear hF2 K
    refine s_runk tLinkC Z 1 rfl rfl ?_; clear Z a; intro a Z
    refine s_end Z [0, 1, 3, 5, 6, 23, 24, 27, 28, 7] rfl ?_; clear Z; intro Z
    refine p_then (wp_seq ?_)
    refine wp_seq (f_region Z ?_); clear Z; intro Z
    refine s_runk tLinkC Z 1 rfl rfl ?_; clear Z a; intro a Z
    refine s_end Z [0, 1, 3, 5, 6, 23, 24, 27, 28, 7, 8] rfl ?_; clear Z; intro Z
    refine p_then (wp_block ?_)
    refine f_iter hF (fun sg a' w' => match sg with | (got_2, k) => Sl 94 [(0, .bool false), (1, .pointer none), (3, .pointer none), (5, .string got_2), (6, .int .i64 i), (7, q3), (8, .int .i64 k), (23, .int .i64 i), (24, .bool (decide (i < 4))), (27, .pointer none), (28, q3)] a' ∧ ∃ I2, Hf I D w I2 w' [SlC NESeg q3 n0_4]) ⟨Z.sub (ts := [0, 1, 3, 5, 6, 7, 8, 23, 24, 27, 28]) rfl, ⟨I5, (H.sub [(0, true)] rfl).eq rfl⟩⟩ ?_
    clear Z H hF a
    rintro rc_2 ⟨got_2, k⟩ a w6 ⟨Z, I6, H⟩ hF
    unfold F_law22_awake_l2 at hF
    try dsimp only at hF
    refine wp_seq ?_
    refine wp_seq (f_region Z ?_); clear Z; intro Z
    refine s_runk tLinkC Z 2 rfl rfl ?_; clear Z a; intro a Z
    refine s_ob Z (v := .int .i64 (n0_4.length : Int)) rfl rfl (by decide) rfl (Ob_slen tLinkC rfl rfl rfl (H.slshape 0 rfl)) ?_; clear Z a; intro a Z
    refine s_runk tLinkC Z 2 rfl rfl ?_; clear Z a; intro a Z
    refine g_ob Z (p := (decide (k < (n0_4.length : Int)))) (v := .int .i64 k) (S' := [(8, .int .i64 k)]) rfl rfl rfl (wantB_t _) rfl (by decide) (fun hp hS => hS.sub (ts := [8]) rfl) (fun hp => Ob_c tLinkC rfl) ?_; clear Z a; intro a Z
    refine g_ob Z (p := (decide (k < (n0_4.length : Int)))) (v := .bool (decide (k < 9))) (S' := [(34, .int .i64 k)]) rfl rfl rfl (wantB_t _) rfl (by decide) (fun hp hS => (hS.conv (t := 34) rfl (cond_t hp)).sub (ts := [34]) rfl) (fun hp => Ob_c tLinkC rfl) ?_; clear Z a; intro a Z
    refine s_ob Z (v := .bool ((decide (k < (n0_4.length : Int))) && (decide (k < 9)))) rfl rfl (by decide) rfl (Ob_pick rfl rfl rfl rfl (pick_and _ _)) ?_; clear Z a; intro a Z
    refine s_end Z [0, 1, 3, 5, 6, 7, 8, 23, 24, 27, 28, 29, 30, 31, 32, 33, 36] rfl ?_; clear Z; intro Z
    refine p_then ?_
    refine f_cond Z rfl (fun hc2 => ?_) (fun hc2 => ?_)
    ·replace hF := ite_t hc2 hF
     refine wp_skip ?_
     refine p_then (wp_seq ?_)
     refine wp_block ?_
     refine wp_seq ?_
     obtain ⟨hg1, hF⟩ := chk_in hF
     obtain ⟨n0_5, hx5, hF⟩ := bnd_in hF
     refine f_region Z ?_; clear Z; intro Z
     refine s_runk tLinkC Z 3 rfl rfl ?_; clear Z a; intro a Z
     refine s_ob Z (v := .pointer (some ⟨blkOf q3, oofOf q3 + (k).toNat * 8, none⟩)) rfl rfl (by decide) rfl (Ob_sidx tLinkC rfl rfl rfl rfl (slPl (H.sl 0 rfl) hg1) hg1) ?_; clear Z a; intro a Z
     refine s_ob Z (v := .agg #[.int .i64 ((n0_4.getD (k).toNat default).boot), .int .i64 ((n0_4.getD (k).toNat default).stream), .int .i64 ((n0_4.getD (k).toNat default).seq), .int .i64 ((n0_4.getD (k).toNat default).ackBoot), .int .i64 ((n0_4.getD (k).toNat default).ackStream), .int .i64 ((n0_4.getD (k).toNat default).ackSeq), .bool ((n0_4.getD (k).toNat default).has), .string ((n0_4.getD (k).toNat default).body)]) rfl rfl (by decide) rfl (Ob_loads tLinkC rfl rfl rfl ((slFl (H.sl 0 rfl) hg1).part 0 rfl)) ?_; clear Z a; intro a Z
     refine h_call Z H (js := []) rfl (caps := #[]) fn_15_YLinkC rfl rfl rfl rfl rfl (by decide) rfl rfl (fun D1 hS => have hq := c_link_Link_In_nil hx5 hS; hq) ?_; clear Z a; intro vv a w7 D2 hr hF2 Z
     obtain ⟨q4, rfl, I7, K⟩ := hr
     have H : Hf I D w I7 w7 [SlC NS q4 n0_5.1, SlC NESeg q3 n0_4] := hF2 K
     clear hF2 K
     refine s_runk tLinkC Z 5 rfl rfl ?_; clear Z a; intro a Z
     refine s_end Z [0, 1, 3, 5, 6, 7, 8, 23, 24, 27, 28, 29, 30, 31, 32, 33, 36, 40, 41, 42, 43, 44, 45, 39, 46, 47, 9] rfl ?_; clear Z; intro Z
     refine p_then (wp_seq (f_region Z ?_)); clear Z; intro Z
     refine s_runk tLinkC Z 1 rfl rfl ?_; clear Z a; intro a Z
     refine s_end Z [0, 1, 3, 5, 6, 7, 8, 23, 24, 27, 28, 29, 30, 31, 32, 33, 36, 40, 41, 42, 43, 44, 45, 39, 46, 47, 9, 11] rfl ?_; clear Z; intro Z
     refine p_then (wp_block ?_)
     refine f_iter hF (fun sg a' w' => match sg with | (got_3, j) => Sl 94 [(0, .bool false), (1, .pointer none), (3, .pointer none), (5, .string got_3), (6, .int .i64 i), (7, q3), (8, .int .i64 k), (9, q4), (11, .int .i64 j), (23, .int .i64 i), (24, .bool (decide (i < 4))), (27, .pointer none), (28, q3), (29, .int .i64 k), (30, q3), (31, .int .i64 (n0_4.length : Int)), (32, .bool (decide (k < (n0_4.length : Int)))), (33, .bool (decide (k < (n0_4.length : Int)))), (36, .bool ((decide (k < (n0_4.length : Int))) && (decide (k < 9)))), (39, .tuple #[q4, .int .i64 n0_5.2]), (40, .pointer none), (41, q3), (42, .int .i64 k), (43, .pointer (some ⟨blkOf q3, oofOf q3 + (k).toNat * 8, none⟩)), (44, .agg #[.int .i64 ((n0_4.getD (k).toNat default).boot), .int .i64 ((n0_4.getD (k).toNat default).stream), .int .i64 ((n0_4.getD (k).toNat default).seq), .int .i64 ((n0_4.getD (k).toNat default).ackBoot), .int .i64 ((n0_4.getD (k).toNat default).ackStream), .int .i64 ((n0_4.getD (k).toNat default).ackSeq), .bool ((n0_4.getD (k).toNat default).has), .string ((n0_4.getD (k).toNat default).body)]), (45, .tuple #[q4, .int .i64 n0_5.2]), (46, q4), (47, .int .i64 n0_5.2)] a' ∧ ∃ I2, Hf I D w I2 w' [SlC NS q4 n0_5.1, SlC NESeg q3 n0_4]) ⟨Z.sub (ts := [0, 1, 3, 5, 6, 7, 8, 9, 11, 23, 24, 27, 28, 29, 30, 31, 32, 33, 36, 39, 40, 41, 42, 43, 44, 45, 46, 47]) rfl, ⟨I7, (H.sub [(0, true), (1, true)] rfl).eq rfl⟩⟩ ?_
     clear Z H hF a
     rintro rc_3 ⟨got_3, j⟩ a w8 ⟨Z, I8, H⟩ hF
     unfold F_law22_awake_l3 at hF
     try dsimp only at hF
     refine wp_seq ?_
     refine wp_seq (f_region Z ?_); clear Z; intro Z
     refine s_runk tLinkC Z 2 rfl rfl ?_; clear Z a; intro a Z
     refine s_ob Z (v := .int .i64 (n0_5.1.length : Int)) rfl rfl (by decide) rfl (Ob_slen tLinkC rfl rfl rfl (H.slshape 0 rfl)) ?_; clear Z a; intro a Z
     refine s_runk tLinkC Z 2 rfl rfl ?_; clear Z a; intro a Z
     refine g_ob Z (p := (decide (j < (n0_5.1.length : Int)))) (v := .int .i64 j) (S' := [(11, .int .i64 j)]) rfl rfl rfl (wantB_t _) rfl (by decide) (fun hp hS => hS.sub (ts := [11]) rfl) (fun hp => Ob_c tLinkC rfl) ?_; clear Z a; intro a Z
     refine g_ob Z (p := (decide (j < (n0_5.1.length : Int)))) (v := .bool (decide (j < 9))) (S' := [(53, .int .i64 j)]) rfl rfl rfl (wantB_t _) rfl (by decide) (fun hp hS => (hS.conv (t := 53) rfl (cond_t hp)).sub (ts := [53]) rfl) (fun hp => Ob_c tLinkC rfl) ?_; clear Z a; intro a Z
     refine s_ob Z (v := .bool ((decide (j < (n0_5.1.length : Int))) && (decide (j < 9)))) rfl rfl (by decide) rfl (Ob_pick rfl rfl rfl rfl (pick_and _ _)) ?_; clear Z a; intro a Z
     refine s_end Z [0, 1, 3, 5, 6, 7, 8, 9, 11, 23, 24, 27, 28, 29, 30, 31, 32, 33, 36, 39, 40, 41, 42, 43, 44, 45, 46, 47, 48, 49, 50, 51, 52, 55] rfl ?_; clear Z; intro Z
     refine p_then ?_
     refine f_cond Z rfl (fun hc3 => ?_) (fun hc3 => ?_)
     ·replace hF := ite_t hc3 hF
      refine wp_skip ?_
      refine p_then (wp_seq ?_)
      refine wp_block ?_
      obtain ⟨hg2, hF⟩ := chk_in hF
      obtain ⟨hg3, hF⟩ := chk_in hF
      refine f_region Z ?_; clear Z; intro Z
      refine s_runk tLinkC Z 3 rfl rfl ?_; clear Z a; intro a Z
      refine s_ob Z (v := .pointer (some ⟨blkOf q4, oofOf q4 + (j).toNat * 1, none⟩)) rfl rfl (by decide) rfl (Ob_sidx tLinkC rfl rfl rfl rfl (slPl (H.sl 0 rfl) hg2) hg2) ?_; clear Z a; intro a Z
      refine s_ob Z (v := .string (n0_5.1.getD (j).toNat default)) rfl rfl (by decide) rfl (Ob_load tLinkC rfl rfl rfl ((slFl (H.sl 0 rfl) hg2) 0 _ rfl)) ?_; clear Z a; intro a Z
      refine s_ob Z (v := .string (got_3 ++ (n0_5.1.getD (j).toNat default))) rfl rfl (by decide) rfl (Ob_cat rfl rfl rfl hg3) ?_; clear Z a; intro a Z
      refine s_runk tLinkC Z 1 rfl rfl ?_; clear Z a; intro a Z
      refine s_end Z [0, 1, 3, 5, 6, 7, 8, 9, 11, 23, 24, 27, 28, 29, 30, 31, 32, 33, 36, 39, 40, 41, 42, 43, 44, 45, 46, 47, 48, 49, 50, 51, 52, 55, 58, 59, 60, 61, 62, 63] rfl ?_; clear Z; intro Z
      refine p_blk ?_
      refine p_then ?_
      obtain ⟨hg4, hF⟩ := chk_in hF
      refine f_region Z ?_; clear Z; intro Z
      refine s_runk tLinkC Z 1 rfl rfl ?_; clear Z a; intro a Z
      refine s_ob Z (v := .int .i64 (j + 1)) rfl rfl (by decide) rfl (Ob_add rfl rfl rfl (wrI hg4)) ?_; clear Z a; intro a Z
      refine s_runk tLinkC Z 1 rfl rfl ?_; clear Z a; intro a Z
      refine s_end Z [0, 1, 3, 5, 6, 7, 8, 9, 11, 23, 24, 27, 28, 29, 30, 31, 32, 33, 36, 39, 40, 41, 42, 43, 44, 45, 46, 47, 48, 49, 50, 51, 52, 55, 58, 59, 60, 61, 62, 63, 56, 57] rfl ?_; clear Z; intro Z
      refine p_then ?_
      exact ⟨(got_3 ++ (n0_5.1.getD (j).toNat default), j + 1), ⟨Z.sub (ts := [0, 1, 3, 5, 6, 7, 8, 9, 11, 23, 24, 27, 28, 29, 30, 31, 32, 33, 36, 39, 40, 41, 42, 43, 44, 45, 46, 47]) rfl, ⟨I8, (H.sub [(0, true), (1, true)] rfl).eq rfl⟩⟩, hF⟩
     ·replace hF := ite_f hc3 hF
      refine wp_exit ?_
      refine p_then_x ?_
      refine p_then_x ?_
      refine f_exit_here ?_
      refine p_blk ?_
      refine p_then ?_
      obtain ⟨hg5, hF⟩ := chk_in hF
      refine f_region Z ?_; clear Z; intro Z
      refine s_runk tLinkC Z 1 rfl rfl ?_; clear Z a; intro a Z
      refine s_ob Z (v := .int .i64 (k + 1)) rfl rfl (by decide) rfl (Ob_add rfl rfl rfl (wrI hg5)) ?_; clear Z a; intro a Z
      refine s_runk tLinkC Z 1 rfl rfl ?_; clear Z a; intro a Z
      refine s_end Z [0, 1, 3, 5, 6, 7, 8, 9, 11, 23, 24, 27, 28, 29, 30, 31, 32, 33, 36, 39, 40, 41, 42, 43, 44, 45, 46, 47, 48, 49, 50, 51, 52, 55, 37, 38] rfl ?_; clear Z; intro Z
      refine p_then ?_
      exact ⟨(got_3, k + 1), ⟨Z.sub (ts := [0, 1, 3, 5, 6, 7, 8, 23, 24, 27, 28]) rfl, ⟨I8, (H.sub [(1, true)] rfl).eq rfl⟩⟩, hF⟩
    ·replace hF := ite_f hc2 hF
     refine wp_exit ?_
     refine p_then_x ?_
     refine p_then_x ?_
     refine f_exit_here ?_
     refine p_then (wp_seq ?_)
     obtain ⟨n0_6, hx6, hF⟩ := bnd_in hF
     refine f_region Z ?_; clear Z; intro Z
     refine s_runk tLinkC Z 1 rfl rfl ?_; clear Z a; intro a Z
     refine h_call Z H (js := []) rfl (caps := #[]) fn_13_YLinkC rfl rfl rfl rfl rfl (by decide) rfl rfl (fun D1 hS => have hq := c_link_Link_Out_nil hx6 hS; hq) ?_; clear Z a; intro vv a w9 D2 hr hF2 Z
     obtain ⟨q5, hvv, I9, K⟩ := hr; obtain rfl := hvv.symm
     have H : Hf I D w I9 w9 [SlC NESeg q5 n0_6, SlC NESeg q3 n0_4] := hF2 K
     clear hF2 K
     refine s_runk tLinkC Z 1 rfl rfl ?_; clear Z a; intro a Z
     refine s_end Z [0, 1, 3, 5, 6, 7, 8, 23, 24, 27, 28, 29, 30, 31, 32, 33, 36, 64, 65] rfl ?_; clear Z; intro Z
     refine p_then (wp_seq (f_region Z ?_)); clear Z; intro Z
     refine s_runk tLinkC Z 1 rfl rfl ?_; clear Z a; intro a Z
     refine s_end Z [0, 1, 3, 5, 6, 7, 8, 23, 24, 27, 28, 29, 30, 31, 32, 33, 36, 64, 65, 12] rfl ?_; clear Z; intro Z
     refine p_then (wp_block ?_)
     refine f_iter hF (fun sg a' w' => match sg with | k_2 => Sl 94 [(0, .bool false), (1, .pointer none), (3, .pointer none), (5, .string got_2), (6, .int .i64 i), (7, q5), (8, .int .i64 k), (12, .int .i64 k_2), (23, .int .i64 i), (24, .bool (decide (i < 4))), (27, .pointer none), (28, q3), (29, .int .i64 k), (30, q3), (31, .int .i64 (n0_4.length : Int)), (32, .bool (decide (k < (n0_4.length : Int)))), (33, .bool (decide (k < (n0_4.length : Int)))), (36, .bool ((decide (k < (n0_4.length : Int))) && (decide (k < 9)))), (64, .pointer none), (65, q5)] a' ∧ ∃ I2, Hf I D w I2 w' [SlC NESeg q5 n0_6, SlC NESeg q3 n0_4]) ⟨Z.sub (ts := [0, 1, 3, 5, 6, 7, 8, 12, 23, 24, 27, 28, 29, 30, 31, 32, 33, 36, 64, 65]) rfl, ⟨I9, (H.sub [(0, true), (1, true)] rfl).eq rfl⟩⟩ ?_
     clear Z H hF a
     rintro rc_4 k_2 a w10 ⟨Z, I10, H⟩ hF
     unfold F_law22_awake_l4 at hF
     try dsimp only at hF
     refine wp_seq ?_
     refine wp_seq (f_region Z ?_); clear Z; intro Z
     refine s_runk tLinkC Z 2 rfl rfl ?_; clear Z a; intro a Z
     refine s_ob Z (v := .int .i64 (n0_6.length : Int)) rfl rfl (by decide) rfl (Ob_slen tLinkC rfl rfl rfl (H.slshape 0 rfl)) ?_; clear Z a; intro a Z
     refine s_runk tLinkC Z 2 rfl rfl ?_; clear Z a; intro a Z
     refine g_ob Z (p := (decide (k_2 < (n0_6.length : Int)))) (v := .int .i64 k_2) (S' := [(12, .int .i64 k_2)]) rfl rfl rfl (wantB_t _) rfl (by decide) (fun hp hS => hS.sub (ts := [12]) rfl) (fun hp => Ob_c tLinkC rfl) ?_; clear Z a; intro a Z
     refine g_ob Z (p := (decide (k_2 < (n0_6.length : Int)))) (v := .bool (decide (k_2 < 9))) (S' := [(71, .int .i64 k_2)]) rfl rfl rfl (wantB_t _) rfl (by decide) (fun hp hS => (hS.conv (t := 71) rfl (cond_t hp)).sub (ts := [71]) rfl) (fun hp => Ob_c tLinkC rfl) ?_; clear Z a; intro a Z
     refine s_ob Z (v := .bool ((decide (k_2 < (n0_6.length : Int))) && (decide (k_2 < 9)))) rfl rfl (by decide) rfl (Ob_pick rfl rfl rfl rfl (pick_and _ _)) ?_; clear Z a; intro a Z
     refine s_end Z [0, 1, 3, 5, 6, 7, 8, 12, 23, 24, 27, 28, 29, 30, 31, 32, 33, 36, 64, 65, 66, 67, 68, 69, 70, 73] rfl ?_; clear Z; intro Z
     refine p_then ?_
     refine f_cond Z rfl (fun hc4 => ?_) (fun hc4 => ?_)
     ·replace hF := ite_t hc4 hF
      refine wp_skip ?_
      refine p_then (wp_seq ?_)
      refine wp_block ?_
      obtain ⟨hg6, hF⟩ := chk_in hF
      obtain ⟨n0_7, hx7, hF⟩ := bnd_in hF
      refine f_region Z ?_; clear Z; intro Z
      refine s_runk tLinkC Z 3 rfl rfl ?_; clear Z a; intro a Z
      refine s_ob Z (v := .pointer (some ⟨blkOf q5, oofOf q5 + (k_2).toNat * 8, none⟩)) rfl rfl (by decide) rfl (Ob_sidx tLinkC rfl rfl rfl rfl (slPl (H.sl 0 rfl) hg6) hg6) ?_; clear Z a; intro a Z
      refine s_ob Z (v := .agg #[.int .i64 ((n0_6.getD (k_2).toNat default).boot), .int .i64 ((n0_6.getD (k_2).toNat default).stream), .int .i64 ((n0_6.getD (k_2).toNat default).seq), .int .i64 ((n0_6.getD (k_2).toNat default).ackBoot), .int .i64 ((n0_6.getD (k_2).toNat default).ackStream), .int .i64 ((n0_6.getD (k_2).toNat default).ackSeq), .bool ((n0_6.getD (k_2).toNat default).has), .string ((n0_6.getD (k_2).toNat default).body)]) rfl rfl (by decide) rfl (Ob_loads tLinkC rfl rfl rfl ((slFl (H.sl 0 rfl) hg6).part 0 rfl)) ?_; clear Z a; intro a Z
      refine h_call Z H (js := []) rfl (caps := #[]) fn_15_YLinkC rfl rfl rfl rfl rfl (by decide) rfl rfl (fun D1 hS => have hq := c_link_Link_In_nil hx7 hS; hq) ?_; clear Z a; intro vv a w11 D2 hr hF2 Z
      obtain ⟨q6, rfl, I11, K⟩ := hr
      have H : Hf I D w I11 w11 [SlC NS q6 n0_7.1, SlC NESeg q5 n0_6, SlC NESeg q3 n0_4] := hF2 K
      clear hF2 K
      refine s_end Z [0, 1, 3, 5, 6, 7, 8, 12, 23, 24, 27, 28, 29, 30, 31, 32, 33, 36, 64, 65, 66, 67, 68, 69, 70, 73, 76, 77, 78, 79, 80] rfl ?_; clear Z; intro Z
      refine p_blk ?_
      refine p_then ?_
      obtain ⟨hg7, hF⟩ := chk_in hF
      refine f_region Z ?_; clear Z; intro Z
      refine s_runk tLinkC Z 1 rfl rfl ?_; clear Z a; intro a Z
      refine s_ob Z (v := .int .i64 (k_2 + 1)) rfl rfl (by decide) rfl (Ob_add rfl rfl rfl (wrI hg7)) ?_; clear Z a; intro a Z
      refine s_runk tLinkC Z 1 rfl rfl ?_; clear Z a; intro a Z
      refine s_end Z [0, 1, 3, 5, 6, 7, 8, 12, 23, 24, 27, 28, 29, 30, 31, 32, 33, 36, 64, 65, 66, 67, 68, 69, 70, 73, 76, 77, 78, 79, 80, 74, 75] rfl ?_; clear Z; intro Z
      refine p_then ?_
      exact ⟨(k_2 + 1), ⟨Z.sub (ts := [0, 1, 3, 5, 6, 7, 8, 12, 23, 24, 27, 28, 29, 30, 31, 32, 33, 36, 64, 65]) rfl, ⟨I11, (H.sub [(1, true), (2, true)] rfl).eq rfl⟩⟩, hF⟩
     ·replace hF := ite_f hc4 hF
      refine wp_exit ?_
      refine p_then_x ?_
      refine p_then_x ?_
      refine f_exit_here ?_
      refine p_blk ?_
      refine p_then ?_
      obtain ⟨hg8, hF⟩ := chk_in hF
      refine f_region Z ?_; clear Z; intro Z
      refine s_runk tLinkC Z 1 rfl rfl ?_; clear Z a; intro a Z
      refine s_ob Z (v := .int .i64 (i + 1)) rfl rfl (by decide) rfl (Ob_add rfl rfl rfl (wrI hg8)) ?_; clear Z a; intro a Z
      refine s_runk tLinkC Z 1 rfl rfl ?_; clear Z a; intro a Z
      refine s_end Z [0, 1, 3, 5, 6, 7, 8, 12, 23, 24, 27, 28, 29, 30, 31, 32, 33, 36, 64, 65, 66, 67, 68, 69, 70, 73, 25, 26] rfl ?_; clear Z; intro Z
      refine p_then ?_
      exact ⟨(got_2, i + 1), ⟨Z.sub (ts := [0, 1, 3, 5, 6]) rfl, ⟨I10, (H.sub [] rfl).eq rfl⟩⟩, hF⟩
   ·replace hF := ite_f hc1 hF
    refine wp_exit ?_
    refine p_then_x ?_
    refine p_then_x ?_
    refine f_exit_here ?_
    refine p_then (wp_seq ?_)
    obtain ⟨n0_8, hx8, hF⟩ := bnd_in hF
    obtain ⟨n0_9, hx9, hF⟩ := bnd_in hF
    refine f_region Z ?_; clear Z; intro Z
    refine s_runk tLinkC Z 3 rfl rfl ?_; clear Z a; intro a Z
    refine g_ob Z (p := (seqB got ⟨#[120]⟩)) (v := .pointer none) (S' := [(1, .pointer none)]) rfl rfl rfl (wantB_t _) rfl (by decide) (fun hp hS => hS.sub (ts := [1]) rfl) (fun hp => Ob_c tLinkC rfl) ?_; clear Z a; intro a Z
    refine g_call Z (p := (seqB got ⟨#[120]⟩)) (v := .int .i64 n0_8) (S' := [(85, .pointer none)]) (caps := #[]) fn_18_YLinkC rfl rfl rfl (wantB_t _) rfl (by decide) (fun hp hS => (hS.conv (t := 85) rfl (cond_t hp)).sub (ts := [85]) rfl) rfl rfl rfl rfl (fun hp => (have hq := c_link_Link_Waiting_nil (gif_in hx8 hp) ((H).pick0 (js := []) rfl rfl); plainC hq)) ?_; clear Z a; intro a w12 hb Z
    replace H : Hf I D w I4 w12 [] := H.blw hb
    clear hb
    refine g_ob Z (p := (seqB got ⟨#[120]⟩)) (v := .bool (n0_8 == 0)) (S' := [(86, .int .i64 n0_8)]) rfl rfl rfl (wantB_t _) rfl (by decide) (fun hp hS => (hS.conv (t := 86) rfl (cond_t hp)).sub (ts := [86]) rfl) (fun hp => Ob_c tLinkC rfl) ?_; clear Z a; intro a Z
    refine s_ob Z (v := .bool ((seqB got ⟨#[120]⟩) && (n0_8 == 0))) rfl rfl (by decide) rfl (Ob_pick rfl rfl rfl rfl (pick_and _ _)) ?_; clear Z a; intro a Z
    refine s_runk tLinkC Z 1 rfl rfl ?_; clear Z a; intro a Z
    refine g_ob Z (p := ((seqB got ⟨#[120]⟩) && (n0_8 == 0))) (v := .pointer none) (S' := [(1, .pointer none)]) rfl rfl rfl (wantB_t _) rfl (by decide) (fun hp hS => hS.sub (ts := [1]) rfl) (fun hp => Ob_c tLinkC rfl) ?_; clear Z a; intro a Z
    refine g_call Z (p := ((seqB got ⟨#[120]⟩) && (n0_8 == 0))) (v := .int .i64 n0_9) (S' := [(90, .pointer none)]) (caps := #[]) fn_19_YLinkC rfl rfl rfl (wantB_t _) rfl (by decide) (fun hp hS => (hS.conv (t := 90) rfl (cond_t hp)).sub (ts := [90]) rfl) rfl rfl rfl rfl (fun hp => (have hq := c_link_Link_Knows_nil (gif_in hx9 hp) ((H).pick0 (js := []) rfl rfl); plainC hq)) ?_; clear Z a; intro a w13 hb Z
    replace H : Hf I D w I4 w13 [] := H.blw hb
    clear hb
    refine g_ob Z (p := ((seqB got ⟨#[120]⟩) && (n0_8 == 0))) (v := .bool (n0_9 == 1)) (S' := [(91, .int .i64 n0_9)]) rfl rfl rfl (wantB_t _) rfl (by decide) (fun hp hS => (hS.conv (t := 91) rfl (cond_t hp)).sub (ts := [91]) rfl) (fun hp => Ob_c tLinkC rfl) ?_; clear Z a; intro a Z
    refine s_ob Z (v := .bool (((seqB got ⟨#[120]⟩) && (n0_8 == 0)) && (n0_9 == 1))) rfl rfl (by decide) rfl (Ob_pick rfl rfl rfl rfl (pick_and _ _)) ?_; clear Z a; intro a Z
    refine s_runk tLinkC Z 1 rfl rfl ?_; clear Z a; intro a Z
    refine s_end Z [0] rfl ?_; clear Z; intro Z
    refine p_then (wp_ret ?_)
    obtain rfl := some_in hF
    exact f_ret Z (run_results1 rfl Z rfl) ⟨rfl, I4, (H.sub [] rfl).eq rfl⟩
  ·obtain ⟨b2, hv, H⟩ := H.optS 0 rfl ho2
   subst hv
   replace H : Hf I D w I2 w2 [OElink_Link b2 x_2] := H
   refine p_then (wp_seq ?_)
   obtain ⟨n0_10, hx10, hF⟩ := bnd_in hF
   refine f_region Z ?_; clear Z; intro Z
   refine s_runk tLinkC Z 1 rfl rfl ?_; clear Z a; intro a Z
   refine h_call Z H (js := []) rfl (caps := #[]) fn_10_YLinkC rfl rfl rfl rfl rfl (by decide) rfl rfl (fun D1 hS => have hq := c_link_Link_Send_nil hx10 hS; hq) ?_; clear Z a; intro vv a w14 D2 hr hF2 Z
   obtain ⟨rfl, I12, K⟩ := hr
   have H : Hf I D w I12 w14 [OElink_Link b2 x_2] := hF2 K
   clear hF2 K
   refine s_end Z [0, 1, 3] rfl ?_; clear Z; intro Z
   refine p_then (wp_seq (f_region Z ?_)); clear Z; intro Z
   refine s_runk tLinkC Z 1 rfl rfl ?_; clear Z a; intro a Z
   refine s_end Z [0, 1, 3, 5] rfl ?_; clear Z; intro Z
   refine p_then (wp_seq ?_)
   refine wp_seq (f_region Z ?_); clear Z; intro Z
   refine s_runk tLinkC Z 1 rfl rfl ?_; clear Z a; intro a Z
   refine s_end Z [0, 1, 3, 5, 6] rfl ?_; clear Z; intro Z
   refine p_then (wp_block ?_)
   refine f_iter hF (fun sg a' w' => match sg with | (got_4, i_2, b) => Sl 94 [(0, .bool false), (1, .pointer none), (3, .pointer (some ⟨b2, 0, none⟩)), (5, .string got_4), (6, .int .i64 i_2)] a' ∧ ∃ I2, Hf I D w I2 w' [OElink_Link b2 b]) ⟨Z.sub (ts := [0, 1, 3, 5, 6]) rfl, ⟨I12, (H.sub [(0, false)] rfl).eq rfl⟩⟩ ?_
   clear Z H hF a
   rintro rc_5 ⟨got_4, i_2, b⟩ a w15 ⟨Z, I13, H⟩ hF
   unfold F_law22_awake_l5 at hF
   try dsimp only at hF
   refine wp_seq ?_
   refine wp_seq (f_region Z ?_); clear Z; intro Z
   refine s_runk tLinkC Z 2 rfl rfl ?_; clear Z a; intro a Z
   refine s_end Z [0, 1, 3, 5, 6, 23, 24] rfl ?_; clear Z; intro Z
   refine p_then ?_
   refine f_cond Z rfl (fun hc5 => ?_) (fun hc5 => ?_)
   ·replace hF := ite_t hc5 hF
    refine wp_skip ?_
    refine p_then (wp_seq ?_)
    refine wp_block ?_
    refine wp_seq ?_
    obtain ⟨n0_11, hx11, hF⟩ := bnd_in hF
    refine f_region Z ?_; clear Z; intro Z
    refine s_runk tLinkC Z 1 rfl rfl ?_; clear Z a; intro a Z
    refine h_call Z H (js := []) rfl (caps := #[]) fn_13_YLinkC rfl rfl rfl rfl rfl (by decide) rfl rfl (fun D1 hS => have hq := c_link_Link_Out_nil hx11 hS; hq) ?_; clear Z a; intro vv a w16 D2 hr hF2 Z
    obtain ⟨q7, hvv, I14, K⟩ := hr; obtain rfl := hvv.symm
    have H : Hf I D w I14 w16 [SlC NESeg q7 n0_11, OElink_Link b2 b] := hF2 K
    clear hF2 K
    refine s_runk tLinkC Z 1 rfl rfl ?_; clear Z a; intro a Z
    refine s_end Z [0, 1, 3, 5, 6, 23, 24, 27, 28, 7] rfl ?_; clear Z; intro Z
    refine p_then (wp_seq ?_)
    refine wp_seq (f_region Z ?_); clear Z; intro Z
    refine s_runk tLinkC Z 1 rfl rfl ?_; clear Z a; intro a Z
    refine s_end Z [0, 1, 3, 5, 6, 23, 24, 27, 28, 7, 8] rfl ?_; clear Z; intro Z
    refine p_then (wp_block ?_)
    refine f_iter hF (fun sg a' w' => match sg with | (got_5, k_3, b_2) => Sl 94 [(0, .bool false), (1, .pointer none), (3, .pointer (some ⟨b2, 0, none⟩)), (5, .string got_5), (6, .int .i64 i_2), (7, q7), (8, .int .i64 k_3), (23, .int .i64 i_2), (24, .bool (decide (i_2 < 4))), (27, .pointer none), (28, q7)] a' ∧ ∃ I2, Hf I D w I2 w' [OElink_Link b2 b_2, SlC NESeg q7 n0_11]) ⟨Z.sub (ts := [0, 1, 3, 5, 6, 7, 8, 23, 24, 27, 28]) rfl, ⟨I14, (H.sub [(1, false), (0, true)] rfl).eq rfl⟩⟩ ?_
    clear Z H hF a
    rintro rc_6 ⟨got_5, k_3, b_2⟩ a w17 ⟨Z, I15, H⟩ hF
    unfold F_law22_awake_l6 at hF
    try dsimp only at hF
    refine wp_seq ?_
    refine wp_seq (f_region Z ?_); clear Z; intro Z
    refine s_runk tLinkC Z 2 rfl rfl ?_; clear Z a; intro a Z
    refine s_ob Z (v := .int .i64 (n0_11.length : Int)) rfl rfl (by decide) rfl (Ob_slen tLinkC rfl rfl rfl (H.slshape 1 rfl)) ?_; clear Z a; intro a Z
    refine s_runk tLinkC Z 2 rfl rfl ?_; clear Z a; intro a Z
    refine g_ob Z (p := (decide (k_3 < (n0_11.length : Int)))) (v := .int .i64 k_3) (S' := [(8, .int .i64 k_3)]) rfl rfl rfl (wantB_t _) rfl (by decide) (fun hp hS => hS.sub (ts := [8]) rfl) (fun hp => Ob_c tLinkC rfl) ?_; clear Z a; intro a Z
    refine g_ob Z (p := (decide (k_3 < (n0_11.length : Int)))) (v := .bool (decide (k_3 < 9))) (S' := [(34, .int .i64 k_3)]) rfl rfl rfl (wantB_t _) rfl (by decide) (fun hp hS => (hS.conv (t := 34) rfl (cond_t hp)).sub (ts := [34]) rfl) (fun hp => Ob_c tLinkC rfl) ?_; clear Z a; intro a Z
    refine s_ob Z (v := .bool ((decide (k_3 < (n0_11.length : Int))) && (decide (k_3 < 9)))) rfl rfl (by decide) rfl (Ob_pick rfl rfl rfl rfl (pick_and _ _)) ?_; clear Z a; intro a Z
    refine s_end Z [0, 1, 3, 5, 6, 7, 8, 23, 24, 27, 28, 29, 30, 31, 32, 33, 36] rfl ?_; clear Z; intro Z
    refine p_then ?_
    refine f_cond Z rfl (fun hc6 => ?_) (fun hc6 => ?_)
    ·replace hF := ite_t hc6 hF
     refine wp_skip ?_
     refine p_then (wp_seq ?_)
     refine wp_block ?_
     refine wp_seq ?_
     obtain ⟨hg9, hF⟩ := chk_in hF
     obtain ⟨i_3, hx12, hF⟩ := bnd_in hF
     refine f_region Z ?_; clear Z; intro Z
     refine s_runk tLinkC Z 3 rfl rfl ?_; clear Z a; intro a Z
     refine s_ob Z (v := .pointer (some ⟨blkOf q7, oofOf q7 + (k_3).toNat * 8, none⟩)) rfl rfl (by decide) rfl (Ob_sidx tLinkC rfl rfl rfl rfl (slPl (H.sl 1 rfl) hg9) hg9) ?_; clear Z a; intro a Z
     refine s_ob Z (v := .agg #[.int .i64 ((n0_11.getD (k_3).toNat default).boot), .int .i64 ((n0_11.getD (k_3).toNat default).stream), .int .i64 ((n0_11.getD (k_3).toNat default).seq), .int .i64 ((n0_11.getD (k_3).toNat default).ackBoot), .int .i64 ((n0_11.getD (k_3).toNat default).ackStream), .int .i64 ((n0_11.getD (k_3).toNat default).ackSeq), .bool ((n0_11.getD (k_3).toNat default).has), .string ((n0_11.getD (k_3).toNat default).body)]) rfl rfl (by decide) rfl (Ob_loads tLinkC rfl rfl rfl ((slFl (H.sl 1 rfl) hg9).part 0 rfl)) ?_; clear Z a; intro a Z
     refine h_call Z H (js := [(0, false)]) rfl (caps := #[]) fn_15_YLinkC rfl rfl rfl rfl rfl (by decide) rfl rfl (fun D1 hS => have hq := c_link_Link_In hx12 hS; hq) ?_; clear Z a; intro vv a w18 D2 hr hF2 Z
     obtain ⟨q8, rfl, I16, K⟩ := hr
     have H : Hf I D w I16 w18 [OElink_Link b2 i_3.2.2, SlC NS q8 i_3.1, SlC NESeg q7 n0_11] := hF2 K
     clear hF2 K
     refine s_runk tLinkC Z 5 rfl rfl ?_; clear Z a; intro a Z
     refine s_end Z [0, 1, 3, 5, 6, 7, 8, 23, 24, 27, 28, 29, 30, 31, 32, 33, 36, 40, 41, 42, 43, 44, 45, 39, 46, 47, 9] rfl ?_; clear Z; intro Z
     refine p_then (wp_seq (f_region Z ?_)); clear Z; intro Z
     refine s_runk tLinkC Z 1 rfl rfl ?_; clear Z a; intro a Z
     refine s_end Z [0, 1, 3, 5, 6, 7, 8, 23, 24, 27, 28, 29, 30, 31, 32, 33, 36, 40, 41, 42, 43, 44, 45, 39, 46, 47, 9, 11] rfl ?_; clear Z; intro Z
     refine p_then (wp_block ?_)
     refine f_iter hF (fun sg a' w' => match sg with | (got_6, j_2) => Sl 94 [(0, .bool false), (1, .pointer none), (3, .pointer (some ⟨b2, 0, none⟩)), (5, .string got_6), (6, .int .i64 i_2), (7, q7), (8, .int .i64 k_3), (9, q8), (11, .int .i64 j_2), (23, .int .i64 i_2), (24, .bool (decide (i_2 < 4))), (27, .pointer none), (28, q7), (29, .int .i64 k_3), (30, q7), (31, .int .i64 (n0_11.length : Int)), (32, .bool (decide (k_3 < (n0_11.length : Int)))), (33, .bool (decide (k_3 < (n0_11.length : Int)))), (36, .bool ((decide (k_3 < (n0_11.length : Int))) && (decide (k_3 < 9)))), (39, .tuple #[q8, .int .i64 i_3.2.1]), (40, .pointer (some ⟨b2, 0, none⟩)), (41, q7), (42, .int .i64 k_3), (43, .pointer (some ⟨blkOf q7, oofOf q7 + (k_3).toNat * 8, none⟩)), (44, .agg #[.int .i64 ((n0_11.getD (k_3).toNat default).boot), .int .i64 ((n0_11.getD (k_3).toNat default).stream), .int .i64 ((n0_11.getD (k_3).toNat default).seq), .int .i64 ((n0_11.getD (k_3).toNat default).ackBoot), .int .i64 ((n0_11.getD (k_3).toNat default).ackStream), .int .i64 ((n0_11.getD (k_3).toNat default).ackSeq), .bool ((n0_11.getD (k_3).toNat default).has), .string ((n0_11.getD (k_3).toNat default).body)]), (45, .tuple #[q8, .int .i64 i_3.2.1]), (46, q8), (47, .int .i64 i_3.2.1)] a' ∧ ∃ I2, Hf I D w I2 w' [OElink_Link b2 i_3.2.2, SlC NS q8 i_3.1, SlC NESeg q7 n0_11]) ⟨Z.sub (ts := [0, 1, 3, 5, 6, 7, 8, 9, 11, 23, 24, 27, 28, 29, 30, 31, 32, 33, 36, 39, 40, 41, 42, 43, 44, 45, 46, 47]) rfl, ⟨I16, (H.sub [(0, false), (0, true), (1, true)] rfl).eq rfl⟩⟩ ?_
     clear Z H hF a
     rintro rc_7 ⟨got_6, j_2⟩ a w19 ⟨Z, I17, H⟩ hF
     unfold F_law22_awake_l7 at hF
     try dsimp only at hF
     refine wp_seq ?_
     refine wp_seq (f_region Z ?_); clear Z; intro Z
     refine s_runk tLinkC Z 2 rfl rfl ?_; clear Z a; intro a Z
     refine s_ob Z (v := .int .i64 (i_3.1.length : Int)) rfl rfl (by decide) rfl (Ob_slen tLinkC rfl rfl rfl (H.slshape 1 rfl)) ?_; clear Z a; intro a Z
     refine s_runk tLinkC Z 2 rfl rfl ?_; clear Z a; intro a Z
     refine g_ob Z (p := (decide (j_2 < (i_3.1.length : Int)))) (v := .int .i64 j_2) (S' := [(11, .int .i64 j_2)]) rfl rfl rfl (wantB_t _) rfl (by decide) (fun hp hS => hS.sub (ts := [11]) rfl) (fun hp => Ob_c tLinkC rfl) ?_; clear Z a; intro a Z
     refine g_ob Z (p := (decide (j_2 < (i_3.1.length : Int)))) (v := .bool (decide (j_2 < 9))) (S' := [(53, .int .i64 j_2)]) rfl rfl rfl (wantB_t _) rfl (by decide) (fun hp hS => (hS.conv (t := 53) rfl (cond_t hp)).sub (ts := [53]) rfl) (fun hp => Ob_c tLinkC rfl) ?_; clear Z a; intro a Z
     refine s_ob Z (v := .bool ((decide (j_2 < (i_3.1.length : Int))) && (decide (j_2 < 9)))) rfl rfl (by decide) rfl (Ob_pick rfl rfl rfl rfl (pick_and _ _)) ?_; clear Z a; intro a Z
     refine s_end Z [0, 1, 3, 5, 6, 7, 8, 9, 11, 23, 24, 27, 28, 29, 30, 31, 32, 33, 36, 39, 40, 41, 42, 43, 44, 45, 46, 47, 48, 49, 50, 51, 52, 55] rfl ?_; clear Z; intro Z
     refine p_then ?_
     refine f_cond Z rfl (fun hc7 => ?_) (fun hc7 => ?_)
     ·replace hF := ite_t hc7 hF
      refine wp_skip ?_
      refine p_then (wp_seq ?_)
      refine wp_block ?_
      obtain ⟨hg10, hF⟩ := chk_in hF
      obtain ⟨hg11, hF⟩ := chk_in hF
      refine f_region Z ?_; clear Z; intro Z
      refine s_runk tLinkC Z 3 rfl rfl ?_; clear Z a; intro a Z
      refine s_ob Z (v := .pointer (some ⟨blkOf q8, oofOf q8 + (j_2).toNat * 1, none⟩)) rfl rfl (by decide) rfl (Ob_sidx tLinkC rfl rfl rfl rfl (slPl (H.sl 1 rfl) hg10) hg10) ?_; clear Z a; intro a Z
      refine s_ob Z (v := .string (i_3.1.getD (j_2).toNat default)) rfl rfl (by decide) rfl (Ob_load tLinkC rfl rfl rfl ((slFl (H.sl 1 rfl) hg10) 0 _ rfl)) ?_; clear Z a; intro a Z
      refine s_ob Z (v := .string (got_6 ++ (i_3.1.getD (j_2).toNat default))) rfl rfl (by decide) rfl (Ob_cat rfl rfl rfl hg11) ?_; clear Z a; intro a Z
      refine s_runk tLinkC Z 1 rfl rfl ?_; clear Z a; intro a Z
      refine s_end Z [0, 1, 3, 5, 6, 7, 8, 9, 11, 23, 24, 27, 28, 29, 30, 31, 32, 33, 36, 39, 40, 41, 42, 43, 44, 45, 46, 47, 48, 49, 50, 51, 52, 55, 58, 59, 60, 61, 62, 63] rfl ?_; clear Z; intro Z
      refine p_blk ?_
      refine p_then ?_
      obtain ⟨hg12, hF⟩ := chk_in hF
      refine f_region Z ?_; clear Z; intro Z
      refine s_runk tLinkC Z 1 rfl rfl ?_; clear Z a; intro a Z
      refine s_ob Z (v := .int .i64 (j_2 + 1)) rfl rfl (by decide) rfl (Ob_add rfl rfl rfl (wrI hg12)) ?_; clear Z a; intro a Z
      refine s_runk tLinkC Z 1 rfl rfl ?_; clear Z a; intro a Z
      refine s_end Z [0, 1, 3, 5, 6, 7, 8, 9, 11, 23, 24, 27, 28, 29, 30, 31, 32, 33, 36, 39, 40, 41, 42, 43, 44, 45, 46, 47, 48, 49, 50, 51, 52, 55, 58, 59, 60, 61, 62, 63, 56, 57] rfl ?_; clear Z; intro Z
      refine p_then ?_
      exact ⟨(got_6 ++ (i_3.1.getD (j_2).toNat default), j_2 + 1), ⟨Z.sub (ts := [0, 1, 3, 5, 6, 7, 8, 9, 11, 23, 24, 27, 28, 29, 30, 31, 32, 33, 36, 39, 40, 41, 42, 43, 44, 45, 46, 47]) rfl, ⟨I17, (H.sub [(0, false), (0, true), (1, true)] rfl).eq rfl⟩⟩, hF⟩
     ·replace hF := ite_f hc7 hF
      refine wp_exit ?_
      refine p_then_x ?_
      refine p_then_x ?_
      refine f_exit_here ?_
      refine p_blk ?_
      refine p_then ?_
      obtain ⟨hg13, hF⟩ := chk_in hF
      refine f_region Z ?_; clear Z; intro Z
      refine s_runk tLinkC Z 1 rfl rfl ?_; clear Z a; intro a Z
      refine s_ob Z (v := .int .i64 (k_3 + 1)) rfl rfl (by decide) rfl (Ob_add rfl rfl rfl (wrI hg13)) ?_; clear Z a; intro a Z
      refine s_runk tLinkC Z 1 rfl rfl ?_; clear Z a; intro a Z
      refine s_end Z [0, 1, 3, 5, 6, 7, 8, 9, 11, 23, 24, 27, 28, 29, 30, 31, 32, 33, 36, 39, 40, 41, 42, 43, 44, 45, 46, 47, 48, 49, 50, 51, 52, 55, 37, 38] rfl ?_; clear Z; intro Z
      refine p_then ?_
      exact ⟨(got_6, k_3 + 1, i_3.2.2), ⟨Z.sub (ts := [0, 1, 3, 5, 6, 7, 8, 23, 24, 27, 28]) rfl, ⟨I17, (H.sub [(0, false), (1, true)] rfl).eq rfl⟩⟩, hF⟩
    ·replace hF := ite_f hc6 hF
     refine wp_exit ?_
     refine p_then_x ?_
     refine p_then_x ?_
     refine f_exit_here ?_
     refine p_then (wp_seq ?_)
     obtain ⟨o, hx13, hF⟩ := bnd_in hF
     refine f_region Z ?_; clear Z; intro Z
     refine s_runk tLinkC Z 1 rfl rfl ?_; clear Z a; intro a Z
     refine h_call Z H (js := [(0, false)]) rfl (caps := #[]) fn_13_YLinkC rfl rfl rfl rfl rfl (by decide) rfl rfl (fun D1 hS => have hq := c_link_Link_Out hx13 hS; hq) ?_; clear Z a; intro vv a w20 D2 hr hF2 Z
     obtain ⟨q9, hvv, I18, K⟩ := hr; obtain rfl := hvv.symm
     have H : Hf I D w I18 w20 [OElink_Link b2 o.2, SlC NESeg q9 o.1, SlC NESeg q7 n0_11] := hF2 K
     clear hF2 K
     refine s_runk tLinkC Z 1 rfl rfl ?_; clear Z a; intro a Z
     refine s_end Z [0, 1, 3, 5, 6, 7, 8, 23, 24, 27, 28, 29, 30, 31, 32, 33, 36, 64, 65] rfl ?_; clear Z; intro Z
     refine p_then (wp_seq (f_region Z ?_)); clear Z; intro Z
     refine s_runk tLinkC Z 1 rfl rfl ?_; clear Z a; intro a Z
     refine s_end Z [0, 1, 3, 5, 6, 7, 8, 23, 24, 27, 28, 29, 30, 31, 32, 33, 36, 64, 65, 12] rfl ?_; clear Z; intro Z
     refine p_then (wp_block ?_)
     refine f_iter hF (fun sg a' w' => match sg with | k_4 => Sl 94 [(0, .bool false), (1, .pointer none), (3, .pointer (some ⟨b2, 0, none⟩)), (5, .string got_5), (6, .int .i64 i_2), (7, q9), (8, .int .i64 k_3), (12, .int .i64 k_4), (23, .int .i64 i_2), (24, .bool (decide (i_2 < 4))), (27, .pointer none), (28, q7), (29, .int .i64 k_3), (30, q7), (31, .int .i64 (n0_11.length : Int)), (32, .bool (decide (k_3 < (n0_11.length : Int)))), (33, .bool (decide (k_3 < (n0_11.length : Int)))), (36, .bool ((decide (k_3 < (n0_11.length : Int))) && (decide (k_3 < 9)))), (64, .pointer (some ⟨b2, 0, none⟩)), (65, q9)] a' ∧ ∃ I2, Hf I D w I2 w' [OElink_Link b2 o.2, SlC NESeg q9 o.1, SlC NESeg q7 n0_11]) ⟨Z.sub (ts := [0, 1, 3, 5, 6, 7, 8, 12, 23, 24, 27, 28, 29, 30, 31, 32, 33, 36, 64, 65]) rfl, ⟨I18, (H.sub [(0, false), (0, true), (1, true)] rfl).eq rfl⟩⟩ ?_
     clear Z H hF a
     rintro rc_8 k_4 a w21 ⟨Z, I19, H⟩ hF
     unfold F_law22_awake_l8 at hF
     try dsimp only at hF
     refine wp_seq ?_
     refine wp_seq (f_region Z ?_); clear Z; intro Z
     refine s_runk tLinkC Z 2 rfl rfl ?_; clear Z a; intro a Z
     refine s_ob Z (v := .int .i64 (o.1.length : Int)) rfl rfl (by decide) rfl (Ob_slen tLinkC rfl rfl rfl (H.slshape 1 rfl)) ?_; clear Z a; intro a Z
     refine s_runk tLinkC Z 2 rfl rfl ?_; clear Z a; intro a Z
     refine g_ob Z (p := (decide (k_4 < (o.1.length : Int)))) (v := .int .i64 k_4) (S' := [(12, .int .i64 k_4)]) rfl rfl rfl (wantB_t _) rfl (by decide) (fun hp hS => hS.sub (ts := [12]) rfl) (fun hp => Ob_c tLinkC rfl) ?_; clear Z a; intro a Z
     refine g_ob Z (p := (decide (k_4 < (o.1.length : Int)))) (v := .bool (decide (k_4 < 9))) (S' := [(71, .int .i64 k_4)]) rfl rfl rfl (wantB_t _) rfl (by decide) (fun hp hS => (hS.conv (t := 71) rfl (cond_t hp)).sub (ts := [71]) rfl) (fun hp => Ob_c tLinkC rfl) ?_; clear Z a; intro a Z
     refine s_ob Z (v := .bool ((decide (k_4 < (o.1.length : Int))) && (decide (k_4 < 9)))) rfl rfl (by decide) rfl (Ob_pick rfl rfl rfl rfl (pick_and _ _)) ?_; clear Z a; intro a Z
     refine s_end Z [0, 1, 3, 5, 6, 7, 8, 12, 23, 24, 27, 28, 29, 30, 31, 32, 33, 36, 64, 65, 66, 67, 68, 69, 70, 73] rfl ?_; clear Z; intro Z
     refine p_then ?_
     refine f_cond Z rfl (fun hc8 => ?_) (fun hc8 => ?_)
     ·replace hF := ite_t hc8 hF
      refine wp_skip ?_
      refine p_then (wp_seq ?_)
      refine wp_block ?_
      obtain ⟨hg14, hF⟩ := chk_in hF
      obtain ⟨n0_12, hx14, hF⟩ := bnd_in hF
      refine f_region Z ?_; clear Z; intro Z
      refine s_runk tLinkC Z 3 rfl rfl ?_; clear Z a; intro a Z
      refine s_ob Z (v := .pointer (some ⟨blkOf q9, oofOf q9 + (k_4).toNat * 8, none⟩)) rfl rfl (by decide) rfl (Ob_sidx tLinkC rfl rfl rfl rfl (slPl (H.sl 1 rfl) hg14) hg14) ?_; clear Z a; intro a Z
      refine s_ob Z (v := .agg #[.int .i64 ((o.1.getD (k_4).toNat default).boot), .int .i64 ((o.1.getD (k_4).toNat default).stream), .int .i64 ((o.1.getD (k_4).toNat default).seq), .int .i64 ((o.1.getD (k_4).toNat default).ackBoot), .int .i64 ((o.1.getD (k_4).toNat default).ackStream), .int .i64 ((o.1.getD (k_4).toNat default).ackSeq), .bool ((o.1.getD (k_4).toNat default).has), .string ((o.1.getD (k_4).toNat default).body)]) rfl rfl (by decide) rfl (Ob_loads tLinkC rfl rfl rfl ((slFl (H.sl 1 rfl) hg14).part 0 rfl)) ?_; clear Z a; intro a Z
      refine h_call Z H (js := []) rfl (caps := #[]) fn_15_YLinkC rfl rfl rfl rfl rfl (by decide) rfl rfl (fun D1 hS => have hq := c_link_Link_In_nil hx14 hS; hq) ?_; clear Z a; intro vv a w22 D2 hr hF2 Z
      obtain ⟨q10, rfl, I20, K⟩ := hr
      have H : Hf I D w I20 w22 [SlC NS q10 n0_12.1, OElink_Link b2 o.2, SlC NESeg q9 o.1, SlC NESeg q7 n0_11] := hF2 K
      clear hF2 K
      refine s_end Z [0, 1, 3, 5, 6, 7, 8, 12, 23, 24, 27, 28, 29, 30, 31, 32, 33, 36, 64, 65, 66, 67, 68, 69, 70, 73, 76, 77, 78, 79, 80] rfl ?_; clear Z; intro Z
      refine p_blk ?_
      refine p_then ?_
      obtain ⟨hg15, hF⟩ := chk_in hF
      refine f_region Z ?_; clear Z; intro Z
      refine s_runk tLinkC Z 1 rfl rfl ?_; clear Z a; intro a Z
      refine s_ob Z (v := .int .i64 (k_4 + 1)) rfl rfl (by decide) rfl (Ob_add rfl rfl rfl (wrI hg15)) ?_; clear Z a; intro a Z
      refine s_runk tLinkC Z 1 rfl rfl ?_; clear Z a; intro a Z
      refine s_end Z [0, 1, 3, 5, 6, 7, 8, 12, 23, 24, 27, 28, 29, 30, 31, 32, 33, 36, 64, 65, 66, 67, 68, 69, 70, 73, 76, 77, 78, 79, 80, 74, 75] rfl ?_; clear Z; intro Z
      refine p_then ?_
      exact ⟨(k_4 + 1), ⟨Z.sub (ts := [0, 1, 3, 5, 6, 7, 8, 12, 23, 24, 27, 28, 29, 30, 31, 32, 33, 36, 64, 65]) rfl, ⟨I20, (H.sub [(1, false), (1, true), (2, true)] rfl).eq rfl⟩⟩, hF⟩
     ·replace hF := ite_f hc8 hF
      refine wp_exit ?_
      refine p_then_x ?_
      refine p_then_x ?_
      refine f_exit_here ?_
      refine p_blk ?_
      refine p_then ?_
      obtain ⟨hg16, hF⟩ := chk_in hF
      refine f_region Z ?_; clear Z; intro Z
      refine s_runk tLinkC Z 1 rfl rfl ?_; clear Z a; intro a Z
      refine s_ob Z (v := .int .i64 (i_2 + 1)) rfl rfl (by decide) rfl (Ob_add rfl rfl rfl (wrI hg16)) ?_; clear Z a; intro a Z
      refine s_runk tLinkC Z 1 rfl rfl ?_; clear Z a; intro a Z
      refine s_end Z [0, 1, 3, 5, 6, 7, 8, 12, 23, 24, 27, 28, 29, 30, 31, 32, 33, 36, 64, 65, 66, 67, 68, 69, 70, 73, 25, 26] rfl ?_; clear Z; intro Z
      refine p_then ?_
      exact ⟨(got_5, i_2 + 1, o.2), ⟨Z.sub (ts := [0, 1, 3, 5, 6]) rfl, ⟨I19, (H.sub [(0, false)] rfl).eq rfl⟩⟩, hF⟩
   ·replace hF := ite_f hc5 hF
    refine wp_exit ?_
    refine p_then_x ?_
    refine p_then_x ?_
    refine f_exit_here ?_
    refine p_then (wp_seq ?_)
    obtain ⟨n0_13, hx15, hF⟩ := bnd_in hF
    obtain ⟨n0_14, hx16, hF⟩ := bnd_in hF
    refine f_region Z ?_; clear Z; intro Z
    refine s_runk tLinkC Z 3 rfl rfl ?_; clear Z a; intro a Z
    refine g_ob Z (p := (seqB got_4 ⟨#[120]⟩)) (v := .pointer none) (S' := [(1, .pointer none)]) rfl rfl rfl (wantB_t _) rfl (by decide) (fun hp hS => hS.sub (ts := [1]) rfl) (fun hp => Ob_c tLinkC rfl) ?_; clear Z a; intro a Z
    refine g_call Z (p := (seqB got_4 ⟨#[120]⟩)) (v := .int .i64 n0_13) (S' := [(85, .pointer none)]) (caps := #[]) fn_18_YLinkC rfl rfl rfl (wantB_t _) rfl (by decide) (fun hp hS => (hS.conv (t := 85) rfl (cond_t hp)).sub (ts := [85]) rfl) rfl rfl rfl rfl (fun hp => (have hq := c_link_Link_Waiting_nil (gif_in hx15 hp) ((H).pick0 (js := []) rfl rfl); plainC hq)) ?_; clear Z a; intro a w23 hb Z
    replace H : Hf I D w I13 w23 [OElink_Link b2 b] := H.blw hb
    clear hb
    refine g_ob Z (p := (seqB got_4 ⟨#[120]⟩)) (v := .bool (n0_13 == 0)) (S' := [(86, .int .i64 n0_13)]) rfl rfl rfl (wantB_t _) rfl (by decide) (fun hp hS => (hS.conv (t := 86) rfl (cond_t hp)).sub (ts := [86]) rfl) (fun hp => Ob_c tLinkC rfl) ?_; clear Z a; intro a Z
    refine s_ob Z (v := .bool ((seqB got_4 ⟨#[120]⟩) && (n0_13 == 0))) rfl rfl (by decide) rfl (Ob_pick rfl rfl rfl rfl (pick_and _ _)) ?_; clear Z a; intro a Z
    refine s_runk tLinkC Z 1 rfl rfl ?_; clear Z a; intro a Z
    refine g_ob Z (p := ((seqB got_4 ⟨#[120]⟩) && (n0_13 == 0))) (v := .pointer none) (S' := [(1, .pointer none)]) rfl rfl rfl (wantB_t _) rfl (by decide) (fun hp hS => hS.sub (ts := [1]) rfl) (fun hp => Ob_c tLinkC rfl) ?_; clear Z a; intro a Z
    refine g_call Z (p := ((seqB got_4 ⟨#[120]⟩) && (n0_13 == 0))) (v := .int .i64 n0_14) (S' := [(90, .pointer none)]) (caps := #[]) fn_19_YLinkC rfl rfl rfl (wantB_t _) rfl (by decide) (fun hp hS => (hS.conv (t := 90) rfl (cond_t hp)).sub (ts := [90]) rfl) rfl rfl rfl rfl (fun hp => (have hq := c_link_Link_Knows_nil (gif_in hx16 hp) ((H).pick0 (js := []) rfl rfl); plainC hq)) ?_; clear Z a; intro a w24 hb Z
    replace H : Hf I D w I13 w24 [OElink_Link b2 b] := H.blw hb
    clear hb
    refine g_ob Z (p := ((seqB got_4 ⟨#[120]⟩) && (n0_13 == 0))) (v := .bool (n0_14 == 1)) (S' := [(91, .int .i64 n0_14)]) rfl rfl rfl (wantB_t _) rfl (by decide) (fun hp hS => (hS.conv (t := 91) rfl (cond_t hp)).sub (ts := [91]) rfl) (fun hp => Ob_c tLinkC rfl) ?_; clear Z a; intro a Z
    refine s_ob Z (v := .bool (((seqB got_4 ⟨#[120]⟩) && (n0_13 == 0)) && (n0_14 == 1))) rfl rfl (by decide) rfl (Ob_pick rfl rfl rfl rfl (pick_and _ _)) ?_; clear Z a; intro a Z
    refine s_runk tLinkC Z 1 rfl rfl ?_; clear Z a; intro a Z
    refine s_end Z [0] rfl ?_; clear Z; intro Z
    refine p_then (wp_ret ?_)
    obtain rfl := some_in hF
    exact f_ret Z (run_results1 rfl Z rfl) ⟨rfl, I13, (H.sub [] rfl).eq rfl⟩
 ·obtain ⟨b1, hv, H⟩ := H.optS 0 rfl ho1
  subst hv
  replace H : Hf I D w I1 w1 [OElink_Link b1 x] := H
  refine p_then (wp_seq ?_)
  obtain ⟨n0_15, hx17, hF⟩ := bnd_in hF
  refine f_region Z ?_; clear Z; intro Z
  refine h_call Z H (js := []) rfl (caps := #[]) fn_8_YLinkC rfl rfl rfl rfl rfl (by decide) rfl rfl (fun D1 hS => have hq := c_link_New hx17 hS; hq) ?_; clear Z a; intro vv a w25 D2 hr hF2 Z
  obtain ⟨q11, rfl, I21, K⟩ := hr
  have H : Hf I D w I21 w25 [PtC OElink_Link q11 n0_15.1, OElink_Link b1 x] := hF2 K
  clear hF2 K
  refine s_runk tLinkC Z 5 rfl rfl ?_; clear Z a; intro a Z
  refine s_end Z [0, 1, 3] rfl ?_; clear Z; intro Z
  rcases optE_in hF with ⟨ho3, hF⟩ | ⟨x_3, ho3, hF⟩
  ·obtain ⟨hv, H⟩ := H.optN 0 rfl ho3
   subst hv
   replace H : Hf I D w I21 w25 [OElink_Link b1 x] := H
   refine p_then (wp_seq ?_)
   obtain ⟨s0, hx18, hF⟩ := bnd_in hF
   refine f_region Z ?_; clear Z; intro Z
   refine s_runk tLinkC Z 1 rfl rfl ?_; clear Z a; intro a Z
   refine h_call Z H (js := [(0, false)]) rfl (caps := #[]) fn_10_YLinkC rfl rfl rfl rfl rfl (by decide) rfl rfl (fun D1 hS => have hq := c_link_Link_Send hx18 hS; hq) ?_; clear Z a; intro vv a w26 D2 hr hF2 Z
   obtain ⟨rfl, I22, K⟩ := hr
   have H : Hf I D w I22 w26 [OElink_Link b1 s0.2] := hF2 K
   clear hF2 K
   refine s_end Z [0, 1, 3] rfl ?_; clear Z; intro Z
   refine p_then (wp_seq (f_region Z ?_)); clear Z; intro Z
   refine s_runk tLinkC Z 1 rfl rfl ?_; clear Z a; intro a Z
   refine s_end Z [0, 1, 3, 5] rfl ?_; clear Z; intro Z
   refine p_then (wp_seq ?_)
   refine wp_seq (f_region Z ?_); clear Z; intro Z
   refine s_runk tLinkC Z 1 rfl rfl ?_; clear Z a; intro a Z
   refine s_end Z [0, 1, 3, 5, 6] rfl ?_; clear Z; intro Z
   refine p_then (wp_block ?_)
   refine f_iter hF (fun sg a' w' => match sg with | (got_7, i_4, a0) => Sl 94 [(0, .bool false), (1, .pointer (some ⟨b1, 0, none⟩)), (3, .pointer none), (5, .string got_7), (6, .int .i64 i_4)] a' ∧ ∃ I2, Hf I D w I2 w' [OElink_Link b1 a0]) ⟨Z.sub (ts := [0, 1, 3, 5, 6]) rfl, ⟨I22, (H.sub [(0, false)] rfl).eq rfl⟩⟩ ?_
   clear Z H hF a
   rintro rc_9 ⟨got_7, i_4, a0⟩ a w27 ⟨Z, I23, H⟩ hF
   unfold F_law22_awake_l9 at hF
   try dsimp only at hF
   refine wp_seq ?_
   refine wp_seq (f_region Z ?_); clear Z; intro Z
   refine s_runk tLinkC Z 2 rfl rfl ?_; clear Z a; intro a Z
   refine s_end Z [0, 1, 3, 5, 6, 23, 24] rfl ?_; clear Z; intro Z
   refine p_then ?_
   refine f_cond Z rfl (fun hc9 => ?_) (fun hc9 => ?_)
   ·replace hF := ite_t hc9 hF
    refine wp_skip ?_
    refine p_then (wp_seq ?_)
    refine wp_block ?_
    refine wp_seq ?_
    obtain ⟨o_2, hx19, hF⟩ := bnd_in hF
    refine f_region Z ?_; clear Z; intro Z
    refine s_runk tLinkC Z 1 rfl rfl ?_; clear Z a; intro a Z
    refine h_call Z H (js := [(0, false)]) rfl (caps := #[]) fn_13_YLinkC rfl rfl rfl rfl rfl (by decide) rfl rfl (fun D1 hS => have hq := c_link_Link_Out hx19 hS; hq) ?_; clear Z a; intro vv a w28 D2 hr hF2 Z
    obtain ⟨q12, hvv, I24, K⟩ := hr; obtain rfl := hvv.symm
    have H : Hf I D w I24 w28 [OElink_Link b1 o_2.2, SlC NESeg q12 o_2.1] := hF2 K
    clear hF2 K
    refine s_runk tLinkC Z 1 rfl rfl ?_; clear Z a; intro a Z
    refine s_end Z [0, 1, 3, 5, 6, 23, 24, 27, 28, 7] rfl ?_; clear Z; intro Z
    refine p_then (wp_seq ?_)
    refine wp_seq (f_region Z ?_); clear Z; intro Z
    refine s_runk tLinkC Z 1 rfl rfl ?_; clear Z a; intro a Z
    refine s_end Z [0, 1, 3, 5, 6, 23, 24, 27, 28, 7, 8] rfl ?_; clear Z; intro Z
    refine p_then (wp_block ?_)
    refine f_iter hF (fun sg a' w' => match sg with | (got_8, k_5) => Sl 94 [(0, .bool false), (1, .pointer (some ⟨b1, 0, none⟩)), (3, .pointer none), (5, .string got_8), (6, .int .i64 i_4), (7, q12), (8, .int .i64 k_5), (23, .int .i64 i_4), (24, .bool (decide (i_4 < 4))), (27, .pointer (some ⟨b1, 0, none⟩)), (28, q12)] a' ∧ ∃ I2, Hf I D w I2 w' [OElink_Link b1 o_2.2, SlC NESeg q12 o_2.1]) ⟨Z.sub (ts := [0, 1, 3, 5, 6, 7, 8, 23, 24, 27, 28]) rfl, ⟨I24, (H.sub [(0, false), (0, true)] rfl).eq rfl⟩⟩ ?_
    clear Z H hF a
    rintro rc_10 ⟨got_8, k_5⟩ a w29 ⟨Z, I25, H⟩ hF
    unfold F_law22_awake_l10 at hF
    try dsimp only at hF
    refine wp_seq ?_
    refine wp_seq (f_region Z ?_); clear Z; intro Z
    refine s_runk tLinkC Z 2 rfl rfl ?_; clear Z a; intro a Z
    refine s_ob Z (v := .int .i64 (o_2.1.length : Int)) rfl rfl (by decide) rfl (Ob_slen tLinkC rfl rfl rfl (H.slshape 1 rfl)) ?_; clear Z a; intro a Z
    refine s_runk tLinkC Z 2 rfl rfl ?_; clear Z a; intro a Z
    refine g_ob Z (p := (decide (k_5 < (o_2.1.length : Int)))) (v := .int .i64 k_5) (S' := [(8, .int .i64 k_5)]) rfl rfl rfl (wantB_t _) rfl (by decide) (fun hp hS => hS.sub (ts := [8]) rfl) (fun hp => Ob_c tLinkC rfl) ?_; clear Z a; intro a Z
    refine g_ob Z (p := (decide (k_5 < (o_2.1.length : Int)))) (v := .bool (decide (k_5 < 9))) (S' := [(34, .int .i64 k_5)]) rfl rfl rfl (wantB_t _) rfl (by decide) (fun hp hS => (hS.conv (t := 34) rfl (cond_t hp)).sub (ts := [34]) rfl) (fun hp => Ob_c tLinkC rfl) ?_; clear Z a; intro a Z
    refine s_ob Z (v := .bool ((decide (k_5 < (o_2.1.length : Int))) && (decide (k_5 < 9)))) rfl rfl (by decide) rfl (Ob_pick rfl rfl rfl rfl (pick_and _ _)) ?_; clear Z a; intro a Z
    refine s_end Z [0, 1, 3, 5, 6, 7, 8, 23, 24, 27, 28, 29, 30, 31, 32, 33, 36] rfl ?_; clear Z; intro Z
    refine p_then ?_
    refine f_cond Z rfl (fun hc10 => ?_) (fun hc10 => ?_)
    ·replace hF := ite_t hc10 hF
     refine wp_skip ?_
     refine p_then (wp_seq ?_)
     refine wp_block ?_
     refine wp_seq ?_
     obtain ⟨hg17, hF⟩ := chk_in hF
     obtain ⟨n0_16, hx20, hF⟩ := bnd_in hF
     refine f_region Z ?_; clear Z; intro Z
     refine s_runk tLinkC Z 3 rfl rfl ?_; clear Z a; intro a Z
     refine s_ob Z (v := .pointer (some ⟨blkOf q12, oofOf q12 + (k_5).toNat * 8, none⟩)) rfl rfl (by decide) rfl (Ob_sidx tLinkC rfl rfl rfl rfl (slPl (H.sl 1 rfl) hg17) hg17) ?_; clear Z a; intro a Z
     refine s_ob Z (v := .agg #[.int .i64 ((o_2.1.getD (k_5).toNat default).boot), .int .i64 ((o_2.1.getD (k_5).toNat default).stream), .int .i64 ((o_2.1.getD (k_5).toNat default).seq), .int .i64 ((o_2.1.getD (k_5).toNat default).ackBoot), .int .i64 ((o_2.1.getD (k_5).toNat default).ackStream), .int .i64 ((o_2.1.getD (k_5).toNat default).ackSeq), .bool ((o_2.1.getD (k_5).toNat default).has), .string ((o_2.1.getD (k_5).toNat default).body)]) rfl rfl (by decide) rfl (Ob_loads tLinkC rfl rfl rfl ((slFl (H.sl 1 rfl) hg17).part 0 rfl)) ?_; clear Z a; intro a Z
     refine h_call Z H (js := []) rfl (caps := #[]) fn_15_YLinkC rfl rfl rfl rfl rfl (by decide) rfl rfl (fun D1 hS => have hq := c_link_Link_In_nil hx20 hS; hq) ?_; clear Z a; intro vv a w30 D2 hr hF2 Z
     obtain ⟨q13, rfl, I26, K⟩ := hr
     have H : Hf I D w I26 w30 [SlC NS q13 n0_16.1, OElink_Link b1 o_2.2, SlC NESeg q12 o_2.1] := hF2 K
     clear hF2 K
     refine s_runk tLinkC Z 5 rfl rfl ?_; clear Z a; intro a Z
     refine s_end Z [0, 1, 3, 5, 6, 7, 8, 23, 24, 27, 28, 29, 30, 31, 32, 33, 36, 40, 41, 42, 43, 44, 45, 39, 46, 47, 9] rfl ?_; clear Z; intro Z
     refine p_then (wp_seq (f_region Z ?_)); clear Z; intro Z
     refine s_runk tLinkC Z 1 rfl rfl ?_; clear Z a; intro a Z
     refine s_end Z [0, 1, 3, 5, 6, 7, 8, 23, 24, 27, 28, 29, 30, 31, 32, 33, 36, 40, 41, 42, 43, 44, 45, 39, 46, 47, 9, 11] rfl ?_; clear Z; intro Z
     refine p_then (wp_block ?_)
     refine f_iter hF (fun sg a' w' => match sg with | (got_9, j_3) => Sl 94 [(0, .bool false), (1, .pointer (some ⟨b1, 0, none⟩)), (3, .pointer none), (5, .string got_9), (6, .int .i64 i_4), (7, q12), (8, .int .i64 k_5), (9, q13), (11, .int .i64 j_3), (23, .int .i64 i_4), (24, .bool (decide (i_4 < 4))), (27, .pointer (some ⟨b1, 0, none⟩)), (28, q12), (29, .int .i64 k_5), (30, q12), (31, .int .i64 (o_2.1.length : Int)), (32, .bool (decide (k_5 < (o_2.1.length : Int)))), (33, .bool (decide (k_5 < (o_2.1.length : Int)))), (36, .bool ((decide (k_5 < (o_2.1.length : Int))) && (decide (k_5 < 9)))), (39, .tuple #[q13, .int .i64 n0_16.2]), (40, .pointer none), (41, q12), (42, .int .i64 k_5), (43, .pointer (some ⟨blkOf q12, oofOf q12 + (k_5).toNat * 8, none⟩)), (44, .agg #[.int .i64 ((o_2.1.getD (k_5).toNat default).boot), .int .i64 ((o_2.1.getD (k_5).toNat default).stream), .int .i64 ((o_2.1.getD (k_5).toNat default).seq), .int .i64 ((o_2.1.getD (k_5).toNat default).ackBoot), .int .i64 ((o_2.1.getD (k_5).toNat default).ackStream), .int .i64 ((o_2.1.getD (k_5).toNat default).ackSeq), .bool ((o_2.1.getD (k_5).toNat default).has), .string ((o_2.1.getD (k_5).toNat default).body)]), (45, .tuple #[q13, .int .i64 n0_16.2]), (46, q13), (47, .int .i64 n0_16.2)] a' ∧ ∃ I2, Hf I D w I2 w' [OElink_Link b1 o_2.2, SlC NS q13 n0_16.1, SlC NESeg q12 o_2.1]) ⟨Z.sub (ts := [0, 1, 3, 5, 6, 7, 8, 9, 11, 23, 24, 27, 28, 29, 30, 31, 32, 33, 36, 39, 40, 41, 42, 43, 44, 45, 46, 47]) rfl, ⟨I26, (H.sub [(1, false), (0, true), (1, true)] rfl).eq rfl⟩⟩ ?_
     clear Z H hF a
     rintro rc_11 ⟨got_9, j_3⟩ a w31 ⟨Z, I27, H⟩ hF
     unfold F_law22_awake_l11 at hF
     try dsimp only at hF
     refine wp_seq ?_
     refine wp_seq (f_region Z ?_); clear Z; intro Z
     refine s_runk tLinkC Z 2 rfl rfl ?_; clear Z a; intro a Z
     refine s_ob Z (v := .int .i64 (n0_16.1.length : Int)) rfl rfl (by decide) rfl (Ob_slen tLinkC rfl rfl rfl (H.slshape 1 rfl)) ?_; clear Z a; intro a Z
     refine s_runk tLinkC Z 2 rfl rfl ?_; clear Z a; intro a Z
     refine g_ob Z (p := (decide (j_3 < (n0_16.1.length : Int)))) (v := .int .i64 j_3) (S' := [(11, .int .i64 j_3)]) rfl rfl rfl (wantB_t _) rfl (by decide) (fun hp hS => hS.sub (ts := [11]) rfl) (fun hp => Ob_c tLinkC rfl) ?_; clear Z a; intro a Z
     refine g_ob Z (p := (decide (j_3 < (n0_16.1.length : Int)))) (v := .bool (decide (j_3 < 9))) (S' := [(53, .int .i64 j_3)]) rfl rfl rfl (wantB_t _) rfl (by decide) (fun hp hS => (hS.conv (t := 53) rfl (cond_t hp)).sub (ts := [53]) rfl) (fun hp => Ob_c tLinkC rfl) ?_; clear Z a; intro a Z
     refine s_ob Z (v := .bool ((decide (j_3 < (n0_16.1.length : Int))) && (decide (j_3 < 9)))) rfl rfl (by decide) rfl (Ob_pick rfl rfl rfl rfl (pick_and _ _)) ?_; clear Z a; intro a Z
     refine s_end Z [0, 1, 3, 5, 6, 7, 8, 9, 11, 23, 24, 27, 28, 29, 30, 31, 32, 33, 36, 39, 40, 41, 42, 43, 44, 45, 46, 47, 48, 49, 50, 51, 52, 55] rfl ?_; clear Z; intro Z
     refine p_then ?_
     refine f_cond Z rfl (fun hc11 => ?_) (fun hc11 => ?_)
     ·replace hF := ite_t hc11 hF
      refine wp_skip ?_
      refine p_then (wp_seq ?_)
      refine wp_block ?_
      obtain ⟨hg18, hF⟩ := chk_in hF
      obtain ⟨hg19, hF⟩ := chk_in hF
      refine f_region Z ?_; clear Z; intro Z
      refine s_runk tLinkC Z 3 rfl rfl ?_; clear Z a; intro a Z
      refine s_ob Z (v := .pointer (some ⟨blkOf q13, oofOf q13 + (j_3).toNat * 1, none⟩)) rfl rfl (by decide) rfl (Ob_sidx tLinkC rfl rfl rfl rfl (slPl (H.sl 1 rfl) hg18) hg18) ?_; clear Z a; intro a Z
      refine s_ob Z (v := .string (n0_16.1.getD (j_3).toNat default)) rfl rfl (by decide) rfl (Ob_load tLinkC rfl rfl rfl ((slFl (H.sl 1 rfl) hg18) 0 _ rfl)) ?_; clear Z a; intro a Z
      refine s_ob Z (v := .string (got_9 ++ (n0_16.1.getD (j_3).toNat default))) rfl rfl (by decide) rfl (Ob_cat rfl rfl rfl hg19) ?_; clear Z a; intro a Z
      refine s_runk tLinkC Z 1 rfl rfl ?_; clear Z a; intro a Z
      refine s_end Z [0, 1, 3, 5, 6, 7, 8, 9, 11, 23, 24, 27, 28, 29, 30, 31, 32, 33, 36, 39, 40, 41, 42, 43, 44, 45, 46, 47, 48, 49, 50, 51, 52, 55, 58, 59, 60, 61, 62, 63] rfl ?_; clear Z; intro Z
      refine p_blk ?_
      refine p_then ?_
      obtain ⟨hg20, hF⟩ := chk_in hF
      refine f_region Z ?_; clear Z; intro Z
      refine s_runk tLinkC Z 1 rfl rfl ?_; clear Z a; intro a Z
      refine s_ob Z (v := .int .i64 (j_3 + 1)) rfl rfl (by decide) rfl (Ob_add rfl rfl rfl (wrI hg20)) ?_; clear Z a; intro a Z
      refine s_runk tLinkC Z 1 rfl rfl ?_; clear Z a; intro a Z
      refine s_end Z [0, 1, 3, 5, 6, 7, 8, 9, 11, 23, 24, 27, 28, 29, 30, 31, 32, 33, 36, 39, 40, 41, 42, 43, 44, 45, 46, 47, 48, 49, 50, 51, 52, 55, 58, 59, 60, 61, 62, 63, 56, 57] rfl ?_; clear Z; intro Z
      refine p_then ?_
      exact ⟨(got_9 ++ (n0_16.1.getD (j_3).toNat default), j_3 + 1), ⟨Z.sub (ts := [0, 1, 3, 5, 6, 7, 8, 9, 11, 23, 24, 27, 28, 29, 30, 31, 32, 33, 36, 39, 40, 41, 42, 43, 44, 45, 46, 47]) rfl, ⟨I27, (H.sub [(0, false), (0, true), (1, true)] rfl).eq rfl⟩⟩, hF⟩
     ·replace hF := ite_f hc11 hF
      refine wp_exit ?_
      refine p_then_x ?_
      refine p_then_x ?_
      refine f_exit_here ?_
      refine p_blk ?_
      refine p_then ?_
      obtain ⟨hg21, hF⟩ := chk_in hF
      refine f_region Z ?_; clear Z; intro Z
      refine s_runk tLinkC Z 1 rfl rfl ?_; clear Z a; intro a Z
      refine s_ob Z (v := .int .i64 (k_5 + 1)) rfl rfl (by decide) rfl (Ob_add rfl rfl rfl (wrI hg21)) ?_; clear Z a; intro a Z
      refine s_runk tLinkC Z 1 rfl rfl ?_; clear Z a; intro a Z
      refine s_end Z [0, 1, 3, 5, 6, 7, 8, 9, 11, 23, 24, 27, 28, 29, 30, 31, 32, 33, 36, 39, 40, 41, 42, 43, 44, 45, 46, 47, 48, 49, 50, 51, 52, 55, 37, 38] rfl ?_; clear Z; intro Z
      refine p_then ?_
      exact ⟨(got_9, k_5 + 1), ⟨Z.sub (ts := [0, 1, 3, 5, 6, 7, 8, 23, 24, 27, 28]) rfl, ⟨I27, (H.sub [(0, false), (1, true)] rfl).eq rfl⟩⟩, hF⟩
    ·replace hF := ite_f hc10 hF
     refine wp_exit ?_
     refine p_then_x ?_
     refine p_then_x ?_
     refine f_exit_here ?_
     refine p_then (wp_seq ?_)
     obtain ⟨n0_17, hx21, hF⟩ := bnd_in hF
     refine f_region Z ?_; clear Z; intro Z
     refine s_runk tLinkC Z 1 rfl rfl ?_; clear Z a; intro a Z
     refine h_call Z H (js := []) rfl (caps := #[]) fn_13_YLinkC rfl rfl rfl rfl rfl (by decide) rfl rfl (fun D1 hS => have hq := c_link_Link_Out_nil hx21 hS; hq) ?_; clear Z a; intro vv a w32 D2 hr hF2 Z
     obtain ⟨q14, hvv, I28, K⟩ := hr; obtain rfl := hvv.symm
     have H : Hf I D w I28 w32 [SlC NESeg q14 n0_17, OElink_Link b1 o_2.2, SlC NESeg q12 o_2.1] := hF2 K
     clear hF2 K
     refine s_runk tLinkC Z 1 rfl rfl ?_; clear Z a; intro a Z
     refine s_end Z [0, 1, 3, 5, 6, 7, 8, 23, 24, 27, 28, 29, 30, 31, 32, 33, 36, 64, 65] rfl ?_; clear Z; intro Z
     refine p_then (wp_seq (f_region Z ?_)); clear Z; intro Z
     refine s_runk tLinkC Z 1 rfl rfl ?_; clear Z a; intro a Z
     refine s_end Z [0, 1, 3, 5, 6, 7, 8, 23, 24, 27, 28, 29, 30, 31, 32, 33, 36, 64, 65, 12] rfl ?_; clear Z; intro Z
     refine p_then (wp_block ?_)
     refine f_iter hF (fun sg a' w' => match sg with | (k_6, a0_2) => Sl 94 [(0, .bool false), (1, .pointer (some ⟨b1, 0, none⟩)), (3, .pointer none), (5, .string got_8), (6, .int .i64 i_4), (7, q14), (8, .int .i64 k_5), (12, .int .i64 k_6), (23, .int .i64 i_4), (24, .bool (decide (i_4 < 4))), (27, .pointer (some ⟨b1, 0, none⟩)), (28, q12), (29, .int .i64 k_5), (30, q12), (31, .int .i64 (o_2.1.length : Int)), (32, .bool (decide (k_5 < (o_2.1.length : Int)))), (33, .bool (decide (k_5 < (o_2.1.length : Int)))), (36, .bool ((decide (k_5 < (o_2.1.length : Int))) && (decide (k_5 < 9)))), (64, .pointer none), (65, q14)] a' ∧ ∃ I2, Hf I D w I2 w' [OElink_Link b1 a0_2, SlC NESeg q14 n0_17, SlC NESeg q12 o_2.1]) ⟨Z.sub (ts := [0, 1, 3, 5, 6, 7, 8, 12, 23, 24, 27, 28, 29, 30, 31, 32, 33, 36, 64, 65]) rfl, ⟨I28, (H.sub [(1, false), (0, true), (1, true)] rfl).eq rfl⟩⟩ ?_
     clear Z H hF a
     rintro rc_12 ⟨k_6, a0_2⟩ a w33 ⟨Z, I29, H⟩ hF
     unfold F_law22_awake_l12 at hF
     try dsimp only at hF
     refine wp_seq ?_
     refine wp_seq (f_region Z ?_); clear Z; intro Z
     refine s_runk tLinkC Z 2 rfl rfl ?_; clear Z a; intro a Z
     refine s_ob Z (v := .int .i64 (n0_17.length : Int)) rfl rfl (by decide) rfl (Ob_slen tLinkC rfl rfl rfl (H.slshape 1 rfl)) ?_; clear Z a; intro a Z
     refine s_runk tLinkC Z 2 rfl rfl ?_; clear Z a; intro a Z
     refine g_ob Z (p := (decide (k_6 < (n0_17.length : Int)))) (v := .int .i64 k_6) (S' := [(12, .int .i64 k_6)]) rfl rfl rfl (wantB_t _) rfl (by decide) (fun hp hS => hS.sub (ts := [12]) rfl) (fun hp => Ob_c tLinkC rfl) ?_; clear Z a; intro a Z
     refine g_ob Z (p := (decide (k_6 < (n0_17.length : Int)))) (v := .bool (decide (k_6 < 9))) (S' := [(71, .int .i64 k_6)]) rfl rfl rfl (wantB_t _) rfl (by decide) (fun hp hS => (hS.conv (t := 71) rfl (cond_t hp)).sub (ts := [71]) rfl) (fun hp => Ob_c tLinkC rfl) ?_; clear Z a; intro a Z
     refine s_ob Z (v := .bool ((decide (k_6 < (n0_17.length : Int))) && (decide (k_6 < 9)))) rfl rfl (by decide) rfl (Ob_pick rfl rfl rfl rfl (pick_and _ _)) ?_; clear Z a; intro a Z
     refine s_end Z [0, 1, 3, 5, 6, 7, 8, 12, 23, 24, 27, 28, 29, 30, 31, 32, 33, 36, 64, 65, 66, 67, 68, 69, 70, 73] rfl ?_; clear Z; intro Z
     refine p_then ?_
     refine f_cond Z rfl (fun hc12 => ?_) (fun hc12 => ?_)
     ·replace hF := ite_t hc12 hF
      refine wp_skip ?_
      refine p_then (wp_seq ?_)
      refine wp_block ?_
      obtain ⟨hg22, hF⟩ := chk_in hF
      obtain ⟨i_5, hx22, hF⟩ := bnd_in hF
      refine f_region Z ?_; clear Z; intro Z
      refine s_runk tLinkC Z 3 rfl rfl ?_; clear Z a; intro a Z
      refine s_ob Z (v := .pointer (some ⟨blkOf q14, oofOf q14 + (k_6).toNat * 8, none⟩)) rfl rfl (by decide) rfl (Ob_sidx tLinkC rfl rfl rfl rfl (slPl (H.sl 1 rfl) hg22) hg22) ?_; clear Z a; intro a Z
      refine s_ob Z (v := .agg #[.int .i64 ((n0_17.getD (k_6).toNat default).boot), .int .i64 ((n0_17.getD (k_6).toNat default).stream), .int .i64 ((n0_17.getD (k_6).toNat default).seq), .int .i64 ((n0_17.getD (k_6).toNat default).ackBoot), .int .i64 ((n0_17.getD (k_6).toNat default).ackStream), .int .i64 ((n0_17.getD (k_6).toNat default).ackSeq), .bool ((n0_17.getD (k_6).toNat default).has), .string ((n0_17.getD (k_6).toNat default).body)]) rfl rfl (by decide) rfl (Ob_loads tLinkC rfl rfl rfl ((slFl (H.sl 1 rfl) hg22).part 0 rfl)) ?_; clear Z a; intro a Z
      refine h_call Z H (js := [(0, false)]) rfl (caps := #[]) fn_15_YLinkC rfl rfl rfl rfl rfl (by decide) rfl rfl (fun D1 hS => have hq := c_link_Link_In hx22 hS; hq) ?_; clear Z a; intro vv a w34 D2 hr hF2 Z
      obtain ⟨q15, rfl, I30, K⟩ := hr
      have H : Hf I D w I30 w34 [OElink_Link b1 i_5.2.2, SlC NS q15 i_5.1, SlC NESeg q14 n0_17, SlC NESeg q12 o_2.1] := hF2 K
      clear hF2 K
      refine s_end Z [0, 1, 3, 5, 6, 7, 8, 12, 23, 24, 27, 28, 29, 30, 31, 32, 33, 36, 64, 65, 66, 67, 68, 69, 70, 73, 76, 77, 78, 79, 80] rfl ?_; clear Z; intro Z
      refine p_blk ?_
      refine p_then ?_
      obtain ⟨hg23, hF⟩ := chk_in hF
      refine f_region Z ?_; clear Z; intro Z
      refine s_runk tLinkC Z 1 rfl rfl ?_; clear Z a; intro a Z
      refine s_ob Z (v := .int .i64 (k_6 + 1)) rfl rfl (by decide) rfl (Ob_add rfl rfl rfl (wrI hg23)) ?_; clear Z a; intro a Z
      refine s_runk tLinkC Z 1 rfl rfl ?_; clear Z a; intro a Z
      refine s_end Z [0, 1, 3, 5, 6, 7, 8, 12, 23, 24, 27, 28, 29, 30, 31, 32, 33, 36, 64, 65, 66, 67, 68, 69, 70, 73, 76, 77, 78, 79, 80, 74, 75] rfl ?_; clear Z; intro Z
      refine p_then ?_
      exact ⟨(k_6 + 1, i_5.2.2), ⟨Z.sub (ts := [0, 1, 3, 5, 6, 7, 8, 12, 23, 24, 27, 28, 29, 30, 31, 32, 33, 36, 64, 65]) rfl, ⟨I30, (H.sub [(0, false), (1, true), (2, true)] rfl).eq rfl⟩⟩, hF⟩
     ·replace hF := ite_f hc12 hF
      refine wp_exit ?_
      refine p_then_x ?_
      refine p_then_x ?_
      refine f_exit_here ?_
      refine p_blk ?_
      refine p_then ?_
      obtain ⟨hg24, hF⟩ := chk_in hF
      refine f_region Z ?_; clear Z; intro Z
      refine s_runk tLinkC Z 1 rfl rfl ?_; clear Z a; intro a Z
      refine s_ob Z (v := .int .i64 (i_4 + 1)) rfl rfl (by decide) rfl (Ob_add rfl rfl rfl (wrI hg24)) ?_; clear Z a; intro a Z
      refine s_runk tLinkC Z 1 rfl rfl ?_; clear Z a; intro a Z
      refine s_end Z [0, 1, 3, 5, 6, 7, 8, 12, 23, 24, 27, 28, 29, 30, 31, 32, 33, 36, 64, 65, 66, 67, 68, 69, 70, 73, 25, 26] rfl ?_; clear Z; intro Z
      refine p_then ?_
      exact ⟨(got_8, i_4 + 1, a0_2), ⟨Z.sub (ts := [0, 1, 3, 5, 6]) rfl, ⟨I29, (H.sub [(0, false)] rfl).eq rfl⟩⟩, hF⟩
   ·replace hF := ite_f hc9 hF
    refine wp_exit ?_
    refine p_then_x ?_
    refine p_then_x ?_
    refine f_exit_here ?_
    refine p_then (wp_seq ?_)
    obtain ⟨w0, hx23, hF⟩ := bnd_in hF
    obtain ⟨k_7, hx24, hF⟩ := bnd_in hF
    refine f_region Z ?_; clear Z; intro Z
    refine s_runk tLinkC Z 3 rfl rfl ?_; clear Z a; intro a Z
    refine g_ob Z (p := (seqB got_7 ⟨#[120]⟩)) (v := .pointer (some ⟨b1, 0, none⟩)) (S' := [(1, .pointer (some ⟨b1, 0, none⟩))]) rfl rfl rfl (wantB_t _) rfl (by decide) (fun hp hS => hS.sub (ts := [1]) rfl) (fun hp => Ob_c tLinkC rfl) ?_; clear Z a; intro a Z
    refine h_gcall Z H (js := [(0, false)]) rfl (p := (seqB got_7 ⟨#[120]⟩)) (v := .int .i64 w0) (S' := [(85, .pointer (some ⟨b1, 0, none⟩))]) (caps := #[]) (fun _ => [OElink_Link b1 a0]) fn_18_YLinkC rfl rfl rfl (wantB_t _) rfl (by decide) (fun hp hS => (hS.conv (t := 85) rfl (cond_t hp)).sub (ts := [85]) rfl) rfl rfl rfl rfl (fun hp D1 hS => have hq := c_link_Link_Waiting (gif_in hx23 hp) hS; hq) (fun hp => H.sub [(0, false)] rfl) ?_; clear Z a H; intro a w35 I31 H Z
    replace H : Hf I D w I31 w35 [OElink_Link b1 a0] := H
    refine g_ob Z (p := (seqB got_7 ⟨#[120]⟩)) (v := .bool (w0 == 0)) (S' := [(86, .int .i64 w0)]) rfl rfl rfl (wantB_t _) rfl (by decide) (fun hp hS => (hS.conv (t := 86) rfl (cond_t hp)).sub (ts := [86]) rfl) (fun hp => Ob_c tLinkC rfl) ?_; clear Z a; intro a Z
    refine s_ob Z (v := .bool ((seqB got_7 ⟨#[120]⟩) && (w0 == 0))) rfl rfl (by decide) rfl (Ob_pick rfl rfl rfl rfl (pick_and _ _)) ?_; clear Z a; intro a Z
    refine s_runk tLinkC Z 1 rfl rfl ?_; clear Z a; intro a Z
    refine g_ob Z (p := ((seqB got_7 ⟨#[120]⟩) && (w0 == 0))) (v := .pointer (some ⟨b1, 0, none⟩)) (S' := [(1, .pointer (some ⟨b1, 0, none⟩))]) rfl rfl rfl (wantB_t _) rfl (by decide) (fun hp hS => hS.sub (ts := [1]) rfl) (fun hp => Ob_c tLinkC rfl) ?_; clear Z a; intro a Z
    refine h_gcall Z H (js := [(0, false)]) rfl (p := ((seqB got_7 ⟨#[120]⟩) && (w0 == 0))) (v := .int .i64 k_7) (S' := [(90, .pointer (some ⟨b1, 0, none⟩))]) (caps := #[]) (fun _ => [OElink_Link b1 a0]) fn_19_YLinkC rfl rfl rfl (wantB_t _) rfl (by decide) (fun hp hS => (hS.conv (t := 90) rfl (cond_t hp)).sub (ts := [90]) rfl) rfl rfl rfl rfl (fun hp D1 hS => have hq := c_link_Link_Knows (gif_in hx24 hp) hS; hq) (fun hp => H.sub [(0, false)] rfl) ?_; clear Z a H; intro a w36 I32 H Z
    replace H : Hf I D w I32 w36 [OElink_Link b1 a0] := H
    refine g_ob Z (p := ((seqB got_7 ⟨#[120]⟩) && (w0 == 0))) (v := .bool (k_7 == 1)) (S' := [(91, .int .i64 k_7)]) rfl rfl rfl (wantB_t _) rfl (by decide) (fun hp hS => (hS.conv (t := 91) rfl (cond_t hp)).sub (ts := [91]) rfl) (fun hp => Ob_c tLinkC rfl) ?_; clear Z a; intro a Z
    refine s_ob Z (v := .bool (((seqB got_7 ⟨#[120]⟩) && (w0 == 0)) && (k_7 == 1))) rfl rfl (by decide) rfl (Ob_pick rfl rfl rfl rfl (pick_and _ _)) ?_; clear Z a; intro a Z
    refine s_runk tLinkC Z 1 rfl rfl ?_; clear Z a; intro a Z
    refine s_end Z [0] rfl ?_; clear Z; intro Z
    refine p_then (wp_ret ?_)
    obtain rfl := some_in hF
    exact f_ret Z (run_results1 rfl Z rfl) ⟨rfl, I32, (H.sub [] rfl).eq rfl⟩
  ·obtain ⟨b3, hv, H⟩ := H.optS 0 rfl ho3
   subst hv
   replace H : Hf I D w I21 w25 [OElink_Link b3 x_3, OElink_Link b1 x] := H
   refine p_then (wp_seq ?_)
   obtain ⟨s0_2, hx25, hF⟩ := bnd_in hF
   refine f_region Z ?_; clear Z; intro Z
   refine s_runk tLinkC Z 1 rfl rfl ?_; clear Z a; intro a Z
   refine h_call Z H (js := [(1, false)]) rfl (caps := #[]) fn_10_YLinkC rfl rfl rfl rfl rfl (by decide) rfl rfl (fun D1 hS => have hq := c_link_Link_Send hx25 hS; hq) ?_; clear Z a; intro vv a w37 D2 hr hF2 Z
   obtain ⟨rfl, I33, K⟩ := hr
   have H : Hf I D w I33 w37 [OElink_Link b1 s0_2.2, OElink_Link b3 x_3] := hF2 K
   clear hF2 K
   refine s_end Z [0, 1, 3] rfl ?_; clear Z; intro Z
   refine p_then (wp_seq (f_region Z ?_)); clear Z; intro Z
   refine s_runk tLinkC Z 1 rfl rfl ?_; clear Z a; intro a Z
   refine s_end Z [0, 1, 3, 5] rfl ?_; clear Z; intro Z
   refine p_then (wp_seq ?_)
   refine wp_seq (f_region Z ?_); clear Z; intro Z
   refine s_runk tLinkC Z 1 rfl rfl ?_; clear Z a; intro a Z
   refine s_end Z [0, 1, 3, 5, 6] rfl ?_; clear Z; intro Z
   refine p_then (wp_block ?_)
   refine f_iter hF (fun sg a' w' => match sg with | (got_10, i_6, a0_3, b_3) => Sl 94 [(0, .bool false), (1, .pointer (some ⟨b1, 0, none⟩)), (3, .pointer (some ⟨b3, 0, none⟩)), (5, .string got_10), (6, .int .i64 i_6)] a' ∧ ∃ I2, Hf I D w I2 w' [OElink_Link b1 a0_3, OElink_Link b3 b_3]) ⟨Z.sub (ts := [0, 1, 3, 5, 6]) rfl, ⟨I33, (H.sub [(0, false), (0, false)] rfl).eq rfl⟩⟩ ?_
   clear Z H hF a
   rintro rc_13 ⟨got_10, i_6, a0_3, b_3⟩ a w38 ⟨Z, I34, H⟩ hF
   unfold F_law22_awake_l13 at hF
   try dsimp only at hF
   refine wp_seq ?_
   refine wp_seq (f_region Z ?_); clear Z; intro Z
   refine s_runk tLinkC Z 2 rfl rfl ?_; clear Z a; intro a Z
   refine s_end Z [0, 1, 3, 5, 6, 23, 24] rfl ?_; clear Z; intro Z
   refine p_then ?_
   refine f_cond Z rfl (fun hc13 => ?_) (fun hc13 => ?_)
   ·replace hF := ite_t hc13 hF
    refine wp_skip ?_
    refine p_then (wp_seq ?_)
    refine wp_block ?_
    refine wp_seq ?_
    obtain ⟨o_3, hx26, hF⟩ := bnd_in hF
    refine f_region Z ?_; clear Z; intro Z
    refine s_runk tLinkC Z 1 rfl rfl ?_; clear Z a; intro a Z
    refine h_call Z H (js := [(0, false)]) rfl (caps := #[]) fn_13_YLinkC rfl rfl rfl rfl rfl (by decide) rfl rfl (fun D1 hS => have hq := c_link_Link_Out hx26 hS; hq) ?_; clear Z a; intro vv a w39 D2 hr hF2 Z
    obtain ⟨q16, hvv, I35, K⟩ := hr; obtain rfl := hvv.symm
    have H : Hf I D w I35 w39 [OElink_Link b1 o_3.2, SlC NESeg q16 o_3.1, OElink_Link b3 b_3] := hF2 K
    clear hF2 K
    refine s_runk tLinkC Z 1 rfl rfl ?_; clear Z a; intro a Z
    refine s_end Z [0, 1, 3, 5, 6, 23, 24, 27, 28, 7] rfl ?_; clear Z; intro Z
    refine p_then (wp_seq ?_)
    refine wp_seq (f_region Z ?_); clear Z; intro Z
    refine s_runk tLinkC Z 1 rfl rfl ?_; clear Z a; intro a Z
    refine s_end Z [0, 1, 3, 5, 6, 23, 24, 27, 28, 7, 8] rfl ?_; clear Z; intro Z
    refine p_then (wp_block ?_)
    refine f_iter hF (fun sg a' w' => match sg with | (got_11, k_8, b_4) => Sl 94 [(0, .bool false), (1, .pointer (some ⟨b1, 0, none⟩)), (3, .pointer (some ⟨b3, 0, none⟩)), (5, .string got_11), (6, .int .i64 i_6), (7, q16), (8, .int .i64 k_8), (23, .int .i64 i_6), (24, .bool (decide (i_6 < 4))), (27, .pointer (some ⟨b1, 0, none⟩)), (28, q16)] a' ∧ ∃ I2, Hf I D w I2 w' [OElink_Link b1 o_3.2, OElink_Link b3 b_4, SlC NESeg q16 o_3.1]) ⟨Z.sub (ts := [0, 1, 3, 5, 6, 7, 8, 23, 24, 27, 28]) rfl, ⟨I35, (H.sub [(0, false), (1, false), (0, true)] rfl).eq rfl⟩⟩ ?_
    clear Z H hF a
    rintro rc_14 ⟨got_11, k_8, b_4⟩ a w40 ⟨Z, I36, H⟩ hF
    unfold F_law22_awake_l14 at hF
    try dsimp only at hF
    refine wp_seq ?_
    refine wp_seq (f_region Z ?_); clear Z; intro Z
    refine s_runk tLinkC Z 2 rfl rfl ?_; clear Z a; intro a Z
    refine s_ob Z (v := .int .i64 (o_3.1.length : Int)) rfl rfl (by decide) rfl (Ob_slen tLinkC rfl rfl rfl (H.slshape 2 rfl)) ?_; clear Z a; intro a Z
    refine s_runk tLinkC Z 2 rfl rfl ?_; clear Z a; intro a Z
    refine g_ob Z (p := (decide (k_8 < (o_3.1.length : Int)))) (v := .int .i64 k_8) (S' := [(8, .int .i64 k_8)]) rfl rfl rfl (wantB_t _) rfl (by decide) (fun hp hS => hS.sub (ts := [8]) rfl) (fun hp => Ob_c tLinkC rfl) ?_; clear Z a; intro a Z
    refine g_ob Z (p := (decide (k_8 < (o_3.1.length : Int)))) (v := .bool (decide (k_8 < 9))) (S' := [(34, .int .i64 k_8)]) rfl rfl rfl (wantB_t _) rfl (by decide) (fun hp hS => (hS.conv (t := 34) rfl (cond_t hp)).sub (ts := [34]) rfl) (fun hp => Ob_c tLinkC rfl) ?_; clear Z a; intro a Z
    refine s_ob Z (v := .bool ((decide (k_8 < (o_3.1.length : Int))) && (decide (k_8 < 9)))) rfl rfl (by decide) rfl (Ob_pick rfl rfl rfl rfl (pick_and _ _)) ?_; clear Z a; intro a Z
    refine s_end Z [0, 1, 3, 5, 6, 7, 8, 23, 24, 27, 28, 29, 30, 31, 32, 33, 36] rfl ?_; clear Z; intro Z
    refine p_then ?_
    refine f_cond Z rfl (fun hc14 => ?_) (fun hc14 => ?_)
    ·replace hF := ite_t hc14 hF
     refine wp_skip ?_
     refine p_then (wp_seq ?_)
     refine wp_block ?_
     refine wp_seq ?_
     obtain ⟨hg25, hF⟩ := chk_in hF
     obtain ⟨i_7, hx27, hF⟩ := bnd_in hF
     refine f_region Z ?_; clear Z; intro Z
     refine s_runk tLinkC Z 3 rfl rfl ?_; clear Z a; intro a Z
     refine s_ob Z (v := .pointer (some ⟨blkOf q16, oofOf q16 + (k_8).toNat * 8, none⟩)) rfl rfl (by decide) rfl (Ob_sidx tLinkC rfl rfl rfl rfl (slPl (H.sl 2 rfl) hg25) hg25) ?_; clear Z a; intro a Z
     refine s_ob Z (v := .agg #[.int .i64 ((o_3.1.getD (k_8).toNat default).boot), .int .i64 ((o_3.1.getD (k_8).toNat default).stream), .int .i64 ((o_3.1.getD (k_8).toNat default).seq), .int .i64 ((o_3.1.getD (k_8).toNat default).ackBoot), .int .i64 ((o_3.1.getD (k_8).toNat default).ackStream), .int .i64 ((o_3.1.getD (k_8).toNat default).ackSeq), .bool ((o_3.1.getD (k_8).toNat default).has), .string ((o_3.1.getD (k_8).toNat default).body)]) rfl rfl (by decide) rfl (Ob_loads tLinkC rfl rfl rfl ((slFl (H.sl 2 rfl) hg25).part 0 rfl)) ?_; clear Z a; intro a Z
     refine h_call Z H (js := [(1, false)]) rfl (caps := #[]) fn_15_YLinkC rfl rfl rfl rfl rfl (by decide) rfl rfl (fun D1 hS => have hq := c_link_Link_In hx27 hS; hq) ?_; clear Z a; intro vv a w41 D2 hr hF2 Z
     obtain ⟨q17, rfl, I37, K⟩ := hr
     have H : Hf I D w I37 w41 [OElink_Link b3 i_7.2.2, SlC NS q17 i_7.1, OElink_Link b1 o_3.2, SlC NESeg q16 o_3.1] := hF2 K
     clear hF2 K
     refine s_runk tLinkC Z 5 rfl rfl ?_; clear Z a; intro a Z
     refine s_end Z [0, 1, 3, 5, 6, 7, 8, 23, 24, 27, 28, 29, 30, 31, 32, 33, 36, 40, 41, 42, 43, 44, 45, 39, 46, 47, 9] rfl ?_; clear Z; intro Z
     refine p_then (wp_seq (f_region Z ?_)); clear Z; intro Z
     refine s_runk tLinkC Z 1 rfl rfl ?_; clear Z a; intro a Z
     refine s_end Z [0, 1, 3, 5, 6, 7, 8, 23, 24, 27, 28, 29, 30, 31, 32, 33, 36, 40, 41, 42, 43, 44, 45, 39, 46, 47, 9, 11] rfl ?_; clear Z; intro Z
     refine p_then (wp_block ?_)
     refine f_iter hF (fun sg a' w' => match sg with | (got_12, j_4) => Sl 94 [(0, .bool false), (1, .pointer (some ⟨b1, 0, none⟩)), (3, .pointer (some ⟨b3, 0, none⟩)), (5, .string got_12), (6, .int .i64 i_6), (7, q16), (8, .int .i64 k_8), (9, q17), (11, .int .i64 j_4), (23, .int .i64 i_6), (24, .bool (decide (i_6 < 4))), (27, .pointer (some ⟨b1, 0, none⟩)), (28, q16), (29, .int .i64 k_8), (30, q16), (31, .int .i64 (o_3.1.length : Int)), (32, .bool (decide (k_8 < (o_3.1.length : Int)))), (33, .bool (decide (k_8 < (o_3.1.length : Int)))), (36, .bool ((decide (k_8 < (o_3.1.length : Int))) && (decide (k_8 < 9)))), (39, .tuple #[q17, .int .i64 i_7.2.1]), (40, .pointer (some ⟨b3, 0, none⟩)), (41, q16), (42, .int .i64 k_8), (43, .pointer (some ⟨blkOf q16, oofOf q16 + (k_8).toNat * 8, none⟩)), (44, .agg #[.int .i64 ((o_3.1.getD (k_8).toNat default).boot), .int .i64 ((o_3.1.getD (k_8).toNat default).stream), .int .i64 ((o_3.1.getD (k_8).toNat default).seq), .int .i64 ((o_3.1.getD (k_8).toNat default).ackBoot), .int .i64 ((o_3.1.getD (k_8).toNat default).ackStream), .int .i64 ((o_3.1.getD (k_8).toNat default).ackSeq), .bool ((o_3.1.getD (k_8).toNat default).has), .string ((o_3.1.getD (k_8).toNat default).body)]), (45, .tuple #[q17, .int .i64 i_7.2.1]), (46, q17), (47, .int .i64 i_7.2.1)] a' ∧ ∃ I2, Hf I D w I2 w' [OElink_Link b1 o_3.2, OElink_Link b3 i_7.2.2, SlC NS q17 i_7.1, SlC NESeg q16 o_3.1]) ⟨Z.sub (ts := [0, 1, 3, 5, 6, 7, 8, 9, 11, 23, 24, 27, 28, 29, 30, 31, 32, 33, 36, 39, 40, 41, 42, 43, 44, 45, 46, 47]) rfl, ⟨I37, (H.sub [(2, false), (0, false), (0, true), (1, true)] rfl).eq rfl⟩⟩ ?_
     clear Z H hF a
     rintro rc_15 ⟨got_12, j_4⟩ a w42 ⟨Z, I38, H⟩ hF
     unfold F_law22_awake_l15 at hF
     try dsimp only at hF
     refine wp_seq ?_
     refine wp_seq (f_region Z ?_); clear Z; intro Z
     refine s_runk tLinkC Z 2 rfl rfl ?_; clear Z a; intro a Z
     refine s_ob Z (v := .int .i64 (i_7.1.length : Int)) rfl rfl (by decide) rfl (Ob_slen tLinkC rfl rfl rfl (H.slshape 2 rfl)) ?_; clear Z a; intro a Z
     refine s_runk tLinkC Z 2 rfl rfl ?_; clear Z a; intro a Z
     refine g_ob Z (p := (decide (j_4 < (i_7.1.length : Int)))) (v := .int .i64 j_4) (S' := [(11, .int .i64 j_4)]) rfl rfl rfl (wantB_t _) rfl (by decide) (fun hp hS => hS.sub (ts := [11]) rfl) (fun hp => Ob_c tLinkC rfl) ?_; clear Z a; intro a Z
     refine g_ob Z (p := (decide (j_4 < (i_7.1.length : Int)))) (v := .bool (decide (j_4 < 9))) (S' := [(53, .int .i64 j_4)]) rfl rfl rfl (wantB_t _) rfl (by decide) (fun hp hS => (hS.conv (t := 53) rfl (cond_t hp)).sub (ts := [53]) rfl) (fun hp => Ob_c tLinkC rfl) ?_; clear Z a; intro a Z
     refine s_ob Z (v := .bool ((decide (j_4 < (i_7.1.length : Int))) && (decide (j_4 < 9)))) rfl rfl (by decide) rfl (Ob_pick rfl rfl rfl rfl (pick_and _ _)) ?_; clear Z a; intro a Z
     refine s_end Z [0, 1, 3, 5, 6, 7, 8, 9, 11, 23, 24, 27, 28, 29, 30, 31, 32, 33, 36, 39, 40, 41, 42, 43, 44, 45, 46, 47, 48, 49, 50, 51, 52, 55] rfl ?_; clear Z; intro Z
     refine p_then ?_
     refine f_cond Z rfl (fun hc15 => ?_) (fun hc15 => ?_)
     ·replace hF := ite_t hc15 hF
      refine wp_skip ?_
      refine p_then (wp_seq ?_)
      refine wp_block ?_
      obtain ⟨hg26, hF⟩ := chk_in hF
      obtain ⟨hg27, hF⟩ := chk_in hF
      refine f_region Z ?_; clear Z; intro Z
      refine s_runk tLinkC Z 3 rfl rfl ?_; clear Z a; intro a Z
      refine s_ob Z (v := .pointer (some ⟨blkOf q17, oofOf q17 + (j_4).toNat * 1, none⟩)) rfl rfl (by decide) rfl (Ob_sidx tLinkC rfl rfl rfl rfl (slPl (H.sl 2 rfl) hg26) hg26) ?_; clear Z a; intro a Z
      refine s_ob Z (v := .string (i_7.1.getD (j_4).toNat default)) rfl rfl (by decide) rfl (Ob_load tLinkC rfl rfl rfl ((slFl (H.sl 2 rfl) hg26) 0 _ rfl)) ?_; clear Z a; intro a Z
      refine s_ob Z (v := .string (got_12 ++ (i_7.1.getD (j_4).toNat default))) rfl rfl (by decide) rfl (Ob_cat rfl rfl rfl hg27) ?_; clear Z a; intro a Z
      refine s_runk tLinkC Z 1 rfl rfl ?_; clear Z a; intro a Z
      refine s_end Z [0, 1, 3, 5, 6, 7, 8, 9, 11, 23, 24, 27, 28, 29, 30, 31, 32, 33, 36, 39, 40, 41, 42, 43, 44, 45, 46, 47, 48, 49, 50, 51, 52, 55, 58, 59, 60, 61, 62, 63] rfl ?_; clear Z; intro Z
      refine p_blk ?_
      refine p_then ?_
      obtain ⟨hg28, hF⟩ := chk_in hF
      refine f_region Z ?_; clear Z; intro Z
      refine s_runk tLinkC Z 1 rfl rfl ?_; clear Z a; intro a Z
      refine s_ob Z (v := .int .i64 (j_4 + 1)) rfl rfl (by decide) rfl (Ob_add rfl rfl rfl (wrI hg28)) ?_; clear Z a; intro a Z
      refine s_runk tLinkC Z 1 rfl rfl ?_; clear Z a; intro a Z
      refine s_end Z [0, 1, 3, 5, 6, 7, 8, 9, 11, 23, 24, 27, 28, 29, 30, 31, 32, 33, 36, 39, 40, 41, 42, 43, 44, 45, 46, 47, 48, 49, 50, 51, 52, 55, 58, 59, 60, 61, 62, 63, 56, 57] rfl ?_; clear Z; intro Z
      refine p_then ?_
      exact ⟨(got_12 ++ (i_7.1.getD (j_4).toNat default), j_4 + 1), ⟨Z.sub (ts := [0, 1, 3, 5, 6, 7, 8, 9, 11, 23, 24, 27, 28, 29, 30, 31, 32, 33, 36, 39, 40, 41, 42, 43, 44, 45, 46, 47]) rfl, ⟨I38, (H.sub [(0, false), (0, false), (0, true), (1, true)] rfl).eq rfl⟩⟩, hF⟩
     ·replace hF := ite_f hc15 hF
      refine wp_exit ?_
      refine p_then_x ?_
      refine p_then_x ?_
      refine f_exit_here ?_
      refine p_blk ?_
      refine p_then ?_
      obtain ⟨hg29, hF⟩ := chk_in hF
      refine f_region Z ?_; clear Z; intro Z
      refine s_runk tLinkC Z 1 rfl rfl ?_; clear Z a; intro a Z
      refine s_ob Z (v := .int .i64 (k_8 + 1)) rfl rfl (by decide) rfl (Ob_add rfl rfl rfl (wrI hg29)) ?_; clear Z a; intro a Z
      refine s_runk tLinkC Z 1 rfl rfl ?_; clear Z a; intro a Z
      refine s_end Z [0, 1, 3, 5, 6, 7, 8, 9, 11, 23, 24, 27, 28, 29, 30, 31, 32, 33, 36, 39, 40, 41, 42, 43, 44, 45, 46, 47, 48, 49, 50, 51, 52, 55, 37, 38] rfl ?_; clear Z; intro Z
      refine p_then ?_
      exact ⟨(got_12, k_8 + 1, i_7.2.2), ⟨Z.sub (ts := [0, 1, 3, 5, 6, 7, 8, 23, 24, 27, 28]) rfl, ⟨I38, (H.sub [(0, false), (0, false), (1, true)] rfl).eq rfl⟩⟩, hF⟩
    ·replace hF := ite_f hc14 hF
     refine wp_exit ?_
     refine p_then_x ?_
     refine p_then_x ?_
     refine f_exit_here ?_
     refine p_then (wp_seq ?_)
     obtain ⟨o_4, hx28, hF⟩ := bnd_in hF
     refine f_region Z ?_; clear Z; intro Z
     refine s_runk tLinkC Z 1 rfl rfl ?_; clear Z a; intro a Z
     refine h_call Z H (js := [(1, false)]) rfl (caps := #[]) fn_13_YLinkC rfl rfl rfl rfl rfl (by decide) rfl rfl (fun D1 hS => have hq := c_link_Link_Out hx28 hS; hq) ?_; clear Z a; intro vv a w43 D2 hr hF2 Z
     obtain ⟨q18, hvv, I39, K⟩ := hr; obtain rfl := hvv.symm
     have H : Hf I D w I39 w43 [OElink_Link b3 o_4.2, SlC NESeg q18 o_4.1, OElink_Link b1 o_3.2, SlC NESeg q16 o_3.1] := hF2 K
     clear hF2 K
     refine s_runk tLinkC Z 1 rfl rfl ?_; clear Z a; intro a Z
     refine s_end Z [0, 1, 3, 5, 6, 7, 8, 23, 24, 27, 28, 29, 30, 31, 32, 33, 36, 64, 65] rfl ?_; clear Z; intro Z
     refine p_then (wp_seq (f_region Z ?_)); clear Z; intro Z
     refine s_runk tLinkC Z 1 rfl rfl ?_; clear Z a; intro a Z
     refine s_end Z [0, 1, 3, 5, 6, 7, 8, 23, 24, 27, 28, 29, 30, 31, 32, 33, 36, 64, 65, 12] rfl ?_; clear Z; intro Z
     refine p_then (wp_block ?_)
     refine f_iter hF (fun sg a' w' => match sg with | (k_9, a0_4) => Sl 94 [(0, .bool false), (1, .pointer (some ⟨b1, 0, none⟩)), (3, .pointer (some ⟨b3, 0, none⟩)), (5, .string got_11), (6, .int .i64 i_6), (7, q18), (8, .int .i64 k_8), (12, .int .i64 k_9), (23, .int .i64 i_6), (24, .bool (decide (i_6 < 4))), (27, .pointer (some ⟨b1, 0, none⟩)), (28, q16), (29, .int .i64 k_8), (30, q16), (31, .int .i64 (o_3.1.length : Int)), (32, .bool (decide (k_8 < (o_3.1.length : Int)))), (33, .bool (decide (k_8 < (o_3.1.length : Int)))), (36, .bool ((decide (k_8 < (o_3.1.length : Int))) && (decide (k_8 < 9)))), (64, .pointer (some ⟨b3, 0, none⟩)), (65, q18)] a' ∧ ∃ I2, Hf I D w I2 w' [OElink_Link b1 a0_4, OElink_Link b3 o_4.2, SlC NESeg q18 o_4.1, SlC NESeg q16 o_3.1]) ⟨Z.sub (ts := [0, 1, 3, 5, 6, 7, 8, 12, 23, 24, 27, 28, 29, 30, 31, 32, 33, 36, 64, 65]) rfl, ⟨I39, (H.sub [(2, false), (0, false), (0, true), (1, true)] rfl).eq rfl⟩⟩ ?_
     clear Z H hF a
     rintro rc_16 ⟨k_9, a0_4⟩ a w44 ⟨Z, I40, H⟩ hF
     unfold F_law22_awake_l16 at hF
     try dsimp only at hF
     refine wp_seq ?_
     refine wp_seq (f_region Z ?_); clear Z; intro Z
     refine s_runk tLinkC Z 2 rfl rfl ?_; clear Z a; intro a Z
     refine s_ob Z (v := .int .i64 (o_4.1.length : Int)) rfl rfl (by decide) rfl (Ob_slen tLinkC rfl rfl rfl (H.slshape 2 rfl)) ?_; clear Z a; intro a Z
     refine s_runk tLinkC Z 2 rfl rfl ?_; clear Z a; intro a Z
     refine g_ob Z (p := (decide (k_9 < (o_4.1.length : Int)))) (v := .int .i64 k_9) (S' := [(12, .int .i64 k_9)]) rfl rfl rfl (wantB_t _) rfl (by decide) (fun hp hS => hS.sub (ts := [12]) rfl) (fun hp => Ob_c tLinkC rfl) ?_; clear Z a; intro a Z
     refine g_ob Z (p := (decide (k_9 < (o_4.1.length : Int)))) (v := .bool (decide (k_9 < 9))) (S' := [(71, .int .i64 k_9)]) rfl rfl rfl (wantB_t _) rfl (by decide) (fun hp hS => (hS.conv (t := 71) rfl (cond_t hp)).sub (ts := [71]) rfl) (fun hp => Ob_c tLinkC rfl) ?_; clear Z a; intro a Z
     refine s_ob Z (v := .bool ((decide (k_9 < (o_4.1.length : Int))) && (decide (k_9 < 9)))) rfl rfl (by decide) rfl (Ob_pick rfl rfl rfl rfl (pick_and _ _)) ?_; clear Z a; intro a Z
     refine s_end Z [0, 1, 3, 5, 6, 7, 8, 12, 23, 24, 27, 28, 29, 30, 31, 32, 33, 36, 64, 65, 66, 67, 68, 69, 70, 73] rfl ?_; clear Z; intro Z
     refine p_then ?_
     refine f_cond Z rfl (fun hc16 => ?_) (fun hc16 => ?_)
     ·replace hF := ite_t hc16 hF
      refine wp_skip ?_
      refine p_then (wp_seq ?_)
      refine wp_block ?_
      obtain ⟨hg30, hF⟩ := chk_in hF
      obtain ⟨i_8, hx29, hF⟩ := bnd_in hF
      refine f_region Z ?_; clear Z; intro Z
      refine s_runk tLinkC Z 3 rfl rfl ?_; clear Z a; intro a Z
      refine s_ob Z (v := .pointer (some ⟨blkOf q18, oofOf q18 + (k_9).toNat * 8, none⟩)) rfl rfl (by decide) rfl (Ob_sidx tLinkC rfl rfl rfl rfl (slPl (H.sl 2 rfl) hg30) hg30) ?_; clear Z a; intro a Z
      refine s_ob Z (v := .agg #[.int .i64 ((o_4.1.getD (k_9).toNat default).boot), .int .i64 ((o_4.1.getD (k_9).toNat default).stream), .int .i64 ((o_4.1.getD (k_9).toNat default).seq), .int .i64 ((o_4.1.getD (k_9).toNat default).ackBoot), .int .i64 ((o_4.1.getD (k_9).toNat default).ackStream), .int .i64 ((o_4.1.getD (k_9).toNat default).ackSeq), .bool ((o_4.1.getD (k_9).toNat default).has), .string ((o_4.1.getD (k_9).toNat default).body)]) rfl rfl (by decide) rfl (Ob_loads tLinkC rfl rfl rfl ((slFl (H.sl 2 rfl) hg30).part 0 rfl)) ?_; clear Z a; intro a Z
      refine h_call Z H (js := [(0, false)]) rfl (caps := #[]) fn_15_YLinkC rfl rfl rfl rfl rfl (by decide) rfl rfl (fun D1 hS => have hq := c_link_Link_In hx29 hS; hq) ?_; clear Z a; intro vv a w45 D2 hr hF2 Z
      obtain ⟨q19, rfl, I41, K⟩ := hr
      have H : Hf I D w I41 w45 [OElink_Link b1 i_8.2.2, SlC NS q19 i_8.1, OElink_Link b3 o_4.2, SlC NESeg q18 o_4.1, SlC NESeg q16 o_3.1] := hF2 K
      clear hF2 K
      refine s_end Z [0, 1, 3, 5, 6, 7, 8, 12, 23, 24, 27, 28, 29, 30, 31, 32, 33, 36, 64, 65, 66, 67, 68, 69, 70, 73, 76, 77, 78, 79, 80] rfl ?_; clear Z; intro Z
      refine p_blk ?_
      refine p_then ?_
      obtain ⟨hg31, hF⟩ := chk_in hF
      refine f_region Z ?_; clear Z; intro Z
      refine s_runk tLinkC Z 1 rfl rfl ?_; clear Z a; intro a Z
      refine s_ob Z (v := .int .i64 (k_9 + 1)) rfl rfl (by decide) rfl (Ob_add rfl rfl rfl (wrI hg31)) ?_; clear Z a; intro a Z
      refine s_runk tLinkC Z 1 rfl rfl ?_; clear Z a; intro a Z
      refine s_end Z [0, 1, 3, 5, 6, 7, 8, 12, 23, 24, 27, 28, 29, 30, 31, 32, 33, 36, 64, 65, 66, 67, 68, 69, 70, 73, 76, 77, 78, 79, 80, 74, 75] rfl ?_; clear Z; intro Z
      refine p_then ?_
      exact ⟨(k_9 + 1, i_8.2.2), ⟨Z.sub (ts := [0, 1, 3, 5, 6, 7, 8, 12, 23, 24, 27, 28, 29, 30, 31, 32, 33, 36, 64, 65]) rfl, ⟨I41, (H.sub [(0, false), (1, false), (1, true), (2, true)] rfl).eq rfl⟩⟩, hF⟩
     ·replace hF := ite_f hc16 hF
      refine wp_exit ?_
      refine p_then_x ?_
      refine p_then_x ?_
      refine f_exit_here ?_
      refine p_blk ?_
      refine p_then ?_
      obtain ⟨hg32, hF⟩ := chk_in hF
      refine f_region Z ?_; clear Z; intro Z
      refine s_runk tLinkC Z 1 rfl rfl ?_; clear Z a; intro a Z
      refine s_ob Z (v := .int .i64 (i_6 + 1)) rfl rfl (by decide) rfl (Ob_add rfl rfl rfl (wrI hg32)) ?_; clear Z a; intro a Z
      refine s_runk tLinkC Z 1 rfl rfl ?_; clear Z a; intro a Z
      refine s_end Z [0, 1, 3, 5, 6, 7, 8, 12, 23, 24, 27, 28, 29, 30, 31, 32, 33, 36, 64, 65, 66, 67, 68, 69, 70, 73, 25, 26] rfl ?_; clear Z; intro Z
      refine p_then ?_
      exact ⟨(got_11, i_6 + 1, a0_4, o_4.2), ⟨Z.sub (ts := [0, 1, 3, 5, 6]) rfl, ⟨I40, (H.sub [(0, false), (0, false)] rfl).eq rfl⟩⟩, hF⟩
   ·replace hF := ite_f hc13 hF
    refine wp_exit ?_
    refine p_then_x ?_
    refine p_then_x ?_
    refine f_exit_here ?_
    refine p_then (wp_seq ?_)
    obtain ⟨w0_2, hx30, hF⟩ := bnd_in hF
    obtain ⟨k_10, hx31, hF⟩ := bnd_in hF
    refine f_region Z ?_; clear Z; intro Z
    refine s_runk tLinkC Z 3 rfl rfl ?_; clear Z a; intro a Z
    refine g_ob Z (p := (seqB got_10 ⟨#[120]⟩)) (v := .pointer (some ⟨b1, 0, none⟩)) (S' := [(1, .pointer (some ⟨b1, 0, none⟩))]) rfl rfl rfl (wantB_t _) rfl (by decide) (fun hp hS => hS.sub (ts := [1]) rfl) (fun hp => Ob_c tLinkC rfl) ?_; clear Z a; intro a Z
    refine h_gcall Z H (js := [(0, false)]) rfl (p := (seqB got_10 ⟨#[120]⟩)) (v := .int .i64 w0_2) (S' := [(85, .pointer (some ⟨b1, 0, none⟩))]) (caps := #[]) (fun _ => [OElink_Link b1 a0_3]) fn_18_YLinkC rfl rfl rfl (wantB_t _) rfl (by decide) (fun hp hS => (hS.conv (t := 85) rfl (cond_t hp)).sub (ts := [85]) rfl) rfl rfl rfl rfl (fun hp D1 hS => have hq := c_link_Link_Waiting (gif_in hx30 hp) hS; hq) (fun hp => H.sub [(0, false), (0, false)] rfl) ?_; clear Z a H; intro a w46 I42 H Z
    replace H : Hf I D w I42 w46 [OElink_Link b1 a0_3, OElink_Link b3 b_3] := H
    refine g_ob Z (p := (seqB got_10 ⟨#[120]⟩)) (v := .bool (w0_2 == 0)) (S' := [(86, .int .i64 w0_2)]) rfl rfl rfl (wantB_t _) rfl (by decide) (fun hp hS => (hS.conv (t := 86) rfl (cond_t hp)).sub (ts := [86]) rfl) (fun hp => Ob_c tLinkC rfl) ?_; clear Z a; intro a Z
    refine s_ob Z (v := .bool ((seqB got_10 ⟨#[120]⟩) && (w0_2 == 0))) rfl rfl (by decide) rfl (Ob_pick rfl rfl rfl rfl (pick_and _ _)) ?_; clear Z a; intro a Z
    refine s_runk tLinkC Z 1 rfl rfl ?_; clear Z a; intro a Z
    refine g_ob Z (p := ((seqB got_10 ⟨#[120]⟩) && (w0_2 == 0))) (v := .pointer (some ⟨b1, 0, none⟩)) (S' := [(1, .pointer (some ⟨b1, 0, none⟩))]) rfl rfl rfl (wantB_t _) rfl (by decide) (fun hp hS => hS.sub (ts := [1]) rfl) (fun hp => Ob_c tLinkC rfl) ?_; clear Z a; intro a Z
    refine h_gcall Z H (js := [(0, false)]) rfl (p := ((seqB got_10 ⟨#[120]⟩) && (w0_2 == 0))) (v := .int .i64 k_10) (S' := [(90, .pointer (some ⟨b1, 0, none⟩))]) (caps := #[]) (fun _ => [OElink_Link b1 a0_3]) fn_19_YLinkC rfl rfl rfl (wantB_t _) rfl (by decide) (fun hp hS => (hS.conv (t := 90) rfl (cond_t hp)).sub (ts := [90]) rfl) rfl rfl rfl rfl (fun hp D1 hS => have hq := c_link_Link_Knows (gif_in hx31 hp) hS; hq) (fun hp => H.sub [(0, false), (0, false)] rfl) ?_; clear Z a H; intro a w47 I43 H Z
    replace H : Hf I D w I43 w47 [OElink_Link b1 a0_3, OElink_Link b3 b_3] := H
    refine g_ob Z (p := ((seqB got_10 ⟨#[120]⟩) && (w0_2 == 0))) (v := .bool (k_10 == 1)) (S' := [(91, .int .i64 k_10)]) rfl rfl rfl (wantB_t _) rfl (by decide) (fun hp hS => (hS.conv (t := 91) rfl (cond_t hp)).sub (ts := [91]) rfl) (fun hp => Ob_c tLinkC rfl) ?_; clear Z a; intro a Z
    refine s_ob Z (v := .bool (((seqB got_10 ⟨#[120]⟩) && (w0_2 == 0)) && (k_10 == 1))) rfl rfl (by decide) rfl (Ob_pick rfl rfl rfl rfl (pick_and _ _)) ?_; clear Z a; intro a Z
    refine s_runk tLinkC Z 1 rfl rfl ?_; clear Z a; intro a Z
    refine s_end Z [0] rfl ?_; clear Z; intro Z
    refine p_then (wp_ret ?_)
    obtain rfl := some_in hF
    exact f_ret Z (run_results1 rfl Z rfl) ⟨rfl, I43, (H.sub [] rfl).eq rfl⟩

end Go.Proofs.Ythomnhhjgcabkaa
