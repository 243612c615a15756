/- WireZero: writers and readers that nobody made. (Printed by wz.py.) -/
import Derived.Test.YtlgejpompnbfoaaYWireP1
namespace Go.Proofs.Ytlgejpompnbfoaa
open Go.RowKit
def TZL : TabL := ⟨[], [9], [4], [], [(4, (1, false)), (46, (1, false))]⟩

def TZ : Tab Try.prog := ⟨TZL, by kernel_rfl⟩

theorem fz_8 : IsFn Try.prog 8 := ⟨_, Try.func8, by kernel_rfl, by kernel_rfl⟩

theorem fz_10 : IsFn Try.prog 10 := ⟨_, Try.func10, by kernel_rfl, by kernel_rfl⟩

theorem fz_12 : IsFn Try.prog 12 := ⟨_, Try.func12, by kernel_rfl, by kernel_rfl⟩

theorem fz_14 : IsFn Try.prog 14 := ⟨_, Try.func14, by kernel_rfl, by kernel_rfl⟩

theorem fz_16 : IsFn Try.prog 16 := ⟨_, Try.func16, by kernel_rfl, by kernel_rfl⟩

theorem fz_18 : IsFn Try.prog 18 := ⟨_, Try.func18, by kernel_rfl, by kernel_rfl⟩

theorem fz_20 : IsFn Try.prog 20 := ⟨_, Try.func20, by kernel_rfl, by kernel_rfl⟩

theorem fz_22 : IsFn Try.prog 22 := ⟨_, Try.func22, by kernel_rfl, by kernel_rfl⟩

theorem fz_24 : IsFn Try.prog 24 := ⟨_, Try.func24, by kernel_rfl, by kernel_rfl⟩

theorem fz_26 : IsFn Try.prog 26 := ⟨_, Try.func26, by kernel_rfl, by kernel_rfl⟩

theorem fz_28 : IsFn Try.prog 28 := ⟨_, Try.func28, by kernel_rfl, by kernel_rfl⟩

theorem fz_29 : IsFn Try.prog 29 := ⟨_, Try.func29, by kernel_rfl, by kernel_rfl⟩

theorem fz_31 : IsFn Try.prog 31 := ⟨_, Try.func31, by kernel_rfl, by kernel_rfl⟩

theorem fz_46 : IsFn Try.prog 46 := ⟨_, Try.func46, by kernel_rfl, by kernel_rfl⟩

/-- a reader that nobody made: none, or one of zeros -/
inductive RSt where | none | zero (b : Nat)

def RSt.p : RSt → Value | .none => .pointer .none | .zero b => .pointer (some ⟨b, 0, .none⟩)

def RSt.ch : RSt → Ch | .none => OrC 0 (.slice .none 0 0) ByteArray.empty | .zero b => BxC b 65 [.string ByteArray.empty, .int .i64 0, .int .i64 0, .bool false]

theorem hf_none {I0 D : Dm} {w0 : World} {I : Dm} {w : World} {cs : List Ch} (H : Hf I0 D w0 I w cs) : Hf I0 D w0 I w (OrC 0 (.slice .none 0 0) ByteArray.empty :: cs) :=
  H.add (f := fun _ => False) (c := OrC 0 (.slice .none 0 0) ByteArray.empty) ⟨fun k => by simp [Value.ownBlock], fun k h => by simp [Value.ownBlock] at h, World.ownsRow_nil w 0 0 1, fun x m c h => by cases h⟩ fun _ => id

theorem Ob_eqv {P : Program} {ev : Operand → Option Value} {o : Oper} {w : World} {v v2 : Value} (h : Ob P ev o v w) (e : v = v2) : Ob P ev o v2 w := e ▸ h

theorem c_z_none {I D : Dm} (x : RSt) (w : World) (H : St I D w [x.ch]) : Calls Try.prog 46 #[x.p] w (Ret fun r w' => r = .bool true ∧ ∃ I', Hf I D w I' w' [x.ch]) := by
  cases x with
  | zero b => exact c_w_none b ⟨ByteArray.empty, 0, 0, false⟩ w H
  | none =>
   replace H := H.hf
   refine f_enter 12 Try.func46 rfl rfl (Nat.le_of_ble_eq_true rfl) fun a Z => ?_
   replace Z := Z.sub (ts := [0]) rfl
   refine wp_seq (f_region Z ?_); clear Z; intro Z
   refine s_runk TZ Z 1 rfl rfl ?_; clear Z a; intro a Z
   refine s_end Z [0] rfl ?_; clear Z; intro Z
   refine p_then (wp_seq (f_region Z ?_)); clear Z; intro Z
   refine s_runk TZ Z 1 rfl rfl ?_; clear Z a; intro a Z
   refine s_ob Z (v := .bool true) rfl rfl (by decide) rfl (Ob_pn (p := none) (q := none) (op := .eql) (c := true) rfl rfl rfl rfl Try.underlying46 (.inl ⟨rfl, rfl⟩)) ?_; clear Z a; intro a Z
   refine s_runk TZ Z 1 rfl rfl ?_; clear Z a; intro a Z
   refine g_if Z rfl rfl rfl (p := false) rfl rfl (by decide) (fun h => by cases h) (fun _ => ?_); clear Z a; intro a Z
   refine g_if Z rfl rfl rfl (p := false) rfl rfl (by decide) (fun h => by cases h) (fun _ => ?_); clear Z a; intro a Z
   refine g_if Z rfl rfl rfl (p := false) rfl rfl (by decide) (fun h => by cases h) (fun _ => ?_); clear Z a; intro a Z
   refine g_if Z rfl rfl rfl (p := false) rfl rfl (by decide) (fun h => by cases h) (fun _ => ?_); clear Z a; intro a Z
   refine g_if Z rfl rfl rfl (p := false) rfl rfl (by decide) (fun h => by cases h) (fun _ => ?_); clear Z a; intro a Z
   refine s_ob Z (v := .bool true) rfl rfl (by decide) rfl (Ob_pick rfl rfl rfl rfl rfl) ?_; clear Z a; intro a Z
   refine s_runk TZ Z 1 rfl rfl ?_; clear Z a; intro a Z
   refine s_end Z [2] rfl ?_; clear Z; intro Z
   refine p_then (wp_ret ?_)
   refine f_ret Z (run_results1 rfl Z rfl) ?_
   exact ⟨rfl, I, H⟩

theorem c_z_Err {I D : Dm} (x : RSt) (w : World) (H : St I D w [x.ch]) : Calls Try.prog 28 #[x.p] w (Ret fun r w' => r = .int .i64 8 ∧ ∃ I', Hf I D w I' w' [x.ch]) := by
 replace H := H.hf
 refine f_enter 9 Try.func28 rfl rfl (Nat.le_of_ble_eq_true rfl) fun a Z => ?_
 replace Z := Z.sub (ts := [0]) rfl
 refine wp_seq (f_region Z ?_); clear Z; intro Z
 refine s_runk TZ Z 1 rfl rfl ?_; clear Z a; intro a Z
 refine s_end Z [0, 2] rfl ?_; clear Z; intro Z
 refine p_then (wp_seq ?_)
 refine wp_seq (f_region Z ?_); clear Z; intro Z
 refine s_runk TZ Z 1 rfl rfl ?_; clear Z a; intro a Z
 refine h_call Z H (js := [(0, false)]) rfl (caps := #[]) fz_46 rfl rfl rfl rfl rfl (by decide) rfl rfl (fun D1 hS => c_z_none x _ hS) ?_; clear Z a H; intro _ a w1 D1 hr hF Z
 obtain ⟨rfl, I1, H⟩ := hr
 replace H : Hf I D w I1 w1 [x.ch] := hF H
 clear hF
 refine s_end Z [0, 2, 4] rfl ?_; clear Z; intro Z
 refine p_then ?_
 refine f_cond Z rfl (fun hc1 => ?_) (fun hc1 => by cases hc1)
 refine wp_seq (f_region Z ?_); clear Z; intro Z
 refine s_runk TZ Z 1 rfl rfl ?_; clear Z a; intro a Z
 refine s_end Z [0, 2, 4] rfl ?_; clear Z; intro Z
 refine p_then (wp_ret ?_)
 refine p_then_r ?_
 refine f_ret Z (run_results1 rfl Z rfl) ?_
 exact ⟨rfl, I1, H⟩

theorem c_z_Num {I D : Dm} (x : RSt) (n : Int) (w : World) (H : St I D w [x.ch]) : Calls Try.prog 20 #[x.p, .int .i64 n] w (Ret fun r w' => r = .int .i64 0 ∧ ∃ I', Hf I D w I' w' [x.ch]) := by
 replace H := H.hf
 refine f_enter 23 Try.func20 rfl rfl (Nat.le_of_ble_eq_true rfl) fun a Z => ?_
 replace Z := Z.sub (ts := [0, 1]) rfl
 refine wp_seq (f_region Z ?_); clear Z; intro Z
 refine h_boxv Z H (cl := [x.p]) rfl rfl rfl (by decide) rfl rfl (by cases x <;> rfl) ?_; clear Z a H; intro a w1 b1 H Z
 refine s_runk TZ Z 1 rfl rfl ?_; clear Z a; intro a Z
 refine s_end Z [2, 4] rfl ?_; clear Z; intro Z
 refine p_then (wp_seq ?_)
 refine wp_seq (f_region Z ?_); clear Z; intro Z
 refine s_ob Z (v := x.p) rfl rfl (by decide) rfl (Ob_load TZ rfl rfl rfl ((H.bx 0 rfl).cell 0 rfl)) ?_; clear Z a; intro a Z
 refine h_call Z H (js := [(1, false)]) rfl (caps := #[]) fz_28 rfl rfl rfl rfl rfl (by decide) rfl rfl (fun D1 hS => c_z_Err x _ hS) ?_; clear Z a H; intro _ a w2 D1 hr hF Z
 obtain ⟨rfl, I1, H⟩ := hr
 replace H := hF H
 clear hF
 refine s_runk TZ Z 1 rfl rfl ?_; clear Z a; intro a Z
 refine s_end Z [8] rfl ?_; clear Z; intro Z
 refine p_then ?_
 refine f_cond Z rfl (fun hc1 => ?_) (fun hc1 => by cases hc1)
 refine wp_seq (f_region Z ?_); clear Z; intro Z
 refine s_runk TZ Z 1 rfl rfl ?_; clear Z a; intro a Z
 refine s_end Z [4] rfl ?_; clear Z; intro Z
 refine p_then (wp_ret ?_)
 refine p_then_r ?_
 refine f_ret Z (run_results1 rfl Z rfl) ?_
 exact ⟨rfl, I1, H.sub [(0, false)] rfl⟩

theorem c_z_Big {I D : Dm} (x : RSt) (w : World) (H : St I D w [x.ch]) : Calls Try.prog 22 #[x.p] w (Ret fun r w' => r = .int .u64 0 ∧ ∃ I', Hf I D w I' w' [x.ch]) := by
 replace H := H.hf
 refine f_enter 9 Try.func22 rfl rfl (Nat.le_of_ble_eq_true rfl) fun a Z => ?_
 replace Z := Z.sub (ts := [0]) rfl
 refine wp_seq (f_region Z ?_); clear Z; intro Z
 refine h_boxv Z H (cl := [x.p]) rfl rfl rfl (by decide) rfl rfl (by cases x <;> rfl) ?_; clear Z a H; intro a w1 b1 H Z
 refine s_runk TZ Z 1 rfl rfl ?_; clear Z a; intro a Z
 refine s_end Z [1, 2] rfl ?_; clear Z; intro Z
 refine p_then (wp_seq ?_)
 refine wp_seq (f_region Z ?_); clear Z; intro Z
 refine s_ob Z (v := x.p) rfl rfl (by decide) rfl (Ob_load TZ rfl rfl rfl ((H.bx 0 rfl).cell 0 rfl)) ?_; clear Z a; intro a Z
 refine h_call Z H (js := [(1, false)]) rfl (caps := #[]) fz_28 rfl rfl rfl rfl rfl (by decide) rfl rfl (fun D1 hS => c_z_Err x _ hS) ?_; clear Z a H; intro _ a w2 D1 hr hF Z
 obtain ⟨rfl, I1, H⟩ := hr
 replace H := hF H
 clear hF
 refine s_runk TZ Z 1 rfl rfl ?_; clear Z a; intro a Z
 refine s_end Z [5] rfl ?_; clear Z; intro Z
 refine p_then ?_
 refine f_cond Z rfl (fun hc1 => ?_) (fun hc1 => by cases hc1)
 refine wp_seq (f_region Z ?_); clear Z; intro Z
 refine s_runk TZ Z 1 rfl rfl ?_; clear Z a; intro a Z
 refine s_end Z [2] rfl ?_; clear Z; intro Z
 refine p_then (wp_ret ?_)
 refine p_then_r ?_
 refine f_ret Z (run_results1 rfl Z rfl) ?_
 exact ⟨rfl, I1, H.sub [(0, false)] rfl⟩

theorem c_z_Text {I D : Dm} (x : RSt) (n : Int) (w : World) (H : St I D w [x.ch]) : Calls Try.prog 24 #[x.p, .int .i64 n] w (Ret fun r w' => r = .string ⟨#[]⟩ ∧ ∃ I', Hf I D w I' w' [x.ch]) := by
 replace H := H.hf
 refine f_enter 58 Try.func24 rfl rfl (Nat.le_of_ble_eq_true rfl) fun a Z => ?_
 replace Z := Z.sub (ts := [0, 1]) rfl
 refine wp_seq (f_region Z ?_); clear Z; intro Z
 refine h_boxv Z H (cl := [x.p]) rfl rfl rfl (by decide) rfl rfl (by cases x <;> rfl) ?_; clear Z a H; intro a w1 b1 H Z
 refine s_runk TZ Z 1 rfl rfl ?_; clear Z a; intro a Z
 refine s_end Z [2, 4] rfl ?_; clear Z; intro Z
 refine p_then (wp_seq ?_)
 refine wp_seq (f_region Z ?_); clear Z; intro Z
 refine s_ob Z (v := x.p) rfl rfl (by decide) rfl (Ob_load TZ rfl rfl rfl ((H.bx 0 rfl).cell 0 rfl)) ?_; clear Z a; intro a Z
 refine h_call Z H (js := [(1, false)]) rfl (caps := #[]) fz_28 rfl rfl rfl rfl rfl (by decide) rfl rfl (fun D1 hS => c_z_Err x _ hS) ?_; clear Z a H; intro _ a w2 D1 hr hF Z
 obtain ⟨rfl, I1, H⟩ := hr
 replace H := hF H
 clear hF
 refine s_runk TZ Z 1 rfl rfl ?_; clear Z a; intro a Z
 refine s_end Z [9] rfl ?_; clear Z; intro Z
 refine p_then ?_
 refine f_cond Z rfl (fun hc1 => ?_) (fun hc1 => by cases hc1)
 refine wp_seq (f_region Z ?_); clear Z; intro Z
 refine s_runk TZ Z 1 rfl rfl ?_; clear Z a; intro a Z
 refine s_end Z [4] rfl ?_; clear Z; intro Z
 refine p_then (wp_ret ?_)
 refine p_then_r ?_
 refine f_ret Z (run_results1 rfl Z rfl) ?_
 exact ⟨rfl, I1, H.sub [(0, false)] rfl⟩

theorem c_z_Flag {I D : Dm} (x : RSt) (w : World) (H : St I D w [x.ch]) : Calls Try.prog 26 #[x.p] w (Ret fun r w' => r = .bool false ∧ ∃ I', Hf I D w I' w' [x.ch]) := by
 replace H := H.hf
 refine f_enter 47 Try.func26 rfl rfl (Nat.le_of_ble_eq_true rfl) fun a Z => ?_
 replace Z := Z.sub (ts := [0]) rfl
 refine wp_seq (f_region Z ?_); clear Z; intro Z
 refine h_boxv Z H (cl := [x.p]) rfl rfl rfl (by decide) rfl rfl (by cases x <;> rfl) ?_; clear Z a H; intro a w1 b1 H Z
 refine s_runk TZ Z 1 rfl rfl ?_; clear Z a; intro a Z
 refine s_end Z [1, 2] rfl ?_; clear Z; intro Z
 refine p_then (wp_seq ?_)
 refine wp_seq (f_region Z ?_); clear Z; intro Z
 refine s_ob Z (v := x.p) rfl rfl (by decide) rfl (Ob_load TZ rfl rfl rfl ((H.bx 0 rfl).cell 0 rfl)) ?_; clear Z a; intro a Z
 refine h_call Z H (js := [(1, false)]) rfl (caps := #[]) fz_28 rfl rfl rfl rfl rfl (by decide) rfl rfl (fun D1 hS => c_z_Err x _ hS) ?_; clear Z a H; intro _ a w2 D1 hr hF Z
 obtain ⟨rfl, I1, H⟩ := hr
 replace H := hF H
 clear hF
 refine s_runk TZ Z 1 rfl rfl ?_; clear Z a; intro a Z
 refine s_end Z [5] rfl ?_; clear Z; intro Z
 refine p_then ?_
 refine f_cond Z rfl (fun hc1 => ?_) (fun hc1 => by cases hc1)
 refine wp_seq (f_region Z ?_); clear Z; intro Z
 refine s_runk TZ Z 1 rfl rfl ?_; clear Z a; intro a Z
 refine s_end Z [2] rfl ?_; clear Z; intro Z
 refine p_then (wp_ret ?_)
 refine p_then_r ?_
 refine f_ret Z (run_results1 rfl Z rfl) ?_
 exact ⟨rfl, I1, H.sub [(0, false)] rfl⟩

theorem c_z_Left {I D : Dm} (x : RSt) (w : World) (H : St I D w [x.ch]) : Calls Try.prog 29 #[x.p] w (Ret fun r w' => r = .int .i64 0 ∧ ∃ I', Hf I D w I' w' [x.ch]) := by
 replace H := H.hf
 refine f_enter 16 Try.func29 rfl rfl (Nat.le_of_ble_eq_true rfl) fun a Z => ?_
 replace Z := Z.sub (ts := [0]) rfl
 refine wp_seq (f_region Z ?_); clear Z; intro Z
 refine s_runk TZ Z 1 rfl rfl ?_; clear Z a; intro a Z
 refine s_end Z [0, 2] rfl ?_; clear Z; intro Z
 refine p_then (wp_seq ?_)
 refine wp_seq (f_region Z ?_); clear Z; intro Z
 refine s_runk TZ Z 1 rfl rfl ?_; clear Z a; intro a Z
 refine h_call Z H (js := [(0, false)]) rfl (caps := #[]) fz_28 rfl rfl rfl rfl rfl (by decide) rfl rfl (fun D1 hS => c_z_Err x _ hS) ?_; clear Z a H; intro _ a w1 D1 hr hF Z
 obtain ⟨rfl, I1, H⟩ := hr
 replace H : Hf I D w I1 w1 [x.ch] := hF H
 clear hF
 refine s_runk TZ Z 1 rfl rfl ?_; clear Z a; intro a Z
 refine s_end Z [5] rfl ?_; clear Z; intro Z
 refine p_then ?_
 refine f_cond Z rfl (fun hc1 => ?_) (fun hc1 => by cases hc1)
 refine wp_seq (f_region Z ?_); clear Z; intro Z
 refine s_runk TZ Z 1 rfl rfl ?_; clear Z a; intro a Z
 refine s_end Z [2] rfl ?_; clear Z; intro Z
 refine p_then (wp_ret ?_)
 refine p_then_r ?_
 refine f_ret Z (run_results1 rfl Z rfl) ?_
 exact ⟨rfl, I1, H⟩

theorem c_z_End {I D : Dm} (x : RSt) (w : World) (H : St I D w [x.ch]) : Calls Try.prog 31 #[x.p] w (Ret fun r w' => r = .int .i64 8 ∧ ∃ I', Hf I D w I' w' [x.ch]) := by
 replace H := H.hf
 refine f_enter 12 Try.func31 rfl rfl (Nat.le_of_ble_eq_true rfl) fun a Z => ?_
 replace Z := Z.sub (ts := [0]) rfl
 refine wp_seq (f_region Z ?_); clear Z; intro Z
 refine s_runk TZ Z 1 rfl rfl ?_; clear Z a; intro a Z
 refine s_end Z [0, 2] rfl ?_; clear Z; intro Z
 refine p_then (wp_seq ?_)
 refine wp_seq (f_region Z ?_); clear Z; intro Z
 refine s_runk TZ Z 1 rfl rfl ?_; clear Z a; intro a Z
 refine h_call Z H (js := [(0, false)]) rfl (caps := #[]) fz_28 rfl rfl rfl rfl rfl (by decide) rfl rfl (fun D1 hS => c_z_Err x _ hS) ?_; clear Z a H; intro _ a w1 D1 hr hF Z
 obtain ⟨rfl, I1, H⟩ := hr
 replace H : Hf I D w I1 w1 [x.ch] := hF H
 clear hF
 refine s_runk TZ Z 1 rfl rfl ?_; clear Z a; intro a Z
 refine s_end Z [0, 2, 3] rfl ?_; clear Z; intro Z
 refine p_then (wp_seq (f_region Z ?_)); clear Z; intro Z
 refine s_runk TZ Z 2 rfl rfl ?_; clear Z a; intro a Z
 refine s_end Z [3, 7] rfl ?_; clear Z; intro Z
 refine p_then ?_
 refine f_cond Z rfl (fun hc1 => ?_) (fun hc1 => by cases hc1)
 refine wp_seq (f_region Z ?_); clear Z; intro Z
 refine s_runk TZ Z 2 rfl rfl ?_; clear Z a; intro a Z
 refine s_end Z [2] rfl ?_; clear Z; intro Z
 refine p_then (wp_ret ?_)
 refine p_then_r ?_
 refine f_ret Z (run_results1 rfl Z rfl) ?_
 exact ⟨rfl, I1, H⟩

def F_law02_WireZero (n : Int) (s : ByteArray) : Option Bool := chk (inI n ∧ s.size ≤ maxLen) (some true)

set_option maxHeartbeats 2000000 in
theorem c_law02_WireZero {I D : Dm} {n : Int} {s : ByteArray} {w : World} {rr : Bool} (hF : F_law02_WireZero n s = some rr) (H : St I D w []) :
  Calls Try.prog 6 #[.int .i64 n, .string s] w (Ret fun vv w' => vv = .bool rr ∧ ∃ I', Hf I D w I' w' []) := by
 obtain ⟨⟨hn, hs⟩, hF⟩ := chk_in hF; obtain rfl := some_in hF
 replace H := H.hf
 refine f_enter 105 Try.func6 rfl rfl (Nat.le_of_ble_eq_true rfl) fun a Z => ?_
 replace Z := Z.sub (ts := [0, 1]) rfl
 refine wp_seq (f_region Z ?_); clear Z; intro Z
 refine s_runk TZ Z 1 rfl rfl ?_; clear Z a; intro a Z
 refine s_end Z [0, 1] rfl ?_; clear Z; intro Z
 refine p_then (wp_seq (f_region Z ?_)); clear Z; intro Z
 refine s_runk TZ Z 1 rfl rfl ?_; clear Z a; intro a Z
 refine s_end Z [0, 1, 5] rfl ?_; clear Z; intro Z
 refine p_then (wp_seq (f_region Z ?_)); clear Z; intro Z
 refine h_alloc Z H (cl := [.pointer none, .slice none 0 0, .int .i64 0, .bool false]) (z := .agg #[.pointer none, .slice none 0 0, .int .i64 0, .bool false]) rfl rfl rfl (by decide) rfl (by kernel_rfl) rfl ?_; clear Z a H; intro a w1 b1 H Z
 refine s_end Z [0, 1, 5, 6] rfl ?_; clear Z; intro Z
 refine p_then (wp_seq (f_region Z ?_)); clear Z; intro Z
 refine s_runk TZ Z 1 rfl rfl ?_; clear Z a; intro a Z
 refine s_end Z [0, 1, 5, 6, 7] rfl ?_; clear Z; intro Z
 refine p_then (wp_seq (f_region Z ?_)); clear Z; intro Z
 refine h_alloc Z H (cl := [.string ByteArray.empty, .int .i64 0, .int .i64 0, .bool false]) (z := .agg #[.string ByteArray.empty, .int .i64 0, .int .i64 0, .bool false]) rfl rfl rfl (by decide) rfl (by kernel_rfl) rfl ?_; clear Z a H; intro a w2 b2 H Z
 refine s_end Z [0, 1, 5, 6, 7, 8] rfl ?_; clear Z; intro Z
 refine p_then (wp_seq (f_region Z ?_)); clear Z; intro Z
 have H : Hf I D w I w2 [WSt.none.ch, (RSt.zero b2).ch, (WSt.zero b1).ch] := hf_none H
 refine s_runk TZ Z 2 rfl rfl ?_; clear Z a; intro a Z
 refine h_call Z H (js := [(0, false)]) rfl (caps := #[]) fz_8 rfl rfl rfl rfl rfl (by decide) rfl rfl (fun D1 hS => c_wNum .none n _ hS (by unfold inI at hn; unfold i64ok; omega) trivial) ?_; clear Z a H; intro _ a w3 D1 hr hF Z
 obtain ⟨rfl, I1, K⟩ := hr
 have H : Hf I D w I1 w3 [WSt.none.ch, (RSt.zero b2).ch, (WSt.zero b1).ch] := hF K
 clear hF K
 refine s_runk TZ Z 1 rfl rfl ?_; clear Z a; intro a Z
 refine h_call Z H (js := [(0, false)]) rfl (caps := #[]) fz_12 rfl rfl rfl rfl rfl (by decide) rfl rfl (fun D1 hS => c_wText .none s _ hS hs trivial) ?_; clear Z a H; intro _ a w4 D1 hr hF Z
 obtain ⟨rfl, I2, K⟩ := hr
 have H : Hf I D w I2 w4 [WSt.none.ch, (RSt.zero b2).ch, (WSt.zero b1).ch] := hF K
 clear hF K
 refine h_call Z H (js := [(0, false)]) rfl (caps := #[]) fz_14 rfl rfl rfl rfl rfl (by decide) rfl rfl (fun D1 hS => c_wFlag .none true _ hS trivial) ?_; clear Z a H; intro _ a w5 D1 hr hF Z
 obtain ⟨rfl, I3, K⟩ := hr
 have H : Hf I D w I3 w5 [WSt.none.ch, (RSt.zero b2).ch, (WSt.zero b1).ch] := hF K
 clear hF K
 refine h_call Z H (js := [(0, false)]) rfl (caps := #[]) fz_10 rfl rfl rfl rfl rfl (by decide) rfl rfl (fun D1 hS => c_wBig .none 3 _ hS (by decide) trivial) ?_; clear Z a H; intro _ a w6 D1 hr hF Z
 obtain ⟨rfl, I4, K⟩ := hr
 have H : Hf I D w I4 w6 [WSt.none.ch, (RSt.zero b2).ch, (WSt.zero b1).ch] := hF K
 clear hF K
 refine h_call Z H (js := [(0, false)]) rfl (caps := #[]) fz_16 rfl rfl rfl rfl rfl (by decide) rfl rfl (fun D1 hS => c_wDone .none _ hS) ?_; clear Z a H; intro _ a w7 D1 hr hF Z
 obtain ⟨rfl, I5, K⟩ := hr
 have H : Hf I D w I5 w7 [(RSt.zero b2).ch, (WSt.zero b1).ch] := hF K
 clear hF K
 refine s_runk TZ Z 5 rfl rfl ?_; clear Z a; intro a Z
 refine s_end Z [0, 1, 6, 7, 8, 10] rfl ?_; clear Z; intro Z
 refine p_then (wp_seq (f_region Z ?_)); clear Z; intro Z
 refine s_runk TZ Z 1 rfl rfl ?_; clear Z a; intro a Z
 refine h_call Z H (js := [(1, false)]) rfl (caps := #[]) fz_8 rfl rfl rfl rfl rfl (by decide) rfl rfl (fun D1 hS => c_wNum (.zero b1) n _ hS (by unfold inI at hn; unfold i64ok; omega) trivial) ?_; clear Z a H; intro _ a w8 D1 hr hF Z
 obtain ⟨rfl, I6, K⟩ := hr
 have H : Hf I D w I6 w8 [(WSt.zero b1).ch, (RSt.zero b2).ch] := hF K
 clear hF K
 refine s_runk TZ Z 1 rfl rfl ?_; clear Z a; intro a Z
 refine h_call Z H (js := [(0, false)]) rfl (caps := #[]) fz_12 rfl rfl rfl rfl rfl (by decide) rfl rfl (fun D1 hS => c_wText (.zero b1) s _ hS hs trivial) ?_; clear Z a H; intro _ a w9 D1 hr hF Z
 obtain ⟨rfl, I7, K⟩ := hr
 have H : Hf I D w I7 w9 [(WSt.zero b1).ch, (RSt.zero b2).ch] := hF K
 clear hF K
 refine h_call Z H (js := [(0, false)]) rfl (caps := #[]) fz_14 rfl rfl rfl rfl rfl (by decide) rfl rfl (fun D1 hS => c_wFlag (.zero b1) true _ hS trivial) ?_; clear Z a H; intro _ a w10 D1 hr hF Z
 obtain ⟨rfl, I8, K⟩ := hr
 have H : Hf I D w I8 w10 [(WSt.zero b1).ch, (RSt.zero b2).ch] := hF K
 clear hF K
 refine h_call Z H (js := [(0, false)]) rfl (caps := #[]) fz_10 rfl rfl rfl rfl rfl (by decide) rfl rfl (fun D1 hS => c_wBig (.zero b1) 3 _ hS (by decide) trivial) ?_; clear Z a H; intro _ a w11 D1 hr hF Z
 obtain ⟨rfl, I9, K⟩ := hr
 have H : Hf I D w I9 w11 [(WSt.zero b1).ch, (RSt.zero b2).ch] := hF K
 clear hF K
 refine h_call Z H (js := [(0, false)]) rfl (caps := #[]) fz_16 rfl rfl rfl rfl rfl (by decide) rfl rfl (fun D1 hS => c_wDone (.zero b1) _ hS) ?_; clear Z a H; intro _ a w12 D1 hr hF Z
 obtain ⟨rfl, I10, K⟩ := hr
 have H : Hf I D w I10 w12 [(RSt.zero b2).ch] := hF K
 clear hF K
 refine s_runk TZ Z 5 rfl rfl ?_; clear Z a; intro a Z
 refine s_end Z [0, 1, 7, 8, 10, 12] rfl ?_; clear Z; intro Z
 refine p_then (wp_seq (f_region Z ?_)); clear Z; intro Z
 have H : Hf I D w I10 w12 [RSt.none.ch, (RSt.zero b2).ch] := hf_none H
 refine s_runk TZ Z 1 rfl rfl ?_; clear Z a; intro a Z
 refine s_ob Z (v := .bool true) rfl rfl (by decide) rfl (Ob_c TZ rfl) ?_; clear Z a; intro a Z
 refine s_runk TZ Z 1 rfl rfl ?_; clear Z a; intro a Z
 refine g_if Z rfl rfl rfl (p := true) rfl rfl (by decide) (fun _ => ?_) (fun h => by cases h)
 refine s_runk TZ Z 1 rfl rfl ?_; clear Z a; intro a Z
 refine g_if Z rfl rfl rfl (p := true) rfl rfl (by decide) (fun _ => ?_) (fun h => by cases h)
 refine s_runk TZ Z 1 rfl rfl ?_; clear Z a; intro a Z
 refine g_if Z rfl rfl rfl (p := true) rfl rfl (by decide) (fun _ => ?_) (fun h => by cases h)
 refine s_ob Z (v := .bool true) rfl rfl (by decide) rfl (Ob_c TZ rfl) ?_; clear Z a; intro a Z
 refine s_ob Z (v := .bool true) rfl rfl (by decide) rfl (Ob_pick rfl rfl rfl rfl rfl) ?_; clear Z a; intro a Z
 refine s_runk TZ Z 1 rfl rfl ?_; clear Z a; intro a Z
 refine g_if Z rfl rfl rfl (p := true) rfl rfl (by decide) (fun _ => ?_) (fun h => by cases h)
 refine s_runk TZ Z 1 rfl rfl ?_; clear Z a; intro a Z
 refine g_if Z rfl rfl rfl (p := true) rfl rfl (by decide) (fun _ => ?_) (fun h => by cases h)
 refine s_runk TZ Z 1 rfl rfl ?_; clear Z a; intro a Z
 refine g_if Z rfl rfl rfl (p := true) rfl rfl (by decide) (fun _ => ?_) (fun h => by cases h)
 refine h_call Z H (js := [(0, false)]) rfl (caps := #[]) fz_20 rfl rfl rfl rfl rfl (by decide) rfl rfl (fun D1 hS => c_z_Num RSt.none n _ hS) ?_; clear Z a H; intro _ a w13 D1 hr hF Z
 obtain ⟨rfl, I11, K⟩ := hr
 have H : Hf I D w I11 w13 [RSt.none.ch, (RSt.zero b2).ch] := hF K
 clear hF K
 refine g_if Z rfl rfl rfl (p := true) rfl rfl (by decide) (fun _ => ?_) (fun h => by cases h)
 refine s_runk TZ Z 1 rfl rfl ?_; clear Z a; intro a Z
 refine g_if Z rfl rfl rfl (p := true) rfl rfl (by decide) (fun _ => ?_) (fun h => by cases h)
 refine h_call Z H (js := [(1, false)]) rfl (caps := #[]) fz_20 rfl rfl rfl rfl rfl (by decide) rfl rfl (fun D1 hS => c_z_Num (RSt.zero b2) n _ hS) ?_; clear Z a H; intro _ a w14 D1 hr hF Z
 obtain ⟨rfl, I12, K⟩ := hr
 have H : Hf I D w I12 w14 [(RSt.zero b2).ch, RSt.none.ch] := hF K
 clear hF K
 refine g_if Z rfl rfl rfl (p := true) rfl rfl (by decide) (fun _ => ?_) (fun h => by cases h)
 refine s_ob Z (v := .int .i64 0) rfl rfl (by decide) rfl (Ob_add rfl rfl rfl (by decide)) ?_; clear Z a; intro a Z
 refine g_if Z rfl rfl rfl (p := true) rfl rfl (by decide) (fun _ => ?_) (fun h => by cases h)
 refine s_runk TZ Z 1 rfl rfl ?_; clear Z a; intro a Z
 refine g_if Z rfl rfl rfl (p := true) rfl rfl (by decide) (fun _ => ?_) (fun h => by cases h)
 refine h_call Z H (js := [(1, false)]) rfl (caps := #[]) fz_29 rfl rfl rfl rfl rfl (by decide) rfl rfl (fun D1 hS => c_z_Left RSt.none _ hS) ?_; clear Z a H; intro _ a w15 D1 hr hF Z
 obtain ⟨rfl, I13, K⟩ := hr
 have H : Hf I D w I13 w15 [RSt.none.ch, (RSt.zero b2).ch] := hF K
 clear hF K
 refine g_if Z rfl rfl rfl (p := true) rfl rfl (by decide) (fun _ => ?_) (fun h => by cases h)
 refine s_ob Z (v := .int .i64 0) rfl rfl (by decide) rfl (Ob_add rfl rfl rfl (by decide)) ?_; clear Z a; intro a Z
 refine g_if Z rfl rfl rfl (p := true) rfl rfl (by decide) (fun _ => ?_) (fun h => by cases h)
 refine h_call Z H (js := [(1, false)]) rfl (caps := #[]) fz_29 rfl rfl rfl rfl rfl (by decide) rfl rfl (fun D1 hS => c_z_Left (RSt.zero b2) _ hS) ?_; clear Z a H; intro _ a w16 D1 hr hF Z
 obtain ⟨rfl, I14, K⟩ := hr
 have H : Hf I D w I14 w16 [(RSt.zero b2).ch, RSt.none.ch] := hF K
 clear hF K
 refine g_if Z rfl rfl rfl (p := true) rfl rfl (by decide) (fun _ => ?_) (fun h => by cases h)
 refine s_ob Z (v := .int .i64 0) rfl rfl (by decide) rfl (Ob_add rfl rfl rfl (by decide)) ?_; clear Z a; intro a Z
 refine g_if Z rfl rfl rfl (p := true) rfl rfl (by decide) (fun _ => ?_) (fun h => by cases h)
 refine s_ob Z (v := .bool true) rfl rfl (by decide) rfl (Ob_c TZ rfl) ?_; clear Z a; intro a Z
 refine s_ob Z (v := .bool true) rfl rfl (by decide) rfl (Ob_pick rfl rfl rfl rfl rfl) ?_; clear Z a; intro a Z
 refine s_runk TZ Z 1 rfl rfl ?_; clear Z a; intro a Z
 refine g_if Z rfl rfl rfl (p := true) rfl rfl (by decide) (fun _ => ?_) (fun h => by cases h)
 refine s_runk TZ Z 1 rfl rfl ?_; clear Z a; intro a Z
 refine g_if Z rfl rfl rfl (p := true) rfl rfl (by decide) (fun _ => ?_) (fun h => by cases h)
 refine h_call Z H (js := [(1, false)]) rfl (caps := #[]) fz_22 rfl rfl rfl rfl rfl (by decide) rfl rfl (fun D1 hS => c_z_Big RSt.none _ hS) ?_; clear Z a H; intro _ a w17 D1 hr hF Z
 obtain ⟨rfl, I15, K⟩ := hr
 have H : Hf I D w I15 w17 [RSt.none.ch, (RSt.zero b2).ch] := hF K
 clear hF K
 refine g_if Z rfl rfl rfl (p := true) rfl rfl (by decide) (fun _ => ?_) (fun h => by cases h)
 refine h_call Z H (js := [(1, false)]) rfl (caps := #[]) fz_22 rfl rfl rfl rfl rfl (by decide) rfl rfl (fun D1 hS => c_z_Big (RSt.zero b2) _ hS) ?_; clear Z a H; intro _ a w18 D1 hr hF Z
 obtain ⟨rfl, I16, K⟩ := hr
 have H : Hf I D w I16 w18 [(RSt.zero b2).ch, RSt.none.ch] := hF K
 clear hF K
 refine g_if Z rfl rfl rfl (p := true) rfl rfl (by decide) (fun _ => ?_) (fun h => by cases h)
 refine s_ob Z (v := .int .u64 0) rfl rfl (by decide) rfl (Ob_add rfl rfl rfl (by decide)) ?_; clear Z a; intro a Z
 refine g_if Z rfl rfl rfl (p := true) rfl rfl (by decide) (fun _ => ?_) (fun h => by cases h)
 refine s_ob Z (v := .bool true) rfl rfl (by decide) rfl (Ob_c TZ rfl) ?_; clear Z a; intro a Z
 refine s_ob Z (v := .bool true) rfl rfl (by decide) rfl (Ob_pick rfl rfl rfl rfl rfl) ?_; clear Z a; intro a Z
 refine s_runk TZ Z 1 rfl rfl ?_; clear Z a; intro a Z
 refine g_if Z rfl rfl rfl (p := true) rfl rfl (by decide) (fun _ => ?_) (fun h => by cases h)
 refine s_runk TZ Z 1 rfl rfl ?_; clear Z a; intro a Z
 refine g_if Z rfl rfl rfl (p := true) rfl rfl (by decide) (fun _ => ?_) (fun h => by cases h)
 refine s_runk TZ Z 1 rfl rfl ?_; clear Z a; intro a Z
 refine g_if Z rfl rfl rfl (p := true) rfl rfl (by decide) (fun _ => ?_) (fun h => by cases h)
 refine h_call Z H (js := [(1, false)]) rfl (caps := #[]) fz_24 rfl rfl rfl rfl rfl (by decide) rfl rfl (fun D1 hS => c_z_Text RSt.none n _ hS) ?_; clear Z a H; intro _ a w19 D1 hr hF Z
 obtain ⟨rfl, I17, K⟩ := hr
 have H : Hf I D w I17 w19 [RSt.none.ch, (RSt.zero b2).ch] := hF K
 clear hF K
 refine g_if Z rfl rfl rfl (p := true) rfl rfl (by decide) (fun _ => ?_) (fun h => by cases h)
 refine s_runk TZ Z 1 rfl rfl ?_; clear Z a; intro a Z
 refine g_if Z rfl rfl rfl (p := true) rfl rfl (by decide) (fun _ => ?_) (fun h => by cases h)
 refine h_call Z H (js := [(1, false)]) rfl (caps := #[]) fz_24 rfl rfl rfl rfl rfl (by decide) rfl rfl (fun D1 hS => c_z_Text (RSt.zero b2) n _ hS) ?_; clear Z a H; intro _ a w20 D1 hr hF Z
 obtain ⟨rfl, I18, K⟩ := hr
 have H : Hf I D w I18 w20 [(RSt.zero b2).ch, RSt.none.ch] := hF K
 clear hF K
 refine g_if Z rfl rfl rfl (p := true) rfl rfl (by decide) (fun _ => ?_) (fun h => by cases h)
 refine s_ob Z (v := .string (⟨#[]⟩ ++ ⟨#[]⟩)) rfl rfl (by decide) rfl (Ob_cat rfl rfl rfl (by decide)) ?_; clear Z a; intro a Z
 refine g_if Z rfl rfl rfl (p := true) rfl rfl (by decide) (fun _ => ?_) (fun h => by cases h)
 refine s_ob Z (v := .bool true) rfl rfl (by decide) rfl (Ob_eqv (v := .bool (seqB (⟨#[]⟩ ++ ⟨#[]⟩) ⟨#[]⟩)) (Ob_c TZ rfl) (congrArg Value.bool (seqB_iff.2 (by kernel_rfl)))) ?_; clear Z a; intro a Z
 refine s_ob Z (v := .bool true) rfl rfl (by decide) rfl (Ob_pick rfl rfl rfl rfl rfl) ?_; clear Z a; intro a Z
 refine s_runk TZ Z 1 rfl rfl ?_; clear Z a; intro a Z
 refine g_if Z rfl rfl rfl (p := true) rfl rfl (by decide) (fun _ => ?_) (fun h => by cases h)
 refine s_runk TZ Z 1 rfl rfl ?_; clear Z a; intro a Z
 refine g_if Z rfl rfl rfl (p := true) rfl rfl (by decide) (fun _ => ?_) (fun h => by cases h)
 refine h_call Z H (js := [(1, false)]) rfl (caps := #[]) fz_26 rfl rfl rfl rfl rfl (by decide) rfl rfl (fun D1 hS => c_z_Flag RSt.none _ hS) ?_; clear Z a H; intro _ a w21 D1 hr hF Z
 obtain ⟨rfl, I19, K⟩ := hr
 have H : Hf I D w I19 w21 [RSt.none.ch, (RSt.zero b2).ch] := hF K
 clear hF K
 refine g_if Z rfl rfl rfl (p := true) rfl rfl (by decide) (fun _ => ?_) (fun h => by cases h)
 refine s_ob Z (v := .bool true) rfl rfl (by decide) rfl (Ob_c TZ rfl) ?_; clear Z a; intro a Z
 refine s_ob Z (v := .bool true) rfl rfl (by decide) rfl (Ob_pick rfl rfl rfl rfl rfl) ?_; clear Z a; intro a Z
 refine s_runk TZ Z 1 rfl rfl ?_; clear Z a; intro a Z
 refine g_if Z rfl rfl rfl (p := true) rfl rfl (by decide) (fun _ => ?_) (fun h => by cases h)
 refine h_call Z H (js := [(1, false)]) rfl (caps := #[]) fz_26 rfl rfl rfl rfl rfl (by decide) rfl rfl (fun D1 hS => c_z_Flag (RSt.zero b2) _ hS) ?_; clear Z a H; intro _ a w22 D1 hr hF Z
 obtain ⟨rfl, I20, K⟩ := hr
 have H : Hf I D w I20 w22 [(RSt.zero b2).ch, RSt.none.ch] := hF K
 clear hF K
 refine g_if Z rfl rfl rfl (p := true) rfl rfl (by decide) (fun _ => ?_) (fun h => by cases h)
 refine s_ob Z (v := .bool true) rfl rfl (by decide) rfl (Ob_c TZ rfl) ?_; clear Z a; intro a Z
 refine s_ob Z (v := .bool true) rfl rfl (by decide) rfl (Ob_pick rfl rfl rfl rfl rfl) ?_; clear Z a; intro a Z
 refine s_runk TZ Z 1 rfl rfl ?_; clear Z a; intro a Z
 refine g_if Z rfl rfl rfl (p := true) rfl rfl (by decide) (fun _ => ?_) (fun h => by cases h)
 refine s_runk TZ Z 1 rfl rfl ?_; clear Z a; intro a Z
 refine g_if Z rfl rfl rfl (p := true) rfl rfl (by decide) (fun _ => ?_) (fun h => by cases h)
 refine h_call Z H (js := [(1, false)]) rfl (caps := #[]) fz_28 rfl rfl rfl rfl rfl (by decide) rfl rfl (fun D1 hS => c_z_Err RSt.none _ hS) ?_; clear Z a H; intro _ a w23 D1 hr hF Z
 obtain ⟨rfl, I21, K⟩ := hr
 have H : Hf I D w I21 w23 [RSt.none.ch, (RSt.zero b2).ch] := hF K
 clear hF K
 refine g_if Z rfl rfl rfl (p := true) rfl rfl (by decide) (fun _ => ?_) (fun h => by cases h)
 refine s_runk TZ Z 1 rfl rfl ?_; clear Z a; intro a Z
 refine g_if Z rfl rfl rfl (p := true) rfl rfl (by decide) (fun _ => ?_) (fun h => by cases h)
 refine s_ob Z (v := .bool true) rfl rfl (by decide) rfl (Ob_c TZ rfl) ?_; clear Z a; intro a Z
 refine s_ob Z (v := .bool true) rfl rfl (by decide) rfl (Ob_pick rfl rfl rfl rfl rfl) ?_; clear Z a; intro a Z
 refine s_runk TZ Z 1 rfl rfl ?_; clear Z a; intro a Z
 refine g_if Z rfl rfl rfl (p := true) rfl rfl (by decide) (fun _ => ?_) (fun h => by cases h)
 refine h_call Z H (js := [(1, false)]) rfl (caps := #[]) fz_28 rfl rfl rfl rfl rfl (by decide) rfl rfl (fun D1 hS => c_z_Err (RSt.zero b2) _ hS) ?_; clear Z a H; intro _ a w24 D1 hr hF Z
 obtain ⟨rfl, I22, K⟩ := hr
 have H : Hf I D w I22 w24 [(RSt.zero b2).ch, RSt.none.ch] := hF K
 clear hF K
 refine g_if Z rfl rfl rfl (p := true) rfl rfl (by decide) (fun _ => ?_) (fun h => by cases h)
 refine s_runk TZ Z 1 rfl rfl ?_; clear Z a; intro a Z
 refine g_if Z rfl rfl rfl (p := true) rfl rfl (by decide) (fun _ => ?_) (fun h => by cases h)
 refine s_ob Z (v := .bool true) rfl rfl (by decide) rfl (Ob_c TZ rfl) ?_; clear Z a; intro a Z
 refine s_ob Z (v := .bool true) rfl rfl (by decide) rfl (Ob_pick rfl rfl rfl rfl rfl) ?_; clear Z a; intro a Z
 refine s_runk TZ Z 1 rfl rfl ?_; clear Z a; intro a Z
 refine g_if Z rfl rfl rfl (p := true) rfl rfl (by decide) (fun _ => ?_) (fun h => by cases h)
 refine s_runk TZ Z 1 rfl rfl ?_; clear Z a; intro a Z
 refine g_if Z rfl rfl rfl (p := true) rfl rfl (by decide) (fun _ => ?_) (fun h => by cases h)
 refine h_call Z H (js := [(1, false)]) rfl (caps := #[]) fz_31 rfl rfl rfl rfl rfl (by decide) rfl rfl (fun D1 hS => c_z_End RSt.none _ hS) ?_; clear Z a H; intro _ a w25 D1 hr hF Z
 obtain ⟨rfl, I23, K⟩ := hr
 have H : Hf I D w I23 w25 [RSt.none.ch, (RSt.zero b2).ch] := hF K
 clear hF K
 refine g_if Z rfl rfl rfl (p := true) rfl rfl (by decide) (fun _ => ?_) (fun h => by cases h)
 refine s_runk TZ Z 1 rfl rfl ?_; clear Z a; intro a Z
 refine g_if Z rfl rfl rfl (p := true) rfl rfl (by decide) (fun _ => ?_) (fun h => by cases h)
 refine s_ob Z (v := .bool true) rfl rfl (by decide) rfl (Ob_c TZ rfl) ?_; clear Z a; intro a Z
 refine s_ob Z (v := .bool true) rfl rfl (by decide) rfl (Ob_pick rfl rfl rfl rfl rfl) ?_; clear Z a; intro a Z
 refine s_runk TZ Z 1 rfl rfl ?_; clear Z a; intro a Z
 refine g_if Z rfl rfl rfl (p := true) rfl rfl (by decide) (fun _ => ?_) (fun h => by cases h)
 refine h_call Z H (js := [(1, false)]) rfl (caps := #[]) fz_31 rfl rfl rfl rfl rfl (by decide) rfl rfl (fun D1 hS => c_z_End (RSt.zero b2) _ hS) ?_; clear Z a H; intro _ a w26 D1 hr hF Z
 obtain ⟨rfl, I24, K⟩ := hr
 have H : Hf I D w I24 w26 [(RSt.zero b2).ch, RSt.none.ch] := hF K
 clear hF K
 refine g_if Z rfl rfl rfl (p := true) rfl rfl (by decide) (fun _ => ?_) (fun h => by cases h)
 refine s_runk TZ Z 1 rfl rfl ?_; clear Z a; intro a Z
 refine g_if Z rfl rfl rfl (p := true) rfl rfl (by decide) (fun _ => ?_) (fun h => by cases h)
 refine s_ob Z (v := .bool true) rfl rfl (by decide) rfl (Ob_c TZ rfl) ?_; clear Z a; intro a Z
 refine s_ob Z (v := .bool true) rfl rfl (by decide) rfl (Ob_pick rfl rfl rfl rfl rfl) ?_; clear Z a; intro a Z
 refine s_runk TZ Z 1 rfl rfl ?_; clear Z a; intro a Z
 refine g_if Z rfl rfl rfl (p := true) rfl rfl (by decide) (fun _ => ?_) (fun h => by cases h)
 refine h_call Z H (js := []) rfl (caps := #[]) fz_18 rfl rfl rfl rfl rfl (by decide) rfl rfl (fun D1 hS => c_law02_awake awake02 hS) ?_; clear Z a H; intro _ a w27 D1 hr hF Z
 obtain ⟨rfl, I25, K⟩ := hr
 have H : Hf I D w I25 w27 [(RSt.zero b2).ch, RSt.none.ch] := hF K
 clear hF K
 refine s_ob Z (v := .bool true) rfl rfl (by decide) rfl (Ob_pick rfl rfl rfl rfl rfl) ?_; clear Z a; intro a Z
 refine s_runk TZ Z 1 rfl rfl ?_; clear Z a; intro a Z
 refine s_end Z [4] rfl ?_; clear Z; intro Z
 refine p_then (wp_ret ?_)
 refine f_ret Z (run_results1 rfl Z rfl) ?_
 exact ⟨rfl, I25, H.sub [] rfl⟩

theorem pure_WireZero (n : Int) (s : ByteArray) (hn : inI n) (hs : bdStr s) : F_law02_WireZero n s = some true :=
  chk_t ⟨hn, by unfold bdStr bdM at hs; unfold maxLen; omega⟩

end Go.Proofs.Ytlgejpompnbfoaa
