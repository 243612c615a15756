/- The walks of 'wire': what reads parts of a message. -/
import Derived.Test.YthmjkcdpbbcdgaaWire1
import Derived.Test.YthmjkcdpbbcdgaaW3
namespace Go.Proofs.Ythmjkcdpbbcdgaa
open Go.RowKit

def TB_Wire2L : TabL := ⟨[(87040, 0), (87041, 1), (87042, 2), (87043, 3)], [9], [], [], [(3, (1, false)), (4, (1, false)), (9, (1, false)), (23, (1, false)), (53, (1, false))]⟩

def TB_Wire2 : Tab Try.prog := ⟨TB_Wire2L, by kernel_rfl⟩

theorem fn_19_Wire2 : IsFn Try.prog 19 := ⟨_, Try.func19, by kernel_rfl, by kernel_rfl⟩

theorem fn_40_Wire2 : IsFn Try.prog 40 := ⟨_, Try.func40, by kernel_rfl, by kernel_rfl⟩

theorem fn_41_Wire2 : IsFn Try.prog 41 := ⟨_, Try.func41, by kernel_rfl, by kernel_rfl⟩

theorem fn_42_Wire2 : IsFn Try.prog 42 := ⟨_, Try.func42, by kernel_rfl, by kernel_rfl⟩

theorem fn_43_Wire2 : IsFn Try.prog 43 := ⟨_, Try.func43, by kernel_rfl, by kernel_rfl⟩

theorem fn_44_Wire2 : IsFn Try.prog 44 := ⟨_, Try.func44, by kernel_rfl, by kernel_rfl⟩

theorem fn_54_Wire2 : IsFn Try.prog 54 := ⟨_, Try.func54, by kernel_rfl, by kernel_rfl⟩

theorem fn_70_Wire2 : IsFn Try.prog 70 := ⟨_, Try.func70, by kernel_rfl, by kernel_rfl⟩

theorem fn_71_Wire2 : IsFn Try.prog 71 := ⟨_, Try.func71, by kernel_rfl, by kernel_rfl⟩

theorem fn_76_Wire2 : IsFn Try.prog 76 := ⟨_, Try.func76, by kernel_rfl, by kernel_rfl⟩

theorem fn_82_Wire2 : IsFn Try.prog 82 := ⟨_, Try.func82, by kernel_rfl, by kernel_rfl⟩

theorem fn_83_Wire2 : IsFn Try.prog 83 := ⟨_, Try.func83, by kernel_rfl, by kernel_rfl⟩

def toR (r : DReader) : DReaderR := ⟨r.s, r.at_, r.e⟩

def ofR (x : DReaderR) : DReader := ⟨x.s, x.at_, x.e, true⟩

def rdOkM (r : DReader) : Prop := r.made = true ∧ rdOk (toR r)

set_option maxHeartbeats 1000000 in
theorem c_w_none {I D : Dm} (b_rd : Nat) (rd : DReader) (w : World) (H : St I D w [BxC b_rd 85 [.string rd.s, .int .i64 rd.at_, .int .i64 rd.e, .bool rd.made]]) :
  Calls Try.prog 44 #[.pointer (some ⟨b_rd, 0, none⟩)] w (Ret fun r w' => r = .bool (!rd.made) ∧ ∃ I', Hf I D w I' w' [BxC b_rd 85 (cDReader rd)]) := by
 replace H := H.hf
 refine f_enter 12 Try.func44 rfl rfl (Nat.le_of_ble_eq_true rfl) fun a hok => ?_
 replace hok := hok.sub (ts := [0]) rfl
 refine wp_seq (f_region hok ?_); clear hok; intro hok
 refine s_runk TB_Wire2 hok 1 rfl rfl ?_; clear hok a; intro a hok
 refine s_end hok [0, 2] rfl ?_; clear hok; intro hok
 refine p_then (wp_seq (f_region hok ?_)); clear hok; intro hok
 refine s_runk TB_Wire2 hok 1 rfl rfl ?_; clear hok a; intro a hok
 refine s_ob hok (v := .bool false) rfl rfl (by decide) rfl (Ob_pn rfl rfl rfl rfl Try.underlying53 (.inl ⟨rfl, rfl⟩)) ?_; clear hok a; intro a hok
 refine s_runk TB_Wire2 hok 1 rfl rfl ?_; clear hok a; intro a hok
 refine g_if hok rfl rfl rfl (p := true) rfl rfl (by decide) (fun _ => ?_) (fun h => by cases h)
 refine s_runk TB_Wire2 hok 1 rfl rfl ?_; clear hok a; intro a hok
 refine g_if hok rfl rfl rfl (p := true) rfl rfl (by decide) (fun _ => ?_) (fun h => by cases h)
 refine s_runk TB_Wire2 hok 1 rfl rfl ?_; clear hok a; intro a hok
 refine g_if hok rfl rfl rfl (p := true) rfl rfl (by decide) (fun _ => ?_) (fun h => by cases h)
 refine s_runk TB_Wire2 hok 1 rfl rfl ?_; clear hok a; intro a hok
 refine g_if hok rfl rfl rfl (p := true) rfl rfl (by decide) (fun _ => ?_) (fun h => by cases h)
 refine s_ob hok (v := .bool rd.made) rfl rfl (by decide) rfl (Ob_load TB_Wire2 rfl rfl rfl ((H.bx 0 rfl).cell 3 rfl)) ?_; clear hok a; intro a hok
 refine g_if hok rfl rfl rfl (p := true) rfl rfl (by decide) (fun _ => ?_) (fun h => by cases h)
 refine s_runk TB_Wire2 hok 1 rfl rfl ?_; clear hok a; intro a hok
 refine s_ob hok (v := .bool !rd.made) rfl rfl (by decide) rfl (Ob_pick rfl rfl rfl rfl rfl) ?_; clear hok a; intro a hok
 refine s_runk TB_Wire2 hok 1 rfl rfl ?_; clear hok a; intro a hok
 refine s_end hok [0, 2] rfl ?_; clear hok; intro hok
 refine p_then (wp_ret ?_)
 refine f_ret hok (run_results1 rfl hok rfl) ?_
 refine ⟨?_, I, (H.sub [(0, false)] rfl).eq ?_⟩
 ·clear hok H
  rfl
 ·clear hok H
  rfl

set_option maxHeartbeats 1000000 in
theorem c_w_Err {I D : Dm} (b_rd : Nat) (rd : DReader) (w : World) (H : St I D w [BxC b_rd 85 [.string rd.s, .int .i64 rd.at_, .int .i64 rd.e, .bool rd.made]]) (hm : rd.made = true) :
  Calls Try.prog 19 #[.pointer (some ⟨b_rd, 0, none⟩)] w (Ret fun r w' => r = .int .i64 rd.e ∧ ∃ I', Hf I D w I' w' [BxC b_rd 85 (cDReader rd)]) := by
 replace H := H.hf
 refine f_enter 9 Try.func19 rfl rfl (Nat.le_of_ble_eq_true rfl) fun a hok => ?_
 replace hok := hok.sub (ts := [0]) rfl
 refine wp_seq (f_region hok ?_); clear hok; intro hok
 refine s_runk TB_Wire2 hok 1 rfl rfl ?_; clear hok a; intro a hok
 refine s_end hok [0, 2] rfl ?_; clear hok; intro hok
 refine p_then (wp_seq ?_)
 refine wp_seq (f_region hok ?_); clear hok; intro hok
 refine s_runk TB_Wire2 hok 1 rfl rfl ?_; clear hok a; intro a hok
 refine h_call hok H (js := [(0, false)]) rfl (caps := #[]) fn_44_Wire2 rfl rfl rfl rfl rfl (by decide) rfl rfl (fun D1 hS => c_w_none _ rd _ hS) ?_; clear hok a H; intro _ a w1 D1 hr hF hok
 obtain ⟨rfl, I1, H⟩ := hr
 replace H : Hf I D w I1 w1 [BxC b_rd 85 [.string rd.s, .int .i64 rd.at_, .int .i64 rd.e, .bool rd.made]] := hF H
 clear hF
 refine s_end hok [0, 2, 4] rfl ?_; clear hok; intro hok
 refine p_then ?_
 refine f_cond hok rfl (fun hc1 => ?_) (fun hc1 => ?_)
 ·skip
  refine wp_seq (f_region hok ?_); clear hok; intro hok
  refine s_runk TB_Wire2 hok 1 rfl rfl ?_; clear hok a; intro a hok
  refine s_end hok [0, 2, 4] rfl ?_; clear hok; intro hok
  refine p_then (wp_ret ?_)
  refine p_then_r ?_
  refine f_ret hok (run_results1 rfl hok rfl) ?_
  refine ⟨?_, I1, (H.sub [(0, false)] rfl).eq ?_⟩
  ·clear hok H
   rw [hm] at hc1; cases hc1
  ·clear hok H
   rfl
 ·skip
  refine wp_skip ?_
  refine p_then (wp_seq (f_region hok ?_)); clear hok; intro hok
  refine s_runk TB_Wire2 hok 3 rfl rfl ?_; clear hok a; intro a hok
  refine s_ob hok (v := .int .i64 rd.e) rfl rfl (by decide) rfl (Ob_load TB_Wire2 rfl rfl rfl ((H.bx 0 rfl).cell 2 rfl)) ?_; clear hok a; intro a hok
  refine s_runk TB_Wire2 hok 1 rfl rfl ?_; clear hok a; intro a hok
  refine s_end hok [0, 2, 4] rfl ?_; clear hok; intro hok
  refine p_then (wp_ret ?_)
  refine f_ret hok (run_results1 rfl hok rfl) ?_
  refine ⟨?_, I1, (H.sub [(0, false)] rfl).eq ?_⟩
  ·clear hok H
   rfl
  ·clear hok H
   rfl

set_option maxHeartbeats 1000000 in
theorem c_w_Left {I D : Dm} (b_rd : Nat) (rd : DReader) (w : World) (H : St I D w [BxC b_rd 85 [.string rd.s, .int .i64 rd.at_, .int .i64 rd.e, .bool rd.made]]) (hr : rdOkM rd) :
  Calls Try.prog 54 #[.pointer (some ⟨b_rd, 0, none⟩)] w (Ret fun r w' => r = .int .i64 (rLeft (toR rd)) ∧ ∃ I', Hf I D w I' w' [BxC b_rd 85 (cDReader rd)]) := by
 replace H := H.hf
 obtain ⟨hm, hr1, hr2, hr3, hr4, hr5⟩ := hr
 dsimp only [toR] at hr1 hr2 hr3 hr4 hr5
 have hml : maxLen = 9223372036854775807 := (by decide)
 refine f_enter 16 Try.func54 rfl rfl (Nat.le_of_ble_eq_true rfl) fun a hok => ?_
 replace hok := hok.sub (ts := [0]) rfl
 refine wp_seq (f_region hok ?_); clear hok; intro hok
 refine s_runk TB_Wire2 hok 1 rfl rfl ?_; clear hok a; intro a hok
 refine s_end hok [0, 2] rfl ?_; clear hok; intro hok
 refine p_then (wp_seq ?_)
 refine wp_seq (f_region hok ?_); clear hok; intro hok
 refine s_runk TB_Wire2 hok 1 rfl rfl ?_; clear hok a; intro a hok
 refine h_call hok H (js := [(0, false)]) rfl (caps := #[]) fn_19_Wire2 rfl rfl rfl rfl rfl (by decide) rfl rfl (fun D1 hS => c_w_Err _ rd _ hS hm) ?_; clear hok a H; intro _ a w1 D1 hr hF hok
 obtain ⟨rfl, I1, H⟩ := hr
 replace H : Hf I D w I1 w1 [BxC b_rd 85 [.string rd.s, .int .i64 rd.at_, .int .i64 rd.e, .bool rd.made]] := hF H
 clear hF
 refine s_runk TB_Wire2 hok 1 rfl rfl ?_; clear hok a; intro a hok
 refine s_end hok [0, 2, 5] rfl ?_; clear hok; intro hok
 refine p_then ?_
 refine f_cond hok rfl (fun hc1 => ?_) (fun hc1 => ?_)
 ·replace hc1 := bne_iff_ne.1 hc1
  refine wp_seq (f_region hok ?_); clear hok; intro hok
  refine s_runk TB_Wire2 hok 1 rfl rfl ?_; clear hok a; intro a hok
  refine s_end hok [0, 2, 5] rfl ?_; clear hok; intro hok
  refine p_then (wp_ret ?_)
  refine p_then_r ?_
  refine f_ret hok (run_results1 rfl hok rfl) ?_
  refine ⟨?_, I1, (H.sub [(0, false)] rfl).eq ?_⟩
  ·clear hok H
   unfold rLeft; rw [if_pos (show (toR rd).e ≠ 0 from hc1)]
  ·clear hok H
   rfl
 ·replace hc1 := bne_eq_false_iff_eq.1 hc1
  refine wp_skip ?_
  refine p_then (wp_seq ?_)
  refine f_quietd (by kernel_rfl) (by kernel_rfl) hok ?_; clear hok; intro hok
  refine q_runk TB_Wire2 hok 3 rfl rfl ?_; clear hok a; intro a hok
  refine q_ob hok (v := .string rd.s) rfl rfl (by decide) rfl (fun _ hw => Ob_load TB_Wire2 rfl rfl rfl (((H.bx 0 rfl).below hw).cell 0 rfl)) ?_; clear hok a; intro a hok
  refine q_runk TB_Wire2 hok 4 rfl rfl ?_; clear hok a; intro a hok
  refine q_ob hok (v := .int .i64 rd.at_) rfl rfl (by decide) rfl (fun _ hw => Ob_load TB_Wire2 rfl rfl rfl (((H.bx 0 rfl).below hw).cell 1 rfl)) ?_; clear hok a; intro a hok
  refine q_ob hok (v := .int .i64 ((rd.s.size : Int) - rd.at_)) rfl rfl (by decide) rfl (fun _ hw => Ob_sub rfl rfl rfl (IntWalk.i64_in _ (by omega))) ?_; clear hok a; intro a hok
  refine q_runk TB_Wire2 hok 1 rfl rfl ?_; clear hok a; intro a hok
  refine q_end hok [0, 2, 5] rfl ?_; clear hok; intro w2 hb hok
  replace H := H.blw hb
  clear hb
  refine p_then (wp_ret ?_)
  refine f_ret hok (run_results1 rfl hok rfl) ?_
  refine ⟨?_, I1, (H.sub [(0, false)] rfl).eq ?_⟩
  ·clear hok H
   unfold rLeft; rw [if_neg (fun h => h hc1)]; rfl
  ·clear hok H
   rfl

set_option maxHeartbeats 1000000 in
theorem c_w_End {I D : Dm} (b_rd : Nat) (rd : DReader) (w : World) (H : St I D w [BxC b_rd 85 [.string rd.s, .int .i64 rd.at_, .int .i64 rd.e, .bool rd.made]]) (hr : rdOkM rd) :
  Calls Try.prog 22 #[.pointer (some ⟨b_rd, 0, none⟩)] w (Ret fun r w' => r = .int .i64 (rEnd (toR rd)) ∧ ∃ I', Hf I D w I' w' [BxC b_rd 85 (cDReader rd)]) := by
 replace H := H.hf
 refine f_enter 12 Try.func22 rfl rfl (Nat.le_of_ble_eq_true rfl) fun a hok => ?_
 replace hok := hok.sub (ts := [0]) rfl
 refine wp_seq (f_region hok ?_); clear hok; intro hok
 refine s_runk TB_Wire2 hok 1 rfl rfl ?_; clear hok a; intro a hok
 refine s_end hok [0, 2] rfl ?_; clear hok; intro hok
 refine p_then (wp_seq ?_)
 refine wp_seq (f_region hok ?_); clear hok; intro hok
 refine s_runk TB_Wire2 hok 1 rfl rfl ?_; clear hok a; intro a hok
 refine h_call hok H (js := [(0, false)]) rfl (caps := #[]) fn_19_Wire2 rfl rfl rfl rfl rfl (by decide) rfl rfl (fun D1 hS => c_w_Err _ rd _ hS hr.1) ?_; clear hok a H; intro _ a w1 D1 hr hF hok
 obtain ⟨rfl, I1, H⟩ := hr
 replace H : Hf I D w I1 w1 [BxC b_rd 85 [.string rd.s, .int .i64 rd.at_, .int .i64 rd.e, .bool rd.made]] := hF H
 clear hF
 refine s_runk TB_Wire2 hok 1 rfl rfl ?_; clear hok a; intro a hok
 refine s_end hok [0, 2, 3] rfl ?_; clear hok; intro hok
 refine p_then (wp_seq (f_region hok ?_)); clear hok; intro hok
 refine s_runk TB_Wire2 hok 2 rfl rfl ?_; clear hok a; intro a hok
 refine s_end hok [0, 2, 3, 7] rfl ?_; clear hok; intro hok
 refine p_then ?_
 refine f_cond hok rfl (fun hc1 => ?_) (fun hc1 => ?_)
 ·replace hc1 := bne_iff_ne.1 hc1
  refine wp_seq (f_region hok ?_); clear hok; intro hok
  refine s_runk TB_Wire2 hok 2 rfl rfl ?_; clear hok a; intro a hok
  refine s_end hok [0, 2, 3, 7] rfl ?_; clear hok; intro hok
  refine p_then (wp_ret ?_)
  refine p_then_r ?_
  refine f_ret hok (run_results1 rfl hok rfl) ?_
  refine ⟨?_, I1, (H.sub [(0, false)] rfl).eq ?_⟩
  ·clear hok H
   unfold rEnd; rw [if_neg (fun h => hc1 h.1)]; rfl
  ·clear hok H
   rfl
 ·replace hc1 := bne_eq_false_iff_eq.1 hc1
  refine wp_skip ?_
  refine p_then (wp_seq ?_)
  refine wp_seq (f_region hok ?_); clear hok; intro hok
  refine s_runk TB_Wire2 hok 1 rfl rfl ?_; clear hok a; intro a hok
  refine h_call hok H (js := [(0, false)]) rfl (caps := #[]) fn_54_Wire2 rfl rfl rfl rfl rfl (by decide) rfl rfl (fun D1 hS => c_w_Left _ rd _ hS hr) ?_; clear hok a H; intro _ a w2 D1 hr hF hok
  obtain ⟨rfl, I2, H⟩ := hr
  replace H : Hf I D w I2 w2 [BxC b_rd 85 [.string rd.s, .int .i64 rd.at_, .int .i64 rd.e, .bool rd.made]] := hF H
  clear hF
  refine s_runk TB_Wire2 hok 1 rfl rfl ?_; clear hok a; intro a hok
  refine s_end hok [0, 2, 3, 7, 11] rfl ?_; clear hok; intro hok
  refine p_then ?_
  refine f_cond hok rfl (fun hc2 => ?_) (fun hc2 => ?_)
  ·replace hc2 := of_decide_eq_true hc2
   refine wp_seq (f_region hok ?_); clear hok; intro hok
   refine s_runk TB_Wire2 hok 1 rfl rfl ?_; clear hok a; intro a hok
   refine s_end hok [0, 2, 3, 7, 11] rfl ?_; clear hok; intro hok
   refine p_then (wp_ret ?_)
   refine p_then_r ?_
   refine f_ret hok (run_results1 rfl hok rfl) ?_
   refine ⟨?_, I2, (H.sub [(0, false)] rfl).eq ?_⟩
   ·clear hok H
    unfold rEnd; unfold rLeft at hc2; rw [if_pos ⟨hc1, by rw [if_neg (fun h => h hc1)] at hc2; omega⟩]
   ·clear hok H
    rfl
  ·replace hc2 := of_decide_eq_false hc2
   refine wp_skip ?_
   refine p_then (wp_seq (f_region hok ?_)); clear hok; intro hok
   refine s_runk TB_Wire2 hok 1 rfl rfl ?_; clear hok a; intro a hok
   refine s_end hok [0, 2, 3, 7, 11] rfl ?_; clear hok; intro hok
   refine p_then (wp_ret ?_)
   refine f_ret hok (run_results1 rfl hok rfl) ?_
   refine ⟨?_, I2, (H.sub [(0, false)] rfl).eq ?_⟩
   ·clear hok H
    unfold rEnd; unfold rLeft at hc2; rw [if_neg (fun h => hc2 (by rw [if_neg (fun h => h hc1)]; have := h.2; omega))]; rw [show (toR rd).e = 0 from hc1]
   ·clear hok H
    rfl

set_option maxHeartbeats 1000000 in
theorem c_w_Open {I D : Dm} (s : ByteArray) (w : World) (h_s : s.size ≤ maxLen) (H : St I D w []) :
  Calls Try.prog 17 #[.string s] w (Ret fun r w' => ∃ g0 : Nat, r = .pointer (some ⟨g0, 0, none⟩) ∧ ∃ I', Hf I D w I' w' [BxC g0 85 (cDReader (ofR ⟨s, 0, 0⟩))]) := by
 replace H := H.hf
 refine f_enter 6 Try.func17 rfl rfl (Nat.le_of_ble_eq_true rfl) fun a hok => ?_
 replace hok := hok.sub (ts := [0]) rfl
 refine wp_seq (f_region hok ?_); clear hok; intro hok
 refine s_runk TB_Wire2 hok 1 rfl rfl ?_; clear hok a; intro a hok
 refine s_end hok [0, 2] rfl ?_; clear hok; intro hok
 refine p_then (wp_seq (f_region hok ?_)); clear hok; intro hok
 refine s_runk TB_Wire2 hok 1 rfl rfl ?_; clear hok a; intro a hok
 refine s_ob hok (v := .agg #[.string s, .int .i64 0, .int .i64 0, .bool true]) rfl rfl (by decide) rfl (Ob_build (vs := [(0, .string s), (3, .bool true)]) rfl rfl (by go_simp <;> rfl)) ?_; clear hok a; intro a hok
 refine h_boxv hok H (cl := [.string s, .int .i64 0, .int .i64 0, .bool true]) rfl rfl rfl (by decide) rfl rfl rfl ?_; clear hok a H; intro a w1 b1 H hok
 refine s_runk TB_Wire2 hok 1 rfl rfl ?_; clear hok a; intro a hok
 refine s_end hok [0, 2] rfl ?_; clear hok; intro hok
 refine p_then (wp_ret ?_)
 refine f_ret hok (run_results1 rfl hok rfl) ?_
 refine ⟨b1, ?_, I, (H.sub [(0, false)] rfl).eq ?_⟩
 ·clear hok H
  rfl
 ·clear hok H
  rfl

set_option maxHeartbeats 1000000 in
theorem c_w_bad (er : Int) (w : World) (h_er : i64ok er) :
  Calls Try.prog 71 #[.int .i64 er] w (RetP (fun r w' => ¬(er ≠ 0) ∧ r = .tuple #[] ∧ Below w.heap.size w w') (fun c w' => (er ≠ 0) ∧ c = [{ v := .iface 23 (.int .i64 (er)), recovered := false }] ∧ Below w.heap.size w w')) := by
 obtain ⟨I, hI, H⟩ : ∃ I : Dm, (∀ k, I k → False) ∧ Hf I NoD w I w [] := ⟨NoD, fun _ h => h, (St.none _ _ fun _ h => h.elim).hf⟩
 unfold i64ok at h_er
 refine f_enter 6 Try.func71 rfl rfl (Nat.le_of_ble_eq_true rfl) fun a hok => ?_
 replace hok := hok.sub (ts := [0]) rfl
 refine wp_seq (f_region hok ?_); clear hok; intro hok
 refine s_runk TB_Wire2 hok 2 rfl rfl ?_; clear hok a; intro a hok
 refine s_end hok [0, 3] rfl ?_; clear hok; intro hok
 refine p_then ?_
 refine f_cond hok rfl (fun hc1 => ?_) (fun hc1 => ?_)
 ·replace hc1 := bne_iff_ne.1 hc1
  refine f_region hok ?_; clear hok; intro hok
  refine s_runk TB_Wire2 hok 1 rfl rfl ?_; clear hok a; intro a hok
  refine s_ob hok (v := .iface 23 (.int .i64 er)) rfl rfl (by decide) rfl (Ob_mkif rfl rfl Try.underlying23) ?_; clear hok a; intro a hok
  refine s_panic hok rfl rfl rfl ?_
  refine f_panP hok ⟨by assumption, rfl, H.below fun _ h => h⟩
 ·replace hc1 := bne_eq_false_iff_eq.1 hc1
  refine wp_skip ?_
  refine f_fallP hok (run_results0 rfl) ?_
  refine And.intro (by omega) ?_
  refine ⟨?_, H.below fun _ h => h⟩
  ·clear hok H
   rfl

set_option maxHeartbeats 1000000 in
theorem c_w_fails (is : Bool) (er : Int) (w : World) (h_er : i64ok er) :
  Calls Try.prog 43 #[.bool is, .int .i64 er] w (RetP (fun r w' => ¬(is = true ∧ er ≠ 0) ∧ r = .tuple #[] ∧ Below w.heap.size w w') (fun c w' => (is = true ∧ er ≠ 0) ∧ c = [{ v := .iface 23 (.int .i64 (er)), recovered := false }] ∧ Below w.heap.size w w')) := by
 obtain ⟨I, hI, H⟩ : ∃ I : Dm, (∀ k, I k → False) ∧ Hf I NoD w I w [] := ⟨NoD, fun _ h => h, (St.none _ _ fun _ h => h.elim).hf⟩
 unfold i64ok at h_er
 refine f_enter 7 Try.func43 rfl rfl (Nat.le_of_ble_eq_true rfl) fun a hok => ?_
 replace hok := hok.sub (ts := [0, 1]) rfl
 refine wp_seq (f_region hok ?_); clear hok; intro hok
 refine s_runk TB_Wire2 hok 1 rfl rfl ?_; clear hok a; intro a hok
 refine s_end hok [0, 1, 4] rfl ?_; clear hok; intro hok
 refine p_then ?_
 refine f_cond hok rfl (fun hc1 => ?_) (fun hc1 => ?_)
 ·skip
  refine f_region hok ?_; clear hok; intro hok
  refine s_runk TB_Wire2 hok 1 rfl rfl ?_; clear hok a; intro a hok
  refine s_callP hok fn_71_Wire2 (caps := #[]) rfl rfl rfl rfl rfl (by decide) rfl rfl (c_w_bad er _ h_er) ?_ ?_
  rotate_left
  ·rintro _ w2 ⟨hpn1, rfl, hb⟩
   have H := H.blw hb
   refine f_panP hok ⟨by exact ⟨hc1, hpn1⟩, rfl, H.below fun _ h => h⟩
  clear hok; intro _ a w1 hr hok
  obtain ⟨hpn1, rfl, hb⟩ := hr
  replace H := H.blw hb
  clear hb
  refine s_end hok [0, 1, 4] rfl ?_; clear hok; intro hok
  refine f_fallP hok (run_results0 rfl) ?_
  refine And.intro (by rintro ⟨h1, h2⟩; first | exact hpn1 h2 | (rw [h1] at hc1; cases hc1)) ?_
  refine ⟨?_, H.below fun _ h => h⟩
  ·clear hok H
   rfl
 ·skip
  refine wp_skip ?_
  refine f_fallP hok (run_results0 rfl) ?_
  refine And.intro (by rintro ⟨h1, h2⟩; first | exact hpn1 h2 | (rw [h1] at hc1; cases hc1)) ?_
  refine ⟨?_, H.below fun _ h => h⟩
  ·clear hok H
   rfl

set_option maxHeartbeats 1000000 in
theorem c_w_big {I D : Dm} (b_rd : Nat) (rd : DReader) (w : World) (H : St I D w [BxC b_rd 85 [.string rd.s, .int .i64 rd.at_, .int .i64 rd.e, .bool rd.made]]) (hr : rdOkM rd) (h0 : rd.e = 0) :
  Calls Try.prog 42 #[.pointer (some ⟨b_rd, 0, none⟩)] w (RetP (fun r w' => ¬((vget rd.s rd.at_).2.2 ≠ 0) ∧ r = .int .u64 ((rBigV (toR rd) : Nat) : Int) ∧ ∃ I', Hf I D w I' w' [BxC b_rd 85 (cDReader (ofR (rBig (toR rd))))]) (fun c w' => ((vget rd.s rd.at_).2.2 ≠ 0) ∧ c = [{ v := .iface 23 (.int .i64 ((vget rd.s rd.at_).2.2)), recovered := false }] ∧ ∃ I', Hf I D w I' w' [BxC b_rd 85 [.string rd.s, .int .i64 rd.at_, .int .i64 rd.e, .bool rd.made]])) := by
 replace H := H.hf
 obtain ⟨hm, hr1, hr2, hr3, hr4, hr5⟩ := id hr
 dsimp only [toR] at hr1 hr2 hr3 hr4 hr5
 have hml : maxLen = 9223372036854775807 := (by decide)
 have hve := vget_e rd.s rd.at_
 refine f_enter 26 Try.func42 rfl rfl (Nat.le_of_ble_eq_true rfl) fun a hok => ?_
 replace hok := hok.sub (ts := [0]) rfl
 refine wp_seq (f_region hok ?_); clear hok; intro hok
 refine s_runk TB_Wire2 hok 1 rfl rfl ?_; clear hok a; intro a hok
 refine s_end hok [0, 2] rfl ?_; clear hok; intro hok
 refine p_then (wp_seq ?_)
 refine f_quietd (by kernel_rfl) (by kernel_rfl) hok ?_; clear hok; intro hok
 refine q_runk TB_Wire2 hok 3 rfl rfl ?_; clear hok a; intro a hok
 refine q_ob hok (v := .string rd.s) rfl rfl (by decide) rfl (fun _ hw => Ob_load TB_Wire2 rfl rfl rfl (((H.bx 0 rfl).below hw).cell 0 rfl)) ?_; clear hok a; intro a hok
 refine q_runk TB_Wire2 hok 3 rfl rfl ?_; clear hok a; intro a hok
 refine q_ob hok (v := .int .i64 rd.at_) rfl rfl (by decide) rfl (fun _ hw => Ob_load TB_Wire2 rfl rfl rfl (((H.bx 0 rfl).below hw).cell 1 rfl)) ?_; clear hok a; intro a hok
 refine q_call hok (caps := #[]) (v := .tuple #[.int .u64 ((vget rd.s rd.at_).1 : Int), .int .i64 ((vget rd.s rd.at_).2.1), .int .i64 ((vget rd.s rd.at_).2.2)]) fn_70_Wire2 rfl rfl rfl rfl rfl (by decide) rfl rfl (fun _ hw => c_vget rd.s rd.at_ _ (by first | decide | assumption | (simp only [maxLen]; omega)) (show i64ok rd.at_ by unfold i64ok; omega)) ?_; clear hok a; intro a hok
 refine q_runk TB_Wire2 hok 7 rfl rfl ?_; clear hok a; intro a hok
 refine q_end hok [0, 2, 3, 4, 5] rfl ?_; clear hok; intro w1 hb hok
 replace H := H.blw hb
 clear hb
 refine p_then (wp_seq (f_region hok ?_)); clear hok; intro hok
 refine s_runk TB_Wire2 hok 1 rfl rfl ?_; clear hok a; intro a hok
 refine s_callP hok fn_71_Wire2 (caps := #[]) rfl rfl rfl rfl rfl (by decide) rfl rfl (c_w_bad ((vget rd.s rd.at_).2.2) _ (show i64ok ((vget rd.s rd.at_).2.2) by unfold i64ok; omega)) ?_ ?_
 rotate_left
 ·rintro _ w3 ⟨hpn1, rfl, hb⟩
  have H := H.blw hb
  refine p_then_p ?_
  refine f_panP hok ⟨by assumption, rfl, ⟨I, (H.sub [(0, false)] rfl).eq rfl⟩⟩
 clear hok; intro _ a w2 hr hok
 obtain ⟨hpn1, rfl, hb⟩ := hr
 replace H := H.blw hb
 clear hb
 refine s_end hok [0, 2, 3, 4, 5] rfl ?_; clear hok; intro hok
 refine p_then (wp_seq (f_region hok ?_)); clear hok; intro hok
 refine s_runk TB_Wire2 hok 4 rfl rfl ?_; clear hok a; intro a hok
 refine h_store TB_Wire2 hok H 0 (us := [.int .i64 ((vget rd.s rd.at_).2.1)]) (cl' := [.string rd.s, .int .i64 ((vget rd.s rd.at_).2.1), .int .i64 rd.e, .bool rd.made]) rfl rfl rfl rfl rfl rfl rfl rfl rfl (by simp only [List.mem_cons, List.not_mem_nil, or_false]; rintro u rfl <;> rfl) (Nat.le_of_ble_eq_true rfl) rfl ?_; clear H; intro w4 H
 dsimp only [List.eraseIdx] at H
 refine s_end hok [0, 2, 3, 4, 5] rfl ?_; clear hok; intro hok
 refine p_then (wp_seq (f_region hok ?_)); clear hok; intro hok
 refine s_runk TB_Wire2 hok 2 rfl rfl ?_; clear hok a; intro a hok
 refine s_end hok [0, 2, 3, 4, 5] rfl ?_; clear hok; intro hok
 refine p_then (wp_ret ?_)
 refine f_retP hok (run_results1 rfl hok rfl) ?_
 refine And.intro (by exact hpn1) ?_
 refine ⟨?_, I, (H.sub [(0, false)] rfl).eq ?_⟩
 ·clear hok H
  have e1 : rBigV (toR rd) = (vget rd.s rd.at_).1 := ((if_neg fun h => h h0).trans (if_neg hpn1)); rw [e1]; rfl
 ·clear hok H
  have e1 : rBig (toR rd) = { toR rd with at_ := (vget rd.s rd.at_).2.1 } := ((if_neg fun h => h h0).trans (if_neg hpn1)); rw [e1, hm]; rfl

set_option maxHeartbeats 1000000 in
theorem c_w_stays0 {I D : Dm} (b_rd : Nat) (rd : DReader) (w : World) (H : St I D w [BxC b_rd 85 [.string rd.s, .int .i64 rd.at_, .int .i64 rd.e, .bool rd.made]]) :
  Calls Try.prog 41 #[.pointer (some ⟨b_rd, 0, none⟩), .nilIface] w (Ret fun r w' => r = .tuple #[] ∧ ∃ I', Hf I D w I' w' [BxC b_rd 85 (cDReader rd)]) := by
 replace H := H.hf
 refine f_enter 16 Try.func41 rfl rfl (Nat.le_of_ble_eq_true rfl) fun a hok => ?_
 replace hok := hok.sub (ts := [0, 1]) rfl
 refine wp_seq (f_region hok ?_); clear hok; intro hok
 refine s_runk TB_Wire2 hok 1 rfl rfl ?_; clear hok a; intro a hok
 refine s_ob hok (v := .tuple #[.int .i64 0, .bool false]) rfl rfl (by decide) rfl (Ob_tanil rfl rfl Try.underlying23 (fun w => by kernel_rfl)) ?_; clear hok a; intro a hok
 refine s_runk TB_Wire2 hok 5 rfl rfl ?_; clear hok a; intro a hok
 refine s_end hok [0, 1, 4, 5] rfl ?_; clear hok; intro hok
 refine p_then (wp_seq (f_region hok ?_)); clear hok; intro hok
 refine s_runk TB_Wire2 hok 1 rfl rfl ?_; clear hok a; intro a hok
 refine s_end hok [0, 1, 4, 5, 11] rfl ?_; clear hok; intro hok
 refine p_then ?_
 refine wp_cond_false (hok.ev rfl) ?_
 refine wp_skip ?_
 refine f_fall hok (run_results0 rfl) ?_
 refine ⟨?_, I, (H.sub [(0, false)] rfl).eq ?_⟩
 ·clear hok H
  rfl
 ·clear hok H
  rfl

set_option maxHeartbeats 1000000 in
theorem c_w_stays1 {I D : Dm} (b_rd : Nat) (rd : DReader) (er : Int) (w : World) (h_er : i64ok er) (H : St I D w [BxC b_rd 85 [.string rd.s, .int .i64 rd.at_, .int .i64 rd.e, .bool rd.made]]) :
  Calls Try.prog 41 #[.pointer (some ⟨b_rd, 0, none⟩), .iface 23 (.int .i64 er)] w (Ret fun r w' => r = .tuple #[] ∧ ∃ I', Hf I D w I' w' [BxC b_rd 85 (cDReader ({rd with e := er} : DReader))]) := by
 replace H := H.hf
 unfold i64ok at h_er
 refine f_enter 16 Try.func41 rfl rfl (Nat.le_of_ble_eq_true rfl) fun a hok => ?_
 replace hok := hok.sub (ts := [0, 1]) rfl
 refine wp_seq (f_region hok ?_); clear hok; intro hok
 refine s_runk TB_Wire2 hok 1 rfl rfl ?_; clear hok a; intro a hok
 refine s_ob hok (v := .tuple #[.int .i64 er, .bool true]) rfl rfl (by decide) rfl (Ob_tayes rfl rfl Try.underlying23) ?_; clear hok a; intro a hok
 refine s_runk TB_Wire2 hok 5 rfl rfl ?_; clear hok a; intro a hok
 refine s_end hok [0, 1, 4, 5] rfl ?_; clear hok; intro hok
 refine p_then (wp_seq (f_region hok ?_)); clear hok; intro hok
 refine s_runk TB_Wire2 hok 1 rfl rfl ?_; clear hok a; intro a hok
 refine s_end hok [0, 1, 4, 5, 11] rfl ?_; clear hok; intro hok
 refine p_then ?_
 refine wp_cond_true (hok.ev rfl) ?_
 refine f_region hok ?_; clear hok; intro hok
 refine s_runk TB_Wire2 hok 4 rfl rfl ?_; clear hok a; intro a hok
 refine h_store TB_Wire2 hok H 0 (us := [.int .i64 er]) (cl' := [.string rd.s, .int .i64 rd.at_, .int .i64 er, .bool rd.made]) rfl rfl rfl rfl rfl rfl rfl rfl rfl (by simp only [List.mem_cons, List.not_mem_nil, or_false]; rintro u rfl <;> rfl) (Nat.le_of_ble_eq_true rfl) rfl ?_; clear H; intro w1 H
 dsimp only [List.eraseIdx] at H
 refine s_end hok [0, 1, 4, 5, 11] rfl ?_; clear hok; intro hok
 refine f_fall hok (run_results0 rfl) ?_
 refine ⟨?_, I, (H.sub [(0, false)] rfl).eq ?_⟩
 ·clear hok H
  rfl
 ·clear hok H
  rfl

theorem c_Num1_ret {I D : Dm} (B b : Nat) (rd : DReader) (w : World) (H : St I D w [BxC B 53 [.pointer (some ⟨b, 0, none⟩)], BxC b 85 (cDReader rd)]) :
  CallsD Try.prog 40 #[.pointer (some ⟨B, 0, none⟩)] .returning w fun e u' w' => (∃ x, e = .returned x) ∧ u' = .returning ∧ ∃ I', Hf I D w I' w' [BxC B 53 [.pointer (some ⟨b, 0, none⟩)], BxC b 85 (cDReader rd)] := by
 have H1 := H.hf.blw ((Below.refl _ _).drew)
 obtain ⟨D1, h1, h2⟩ := H1.call (js := [(1, false)]) rfl
 exact clo3 TB_Wire2 Try.func40 rfl rfl rfl (by kernel_rfl) fn_41_Wire2 (by kernel_rfl) (by kernel_rfl) (by kernel_rfl) (by kernel_rfl) rfl rfl rfl rfl rfl rfl rfl rfl rfl rfl rfl rfl (H.hf.bx 0 rfl |>.cell 0 rfl) (x := .nilIface) (u' := .returning)
  (fun c0 cs h => .inr ⟨by simp [recoverD, h], rfl, rfl⟩) (c_w_stays0 b rd _ h1) fun v w' ⟨_, I', K⟩ => ⟨⟨_, rfl⟩, rfl, I', (h2 K).sub [(1, false), (0, false)] rfl⟩

theorem c_Num1_pan {I D : Dm} (B b : Nat) (rd : DReader) (er : Int) (w : World) (H : St I D w [BxC B 53 [.pointer (some ⟨b, 0, none⟩)], BxC b 85 (cDReader rd)]) (her : i64ok er) :
  CallsD Try.prog 40 #[.pointer (some ⟨B, 0, none⟩)] (.panicking [{ v := .iface 23 (.int .i64 er), recovered := false }]) w fun e u' w' => (∃ x, e = .returned x) ∧ u' = .panicking [{ v := .iface 23 (.int .i64 er), recovered := true }] ∧ ∃ I', Hf I D w I' w' [BxC B 53 [.pointer (some ⟨b, 0, none⟩)], BxC b 85 (cDReader { rd with e := er })] := by
 have H1 := H.hf.blw ((Below.refl _ _).drew)
 obtain ⟨D1, h1, h2⟩ := H1.call (js := [(1, false)]) rfl
 exact clo3 TB_Wire2 Try.func40 rfl rfl rfl (by kernel_rfl) fn_41_Wire2 (by kernel_rfl) (by kernel_rfl) (by kernel_rfl) (by kernel_rfl) rfl rfl rfl rfl rfl rfl rfl rfl rfl rfl rfl rfl (H.hf.bx 0 rfl |>.cell 0 rfl) (x := .iface 23 (.int .i64 er)) (u' := .panicking [{ v := .iface 23 (.int .i64 er), recovered := true }])
  (fun c0 cs h => .inl ⟨_, by simp [recoverD, h], rfl⟩) (c_w_stays1 b rd er _ her h1) fun v w' ⟨_, I', K⟩ => ⟨⟨_, rfl⟩, rfl, I', (h2 K).sub [(1, false), (0, false)] rfl⟩

theorem c_Big1_ret {I D : Dm} (B b : Nat) (rd : DReader) (w : World) (H : St I D w [BxC B 53 [.pointer (some ⟨b, 0, none⟩)], BxC b 85 (cDReader rd)]) :
  CallsD Try.prog 76 #[.pointer (some ⟨B, 0, none⟩)] .returning w fun e u' w' => (∃ x, e = .returned x) ∧ u' = .returning ∧ ∃ I', Hf I D w I' w' [BxC B 53 [.pointer (some ⟨b, 0, none⟩)], BxC b 85 (cDReader rd)] := by
 have H1 := H.hf.blw ((Below.refl _ _).drew)
 obtain ⟨D1, h1, h2⟩ := H1.call (js := [(1, false)]) rfl
 exact clo3 TB_Wire2 Try.func76 rfl rfl rfl (by kernel_rfl) fn_41_Wire2 (by kernel_rfl) (by kernel_rfl) (by kernel_rfl) (by kernel_rfl) rfl rfl rfl rfl rfl rfl rfl rfl rfl rfl rfl rfl (H.hf.bx 0 rfl |>.cell 0 rfl) (x := .nilIface) (u' := .returning)
  (fun c0 cs h => .inr ⟨by simp [recoverD, h], rfl, rfl⟩) (c_w_stays0 b rd _ h1) fun v w' ⟨_, I', K⟩ => ⟨⟨_, rfl⟩, rfl, I', (h2 K).sub [(1, false), (0, false)] rfl⟩

theorem c_Big1_pan {I D : Dm} (B b : Nat) (rd : DReader) (er : Int) (w : World) (H : St I D w [BxC B 53 [.pointer (some ⟨b, 0, none⟩)], BxC b 85 (cDReader rd)]) (her : i64ok er) :
  CallsD Try.prog 76 #[.pointer (some ⟨B, 0, none⟩)] (.panicking [{ v := .iface 23 (.int .i64 er), recovered := false }]) w fun e u' w' => (∃ x, e = .returned x) ∧ u' = .panicking [{ v := .iface 23 (.int .i64 er), recovered := true }] ∧ ∃ I', Hf I D w I' w' [BxC B 53 [.pointer (some ⟨b, 0, none⟩)], BxC b 85 (cDReader { rd with e := er })] := by
 have H1 := H.hf.blw ((Below.refl _ _).drew)
 obtain ⟨D1, h1, h2⟩ := H1.call (js := [(1, false)]) rfl
 exact clo3 TB_Wire2 Try.func76 rfl rfl rfl (by kernel_rfl) fn_41_Wire2 (by kernel_rfl) (by kernel_rfl) (by kernel_rfl) (by kernel_rfl) rfl rfl rfl rfl rfl rfl rfl rfl rfl rfl rfl rfl (H.hf.bx 0 rfl |>.cell 0 rfl) (x := .iface 23 (.int .i64 er)) (u' := .panicking [{ v := .iface 23 (.int .i64 er), recovered := true }])
  (fun c0 cs h => .inl ⟨_, by simp [recoverD, h], rfl⟩) (c_w_stays1 b rd er _ her h1) fun v w' ⟨_, I', K⟩ => ⟨⟨_, rfl⟩, rfl, I', (h2 K).sub [(1, false), (0, false)] rfl⟩

theorem c_Text1_ret {I D : Dm} (B b : Nat) (rd : DReader) (w : World) (H : St I D w [BxC B 53 [.pointer (some ⟨b, 0, none⟩)], BxC b 85 (cDReader rd)]) :
  CallsD Try.prog 82 #[.pointer (some ⟨B, 0, none⟩)] .returning w fun e u' w' => (∃ x, e = .returned x) ∧ u' = .returning ∧ ∃ I', Hf I D w I' w' [BxC B 53 [.pointer (some ⟨b, 0, none⟩)], BxC b 85 (cDReader rd)] := by
 have H1 := H.hf.blw ((Below.refl _ _).drew)
 obtain ⟨D1, h1, h2⟩ := H1.call (js := [(1, false)]) rfl
 exact clo3 TB_Wire2 Try.func82 rfl rfl rfl (by kernel_rfl) fn_41_Wire2 (by kernel_rfl) (by kernel_rfl) (by kernel_rfl) (by kernel_rfl) rfl rfl rfl rfl rfl rfl rfl rfl rfl rfl rfl rfl (H.hf.bx 0 rfl |>.cell 0 rfl) (x := .nilIface) (u' := .returning)
  (fun c0 cs h => .inr ⟨by simp [recoverD, h], rfl, rfl⟩) (c_w_stays0 b rd _ h1) fun v w' ⟨_, I', K⟩ => ⟨⟨_, rfl⟩, rfl, I', (h2 K).sub [(1, false), (0, false)] rfl⟩

theorem c_Text1_pan {I D : Dm} (B b : Nat) (rd : DReader) (er : Int) (w : World) (H : St I D w [BxC B 53 [.pointer (some ⟨b, 0, none⟩)], BxC b 85 (cDReader rd)]) (her : i64ok er) :
  CallsD Try.prog 82 #[.pointer (some ⟨B, 0, none⟩)] (.panicking [{ v := .iface 23 (.int .i64 er), recovered := false }]) w fun e u' w' => (∃ x, e = .returned x) ∧ u' = .panicking [{ v := .iface 23 (.int .i64 er), recovered := true }] ∧ ∃ I', Hf I D w I' w' [BxC B 53 [.pointer (some ⟨b, 0, none⟩)], BxC b 85 (cDReader { rd with e := er })] := by
 have H1 := H.hf.blw ((Below.refl _ _).drew)
 obtain ⟨D1, h1, h2⟩ := H1.call (js := [(1, false)]) rfl
 exact clo3 TB_Wire2 Try.func82 rfl rfl rfl (by kernel_rfl) fn_41_Wire2 (by kernel_rfl) (by kernel_rfl) (by kernel_rfl) (by kernel_rfl) rfl rfl rfl rfl rfl rfl rfl rfl rfl rfl rfl rfl (H.hf.bx 0 rfl |>.cell 0 rfl) (x := .iface 23 (.int .i64 er)) (u' := .panicking [{ v := .iface 23 (.int .i64 er), recovered := true }])
  (fun c0 cs h => .inl ⟨_, by simp [recoverD, h], rfl⟩) (c_w_stays1 b rd er _ her h1) fun v w' ⟨_, I', K⟩ => ⟨⟨_, rfl⟩, rfl, I', (h2 K).sub [(1, false), (0, false)] rfl⟩

theorem c_Flag1_ret {I D : Dm} (B b : Nat) (rd : DReader) (w : World) (H : St I D w [BxC B 53 [.pointer (some ⟨b, 0, none⟩)], BxC b 85 (cDReader rd)]) :
  CallsD Try.prog 83 #[.pointer (some ⟨B, 0, none⟩)] .returning w fun e u' w' => (∃ x, e = .returned x) ∧ u' = .returning ∧ ∃ I', Hf I D w I' w' [BxC B 53 [.pointer (some ⟨b, 0, none⟩)], BxC b 85 (cDReader rd)] := by
 have H1 := H.hf.blw ((Below.refl _ _).drew)
 obtain ⟨D1, h1, h2⟩ := H1.call (js := [(1, false)]) rfl
 exact clo3 TB_Wire2 Try.func83 rfl rfl rfl (by kernel_rfl) fn_41_Wire2 (by kernel_rfl) (by kernel_rfl) (by kernel_rfl) (by kernel_rfl) rfl rfl rfl rfl rfl rfl rfl rfl rfl rfl rfl rfl (H.hf.bx 0 rfl |>.cell 0 rfl) (x := .nilIface) (u' := .returning)
  (fun c0 cs h => .inr ⟨by simp [recoverD, h], rfl, rfl⟩) (c_w_stays0 b rd _ h1) fun v w' ⟨_, I', K⟩ => ⟨⟨_, rfl⟩, rfl, I', (h2 K).sub [(1, false), (0, false)] rfl⟩

theorem c_Flag1_pan {I D : Dm} (B b : Nat) (rd : DReader) (er : Int) (w : World) (H : St I D w [BxC B 53 [.pointer (some ⟨b, 0, none⟩)], BxC b 85 (cDReader rd)]) (her : i64ok er) :
  CallsD Try.prog 83 #[.pointer (some ⟨B, 0, none⟩)] (.panicking [{ v := .iface 23 (.int .i64 er), recovered := false }]) w fun e u' w' => (∃ x, e = .returned x) ∧ u' = .panicking [{ v := .iface 23 (.int .i64 er), recovered := true }] ∧ ∃ I', Hf I D w I' w' [BxC B 53 [.pointer (some ⟨b, 0, none⟩)], BxC b 85 (cDReader { rd with e := er })] := by
 have H1 := H.hf.blw ((Below.refl _ _).drew)
 obtain ⟨D1, h1, h2⟩ := H1.call (js := [(1, false)]) rfl
 exact clo3 TB_Wire2 Try.func83 rfl rfl rfl (by kernel_rfl) fn_41_Wire2 (by kernel_rfl) (by kernel_rfl) (by kernel_rfl) (by kernel_rfl) rfl rfl rfl rfl rfl rfl rfl rfl rfl rfl rfl rfl (H.hf.bx 0 rfl |>.cell 0 rfl) (x := .iface 23 (.int .i64 er)) (u' := .panicking [{ v := .iface 23 (.int .i64 er), recovered := true }])
  (fun c0 cs h => .inl ⟨_, by simp [recoverD, h], rfl⟩) (c_w_stays1 b rd er _ her h1) fun v w' ⟨_, I', K⟩ => ⟨⟨_, rfl⟩, rfl, I', (h2 K).sub [(1, false), (0, false)] rfl⟩

theorem big_err {r : DReaderR} (h : r.e ≠ 0) : rBig r = r := if_pos h

theorem big_bad {r : DReaderR} (h : r.e = 0) (h2 : (vget r.s r.at_).2.2 ≠ 0) : rBig r = { r with e := (vget r.s r.at_).2.2 } := (if_neg fun x => x h).trans (if_pos h2)

theorem big_fine {r : DReaderR} (h : r.e = 0) (h2 : ¬ (vget r.s r.at_).2.2 ≠ 0) : (rBig r).e = 0 := by
 unfold rBig; rw [if_neg (fun x => x h), if_neg h2]; exact h

theorem num_err {r : DReaderR} {most : Int} (h : (rBig r).e ≠ 0) : rNum r most = rBig r := if_neg fun x => h x.1

theorem num_rng {r : DReaderR} {most : Int} (h : (rBig r).e = 0) (h3 : most < 0 ∨ most < (rBigV r : Int)) : rNum r most = { rBig r with e := 5 } := if_pos ⟨h, h3⟩

theorem num_fine {r : DReaderR} {most : Int} (h3 : ¬ (most < 0 ∨ most < (rBigV r : Int))) : rNum r most = rBig r := if_neg fun x => h3 x.2

theorem numV_no {r : DReaderR} {most : Int} (h : (rNum r most).e ≠ 0) : rNumV r most = 0 := if_pos h

theorem numV_yes {r : DReaderR} {most : Int} (h : (rNum r most).e = 0) : rNumV r most = (rBigV r : Int) := if_neg fun x => x h

theorem rng_of {most : Int} {n : Nat} {z : Int} (h : (decide (most < 0) || decide ((n : Int) > (most.toNat : Int))) = true ∧ z ≠ 0) : most < 0 ∨ most < (n : Int) := by
 have := h.1; simp at this; omega

theorem rng_no {most : Int} {n : Nat} {z : Int} (hz : z ≠ 0) (h : ¬ ((decide (most < 0) || decide ((n : Int) > (most.toNat : Int))) = true ∧ z ≠ 0)) : ¬ (most < 0 ∨ most < (n : Int)) := fun h2 => h ⟨by simp; omega, hz⟩

theorem gt_no {m : Int} {n : Nat} {z : Int} (hz : z ≠ 0) (h : ¬ (decide ((n : Int) > m) = true ∧ z ≠ 0)) : (n : Int) ≤ m := by
 rcases Int.lt_or_le m (n : Int) with h1 | h1
 ·exact absurd ⟨decide_eq_true h1, hz⟩ h
 ·exact h1

theorem gt_of {m : Int} {n : Nat} {z : Int} (h : decide ((n : Int) > m) = true ∧ z ≠ 0) : m < (n : Int) := of_decide_eq_true h.1

theorem at_no {a b z : Int} (hz : z ≠ 0) (h : ¬ ((a == b) = true ∧ z ≠ 0)) : a ≠ b := fun e => h ⟨by simp [e], hz⟩

set_option maxHeartbeats 1000000 in
theorem c_w_Num {I D : Dm} (b_rd : Nat) (rd : DReader) (most : Int) (w : World) (h_most : i64ok most) (H : St I D w [BxC b_rd 85 [.string rd.s, .int .i64 rd.at_, .int .i64 rd.e, .bool rd.made]]) (hr : rdOkM rd) :
  Calls Try.prog 18 #[.pointer (some ⟨b_rd, 0, none⟩), .int .i64 most] w (Ret fun r w' => r = .int .i64 (rNumV (toR rd) most) ∧ ∃ I', Hf I D w I' w' [BxC b_rd 85 (cDReader (ofR (rNum (toR rd) most)))]) := by
 replace H := H.hf
 unfold i64ok at h_most
 have hbv := rBigV_lt (toR rd)
 have hmd := hr.1
 refine f_enterD 23 Try.func18 rfl rfl (Nat.le_of_ble_eq_true rfl) fun a hok => ?_
 replace hok := hok.sub (ts := [0, 1]) rfl
 refine wp_seq (f_region hok ?_); clear hok; intro hok
 refine h_boxv hok H (cl := [.pointer (some ⟨b_rd, 0, none⟩)]) rfl rfl rfl (by decide) rfl rfl rfl ?_; clear hok a H; intro a w1 b1 H hok
 refine s_runk TB_Wire2 hok 1 rfl rfl ?_; clear hok a; intro a hok
 refine s_end hok [0, 1, 2, 4] rfl ?_; clear hok; intro hok
 refine p_then (wp_seq ?_)
 refine wp_seq (f_region hok ?_); clear hok; intro hok
 refine s_ob hok (v := .pointer (some ⟨b_rd, 0, none⟩)) rfl rfl (by decide) rfl (Ob_load TB_Wire2 rfl rfl rfl ((H.bx 0 rfl).cell 0 rfl)) ?_; clear hok a; intro a hok
 refine h_call hok H (js := [(1, false)]) rfl (caps := #[]) fn_19_Wire2 rfl rfl rfl rfl rfl (by decide) rfl rfl (fun D1 hS => c_w_Err _ rd _ hS hr.1) ?_; clear hok a H; intro _ a w2 D1 hr hF hok
 obtain ⟨rfl, I1, H⟩ := hr
 replace H : Hf I D w I1 w2 [BxC b_rd 85 [.string rd.s, .int .i64 rd.at_, .int .i64 rd.e, .bool rd.made], BxC b1 53 [.pointer (some ⟨b_rd, 0, none⟩)]] := hF H
 clear hF
 refine s_runk TB_Wire2 hok 1 rfl rfl ?_; clear hok a; intro a hok
 refine s_end hok [0, 1, 2, 4, 8] rfl ?_; clear hok; intro hok
 refine p_then ?_
 refine f_cond hok rfl (fun hc1 => ?_) (fun hc1 => ?_)
 ·replace hc1 := bne_iff_ne.1 hc1
  refine wp_seq (f_region hok ?_); clear hok; intro hok
  refine s_runk TB_Wire2 hok 1 rfl rfl ?_; clear hok a; intro a hok
  refine s_end hok [0, 1, 2, 4, 8] rfl ?_; clear hok; intro hok
  refine p_then (wp_ret ?_)
  refine p_then_r ?_
  refine f_retD0 hok (run_results1 rfl hok rfl) ?_
  refine ⟨?_, I1, (H.sub [(0, false)] rfl).eq ?_⟩
  ·clear hok H
   have e0 := big_err (r := toR rd) hc1; rw [numV_no (by rw [num_err (by rw [e0]; exact hc1), e0]; exact hc1)]
  ·clear hok H
   have e0 := big_err (r := toR rd) hc1; rw [num_err (by rw [e0]; exact hc1), e0, hmd]; rfl
 ·replace hc1 := bne_eq_false_iff_eq.1 hc1
  refine wp_skip ?_
  refine p_then (wp_seq (f_region hok ?_)); clear hok; intro hok
  refine s_runk TB_Wire2 hok 1 rfl rfl ?_; clear hok a; intro a hok
  refine s_defer hok rfl rfl rfl rfl rfl rfl ?_; clear hok a; intro a hok
  refine s_end hok [0, 1, 2, 4, 8] rfl ?_; clear hok; intro hok
  refine p_then (wp_seq (f_region hok ?_)); clear hok; intro hok
  refine s_ob hok (v := .pointer (some ⟨b_rd, 0, none⟩)) rfl rfl (by decide) rfl (Ob_load TB_Wire2 rfl rfl rfl ((H.bx 1 rfl).cell 0 rfl)) ?_; clear hok a; intro a hok
  refine h_callP hok H (js := [(0, false)]) rfl (caps := #[]) fn_42_Wire2 rfl rfl rfl rfl rfl (by decide) rfl rfl (fun D1 hS => c_w_big _ rd _ hS hr hc1) ?_ ?_
  rotate_left
  ·rintro _ w4 D1 ⟨hpn1, rfl, I2, K⟩ hF
   have H : Hf I D w I2 w4 [BxC b_rd 85 [.string rd.s, .int .i64 rd.at_, .int .i64 rd.e, .bool rd.made], BxC b1 53 [.pointer (some ⟨b_rd, 0, none⟩)]] := hF K
   refine p_then_p ?_
   replace hok := hok.sl
   obtain ⟨D2, hS2, hF2⟩ := H.call (js := [(1, false), (0, false)]) rfl
   refine f_panD1 hok (run_invoke fn_40_Wire2 _ _) ((c_Num1_pan _ _ rd ((vget rd.s rd.at_).2.2) _ hS2 (by first | decide | (have := vget_e rd.s rd.at_; unfold i64ok; omega))).mono fun e u' w' h => ?_)
   clear hS2 H
   obtain ⟨hx, rfl, I3, K⟩ := h
   have H : Hf I D w I3 w' [BxC b1 53 [.pointer (some ⟨b_rd, 0, none⟩)], BxC b_rd 85 [.string rd.s, .int .i64 rd.at_, .int .i64 ((vget rd.s rd.at_).2.2), .bool rd.made]] := hF2 K
   clear hF2 K
   refine ⟨hx, rfl, _, (run_results1 rfl hok rfl), ?_⟩
   refine ⟨?_, I3, (H.sub [(1, false)] rfl).eq ?_⟩
   ·clear hok H
    have e0 := big_bad (r := toR rd) hc1 hpn1; rw [numV_no (by rw [num_err (by rw [e0]; exact hpn1), e0]; exact hpn1)]
   ·clear hok H
    have e0 := big_bad (r := toR rd) hc1 hpn1; rw [num_err (by rw [e0]; exact hpn1), e0, hmd]; rfl
  clear hok H; intro _ a w3 D1 hr hF hok
  obtain ⟨hpn1, rfl, I4, H⟩ := hr
  replace H : Hf I D w I4 w3 [BxC b_rd 85 [.string ((ofR (rBig (toR rd))).s), .int .i64 ((ofR (rBig (toR rd))).at_), .int .i64 ((ofR (rBig (toR rd))).e), .bool ((ofR (rBig (toR rd))).made)], BxC b1 53 [.pointer (some ⟨b_rd, 0, none⟩)]] := hF H
  clear hF
  refine s_runk TB_Wire2 hok 1 rfl rfl ?_; clear hok a; intro a hok
  refine s_end hok [0, 1, 2, 4, 8, 5] rfl ?_; clear hok; intro hok
  refine p_then (wp_seq (f_region hok ?_)); clear hok; intro hok
  refine s_runk TB_Wire2 hok 3 rfl rfl ?_; clear hok a; intro a hok
  refine g_ob hok (p := (!(decide (most < 0)))) (v := .int .u64 (rBigV (toR rd) : Int)) (S' := [(5, .int .u64 (rBigV (toR rd) : Int))]) rfl rfl rfl (wantB_f _) rfl (by decide) (fun hp hS => hS.sub (ts := [5]) rfl) (fun _ => Ob_c TB_Wire2 rfl) ?_; clear hok a; intro a hok
  refine g_ob hok (p := (!(decide (most < 0)))) (v := .int .i64 most) (S' := [(1, .int .i64 most)]) rfl rfl rfl (wantB_f _) rfl (by decide) (fun hp hS => hS.sub (ts := [1]) rfl) (fun _ => Ob_c TB_Wire2 rfl) ?_; clear hok a; intro a hok
  refine g_ob hok (p := (!(decide (most < 0)))) (v := .int .u64 ((most).toNat : Int)) (S' := [(16, .int .i64 most)]) rfl rfl rfl (wantB_f _) rfl (by decide) (fun hp hS => (hS.conv (t := 16) rfl (cond_t hp)).sub (ts := [16]) rfl) (fun hp => ?_) ?_
  ·have hg1 := of_decide_eq_false (notT hp)
   have hcv1 : ∀ w : World, (convert 3 22 (.int .i64 most)).run Try.prog w = .ok (.int .u64 ((most).toNat : Int)) w := fun w => run_convi Try.underlying3 Try.underlying22 _ _ ((IntWalk.u64_in _ (by omega)).trans (by omega)) w
   exact Ob_conv rfl rfl (hcv1 _)
  clear hok a; intro a hok
  refine g_ob hok (p := (!(decide (most < 0)))) (v := .bool (decide ((rBigV (toR rd) : Int) > ((most).toNat : Int)))) (S' := [(15, .int .u64 (rBigV (toR rd) : Int)), (17, .int .u64 ((most).toNat : Int))]) rfl rfl rfl (wantB_f _) rfl (by decide) (fun hp hS => ((hS.conv (t := 15) rfl (cond_t hp)).conv (t := 17) rfl (cond_t hp)).sub (ts := [15, 17]) rfl) (fun _ => Ob_c TB_Wire2 rfl) ?_; clear hok a; intro a hok
  refine s_ob hok (v := .bool ((decide (most < 0)) || (decide ((rBigV (toR rd) : Int) > ((most).toNat : Int))))) rfl rfl (by decide) rfl (Ob_pick rfl rfl rfl rfl (pick_or _ _)) ?_; clear hok a; intro a hok
  refine s_callP hok fn_43_Wire2 (caps := #[]) rfl rfl rfl rfl rfl (by decide) rfl rfl (c_w_fails ((decide (most < 0)) || (decide ((rBigV (toR rd) : Int) > ((most).toNat : Int)))) 5 _ (show i64ok 5 by unfold i64ok; omega)) ?_ ?_
  rotate_left
  ·rintro _ w7 ⟨hpn2, rfl, hb⟩
   have H := H.blw hb
   refine p_then_p ?_
   replace hok := hok.sl
   obtain ⟨D2, hS2, hF2⟩ := H.call (js := [(1, false), (0, false)]) rfl
   refine f_panD1 hok (run_invoke fn_40_Wire2 _ _) ((c_Num1_pan _ _ (ofR (rBig (toR rd))) 5 _ hS2 (by first | decide | (have := vget_e (ofR (rBig (toR rd))).s (ofR (rBig (toR rd))).at_; unfold i64ok; omega))).mono fun e u' w' h => ?_)
   clear hS2 H
   obtain ⟨hx, rfl, I5, K⟩ := h
   have H : Hf I D w I5 w' [BxC b1 53 [.pointer (some ⟨b_rd, 0, none⟩)], BxC b_rd 85 [.string ((ofR (rBig (toR rd))).s), .int .i64 ((ofR (rBig (toR rd))).at_), .int .i64 5, .bool ((ofR (rBig (toR rd))).made)]] := hF2 K
   clear hF2 K
   refine ⟨hx, rfl, _, (run_results1 rfl hok rfl), ?_⟩
   refine ⟨?_, I5, (H.sub [(1, false)] rfl).eq ?_⟩
   ·clear hok H
    rw [numV_no (by rw [num_rng (big_fine (r := toR rd) hc1 hpn1) (rng_of hpn2)]; exact (by decide : (5 : Int) ≠ 0))]
   ·clear hok H
    rw [num_rng (big_fine (r := toR rd) hc1 hpn1) (rng_of hpn2)]; rfl
  clear hok; intro _ a w6 hr hok
  obtain ⟨hpn2, rfl, hb⟩ := hr
  replace H := H.blw hb
  clear hb
  have hrg := rng_no (by decide) hpn2
  refine s_end hok [0, 1, 2, 4, 8, 5] rfl ?_; clear hok; intro hok
  refine p_then (wp_seq (f_region hok ?_)); clear hok; intro hok
  refine s_runk TB_Wire2 hok 1 rfl rfl ?_; clear hok a; intro a hok
  have hcv2 : ∀ w : World, (convert 22 3 (.int .u64 (rBigV (toR rd) : Int))).run Try.prog w = .ok (.int .i64 (rBigV (toR rd) : Int)) w := fun w => run_convi Try.underlying22 Try.underlying3 _ _ (IntWalk.i64_in _ (by omega)) w
  refine s_ob hok (v := .int .i64 (rBigV (toR rd) : Int)) rfl rfl (by decide) rfl (Ob_conv rfl rfl (hcv2 _)) ?_; clear hok a; intro a hok
  refine s_runk TB_Wire2 hok 1 rfl rfl ?_; clear hok a; intro a hok
  refine s_end hok [0, 1, 2, 4, 8, 5] rfl ?_; clear hok; intro hok
  refine p_then (wp_ret ?_)
  obtain ⟨D2, hS2, hF2⟩ := H.call (js := [(1, false), (0, false)]) rfl
  refine f_retD1 hok (run_invoke fn_40_Wire2 _ _) ((c_Num1_ret _ _ (ofR (rBig (toR rd))) _ hS2).mono fun e u' w' h => ?_)
  clear hS2 H
  obtain ⟨hx, rfl, I6, K⟩ := h
  have H : Hf I D w I6 w' [BxC b1 53 [.pointer (some ⟨b_rd, 0, none⟩)], BxC b_rd 85 [.string ((ofR (rBig (toR rd))).s), .int .i64 ((ofR (rBig (toR rd))).at_), .int .i64 ((ofR (rBig (toR rd))).e), .bool ((ofR (rBig (toR rd))).made)]] := hF2 K
  clear hF2 K
  refine ⟨hx, rfl, _, (run_results1 rfl hok rfl), ?_⟩
  refine ⟨?_, I6, (H.sub [(1, false)] rfl).eq ?_⟩
  ·clear hok H
   rw [numV_yes (by rw [num_fine (rng_no (by decide) hpn2)]; exact big_fine (r := toR rd) hc1 hpn1)]
  ·clear hok H
   rw [num_fine (rng_no (by decide) hpn2)]; rfl

set_option maxHeartbeats 1000000 in
theorem c_w_Big {I D : Dm} (b_rd : Nat) (rd : DReader) (w : World) (H : St I D w [BxC b_rd 85 [.string rd.s, .int .i64 rd.at_, .int .i64 rd.e, .bool rd.made]]) (hr : rdOkM rd) :
  Calls Try.prog 51 #[.pointer (some ⟨b_rd, 0, none⟩)] w (Ret fun r w' => r = .int .u64 ((rBigV (toR rd) : Nat) : Int) ∧ ∃ I', Hf I D w I' w' [BxC b_rd 85 (cDReader (ofR (rBig (toR rd))))]) := by
 replace H := H.hf
 have hmd := hr.1
 refine f_enterD 9 Try.func51 rfl rfl (Nat.le_of_ble_eq_true rfl) fun a hok => ?_
 replace hok := hok.sub (ts := [0]) rfl
 refine wp_seq (f_region hok ?_); clear hok; intro hok
 refine h_boxv hok H (cl := [.pointer (some ⟨b_rd, 0, none⟩)]) rfl rfl rfl (by decide) rfl rfl rfl ?_; clear hok a H; intro a w1 b1 H hok
 refine s_runk TB_Wire2 hok 1 rfl rfl ?_; clear hok a; intro a hok
 refine s_end hok [0, 1, 2] rfl ?_; clear hok; intro hok
 refine p_then (wp_seq ?_)
 refine wp_seq (f_region hok ?_); clear hok; intro hok
 refine s_ob hok (v := .pointer (some ⟨b_rd, 0, none⟩)) rfl rfl (by decide) rfl (Ob_load TB_Wire2 rfl rfl rfl ((H.bx 0 rfl).cell 0 rfl)) ?_; clear hok a; intro a hok
 refine h_call hok H (js := [(1, false)]) rfl (caps := #[]) fn_19_Wire2 rfl rfl rfl rfl rfl (by decide) rfl rfl (fun D1 hS => c_w_Err _ rd _ hS hr.1) ?_; clear hok a H; intro _ a w2 D1 hr hF hok
 obtain ⟨rfl, I1, H⟩ := hr
 replace H : Hf I D w I1 w2 [BxC b_rd 85 [.string rd.s, .int .i64 rd.at_, .int .i64 rd.e, .bool rd.made], BxC b1 53 [.pointer (some ⟨b_rd, 0, none⟩)]] := hF H
 clear hF
 refine s_runk TB_Wire2 hok 1 rfl rfl ?_; clear hok a; intro a hok
 refine s_end hok [0, 1, 2, 5] rfl ?_; clear hok; intro hok
 refine p_then ?_
 refine f_cond hok rfl (fun hc1 => ?_) (fun hc1 => ?_)
 ·replace hc1 := bne_iff_ne.1 hc1
  refine wp_seq (f_region hok ?_); clear hok; intro hok
  refine s_runk TB_Wire2 hok 1 rfl rfl ?_; clear hok a; intro a hok
  refine s_end hok [0, 1, 2, 5] rfl ?_; clear hok; intro hok
  refine p_then (wp_ret ?_)
  refine p_then_r ?_
  refine f_retD0 hok (run_results1 rfl hok rfl) ?_
  refine ⟨?_, I1, (H.sub [(0, false)] rfl).eq ?_⟩
  ·clear hok H
   rw [rBigV_e (by rw [big_err (r := toR rd) hc1]; exact hc1)]; rfl
  ·clear hok H
   rw [big_err (r := toR rd) hc1, hmd]; rfl
 ·replace hc1 := bne_eq_false_iff_eq.1 hc1
  refine wp_skip ?_
  refine p_then (wp_seq (f_region hok ?_)); clear hok; intro hok
  refine s_runk TB_Wire2 hok 1 rfl rfl ?_; clear hok a; intro a hok
  refine s_defer hok rfl rfl rfl rfl rfl rfl ?_; clear hok a; intro a hok
  refine s_end hok [0, 1, 2, 5] rfl ?_; clear hok; intro hok
  refine p_then (wp_seq (f_region hok ?_)); clear hok; intro hok
  refine s_ob hok (v := .pointer (some ⟨b_rd, 0, none⟩)) rfl rfl (by decide) rfl (Ob_load TB_Wire2 rfl rfl rfl ((H.bx 1 rfl).cell 0 rfl)) ?_; clear hok a; intro a hok
  refine h_callP hok H (js := [(0, false)]) rfl (caps := #[]) fn_42_Wire2 rfl rfl rfl rfl rfl (by decide) rfl rfl (fun D1 hS => c_w_big _ rd _ hS hr hc1) ?_ ?_
  rotate_left
  ·rintro _ w4 D1 ⟨hpn1, rfl, I2, K⟩ hF
   have H : Hf I D w I2 w4 [BxC b_rd 85 [.string rd.s, .int .i64 rd.at_, .int .i64 rd.e, .bool rd.made], BxC b1 53 [.pointer (some ⟨b_rd, 0, none⟩)]] := hF K
   refine p_then_p ?_
   replace hok := hok.sl
   obtain ⟨D2, hS2, hF2⟩ := H.call (js := [(1, false), (0, false)]) rfl
   refine f_panD1 hok (run_invoke fn_76_Wire2 _ _) ((c_Big1_pan _ _ rd ((vget rd.s rd.at_).2.2) _ hS2 (by first | decide | (have := vget_e rd.s rd.at_; unfold i64ok; omega))).mono fun e u' w' h => ?_)
   clear hS2 H
   obtain ⟨hx, rfl, I3, K⟩ := h
   have H : Hf I D w I3 w' [BxC b1 53 [.pointer (some ⟨b_rd, 0, none⟩)], BxC b_rd 85 [.string rd.s, .int .i64 rd.at_, .int .i64 ((vget rd.s rd.at_).2.2), .bool rd.made]] := hF2 K
   clear hF2 K
   refine ⟨hx, rfl, _, (run_results1 rfl hok rfl), ?_⟩
   refine ⟨?_, I3, (H.sub [(1, false)] rfl).eq ?_⟩
   ·clear hok H
    rw [rBigV_e (by rw [big_bad (r := toR rd) hc1 hpn1]; exact hpn1)]; rfl
   ·clear hok H
    rw [big_bad (r := toR rd) hc1 hpn1, hmd]; rfl
  clear hok H; intro _ a w3 D1 hr hF hok
  obtain ⟨hpn1, rfl, I4, H⟩ := hr
  replace H : Hf I D w I4 w3 [BxC b_rd 85 [.string ((ofR (rBig (toR rd))).s), .int .i64 ((ofR (rBig (toR rd))).at_), .int .i64 ((ofR (rBig (toR rd))).e), .bool ((ofR (rBig (toR rd))).made)], BxC b1 53 [.pointer (some ⟨b_rd, 0, none⟩)]] := hF H
  clear hF
  refine s_runk TB_Wire2 hok 1 rfl rfl ?_; clear hok a; intro a hok
  refine s_end hok [0, 1, 2, 5] rfl ?_; clear hok; intro hok
  refine p_then (wp_ret ?_)
  obtain ⟨D2, hS2, hF2⟩ := H.call (js := [(1, false), (0, false)]) rfl
  refine f_retD1 hok (run_invoke fn_76_Wire2 _ _) ((c_Big1_ret _ _ (ofR (rBig (toR rd))) _ hS2).mono fun e u' w' h => ?_)
  clear hS2 H
  obtain ⟨hx, rfl, I5, K⟩ := h
  have H : Hf I D w I5 w' [BxC b1 53 [.pointer (some ⟨b_rd, 0, none⟩)], BxC b_rd 85 [.string ((ofR (rBig (toR rd))).s), .int .i64 ((ofR (rBig (toR rd))).at_), .int .i64 ((ofR (rBig (toR rd))).e), .bool ((ofR (rBig (toR rd))).made)]] := hF2 K
  clear hF2 K
  refine ⟨hx, rfl, _, (run_results1 rfl hok rfl), ?_⟩
  refine ⟨?_, I5, (H.sub [(1, false)] rfl).eq ?_⟩
  ·clear hok H
   rfl
  ·clear hok H
   rfl

set_option maxHeartbeats 1000000 in
theorem c_w_Text {I D : Dm} (b_rd : Nat) (rd : DReader) (most : Int) (w : World) (h_most : i64ok most) (H : St I D w [BxC b_rd 85 [.string rd.s, .int .i64 rd.at_, .int .i64 rd.e, .bool rd.made]]) (hr : rdOkM rd) :
  Calls Try.prog 72 #[.pointer (some ⟨b_rd, 0, none⟩), .int .i64 most] w (Ret fun r w' => r = .string (rTextV (toR rd) most) ∧ ∃ I', Hf I D w I' w' [BxC b_rd 85 (cDReader (ofR (rText (toR rd) most)))]) := by
 replace H := H.hf
 unfold i64ok at h_most
 have hbv := rBigV_lt (toR rd)
 have hmd := hr.1
 have hro := rBig_ok hr.2; obtain ⟨hr1, hr2, hr3, hr4, hr5⟩ := hro
 have hml : maxLen = 9223372036854775807 := (by decide)
 refine f_enterD 58 Try.func72 rfl rfl (Nat.le_of_ble_eq_true rfl) fun a hok => ?_
 replace hok := hok.sub (ts := [0, 1]) rfl
 refine wp_seq (f_region hok ?_); clear hok; intro hok
 refine h_boxv hok H (cl := [.pointer (some ⟨b_rd, 0, none⟩)]) rfl rfl rfl (by decide) rfl rfl rfl ?_; clear hok a H; intro a w1 b1 H hok
 refine s_runk TB_Wire2 hok 1 rfl rfl ?_; clear hok a; intro a hok
 refine s_end hok [0, 1, 2, 4] rfl ?_; clear hok; intro hok
 refine p_then (wp_seq ?_)
 refine wp_seq (f_region hok ?_); clear hok; intro hok
 refine s_ob hok (v := .pointer (some ⟨b_rd, 0, none⟩)) rfl rfl (by decide) rfl (Ob_load TB_Wire2 rfl rfl rfl ((H.bx 0 rfl).cell 0 rfl)) ?_; clear hok a; intro a hok
 refine h_call hok H (js := [(1, false)]) rfl (caps := #[]) fn_19_Wire2 rfl rfl rfl rfl rfl (by decide) rfl rfl (fun D1 hS => c_w_Err _ rd _ hS hr.1) ?_; clear hok a H; intro _ a w2 D1 hr hF hok
 obtain ⟨rfl, I1, H⟩ := hr
 replace H : Hf I D w I1 w2 [BxC b_rd 85 [.string rd.s, .int .i64 rd.at_, .int .i64 rd.e, .bool rd.made], BxC b1 53 [.pointer (some ⟨b_rd, 0, none⟩)]] := hF H
 clear hF
 refine s_runk TB_Wire2 hok 1 rfl rfl ?_; clear hok a; intro a hok
 refine s_end hok [0, 1, 2, 4, 9] rfl ?_; clear hok; intro hok
 refine p_then ?_
 refine f_cond hok rfl (fun hc1 => ?_) (fun hc1 => ?_)
 ·replace hc1 := bne_iff_ne.1 hc1
  refine wp_seq (f_region hok ?_); clear hok; intro hok
  refine s_runk TB_Wire2 hok 1 rfl rfl ?_; clear hok a; intro a hok
  refine s_end hok [0, 1, 2, 4, 9] rfl ?_; clear hok; intro hok
  refine p_then (wp_ret ?_)
  refine p_then_r ?_
  refine f_retD0 hok (run_results1 rfl hok rfl) ?_
  refine ⟨?_, I1, (H.sub [(0, false)] rfl).eq ?_⟩
  ·clear hok H
   have e0 := big_err (r := toR rd) hc1; rw [rTextV_no (by rw [rText_err (by rw [e0]; exact hc1), e0]; exact hc1)]; rfl
  ·clear hok H
   have e0 := big_err (r := toR rd) hc1; rw [rText_err (by rw [e0]; exact hc1), e0, hmd]; rfl
 ·replace hc1 := bne_eq_false_iff_eq.1 hc1
  refine wp_skip ?_
  refine p_then (wp_seq (f_region hok ?_)); clear hok; intro hok
  refine s_runk TB_Wire2 hok 1 rfl rfl ?_; clear hok a; intro a hok
  refine s_defer hok rfl rfl rfl rfl rfl rfl ?_; clear hok a; intro a hok
  refine s_end hok [0, 1, 2, 4, 9] rfl ?_; clear hok; intro hok
  refine p_then (wp_seq (f_region hok ?_)); clear hok; intro hok
  refine s_ob hok (v := .pointer (some ⟨b_rd, 0, none⟩)) rfl rfl (by decide) rfl (Ob_load TB_Wire2 rfl rfl rfl ((H.bx 1 rfl).cell 0 rfl)) ?_; clear hok a; intro a hok
  refine h_callP hok H (js := [(0, false)]) rfl (caps := #[]) fn_42_Wire2 rfl rfl rfl rfl rfl (by decide) rfl rfl (fun D1 hS => c_w_big _ rd _ hS hr hc1) ?_ ?_
  rotate_left
  ·rintro _ w4 D1 ⟨hpn1, rfl, I2, K⟩ hF
   have H : Hf I D w I2 w4 [BxC b_rd 85 [.string rd.s, .int .i64 rd.at_, .int .i64 rd.e, .bool rd.made], BxC b1 53 [.pointer (some ⟨b_rd, 0, none⟩)]] := hF K
   refine p_then_p ?_
   replace hok := hok.sl
   obtain ⟨D2, hS2, hF2⟩ := H.call (js := [(1, false), (0, false)]) rfl
   refine f_panD1 hok (run_invoke fn_82_Wire2 _ _) ((c_Text1_pan _ _ rd ((vget rd.s rd.at_).2.2) _ hS2 (by first | decide | (have := vget_e rd.s rd.at_; unfold i64ok; omega))).mono fun e u' w' h => ?_)
   clear hS2 H
   obtain ⟨hx, rfl, I3, K⟩ := h
   have H : Hf I D w I3 w' [BxC b1 53 [.pointer (some ⟨b_rd, 0, none⟩)], BxC b_rd 85 [.string rd.s, .int .i64 rd.at_, .int .i64 ((vget rd.s rd.at_).2.2), .bool rd.made]] := hF2 K
   clear hF2 K
   refine ⟨hx, rfl, _, (run_results1 rfl hok rfl), ?_⟩
   refine ⟨?_, I3, (H.sub [(1, false)] rfl).eq ?_⟩
   ·clear hok H
    have e0 := big_bad (r := toR rd) hc1 hpn1; rw [rTextV_no (by rw [rText_err (by rw [e0]; exact hpn1), e0]; exact hpn1)]; rfl
   ·clear hok H
    have e0 := big_bad (r := toR rd) hc1 hpn1; rw [rText_err (by rw [e0]; exact hpn1), e0, hmd]; rfl
  clear hok H; intro _ a w3 D1 hr hF hok
  obtain ⟨hpn1, rfl, I4, H⟩ := hr
  replace H : Hf I D w I4 w3 [BxC b_rd 85 [.string ((ofR (rBig (toR rd))).s), .int .i64 ((ofR (rBig (toR rd))).at_), .int .i64 ((ofR (rBig (toR rd))).e), .bool ((ofR (rBig (toR rd))).made)], BxC b1 53 [.pointer (some ⟨b_rd, 0, none⟩)]] := hF H
  clear hF
  have ho1 : (ofR (rBig (toR rd))).s.size = (rBig (toR rd)).s.size := rfl
  have ho2 : (ofR (rBig (toR rd))).at_ = (rBig (toR rd)).at_ := rfl
  refine s_runk TB_Wire2 hok 1 rfl rfl ?_; clear hok a; intro a hok
  refine s_end hok [0, 1, 2, 4, 9, 5] rfl ?_; clear hok; intro hok
  refine p_then (wp_seq (f_region hok ?_)); clear hok; intro hok
  refine s_runk TB_Wire2 hok 3 rfl rfl ?_; clear hok a; intro a hok
  refine g_ob hok (p := (!(decide (most < 0)))) (v := .int .u64 (rBigV (toR rd) : Int)) (S' := [(5, .int .u64 (rBigV (toR rd) : Int))]) rfl rfl rfl (wantB_f _) rfl (by decide) (fun hp hS => hS.sub (ts := [5]) rfl) (fun _ => Ob_c TB_Wire2 rfl) ?_; clear hok a; intro a hok
  refine g_ob hok (p := (!(decide (most < 0)))) (v := .int .i64 most) (S' := [(1, .int .i64 most)]) rfl rfl rfl (wantB_f _) rfl (by decide) (fun hp hS => hS.sub (ts := [1]) rfl) (fun _ => Ob_c TB_Wire2 rfl) ?_; clear hok a; intro a hok
  refine g_ob hok (p := (!(decide (most < 0)))) (v := .int .u64 ((most).toNat : Int)) (S' := [(17, .int .i64 most)]) rfl rfl rfl (wantB_f _) rfl (by decide) (fun hp hS => (hS.conv (t := 17) rfl (cond_t hp)).sub (ts := [17]) rfl) (fun hp => ?_) ?_
  ·have hg1 := of_decide_eq_false (notT hp)
   have hcv1 : ∀ w : World, (convert 3 22 (.int .i64 most)).run Try.prog w = .ok (.int .u64 ((most).toNat : Int)) w := fun w => run_convi Try.underlying3 Try.underlying22 _ _ ((IntWalk.u64_in _ (by omega)).trans (by omega)) w
   exact Ob_conv rfl rfl (hcv1 _)
  clear hok a; intro a hok
  refine g_ob hok (p := (!(decide (most < 0)))) (v := .bool (decide ((rBigV (toR rd) : Int) > ((most).toNat : Int)))) (S' := [(16, .int .u64 (rBigV (toR rd) : Int)), (18, .int .u64 ((most).toNat : Int))]) rfl rfl rfl (wantB_f _) rfl (by decide) (fun hp hS => ((hS.conv (t := 16) rfl (cond_t hp)).conv (t := 18) rfl (cond_t hp)).sub (ts := [16, 18]) rfl) (fun _ => Ob_c TB_Wire2 rfl) ?_; clear hok a; intro a hok
  refine s_ob hok (v := .bool ((decide (most < 0)) || (decide ((rBigV (toR rd) : Int) > ((most).toNat : Int))))) rfl rfl (by decide) rfl (Ob_pick rfl rfl rfl rfl (pick_or _ _)) ?_; clear hok a; intro a hok
  refine s_callP hok fn_43_Wire2 (caps := #[]) rfl rfl rfl rfl rfl (by decide) rfl rfl (c_w_fails ((decide (most < 0)) || (decide ((rBigV (toR rd) : Int) > ((most).toNat : Int)))) 3 _ (show i64ok 3 by unfold i64ok; omega)) ?_ ?_
  rotate_left
  ·rintro _ w7 ⟨hpn2, rfl, hb⟩
   have H := H.blw hb
   refine p_then_p ?_
   replace hok := hok.sl
   obtain ⟨D2, hS2, hF2⟩ := H.call (js := [(1, false), (0, false)]) rfl
   refine f_panD1 hok (run_invoke fn_82_Wire2 _ _) ((c_Text1_pan _ _ (ofR (rBig (toR rd))) 3 _ hS2 (by first | decide | (have := vget_e (ofR (rBig (toR rd))).s (ofR (rBig (toR rd))).at_; unfold i64ok; omega))).mono fun e u' w' h => ?_)
   clear hS2 H
   obtain ⟨hx, rfl, I5, K⟩ := h
   have H : Hf I D w I5 w' [BxC b1 53 [.pointer (some ⟨b_rd, 0, none⟩)], BxC b_rd 85 [.string ((ofR (rBig (toR rd))).s), .int .i64 ((ofR (rBig (toR rd))).at_), .int .i64 3, .bool ((ofR (rBig (toR rd))).made)]] := hF2 K
   clear hF2 K
   refine ⟨hx, rfl, _, (run_results1 rfl hok rfl), ?_⟩
   refine ⟨?_, I5, (H.sub [(1, false)] rfl).eq ?_⟩
   ·clear hok H
    rw [rTextV_no (by rw [rText_long (big_fine (r := toR rd) hc1 hpn1) (rng_of hpn2)]; exact (by decide : (3 : Int) ≠ 0))]; rfl
   ·clear hok H
    rw [rText_long (big_fine (r := toR rd) hc1 hpn1) (rng_of hpn2)]; rfl
  clear hok; intro _ a w6 hr hok
  obtain ⟨hpn2, rfl, hb⟩ := hr
  replace H := H.blw hb
  clear hb
  have hrg := rng_no (by decide) hpn2
  try (have hsh := gt_no (by decide) hpn3)
  refine s_end hok [0, 1, 2, 4, 9, 5] rfl ?_; clear hok; intro hok
  refine p_then (wp_seq ?_)
  refine f_quietS 12 (by kernel_rfl) (by kernel_rfl) (by kernel_rfl) (by kernel_rfl) (by kernel_rfl) hok ?_; clear hok; intro hok
  refine q_runk TB_Wire2 hok 1 rfl rfl ?_; clear hok a; intro a hok
  refine q_ob hok (v := .pointer (some ⟨b_rd, 0, none⟩)) rfl rfl (by decide) rfl (fun _ hw => Ob_load TB_Wire2 rfl rfl rfl (((H.bx 1 rfl).below hw).cell 0 rfl)) ?_; clear hok a; intro a hok
  refine q_runk TB_Wire2 hok 2 rfl rfl ?_; clear hok a; intro a hok
  refine q_ob hok (v := .string ((ofR (rBig (toR rd))).s)) rfl rfl (by decide) rfl (fun _ hw => Ob_load TB_Wire2 rfl rfl rfl (((H.bx 0 rfl).below hw).cell 0 rfl)) ?_; clear hok a; intro a hok
  refine q_runk TB_Wire2 hok 1 rfl rfl ?_; clear hok a; intro a hok
  refine q_ob hok (v := .pointer (some ⟨b_rd, 0, none⟩)) rfl rfl (by decide) rfl (fun _ hw => Ob_load TB_Wire2 rfl rfl rfl (((H.bx 1 rfl).below hw).cell 0 rfl)) ?_; clear hok a; intro a hok
  refine q_runk TB_Wire2 hok 2 rfl rfl ?_; clear hok a; intro a hok
  refine q_ob hok (v := .int .i64 ((ofR (rBig (toR rd))).at_)) rfl rfl (by decide) rfl (fun _ hw => Ob_load TB_Wire2 rfl rfl rfl (((H.bx 0 rfl).below hw).cell 1 rfl)) ?_; clear hok a; intro a hok
  refine q_ob hok (v := .int .i64 ((((ofR (rBig (toR rd))).s).size : Int) - ((ofR (rBig (toR rd))).at_))) rfl rfl (by decide) rfl (fun _ hw => Ob_sub rfl rfl rfl (IntWalk.i64_in _ (by omega))) ?_; clear hok a; intro a hok
  have hcv2 : ∀ w : World, (convert 3 22 (.int .i64 ((((ofR (rBig (toR rd))).s).size : Int) - ((ofR (rBig (toR rd))).at_)))).run Try.prog w = .ok (.int .u64 (((((ofR (rBig (toR rd))).s).size : Int) - ((ofR (rBig (toR rd))).at_)).toNat : Int)) w := fun w => run_convi Try.underlying3 Try.underlying22 _ _ ((IntWalk.u64_in _ (by omega)).trans (by omega)) w
  refine q_ob hok (v := .int .u64 (((((ofR (rBig (toR rd))).s).size : Int) - ((ofR (rBig (toR rd))).at_)).toNat : Int)) rfl rfl (by decide) rfl (fun _ hw => Ob_conv rfl rfl (hcv2 _)) ?_; clear hok a; intro a hok
  refine q_endS hok [0, 1, 2, 4, 9, 5, 22, 23, 24, 25, 26, 27, 28, 29, 30, 31, 32, 33] rfl ?_; clear hok; intro w9 hb hok
  replace H := H.blw hb
  clear hb
  refine s_runk TB_Wire2 hok 1 rfl rfl ?_; clear hok a; intro a hok
  refine s_callP hok fn_43_Wire2 (caps := #[]) rfl rfl rfl rfl rfl (by decide) rfl rfl (c_w_fails (decide ((rBigV (toR rd) : Int) > (((((ofR (rBig (toR rd))).s).size : Int) - ((ofR (rBig (toR rd))).at_)).toNat : Int))) 2 _ (show i64ok 2 by unfold i64ok; omega)) ?_ ?_
  rotate_left
  ·rintro _ w11 ⟨hpn3, rfl, hb⟩
   have H := H.blw hb
   refine p_then_p ?_
   replace hok := hok.sl
   obtain ⟨D2, hS2, hF2⟩ := H.call (js := [(1, false), (0, false)]) rfl
   refine f_panD1 hok (run_invoke fn_82_Wire2 _ _) ((c_Text1_pan _ _ (ofR (rBig (toR rd))) 2 _ hS2 (by first | decide | (have := vget_e (ofR (rBig (toR rd))).s (ofR (rBig (toR rd))).at_; unfold i64ok; omega))).mono fun e u' w' h => ?_)
   clear hS2 H
   obtain ⟨hx, rfl, I6, K⟩ := h
   have H : Hf I D w I6 w' [BxC b1 53 [.pointer (some ⟨b_rd, 0, none⟩)], BxC b_rd 85 [.string ((ofR (rBig (toR rd))).s), .int .i64 ((ofR (rBig (toR rd))).at_), .int .i64 2, .bool ((ofR (rBig (toR rd))).made)]] := hF2 K
   clear hF2 K
   refine ⟨hx, rfl, _, (run_results1 rfl hok rfl), ?_⟩
   refine ⟨?_, I6, (H.sub [(1, false)] rfl).eq ?_⟩
   ·clear hok H
    rw [rTextV_no (by rw [rText_short (big_fine (r := toR rd) hc1 hpn1) hrg (by have := gt_of hpn3; omega)]; exact (by decide : (2 : Int) ≠ 0))]; rfl
   ·clear hok H
    rw [rText_short (big_fine (r := toR rd) hc1 hpn1) hrg (by have := gt_of hpn3; omega)]; rfl
  clear hok; intro _ a w10 hr hok
  obtain ⟨hpn3, rfl, hb⟩ := hr
  replace H := H.blw hb
  clear hb
  have hrg := rng_no (by decide) hpn2
  try (have hsh := gt_no (by decide) hpn3)
  refine s_end hok [0, 1, 2, 4, 9, 5] rfl ?_; clear hok; intro hok
  refine p_then (wp_seq (f_region hok ?_)); clear hok; intro hok
  refine s_ob hok (v := .pointer (some ⟨b_rd, 0, none⟩)) rfl rfl (by decide) rfl (Ob_load TB_Wire2 rfl rfl rfl ((H.bx 1 rfl).cell 0 rfl)) ?_; clear hok a; intro a hok
  refine s_runk TB_Wire2 hok 2 rfl rfl ?_; clear hok a; intro a hok
  refine s_ob hok (v := .int .i64 ((ofR (rBig (toR rd))).at_)) rfl rfl (by decide) rfl (Ob_load TB_Wire2 rfl rfl rfl ((H.bx 0 rfl).cell 1 rfl)) ?_; clear hok a; intro a hok
  refine s_runk TB_Wire2 hok 1 rfl rfl ?_; clear hok a; intro a hok
  have hcv3 : ∀ w : World, (convert 22 3 (.int .u64 (rBigV (toR rd) : Int))).run Try.prog w = .ok (.int .i64 (rBigV (toR rd) : Int)) w := fun w => run_convi Try.underlying22 Try.underlying3 _ _ (IntWalk.i64_in _ (by omega)) w
  refine s_ob hok (v := .int .i64 (rBigV (toR rd) : Int)) rfl rfl (by decide) rfl (Ob_conv rfl rfl (hcv3 _)) ?_; clear hok a; intro a hok
  refine s_ob hok (v := .int .i64 ((ofR (rBig (toR rd))).at_ + (rBigV (toR rd) : Int))) rfl rfl (by decide) rfl (Ob_add rfl rfl rfl (IntWalk.i64_in _ (by omega))) ?_; clear hok a; intro a hok
  refine s_runk TB_Wire2 hok 1 rfl rfl ?_; clear hok a; intro a hok
  refine s_end hok [0, 1, 2, 4, 9, 5, 6] rfl ?_; clear hok; intro hok
  refine p_then (wp_seq ?_)
  refine f_quietS 13 (by kernel_rfl) (by kernel_rfl) (by kernel_rfl) (by kernel_rfl) (by kernel_rfl) hok ?_; clear hok; intro hok
  refine q_ob hok (v := .pointer (some ⟨b_rd, 0, none⟩)) rfl rfl (by decide) rfl (fun _ hw => Ob_load TB_Wire2 rfl rfl rfl (((H.bx 1 rfl).below hw).cell 0 rfl)) ?_; clear hok a; intro a hok
  refine q_ob hok (v := .pointer (some ⟨b_rd, 0, none⟩)) rfl rfl (by decide) rfl (fun _ hw => Ob_load TB_Wire2 rfl rfl rfl (((H.bx 1 rfl).below hw).cell 0 rfl)) ?_; clear hok a; intro a hok
  refine q_runk TB_Wire2 hok 2 rfl rfl ?_; clear hok a; intro a hok
  refine q_ob hok (v := .string ((ofR (rBig (toR rd))).s)) rfl rfl (by decide) rfl (fun _ hw => Ob_load TB_Wire2 rfl rfl rfl (((H.bx 0 rfl).below hw).cell 0 rfl)) ?_; clear hok a; intro a hok
  refine q_ob hok (v := .pointer (some ⟨b_rd, 0, none⟩)) rfl rfl (by decide) rfl (fun _ hw => Ob_load TB_Wire2 rfl rfl rfl (((H.bx 1 rfl).below hw).cell 0 rfl)) ?_; clear hok a; intro a hok
  refine q_runk TB_Wire2 hok 2 rfl rfl ?_; clear hok a; intro a hok
  refine q_ob hok (v := .int .i64 ((ofR (rBig (toR rd))).at_)) rfl rfl (by decide) rfl (fun _ hw => Ob_load TB_Wire2 rfl rfl rfl (((H.bx 0 rfl).below hw).cell 1 rfl)) ?_; clear hok a; intro a hok
  refine q_runk TB_Wire2 hok 1 rfl rfl ?_; clear hok a; intro a hok
  have hs1 : ((ofR (rBig (toR rd))).at_).toNat ≤ ((ofR (rBig (toR rd))).at_ + (rBigV (toR rd) : Int)).toNat ∧ ((ofR (rBig (toR rd))).at_ + (rBigV (toR rd) : Int)).toNat ≤ ((ofR (rBig (toR rd))).s).size := by constructor <;> omega
  refine q_ob hok (v := .string (((ofR (rBig (toR rd))).s).extract (((ofR (rBig (toR rd))).at_).toNat) (((ofR (rBig (toR rd))).at_ + (rBigV (toR rd) : Int)).toNat))) rfl rfl (by decide) rfl (fun _ hw => Ob_ss_of TB_Wire2 (((ofR (rBig (toR rd))).at_).toNat) (((ofR (rBig (toR rd))).at_ + (rBigV (toR rd) : Int)).toNat) rfl rfl rfl rfl rfl (by omega) (by omega) hs1.1 hs1.2) ?_; clear hok a; intro a hok
  refine q_runk TB_Wire2 hok 2 rfl rfl ?_; clear hok a; intro a hok
  refine q_endS hok [0, 1, 2, 4, 9, 5, 6, 43, 44, 45, 46, 47, 48, 49, 50, 51, 52, 53, 54] rfl ?_; clear hok; intro w13 hb hok
  replace H := H.blw hb
  clear hb
  refine s_runk TB_Wire2 hok 2 rfl rfl ?_; clear hok a; intro a hok
  refine h_store TB_Wire2 hok H 0 (us := [.int .i64 ((ofR (rBig (toR rd))).at_ + (rBigV (toR rd) : Int))]) (cl' := [.string ((ofR (rBig (toR rd))).s), .int .i64 ((ofR (rBig (toR rd))).at_ + (rBigV (toR rd) : Int)), .int .i64 ((ofR (rBig (toR rd))).e), .bool ((ofR (rBig (toR rd))).made)]) rfl rfl rfl rfl rfl rfl rfl rfl rfl (by simp only [List.mem_cons, List.not_mem_nil, or_false]; rintro u rfl <;> rfl) (Nat.le_of_ble_eq_true rfl) rfl ?_; clear H; intro w14 H
  dsimp only [List.eraseIdx] at H
  refine s_end hok [0, 1, 2, 4, 9, 5, 6] rfl ?_; clear hok; intro hok
  refine p_then (wp_seq (f_region hok ?_)); clear hok; intro hok
  refine s_runk TB_Wire2 hok 2 rfl rfl ?_; clear hok a; intro a hok
  refine s_end hok [0, 1, 2, 4, 9, 5, 6] rfl ?_; clear hok; intro hok
  refine p_then (wp_ret ?_)
  obtain ⟨D2, hS2, hF2⟩ := H.call (js := [(1, false), (0, false)]) rfl
  refine f_retD1 hok (run_invoke fn_82_Wire2 _ _) ((c_Text1_ret _ _ (⟨(ofR (rBig (toR rd))).s, (ofR (rBig (toR rd))).at_ + (rBigV (toR rd) : Int), (ofR (rBig (toR rd))).e, (ofR (rBig (toR rd))).made⟩ : DReader) _ hS2).mono fun e u' w' h => ?_)
  clear hS2 H
  obtain ⟨hx, rfl, I7, K⟩ := h
  have H : Hf I D w I7 w' [BxC b1 53 [.pointer (some ⟨b_rd, 0, none⟩)], BxC b_rd 85 [.string ((ofR (rBig (toR rd))).s), .int .i64 ((ofR (rBig (toR rd))).at_ + (rBigV (toR rd) : Int)), .int .i64 ((ofR (rBig (toR rd))).e), .bool ((ofR (rBig (toR rd))).made)]] := hF2 K
  clear hF2 K
  refine ⟨hx, rfl, _, (run_results1 rfl hok rfl), ?_⟩
  refine ⟨?_, I7, (H.sub [(1, false)] rfl).eq ?_⟩
  ·clear hok H
   have e1 := rText_fine (big_fine (r := toR rd) hc1 hpn1) hrg (by omega); rw [rTextV_yes (by rw [e1]; exact big_fine (r := toR rd) hc1 hpn1), ho2, show ((rBig (toR rd)).at_ + (rBigV (toR rd) : Int)).toNat = (rBig (toR rd)).at_.toNat + rBigV (toR rd) by omega]; rfl
  ·clear hok H
   rw [rText_fine (big_fine (r := toR rd) hc1 hpn1) hrg (by omega)]; rfl

set_option maxHeartbeats 1000000 in
theorem c_w_Flag {I D : Dm} (b_rd : Nat) (rd : DReader) (w : World) (H : St I D w [BxC b_rd 85 [.string rd.s, .int .i64 rd.at_, .int .i64 rd.e, .bool rd.made]]) (hr : rdOkM rd) :
  Calls Try.prog 73 #[.pointer (some ⟨b_rd, 0, none⟩)] w (Ret fun r w' => r = .bool (rFlagV (toR rd)) ∧ ∃ I', Hf I D w I' w' [BxC b_rd 85 (cDReader (ofR (rFlag (toR rd))))]) := by
 replace H := H.hf
 have hmd := hr.1
 obtain ⟨hr1, hr2, hr3, hr4, hr5⟩ := hr.2; dsimp only [toR] at hr1 hr2 hr3 hr4 hr5
 have hml : maxLen = 9223372036854775807 := (by decide)
 refine f_enterD 47 Try.func73 rfl rfl (Nat.le_of_ble_eq_true rfl) fun a hok => ?_
 replace hok := hok.sub (ts := [0]) rfl
 refine wp_seq (f_region hok ?_); clear hok; intro hok
 refine h_boxv hok H (cl := [.pointer (some ⟨b_rd, 0, none⟩)]) rfl rfl rfl (by decide) rfl rfl rfl ?_; clear hok a H; intro a w1 b1 H hok
 refine s_runk TB_Wire2 hok 1 rfl rfl ?_; clear hok a; intro a hok
 refine s_end hok [0, 1, 2] rfl ?_; clear hok; intro hok
 refine p_then (wp_seq ?_)
 refine wp_seq (f_region hok ?_); clear hok; intro hok
 refine s_ob hok (v := .pointer (some ⟨b_rd, 0, none⟩)) rfl rfl (by decide) rfl (Ob_load TB_Wire2 rfl rfl rfl ((H.bx 0 rfl).cell 0 rfl)) ?_; clear hok a; intro a hok
 refine h_call hok H (js := [(1, false)]) rfl (caps := #[]) fn_19_Wire2 rfl rfl rfl rfl rfl (by decide) rfl rfl (fun D1 hS => c_w_Err _ rd _ hS hr.1) ?_; clear hok a H; intro _ a w2 D1 hr hF hok
 obtain ⟨rfl, I1, H⟩ := hr
 replace H : Hf I D w I1 w2 [BxC b_rd 85 [.string rd.s, .int .i64 rd.at_, .int .i64 rd.e, .bool rd.made], BxC b1 53 [.pointer (some ⟨b_rd, 0, none⟩)]] := hF H
 clear hF
 refine s_runk TB_Wire2 hok 1 rfl rfl ?_; clear hok a; intro a hok
 refine s_end hok [0, 1, 2, 5] rfl ?_; clear hok; intro hok
 refine p_then ?_
 refine f_cond hok rfl (fun hc1 => ?_) (fun hc1 => ?_)
 ·replace hc1 := bne_iff_ne.1 hc1
  refine wp_seq (f_region hok ?_); clear hok; intro hok
  refine s_runk TB_Wire2 hok 1 rfl rfl ?_; clear hok a; intro a hok
  refine s_end hok [0, 1, 2, 5] rfl ?_; clear hok; intro hok
  refine p_then (wp_ret ?_)
  refine p_then_r ?_
  refine f_retD0 hok (run_results1 rfl hok rfl) ?_
  refine ⟨?_, I1, (H.sub [(0, false)] rfl).eq ?_⟩
  ·clear hok H
   rw [rFlagV_no (r := toR rd) (by rw [rFlag_err (r := toR rd) hc1]; exact hc1)]
  ·clear hok H
   rw [rFlag_err (r := toR rd) hc1, hmd]; rfl
 ·replace hc1 := bne_eq_false_iff_eq.1 hc1
  refine wp_skip ?_
  refine p_then (wp_seq (f_region hok ?_)); clear hok; intro hok
  refine s_runk TB_Wire2 hok 1 rfl rfl ?_; clear hok a; intro a hok
  refine s_defer hok rfl rfl rfl rfl rfl rfl ?_; clear hok a; intro a hok
  refine s_end hok [0, 1, 2, 5] rfl ?_; clear hok; intro hok
  refine p_then (wp_seq ?_)
  refine f_quietS 9 (by kernel_rfl) (by kernel_rfl) (by kernel_rfl) (by kernel_rfl) (by kernel_rfl) hok ?_; clear hok; intro hok
  refine q_ob hok (v := .pointer (some ⟨b_rd, 0, none⟩)) rfl rfl (by decide) rfl (fun _ hw => Ob_load TB_Wire2 rfl rfl rfl (((H.bx 1 rfl).below hw).cell 0 rfl)) ?_; clear hok a; intro a hok
  refine q_runk TB_Wire2 hok 2 rfl rfl ?_; clear hok a; intro a hok
  refine q_ob hok (v := .int .i64 rd.at_) rfl rfl (by decide) rfl (fun _ hw => Ob_load TB_Wire2 rfl rfl rfl (((H.bx 0 rfl).below hw).cell 1 rfl)) ?_; clear hok a; intro a hok
  refine q_ob hok (v := .pointer (some ⟨b_rd, 0, none⟩)) rfl rfl (by decide) rfl (fun _ hw => Ob_load TB_Wire2 rfl rfl rfl (((H.bx 1 rfl).below hw).cell 0 rfl)) ?_; clear hok a; intro a hok
  refine q_runk TB_Wire2 hok 2 rfl rfl ?_; clear hok a; intro a hok
  refine q_ob hok (v := .string rd.s) rfl rfl (by decide) rfl (fun _ hw => Ob_load TB_Wire2 rfl rfl rfl (((H.bx 0 rfl).below hw).cell 0 rfl)) ?_; clear hok a; intro a hok
  refine q_runk TB_Wire2 hok 1 rfl rfl ?_; clear hok a; intro a hok
  refine q_endS hok [0, 1, 2, 5, 7, 8, 9, 10, 11, 12, 13, 14, 15] rfl ?_; clear hok; intro w3 hb hok
  replace H := H.blw hb
  clear hb
  refine s_runk TB_Wire2 hok 1 rfl rfl ?_; clear hok a; intro a hok
  refine s_callP hok fn_43_Wire2 (caps := #[]) rfl rfl rfl rfl rfl (by decide) rfl rfl (c_w_fails (rd.at_ == (rd.s.size : Int)) 2 _ (show i64ok 2 by unfold i64ok; omega)) ?_ ?_
  rotate_left
  ·rintro _ w5 ⟨hpn1, rfl, hb⟩
   have H := H.blw hb
   refine p_then_p ?_
   replace hok := hok.sl
   obtain ⟨D2, hS2, hF2⟩ := H.call (js := [(1, false), (0, false)]) rfl
   refine f_panD1 hok (run_invoke fn_83_Wire2 _ _) ((c_Flag1_pan _ _ rd 2 _ hS2 (by first | decide | (have := vget_e rd.s rd.at_; unfold i64ok; omega))).mono fun e u' w' h => ?_)
   clear hS2 H
   obtain ⟨hx, rfl, I2, K⟩ := h
   have H : Hf I D w I2 w' [BxC b1 53 [.pointer (some ⟨b_rd, 0, none⟩)], BxC b_rd 85 [.string rd.s, .int .i64 rd.at_, .int .i64 2, .bool rd.made]] := hF2 K
   clear hF2 K
   refine ⟨hx, rfl, _, (run_results1 rfl hok rfl), ?_⟩
   refine ⟨?_, I2, (H.sub [(1, false)] rfl).eq ?_⟩
   ·clear hok H
    have e1 := rFlag_short (r := toR rd) hc1 (eq_of_beq hpn1.1); rw [rFlagV_no (by rw [e1]; exact (by decide : (2 : Int) ≠ 0))]
   ·clear hok H
    rw [rFlag_short (r := toR rd) hc1 (eq_of_beq hpn1.1), hmd]; rfl
  clear hok; intro _ a w4 hr hok
  obtain ⟨hpn1, rfl, hb⟩ := hr
  replace H := H.blw hb
  clear hb
  have hat := at_no (by decide) hpn1
  refine s_end hok [0, 1, 2, 5] rfl ?_; clear hok; intro hok
  refine p_then (wp_seq ?_)
  refine f_quietS 8 (by kernel_rfl) (by kernel_rfl) (by kernel_rfl) (by kernel_rfl) (by kernel_rfl) hok ?_; clear hok; intro hok
  refine q_ob hok (v := .pointer (some ⟨b_rd, 0, none⟩)) rfl rfl (by decide) rfl (fun _ hw => Ob_load TB_Wire2 rfl rfl rfl (((H.bx 1 rfl).below hw).cell 0 rfl)) ?_; clear hok a; intro a hok
  refine q_runk TB_Wire2 hok 2 rfl rfl ?_; clear hok a; intro a hok
  refine q_ob hok (v := .string rd.s) rfl rfl (by decide) rfl (fun _ hw => Ob_load TB_Wire2 rfl rfl rfl (((H.bx 0 rfl).below hw).cell 0 rfl)) ?_; clear hok a; intro a hok
  refine q_ob hok (v := .pointer (some ⟨b_rd, 0, none⟩)) rfl rfl (by decide) rfl (fun _ hw => Ob_load TB_Wire2 rfl rfl rfl (((H.bx 1 rfl).below hw).cell 0 rfl)) ?_; clear hok a; intro a hok
  refine q_runk TB_Wire2 hok 2 rfl rfl ?_; clear hok a; intro a hok
  refine q_ob hok (v := .int .i64 rd.at_) rfl rfl (by decide) rfl (fun _ hw => Ob_load TB_Wire2 rfl rfl rfl (((H.bx 0 rfl).below hw).cell 1 rfl)) ?_; clear hok a; intro a hok
  refine q_endS hok [0, 1, 2, 5, 18, 19, 20, 21, 22, 23, 24, 25] rfl ?_; clear hok; intro w7 hb hok
  replace H := H.blw hb
  clear hb
  have hi1 : rd.at_.toNat < rd.s.size := by omega
  refine s_ob hok (v := .int .u8 (byteAt rd.s rd.at_.toNat : Int)) rfl rfl (by decide) rfl (Ob_idxs TB_Wire2 (rd.at_.toNat) rfl rfl rfl rfl (by omega) hi1) ?_; clear hok a; intro a hok
  refine s_runk TB_Wire2 hok 1 rfl rfl ?_; clear hok a; intro a hok
  refine s_callP hok fn_43_Wire2 (caps := #[]) rfl rfl rfl rfl rfl (by decide) rfl rfl (c_w_fails (decide ((byteAt rd.s rd.at_.toNat : Int) > 1)) 4 _ (show i64ok 4 by unfold i64ok; omega)) ?_ ?_
  rotate_left
  ·rintro _ w9 ⟨hpn2, rfl, hb⟩
   have H := H.blw hb
   refine p_then_p ?_
   replace hok := hok.sl
   obtain ⟨D2, hS2, hF2⟩ := H.call (js := [(1, false), (0, false)]) rfl
   refine f_panD1 hok (run_invoke fn_83_Wire2 _ _) ((c_Flag1_pan _ _ rd 4 _ hS2 (by first | decide | (have := vget_e rd.s rd.at_; unfold i64ok; omega))).mono fun e u' w' h => ?_)
   clear hS2 H
   obtain ⟨hx, rfl, I3, K⟩ := h
   have H : Hf I D w I3 w' [BxC b1 53 [.pointer (some ⟨b_rd, 0, none⟩)], BxC b_rd 85 [.string rd.s, .int .i64 rd.at_, .int .i64 4, .bool rd.made]] := hF2 K
   clear hF2 K
   refine ⟨hx, rfl, _, (run_results1 rfl hok rfl), ?_⟩
   refine ⟨?_, I3, (H.sub [(1, false)] rfl).eq ?_⟩
   ·clear hok H
    have e1 := rFlag_form (r := toR rd) hc1 hat (by have := of_decide_eq_true hpn2.1; show 1 < byteAt rd.s rd.at_.toNat; omega); rw [rFlagV_no (by rw [e1]; exact (by decide : (4 : Int) ≠ 0))]
   ·clear hok H
    rw [rFlag_form (r := toR rd) hc1 hat (by have := of_decide_eq_true hpn2.1; show 1 < byteAt rd.s rd.at_.toNat; omega), hmd]; rfl
  clear hok; intro _ a w8 hr hok
  obtain ⟨hpn2, rfl, hb⟩ := hr
  replace H := H.blw hb
  clear hb
  have hat := at_no (by decide) hpn1
  refine s_end hok [0, 1, 2, 5] rfl ?_; clear hok; intro hok
  refine p_then (wp_seq ?_)
  refine f_quietd (by kernel_rfl) (by kernel_rfl) hok ?_; clear hok; intro hok
  refine q_ob hok (v := .pointer (some ⟨b_rd, 0, none⟩)) rfl rfl (by decide) rfl (fun _ hw => Ob_load TB_Wire2 rfl rfl rfl (((H.bx 1 rfl).below hw).cell 0 rfl)) ?_; clear hok a; intro a hok
  refine q_runk TB_Wire2 hok 2 rfl rfl ?_; clear hok a; intro a hok
  refine q_ob hok (v := .string rd.s) rfl rfl (by decide) rfl (fun _ hw => Ob_load TB_Wire2 rfl rfl rfl (((H.bx 0 rfl).below hw).cell 0 rfl)) ?_; clear hok a; intro a hok
  refine q_ob hok (v := .pointer (some ⟨b_rd, 0, none⟩)) rfl rfl (by decide) rfl (fun _ hw => Ob_load TB_Wire2 rfl rfl rfl (((H.bx 1 rfl).below hw).cell 0 rfl)) ?_; clear hok a; intro a hok
  refine q_runk TB_Wire2 hok 2 rfl rfl ?_; clear hok a; intro a hok
  refine q_ob hok (v := .int .i64 rd.at_) rfl rfl (by decide) rfl (fun _ hw => Ob_load TB_Wire2 rfl rfl rfl (((H.bx 0 rfl).below hw).cell 1 rfl)) ?_; clear hok a; intro a hok
  have hi2 : rd.at_.toNat < rd.s.size := by omega
  refine q_ob hok (v := .int .u8 (byteAt rd.s rd.at_.toNat : Int)) rfl rfl (by decide) rfl (fun _ hw => Ob_idxs TB_Wire2 (rd.at_.toNat) rfl rfl rfl rfl (by omega) hi2) ?_; clear hok a; intro a hok
  refine q_runk TB_Wire2 hok 2 rfl rfl ?_; clear hok a; intro a hok
  refine q_end hok [0, 1, 2, 5] rfl ?_; clear hok; intro w11 hb hok
  replace H := H.blw hb
  clear hb
  refine p_then (wp_seq (f_region hok ?_)); clear hok; intro hok
  refine s_ob hok (v := .pointer (some ⟨b_rd, 0, none⟩)) rfl rfl (by decide) rfl (Ob_load TB_Wire2 rfl rfl rfl ((H.bx 1 rfl).cell 0 rfl)) ?_; clear hok a; intro a hok
  refine s_runk TB_Wire2 hok 2 rfl rfl ?_; clear hok a; intro a hok
  refine s_ob hok (v := .int .i64 rd.at_) rfl rfl (by decide) rfl (Ob_load TB_Wire2 rfl rfl rfl ((H.bx 0 rfl).cell 1 rfl)) ?_; clear hok a; intro a hok
  refine s_ob hok (v := .int .i64 (rd.at_ + 1)) rfl rfl (by decide) rfl (Ob_add rfl rfl rfl (IntWalk.i64_in _ (by omega))) ?_; clear hok a; intro a hok
  refine s_runk TB_Wire2 hok 2 rfl rfl ?_; clear hok a; intro a hok
  refine h_store TB_Wire2 hok H 0 (us := [.int .i64 (rd.at_ + 1)]) (cl' := [.string rd.s, .int .i64 (rd.at_ + 1), .int .i64 rd.e, .bool rd.made]) rfl rfl rfl rfl rfl rfl rfl rfl rfl (by simp only [List.mem_cons, List.not_mem_nil, or_false]; rintro u rfl <;> rfl) (Nat.le_of_ble_eq_true rfl) rfl ?_; clear H; intro w12 H
  dsimp only [List.eraseIdx] at H
  refine s_end hok [0, 1, 2, 5] rfl ?_; clear hok; intro hok
  refine p_then (wp_seq (f_region hok ?_)); clear hok; intro hok
  refine s_runk TB_Wire2 hok 2 rfl rfl ?_; clear hok a; intro a hok
  refine s_end hok [0, 1, 2, 5] rfl ?_; clear hok; intro hok
  refine p_then (wp_ret ?_)
  obtain ⟨D2, hS2, hF2⟩ := H.call (js := [(1, false), (0, false)]) rfl
  refine f_retD1 hok (run_invoke fn_83_Wire2 _ _) ((c_Flag1_ret _ _ (⟨rd.s, rd.at_ + 1, rd.e, rd.made⟩ : DReader) _ hS2).mono fun e u' w' h => ?_)
  clear hS2 H
  obtain ⟨hx, rfl, I4, K⟩ := h
  have H : Hf I D w I4 w' [BxC b1 53 [.pointer (some ⟨b_rd, 0, none⟩)], BxC b_rd 85 [.string rd.s, .int .i64 (rd.at_ + 1), .int .i64 rd.e, .bool rd.made]] := hF2 K
  clear hF2 K
  refine ⟨hx, rfl, _, (run_results1 rfl hok rfl), ?_⟩
  refine ⟨?_, I4, (H.sub [(1, false)] rfl).eq ?_⟩
  ·clear hok H
   have e1 := rFlag_fine (r := toR rd) hc1 hat (by have h : ¬ ((byteAt rd.s rd.at_.toNat : Int) > 1) := (fun q => hpn2 ⟨decide_eq_true q, by decide⟩); show ¬ 1 < byteAt rd.s rd.at_.toNat; omega); rw [rFlagV_yes (by rw [e1]; exact hc1)]; show Value.bool _ = .bool (decide (byteAt rd.s rd.at_.toNat = 1)); congr 1; rw [Bool.eq_iff_iff]; simp <;> omega
  ·clear hok H
   rw [rFlag_fine (r := toR rd) hc1 hat (by have h : ¬ ((byteAt rd.s rd.at_.toNat : Int) > 1) := (fun q => hpn2 ⟨decide_eq_true q, by decide⟩); show ¬ 1 < byteAt rd.s rd.at_.toNat; omega), hmd]; rfl

end Go.Proofs.Ythmjkcdpbbcdgaa
