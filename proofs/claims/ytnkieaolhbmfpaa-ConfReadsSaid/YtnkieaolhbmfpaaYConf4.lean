/- Configurations: the laws. -/
import Derived.Test.YtnkieaolhbmfpaaYConf3
namespace Go.Proofs.Ytnkieaolhbmfpaa
open Go.RowKit
def TB_YConf4L : TabL := ⟨[(25601, 1), (29696, 0)], [9], [4], [(22, (29, 2))], [(3, (1, false)), (22, (1, false)), (25, (3, true)), (29, (2, true))]⟩

def TB_YConf4 : Tab Try.prog := ⟨TB_YConf4L, by kernel_rfl⟩

theorem fn_8_YConf4 : IsFn Try.prog 8 := ⟨_, Try.func8, by kernel_rfl, by kernel_rfl⟩

theorem fn_18_YConf4 : IsFn Try.prog 18 := ⟨_, Try.func18, by kernel_rfl, by kernel_rfl⟩

theorem fn_24_YConf4 : IsFn Try.prog 24 := ⟨_, Try.func24, by kernel_rfl, by kernel_rfl⟩

theorem fn_25_YConf4 : IsFn Try.prog 25 := ⟨_, Try.func25, by kernel_rfl, by kernel_rfl⟩

def F_law07_ConfReads (s0 : ByteArray) : Option Bool := if (decide ((s0.size : Int) > 2000)) = true then ((F_law07_awake).bind fun a0 => (some a0)) else ((F_conf_Of s0).bind fun o => ((F_ref07_Of s0).bind fun o_2 => ((F_ref07_Same o.1 o_2.1).bind fun s0_2 => ((gif (s0_2 && (o.2 == o_2.2)) (F_law07_awake) default).bind fun a0_2 => (some ((s0_2 && (o.2 == o_2.2)) && a0_2))))))

set_option maxHeartbeats 1000000 in
theorem c_law07_ConfReads {I D : Dm} {s0 : ByteArray} {w : World} {rr : Bool} (hF : F_law07_ConfReads s0 = some rr) (H : St I D w []) :
    Calls Try.prog 5 #[.string s0] w (Ret fun vv w' => vv = .bool rr ∧ ∃ I', Hf I D w I' w' []) := by
  replace H := H.hf
  unfold F_law07_ConfReads at hF
  refine f_enter 32 Try.func5 rfl rfl (Nat.le_of_ble_eq_true rfl) fun a hok => ?_
  replace hok := hok.sub (ts := [0]) rfl
  refine wp_seq ?_
  refine f_region hok ?_; clear hok; intro hok
  refine s_runk TB_YConf4 hok 1 rfl rfl ?_; clear hok a; intro a hok
  refine s_end hok [0, 2] rfl ?_; clear hok; intro hok
  refine p_then ?_
  refine wp_seq ?_
  refine wp_seq ?_
  refine f_region hok ?_; clear hok; intro hok
  refine s_runk TB_YConf4 hok 3 rfl rfl ?_; clear hok a; intro a hok
  refine s_end hok [0, 2, 9] rfl ?_; clear hok; intro hok
  refine p_then ?_
  refine f_cond hok rfl (fun hc1 => ?_) (fun hc1 => ?_)
  · replace hF := ite_t hc1 hF
    refine wp_seq ?_
    obtain ⟨a0, hx1, hF⟩ := bnd_in hF
    refine f_region hok ?_; clear hok; intro hok
    refine h_call hok H (js := []) rfl (caps := #[]) fn_8_YConf4 rfl rfl rfl rfl rfl (by decide) rfl rfl (fun D1 hS => have hq := c_law07_awake hx1 hS; hq) ?_; clear hok a; intro vv a w1 D2 hr hF2 hok
    obtain ⟨rfl, I1, K⟩ := hr
    have H : Hf I D w I1 w1 [] := hF2 K
    clear hF2 K
    refine s_runk TB_YConf4 hok 1 rfl rfl ?_; clear hok a; intro a hok
    refine s_end hok [0, 2] rfl ?_; clear hok; intro hok
    refine p_then ?_
    refine wp_ret ?_
    refine p_then_r ?_
    obtain rfl := some_in hF
    exact f_ret hok (run_results1 rfl hok rfl) ⟨rfl, I1, (H.sub [] rfl).eq rfl⟩
  · replace hF := ite_f hc1 hF
    refine wp_skip ?_
    refine p_then ?_
    refine wp_seq ?_
    obtain ⟨o, hx2, hF⟩ := bnd_in hF
    refine f_region hok ?_; clear hok; intro hok
    refine s_runk TB_YConf4 hok 1 rfl rfl ?_; clear hok a; intro a hok
    refine h_call hok H (js := []) rfl (caps := #[]) fn_24_YConf4 rfl rfl rfl rfl rfl (by decide) rfl rfl (fun D1 hS => have hq := c_conf_Of hx2 hS; hq) ?_; clear hok a; intro vv a w2 D2 hr hF2 hok
    obtain ⟨q1, rfl, I2, K⟩ := hr
    have H : Hf I D w I2 w2 [SlC NEMember q1 o.1.members] := hF2 K
    clear hF2 K
    refine s_runk TB_YConf4 hok 3 rfl rfl ?_; clear hok a; intro a hok
    refine h_alloc hok H (cl := [.int .i64 0, .slice none 0 0, .int .u64 0]) (z := .agg #[.int .i64 0, .slice none 0 0, .int .u64 0]) rfl rfl rfl (by decide) rfl (by kernel_rfl) rfl ?_; clear hok a H; intro a w3 b1 H hok
    refine h_store TB_YConf4 hok H 0 (us := [.int .i64 o.1.epoch, q1, .int .u64 o.1.floor]) (cl' := [.int .i64 o.1.epoch, q1, .int .u64 o.1.floor]) rfl rfl rfl rfl rfl rfl rfl rfl rfl (one_cons rfl (one_cons (slS.one (H.slshape 1 rfl)) (one_cons rfl one_nil))) (Nat.le_of_ble_eq_true rfl) rfl ?_; clear H; intro w4 H
    dsimp only [List.eraseIdx] at H
    refine s_runk TB_YConf4 hok 1 rfl rfl ?_; clear hok a; intro a hok
    refine s_end hok [0, 2, 3, 4] rfl ?_; clear hok; intro hok
    refine p_then ?_
    refine wp_seq ?_
    obtain ⟨o_2, hx3, hF⟩ := bnd_in hF
    refine f_region hok ?_; clear hok; intro hok
    refine s_runk TB_YConf4 hok 1 rfl rfl ?_; clear hok a; intro a hok
    refine h_call hok H (js := []) rfl (caps := #[]) fn_25_YConf4 rfl rfl rfl rfl rfl (by decide) rfl rfl (fun D1 hS => have hq := c_ref07_Of hx3 hS; hq) ?_; clear hok a; intro vv a w5 D2 hr hF2 hok
    obtain ⟨q2, rfl, I3, K⟩ := hr
    have H : Hf I D w I3 w5 [SlC NEMember q2 o_2.1.members, BxC b1 25 [.int .i64 o.1.epoch, q1, .int .u64 o.1.floor], SlC NEMember q1 o.1.members] := hF2 K
    clear hF2 K
    refine s_runk TB_YConf4 hok 3 rfl rfl ?_; clear hok a; intro a hok
    refine h_alloc hok H (cl := [.int .i64 0, .slice none 0 0, .int .u64 0]) (z := .agg #[.int .i64 0, .slice none 0 0, .int .u64 0]) rfl rfl rfl (by decide) rfl (by kernel_rfl) rfl ?_; clear hok a H; intro a w6 b2 H hok
    refine h_store TB_YConf4 hok H 0 (us := [.int .i64 o_2.1.epoch, q2, .int .u64 o_2.1.floor]) (cl' := [.int .i64 o_2.1.epoch, q2, .int .u64 o_2.1.floor]) rfl rfl rfl rfl rfl rfl rfl rfl rfl (one_cons rfl (one_cons (slS.one (H.slshape 1 rfl)) (one_cons rfl one_nil))) (Nat.le_of_ble_eq_true rfl) rfl ?_; clear H; intro w7 H
    dsimp only [List.eraseIdx] at H
    refine s_runk TB_YConf4 hok 1 rfl rfl ?_; clear hok a; intro a hok
    refine s_end hok [2, 3, 4, 5, 6] rfl ?_; clear hok; intro hok
    refine p_then ?_
    refine wp_seq ?_
    obtain ⟨s0_2, hx4, hF⟩ := bnd_in hF
    obtain ⟨a0_2, hx5, hF⟩ := bnd_in hF
    refine f_region hok ?_; clear hok; intro hok
    refine s_ob hok (v := .agg #[.int .i64 o.1.epoch, q1, .int .u64 o.1.floor]) rfl rfl (by decide) rfl (Ob_loads TB_YConf4 rfl rfl rfl ((H.bx 2 rfl).part 0 rfl)) ?_; clear hok a; intro a hok
    refine s_ob hok (v := .agg #[.int .i64 o_2.1.epoch, q2, .int .u64 o_2.1.floor]) rfl rfl (by decide) rfl (Ob_loads TB_YConf4 rfl rfl rfl ((H.bx 0 rfl).part 0 rfl)) ?_; clear hok a; intro a hok
    refine h_call hok H (js := [(3, true), (1, true)]) rfl (caps := #[]) fn_18_YConf4 rfl rfl rfl rfl rfl (by decide) rfl rfl (fun D1 hS => have hq := c_ref07_Same hx4 hS; hq) ?_; clear hok a; intro vv a w8 D2 hr hF2 hok
    obtain ⟨rfl, I4, K⟩ := hr
    have H : Hf I D w I4 w8 [BxC b2 25 [.int .i64 o_2.1.epoch, q2, .int .u64 o_2.1.floor], SlC NEMember q2 o_2.1.members, BxC b1 25 [.int .i64 o.1.epoch, q1, .int .u64 o.1.floor], SlC NEMember q1 o.1.members] := hF2 K
    clear hF2 K
    refine s_runk TB_YConf4 hok 1 rfl rfl ?_; clear hok a; intro a hok
    refine g_ob hok (p := s0_2) (v := .int .i64 o.2) (S' := [(4, .int .i64 o.2)]) rfl rfl rfl (wantB_t _) rfl (by decide) (fun hp hS => hS.sub (ts := [4]) rfl) (fun hp => Ob_c TB_YConf4 rfl) ?_; clear hok a; intro a hok
    refine g_ob hok (p := s0_2) (v := .int .i64 o_2.2) (S' := [(6, .int .i64 o_2.2)]) rfl rfl rfl (wantB_t _) rfl (by decide) (fun hp hS => hS.sub (ts := [6]) rfl) (fun hp => Ob_c TB_YConf4 rfl) ?_; clear hok a; intro a hok
    refine g_ob hok (p := s0_2) (v := .bool (o.2 == o_2.2)) (S' := [(25, .int .i64 o.2), (26, .int .i64 o_2.2)]) rfl rfl rfl (wantB_t _) rfl (by decide) (fun hp hS => ((hS.conv (t := 25) rfl (cond_t hp)).conv (t := 26) rfl (cond_t hp)).sub (ts := [25, 26]) rfl) (fun hp => Ob_c TB_YConf4 rfl) ?_; clear hok a; intro a hok
    refine s_ob hok (v := .bool (s0_2 && (o.2 == o_2.2))) rfl rfl (by decide) rfl (Ob_pick rfl rfl rfl rfl (pick_and _ _)) ?_; clear hok a; intro a hok
    refine s_runk TB_YConf4 hok 1 rfl rfl ?_; clear hok a; intro a hok
    refine g_call hok (p := (s0_2 && (o.2 == o_2.2))) (v := .bool a0_2) (S' := []) (caps := #[]) fn_8_YConf4 rfl rfl rfl (wantB_t _) rfl (by decide) (fun hp hS => hS.sub (ts := []) rfl) rfl rfl rfl rfl (fun hp => have hq := c_law07_awake (gif_in hx5 hp) (H.pick0 (js := []) rfl rfl); plainC hq) ?_; clear hok a; intro a w9 hb hok
    replace H : Hf I D w I4 w9 [BxC b2 25 [.int .i64 o_2.1.epoch, q2, .int .u64 o_2.1.floor], SlC NEMember q2 o_2.1.members, BxC b1 25 [.int .i64 o.1.epoch, q1, .int .u64 o.1.floor], SlC NEMember q1 o.1.members] := H.blw hb
    clear hb
    refine s_ob hok (v := .bool ((s0_2 && (o.2 == o_2.2)) && a0_2)) rfl rfl (by decide) rfl (Ob_pick rfl rfl rfl rfl (pick_and _ _)) ?_; clear hok a; intro a hok
    refine s_runk TB_YConf4 hok 1 rfl rfl ?_; clear hok a; intro a hok
    refine s_end hok [2] rfl ?_; clear hok; intro hok
    refine p_then ?_
    refine wp_ret ?_
    obtain rfl := some_in hF
    exact f_ret hok (run_results1 rfl hok rfl) ⟨rfl, I4, (H.sub [] rfl).eq rfl⟩

end Go.Proofs.Ytnkieaolhbmfpaa
