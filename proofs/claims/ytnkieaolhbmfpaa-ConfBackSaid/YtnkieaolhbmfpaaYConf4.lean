/- Configurations: the laws. -/
import Derived.Test.YtnkieaolhbmfpaaYConf3
namespace Go.Proofs.Ytnkieaolhbmfpaa
open Go.RowKit
def TB_YConf4L : TabL := ⟨[(25601, 1), (29696, 0)], [9], [4], [(22, (29, 2))], [(3, (1, false)), (22, (1, false)), (25, (3, true)), (29, (2, true))]⟩

def TB_YConf4 : Tab Try.prog := ⟨TB_YConf4L, by kernel_rfl⟩

theorem fn_8_YConf4 : IsFn Try.prog 8 := ⟨_, Try.func8, by kernel_rfl, by kernel_rfl⟩

theorem fn_14_YConf4 : IsFn Try.prog 14 := ⟨_, Try.func14, by kernel_rfl, by kernel_rfl⟩

theorem fn_18_YConf4 : IsFn Try.prog 18 := ⟨_, Try.func18, by kernel_rfl, by kernel_rfl⟩

theorem fn_24_YConf4 : IsFn Try.prog 24 := ⟨_, Try.func24, by kernel_rfl, by kernel_rfl⟩

def F_law07_ConfBack_k1 (s0 : ByteArray) : Option Bool := (F_conf_Of s0).bind fun o => (if (o.2 != 0) = true then ((F_ref07_Same o.1 (default : EConf)).bind fun s0_2 => ((gif s0_2 (F_law07_awake) default).bind fun a0_3 => (some (s0_2 && a0_3)))) else ((F_conf_Put o.1).bind fun p_2 => ((gif ((seqB p_2.1 s0) && (p_2.2 == 0)) (F_law07_awake) default).bind fun a0_4 => (some (((seqB p_2.1 s0) && (p_2.2 == 0)) && a0_4)))))

def F_law07_ConfBack (a0 : EConf) (s0 : ByteArray) : Option Bool := if ((decide ((a0.members.length : Int) > 20)) || (decide ((s0.size : Int) > 2000))) = true then ((F_law07_awake).bind fun a0_2 => (some a0_2)) else ((F_conf_Put a0).bind fun p => (if (p.2 == 0) = true then ((F_conf_Of p.1).bind fun o_2 => ((gif (!(o_2.2 != 0)) (F_ref07_Same a0 o_2.1) default).bind fun s0_3 => (if ((o_2.2 != 0) || !s0_3) = true then (some false) else (F_law07_ConfBack_k1 s0)))) else (F_law07_ConfBack_k1 s0)))

set_option maxHeartbeats 1000000 in
theorem c_law07_ConfBack {I D : Dm} {a0 : EConf} {v1_a0 : Value} {s0 : ByteArray} {w : World} {rr : Bool} (hF : F_law07_ConfBack a0 s0 = some rr) (H : St I D w [SlC NEMember v1_a0 a0.members]) :
    Calls Try.prog 6 #[.agg #[.int .i64 a0.epoch, v1_a0, .int .u64 a0.floor], .string s0] w (Ret fun vv w' => vv = .bool rr ∧ ∃ I', Hf I D w I' w' []) := by
  replace H := H.hf
  unfold F_law07_ConfBack at hF
  refine f_enter 71 Try.func6 rfl rfl (Nat.le_of_ble_eq_true rfl) fun a hok => ?_
  replace hok := hok.sub (ts := [0, 1]) rfl
  refine wp_seq ?_
  refine f_region hok ?_; clear hok; intro hok
  refine h_boxv hok H (cl := [.int .i64 a0.epoch, v1_a0, .int .u64 a0.floor]) rfl rfl rfl (by decide) rfl rfl rfl ?_; clear hok a H; intro a w1 b1 H hok
  refine s_runk TB_YConf4 hok 1 rfl rfl ?_; clear hok a; intro a hok
  refine s_end hok [1, 2, 4] rfl ?_; clear hok; intro hok
  refine p_then ?_
  refine wp_seq ?_
  refine wp_seq ?_
  refine f_region hok ?_; clear hok; intro hok
  refine s_runk TB_YConf4 hok 1 rfl rfl ?_; clear hok a; intro a hok
  refine s_ob hok (v := v1_a0) rfl rfl (by decide) rfl (Ob_load TB_YConf4 rfl rfl rfl ((H.bx 0 rfl).cell 1 rfl)) ?_; clear hok a; intro a hok
  refine s_ob hok (v := .int .i64 (a0.members.length : Int)) rfl rfl (by decide) rfl (Ob_slen TB_YConf4 rfl rfl rfl (H.slshape 1 rfl)) ?_; clear hok a; intro a hok
  refine s_runk TB_YConf4 hok 2 rfl rfl ?_; clear hok a; intro a hok
  refine g_ob hok (p := (!(decide ((a0.members.length : Int) > 20)))) (v := .string s0) (S' := [(1, .string s0)]) rfl rfl rfl (wantB_f _) rfl (by decide) (fun hp hS => hS.sub (ts := [1]) rfl) (fun hp => Ob_c TB_YConf4 rfl) ?_; clear hok a; intro a hok
  refine g_ob hok (p := (!(decide ((a0.members.length : Int) > 20)))) (v := .int .i64 (s0.size : Int)) (S' := [(18, .string s0)]) rfl rfl rfl (wantB_f _) rfl (by decide) (fun hp hS => (hS.conv (t := 18) rfl (cond_t hp)).sub (ts := [18]) rfl) (fun hp => Ob_c TB_YConf4 rfl) ?_; clear hok a; intro a hok
  refine g_ob hok (p := (!(decide ((a0.members.length : Int) > 20)))) (v := .bool (decide ((s0.size : Int) > 2000))) (S' := [(19, .int .i64 (s0.size : Int))]) rfl rfl rfl (wantB_f _) rfl (by decide) (fun hp hS => (hS.conv (t := 19) rfl (cond_t hp)).sub (ts := [19]) rfl) (fun hp => Ob_c TB_YConf4 rfl) ?_; clear hok a; intro a hok
  refine s_ob hok (v := .bool ((decide ((a0.members.length : Int) > 20)) || (decide ((s0.size : Int) > 2000)))) rfl rfl (by decide) rfl (Ob_pick rfl rfl rfl rfl (pick_or _ _)) ?_; clear hok a; intro a hok
  refine s_end hok [1, 2, 4, 21] rfl ?_; clear hok; intro hok
  refine p_then ?_
  refine f_cond hok rfl (fun hc1 => ?_) (fun hc1 => ?_)
  · replace hF := ite_t hc1 hF
    refine wp_seq ?_
    obtain ⟨a0_2, hx1, hF⟩ := bnd_in hF
    refine f_region hok ?_; clear hok; intro hok
    refine h_call hok H (js := []) rfl (caps := #[]) fn_8_YConf4 rfl rfl rfl rfl rfl (by decide) rfl rfl (fun D1 hS => have hq := c_law07_awake hx1 hS; hq) ?_; clear hok a; intro vv a w2 D2 hr hF2 hok
    obtain ⟨rfl, I1, K⟩ := hr
    have H : Hf I D w I1 w2 [BxC b1 25 [.int .i64 a0.epoch, v1_a0, .int .u64 a0.floor], SlC NEMember v1_a0 a0.members] := hF2 K
    clear hF2 K
    refine s_runk TB_YConf4 hok 1 rfl rfl ?_; clear hok a; intro a hok
    refine s_end hok [1, 2, 4] rfl ?_; clear hok; intro hok
    refine p_then ?_
    refine wp_ret ?_
    refine p_then_r ?_
    obtain rfl := some_in hF
    exact f_ret hok (run_results1 rfl hok rfl) ⟨rfl, I1, (H.sub [] rfl).eq rfl⟩
  · replace hF := ite_f hc1 hF
    refine wp_skip ?_
    refine p_then ?_
    refine wp_seq ?_
    obtain ⟨p, hx2, hF⟩ := bnd_in hF
    refine f_region hok ?_; clear hok; intro hok
    refine s_ob hok (v := .agg #[.int .i64 a0.epoch, v1_a0, .int .u64 a0.floor]) rfl rfl (by decide) rfl (Ob_loads TB_YConf4 rfl rfl rfl ((H.bx 0 rfl).part 0 rfl)) ?_; clear hok a; intro a hok
    refine h_call hok H (js := [(1, true)]) rfl (caps := #[]) fn_14_YConf4 rfl rfl rfl rfl rfl (by decide) rfl rfl (fun D1 hS => have hq := c_conf_Put hx2 hS; hq) ?_; clear hok a; intro vv a w3 D2 hr hF2 hok
    obtain ⟨rfl, I2, K⟩ := hr
    have H : Hf I D w I2 w3 [BxC b1 25 [.int .i64 a0.epoch, v1_a0, .int .u64 a0.floor], SlC NEMember v1_a0 a0.members] := hF2 K
    clear hF2 K
    refine s_runk TB_YConf4 hok 5 rfl rfl ?_; clear hok a; intro a hok
    refine s_end hok [1, 2, 4, 5, 6] rfl ?_; clear hok; intro hok
    refine p_then ?_
    refine f_cut (fun a' w' => Sl 71 [(1, .string s0), (4, .bool false)] a' ∧ (∃ I2, Hf I D w I2 w' []) ∧ F_law07_ConfBack_k1 s0 = some rr) ?_ ?_
    · rintro a w4 ⟨hok, ⟨I3, H⟩, hF⟩
      unfold F_law07_ConfBack_k1 at hF
      try dsimp only at hF
      refine wp_seq ?_
      obtain ⟨o, hx3, hF⟩ := bnd_in hF
      refine f_region hok ?_; clear hok; intro hok
      refine s_runk TB_YConf4 hok 1 rfl rfl ?_; clear hok a; intro a hok
      refine h_call hok H (js := []) rfl (caps := #[]) fn_24_YConf4 rfl rfl rfl rfl rfl (by decide) rfl rfl (fun D1 hS => have hq := c_conf_Of hx3 hS; hq) ?_; clear hok a; intro vv a w5 D2 hr hF2 hok
      obtain ⟨q1, rfl, I4, K⟩ := hr
      have H : Hf I D w I4 w5 [SlC NEMember q1 o.1.members] := hF2 K
      clear hF2 K
      refine s_runk TB_YConf4 hok 3 rfl rfl ?_; clear hok a; intro a hok
      refine h_alloc hok H (cl := [.int .i64 0, .slice none 0 0, .int .u64 0]) (z := .agg #[.int .i64 0, .slice none 0 0, .int .u64 0]) rfl rfl rfl (by decide) rfl (by kernel_rfl) rfl ?_; clear hok a H; intro a w6 b2 H hok
      refine h_store TB_YConf4 hok H 0 (us := [.int .i64 o.1.epoch, q1, .int .u64 o.1.floor]) (cl' := [.int .i64 o.1.epoch, q1, .int .u64 o.1.floor]) rfl rfl rfl rfl rfl rfl rfl rfl rfl (one_cons rfl (one_cons (slS.one (H.slshape 1 rfl)) (one_cons rfl one_nil))) (Nat.le_of_ble_eq_true rfl) rfl ?_; clear H; intro w7 H
      dsimp only [List.eraseIdx] at H
      refine s_runk TB_YConf4 hok 1 rfl rfl ?_; clear hok a; intro a hok
      refine s_end hok [1, 4, 9, 10] rfl ?_; clear hok; intro hok
      refine p_then ?_
      refine wp_seq ?_
      refine wp_seq ?_
      refine f_region hok ?_; clear hok; intro hok
      refine s_runk TB_YConf4 hok 2 rfl rfl ?_; clear hok a; intro a hok
      refine s_end hok [1, 4, 9, 49] rfl ?_; clear hok; intro hok
      refine p_then ?_
      refine f_cond hok rfl (fun hc2 => ?_) (fun hc2 => ?_)
      · replace hF := ite_t hc2 hF
        refine wp_seq ?_
        obtain ⟨s0_2, hx4, hF⟩ := bnd_in hF
        obtain ⟨a0_3, hx5, hF⟩ := bnd_in hF
        refine f_region hok ?_; clear hok; intro hok
        refine s_ob hok (v := .agg #[.int .i64 o.1.epoch, q1, .int .u64 o.1.floor]) rfl rfl (by decide) rfl (Ob_loads TB_YConf4 rfl rfl rfl ((H.bx 0 rfl).part 0 rfl)) ?_; clear hok a; intro a hok
        refine s_ob hok (v := .agg #[.int .i64 0, .slice none 0 0, .int .u64 0]) rfl rfl (by decide) rfl (Ob_build (vs := []) rfl rfl (by go_simp <;> rfl)) ?_; clear hok a; intro a hok
        replace H : Hf I D w I4 w7 [SlC NEMember (.slice none 0 0) ([] : List EMember), BxC b2 25 [.int .i64 o.1.epoch, q1, .int .u64 o.1.floor], SlC NEMember q1 o.1.members] := H.slNil NEMember
        refine h_call hok H (js := [(2, true), (0, true)]) rfl (caps := #[]) fn_18_YConf4 rfl rfl rfl rfl rfl (by decide) rfl rfl (fun D1 hS => have hq := c_ref07_Same hx4 hS; hq) ?_; clear hok a; intro vv a w8 D2 hr hF2 hok
        obtain ⟨rfl, I5, K⟩ := hr
        have H : Hf I D w I5 w8 [SlC NEMember (.slice none 0 0) ([] : List EMember), BxC b2 25 [.int .i64 o.1.epoch, q1, .int .u64 o.1.floor], SlC NEMember q1 o.1.members] := hF2 K
        clear hF2 K
        refine s_runk TB_YConf4 hok 1 rfl rfl ?_; clear hok a; intro a hok
        refine g_call hok (p := s0_2) (v := .bool a0_3) (S' := []) (caps := #[]) fn_8_YConf4 rfl rfl rfl (wantB_t _) rfl (by decide) (fun hp hS => hS.sub (ts := []) rfl) rfl rfl rfl rfl (fun hp => have hq := c_law07_awake (gif_in hx5 hp) (H.pick0 (js := []) rfl rfl); plainC hq) ?_; clear hok a; intro a w9 hb hok
        replace H : Hf I D w I5 w9 [SlC NEMember (.slice none 0 0) ([] : List EMember), BxC b2 25 [.int .i64 o.1.epoch, q1, .int .u64 o.1.floor], SlC NEMember q1 o.1.members] := H.blw hb
        clear hb
        refine s_ob hok (v := .bool (s0_2 && a0_3)) rfl rfl (by decide) rfl (Ob_pick rfl rfl rfl rfl (pick_and _ _)) ?_; clear hok a; intro a hok
        refine s_runk TB_YConf4 hok 1 rfl rfl ?_; clear hok a; intro a hok
        refine s_end hok [1, 4, 9] rfl ?_; clear hok; intro hok
        refine p_then ?_
        refine wp_ret ?_
        refine p_then_r ?_
        obtain rfl := some_in hF
        exact f_ret hok (run_results1 rfl hok rfl) ⟨rfl, I5, (H.sub [] rfl).eq rfl⟩
      · replace hF := ite_f hc2 hF
        refine wp_skip ?_
        refine p_then ?_
        refine wp_seq ?_
        obtain ⟨p_2, hx6, hF⟩ := bnd_in hF
        refine f_region hok ?_; clear hok; intro hok
        refine s_ob hok (v := .agg #[.int .i64 o.1.epoch, q1, .int .u64 o.1.floor]) rfl rfl (by decide) rfl (Ob_loads TB_YConf4 rfl rfl rfl ((H.bx 0 rfl).part 0 rfl)) ?_; clear hok a; intro a hok
        refine h_call hok H (js := [(1, true)]) rfl (caps := #[]) fn_14_YConf4 rfl rfl rfl rfl rfl (by decide) rfl rfl (fun D1 hS => have hq := c_conf_Put hx6 hS; hq) ?_; clear hok a; intro vv a w10 D2 hr hF2 hok
        obtain ⟨rfl, I6, K⟩ := hr
        have H : Hf I D w I6 w10 [BxC b2 25 [.int .i64 o.1.epoch, q1, .int .u64 o.1.floor], SlC NEMember q1 o.1.members] := hF2 K
        clear hF2 K
        refine s_runk TB_YConf4 hok 5 rfl rfl ?_; clear hok a; intro a hok
        refine s_end hok [1, 4, 11, 12] rfl ?_; clear hok; intro hok
        refine p_then ?_
        refine wp_seq ?_
        obtain ⟨a0_4, hx7, hF⟩ := bnd_in hF
        refine f_region hok ?_; clear hok; intro hok
        refine s_runk TB_YConf4 hok 4 rfl rfl ?_; clear hok a; intro a hok
        refine g_ob hok (p := (seqB p_2.1 s0)) (v := .int .i64 p_2.2) (S' := [(12, .int .i64 p_2.2)]) rfl rfl rfl (wantB_t _) rfl (by decide) (fun hp hS => hS.sub (ts := [12]) rfl) (fun hp => Ob_c TB_YConf4 rfl) ?_; clear hok a; intro a hok
        refine g_ob hok (p := (seqB p_2.1 s0)) (v := .bool (p_2.2 == 0)) (S' := [(65, .int .i64 p_2.2)]) rfl rfl rfl (wantB_t _) rfl (by decide) (fun hp hS => (hS.conv (t := 65) rfl (cond_t hp)).sub (ts := [65]) rfl) (fun hp => Ob_c TB_YConf4 rfl) ?_; clear hok a; intro a hok
        refine s_ob hok (v := .bool ((seqB p_2.1 s0) && (p_2.2 == 0))) rfl rfl (by decide) rfl (Ob_pick rfl rfl rfl rfl (pick_and _ _)) ?_; clear hok a; intro a hok
        refine s_runk TB_YConf4 hok 1 rfl rfl ?_; clear hok a; intro a hok
        refine g_call hok (p := ((seqB p_2.1 s0) && (p_2.2 == 0))) (v := .bool a0_4) (S' := []) (caps := #[]) fn_8_YConf4 rfl rfl rfl (wantB_t _) rfl (by decide) (fun hp hS => hS.sub (ts := []) rfl) rfl rfl rfl rfl (fun hp => have hq := c_law07_awake (gif_in hx7 hp) (H.pick0 (js := []) rfl rfl); plainC hq) ?_; clear hok a; intro a w11 hb hok
        replace H : Hf I D w I6 w11 [BxC b2 25 [.int .i64 o.1.epoch, q1, .int .u64 o.1.floor], SlC NEMember q1 o.1.members] := H.blw hb
        clear hb
        refine s_ob hok (v := .bool (((seqB p_2.1 s0) && (p_2.2 == 0)) && a0_4)) rfl rfl (by decide) rfl (Ob_pick rfl rfl rfl rfl (pick_and _ _)) ?_; clear hok a; intro a hok
        refine s_runk TB_YConf4 hok 1 rfl rfl ?_; clear hok a; intro a hok
        refine s_end hok [4] rfl ?_; clear hok; intro hok
        refine p_then ?_
        refine wp_ret ?_
        obtain rfl := some_in hF
        exact f_ret hok (run_results1 rfl hok rfl) ⟨rfl, I6, (H.sub [] rfl).eq rfl⟩
    · skip
      refine wp_seq ?_
      refine f_region hok ?_; clear hok; intro hok
      refine s_runk TB_YConf4 hok 2 rfl rfl ?_; clear hok a; intro a hok
      refine s_end hok [1, 2, 4, 5, 29] rfl ?_; clear hok; intro hok
      refine p_then ?_
      refine f_cond hok rfl (fun hc3 => ?_) (fun hc3 => ?_)
      · replace hF := ite_t hc3 hF
        refine wp_seq ?_
        obtain ⟨o_2, hx8, hF⟩ := bnd_in hF
        refine f_region hok ?_; clear hok; intro hok
        refine s_runk TB_YConf4 hok 1 rfl rfl ?_; clear hok a; intro a hok
        refine h_call hok H (js := []) rfl (caps := #[]) fn_24_YConf4 rfl rfl rfl rfl rfl (by decide) rfl rfl (fun D1 hS => have hq := c_conf_Of hx8 hS; hq) ?_; clear hok a; intro vv a w12 D2 hr hF2 hok
        obtain ⟨q2, rfl, I7, K⟩ := hr
        have H : Hf I D w I7 w12 [SlC NEMember q2 o_2.1.members, BxC b1 25 [.int .i64 a0.epoch, v1_a0, .int .u64 a0.floor], SlC NEMember v1_a0 a0.members] := hF2 K
        clear hF2 K
        refine s_runk TB_YConf4 hok 3 rfl rfl ?_; clear hok a; intro a hok
        refine h_alloc hok H (cl := [.int .i64 0, .slice none 0 0, .int .u64 0]) (z := .agg #[.int .i64 0, .slice none 0 0, .int .u64 0]) rfl rfl rfl (by decide) rfl (by kernel_rfl) rfl ?_; clear hok a H; intro a w13 b3 H hok
        refine h_store TB_YConf4 hok H 0 (us := [.int .i64 o_2.1.epoch, q2, .int .u64 o_2.1.floor]) (cl' := [.int .i64 o_2.1.epoch, q2, .int .u64 o_2.1.floor]) rfl rfl rfl rfl rfl rfl rfl rfl rfl (one_cons rfl (one_cons (slS.one (H.slshape 1 rfl)) (one_cons rfl one_nil))) (Nat.le_of_ble_eq_true rfl) rfl ?_; clear H; intro w14 H
        dsimp only [List.eraseIdx] at H
        refine s_runk TB_YConf4 hok 1 rfl rfl ?_; clear hok a; intro a hok
        refine s_end hok [1, 2, 4, 7, 8] rfl ?_; clear hok; intro hok
        refine p_then ?_
        refine wp_seq ?_
        obtain ⟨s0_3, hx9, hF⟩ := bnd_in hF
        refine f_region hok ?_; clear hok; intro hok
        refine s_runk TB_YConf4 hok 3 rfl rfl ?_; clear hok a; intro a hok
        refine g_ob hok (p := (!(o_2.2 != 0))) (v := .agg #[.int .i64 a0.epoch, v1_a0, .int .u64 a0.floor]) (S' := [(2, .pointer (some ⟨b1, 0, none⟩))]) rfl rfl rfl (wantB_f _) rfl (by decide) (fun hp hS => hS.sub (ts := [2]) rfl) (fun hp => Ob_loads TB_YConf4 rfl rfl rfl ((H.bx 2 rfl).part 0 rfl)) ?_; clear hok a; intro a hok
        refine g_ob hok (p := (!(o_2.2 != 0))) (v := .agg #[.int .i64 o_2.1.epoch, q2, .int .u64 o_2.1.floor]) (S' := [(7, .pointer (some ⟨b3, 0, none⟩))]) rfl rfl rfl (wantB_f _) rfl (by decide) (fun hp hS => hS.sub (ts := [7]) rfl) (fun hp => Ob_loads TB_YConf4 rfl rfl rfl ((H.bx 0 rfl).part 0 rfl)) ?_; clear hok a; intro a hok
        refine g_call hok (p := (!(o_2.2 != 0))) (v := .bool s0_3) (S' := [(38, .agg #[.int .i64 a0.epoch, v1_a0, .int .u64 a0.floor]), (39, .agg #[.int .i64 o_2.1.epoch, q2, .int .u64 o_2.1.floor])]) (caps := #[]) fn_18_YConf4 rfl rfl rfl (wantB_f _) rfl (by decide) (fun hp hS => ((hS.conv (t := 38) rfl (cond_t hp)).conv (t := 39) rfl (cond_t hp)).sub (ts := [38, 39]) rfl) rfl rfl rfl rfl (fun hp => have hq := c_ref07_Same (gif_in hx9 hp) (H.pick0 (js := [(3, true), (1, true)]) rfl rfl); plainC hq) ?_; clear hok a; intro a w15 hb hok
        replace H : Hf I D w I7 w15 [BxC b3 25 [.int .i64 o_2.1.epoch, q2, .int .u64 o_2.1.floor], SlC NEMember q2 o_2.1.members, BxC b1 25 [.int .i64 a0.epoch, v1_a0, .int .u64 a0.floor], SlC NEMember v1_a0 a0.members] := H.blw hb
        clear hb
        refine g_ob hok (p := (!(o_2.2 != 0))) (v := .bool !s0_3) (S' := [(40, .bool s0_3)]) rfl rfl rfl (wantB_f _) rfl (by decide) (fun hp hS => (hS.conv (t := 40) rfl (cond_t hp)).sub (ts := [40]) rfl) (fun hp => Ob_c TB_YConf4 rfl) ?_; clear hok a; intro a hok
        refine s_ob hok (v := .bool ((o_2.2 != 0) || !s0_3)) rfl rfl (by decide) rfl (Ob_pick rfl rfl rfl rfl (pick_or _ _)) ?_; clear hok a; intro a hok
        refine s_end hok [1, 4, 42] rfl ?_; clear hok; intro hok
        refine p_then ?_
        refine f_cond hok rfl (fun hc4 => ?_) (fun hc4 => ?_)
        · replace hF := ite_t hc4 hF
          refine wp_seq ?_
          refine f_region hok ?_; clear hok; intro hok
          refine s_runk TB_YConf4 hok 1 rfl rfl ?_; clear hok a; intro a hok
          refine s_end hok [1, 4] rfl ?_; clear hok; intro hok
          refine p_then ?_
          refine wp_ret ?_
          refine p_then_r ?_
          obtain rfl := some_in hF
          exact f_ret hok (run_results1 rfl hok rfl) ⟨rfl, I7, (H.sub [] rfl).eq rfl⟩
        · replace hF := ite_f hc4 hF
          refine wp_skip ?_
          refine p_then ?_
          exact ⟨hok.sub (ts := [1, 4]) rfl, ⟨I7, (H.sub [] rfl).eq rfl⟩, hF⟩
      · replace hF := ite_f hc3 hF
        refine wp_skip ?_
        refine p_then ?_
        exact ⟨hok.sub (ts := [1, 4]) rfl, ⟨I2, (H.sub [] rfl).eq rfl⟩, hF⟩

end Go.Proofs.Ytnkieaolhbmfpaa
