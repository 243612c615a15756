/- Configurations: the laws. -/
import Derived.Test.YtnkieaolhbmfpaaYConf3
namespace Go.Proofs.Ytnkieaolhbmfpaa
open Go.RowKit
def TB_YConf4L : TabL := ⟨[(25601, 1), (29696, 0)], [9], [4], [(22, (29, 2))], [(3, (1, false)), (22, (1, false)), (25, (3, true)), (29, (2, true))]⟩

def TB_YConf4 : Tab Try.prog := ⟨TB_YConf4L, by kernel_rfl⟩

theorem fn_7_YConf4 : IsFn Try.prog 7 := ⟨_, Try.func7, by kernel_rfl, by kernel_rfl⟩

theorem fn_8_YConf4 : IsFn Try.prog 8 := ⟨_, Try.func8, by kernel_rfl, by kernel_rfl⟩

theorem fn_9_YConf4 : IsFn Try.prog 9 := ⟨_, Try.func9, by kernel_rfl, by kernel_rfl⟩

theorem fn_10_YConf4 : IsFn Try.prog 10 := ⟨_, Try.func10, by kernel_rfl, by kernel_rfl⟩

theorem fn_11_YConf4 : IsFn Try.prog 11 := ⟨_, Try.func11, by kernel_rfl, by kernel_rfl⟩

theorem fn_12_YConf4 : IsFn Try.prog 12 := ⟨_, Try.func12, by kernel_rfl, by kernel_rfl⟩

theorem fn_13_YConf4 : IsFn Try.prog 13 := ⟨_, Try.func13, by kernel_rfl, by kernel_rfl⟩

theorem fn_14_YConf4 : IsFn Try.prog 14 := ⟨_, Try.func14, by kernel_rfl, by kernel_rfl⟩

theorem fn_15_YConf4 : IsFn Try.prog 15 := ⟨_, Try.func15, by kernel_rfl, by kernel_rfl⟩

theorem fn_16_YConf4 : IsFn Try.prog 16 := ⟨_, Try.func16, by kernel_rfl, by kernel_rfl⟩

theorem fn_17_YConf4 : IsFn Try.prog 17 := ⟨_, Try.func17, by kernel_rfl, by kernel_rfl⟩

theorem fn_18_YConf4 : IsFn Try.prog 18 := ⟨_, Try.func18, by kernel_rfl, by kernel_rfl⟩

theorem fn_19_YConf4 : IsFn Try.prog 19 := ⟨_, Try.func19, by kernel_rfl, by kernel_rfl⟩

theorem fn_20_YConf4 : IsFn Try.prog 20 := ⟨_, Try.func20, by kernel_rfl, by kernel_rfl⟩

theorem fn_21_YConf4 : IsFn Try.prog 21 := ⟨_, Try.func21, by kernel_rfl, by kernel_rfl⟩

theorem fn_22_YConf4 : IsFn Try.prog 22 := ⟨_, Try.func22, by kernel_rfl, by kernel_rfl⟩

theorem fn_23_YConf4 : IsFn Try.prog 23 := ⟨_, Try.func23, by kernel_rfl, by kernel_rfl⟩

def F_law07_ConfPuts (a0 : EConf) (b : EConf) (m : EMember) : Option Bool := if ((decide ((a0.members.length : Int) > 20)) || (decide ((b.members.length : Int) > 20))) = true then ((F_law07_awake).bind fun a0_2 => (some a0_2)) else ((F_conf_Put a0).bind fun p => ((F_ref07_Put a0).bind fun p_2 => ((gif ((seqB p.1 p_2.1) && (p.2 == p_2.2)) (F_conf_Check a0) default).bind fun c => ((gif ((seqB p.1 p_2.1) && (p.2 == p_2.2)) (F_ref07_Check a0) default).bind fun c_2 => ((gif (((seqB p.1 p_2.1) && (p.2 == p_2.2)) && (c == c_2)) (F_conf_Same a0 b) default).bind fun s0 => ((gif (((seqB p.1 p_2.1) && (p.2 == p_2.2)) && (c == c_2)) (F_ref07_Same a0 b) default).bind fun s0_2 => ((gif ((((seqB p.1 p_2.1) && (p.2 == p_2.2)) && (c == c_2)) && (s0 == s0_2)) (F_conf_Same a0 a0) default).bind fun s0_3 => ((gif (((((seqB p.1 p_2.1) && (p.2 == p_2.2)) && (c == c_2)) && (s0 == s0_2)) && s0_3) (F_conf_Place a0 m) default).bind fun p_3 => ((gif (((((seqB p.1 p_2.1) && (p.2 == p_2.2)) && (c == c_2)) && (s0 == s0_2)) && s0_3) (F_ref07_Place a0 m) default).bind fun p_4 => ((gif ((((((seqB p.1 p_2.1) && (p.2 == p_2.2)) && (c == c_2)) && (s0 == s0_2)) && s0_3) && (p_3 == p_4)) (F_conf_Ahead a0 m) default).bind fun a0_3 => ((gif ((((((seqB p.1 p_2.1) && (p.2 == p_2.2)) && (c == c_2)) && (s0 == s0_2)) && s0_3) && (p_3 == p_4)) (F_ref07_Ahead a0 m) default).bind fun a0_4 => ((gif (((((((seqB p.1 p_2.1) && (p.2 == p_2.2)) && (c == c_2)) && (s0 == s0_2)) && s0_3) && (p_3 == p_4)) && (a0_3 == a0_4)) (F_conf_Behind a0 m) default).bind fun b_2 => ((gif (((((((seqB p.1 p_2.1) && (p.2 == p_2.2)) && (c == c_2)) && (s0 == s0_2)) && s0_3) && (p_3 == p_4)) && (a0_3 == a0_4)) (F_ref07_Behind a0 m) default).bind fun b_3 => ((gif ((((((((seqB p.1 p_2.1) && (p.2 == p_2.2)) && (c == c_2)) && (s0 == s0_2)) && s0_3) && (p_3 == p_4)) && (a0_3 == a0_4)) && (b_2 == b_3)) (F_conf_Head a0) default).bind fun h => ((gif ((((((((seqB p.1 p_2.1) && (p.2 == p_2.2)) && (c == c_2)) && (s0 == s0_2)) && s0_3) && (p_3 == p_4)) && (a0_3 == a0_4)) && (b_2 == b_3)) (F_ref07_Head a0) default).bind fun h_2 => ((gif (((((((((seqB p.1 p_2.1) && (p.2 == p_2.2)) && (c == c_2)) && (s0 == s0_2)) && s0_3) && (p_3 == p_4)) && (a0_3 == a0_4)) && (b_2 == b_3)) && (h == h_2)) (F_conf_Tail a0) default).bind fun t => ((gif (((((((((seqB p.1 p_2.1) && (p.2 == p_2.2)) && (c == c_2)) && (s0 == s0_2)) && s0_3) && (p_3 == p_4)) && (a0_3 == a0_4)) && (b_2 == b_3)) && (h == h_2)) (F_ref07_Tail a0) default).bind fun t_2 => ((gif ((((((((((seqB p.1 p_2.1) && (p.2 == p_2.2)) && (c == c_2)) && (s0 == s0_2)) && s0_3) && (p_3 == p_4)) && (a0_3 == a0_4)) && (b_2 == b_3)) && (h == h_2)) && (t == t_2)) (F_law07_awake) default).bind fun a0_5 => (some (((((((((((seqB p.1 p_2.1) && (p.2 == p_2.2)) && (c == c_2)) && (s0 == s0_2)) && s0_3) && (p_3 == p_4)) && (a0_3 == a0_4)) && (b_2 == b_3)) && (h == h_2)) && (t == t_2)) && a0_5))))))))))))))))))))

set_option maxHeartbeats 1000000 in
theorem c_law07_ConfPuts {I D : Dm} {a0 : EConf} {v1_a0 : Value} {b : EConf} {v2_b : Value} {m : EMember} {w : World} {rr : Bool} (hF : F_law07_ConfPuts a0 b m = some rr) (H : St I D w [SlC NEMember v1_a0 a0.members, SlC NEMember v2_b b.members]) :
    Calls Try.prog 4 #[.agg #[.int .i64 a0.epoch, v1_a0, .int .u64 a0.floor], .agg #[.int .i64 b.epoch, v2_b, .int .u64 b.floor], .agg #[.int .i64 m.id, .int .i64 m.serial]] w (Ret fun vv w' => vv = .bool rr ∧ ∃ I', Hf I D w I' w' []) := by
  replace H := H.hf
  unfold F_law07_ConfPuts at hF
  refine f_enter 105 Try.func4 rfl rfl (Nat.le_of_ble_eq_true rfl) fun a hok => ?_
  replace hok := hok.sub (ts := [0, 1, 2]) rfl
  refine wp_seq ?_
  refine f_region hok ?_; clear hok; intro hok
  refine h_boxv hok H (cl := [.int .i64 a0.epoch, v1_a0, .int .u64 a0.floor]) rfl rfl rfl (by decide) rfl rfl rfl ?_; clear hok a H; intro a w1 b1 H hok
  refine h_boxv hok H (cl := [.int .i64 b.epoch, v2_b, .int .u64 b.floor]) rfl rfl rfl (by decide) rfl rfl rfl ?_; clear hok a H; intro a w2 b2 H hok
  refine h_boxv hok H (cl := [.int .i64 m.id, .int .i64 m.serial]) rfl rfl rfl (by decide) rfl rfl rfl ?_; clear hok a H; intro a w3 b3 H hok
  refine s_runk TB_YConf4 hok 1 rfl rfl ?_; clear hok a; intro a hok
  refine s_end hok [3, 4, 5, 6] rfl ?_; clear hok; intro hok
  refine p_then ?_
  refine wp_seq ?_
  refine wp_seq ?_
  refine f_region hok ?_; clear hok; intro hok
  refine s_runk TB_YConf4 hok 1 rfl rfl ?_; clear hok a; intro a hok
  refine s_ob hok (v := v1_a0) rfl rfl (by decide) rfl (Ob_load TB_YConf4 rfl rfl rfl ((H.bx 2 rfl).cell 1 rfl)) ?_; clear hok a; intro a hok
  refine s_ob hok (v := .int .i64 (a0.members.length : Int)) rfl rfl (by decide) rfl (Ob_slen TB_YConf4 rfl rfl rfl (H.slshape 3 rfl)) ?_; clear hok a; intro a hok
  refine s_runk TB_YConf4 hok 2 rfl rfl ?_; clear hok a; intro a hok
  refine g_ob hok (p := (!(decide ((a0.members.length : Int) > 20)))) (v := .pointer (some ⟨b2, 1, none⟩)) (S' := [(4, .pointer (some ⟨b2, 0, none⟩))]) rfl rfl rfl (wantB_f _) rfl (by decide) (fun hp hS => hS.sub (ts := [4]) rfl) (fun hp => Ob_c TB_YConf4 rfl) ?_; clear hok a; intro a hok
  refine g_ob hok (p := (!(decide ((a0.members.length : Int) > 20)))) (v := v2_b) (S' := [(16, .pointer (some ⟨b2, 1, none⟩))]) rfl rfl rfl (wantB_f _) rfl (by decide) (fun hp hS => (hS.conv (t := 16) rfl (cond_t hp)).sub (ts := [16]) rfl) (fun hp => Ob_load TB_YConf4 rfl rfl rfl ((H.bx 1 rfl).cell 1 rfl)) ?_; clear hok a; intro a hok
  refine g_ob hok (p := (!(decide ((a0.members.length : Int) > 20)))) (v := .int .i64 (b.members.length : Int)) (S' := [(17, v2_b)]) rfl rfl rfl (wantB_f _) rfl (by decide) (fun hp hS => (hS.conv (t := 17) rfl (cond_t hp)).sub (ts := [17]) rfl) (fun hp => Ob_slen TB_YConf4 rfl rfl rfl (H.slshape 4 rfl)) ?_; clear hok a; intro a hok
  refine g_ob hok (p := (!(decide ((a0.members.length : Int) > 20)))) (v := .bool (decide ((b.members.length : Int) > 20))) (S' := [(18, .int .i64 (b.members.length : Int))]) rfl rfl rfl (wantB_f _) rfl (by decide) (fun hp hS => (hS.conv (t := 18) rfl (cond_t hp)).sub (ts := [18]) rfl) (fun hp => Ob_c TB_YConf4 rfl) ?_; clear hok a; intro a hok
  refine s_ob hok (v := .bool ((decide ((a0.members.length : Int) > 20)) || (decide ((b.members.length : Int) > 20)))) rfl rfl (by decide) rfl (Ob_pick rfl rfl rfl rfl (pick_or _ _)) ?_; clear hok a; intro a hok
  refine s_end hok [3, 4, 5, 6, 20] rfl ?_; clear hok; intro hok
  refine p_then ?_
  refine f_cond hok rfl (fun hc1 => ?_) (fun hc1 => ?_)
  · replace hF := ite_t hc1 hF
    refine wp_seq ?_
    obtain ⟨a0_2, hx1, hF⟩ := bnd_in hF
    refine f_region hok ?_; clear hok; intro hok
    refine h_call hok H (js := []) rfl (caps := #[]) fn_8_YConf4 rfl rfl rfl rfl rfl (by decide) rfl rfl (fun D1 hS => have hq := c_law07_awake hx1 hS; hq) ?_; clear hok a; intro vv a w4 D2 hr hF2 hok
    obtain ⟨rfl, I1, K⟩ := hr
    have H : Hf I D w I1 w4 [BxC b3 29 [.int .i64 m.id, .int .i64 m.serial], BxC b2 25 [.int .i64 b.epoch, v2_b, .int .u64 b.floor], BxC b1 25 [.int .i64 a0.epoch, v1_a0, .int .u64 a0.floor], SlC NEMember v1_a0 a0.members, SlC NEMember v2_b b.members] := hF2 K
    clear hF2 K
    refine s_runk TB_YConf4 hok 1 rfl rfl ?_; clear hok a; intro a hok
    refine s_end hok [3, 4, 5, 6] rfl ?_; clear hok; intro hok
    refine p_then ?_
    refine wp_ret ?_
    refine p_then_r ?_
    obtain rfl := some_in hF
    exact f_ret hok (run_results1 rfl hok rfl) ⟨rfl, I1, (H.sub [] rfl).eq rfl⟩
  · replace hF := ite_f hc1 hF
    refine wp_skip ?_
    refine p_then ?_
    refine wp_seq ?_
    obtain ⟨p, hx2, hF⟩ := bnd_in hF
    refine f_region hok ?_; clear hok; intro hok
    refine s_ob hok (v := .agg #[.int .i64 a0.epoch, v1_a0, .int .u64 a0.floor]) rfl rfl (by decide) rfl (Ob_loads TB_YConf4 rfl rfl rfl ((H.bx 2 rfl).part 0 rfl)) ?_; clear hok a; intro a hok
    refine h_call hok H (js := [(3, true)]) rfl (caps := #[]) fn_14_YConf4 rfl rfl rfl rfl rfl (by decide) rfl rfl (fun D1 hS => have hq := c_conf_Put hx2 hS; hq) ?_; clear hok a; intro vv a w5 D2 hr hF2 hok
    obtain ⟨rfl, I2, K⟩ := hr
    have H : Hf I D w I2 w5 [BxC b3 29 [.int .i64 m.id, .int .i64 m.serial], BxC b2 25 [.int .i64 b.epoch, v2_b, .int .u64 b.floor], BxC b1 25 [.int .i64 a0.epoch, v1_a0, .int .u64 a0.floor], SlC NEMember v1_a0 a0.members, SlC NEMember v2_b b.members] := hF2 K
    clear hF2 K
    refine s_runk TB_YConf4 hok 5 rfl rfl ?_; clear hok a; intro a hok
    refine s_end hok [3, 4, 5, 6, 7, 8] rfl ?_; clear hok; intro hok
    refine p_then ?_
    refine wp_seq ?_
    obtain ⟨p_2, hx3, hF⟩ := bnd_in hF
    refine f_region hok ?_; clear hok; intro hok
    refine s_ob hok (v := .agg #[.int .i64 a0.epoch, v1_a0, .int .u64 a0.floor]) rfl rfl (by decide) rfl (Ob_loads TB_YConf4 rfl rfl rfl ((H.bx 2 rfl).part 0 rfl)) ?_; clear hok a; intro a hok
    refine h_call hok H (js := [(3, true)]) rfl (caps := #[]) fn_15_YConf4 rfl rfl rfl rfl rfl (by decide) rfl rfl (fun D1 hS => have hq := c_ref07_Put hx3 hS; hq) ?_; clear hok a; intro vv a w6 D2 hr hF2 hok
    obtain ⟨rfl, I3, K⟩ := hr
    have H : Hf I D w I3 w6 [BxC b3 29 [.int .i64 m.id, .int .i64 m.serial], BxC b2 25 [.int .i64 b.epoch, v2_b, .int .u64 b.floor], BxC b1 25 [.int .i64 a0.epoch, v1_a0, .int .u64 a0.floor], SlC NEMember v1_a0 a0.members, SlC NEMember v2_b b.members] := hF2 K
    clear hF2 K
    refine s_runk TB_YConf4 hok 5 rfl rfl ?_; clear hok a; intro a hok
    refine s_end hok [3, 4, 5, 6, 7, 8, 9, 10] rfl ?_; clear hok; intro hok
    refine p_then ?_
    refine wp_seq ?_
    obtain ⟨c, hx4, hF⟩ := bnd_in hF
    obtain ⟨c_2, hx5, hF⟩ := bnd_in hF
    obtain ⟨s0, hx6, hF⟩ := bnd_in hF
    obtain ⟨s0_2, hx7, hF⟩ := bnd_in hF
    obtain ⟨s0_3, hx8, hF⟩ := bnd_in hF
    obtain ⟨p_3, hx9, hF⟩ := bnd_in hF
    obtain ⟨p_4, hx10, hF⟩ := bnd_in hF
    obtain ⟨a0_3, hx11, hF⟩ := bnd_in hF
    obtain ⟨a0_4, hx12, hF⟩ := bnd_in hF
    obtain ⟨b_2, hx13, hF⟩ := bnd_in hF
    obtain ⟨b_3, hx14, hF⟩ := bnd_in hF
    obtain ⟨h, hx15, hF⟩ := bnd_in hF
    obtain ⟨h_2, hx16, hF⟩ := bnd_in hF
    obtain ⟨t, hx17, hF⟩ := bnd_in hF
    obtain ⟨t_2, hx18, hF⟩ := bnd_in hF
    obtain ⟨a0_5, hx19, hF⟩ := bnd_in hF
    refine f_quietd (by kernel_rfl) (by kernel_rfl) hok ?_; clear hok; intro hok
    refine q_runk TB_YConf4 hok 4 rfl rfl ?_; clear hok a; intro a hok
    refine gq_ob hok (p := (seqB p.1 p_2.1)) (v := .int .i64 p.2) (S' := [(8, .int .i64 p.2)]) rfl rfl rfl (wantB_t _) rfl (by decide) (fun hp hS => hS.sub (ts := [8]) rfl) (fun hp _ hw => Ob_c TB_YConf4 rfl) ?_; clear hok a; intro a hok
    refine gq_ob hok (p := (seqB p.1 p_2.1)) (v := .int .i64 p_2.2) (S' := [(10, .int .i64 p_2.2)]) rfl rfl rfl (wantB_t _) rfl (by decide) (fun hp hS => hS.sub (ts := [10]) rfl) (fun hp _ hw => Ob_c TB_YConf4 rfl) ?_; clear hok a; intro a hok
    refine gq_ob hok (p := (seqB p.1 p_2.1)) (v := .bool (p.2 == p_2.2)) (S' := [(36, .int .i64 p.2), (37, .int .i64 p_2.2)]) rfl rfl rfl (wantB_t _) rfl (by decide) (fun hp hS => ((hS.conv (t := 36) rfl (cond_t hp)).conv (t := 37) rfl (cond_t hp)).sub (ts := [36, 37]) rfl) (fun hp _ hw => Ob_c TB_YConf4 rfl) ?_; clear hok a; intro a hok
    refine q_ob hok (v := .bool ((seqB p.1 p_2.1) && (p.2 == p_2.2))) rfl rfl (by decide) rfl (fun _ hw => Ob_pick rfl rfl rfl rfl (pick_and _ _)) ?_; clear hok a; intro a hok
    refine q_runk TB_YConf4 hok 1 rfl rfl ?_; clear hok a; intro a hok
    refine gq_ob hok (p := ((seqB p.1 p_2.1) && (p.2 == p_2.2))) (v := .agg #[.int .i64 a0.epoch, v1_a0, .int .u64 a0.floor]) (S' := [(3, .pointer (some ⟨b1, 0, none⟩))]) rfl rfl rfl (wantB_t _) rfl (by decide) (fun hp hS => hS.sub (ts := [3]) rfl) (fun hp _ hw => Ob_loads TB_YConf4 rfl rfl rfl (((H.blw hw).bx 2 rfl).part 0 rfl)) ?_; clear hok a; intro a hok
    refine gq_call hok (p := ((seqB p.1 p_2.1) && (p.2 == p_2.2))) (v := .int .i64 c) (S' := [(41, .agg #[.int .i64 a0.epoch, v1_a0, .int .u64 a0.floor])]) (caps := #[]) fn_16_YConf4 rfl rfl rfl (wantB_t _) rfl (by decide) (fun hp hS => (hS.conv (t := 41) rfl (cond_t hp)).sub (ts := [41]) rfl) rfl rfl rfl rfl (fun hp _ hw => (have hq := c_conf_Check (gif_in hx4 hp) (((H.blw hw)).pick0 (js := [(3, true)]) rfl rfl); plainC hq)) ?_; clear hok a; intro a hok
    refine gq_ob hok (p := ((seqB p.1 p_2.1) && (p.2 == p_2.2))) (v := .agg #[.int .i64 a0.epoch, v1_a0, .int .u64 a0.floor]) (S' := [(3, .pointer (some ⟨b1, 0, none⟩))]) rfl rfl rfl (wantB_t _) rfl (by decide) (fun hp hS => hS.sub (ts := [3]) rfl) (fun hp _ hw => Ob_loads TB_YConf4 rfl rfl rfl (((H.blw hw).bx 2 rfl).part 0 rfl)) ?_; clear hok a; intro a hok
    refine gq_call hok (p := ((seqB p.1 p_2.1) && (p.2 == p_2.2))) (v := .int .i64 c_2) (S' := [(43, .agg #[.int .i64 a0.epoch, v1_a0, .int .u64 a0.floor])]) (caps := #[]) fn_7_YConf4 rfl rfl rfl (wantB_t _) rfl (by decide) (fun hp hS => (hS.conv (t := 43) rfl (cond_t hp)).sub (ts := [43]) rfl) rfl rfl rfl rfl (fun hp _ hw => (have hq := c_ref07_Check (gif_in hx5 hp) (((H.blw hw)).pick0 (js := [(3, true)]) rfl rfl); plainC hq)) ?_; clear hok a; intro a hok
    refine gq_ob hok (p := ((seqB p.1 p_2.1) && (p.2 == p_2.2))) (v := .bool (c == c_2)) (S' := [(42, .int .i64 c), (44, .int .i64 c_2)]) rfl rfl rfl (wantB_t _) rfl (by decide) (fun hp hS => ((hS.conv (t := 42) rfl (cond_t hp)).conv (t := 44) rfl (cond_t hp)).sub (ts := [42, 44]) rfl) (fun hp _ hw => Ob_c TB_YConf4 rfl) ?_; clear hok a; intro a hok
    refine q_ob hok (v := .bool (((seqB p.1 p_2.1) && (p.2 == p_2.2)) && (c == c_2))) rfl rfl (by decide) rfl (fun _ hw => Ob_pick rfl rfl rfl rfl (pick_and _ _)) ?_; clear hok a; intro a hok
    refine q_runk TB_YConf4 hok 1 rfl rfl ?_; clear hok a; intro a hok
    refine gq_ob hok (p := (((seqB p.1 p_2.1) && (p.2 == p_2.2)) && (c == c_2))) (v := .agg #[.int .i64 a0.epoch, v1_a0, .int .u64 a0.floor]) (S' := [(3, .pointer (some ⟨b1, 0, none⟩))]) rfl rfl rfl (wantB_t _) rfl (by decide) (fun hp hS => hS.sub (ts := [3]) rfl) (fun hp _ hw => Ob_loads TB_YConf4 rfl rfl rfl (((H.blw hw).bx 2 rfl).part 0 rfl)) ?_; clear hok a; intro a hok
    refine gq_ob hok (p := (((seqB p.1 p_2.1) && (p.2 == p_2.2)) && (c == c_2))) (v := .agg #[.int .i64 b.epoch, v2_b, .int .u64 b.floor]) (S' := [(4, .pointer (some ⟨b2, 0, none⟩))]) rfl rfl rfl (wantB_t _) rfl (by decide) (fun hp hS => hS.sub (ts := [4]) rfl) (fun hp _ hw => Ob_loads TB_YConf4 rfl rfl rfl (((H.blw hw).bx 1 rfl).part 0 rfl)) ?_; clear hok a; intro a hok
    refine gq_call hok (p := (((seqB p.1 p_2.1) && (p.2 == p_2.2)) && (c == c_2))) (v := .bool s0) (S' := [(48, .agg #[.int .i64 a0.epoch, v1_a0, .int .u64 a0.floor]), (49, .agg #[.int .i64 b.epoch, v2_b, .int .u64 b.floor])]) (caps := #[]) fn_17_YConf4 rfl rfl rfl (wantB_t _) rfl (by decide) (fun hp hS => ((hS.conv (t := 48) rfl (cond_t hp)).conv (t := 49) rfl (cond_t hp)).sub (ts := [48, 49]) rfl) rfl rfl rfl rfl (fun hp _ hw => (have hq := c_conf_Same (gif_in hx6 hp) (((H.blw hw)).pick0 (js := [(3, true), (4, true)]) rfl rfl); plainC hq)) ?_; clear hok a; intro a hok
    refine gq_ob hok (p := (((seqB p.1 p_2.1) && (p.2 == p_2.2)) && (c == c_2))) (v := .agg #[.int .i64 a0.epoch, v1_a0, .int .u64 a0.floor]) (S' := [(3, .pointer (some ⟨b1, 0, none⟩))]) rfl rfl rfl (wantB_t _) rfl (by decide) (fun hp hS => hS.sub (ts := [3]) rfl) (fun hp _ hw => Ob_loads TB_YConf4 rfl rfl rfl (((H.blw hw).bx 2 rfl).part 0 rfl)) ?_; clear hok a; intro a hok
    refine gq_ob hok (p := (((seqB p.1 p_2.1) && (p.2 == p_2.2)) && (c == c_2))) (v := .agg #[.int .i64 b.epoch, v2_b, .int .u64 b.floor]) (S' := [(4, .pointer (some ⟨b2, 0, none⟩))]) rfl rfl rfl (wantB_t _) rfl (by decide) (fun hp hS => hS.sub (ts := [4]) rfl) (fun hp _ hw => Ob_loads TB_YConf4 rfl rfl rfl (((H.blw hw).bx 1 rfl).part 0 rfl)) ?_; clear hok a; intro a hok
    refine gq_call hok (p := (((seqB p.1 p_2.1) && (p.2 == p_2.2)) && (c == c_2))) (v := .bool s0_2) (S' := [(51, .agg #[.int .i64 a0.epoch, v1_a0, .int .u64 a0.floor]), (52, .agg #[.int .i64 b.epoch, v2_b, .int .u64 b.floor])]) (caps := #[]) fn_18_YConf4 rfl rfl rfl (wantB_t _) rfl (by decide) (fun hp hS => ((hS.conv (t := 51) rfl (cond_t hp)).conv (t := 52) rfl (cond_t hp)).sub (ts := [51, 52]) rfl) rfl rfl rfl rfl (fun hp _ hw => (have hq := c_ref07_Same (gif_in hx7 hp) (((H.blw hw)).pick0 (js := [(3, true), (4, true)]) rfl rfl); plainC hq)) ?_; clear hok a; intro a hok
    refine gq_ob hok (p := (((seqB p.1 p_2.1) && (p.2 == p_2.2)) && (c == c_2))) (v := .bool (s0 == s0_2)) (S' := [(50, .bool s0), (53, .bool s0_2)]) rfl rfl rfl (wantB_t _) rfl (by decide) (fun hp hS => ((hS.conv (t := 50) rfl (cond_t hp)).conv (t := 53) rfl (cond_t hp)).sub (ts := [50, 53]) rfl) (fun hp _ hw => Ob_c TB_YConf4 rfl) ?_; clear hok a; intro a hok
    refine q_ob hok (v := .bool ((((seqB p.1 p_2.1) && (p.2 == p_2.2)) && (c == c_2)) && (s0 == s0_2))) rfl rfl (by decide) rfl (fun _ hw => Ob_pick rfl rfl rfl rfl (pick_and _ _)) ?_; clear hok a; intro a hok
    refine q_runk TB_YConf4 hok 1 rfl rfl ?_; clear hok a; intro a hok
    refine gq_ob hok (p := ((((seqB p.1 p_2.1) && (p.2 == p_2.2)) && (c == c_2)) && (s0 == s0_2))) (v := .agg #[.int .i64 a0.epoch, v1_a0, .int .u64 a0.floor]) (S' := [(3, .pointer (some ⟨b1, 0, none⟩))]) rfl rfl rfl (wantB_t _) rfl (by decide) (fun hp hS => hS.sub (ts := [3]) rfl) (fun hp _ hw => Ob_loads TB_YConf4 rfl rfl rfl (((H.blw hw).bx 2 rfl).part 0 rfl)) ?_; clear hok a; intro a hok
    refine gq_ob hok (p := ((((seqB p.1 p_2.1) && (p.2 == p_2.2)) && (c == c_2)) && (s0 == s0_2))) (v := .agg #[.int .i64 a0.epoch, v1_a0, .int .u64 a0.floor]) (S' := [(3, .pointer (some ⟨b1, 0, none⟩))]) rfl rfl rfl (wantB_t _) rfl (by decide) (fun hp hS => hS.sub (ts := [3]) rfl) (fun hp _ hw => Ob_loads TB_YConf4 rfl rfl rfl (((H.blw hw).bx 2 rfl).part 0 rfl)) ?_; clear hok a; intro a hok
    refine gq_call hok (p := ((((seqB p.1 p_2.1) && (p.2 == p_2.2)) && (c == c_2)) && (s0 == s0_2))) (v := .bool s0_3) (S' := [(57, .agg #[.int .i64 a0.epoch, v1_a0, .int .u64 a0.floor]), (58, .agg #[.int .i64 a0.epoch, v1_a0, .int .u64 a0.floor])]) (caps := #[]) fn_17_YConf4 rfl rfl rfl (wantB_t _) rfl (by decide) (fun hp hS => ((hS.conv (t := 57) rfl (cond_t hp)).conv (t := 58) rfl (cond_t hp)).sub (ts := [57, 58]) rfl) rfl rfl rfl rfl (fun hp _ hw => (have hq := c_conf_Same (gif_in hx8 hp) (((H.blw hw)).pick0 (js := [(3, true), (3, true)]) rfl rfl); plainC hq)) ?_; clear hok a; intro a hok
    refine q_ob hok (v := .bool (((((seqB p.1 p_2.1) && (p.2 == p_2.2)) && (c == c_2)) && (s0 == s0_2)) && s0_3)) rfl rfl (by decide) rfl (fun _ hw => Ob_pick rfl rfl rfl rfl (pick_and _ _)) ?_; clear hok a; intro a hok
    refine q_runk TB_YConf4 hok 1 rfl rfl ?_; clear hok a; intro a hok
    refine gq_ob hok (p := (((((seqB p.1 p_2.1) && (p.2 == p_2.2)) && (c == c_2)) && (s0 == s0_2)) && s0_3)) (v := .agg #[.int .i64 a0.epoch, v1_a0, .int .u64 a0.floor]) (S' := [(3, .pointer (some ⟨b1, 0, none⟩))]) rfl rfl rfl (wantB_t _) rfl (by decide) (fun hp hS => hS.sub (ts := [3]) rfl) (fun hp _ hw => Ob_loads TB_YConf4 rfl rfl rfl (((H.blw hw).bx 2 rfl).part 0 rfl)) ?_; clear hok a; intro a hok
    refine gq_ob hok (p := (((((seqB p.1 p_2.1) && (p.2 == p_2.2)) && (c == c_2)) && (s0 == s0_2)) && s0_3)) (v := .agg #[.int .i64 m.id, .int .i64 m.serial]) (S' := [(5, .pointer (some ⟨b3, 0, none⟩))]) rfl rfl rfl (wantB_t _) rfl (by decide) (fun hp hS => hS.sub (ts := [5]) rfl) (fun hp _ hw => Ob_loads TB_YConf4 rfl rfl rfl (((H.blw hw).bx 0 rfl).part 0 rfl)) ?_; clear hok a; intro a hok
    refine gq_call hok (p := (((((seqB p.1 p_2.1) && (p.2 == p_2.2)) && (c == c_2)) && (s0 == s0_2)) && s0_3)) (v := .int .i64 p_3) (S' := [(62, .agg #[.int .i64 a0.epoch, v1_a0, .int .u64 a0.floor]), (63, .agg #[.int .i64 m.id, .int .i64 m.serial])]) (caps := #[]) fn_11_YConf4 rfl rfl rfl (wantB_t _) rfl (by decide) (fun hp hS => ((hS.conv (t := 62) rfl (cond_t hp)).conv (t := 63) rfl (cond_t hp)).sub (ts := [62, 63]) rfl) rfl rfl rfl rfl (fun hp _ hw => (have hq := c_conf_Place (gif_in hx9 hp) (((H.blw hw)).pick0 (js := [(3, true)]) rfl rfl); plainC hq)) ?_; clear hok a; intro a hok
    refine gq_ob hok (p := (((((seqB p.1 p_2.1) && (p.2 == p_2.2)) && (c == c_2)) && (s0 == s0_2)) && s0_3)) (v := .agg #[.int .i64 a0.epoch, v1_a0, .int .u64 a0.floor]) (S' := [(3, .pointer (some ⟨b1, 0, none⟩))]) rfl rfl rfl (wantB_t _) rfl (by decide) (fun hp hS => hS.sub (ts := [3]) rfl) (fun hp _ hw => Ob_loads TB_YConf4 rfl rfl rfl (((H.blw hw).bx 2 rfl).part 0 rfl)) ?_; clear hok a; intro a hok
    refine gq_ob hok (p := (((((seqB p.1 p_2.1) && (p.2 == p_2.2)) && (c == c_2)) && (s0 == s0_2)) && s0_3)) (v := .agg #[.int .i64 m.id, .int .i64 m.serial]) (S' := [(5, .pointer (some ⟨b3, 0, none⟩))]) rfl rfl rfl (wantB_t _) rfl (by decide) (fun hp hS => hS.sub (ts := [5]) rfl) (fun hp _ hw => Ob_loads TB_YConf4 rfl rfl rfl (((H.blw hw).bx 0 rfl).part 0 rfl)) ?_; clear hok a; intro a hok
    refine gq_call hok (p := (((((seqB p.1 p_2.1) && (p.2 == p_2.2)) && (c == c_2)) && (s0 == s0_2)) && s0_3)) (v := .int .i64 p_4) (S' := [(65, .agg #[.int .i64 a0.epoch, v1_a0, .int .u64 a0.floor]), (66, .agg #[.int .i64 m.id, .int .i64 m.serial])]) (caps := #[]) fn_19_YConf4 rfl rfl rfl (wantB_t _) rfl (by decide) (fun hp hS => ((hS.conv (t := 65) rfl (cond_t hp)).conv (t := 66) rfl (cond_t hp)).sub (ts := [65, 66]) rfl) rfl rfl rfl rfl (fun hp _ hw => (have hq := c_ref07_Place (gif_in hx10 hp) (((H.blw hw)).pick0 (js := [(3, true)]) rfl rfl); plainC hq)) ?_; clear hok a; intro a hok
    refine gq_ob hok (p := (((((seqB p.1 p_2.1) && (p.2 == p_2.2)) && (c == c_2)) && (s0 == s0_2)) && s0_3)) (v := .bool (p_3 == p_4)) (S' := [(64, .int .i64 p_3), (67, .int .i64 p_4)]) rfl rfl rfl (wantB_t _) rfl (by decide) (fun hp hS => ((hS.conv (t := 64) rfl (cond_t hp)).conv (t := 67) rfl (cond_t hp)).sub (ts := [64, 67]) rfl) (fun hp _ hw => Ob_c TB_YConf4 rfl) ?_; clear hok a; intro a hok
    refine q_ob hok (v := .bool ((((((seqB p.1 p_2.1) && (p.2 == p_2.2)) && (c == c_2)) && (s0 == s0_2)) && s0_3) && (p_3 == p_4))) rfl rfl (by decide) rfl (fun _ hw => Ob_pick rfl rfl rfl rfl (pick_and _ _)) ?_; clear hok a; intro a hok
    refine q_runk TB_YConf4 hok 1 rfl rfl ?_; clear hok a; intro a hok
    refine gq_ob hok (p := ((((((seqB p.1 p_2.1) && (p.2 == p_2.2)) && (c == c_2)) && (s0 == s0_2)) && s0_3) && (p_3 == p_4))) (v := .agg #[.int .i64 a0.epoch, v1_a0, .int .u64 a0.floor]) (S' := [(3, .pointer (some ⟨b1, 0, none⟩))]) rfl rfl rfl (wantB_t _) rfl (by decide) (fun hp hS => hS.sub (ts := [3]) rfl) (fun hp _ hw => Ob_loads TB_YConf4 rfl rfl rfl (((H.blw hw).bx 2 rfl).part 0 rfl)) ?_; clear hok a; intro a hok
    refine gq_ob hok (p := ((((((seqB p.1 p_2.1) && (p.2 == p_2.2)) && (c == c_2)) && (s0 == s0_2)) && s0_3) && (p_3 == p_4))) (v := .agg #[.int .i64 m.id, .int .i64 m.serial]) (S' := [(5, .pointer (some ⟨b3, 0, none⟩))]) rfl rfl rfl (wantB_t _) rfl (by decide) (fun hp hS => hS.sub (ts := [5]) rfl) (fun hp _ hw => Ob_loads TB_YConf4 rfl rfl rfl (((H.blw hw).bx 0 rfl).part 0 rfl)) ?_; clear hok a; intro a hok
    refine gq_call hok (p := ((((((seqB p.1 p_2.1) && (p.2 == p_2.2)) && (c == c_2)) && (s0 == s0_2)) && s0_3) && (p_3 == p_4))) (v := .int .i64 a0_3) (S' := [(71, .agg #[.int .i64 a0.epoch, v1_a0, .int .u64 a0.floor]), (72, .agg #[.int .i64 m.id, .int .i64 m.serial])]) (caps := #[]) fn_12_YConf4 rfl rfl rfl (wantB_t _) rfl (by decide) (fun hp hS => ((hS.conv (t := 71) rfl (cond_t hp)).conv (t := 72) rfl (cond_t hp)).sub (ts := [71, 72]) rfl) rfl rfl rfl rfl (fun hp _ hw => (have hq := c_conf_Ahead (gif_in hx11 hp) (((H.blw hw)).pick0 (js := [(3, true)]) rfl rfl); plainC hq)) ?_; clear hok a; intro a hok
    refine gq_ob hok (p := ((((((seqB p.1 p_2.1) && (p.2 == p_2.2)) && (c == c_2)) && (s0 == s0_2)) && s0_3) && (p_3 == p_4))) (v := .agg #[.int .i64 a0.epoch, v1_a0, .int .u64 a0.floor]) (S' := [(3, .pointer (some ⟨b1, 0, none⟩))]) rfl rfl rfl (wantB_t _) rfl (by decide) (fun hp hS => hS.sub (ts := [3]) rfl) (fun hp _ hw => Ob_loads TB_YConf4 rfl rfl rfl (((H.blw hw).bx 2 rfl).part 0 rfl)) ?_; clear hok a; intro a hok
    refine gq_ob hok (p := ((((((seqB p.1 p_2.1) && (p.2 == p_2.2)) && (c == c_2)) && (s0 == s0_2)) && s0_3) && (p_3 == p_4))) (v := .agg #[.int .i64 m.id, .int .i64 m.serial]) (S' := [(5, .pointer (some ⟨b3, 0, none⟩))]) rfl rfl rfl (wantB_t _) rfl (by decide) (fun hp hS => hS.sub (ts := [5]) rfl) (fun hp _ hw => Ob_loads TB_YConf4 rfl rfl rfl (((H.blw hw).bx 0 rfl).part 0 rfl)) ?_; clear hok a; intro a hok
    refine gq_call hok (p := ((((((seqB p.1 p_2.1) && (p.2 == p_2.2)) && (c == c_2)) && (s0 == s0_2)) && s0_3) && (p_3 == p_4))) (v := .int .i64 a0_4) (S' := [(74, .agg #[.int .i64 a0.epoch, v1_a0, .int .u64 a0.floor]), (75, .agg #[.int .i64 m.id, .int .i64 m.serial])]) (caps := #[]) fn_20_YConf4 rfl rfl rfl (wantB_t _) rfl (by decide) (fun hp hS => ((hS.conv (t := 74) rfl (cond_t hp)).conv (t := 75) rfl (cond_t hp)).sub (ts := [74, 75]) rfl) rfl rfl rfl rfl (fun hp _ hw => (have hq := c_ref07_Ahead (gif_in hx12 hp) (((H.blw hw)).pick0 (js := [(3, true)]) rfl rfl); plainC hq)) ?_; clear hok a; intro a hok
    refine gq_ob hok (p := ((((((seqB p.1 p_2.1) && (p.2 == p_2.2)) && (c == c_2)) && (s0 == s0_2)) && s0_3) && (p_3 == p_4))) (v := .bool (a0_3 == a0_4)) (S' := [(73, .int .i64 a0_3), (76, .int .i64 a0_4)]) rfl rfl rfl (wantB_t _) rfl (by decide) (fun hp hS => ((hS.conv (t := 73) rfl (cond_t hp)).conv (t := 76) rfl (cond_t hp)).sub (ts := [73, 76]) rfl) (fun hp _ hw => Ob_c TB_YConf4 rfl) ?_; clear hok a; intro a hok
    refine q_ob hok (v := .bool (((((((seqB p.1 p_2.1) && (p.2 == p_2.2)) && (c == c_2)) && (s0 == s0_2)) && s0_3) && (p_3 == p_4)) && (a0_3 == a0_4))) rfl rfl (by decide) rfl (fun _ hw => Ob_pick rfl rfl rfl rfl (pick_and _ _)) ?_; clear hok a; intro a hok
    refine q_runk TB_YConf4 hok 1 rfl rfl ?_; clear hok a; intro a hok
    refine gq_ob hok (p := (((((((seqB p.1 p_2.1) && (p.2 == p_2.2)) && (c == c_2)) && (s0 == s0_2)) && s0_3) && (p_3 == p_4)) && (a0_3 == a0_4))) (v := .agg #[.int .i64 a0.epoch, v1_a0, .int .u64 a0.floor]) (S' := [(3, .pointer (some ⟨b1, 0, none⟩))]) rfl rfl rfl (wantB_t _) rfl (by decide) (fun hp hS => hS.sub (ts := [3]) rfl) (fun hp _ hw => Ob_loads TB_YConf4 rfl rfl rfl (((H.blw hw).bx 2 rfl).part 0 rfl)) ?_; clear hok a; intro a hok
    refine gq_ob hok (p := (((((((seqB p.1 p_2.1) && (p.2 == p_2.2)) && (c == c_2)) && (s0 == s0_2)) && s0_3) && (p_3 == p_4)) && (a0_3 == a0_4))) (v := .agg #[.int .i64 m.id, .int .i64 m.serial]) (S' := [(5, .pointer (some ⟨b3, 0, none⟩))]) rfl rfl rfl (wantB_t _) rfl (by decide) (fun hp hS => hS.sub (ts := [5]) rfl) (fun hp _ hw => Ob_loads TB_YConf4 rfl rfl rfl (((H.blw hw).bx 0 rfl).part 0 rfl)) ?_; clear hok a; intro a hok
    refine gq_call hok (p := (((((((seqB p.1 p_2.1) && (p.2 == p_2.2)) && (c == c_2)) && (s0 == s0_2)) && s0_3) && (p_3 == p_4)) && (a0_3 == a0_4))) (v := .int .i64 b_2) (S' := [(80, .agg #[.int .i64 a0.epoch, v1_a0, .int .u64 a0.floor]), (81, .agg #[.int .i64 m.id, .int .i64 m.serial])]) (caps := #[]) fn_10_YConf4 rfl rfl rfl (wantB_t _) rfl (by decide) (fun hp hS => ((hS.conv (t := 80) rfl (cond_t hp)).conv (t := 81) rfl (cond_t hp)).sub (ts := [80, 81]) rfl) rfl rfl rfl rfl (fun hp _ hw => (have hq := c_conf_Behind (gif_in hx13 hp) (((H.blw hw)).pick0 (js := [(3, true)]) rfl rfl); plainC hq)) ?_; clear hok a; intro a hok
    refine gq_ob hok (p := (((((((seqB p.1 p_2.1) && (p.2 == p_2.2)) && (c == c_2)) && (s0 == s0_2)) && s0_3) && (p_3 == p_4)) && (a0_3 == a0_4))) (v := .agg #[.int .i64 a0.epoch, v1_a0, .int .u64 a0.floor]) (S' := [(3, .pointer (some ⟨b1, 0, none⟩))]) rfl rfl rfl (wantB_t _) rfl (by decide) (fun hp hS => hS.sub (ts := [3]) rfl) (fun hp _ hw => Ob_loads TB_YConf4 rfl rfl rfl (((H.blw hw).bx 2 rfl).part 0 rfl)) ?_; clear hok a; intro a hok
    refine gq_ob hok (p := (((((((seqB p.1 p_2.1) && (p.2 == p_2.2)) && (c == c_2)) && (s0 == s0_2)) && s0_3) && (p_3 == p_4)) && (a0_3 == a0_4))) (v := .agg #[.int .i64 m.id, .int .i64 m.serial]) (S' := [(5, .pointer (some ⟨b3, 0, none⟩))]) rfl rfl rfl (wantB_t _) rfl (by decide) (fun hp hS => hS.sub (ts := [5]) rfl) (fun hp _ hw => Ob_loads TB_YConf4 rfl rfl rfl (((H.blw hw).bx 0 rfl).part 0 rfl)) ?_; clear hok a; intro a hok
    refine gq_call hok (p := (((((((seqB p.1 p_2.1) && (p.2 == p_2.2)) && (c == c_2)) && (s0 == s0_2)) && s0_3) && (p_3 == p_4)) && (a0_3 == a0_4))) (v := .int .i64 b_3) (S' := [(83, .agg #[.int .i64 a0.epoch, v1_a0, .int .u64 a0.floor]), (84, .agg #[.int .i64 m.id, .int .i64 m.serial])]) (caps := #[]) fn_21_YConf4 rfl rfl rfl (wantB_t _) rfl (by decide) (fun hp hS => ((hS.conv (t := 83) rfl (cond_t hp)).conv (t := 84) rfl (cond_t hp)).sub (ts := [83, 84]) rfl) rfl rfl rfl rfl (fun hp _ hw => (have hq := c_ref07_Behind (gif_in hx14 hp) (((H.blw hw)).pick0 (js := [(3, true)]) rfl rfl); plainC hq)) ?_; clear hok a; intro a hok
    refine gq_ob hok (p := (((((((seqB p.1 p_2.1) && (p.2 == p_2.2)) && (c == c_2)) && (s0 == s0_2)) && s0_3) && (p_3 == p_4)) && (a0_3 == a0_4))) (v := .bool (b_2 == b_3)) (S' := [(82, .int .i64 b_2), (85, .int .i64 b_3)]) rfl rfl rfl (wantB_t _) rfl (by decide) (fun hp hS => ((hS.conv (t := 82) rfl (cond_t hp)).conv (t := 85) rfl (cond_t hp)).sub (ts := [82, 85]) rfl) (fun hp _ hw => Ob_c TB_YConf4 rfl) ?_; clear hok a; intro a hok
    refine q_ob hok (v := .bool ((((((((seqB p.1 p_2.1) && (p.2 == p_2.2)) && (c == c_2)) && (s0 == s0_2)) && s0_3) && (p_3 == p_4)) && (a0_3 == a0_4)) && (b_2 == b_3))) rfl rfl (by decide) rfl (fun _ hw => Ob_pick rfl rfl rfl rfl (pick_and _ _)) ?_; clear hok a; intro a hok
    refine q_runk TB_YConf4 hok 1 rfl rfl ?_; clear hok a; intro a hok
    refine gq_ob hok (p := ((((((((seqB p.1 p_2.1) && (p.2 == p_2.2)) && (c == c_2)) && (s0 == s0_2)) && s0_3) && (p_3 == p_4)) && (a0_3 == a0_4)) && (b_2 == b_3))) (v := .agg #[.int .i64 a0.epoch, v1_a0, .int .u64 a0.floor]) (S' := [(3, .pointer (some ⟨b1, 0, none⟩))]) rfl rfl rfl (wantB_t _) rfl (by decide) (fun hp hS => hS.sub (ts := [3]) rfl) (fun hp _ hw => Ob_loads TB_YConf4 rfl rfl rfl (((H.blw hw).bx 2 rfl).part 0 rfl)) ?_; clear hok a; intro a hok
    refine gq_call hok (p := ((((((((seqB p.1 p_2.1) && (p.2 == p_2.2)) && (c == c_2)) && (s0 == s0_2)) && s0_3) && (p_3 == p_4)) && (a0_3 == a0_4)) && (b_2 == b_3))) (v := .int .i64 h) (S' := [(89, .agg #[.int .i64 a0.epoch, v1_a0, .int .u64 a0.floor])]) (caps := #[]) fn_9_YConf4 rfl rfl rfl (wantB_t _) rfl (by decide) (fun hp hS => (hS.conv (t := 89) rfl (cond_t hp)).sub (ts := [89]) rfl) rfl rfl rfl rfl (fun hp _ hw => (have hq := c_conf_Head (gif_in hx15 hp) (((H.blw hw)).pick0 (js := [(3, true)]) rfl rfl); plainC hq)) ?_; clear hok a; intro a hok
    refine gq_ob hok (p := ((((((((seqB p.1 p_2.1) && (p.2 == p_2.2)) && (c == c_2)) && (s0 == s0_2)) && s0_3) && (p_3 == p_4)) && (a0_3 == a0_4)) && (b_2 == b_3))) (v := .agg #[.int .i64 a0.epoch, v1_a0, .int .u64 a0.floor]) (S' := [(3, .pointer (some ⟨b1, 0, none⟩))]) rfl rfl rfl (wantB_t _) rfl (by decide) (fun hp hS => hS.sub (ts := [3]) rfl) (fun hp _ hw => Ob_loads TB_YConf4 rfl rfl rfl (((H.blw hw).bx 2 rfl).part 0 rfl)) ?_; clear hok a; intro a hok
    refine gq_call hok (p := ((((((((seqB p.1 p_2.1) && (p.2 == p_2.2)) && (c == c_2)) && (s0 == s0_2)) && s0_3) && (p_3 == p_4)) && (a0_3 == a0_4)) && (b_2 == b_3))) (v := .int .i64 h_2) (S' := [(91, .agg #[.int .i64 a0.epoch, v1_a0, .int .u64 a0.floor])]) (caps := #[]) fn_22_YConf4 rfl rfl rfl (wantB_t _) rfl (by decide) (fun hp hS => (hS.conv (t := 91) rfl (cond_t hp)).sub (ts := [91]) rfl) rfl rfl rfl rfl (fun hp _ hw => (have hq := c_ref07_Head (gif_in hx16 hp) (((H.blw hw)).pick0 (js := [(3, true)]) rfl rfl); plainC hq)) ?_; clear hok a; intro a hok
    refine gq_ob hok (p := ((((((((seqB p.1 p_2.1) && (p.2 == p_2.2)) && (c == c_2)) && (s0 == s0_2)) && s0_3) && (p_3 == p_4)) && (a0_3 == a0_4)) && (b_2 == b_3))) (v := .bool (h == h_2)) (S' := [(90, .int .i64 h), (92, .int .i64 h_2)]) rfl rfl rfl (wantB_t _) rfl (by decide) (fun hp hS => ((hS.conv (t := 90) rfl (cond_t hp)).conv (t := 92) rfl (cond_t hp)).sub (ts := [90, 92]) rfl) (fun hp _ hw => Ob_c TB_YConf4 rfl) ?_; clear hok a; intro a hok
    refine q_ob hok (v := .bool (((((((((seqB p.1 p_2.1) && (p.2 == p_2.2)) && (c == c_2)) && (s0 == s0_2)) && s0_3) && (p_3 == p_4)) && (a0_3 == a0_4)) && (b_2 == b_3)) && (h == h_2))) rfl rfl (by decide) rfl (fun _ hw => Ob_pick rfl rfl rfl rfl (pick_and _ _)) ?_; clear hok a; intro a hok
    refine q_runk TB_YConf4 hok 1 rfl rfl ?_; clear hok a; intro a hok
    refine gq_ob hok (p := (((((((((seqB p.1 p_2.1) && (p.2 == p_2.2)) && (c == c_2)) && (s0 == s0_2)) && s0_3) && (p_3 == p_4)) && (a0_3 == a0_4)) && (b_2 == b_3)) && (h == h_2))) (v := .agg #[.int .i64 a0.epoch, v1_a0, .int .u64 a0.floor]) (S' := [(3, .pointer (some ⟨b1, 0, none⟩))]) rfl rfl rfl (wantB_t _) rfl (by decide) (fun hp hS => hS.sub (ts := [3]) rfl) (fun hp _ hw => Ob_loads TB_YConf4 rfl rfl rfl (((H.blw hw).bx 2 rfl).part 0 rfl)) ?_; clear hok a; intro a hok
    refine gq_call hok (p := (((((((((seqB p.1 p_2.1) && (p.2 == p_2.2)) && (c == c_2)) && (s0 == s0_2)) && s0_3) && (p_3 == p_4)) && (a0_3 == a0_4)) && (b_2 == b_3)) && (h == h_2))) (v := .int .i64 t) (S' := [(96, .agg #[.int .i64 a0.epoch, v1_a0, .int .u64 a0.floor])]) (caps := #[]) fn_13_YConf4 rfl rfl rfl (wantB_t _) rfl (by decide) (fun hp hS => (hS.conv (t := 96) rfl (cond_t hp)).sub (ts := [96]) rfl) rfl rfl rfl rfl (fun hp _ hw => (have hq := c_conf_Tail (gif_in hx17 hp) (((H.blw hw)).pick0 (js := [(3, true)]) rfl rfl); plainC hq)) ?_; clear hok a; intro a hok
    refine gq_ob hok (p := (((((((((seqB p.1 p_2.1) && (p.2 == p_2.2)) && (c == c_2)) && (s0 == s0_2)) && s0_3) && (p_3 == p_4)) && (a0_3 == a0_4)) && (b_2 == b_3)) && (h == h_2))) (v := .agg #[.int .i64 a0.epoch, v1_a0, .int .u64 a0.floor]) (S' := [(3, .pointer (some ⟨b1, 0, none⟩))]) rfl rfl rfl (wantB_t _) rfl (by decide) (fun hp hS => hS.sub (ts := [3]) rfl) (fun hp _ hw => Ob_loads TB_YConf4 rfl rfl rfl (((H.blw hw).bx 2 rfl).part 0 rfl)) ?_; clear hok a; intro a hok
    refine gq_call hok (p := (((((((((seqB p.1 p_2.1) && (p.2 == p_2.2)) && (c == c_2)) && (s0 == s0_2)) && s0_3) && (p_3 == p_4)) && (a0_3 == a0_4)) && (b_2 == b_3)) && (h == h_2))) (v := .int .i64 t_2) (S' := [(98, .agg #[.int .i64 a0.epoch, v1_a0, .int .u64 a0.floor])]) (caps := #[]) fn_23_YConf4 rfl rfl rfl (wantB_t _) rfl (by decide) (fun hp hS => (hS.conv (t := 98) rfl (cond_t hp)).sub (ts := [98]) rfl) rfl rfl rfl rfl (fun hp _ hw => (have hq := c_ref07_Tail (gif_in hx18 hp) (((H.blw hw)).pick0 (js := [(3, true)]) rfl rfl); plainC hq)) ?_; clear hok a; intro a hok
    refine gq_ob hok (p := (((((((((seqB p.1 p_2.1) && (p.2 == p_2.2)) && (c == c_2)) && (s0 == s0_2)) && s0_3) && (p_3 == p_4)) && (a0_3 == a0_4)) && (b_2 == b_3)) && (h == h_2))) (v := .bool (t == t_2)) (S' := [(97, .int .i64 t), (99, .int .i64 t_2)]) rfl rfl rfl (wantB_t _) rfl (by decide) (fun hp hS => ((hS.conv (t := 97) rfl (cond_t hp)).conv (t := 99) rfl (cond_t hp)).sub (ts := [97, 99]) rfl) (fun hp _ hw => Ob_c TB_YConf4 rfl) ?_; clear hok a; intro a hok
    refine q_ob hok (v := .bool ((((((((((seqB p.1 p_2.1) && (p.2 == p_2.2)) && (c == c_2)) && (s0 == s0_2)) && s0_3) && (p_3 == p_4)) && (a0_3 == a0_4)) && (b_2 == b_3)) && (h == h_2)) && (t == t_2))) rfl rfl (by decide) rfl (fun _ hw => Ob_pick rfl rfl rfl rfl (pick_and _ _)) ?_; clear hok a; intro a hok
    refine q_runk TB_YConf4 hok 1 rfl rfl ?_; clear hok a; intro a hok
    refine gq_call hok (p := ((((((((((seqB p.1 p_2.1) && (p.2 == p_2.2)) && (c == c_2)) && (s0 == s0_2)) && s0_3) && (p_3 == p_4)) && (a0_3 == a0_4)) && (b_2 == b_3)) && (h == h_2)) && (t == t_2))) (v := .bool a0_5) (S' := []) (caps := #[]) fn_8_YConf4 rfl rfl rfl (wantB_t _) rfl (by decide) (fun hp hS => hS.sub (ts := []) rfl) rfl rfl rfl rfl (fun hp _ hw => (have hq := c_law07_awake (gif_in hx19 hp) (((H.blw hw)).pick0 (js := []) rfl rfl); plainC hq)) ?_; clear hok a; intro a hok
    refine q_ob hok (v := .bool (((((((((((seqB p.1 p_2.1) && (p.2 == p_2.2)) && (c == c_2)) && (s0 == s0_2)) && s0_3) && (p_3 == p_4)) && (a0_3 == a0_4)) && (b_2 == b_3)) && (h == h_2)) && (t == t_2)) && a0_5)) rfl rfl (by decide) rfl (fun _ hw => Ob_pick rfl rfl rfl rfl (pick_and _ _)) ?_; clear hok a; intro a hok
    refine q_runk TB_YConf4 hok 1 rfl rfl ?_; clear hok a; intro a hok
    refine q_end hok [6] rfl ?_; clear hok; intro w7 hb hok
    replace H : Hf I D w I3 w7 [BxC b3 29 [.int .i64 m.id, .int .i64 m.serial], BxC b2 25 [.int .i64 b.epoch, v2_b, .int .u64 b.floor], BxC b1 25 [.int .i64 a0.epoch, v1_a0, .int .u64 a0.floor], SlC NEMember v1_a0 a0.members, SlC NEMember v2_b b.members] := H.blw hb
    clear hb
    refine p_then ?_
    refine wp_ret ?_
    obtain rfl := some_in hF
    exact f_ret hok (run_results1 rfl hok rfl) ⟨rfl, I3, (H.sub [] rfl).eq rfl⟩

end Go.Proofs.Ytnkieaolhbmfpaa
