/- Configurations: the laws. -/
import Derived.Test.YtnkieaolhbmfpaaYConf3
namespace Go.Proofs.Ytnkieaolhbmfpaa
open Go.RowKit
def TB_YConf4L : TabL := ⟨[(25601, 1), (29696, 0)], [9], [4], [(22, (29, 2))], [(3, (1, false)), (22, (1, false)), (25, (3, true)), (29, (2, true))]⟩

def TB_YConf4 : Tab Try.prog := ⟨TB_YConf4L, by kernel_rfl⟩

theorem fn_7_YConf4 : IsFn Try.prog 7 := ⟨_, Try.func7, by kernel_rfl, by kernel_rfl⟩

theorem fn_8_YConf4 : IsFn Try.prog 8 := ⟨_, Try.func8, by kernel_rfl, by kernel_rfl⟩

theorem fn_9_YConf4 : IsFn Try.prog 9 := ⟨_, Try.func9, by kernel_rfl, by kernel_rfl⟩

theorem fn_10_YConf4 : IsFn Try.prog 10 := ⟨_, Try.func10, by kernel_rfl, by kernel_rfl⟩

theorem fn_11_YConf4 : IsFn Try.prog 11 := ⟨_, Try.func11, by kernel_rfl, by kernel_rfl⟩

theorem fn_12_YConf4 : IsFn Try.prog 12 := ⟨_, Try.func12, by kernel_rfl, by kernel_rfl⟩

theorem fn_13_YConf4 : IsFn Try.prog 13 := ⟨_, Try.func13, by kernel_rfl, by kernel_rfl⟩

def F_law07_ConfChain_l1 (c : EConf) (rc : (Int × Int) → Option Bool) (sg : Int × Int) : Option Bool := match sg with | (at_, i) => if (decide (i < (c.members.length : Int))) = true then (chk ((0 : Int) ≤ i ∧ i < (c.members.length : Int)) ((F_conf_Behind c (c.members.getD (i).toNat default)).bind fun b => ((gif (!(((c.members.getD (i).toNat default).id) != at_)) (F_conf_Place c (c.members.getD (i).toNat default)) default).bind fun p => (if ((((c.members.getD (i).toNat default).id) != at_) || (p != i)) = true then (some false) else (chk (inI (i + 1)) (chk ((decide (i + 1 < (c.members.length : Int))) = true → inI (i + 1)) (chk ((decide (i + 1 < (c.members.length : Int))) = true → (0 : Int) ≤ i + 1 ∧ i + 1 < (c.members.length : Int)) ((gif (decide (i + 1 < (c.members.length : Int))) (F_conf_Ahead c ({ id := (c.members.getD (i + 1).toNat default).id, serial := (c.members.getD (i + 1).toNat default).serial } : EMember)) default).bind fun a0_2 => (if ((decide (i + 1 < (c.members.length : Int))) && (a0_2 != ((c.members.getD (i).toNat default).id))) = true then (some false) else (if (decide (b < 0)) = true then (chk (inI ((c.members.length : Int) - 1)) ((gif (i == ((c.members.length : Int) - 1)) (F_conf_Tail c) default).bind fun t => ((gif ((i == ((c.members.length : Int) - 1)) && (t == ((c.members.getD (i).toNat default).id))) (F_law07_awake) default).bind fun a0_3 => (some (((i == ((c.members.length : Int) - 1)) && (t == ((c.members.getD (i).toNat default).id))) && a0_3))))) else (chk (inI (i + 1)) (rc (b, i + 1))))))))))))) else (some false)

def F_law07_ConfChain (c : EConf) : Option Bool := (F_ref07_Check c).bind fun c_2 => (if (c_2 != 0) = true then ((F_law07_awake).bind fun a0 => (some a0)) else ((F_conf_Head c).bind fun h => (iter (F_law07_ConfChain_l1 c) FU (h, 0))))

set_option maxHeartbeats 1000000 in
theorem c_law07_ConfChain {I D : Dm} {c : EConf} {v1_c : Value} {w : World} {rr : Bool} (hF : F_law07_ConfChain c = some rr) (H : St I D w [SlC NEMember v1_c c.members]) :
    Calls Try.prog 3 #[.agg #[.int .i64 c.epoch, v1_c, .int .u64 c.floor]] w (Ret fun vv w' => vv = .bool rr ∧ ∃ I', Hf I D w I' w' []) := by
  replace H := H.hf
  unfold F_law07_ConfChain at hF
  refine f_enter 77 Try.func3 rfl rfl (Nat.le_of_ble_eq_true rfl) fun a hok => ?_
  replace hok := hok.sub (ts := [0]) rfl
  refine wp_seq ?_
  refine f_region hok ?_; clear hok; intro hok
  refine h_boxv hok H (cl := [.int .i64 c.epoch, v1_c, .int .u64 c.floor]) rfl rfl rfl (by decide) rfl rfl rfl ?_; clear hok a H; intro a w1 b1 H hok
  refine s_runk TB_YConf4 hok 1 rfl rfl ?_; clear hok a; intro a hok
  refine s_end hok [1, 2] rfl ?_; clear hok; intro hok
  refine p_then ?_
  refine wp_seq ?_
  refine wp_seq ?_
  obtain ⟨c_2, hx1, hF⟩ := bnd_in hF
  refine f_region hok ?_; clear hok; intro hok
  refine s_ob hok (v := .agg #[.int .i64 c.epoch, v1_c, .int .u64 c.floor]) rfl rfl (by decide) rfl (Ob_loads TB_YConf4 rfl rfl rfl ((H.bx 0 rfl).part 0 rfl)) ?_; clear hok a; intro a hok
  refine h_call hok H (js := [(1, true)]) rfl (caps := #[]) fn_7_YConf4 rfl rfl rfl rfl rfl (by decide) rfl rfl (fun D1 hS => have hq := c_ref07_Check hx1 hS; hq) ?_; clear hok a; intro vv a w2 D2 hr hF2 hok
  obtain ⟨rfl, I1, K⟩ := hr
  have H : Hf I D w I1 w2 [BxC b1 25 [.int .i64 c.epoch, v1_c, .int .u64 c.floor], SlC NEMember v1_c c.members] := hF2 K
  clear hF2 K
  refine s_runk TB_YConf4 hok 1 rfl rfl ?_; clear hok a; intro a hok
  refine s_end hok [1, 2, 9] rfl ?_; clear hok; intro hok
  refine p_then ?_
  refine f_cond hok rfl (fun hc1 => ?_) (fun hc1 => ?_)
  · replace hF := ite_t hc1 hF
    refine wp_seq ?_
    obtain ⟨a0, hx2, hF⟩ := bnd_in hF
    refine f_region hok ?_; clear hok; intro hok
    refine h_call hok H (js := []) rfl (caps := #[]) fn_8_YConf4 rfl rfl rfl rfl rfl (by decide) rfl rfl (fun D1 hS => have hq := c_law07_awake hx2 hS; hq) ?_; clear hok a; intro vv a w3 D2 hr hF2 hok
    obtain ⟨rfl, I2, K⟩ := hr
    have H : Hf I D w I2 w3 [BxC b1 25 [.int .i64 c.epoch, v1_c, .int .u64 c.floor], SlC NEMember v1_c c.members] := hF2 K
    clear hF2 K
    refine s_runk TB_YConf4 hok 1 rfl rfl ?_; clear hok a; intro a hok
    refine s_end hok [1, 2] rfl ?_; clear hok; intro hok
    refine p_then ?_
    refine wp_ret ?_
    refine p_then_r ?_
    obtain rfl := some_in hF
    exact f_ret hok (run_results1 rfl hok rfl) ⟨rfl, I2, (H.sub [] rfl).eq rfl⟩
  · replace hF := ite_f hc1 hF
    refine wp_skip ?_
    refine p_then ?_
    refine wp_seq ?_
    obtain ⟨h, hx3, hF⟩ := bnd_in hF
    refine f_region hok ?_; clear hok; intro hok
    refine s_ob hok (v := .agg #[.int .i64 c.epoch, v1_c, .int .u64 c.floor]) rfl rfl (by decide) rfl (Ob_loads TB_YConf4 rfl rfl rfl ((H.bx 0 rfl).part 0 rfl)) ?_; clear hok a; intro a hok
    refine h_call hok H (js := [(1, true)]) rfl (caps := #[]) fn_9_YConf4 rfl rfl rfl rfl rfl (by decide) rfl rfl (fun D1 hS => have hq := c_conf_Head hx3 hS; hq) ?_; clear hok a; intro vv a w4 D2 hr hF2 hok
    obtain ⟨rfl, I3, K⟩ := hr
    have H : Hf I D w I3 w4 [BxC b1 25 [.int .i64 c.epoch, v1_c, .int .u64 c.floor], SlC NEMember v1_c c.members] := hF2 K
    clear hF2 K
    refine s_runk TB_YConf4 hok 1 rfl rfl ?_; clear hok a; intro a hok
    refine s_end hok [1, 2, 3] rfl ?_; clear hok; intro hok
    refine p_then ?_
    refine wp_seq ?_
    refine wp_seq ?_
    refine f_region hok ?_; clear hok; intro hok
    refine s_runk TB_YConf4 hok 1 rfl rfl ?_; clear hok a; intro a hok
    refine s_end hok [1, 2, 3, 4] rfl ?_; clear hok; intro hok
    refine p_then ?_
    refine wp_block ?_
    refine f_iter hF (fun sg a' w' => match sg with | (at_, i) => Sl 77 [(1, .pointer (some ⟨b1, 0, none⟩)), (2, .bool false), (3, .int .i64 at_), (4, .int .i64 i)] a' ∧ ∃ I2, Hf I D w I2 w' [BxC b1 25 [.int .i64 c.epoch, v1_c, .int .u64 c.floor], SlC NEMember v1_c c.members]) ⟨hok.sub (ts := [1, 2, 3, 4]) rfl, ⟨I3, (H.sub [(0, false), (0, true)] rfl).eq rfl⟩⟩ ?_
    clear hok H hF a
    rintro rc ⟨at_, i⟩ a w5 ⟨hok, I4, H⟩ hF
    unfold F_law07_ConfChain_l1 at hF
    try dsimp only at hF
    refine wp_seq ?_
    refine wp_seq ?_
    refine f_region hok ?_; clear hok; intro hok
    refine s_runk TB_YConf4 hok 2 rfl rfl ?_; clear hok a; intro a hok
    refine s_ob hok (v := v1_c) rfl rfl (by decide) rfl (Ob_load TB_YConf4 rfl rfl rfl ((H.bx 0 rfl).cell 1 rfl)) ?_; clear hok a; intro a hok
    refine s_ob hok (v := .int .i64 (c.members.length : Int)) rfl rfl (by decide) rfl (Ob_slen TB_YConf4 rfl rfl rfl (H.slshape 1 rfl)) ?_; clear hok a; intro a hok
    refine s_runk TB_YConf4 hok 1 rfl rfl ?_; clear hok a; intro a hok
    refine s_end hok [1, 2, 3, 4, 13, 14, 15, 16, 17] rfl ?_; clear hok; intro hok
    refine p_then ?_
    refine f_cond hok rfl (fun hc2 => ?_) (fun hc2 => ?_)
    · replace hF := ite_t hc2 hF
      refine wp_skip ?_
      refine p_then ?_
      refine wp_seq ?_
      refine wp_block ?_
      refine wp_seq ?_
      obtain ⟨hg1, hF⟩ := chk_in hF
      refine f_region hok ?_; clear hok; intro hok
      refine s_runk TB_YConf4 hok 1 rfl rfl ?_; clear hok a; intro a hok
      refine s_ob hok (v := v1_c) rfl rfl (by decide) rfl (Ob_load TB_YConf4 rfl rfl rfl ((H.bx 0 rfl).cell 1 rfl)) ?_; clear hok a; intro a hok
      refine s_runk TB_YConf4 hok 1 rfl rfl ?_; clear hok a; intro a hok
      refine s_ob hok (v := .pointer (some ⟨blkOf v1_c, oofOf v1_c + (i).toNat * 2, none⟩)) rfl rfl (by decide) rfl (Ob_sidx TB_YConf4 rfl rfl rfl rfl (slPl (H.sl 1 rfl) hg1) hg1) ?_; clear hok a; intro a hok
      refine s_ob hok (v := .agg #[.int .i64 ((c.members.getD (i).toNat default).id), .int .i64 ((c.members.getD (i).toNat default).serial)]) rfl rfl (by decide) rfl (Ob_loads TB_YConf4 rfl rfl rfl ((slFl (H.sl 1 rfl) hg1).part 0 rfl)) ?_; clear hok a; intro a hok
      refine h_alloc hok H (cl := [.int .i64 0, .int .i64 0]) (z := .agg #[.int .i64 0, .int .i64 0]) rfl rfl rfl (by decide) rfl (by kernel_rfl) rfl ?_; clear hok a H; intro a w6 b2 H hok
      refine h_store TB_YConf4 hok H 0 (us := [.int .i64 ((c.members.getD (i).toNat default).id), .int .i64 ((c.members.getD (i).toNat default).serial)]) (cl' := [.int .i64 ((c.members.getD (i).toNat default).id), .int .i64 ((c.members.getD (i).toNat default).serial)]) rfl rfl rfl rfl rfl rfl rfl rfl rfl (one_cons rfl (one_cons rfl one_nil)) (Nat.le_of_ble_eq_true rfl) rfl ?_; clear H; intro w7 H
      dsimp only [List.eraseIdx] at H
      refine s_end hok [1, 2, 3, 4, 13, 14, 15, 16, 17, 20, 21, 22, 23, 24, 5] rfl ?_; clear hok; intro hok
      refine p_then ?_
      refine wp_seq ?_
      obtain ⟨b, hx4, hF⟩ := bnd_in hF
      refine f_region hok ?_; clear hok; intro hok
      refine s_ob hok (v := .agg #[.int .i64 c.epoch, v1_c, .int .u64 c.floor]) rfl rfl (by decide) rfl (Ob_loads TB_YConf4 rfl rfl rfl ((H.bx 1 rfl).part 0 rfl)) ?_; clear hok a; intro a hok
      refine s_ob hok (v := .agg #[.int .i64 ((c.members.getD (i).toNat default).id), .int .i64 ((c.members.getD (i).toNat default).serial)]) rfl rfl (by decide) rfl (Ob_loads TB_YConf4 rfl rfl rfl ((H.bx 0 rfl).part 0 rfl)) ?_; clear hok a; intro a hok
      refine h_call hok H (js := [(2, true)]) rfl (caps := #[]) fn_10_YConf4 rfl rfl rfl rfl rfl (by decide) rfl rfl (fun D1 hS => have hq := c_conf_Behind hx4 hS; hq) ?_; clear hok a; intro vv a w8 D2 hr hF2 hok
      obtain ⟨rfl, I5, K⟩ := hr
      have H : Hf I D w I5 w8 [BxC b2 29 [.int .i64 ((c.members.getD (i).toNat default).id), .int .i64 ((c.members.getD (i).toNat default).serial)], BxC b1 25 [.int .i64 c.epoch, v1_c, .int .u64 c.floor], SlC NEMember v1_c c.members] := hF2 K
      clear hF2 K
      refine s_runk TB_YConf4 hok 1 rfl rfl ?_; clear hok a; intro a hok
      refine s_end hok [1, 2, 3, 4, 13, 14, 15, 16, 17, 20, 21, 22, 23, 24, 5, 25, 26, 27, 6] rfl ?_; clear hok; intro hok
      refine p_then ?_
      refine wp_seq ?_
      refine wp_seq ?_
      obtain ⟨p, hx5, hF⟩ := bnd_in hF
      refine f_region hok ?_; clear hok; intro hok
      refine s_runk TB_YConf4 hok 1 rfl rfl ?_; clear hok a; intro a hok
      refine s_ob hok (v := .int .i64 ((c.members.getD (i).toNat default).id)) rfl rfl (by decide) rfl (Ob_load TB_YConf4 rfl rfl rfl ((H.bx 0 rfl).cell 0 rfl)) ?_; clear hok a; intro a hok
      refine s_runk TB_YConf4 hok 3 rfl rfl ?_; clear hok a; intro a hok
      refine g_ob hok (p := (!(((c.members.getD (i).toNat default).id) != at_))) (v := .agg #[.int .i64 c.epoch, v1_c, .int .u64 c.floor]) (S' := [(1, .pointer (some ⟨b1, 0, none⟩))]) rfl rfl rfl (wantB_f _) rfl (by decide) (fun hp hS => hS.sub (ts := [1]) rfl) (fun hp => Ob_loads TB_YConf4 rfl rfl rfl ((H.bx 1 rfl).part 0 rfl)) ?_; clear hok a; intro a hok
      refine g_ob hok (p := (!(((c.members.getD (i).toNat default).id) != at_))) (v := .agg #[.int .i64 ((c.members.getD (i).toNat default).id), .int .i64 ((c.members.getD (i).toNat default).serial)]) (S' := [(5, .pointer (some ⟨b2, 0, none⟩))]) rfl rfl rfl (wantB_f _) rfl (by decide) (fun hp hS => hS.sub (ts := [5]) rfl) (fun hp => Ob_loads TB_YConf4 rfl rfl rfl ((H.bx 0 rfl).part 0 rfl)) ?_; clear hok a; intro a hok
      refine g_call hok (p := (!(((c.members.getD (i).toNat default).id) != at_))) (v := .int .i64 p) (S' := [(33, .agg #[.int .i64 c.epoch, v1_c, .int .u64 c.floor]), (34, .agg #[.int .i64 ((c.members.getD (i).toNat default).id), .int .i64 ((c.members.getD (i).toNat default).serial)])]) (caps := #[]) fn_11_YConf4 rfl rfl rfl (wantB_f _) rfl (by decide) (fun hp hS => ((hS.conv (t := 33) rfl (cond_t hp)).conv (t := 34) rfl (cond_t hp)).sub (ts := [33, 34]) rfl) rfl rfl rfl rfl (fun hp => have hq := c_conf_Place (gif_in hx5 hp) (H.pick0 (js := [(2, true)]) rfl rfl); plainC hq) ?_; clear hok a; intro a w9 hb hok
      replace H : Hf I D w I5 w9 [BxC b2 29 [.int .i64 ((c.members.getD (i).toNat default).id), .int .i64 ((c.members.getD (i).toNat default).serial)], BxC b1 25 [.int .i64 c.epoch, v1_c, .int .u64 c.floor], SlC NEMember v1_c c.members] := H.blw hb
      clear hb
      refine g_ob hok (p := (!(((c.members.getD (i).toNat default).id) != at_))) (v := .int .i64 i) (S' := [(4, .int .i64 i)]) rfl rfl rfl (wantB_f _) rfl (by decide) (fun hp hS => hS.sub (ts := [4]) rfl) (fun hp => Ob_c TB_YConf4 rfl) ?_; clear hok a; intro a hok
      refine g_ob hok (p := (!(((c.members.getD (i).toNat default).id) != at_))) (v := .bool (p != i)) (S' := [(35, .int .i64 p), (36, .int .i64 i)]) rfl rfl rfl (wantB_f _) rfl (by decide) (fun hp hS => ((hS.conv (t := 35) rfl (cond_t hp)).conv (t := 36) rfl (cond_t hp)).sub (ts := [35, 36]) rfl) (fun hp => Ob_c TB_YConf4 rfl) ?_; clear hok a; intro a hok
      refine s_ob hok (v := .bool ((((c.members.getD (i).toNat default).id) != at_) || (p != i))) rfl rfl (by decide) rfl (Ob_pick rfl rfl rfl rfl (pick_or _ _)) ?_; clear hok a; intro a hok
      refine s_end hok [1, 2, 3, 4, 13, 14, 15, 16, 17, 20, 21, 22, 23, 24, 5, 25, 26, 27, 6, 28, 29, 30, 31, 32, 38] rfl ?_; clear hok; intro hok
      refine p_then ?_
      refine f_cond hok rfl (fun hc3 => ?_) (fun hc3 => ?_)
      · replace hF := ite_t hc3 hF
        refine wp_seq ?_
        refine f_region hok ?_; clear hok; intro hok
        refine s_runk TB_YConf4 hok 1 rfl rfl ?_; clear hok a; intro a hok
        refine s_end hok [1, 2, 3, 4, 13, 14, 15, 16, 17, 20, 21, 22, 23, 24, 5, 25, 26, 27, 6, 28, 29, 30, 31, 32, 38] rfl ?_; clear hok; intro hok
        refine p_then ?_
        refine wp_ret ?_
        refine p_then_r ?_
        refine p_blk_r ?_
        refine p_then_r ?_
        refine p_then_r ?_
        refine p_blk_r ?_
        refine p_then_r ?_
        obtain rfl := some_in hF
        exact f_ret hok (run_results1 rfl hok rfl) ⟨rfl, I5, (H.sub [] rfl).eq rfl⟩
      · replace hF := ite_f hc3 hF
        refine wp_skip ?_
        refine p_then ?_
        refine wp_seq ?_
        refine wp_seq ?_
        obtain ⟨hg2, hF⟩ := chk_in hF
        obtain ⟨hg3, hF⟩ := chk_in hF
        obtain ⟨hg4, hF⟩ := chk_in hF
        obtain ⟨a0_2, hx6, hF⟩ := bnd_in hF
        refine f_quietd (by kernel_rfl) (by kernel_rfl) hok ?_; clear hok; intro hok
        refine q_runk TB_YConf4 hok 1 rfl rfl ?_; clear hok a; intro a hok
        refine q_ob hok (v := .int .i64 (i + 1)) rfl rfl (by decide) rfl (fun _ hw => Ob_add rfl rfl rfl (wrI hg2)) ?_; clear hok a; intro a hok
        refine q_runk TB_YConf4 hok 1 rfl rfl ?_; clear hok a; intro a hok
        refine q_ob hok (v := v1_c) rfl rfl (by decide) rfl (fun _ hw => Ob_load TB_YConf4 rfl rfl rfl (((H.blw hw).bx 1 rfl).cell 1 rfl)) ?_; clear hok a; intro a hok
        refine q_ob hok (v := .int .i64 (c.members.length : Int)) rfl rfl (by decide) rfl (fun _ hw => Ob_slen TB_YConf4 rfl rfl rfl ((H.blw hw).slshape 2 rfl)) ?_; clear hok a; intro a hok
        refine q_runk TB_YConf4 hok 2 rfl rfl ?_; clear hok a; intro a hok
        refine gq_ob hok (p := (decide (i + 1 < (c.members.length : Int)))) (v := .agg #[.int .i64 c.epoch, v1_c, .int .u64 c.floor]) (S' := [(1, .pointer (some ⟨b1, 0, none⟩))]) rfl rfl rfl (wantB_t _) rfl (by decide) (fun hp hS => hS.sub (ts := [1]) rfl) (fun hp _ hw => Ob_loads TB_YConf4 rfl rfl rfl (((H.blw hw).bx 1 rfl).part 0 rfl)) ?_; clear hok a; intro a hok
        refine gq_ob hok (p := (decide (i + 1 < (c.members.length : Int)))) (v := .pointer (some ⟨b1, 1, none⟩)) (S' := [(1, .pointer (some ⟨b1, 0, none⟩))]) rfl rfl rfl (wantB_t _) rfl (by decide) (fun hp hS => hS.sub (ts := [1]) rfl) (fun hp _ hw => Ob_c TB_YConf4 rfl) ?_; clear hok a; intro a hok
        refine gq_ob hok (p := (decide (i + 1 < (c.members.length : Int)))) (v := v1_c) (S' := [(47, .pointer (some ⟨b1, 1, none⟩))]) rfl rfl rfl (wantB_t _) rfl (by decide) (fun hp hS => (hS.conv (t := 47) rfl (cond_t hp)).sub (ts := [47]) rfl) (fun hp _ hw => Ob_load TB_YConf4 rfl rfl rfl (((H.blw hw).bx 1 rfl).cell 1 rfl)) ?_; clear hok a; intro a hok
        refine gq_ob hok (p := (decide (i + 1 < (c.members.length : Int)))) (v := .int .i64 i) (S' := [(4, .int .i64 i)]) rfl rfl rfl (wantB_t _) rfl (by decide) (fun hp hS => hS.sub (ts := [4]) rfl) (fun hp _ hw => Ob_c TB_YConf4 rfl) ?_; clear hok a; intro a hok
        refine gq_ob hok (p := (decide (i + 1 < (c.members.length : Int)))) (v := .int .i64 (i + 1)) (S' := [(49, .int .i64 i)]) rfl rfl rfl (wantB_t _) rfl (by decide) (fun hp hS => (hS.conv (t := 49) rfl (cond_t hp)).sub (ts := [49]) rfl) (fun hp _ hw => Ob_add rfl rfl rfl (wrI (hg3 hp))) ?_; clear hok a; intro a hok
        refine gq_ob hok (p := (decide (i + 1 < (c.members.length : Int)))) (v := .pointer (some ⟨blkOf v1_c, oofOf v1_c + (i + 1).toNat * 2, none⟩)) (S' := [(48, v1_c), (50, .int .i64 (i + 1))]) rfl rfl rfl (wantB_t _) rfl (by decide) (fun hp hS => ((hS.conv (t := 48) rfl (cond_t hp)).conv (t := 50) rfl (cond_t hp)).sub (ts := [48, 50]) rfl) (fun hp _ hw => Ob_sidx TB_YConf4 rfl rfl rfl rfl (slPl ((H.blw hw).sl 2 rfl) (hg4 hp)) (hg4 hp)) ?_; clear hok a; intro a hok
        refine gq_ob hok (p := (decide (i + 1 < (c.members.length : Int)))) (v := .agg #[.int .i64 ((c.members.getD (i + 1).toNat default).id), .int .i64 ((c.members.getD (i + 1).toNat default).serial)]) (S' := [(51, .pointer (some ⟨blkOf v1_c, oofOf v1_c + (i + 1).toNat * 2, none⟩))]) rfl rfl rfl (wantB_t _) rfl (by decide) (fun hp hS => (hS.conv (t := 51) rfl (cond_t hp)).sub (ts := [51]) rfl) (fun hp _ hw => Ob_loads TB_YConf4 rfl rfl rfl ((slFl ((H.blw hw).sl 2 rfl) (hg4 hp)).part 0 rfl)) ?_; clear hok a; intro a hok
        refine gq_call hok (p := (decide (i + 1 < (c.members.length : Int)))) (v := .int .i64 a0_2) (S' := [(46, .agg #[.int .i64 c.epoch, v1_c, .int .u64 c.floor]), (52, .agg #[.int .i64 ((c.members.getD (i + 1).toNat default).id), .int .i64 ((c.members.getD (i + 1).toNat default).serial)])]) (caps := #[]) fn_12_YConf4 rfl rfl rfl (wantB_t _) rfl (by decide) (fun hp hS => ((hS.conv (t := 46) rfl (cond_t hp)).conv (t := 52) rfl (cond_t hp)).sub (ts := [46, 52]) rfl) rfl rfl rfl rfl (fun hp _ hw => (have hq := c_conf_Ahead (gif_in hx6 hp) (((H.blw hw)).pick0 (js := [(2, true)]) rfl rfl); plainC hq)) ?_; clear hok a; intro a hok
        refine gq_ob hok (p := (decide (i + 1 < (c.members.length : Int)))) (v := .pointer (some ⟨b2, 0, none⟩)) (S' := [(5, .pointer (some ⟨b2, 0, none⟩))]) rfl rfl rfl (wantB_t _) rfl (by decide) (fun hp hS => hS.sub (ts := [5]) rfl) (fun hp _ hw => Ob_c TB_YConf4 rfl) ?_; clear hok a; intro a hok
        refine gq_ob hok (p := (decide (i + 1 < (c.members.length : Int)))) (v := .int .i64 ((c.members.getD (i).toNat default).id)) (S' := [(54, .pointer (some ⟨b2, 0, none⟩))]) rfl rfl rfl (wantB_t _) rfl (by decide) (fun hp hS => (hS.conv (t := 54) rfl (cond_t hp)).sub (ts := [54]) rfl) (fun hp _ hw => Ob_load TB_YConf4 rfl rfl rfl (((H.blw hw).bx 0 rfl).cell 0 rfl)) ?_; clear hok a; intro a hok
        refine gq_ob hok (p := (decide (i + 1 < (c.members.length : Int)))) (v := .bool (a0_2 != ((c.members.getD (i).toNat default).id))) (S' := [(53, .int .i64 a0_2), (55, .int .i64 ((c.members.getD (i).toNat default).id))]) rfl rfl rfl (wantB_t _) rfl (by decide) (fun hp hS => ((hS.conv (t := 53) rfl (cond_t hp)).conv (t := 55) rfl (cond_t hp)).sub (ts := [53, 55]) rfl) (fun hp _ hw => Ob_c TB_YConf4 rfl) ?_; clear hok a; intro a hok
        refine q_ob hok (v := .bool ((decide (i + 1 < (c.members.length : Int))) && (a0_2 != ((c.members.getD (i).toNat default).id)))) rfl rfl (by decide) rfl (fun _ hw => Ob_pick rfl rfl rfl rfl (pick_and _ _)) ?_; clear hok a; intro a hok
        refine q_end hok [1, 2, 3, 4, 13, 14, 15, 16, 17, 20, 21, 22, 23, 24, 5, 25, 26, 27, 6, 28, 29, 30, 31, 32, 38, 39, 40, 41, 42, 43, 44, 45, 57] rfl ?_; clear hok; intro w10 hb hok
        replace H : Hf I D w I5 w10 [BxC b2 29 [.int .i64 ((c.members.getD (i).toNat default).id), .int .i64 ((c.members.getD (i).toNat default).serial)], BxC b1 25 [.int .i64 c.epoch, v1_c, .int .u64 c.floor], SlC NEMember v1_c c.members] := H.blw hb
        clear hb
        refine p_then ?_
        refine f_cond hok rfl (fun hc4 => ?_) (fun hc4 => ?_)
        · replace hF := ite_t hc4 hF
          refine wp_seq ?_
          refine f_region hok ?_; clear hok; intro hok
          refine s_runk TB_YConf4 hok 1 rfl rfl ?_; clear hok a; intro a hok
          refine s_end hok [1, 2, 3, 4, 13, 14, 15, 16, 17, 20, 21, 22, 23, 24, 5, 25, 26, 27, 6, 28, 29, 30, 31, 32, 38, 39, 40, 41, 42, 43, 44, 45, 57] rfl ?_; clear hok; intro hok
          refine p_then ?_
          refine wp_ret ?_
          refine p_then_r ?_
          refine p_blk_r ?_
          refine p_then_r ?_
          refine p_then_r ?_
          refine p_blk_r ?_
          refine p_then_r ?_
          obtain rfl := some_in hF
          exact f_ret hok (run_results1 rfl hok rfl) ⟨rfl, I5, (H.sub [] rfl).eq rfl⟩
        · replace hF := ite_f hc4 hF
          refine wp_skip ?_
          refine p_then ?_
          refine wp_seq ?_
          refine wp_seq ?_
          refine f_region hok ?_; clear hok; intro hok
          refine s_runk TB_YConf4 hok 2 rfl rfl ?_; clear hok a; intro a hok
          refine s_end hok [1, 2, 3, 4, 13, 14, 15, 16, 17, 20, 21, 22, 23, 24, 5, 25, 26, 27, 6, 28, 29, 30, 31, 32, 38, 39, 40, 41, 42, 43, 44, 45, 57, 58, 59] rfl ?_; clear hok; intro hok
          refine p_then ?_
          refine f_cond hok rfl (fun hc5 => ?_) (fun hc5 => ?_)
          · replace hF := ite_t hc5 hF
            refine wp_seq ?_
            obtain ⟨hg5, hF⟩ := chk_in hF
            obtain ⟨t, hx7, hF⟩ := bnd_in hF
            obtain ⟨a0_3, hx8, hF⟩ := bnd_in hF
            refine f_quietd (by kernel_rfl) (by kernel_rfl) hok ?_; clear hok; intro hok
            refine q_runk TB_YConf4 hok 2 rfl rfl ?_; clear hok a; intro a hok
            refine q_ob hok (v := v1_c) rfl rfl (by decide) rfl (fun _ hw => Ob_load TB_YConf4 rfl rfl rfl (((H.blw hw).bx 1 rfl).cell 1 rfl)) ?_; clear hok a; intro a hok
            refine q_ob hok (v := .int .i64 (c.members.length : Int)) rfl rfl (by decide) rfl (fun _ hw => Ob_slen TB_YConf4 rfl rfl rfl ((H.blw hw).slshape 2 rfl)) ?_; clear hok a; intro a hok
            refine q_ob hok (v := .int .i64 ((c.members.length : Int) - 1)) rfl rfl (by decide) rfl (fun _ hw => Ob_sub rfl rfl rfl (wrI hg5)) ?_; clear hok a; intro a hok
            refine q_runk TB_YConf4 hok 2 rfl rfl ?_; clear hok a; intro a hok
            refine gq_ob hok (p := (i == ((c.members.length : Int) - 1))) (v := .agg #[.int .i64 c.epoch, v1_c, .int .u64 c.floor]) (S' := [(1, .pointer (some ⟨b1, 0, none⟩))]) rfl rfl rfl (wantB_t _) rfl (by decide) (fun hp hS => hS.sub (ts := [1]) rfl) (fun hp _ hw => Ob_loads TB_YConf4 rfl rfl rfl (((H.blw hw).bx 1 rfl).part 0 rfl)) ?_; clear hok a; intro a hok
            refine gq_call hok (p := (i == ((c.members.length : Int) - 1))) (v := .int .i64 t) (S' := [(67, .agg #[.int .i64 c.epoch, v1_c, .int .u64 c.floor])]) (caps := #[]) fn_13_YConf4 rfl rfl rfl (wantB_t _) rfl (by decide) (fun hp hS => (hS.conv (t := 67) rfl (cond_t hp)).sub (ts := [67]) rfl) rfl rfl rfl rfl (fun hp _ hw => (have hq := c_conf_Tail (gif_in hx7 hp) (((H.blw hw)).pick0 (js := [(2, true)]) rfl rfl); plainC hq)) ?_; clear hok a; intro a hok
            refine gq_ob hok (p := (i == ((c.members.length : Int) - 1))) (v := .pointer (some ⟨b2, 0, none⟩)) (S' := [(5, .pointer (some ⟨b2, 0, none⟩))]) rfl rfl rfl (wantB_t _) rfl (by decide) (fun hp hS => hS.sub (ts := [5]) rfl) (fun hp _ hw => Ob_c TB_YConf4 rfl) ?_; clear hok a; intro a hok
            refine gq_ob hok (p := (i == ((c.members.length : Int) - 1))) (v := .int .i64 ((c.members.getD (i).toNat default).id)) (S' := [(69, .pointer (some ⟨b2, 0, none⟩))]) rfl rfl rfl (wantB_t _) rfl (by decide) (fun hp hS => (hS.conv (t := 69) rfl (cond_t hp)).sub (ts := [69]) rfl) (fun hp _ hw => Ob_load TB_YConf4 rfl rfl rfl (((H.blw hw).bx 0 rfl).cell 0 rfl)) ?_; clear hok a; intro a hok
            refine gq_ob hok (p := (i == ((c.members.length : Int) - 1))) (v := .bool (t == ((c.members.getD (i).toNat default).id))) (S' := [(68, .int .i64 t), (70, .int .i64 ((c.members.getD (i).toNat default).id))]) rfl rfl rfl (wantB_t _) rfl (by decide) (fun hp hS => ((hS.conv (t := 68) rfl (cond_t hp)).conv (t := 70) rfl (cond_t hp)).sub (ts := [68, 70]) rfl) (fun hp _ hw => Ob_c TB_YConf4 rfl) ?_; clear hok a; intro a hok
            refine q_ob hok (v := .bool ((i == ((c.members.length : Int) - 1)) && (t == ((c.members.getD (i).toNat default).id)))) rfl rfl (by decide) rfl (fun _ hw => Ob_pick rfl rfl rfl rfl (pick_and _ _)) ?_; clear hok a; intro a hok
            refine q_runk TB_YConf4 hok 1 rfl rfl ?_; clear hok a; intro a hok
            refine gq_call hok (p := ((i == ((c.members.length : Int) - 1)) && (t == ((c.members.getD (i).toNat default).id)))) (v := .bool a0_3) (S' := []) (caps := #[]) fn_8_YConf4 rfl rfl rfl (wantB_t _) rfl (by decide) (fun hp hS => hS.sub (ts := []) rfl) rfl rfl rfl rfl (fun hp _ hw => (have hq := c_law07_awake (gif_in hx8 hp) (((H.blw hw)).pick0 (js := []) rfl rfl); plainC hq)) ?_; clear hok a; intro a hok
            refine q_ob hok (v := .bool (((i == ((c.members.length : Int) - 1)) && (t == ((c.members.getD (i).toNat default).id))) && a0_3)) rfl rfl (by decide) rfl (fun _ hw => Ob_pick rfl rfl rfl rfl (pick_and _ _)) ?_; clear hok a; intro a hok
            refine q_runk TB_YConf4 hok 1 rfl rfl ?_; clear hok a; intro a hok
            refine q_end hok [1, 2, 3, 4, 13, 14, 15, 16, 17, 20, 21, 22, 23, 24, 5, 25, 26, 27, 6, 28, 29, 30, 31, 32, 38, 39, 40, 41, 42, 43, 44, 45, 57, 58, 59, 60, 61, 62, 63, 64, 65, 66, 72, 73, 75] rfl ?_; clear hok; intro w11 hb hok
            replace H : Hf I D w I5 w11 [BxC b2 29 [.int .i64 ((c.members.getD (i).toNat default).id), .int .i64 ((c.members.getD (i).toNat default).serial)], BxC b1 25 [.int .i64 c.epoch, v1_c, .int .u64 c.floor], SlC NEMember v1_c c.members] := H.blw hb
            clear hb
            refine p_then ?_
            refine wp_ret ?_
            refine p_then_r ?_
            refine p_blk_r ?_
            refine p_then_r ?_
            refine p_then_r ?_
            refine p_blk_r ?_
            refine p_then_r ?_
            obtain rfl := some_in hF
            exact f_ret hok (run_results1 rfl hok rfl) ⟨rfl, I5, (H.sub [] rfl).eq rfl⟩
          · replace hF := ite_f hc5 hF
            refine wp_skip ?_
            refine p_then ?_
            refine f_region hok ?_; clear hok; intro hok
            refine s_runk TB_YConf4 hok 2 rfl rfl ?_; clear hok a; intro a hok
            refine s_end hok [1, 2, 3, 4, 13, 14, 15, 16, 17, 20, 21, 22, 23, 24, 5, 25, 26, 27, 6, 28, 29, 30, 31, 32, 38, 39, 40, 41, 42, 43, 44, 45, 57, 58, 59, 76] rfl ?_; clear hok; intro hok
            refine p_blk ?_
            refine p_then ?_
            obtain ⟨hg6, hF⟩ := chk_in hF
            refine f_region hok ?_; clear hok; intro hok
            refine s_runk TB_YConf4 hok 1 rfl rfl ?_; clear hok a; intro a hok
            refine s_ob hok (v := .int .i64 (i + 1)) rfl rfl (by decide) rfl (Ob_add rfl rfl rfl (wrI hg6)) ?_; clear hok a; intro a hok
            refine s_runk TB_YConf4 hok 1 rfl rfl ?_; clear hok a; intro a hok
            refine s_end hok [1, 2, 3, 4, 13, 14, 15, 16, 17, 20, 21, 22, 23, 24, 5, 25, 26, 27, 6, 28, 29, 30, 31, 32, 38, 39, 40, 41, 42, 43, 44, 45, 57, 58, 59, 76, 18, 19] rfl ?_; clear hok; intro hok
            refine p_then ?_
            exact ⟨(b, i + 1), ⟨hok.sub (ts := [1, 2, 3, 4]) rfl, ⟨I5, (H.sub [(1, false), (1, true)] rfl).eq rfl⟩⟩, hF⟩
    · replace hF := ite_f hc2 hF
      refine wp_exit ?_
      refine p_then_x ?_
      refine p_then_x ?_
      refine f_exit_here ?_
      refine p_then ?_
      refine wp_seq ?_
      refine f_region hok ?_; clear hok; intro hok
      refine s_runk TB_YConf4 hok 1 rfl rfl ?_; clear hok a; intro a hok
      refine s_end hok [2] rfl ?_; clear hok; intro hok
      refine p_then ?_
      refine wp_ret ?_
      obtain rfl := some_in hF
      exact f_ret hok (run_results1 rfl hok rfl) ⟨rfl, I4, (H.sub [] rfl).eq rfl⟩

end Go.Proofs.Ytnkieaolhbmfpaa
