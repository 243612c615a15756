/- Configurations: the law's own test. -/
import Derived.Test.YtnkieaolhbmfpaaYConf2
namespace Go.Proofs.Ytnkieaolhbmfpaa
open Go.RowKit
def TB_YConf3L : TabL := ⟨[], [], [], [(22, (29, 2))], [(25, (3, true))]⟩

def TB_YConf3 : Tab Try.prog := ⟨TB_YConf3L, by kernel_rfl⟩

theorem fn_9_YConf3 : IsFn Try.prog 9 := ⟨_, Try.func9, by kernel_rfl, by kernel_rfl⟩

theorem fn_10_YConf3 : IsFn Try.prog 10 := ⟨_, Try.func10, by kernel_rfl, by kernel_rfl⟩

theorem fn_13_YConf3 : IsFn Try.prog 13 := ⟨_, Try.func13, by kernel_rfl, by kernel_rfl⟩

theorem fn_14_YConf3 : IsFn Try.prog 14 := ⟨_, Try.func14, by kernel_rfl, by kernel_rfl⟩

def F_law07_awake : Option Bool := (F_conf_Put ({ epoch := 3, members := [({ id := 2, serial := 1 } : EMember), ({ id := 0, serial := 5 } : EMember)], floor := 7 } : EConf)).bind fun p => ((gif ((seqB p.1 ⟨#[3, 2, 2, 1, 0, 5, 7]⟩) && (p.2 == 0)) (F_conf_Head ({ epoch := 3, members := [({ id := 2, serial := 1 } : EMember), ({ id := 0, serial := 5 } : EMember)], floor := 7 } : EConf)) default).bind fun h => ((gif (((seqB p.1 ⟨#[3, 2, 2, 1, 0, 5, 7]⟩) && (p.2 == 0)) && (h == 2)) (F_conf_Tail ({ epoch := 3, members := [({ id := 2, serial := 1 } : EMember), ({ id := 0, serial := 5 } : EMember)], floor := 7 } : EConf)) default).bind fun t => ((gif ((((seqB p.1 ⟨#[3, 2, 2, 1, 0, 5, 7]⟩) && (p.2 == 0)) && (h == 2)) && (t == 0)) (F_conf_Behind ({ epoch := 3, members := [({ id := 2, serial := 1 } : EMember), ({ id := 0, serial := 5 } : EMember)], floor := 7 } : EConf) ({ id := 2, serial := 1 } : EMember)) default).bind fun b => (some (((((seqB p.1 ⟨#[3, 2, 2, 1, 0, 5, 7]⟩) && (p.2 == 0)) && (h == 2)) && (t == 0)) && (b == 0))))))

set_option maxHeartbeats 1000000 in
theorem c_law07_awake {I D : Dm} {w : World} {rr : Bool} (hF : F_law07_awake = some rr) (H : St I D w []) :
    Calls Try.prog 8 #[] w (Ret fun vv w' => vv = .bool rr ∧ ∃ I', Hf I D w I' w' []) := by
  replace H := H.hf
  unfold F_law07_awake at hF
  refine f_enter 35 Try.func8 rfl rfl (Nat.le_of_ble_eq_true rfl) fun a hok => ?_
  replace hok := hok.sub (ts := []) rfl
  refine wp_seq ?_
  refine f_region hok ?_; clear hok; intro hok
  refine s_runk TB_YConf3 hok 1 rfl rfl ?_; clear hok a; intro a hok
  refine s_end hok [0] rfl ?_; clear hok; intro hok
  refine p_then ?_
  refine wp_seq ?_
  refine f_region hok ?_; clear hok; intro hok
  refine s_ob hok (v := .agg #[.int .i64 2, .int .i64 1]) rfl rfl (by decide) rfl (Ob_build (vs := [(0, .int .i64 2), (1, .int .i64 1)]) rfl rfl (by go_simp <;> rfl)) ?_; clear hok a; intro a hok
  refine s_ob hok (v := .agg #[.int .i64 0, .int .i64 5]) rfl rfl (by decide) rfl (Ob_build (vs := [(0, .int .i64 0), (1, .int .i64 5)]) rfl rfl (by go_simp <;> rfl)) ?_; clear hok a; intro a hok
  refine h_bslice hok H (vs := [(0, .agg #[.int .i64 2, .int .i64 1]), (1, .agg #[.int .i64 0, .int .i64 5])]) (cl := [.int .i64 2, .int .i64 1, .int .i64 0, .int .i64 5]) (e := 29) rfl rfl rfl (by decide) rfl rfl (fun w => run_bslice (z := .agg #[.int .i64 0, .int .i64 0]) (m := 2) Try.underlying22 (by kernel_rfl) rfl rfl (by decide) (by simp [Instr.fill, Value.cells]) w) ?_; clear hok a H; intro a w1 b1 H hok
  refine s_ob hok (v := .agg #[.int .i64 3, .slice (some ⟨b1, 0, none⟩) 2 2, .int .u64 7]) rfl rfl (by decide) rfl (Ob_build (vs := [(0, .int .i64 3), (1, .slice (some ⟨b1, 0, none⟩) 2 2), (2, .int .u64 7)]) rfl rfl (by go_simp <;> rfl)) ?_; clear hok a; intro a hok
  refine h_alloc hok H (cl := [.int .i64 0, .slice none 0 0, .int .u64 0]) (z := .agg #[.int .i64 0, .slice none 0 0, .int .u64 0]) rfl rfl rfl (by decide) rfl (by kernel_rfl) rfl ?_; clear hok a H; intro a w2 b2 H hok
  refine h_store TB_YConf3 hok H 0 (us := [.int .i64 3, .slice (some ⟨b1, 0, none⟩) 2 2, .int .u64 7]) (cl' := [.int .i64 3, .slice (some ⟨b1, 0, none⟩) 2 2, .int .u64 7]) rfl rfl rfl rfl rfl rfl rfl rfl rfl (one_cons rfl (one_cons (slS.one (slS.lit _ _ (by decide))) (one_cons rfl one_nil))) (Nat.le_of_ble_eq_true rfl) rfl ?_; clear H; intro w3 H
  dsimp only [List.eraseIdx] at H
  refine s_end hok [0, 1] rfl ?_; clear hok; intro hok
  refine p_then ?_
  refine wp_seq ?_
  obtain ⟨p, hx1, hF⟩ := bnd_in hF
  refine f_region hok ?_; clear hok; intro hok
  refine s_ob hok (v := .agg #[.int .i64 3, .slice (some ⟨b1, 0, none⟩) 2 2, .int .u64 7]) rfl rfl (by decide) rfl (Ob_loads TB_YConf3 rfl rfl rfl ((H.bx 0 rfl).part 0 rfl)) ?_; clear hok a; intro a hok
  obtain ⟨I1, _, H⟩ := H.frzlit 1 rfl (R := NEMember) [[.int .i64 2, .int .i64 1], [.int .i64 0, .int .i64 5]] [({ id := 2, serial := 1 } : EMember), ({ id := 0, serial := 5 } : EMember)] rfl rfl (fun i h1 h2 => by match i, h1, h2 with | 0, _, _ => exact ⟨rfl, trivial⟩ | 1, _, _ => exact ⟨rfl, trivial⟩) (show 2 ≤ maxLen from by decide) (n := 2) rfl
  replace H : Hf I D w I1 w3 [SlC NEMember (.slice (some ⟨b1, 0, none⟩) 2 2) [({ id := 2, serial := 1 } : EMember), ({ id := 0, serial := 5 } : EMember)], BxC b2 25 [.int .i64 3, .slice (some ⟨b1, 0, none⟩) 2 2, .int .u64 7]] := H
  refine h_call hok H (js := [(0, true)]) rfl (caps := #[]) fn_14_YConf3 rfl rfl rfl rfl rfl (by decide) rfl rfl (fun D1 hS => have hq := c_conf_Put hx1 hS; hq) ?_; clear hok a; intro vv a w4 D2 hr hF2 hok
  obtain ⟨rfl, I2, K⟩ := hr
  have H : Hf I D w I2 w4 [SlC NEMember (.slice (some ⟨b1, 0, none⟩) 2 2) [({ id := 2, serial := 1 } : EMember), ({ id := 0, serial := 5 } : EMember)], BxC b2 25 [.int .i64 3, .slice (some ⟨b1, 0, none⟩) 2 2, .int .u64 7]] := hF2 K
  clear hF2 K
  refine s_runk TB_YConf3 hok 5 rfl rfl ?_; clear hok a; intro a hok
  refine s_end hok [0, 1, 2, 3] rfl ?_; clear hok; intro hok
  refine p_then ?_
  refine wp_seq ?_
  obtain ⟨h, hx2, hF⟩ := bnd_in hF
  obtain ⟨t, hx3, hF⟩ := bnd_in hF
  obtain ⟨b, hx4, hF⟩ := bnd_in hF
  refine f_region hok ?_; clear hok; intro hok
  refine s_runk TB_YConf3 hok 3 rfl rfl ?_; clear hok a; intro a hok
  refine g_ob hok (p := (seqB p.1 ⟨#[3, 2, 2, 1, 0, 5, 7]⟩)) (v := .int .i64 p.2) (S' := [(3, .int .i64 p.2)]) rfl rfl rfl (wantB_t _) rfl (by decide) (fun hp hS => hS.sub (ts := [3]) rfl) (fun hp => Ob_c TB_YConf3 rfl) ?_; clear hok a; intro a hok
  refine g_ob hok (p := (seqB p.1 ⟨#[3, 2, 2, 1, 0, 5, 7]⟩)) (v := .bool (p.2 == 0)) (S' := [(16, .int .i64 p.2)]) rfl rfl rfl (wantB_t _) rfl (by decide) (fun hp hS => (hS.conv (t := 16) rfl (cond_t hp)).sub (ts := [16]) rfl) (fun hp => Ob_c TB_YConf3 rfl) ?_; clear hok a; intro a hok
  refine s_ob hok (v := .bool ((seqB p.1 ⟨#[3, 2, 2, 1, 0, 5, 7]⟩) && (p.2 == 0))) rfl rfl (by decide) rfl (Ob_pick rfl rfl rfl rfl (pick_and _ _)) ?_; clear hok a; intro a hok
  refine s_runk TB_YConf3 hok 1 rfl rfl ?_; clear hok a; intro a hok
  refine g_ob hok (p := ((seqB p.1 ⟨#[3, 2, 2, 1, 0, 5, 7]⟩) && (p.2 == 0))) (v := .agg #[.int .i64 3, .slice (some ⟨b1, 0, none⟩) 2 2, .int .u64 7]) (S' := [(1, .pointer (some ⟨b2, 0, none⟩))]) rfl rfl rfl (wantB_t _) rfl (by decide) (fun hp hS => hS.sub (ts := [1]) rfl) (fun hp => Ob_loads TB_YConf3 rfl rfl rfl ((H.bx 1 rfl).part 0 rfl)) ?_; clear hok a; intro a hok
  refine g_call hok (p := ((seqB p.1 ⟨#[3, 2, 2, 1, 0, 5, 7]⟩) && (p.2 == 0))) (v := .int .i64 h) (S' := [(20, .agg #[.int .i64 3, .slice (some ⟨b1, 0, none⟩) 2 2, .int .u64 7])]) (caps := #[]) fn_9_YConf3 rfl rfl rfl (wantB_t _) rfl (by decide) (fun hp hS => (hS.conv (t := 20) rfl (cond_t hp)).sub (ts := [20]) rfl) rfl rfl rfl rfl (fun hp => have hq := c_conf_Head (gif_in hx2 hp) (H.pick0 (js := [(0, true)]) rfl rfl); plainC hq) ?_; clear hok a; intro a w5 hb hok
  replace H : Hf I D w I2 w5 [SlC NEMember (.slice (some ⟨b1, 0, none⟩) 2 2) [({ id := 2, serial := 1 } : EMember), ({ id := 0, serial := 5 } : EMember)], BxC b2 25 [.int .i64 3, .slice (some ⟨b1, 0, none⟩) 2 2, .int .u64 7]] := H.blw hb
  clear hb
  refine g_ob hok (p := ((seqB p.1 ⟨#[3, 2, 2, 1, 0, 5, 7]⟩) && (p.2 == 0))) (v := .bool (h == 2)) (S' := [(21, .int .i64 h)]) rfl rfl rfl (wantB_t _) rfl (by decide) (fun hp hS => (hS.conv (t := 21) rfl (cond_t hp)).sub (ts := [21]) rfl) (fun hp => Ob_c TB_YConf3 rfl) ?_; clear hok a; intro a hok
  refine s_ob hok (v := .bool (((seqB p.1 ⟨#[3, 2, 2, 1, 0, 5, 7]⟩) && (p.2 == 0)) && (h == 2))) rfl rfl (by decide) rfl (Ob_pick rfl rfl rfl rfl (pick_and _ _)) ?_; clear hok a; intro a hok
  refine s_runk TB_YConf3 hok 1 rfl rfl ?_; clear hok a; intro a hok
  refine g_ob hok (p := (((seqB p.1 ⟨#[3, 2, 2, 1, 0, 5, 7]⟩) && (p.2 == 0)) && (h == 2))) (v := .agg #[.int .i64 3, .slice (some ⟨b1, 0, none⟩) 2 2, .int .u64 7]) (S' := [(1, .pointer (some ⟨b2, 0, none⟩))]) rfl rfl rfl (wantB_t _) rfl (by decide) (fun hp hS => hS.sub (ts := [1]) rfl) (fun hp => Ob_loads TB_YConf3 rfl rfl rfl ((H.bx 1 rfl).part 0 rfl)) ?_; clear hok a; intro a hok
  refine g_call hok (p := (((seqB p.1 ⟨#[3, 2, 2, 1, 0, 5, 7]⟩) && (p.2 == 0)) && (h == 2))) (v := .int .i64 t) (S' := [(25, .agg #[.int .i64 3, .slice (some ⟨b1, 0, none⟩) 2 2, .int .u64 7])]) (caps := #[]) fn_13_YConf3 rfl rfl rfl (wantB_t _) rfl (by decide) (fun hp hS => (hS.conv (t := 25) rfl (cond_t hp)).sub (ts := [25]) rfl) rfl rfl rfl rfl (fun hp => have hq := c_conf_Tail (gif_in hx3 hp) (H.pick0 (js := [(0, true)]) rfl rfl); plainC hq) ?_; clear hok a; intro a w6 hb hok
  replace H : Hf I D w I2 w6 [SlC NEMember (.slice (some ⟨b1, 0, none⟩) 2 2) [({ id := 2, serial := 1 } : EMember), ({ id := 0, serial := 5 } : EMember)], BxC b2 25 [.int .i64 3, .slice (some ⟨b1, 0, none⟩) 2 2, .int .u64 7]] := H.blw hb
  clear hb
  refine g_ob hok (p := (((seqB p.1 ⟨#[3, 2, 2, 1, 0, 5, 7]⟩) && (p.2 == 0)) && (h == 2))) (v := .bool (t == 0)) (S' := [(26, .int .i64 t)]) rfl rfl rfl (wantB_t _) rfl (by decide) (fun hp hS => (hS.conv (t := 26) rfl (cond_t hp)).sub (ts := [26]) rfl) (fun hp => Ob_c TB_YConf3 rfl) ?_; clear hok a; intro a hok
  refine s_ob hok (v := .bool ((((seqB p.1 ⟨#[3, 2, 2, 1, 0, 5, 7]⟩) && (p.2 == 0)) && (h == 2)) && (t == 0))) rfl rfl (by decide) rfl (Ob_pick rfl rfl rfl rfl (pick_and _ _)) ?_; clear hok a; intro a hok
  refine s_runk TB_YConf3 hok 1 rfl rfl ?_; clear hok a; intro a hok
  refine g_ob hok (p := ((((seqB p.1 ⟨#[3, 2, 2, 1, 0, 5, 7]⟩) && (p.2 == 0)) && (h == 2)) && (t == 0))) (v := .agg #[.int .i64 3, .slice (some ⟨b1, 0, none⟩) 2 2, .int .u64 7]) (S' := [(1, .pointer (some ⟨b2, 0, none⟩))]) rfl rfl rfl (wantB_t _) rfl (by decide) (fun hp hS => hS.sub (ts := [1]) rfl) (fun hp => Ob_loads TB_YConf3 rfl rfl rfl ((H.bx 1 rfl).part 0 rfl)) ?_; clear hok a; intro a hok
  refine g_ob hok (p := ((((seqB p.1 ⟨#[3, 2, 2, 1, 0, 5, 7]⟩) && (p.2 == 0)) && (h == 2)) && (t == 0))) (v := .agg #[.int .i64 2, .int .i64 1]) (S' := []) rfl rfl rfl (wantB_t _) rfl (by decide) (fun hp hS => hS.sub (ts := []) rfl) (fun hp => Ob_build (vs := [(0, .int .i64 2), (1, .int .i64 1)]) rfl rfl (by go_simp <;> rfl)) ?_; clear hok a; intro a hok
  refine g_call hok (p := ((((seqB p.1 ⟨#[3, 2, 2, 1, 0, 5, 7]⟩) && (p.2 == 0)) && (h == 2)) && (t == 0))) (v := .int .i64 b) (S' := [(30, .agg #[.int .i64 3, .slice (some ⟨b1, 0, none⟩) 2 2, .int .u64 7]), (31, .agg #[.int .i64 2, .int .i64 1])]) (caps := #[]) fn_10_YConf3 rfl rfl rfl (wantB_t _) rfl (by decide) (fun hp hS => ((hS.conv (t := 30) rfl (cond_t hp)).conv (t := 31) rfl (cond_t hp)).sub (ts := [30, 31]) rfl) rfl rfl rfl rfl (fun hp => have hq := c_conf_Behind (gif_in hx4 hp) (H.pick0 (js := [(0, true)]) rfl rfl); plainC hq) ?_; clear hok a; intro a w7 hb hok
  replace H : Hf I D w I2 w7 [SlC NEMember (.slice (some ⟨b1, 0, none⟩) 2 2) [({ id := 2, serial := 1 } : EMember), ({ id := 0, serial := 5 } : EMember)], BxC b2 25 [.int .i64 3, .slice (some ⟨b1, 0, none⟩) 2 2, .int .u64 7]] := H.blw hb
  clear hb
  refine g_ob hok (p := ((((seqB p.1 ⟨#[3, 2, 2, 1, 0, 5, 7]⟩) && (p.2 == 0)) && (h == 2)) && (t == 0))) (v := .bool (b == 0)) (S' := [(32, .int .i64 b)]) rfl rfl rfl (wantB_t _) rfl (by decide) (fun hp hS => (hS.conv (t := 32) rfl (cond_t hp)).sub (ts := [32]) rfl) (fun hp => Ob_c TB_YConf3 rfl) ?_; clear hok a; intro a hok
  refine s_ob hok (v := .bool (((((seqB p.1 ⟨#[3, 2, 2, 1, 0, 5, 7]⟩) && (p.2 == 0)) && (h == 2)) && (t == 0)) && (b == 0))) rfl rfl (by decide) rfl (Ob_pick rfl rfl rfl rfl (pick_and _ _)) ?_; clear hok a; intro a hok
  refine s_runk TB_YConf3 hok 1 rfl rfl ?_; clear hok a; intro a hok
  refine s_end hok [0] rfl ?_; clear hok; intro hok
  refine p_then ?_
  refine wp_ret ?_
  obtain rfl := some_in hF
  exact f_ret hok (run_results1 rfl hok rfl) ⟨rfl, I2, (H.sub [] rfl).eq rfl⟩

end Go.Proofs.Ytnkieaolhbmfpaa
