/- Configurations: the chain. -/
import Derived.Test.YtnkieaolhbmfpaaYConf1
namespace Go.Proofs.Ytnkieaolhbmfpaa
open Go.RowKit
def TB_YConf2L : TabL := ⟨[(25601, 1), (29696, 0)], [], [], [(22, (29, 2))], [(3, (1, false)), (22, (1, false)), (25, (3, true)), (29, (2, true))]⟩

def TB_YConf2 : Tab Try.prog := ⟨TB_YConf2L, by kernel_rfl⟩

theorem fn_11_YConf2 : IsFn Try.prog 11 := ⟨_, Try.func11, by kernel_rfl, by kernel_rfl⟩

theorem fn_26_YConf2 : IsFn Try.prog 26 := ⟨_, Try.func26, by kernel_rfl, by kernel_rfl⟩

def F_conf_Place_l1 (c : EConf) (m : EMember) (rc : Int → Option Int) (sg : Int) : Option Int := match sg with | x => if (decide (x < (c.members.length : Int))) = true then (chk ((0 : Int) ≤ x ∧ x < (c.members.length : Int)) (if (eqEMember (c.members.getD (x).toNat default) m) = true then (some x) else (chk (inI (x + 1)) (rc (x + 1))))) else (some (-1))

def F_conf_Place (c : EConf) (m : EMember) : Option Int := iter (F_conf_Place_l1 c m) FU 0

set_option maxHeartbeats 1000000 in
theorem c_conf_Place {I D : Dm} {c : EConf} {v1_c : Value} {m : EMember} {w : World} {rr : Int} (hF : F_conf_Place c m = some rr) (H : St I D w [SlC NEMember v1_c c.members]) :
    Calls Try.prog 11 #[.agg #[.int .i64 c.epoch, v1_c, .int .u64 c.floor], .agg #[.int .i64 m.id, .int .i64 m.serial]] w (Ret fun vv w' => vv = .int .i64 rr ∧ ∃ I', Hf I D w I' w' []) := by
  replace H := H.hf
  unfold F_conf_Place at hF
  refine f_enter 20 Try.func11 rfl rfl (Nat.le_of_ble_eq_true rfl) fun a hok => ?_
  replace hok := hok.sub (ts := [0, 1]) rfl
  refine wp_seq ?_
  refine f_region hok ?_; clear hok; intro hok
  refine h_boxv hok H (cl := [.int .i64 c.epoch, v1_c, .int .u64 c.floor]) rfl rfl rfl (by decide) rfl rfl rfl ?_; clear hok a H; intro a w1 b1 H hok
  refine h_boxv hok H (cl := [.int .i64 m.id, .int .i64 m.serial]) rfl rfl rfl (by decide) rfl rfl rfl ?_; clear hok a H; intro a w2 b2 H hok
  refine s_runk TB_YConf2 hok 1 rfl rfl ?_; clear hok a; intro a hok
  refine s_end hok [2, 3, 4] rfl ?_; clear hok; intro hok
  refine p_then ?_
  refine wp_seq ?_
  refine wp_seq ?_
  refine f_region hok ?_; clear hok; intro hok
  refine s_runk TB_YConf2 hok 1 rfl rfl ?_; clear hok a; intro a hok
  refine s_ob hok (v := v1_c) rfl rfl (by decide) rfl (Ob_load TB_YConf2 rfl rfl rfl ((H.bx 1 rfl).cell 1 rfl)) ?_; clear hok a; intro a hok
  refine s_ob hok (v := .int .i64 (c.members.length : Int)) rfl rfl (by decide) rfl (Ob_slen TB_YConf2 rfl rfl rfl (H.slshape 2 rfl)) ?_; clear hok a; intro a hok
  refine s_runk TB_YConf2 hok 1 rfl rfl ?_; clear hok a; intro a hok
  refine s_end hok [3, 4, 8, 9, 10] rfl ?_; clear hok; intro hok
  refine p_then ?_
  refine wp_block ?_
  refine f_iter hF (fun sg a' w' => match sg with | x => Sl 20 [(3, .pointer (some ⟨b2, 0, none⟩)), (4, .int .i64 0), (8, v1_c), (9, .int .i64 (c.members.length : Int)), (10, .int .i64 x)] a' ∧ ∃ I2, Hf I D w I2 w' [BxC b2 29 [.int .i64 m.id, .int .i64 m.serial], SlC NEMember v1_c c.members]) ⟨hok.sub (ts := [3, 4, 8, 9, 10]) rfl, ⟨I, (H.sub [(0, false), (1, true)] rfl).eq rfl⟩⟩ ?_
  clear hok H hF a
  rintro rc x a w3 ⟨hok, I1, H⟩ hF
  unfold F_conf_Place_l1 at hF
  try dsimp only at hF
  refine wp_seq ?_
  refine f_region hok ?_; clear hok; intro hok
  refine s_runk TB_YConf2 hok 1 rfl rfl ?_; clear hok a; intro a hok
  refine s_end hok [3, 4, 8, 9, 10, 11] rfl ?_; clear hok; intro hok
  refine p_then ?_
  refine wp_seq ?_
  refine f_cond hok rfl (fun hc1 => ?_) (fun hc1 => ?_)
  · replace hF := ite_t hc1 hF
    refine wp_skip ?_
    refine p_then ?_
    refine wp_seq ?_
    refine wp_block ?_
    refine wp_seq ?_
    obtain ⟨hg1, hF⟩ := chk_in hF
    refine f_region hok ?_; clear hok; intro hok
    refine s_runk TB_YConf2 hok 1 rfl rfl ?_; clear hok a; intro a hok
    refine s_ob hok (v := .pointer (some ⟨blkOf v1_c, oofOf v1_c + (x).toNat * 2, none⟩)) rfl rfl (by decide) rfl (Ob_sidx TB_YConf2 rfl rfl rfl rfl (slPl (H.sl 1 rfl) hg1) hg1) ?_; clear hok a; intro a hok
    refine s_ob hok (v := .agg #[.int .i64 ((c.members.getD (x).toNat default).id), .int .i64 ((c.members.getD (x).toNat default).serial)]) rfl rfl (by decide) rfl (Ob_loads TB_YConf2 rfl rfl rfl ((slFl (H.sl 1 rfl) hg1).part 0 rfl)) ?_; clear hok a; intro a hok
    refine h_alloc hok H (cl := [.int .i64 0, .int .i64 0]) (z := .agg #[.int .i64 0, .int .i64 0]) rfl rfl rfl (by decide) rfl (by kernel_rfl) rfl ?_; clear hok a H; intro a w4 b3 H hok
    refine s_runk TB_YConf2 hok 1 rfl rfl ?_; clear hok a; intro a hok
    refine h_store TB_YConf2 hok H 0 (us := [.int .i64 ((c.members.getD (x).toNat default).id), .int .i64 ((c.members.getD (x).toNat default).serial)]) (cl' := [.int .i64 ((c.members.getD (x).toNat default).id), .int .i64 ((c.members.getD (x).toNat default).serial)]) rfl rfl rfl rfl rfl rfl rfl rfl rfl (one_cons rfl (one_cons rfl one_nil)) (Nat.le_of_ble_eq_true rfl) rfl ?_; clear H; intro w5 H
    dsimp only [List.eraseIdx] at H
    refine s_end hok [3, 4, 8, 9, 10, 11, 12, 13, 14, 6, 5] rfl ?_; clear hok; intro hok
    refine p_then ?_
    refine wp_seq ?_
    refine f_region hok ?_; clear hok; intro hok
    refine s_ob hok (v := .agg #[.int .i64 ((c.members.getD (x).toNat default).id), .int .i64 ((c.members.getD (x).toNat default).serial)]) rfl rfl (by decide) rfl (Ob_loads TB_YConf2 rfl rfl rfl ((H.bx 0 rfl).part 0 rfl)) ?_; clear hok a; intro a hok
    refine s_ob hok (v := .agg #[.int .i64 m.id, .int .i64 m.serial]) rfl rfl (by decide) rfl (Ob_loads TB_YConf2 rfl rfl rfl ((H.bx 1 rfl).part 0 rfl)) ?_; clear hok a; intro a hok
    refine s_ob hok (v := .bool (eqEMember (c.members.getD (x).toNat default) m)) rfl rfl (by decide) rfl (Ob_bin rfl rfl rfl (eqg_EMember _ _ _ _ _ _) (eql_EMember (c.members.getD (x).toNat default) m _)) ?_; clear hok a; intro a hok
    refine s_end hok [3, 4, 8, 9, 10, 11, 12, 13, 14, 6, 5, 15, 16, 17] rfl ?_; clear hok; intro hok
    refine p_then ?_
    refine f_cond hok rfl (fun hc2 => ?_) (fun hc2 => ?_)
    · replace hF := ite_t hc2 hF
      refine wp_seq ?_
      refine f_region hok ?_; clear hok; intro hok
      refine s_runk TB_YConf2 hok 2 rfl rfl ?_; clear hok a; intro a hok
      refine s_end hok [3, 4, 8, 9, 10, 11, 12, 13, 14, 6, 5, 15, 16, 17, 18] rfl ?_; clear hok; intro hok
      refine p_then ?_
      refine wp_ret ?_
      refine p_blk_r ?_
      refine p_then_r ?_
      refine p_then_r ?_
      refine p_blk_r ?_
      refine p_then_r ?_
      obtain rfl := some_in hF
      exact f_ret hok (run_results1 rfl hok rfl) ⟨rfl, I1, (H.sub [] rfl).eq rfl⟩
    · replace hF := ite_f hc2 hF
      refine wp_skip ?_
      refine p_blk ?_
      refine p_then ?_
      obtain ⟨hg2, hF⟩ := chk_in hF
      refine f_region hok ?_; clear hok; intro hok
      refine s_ob hok (v := .int .i64 (x + 1)) rfl rfl (by decide) rfl (Ob_add rfl rfl rfl (wrI hg2)) ?_; clear hok a; intro a hok
      refine s_runk TB_YConf2 hok 1 rfl rfl ?_; clear hok a; intro a hok
      refine s_end hok [3, 4, 8, 9, 10, 11, 12, 13, 14, 6, 5, 15, 16, 17, 19] rfl ?_; clear hok; intro hok
      refine p_then ?_
      exact ⟨(x + 1), ⟨hok.sub (ts := [3, 4, 8, 9, 10]) rfl, ⟨I1, (H.sub [(1, false), (1, true)] rfl).eq rfl⟩⟩, hF⟩
  · replace hF := ite_f hc1 hF
    refine wp_exit ?_
    refine p_then_x ?_
    refine p_then_x ?_
    refine f_exit_here ?_
    refine p_then ?_
    refine wp_seq ?_
    refine f_region hok ?_; clear hok; intro hok
    refine s_runk TB_YConf2 hok 1 rfl rfl ?_; clear hok a; intro a hok
    refine s_end hok [4] rfl ?_; clear hok; intro hok
    refine p_then ?_
    refine wp_ret ?_
    obtain rfl := some_in hF
    exact f_ret hok (run_results1 rfl hok rfl) ⟨rfl, I1, (H.sub [] rfl).eq rfl⟩

def F_conf_by (c : EConf) (m : EMember) (d : Int) : Option Int := (F_conf_Place c m).bind fun p => (chk ((!(decide (p < 0))) = true → inI (p + d)) (chk ((!((decide (p < 0)) || (decide (p + d < 0)))) = true → inI (p + d)) (if (((decide (p < 0)) || (decide (p + d < 0))) || (decide (p + d ≥ (c.members.length : Int)))) = true then (some (-1)) else (chk (inI (p + d)) (chk ((0 : Int) ≤ p + d ∧ p + d < (c.members.length : Int)) (some ((c.members.getD (p + d).toNat default).id)))))))

set_option maxHeartbeats 1000000 in
theorem c_conf_by {I D : Dm} {c : EConf} {v1_c : Value} {m : EMember} {d : Int} {w : World} {rr : Int} (hF : F_conf_by c m d = some rr) (H : St I D w [SlC NEMember v1_c c.members]) :
    Calls Try.prog 26 #[.agg #[.int .i64 c.epoch, v1_c, .int .u64 c.floor], .agg #[.int .i64 m.id, .int .i64 m.serial], .int .i64 d] w (Ret fun vv w' => vv = .int .i64 rr ∧ ∃ I', Hf I D w I' w' []) := by
  replace H := H.hf
  unfold F_conf_by at hF
  refine f_enter 36 Try.func26 rfl rfl (Nat.le_of_ble_eq_true rfl) fun a hok => ?_
  replace hok := hok.sub (ts := [0, 1, 2]) rfl
  refine wp_seq ?_
  refine f_region hok ?_; clear hok; intro hok
  refine h_boxv hok H (cl := [.int .i64 c.epoch, v1_c, .int .u64 c.floor]) rfl rfl rfl (by decide) rfl rfl rfl ?_; clear hok a H; intro a w1 b1 H hok
  refine h_boxv hok H (cl := [.int .i64 m.id, .int .i64 m.serial]) rfl rfl rfl (by decide) rfl rfl rfl ?_; clear hok a H; intro a w2 b2 H hok
  refine s_runk TB_YConf2 hok 1 rfl rfl ?_; clear hok a; intro a hok
  refine s_end hok [2, 3, 4, 6] rfl ?_; clear hok; intro hok
  refine p_then ?_
  refine wp_seq ?_
  obtain ⟨p, hx1, hF⟩ := bnd_in hF
  refine f_region hok ?_; clear hok; intro hok
  refine s_ob hok (v := .agg #[.int .i64 c.epoch, v1_c, .int .u64 c.floor]) rfl rfl (by decide) rfl (Ob_loads TB_YConf2 rfl rfl rfl ((H.bx 1 rfl).part 0 rfl)) ?_; clear hok a; intro a hok
  refine s_ob hok (v := .agg #[.int .i64 m.id, .int .i64 m.serial]) rfl rfl (by decide) rfl (Ob_loads TB_YConf2 rfl rfl rfl ((H.bx 0 rfl).part 0 rfl)) ?_; clear hok a; intro a hok
  refine h_call hok H (js := [(2, true)]) rfl (caps := #[]) fn_11_YConf2 rfl rfl rfl rfl rfl (by decide) rfl rfl (fun D1 hS => have hq := c_conf_Place hx1 hS; hq) ?_; clear hok a; intro vv a w3 D2 hr hF2 hok
  obtain ⟨rfl, I1, K⟩ := hr
  have H : Hf I D w I1 w3 [BxC b2 29 [.int .i64 m.id, .int .i64 m.serial], BxC b1 25 [.int .i64 c.epoch, v1_c, .int .u64 c.floor], SlC NEMember v1_c c.members] := hF2 K
  clear hF2 K
  refine s_runk TB_YConf2 hok 1 rfl rfl ?_; clear hok a; intro a hok
  refine s_end hok [2, 3, 6, 7] rfl ?_; clear hok; intro hok
  refine p_then ?_
  refine wp_seq ?_
  refine wp_seq ?_
  obtain ⟨hg1, hF⟩ := chk_in hF
  obtain ⟨hg2, hF⟩ := chk_in hF
  refine f_region hok ?_; clear hok; intro hok
  refine s_runk TB_YConf2 hok 3 rfl rfl ?_; clear hok a; intro a hok
  refine g_ob hok (p := (!(decide (p < 0)))) (v := .int .i64 p) (S' := [(7, .int .i64 p)]) rfl rfl rfl (wantB_f _) rfl (by decide) (fun hp hS => hS.sub (ts := [7]) rfl) (fun hp => Ob_c TB_YConf2 rfl) ?_; clear hok a; intro a hok
  refine g_ob hok (p := (!(decide (p < 0)))) (v := .int .i64 d) (S' := [(2, .int .i64 d)]) rfl rfl rfl (wantB_f _) rfl (by decide) (fun hp hS => hS.sub (ts := [2]) rfl) (fun hp => Ob_c TB_YConf2 rfl) ?_; clear hok a; intro a hok
  refine g_ob hok (p := (!(decide (p < 0)))) (v := .int .i64 (p + d)) (S' := [(14, .int .i64 p), (15, .int .i64 d)]) rfl rfl rfl (wantB_f _) rfl (by decide) (fun hp hS => ((hS.conv (t := 14) rfl (cond_t hp)).conv (t := 15) rfl (cond_t hp)).sub (ts := [14, 15]) rfl) (fun hp => Ob_add rfl rfl rfl (wrI (hg1 hp))) ?_; clear hok a; intro a hok
  refine g_ob hok (p := (!(decide (p < 0)))) (v := .bool (decide (p + d < 0))) (S' := [(16, .int .i64 (p + d))]) rfl rfl rfl (wantB_f _) rfl (by decide) (fun hp hS => (hS.conv (t := 16) rfl (cond_t hp)).sub (ts := [16]) rfl) (fun hp => Ob_c TB_YConf2 rfl) ?_; clear hok a; intro a hok
  refine s_ob hok (v := .bool ((decide (p < 0)) || (decide (p + d < 0)))) rfl rfl (by decide) rfl (Ob_pick rfl rfl rfl rfl (pick_or _ _)) ?_; clear hok a; intro a hok
  refine s_runk TB_YConf2 hok 1 rfl rfl ?_; clear hok a; intro a hok
  refine g_ob hok (p := (!((decide (p < 0)) || (decide (p + d < 0))))) (v := .int .i64 p) (S' := [(7, .int .i64 p)]) rfl rfl rfl (wantB_f _) rfl (by decide) (fun hp hS => hS.sub (ts := [7]) rfl) (fun hp => Ob_c TB_YConf2 rfl) ?_; clear hok a; intro a hok
  refine g_ob hok (p := (!((decide (p < 0)) || (decide (p + d < 0))))) (v := .int .i64 d) (S' := [(2, .int .i64 d)]) rfl rfl rfl (wantB_f _) rfl (by decide) (fun hp hS => hS.sub (ts := [2]) rfl) (fun hp => Ob_c TB_YConf2 rfl) ?_; clear hok a; intro a hok
  refine g_ob hok (p := (!((decide (p < 0)) || (decide (p + d < 0))))) (v := .int .i64 (p + d)) (S' := [(20, .int .i64 p), (21, .int .i64 d)]) rfl rfl rfl (wantB_f _) rfl (by decide) (fun hp hS => ((hS.conv (t := 20) rfl (cond_t hp)).conv (t := 21) rfl (cond_t hp)).sub (ts := [20, 21]) rfl) (fun hp => Ob_add rfl rfl rfl (wrI (hg2 hp))) ?_; clear hok a; intro a hok
  refine g_ob hok (p := (!((decide (p < 0)) || (decide (p + d < 0))))) (v := .pointer (some ⟨b1, 1, none⟩)) (S' := [(3, .pointer (some ⟨b1, 0, none⟩))]) rfl rfl rfl (wantB_f _) rfl (by decide) (fun hp hS => hS.sub (ts := [3]) rfl) (fun hp => Ob_c TB_YConf2 rfl) ?_; clear hok a; intro a hok
  refine g_ob hok (p := (!((decide (p < 0)) || (decide (p + d < 0))))) (v := v1_c) (S' := [(23, .pointer (some ⟨b1, 1, none⟩))]) rfl rfl rfl (wantB_f _) rfl (by decide) (fun hp hS => (hS.conv (t := 23) rfl (cond_t hp)).sub (ts := [23]) rfl) (fun hp => Ob_load TB_YConf2 rfl rfl rfl ((H.bx 1 rfl).cell 1 rfl)) ?_; clear hok a; intro a hok
  refine g_ob hok (p := (!((decide (p < 0)) || (decide (p + d < 0))))) (v := .int .i64 (c.members.length : Int)) (S' := [(24, v1_c)]) rfl rfl rfl (wantB_f _) rfl (by decide) (fun hp hS => (hS.conv (t := 24) rfl (cond_t hp)).sub (ts := [24]) rfl) (fun hp => Ob_slen TB_YConf2 rfl rfl rfl (H.slshape 2 rfl)) ?_; clear hok a; intro a hok
  refine g_ob hok (p := (!((decide (p < 0)) || (decide (p + d < 0))))) (v := .bool (decide (p + d ≥ (c.members.length : Int)))) (S' := [(22, .int .i64 (p + d)), (25, .int .i64 (c.members.length : Int))]) rfl rfl rfl (wantB_f _) rfl (by decide) (fun hp hS => ((hS.conv (t := 22) rfl (cond_t hp)).conv (t := 25) rfl (cond_t hp)).sub (ts := [22, 25]) rfl) (fun hp => Ob_c TB_YConf2 rfl) ?_; clear hok a; intro a hok
  refine s_ob hok (v := .bool (((decide (p < 0)) || (decide (p + d < 0))) || (decide (p + d ≥ (c.members.length : Int))))) rfl rfl (by decide) rfl (Ob_pick rfl rfl rfl rfl (pick_or _ _)) ?_; clear hok a; intro a hok
  refine s_end hok [2, 3, 6, 7, 27] rfl ?_; clear hok; intro hok
  refine p_then ?_
  refine f_cond hok rfl (fun hc1 => ?_) (fun hc1 => ?_)
  · replace hF := ite_t hc1 hF
    refine wp_seq ?_
    refine f_region hok ?_; clear hok; intro hok
    refine s_runk TB_YConf2 hok 1 rfl rfl ?_; clear hok a; intro a hok
    refine s_end hok [2, 3, 6, 7] rfl ?_; clear hok; intro hok
    refine p_then ?_
    refine wp_ret ?_
    refine p_then_r ?_
    obtain rfl := some_in hF
    exact f_ret hok (run_results1 rfl hok rfl) ⟨rfl, I1, (H.sub [] rfl).eq rfl⟩
  · replace hF := ite_f hc1 hF
    refine wp_skip ?_
    refine p_then ?_
    refine wp_seq ?_
    obtain ⟨hg3, hF⟩ := chk_in hF
    obtain ⟨hg4, hF⟩ := chk_in hF
    refine f_region hok ?_; clear hok; intro hok
    refine s_runk TB_YConf2 hok 1 rfl rfl ?_; clear hok a; intro a hok
    refine s_ob hok (v := v1_c) rfl rfl (by decide) rfl (Ob_load TB_YConf2 rfl rfl rfl ((H.bx 1 rfl).cell 1 rfl)) ?_; clear hok a; intro a hok
    refine s_runk TB_YConf2 hok 2 rfl rfl ?_; clear hok a; intro a hok
    refine s_ob hok (v := .int .i64 (p + d)) rfl rfl (by decide) rfl (Ob_add rfl rfl rfl (wrI hg3)) ?_; clear hok a; intro a hok
    refine s_ob hok (v := .pointer (some ⟨blkOf v1_c, oofOf v1_c + (p + d).toNat * 2, none⟩)) rfl rfl (by decide) rfl (Ob_sidx TB_YConf2 rfl rfl rfl rfl (slPl (H.sl 2 rfl) hg4) hg4) ?_; clear hok a; intro a hok
    refine s_runk TB_YConf2 hok 1 rfl rfl ?_; clear hok a; intro a hok
    refine s_ob hok (v := .int .i64 ((c.members.getD (p + d).toNat default).id)) rfl rfl (by decide) rfl (Ob_load TB_YConf2 rfl rfl rfl ((slFl (H.sl 2 rfl) hg4) 0 _ rfl)) ?_; clear hok a; intro a hok
    refine s_runk TB_YConf2 hok 1 rfl rfl ?_; clear hok a; intro a hok
    refine s_end hok [6] rfl ?_; clear hok; intro hok
    refine p_then ?_
    refine wp_ret ?_
    obtain rfl := some_in hF
    exact f_ret hok (run_results1 rfl hok rfl) ⟨rfl, I1, (H.sub [] rfl).eq rfl⟩

def F_conf_Behind (c : EConf) (m : EMember) : Option Int := (F_conf_by c m 1).bind fun b => (some b)

set_option maxHeartbeats 1000000 in
theorem c_conf_Behind {I D : Dm} {c : EConf} {v1_c : Value} {m : EMember} {w : World} {rr : Int} (hF : F_conf_Behind c m = some rr) (H : St I D w [SlC NEMember v1_c c.members]) :
    Calls Try.prog 10 #[.agg #[.int .i64 c.epoch, v1_c, .int .u64 c.floor], .agg #[.int .i64 m.id, .int .i64 m.serial]] w (Ret fun vv w' => vv = .int .i64 rr ∧ ∃ I', Hf I D w I' w' []) := by
  replace H := H.hf
  unfold F_conf_Behind at hF
  refine f_enter 8 Try.func10 rfl rfl (Nat.le_of_ble_eq_true rfl) fun a hok => ?_
  replace hok := hok.sub (ts := [0, 1]) rfl
  refine wp_seq ?_
  refine f_region hok ?_; clear hok; intro hok
  refine h_boxv hok H (cl := [.int .i64 c.epoch, v1_c, .int .u64 c.floor]) rfl rfl rfl (by decide) rfl rfl rfl ?_; clear hok a H; intro a w1 b1 H hok
  refine h_boxv hok H (cl := [.int .i64 m.id, .int .i64 m.serial]) rfl rfl rfl (by decide) rfl rfl rfl ?_; clear hok a H; intro a w2 b2 H hok
  refine s_runk TB_YConf2 hok 1 rfl rfl ?_; clear hok a; intro a hok
  refine s_end hok [2, 3, 4] rfl ?_; clear hok; intro hok
  refine p_then ?_
  refine wp_seq ?_
  obtain ⟨b, hx1, hF⟩ := bnd_in hF
  refine f_region hok ?_; clear hok; intro hok
  refine s_ob hok (v := .agg #[.int .i64 c.epoch, v1_c, .int .u64 c.floor]) rfl rfl (by decide) rfl (Ob_loads TB_YConf2 rfl rfl rfl ((H.bx 1 rfl).part 0 rfl)) ?_; clear hok a; intro a hok
  refine s_ob hok (v := .agg #[.int .i64 m.id, .int .i64 m.serial]) rfl rfl (by decide) rfl (Ob_loads TB_YConf2 rfl rfl rfl ((H.bx 0 rfl).part 0 rfl)) ?_; clear hok a; intro a hok
  refine h_call hok H (js := [(2, true)]) rfl (caps := #[]) fn_26_YConf2 rfl rfl rfl rfl rfl (by decide) rfl rfl (fun D1 hS => have hq := c_conf_by hx1 hS; hq) ?_; clear hok a; intro vv a w3 D2 hr hF2 hok
  obtain ⟨rfl, I1, K⟩ := hr
  have H : Hf I D w I1 w3 [BxC b2 29 [.int .i64 m.id, .int .i64 m.serial], BxC b1 25 [.int .i64 c.epoch, v1_c, .int .u64 c.floor], SlC NEMember v1_c c.members] := hF2 K
  clear hF2 K
  refine s_runk TB_YConf2 hok 1 rfl rfl ?_; clear hok a; intro a hok
  refine s_end hok [4] rfl ?_; clear hok; intro hok
  refine p_then ?_
  refine wp_ret ?_
  obtain rfl := some_in hF
  exact f_ret hok (run_results1 rfl hok rfl) ⟨rfl, I1, (H.sub [] rfl).eq rfl⟩

def F_conf_Head (c : EConf) : Option Int := if ((c.members.length : Int) == 0) = true then (some (-1)) else (chk ((0 : Int) ≤ 0 ∧ 0 < (c.members.length : Int)) (some ((c.members.getD (0 : Int).toNat default).id)))

set_option maxHeartbeats 1000000 in
theorem c_conf_Head {I D : Dm} {c : EConf} {v1_c : Value} {w : World} {rr : Int} (hF : F_conf_Head c = some rr) (H : St I D w [SlC NEMember v1_c c.members]) :
    Calls Try.prog 9 #[.agg #[.int .i64 c.epoch, v1_c, .int .u64 c.floor]] w (Ret fun vv w' => vv = .int .i64 rr ∧ ∃ I', Hf I D w I' w' []) := by
  replace H := H.hf
  unfold F_conf_Head at hF
  refine f_enter 12 Try.func9 rfl rfl (Nat.le_of_ble_eq_true rfl) fun a hok => ?_
  replace hok := hok.sub (ts := [0]) rfl
  refine wp_seq ?_
  refine f_region hok ?_; clear hok; intro hok
  refine h_boxv hok H (cl := [.int .i64 c.epoch, v1_c, .int .u64 c.floor]) rfl rfl rfl (by decide) rfl rfl rfl ?_; clear hok a H; intro a w1 b1 H hok
  refine s_runk TB_YConf2 hok 1 rfl rfl ?_; clear hok a; intro a hok
  refine s_end hok [1, 2] rfl ?_; clear hok; intro hok
  refine p_then ?_
  refine wp_seq ?_
  refine wp_seq ?_
  refine f_region hok ?_; clear hok; intro hok
  refine s_runk TB_YConf2 hok 1 rfl rfl ?_; clear hok a; intro a hok
  refine s_ob hok (v := v1_c) rfl rfl (by decide) rfl (Ob_load TB_YConf2 rfl rfl rfl ((H.bx 0 rfl).cell 1 rfl)) ?_; clear hok a; intro a hok
  refine s_ob hok (v := .int .i64 (c.members.length : Int)) rfl rfl (by decide) rfl (Ob_slen TB_YConf2 rfl rfl rfl (H.slshape 1 rfl)) ?_; clear hok a; intro a hok
  refine s_runk TB_YConf2 hok 1 rfl rfl ?_; clear hok a; intro a hok
  refine s_end hok [1, 2, 6] rfl ?_; clear hok; intro hok
  refine p_then ?_
  refine f_cond hok rfl (fun hc1 => ?_) (fun hc1 => ?_)
  · replace hF := ite_t hc1 hF
    refine wp_seq ?_
    refine f_region hok ?_; clear hok; intro hok
    refine s_runk TB_YConf2 hok 1 rfl rfl ?_; clear hok a; intro a hok
    refine s_end hok [1, 2] rfl ?_; clear hok; intro hok
    refine p_then ?_
    refine wp_ret ?_
    refine p_then_r ?_
    obtain rfl := some_in hF
    exact f_ret hok (run_results1 rfl hok rfl) ⟨rfl, I, (H.sub [] rfl).eq rfl⟩
  · replace hF := ite_f hc1 hF
    refine wp_skip ?_
    refine p_then ?_
    refine wp_seq ?_
    obtain ⟨hg1, hF⟩ := chk_in hF
    refine f_region hok ?_; clear hok; intro hok
    refine s_runk TB_YConf2 hok 1 rfl rfl ?_; clear hok a; intro a hok
    refine s_ob hok (v := v1_c) rfl rfl (by decide) rfl (Ob_load TB_YConf2 rfl rfl rfl ((H.bx 0 rfl).cell 1 rfl)) ?_; clear hok a; intro a hok
    refine s_ob hok (v := .pointer (some ⟨blkOf v1_c, oofOf v1_c + (0 : Int).toNat * 2, none⟩)) rfl rfl (by decide) rfl (Ob_sidx TB_YConf2 rfl rfl rfl rfl (slPl (H.sl 1 rfl) hg1) hg1) ?_; clear hok a; intro a hok
    refine s_runk TB_YConf2 hok 1 rfl rfl ?_; clear hok a; intro a hok
    refine s_ob hok (v := .int .i64 ((c.members.getD (0 : Int).toNat default).id)) rfl rfl (by decide) rfl (Ob_load TB_YConf2 rfl rfl rfl ((slFl (H.sl 1 rfl) hg1) 0 _ rfl)) ?_; clear hok a; intro a hok
    refine s_runk TB_YConf2 hok 1 rfl rfl ?_; clear hok a; intro a hok
    refine s_end hok [2] rfl ?_; clear hok; intro hok
    refine p_then ?_
    refine wp_ret ?_
    obtain rfl := some_in hF
    exact f_ret hok (run_results1 rfl hok rfl) ⟨rfl, I, (H.sub [] rfl).eq rfl⟩

def F_conf_Tail (c : EConf) : Option Int := if ((c.members.length : Int) == 0) = true then (some (-1)) else (chk (inI ((c.members.length : Int) - 1)) (chk ((0 : Int) ≤ (c.members.length : Int) - 1 ∧ (c.members.length : Int) - 1 < (c.members.length : Int)) (some ((c.members.getD ((c.members.length : Int) - 1).toNat default).id))))

set_option maxHeartbeats 1000000 in
theorem c_conf_Tail {I D : Dm} {c : EConf} {v1_c : Value} {w : World} {rr : Int} (hF : F_conf_Tail c = some rr) (H : St I D w [SlC NEMember v1_c c.members]) :
    Calls Try.prog 13 #[.agg #[.int .i64 c.epoch, v1_c, .int .u64 c.floor]] w (Ret fun vv w' => vv = .int .i64 rr ∧ ∃ I', Hf I D w I' w' []) := by
  replace H := H.hf
  unfold F_conf_Tail at hF
  refine f_enter 16 Try.func13 rfl rfl (Nat.le_of_ble_eq_true rfl) fun a hok => ?_
  replace hok := hok.sub (ts := [0]) rfl
  refine wp_seq ?_
  refine f_region hok ?_; clear hok; intro hok
  refine h_boxv hok H (cl := [.int .i64 c.epoch, v1_c, .int .u64 c.floor]) rfl rfl rfl (by decide) rfl rfl rfl ?_; clear hok a H; intro a w1 b1 H hok
  refine s_runk TB_YConf2 hok 1 rfl rfl ?_; clear hok a; intro a hok
  refine s_end hok [1, 2] rfl ?_; clear hok; intro hok
  refine p_then ?_
  refine wp_seq ?_
  refine wp_seq ?_
  refine f_region hok ?_; clear hok; intro hok
  refine s_runk TB_YConf2 hok 1 rfl rfl ?_; clear hok a; intro a hok
  refine s_ob hok (v := v1_c) rfl rfl (by decide) rfl (Ob_load TB_YConf2 rfl rfl rfl ((H.bx 0 rfl).cell 1 rfl)) ?_; clear hok a; intro a hok
  refine s_ob hok (v := .int .i64 (c.members.length : Int)) rfl rfl (by decide) rfl (Ob_slen TB_YConf2 rfl rfl rfl (H.slshape 1 rfl)) ?_; clear hok a; intro a hok
  refine s_runk TB_YConf2 hok 1 rfl rfl ?_; clear hok a; intro a hok
  refine s_end hok [1, 2, 6] rfl ?_; clear hok; intro hok
  refine p_then ?_
  refine f_cond hok rfl (fun hc1 => ?_) (fun hc1 => ?_)
  · replace hF := ite_t hc1 hF
    refine wp_seq ?_
    refine f_region hok ?_; clear hok; intro hok
    refine s_runk TB_YConf2 hok 1 rfl rfl ?_; clear hok a; intro a hok
    refine s_end hok [1, 2] rfl ?_; clear hok; intro hok
    refine p_then ?_
    refine wp_ret ?_
    refine p_then_r ?_
    obtain rfl := some_in hF
    exact f_ret hok (run_results1 rfl hok rfl) ⟨rfl, I, (H.sub [] rfl).eq rfl⟩
  · replace hF := ite_f hc1 hF
    refine wp_skip ?_
    refine p_then ?_
    refine wp_seq ?_
    obtain ⟨hg1, hF⟩ := chk_in hF
    obtain ⟨hg2, hF⟩ := chk_in hF
    refine f_region hok ?_; clear hok; intro hok
    refine s_runk TB_YConf2 hok 1 rfl rfl ?_; clear hok a; intro a hok
    refine s_ob hok (v := v1_c) rfl rfl (by decide) rfl (Ob_load TB_YConf2 rfl rfl rfl ((H.bx 0 rfl).cell 1 rfl)) ?_; clear hok a; intro a hok
    refine s_runk TB_YConf2 hok 1 rfl rfl ?_; clear hok a; intro a hok
    refine s_ob hok (v := v1_c) rfl rfl (by decide) rfl (Ob_load TB_YConf2 rfl rfl rfl ((H.bx 0 rfl).cell 1 rfl)) ?_; clear hok a; intro a hok
    refine s_ob hok (v := .int .i64 (c.members.length : Int)) rfl rfl (by decide) rfl (Ob_slen TB_YConf2 rfl rfl rfl (H.slshape 1 rfl)) ?_; clear hok a; intro a hok
    refine s_ob hok (v := .int .i64 ((c.members.length : Int) - 1)) rfl rfl (by decide) rfl (Ob_sub rfl rfl rfl (wrI hg1)) ?_; clear hok a; intro a hok
    refine s_ob hok (v := .pointer (some ⟨blkOf v1_c, oofOf v1_c + ((c.members.length : Int) - 1).toNat * 2, none⟩)) rfl rfl (by decide) rfl (Ob_sidx TB_YConf2 rfl rfl rfl rfl (slPl (H.sl 1 rfl) hg2) hg2) ?_; clear hok a; intro a hok
    refine s_runk TB_YConf2 hok 1 rfl rfl ?_; clear hok a; intro a hok
    refine s_ob hok (v := .int .i64 ((c.members.getD ((c.members.length : Int) - 1).toNat default).id)) rfl rfl (by decide) rfl (Ob_load TB_YConf2 rfl rfl rfl ((slFl (H.sl 1 rfl) hg2) 0 _ rfl)) ?_; clear hok a; intro a hok
    refine s_runk TB_YConf2 hok 1 rfl rfl ?_; clear hok a; intro a hok
    refine s_end hok [2] rfl ?_; clear hok; intro hok
    refine p_then ?_
    refine wp_ret ?_
    obtain rfl := some_in hF
    exact f_ret hok (run_results1 rfl hok rfl) ⟨rfl, I, (H.sub [] rfl).eq rfl⟩

end Go.Proofs.Ytnkieaolhbmfpaa
