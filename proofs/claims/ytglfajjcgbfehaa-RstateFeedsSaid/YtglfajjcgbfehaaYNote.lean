/- Small texts in one. -/
import Derived.Test.YtglfajjcgbfehaaYMv2
namespace Go.Proofs.Ytglfajjcgbfehaa
open Go.RowKit
def tCL : TabL := ⟨[(31744, 0), (31745, 1), (117760, 0), (117761, 1)], [], [], [(29, (115, 2))], [(3, (1, false)), (29, (1, false)), (31, (3, true)), (115, (2, true))]⟩

def tC : Tab Try.prog := ⟨tCL, by kernel_rfl⟩

theorem fn_80_YConf : IsFn Try.prog 80 := ⟨_, Try.func80, by kernel_rfl, by kernel_rfl⟩

theorem fn_94_YConf : IsFn Try.prog 94 := ⟨_, Try.func94, by kernel_rfl, by kernel_rfl⟩

theorem fn_95_YConf : IsFn Try.prog 95 := ⟨_, Try.func95, by kernel_rfl, by kernel_rfl⟩

theorem fn_98_YConf : IsFn Try.prog 98 := ⟨_, Try.func98, by kernel_rfl, by kernel_rfl⟩

def F_conf_one_1 (x : EMember) (p1 : EMember) : Option Bool := some (x.id == p1.id)

set_option maxHeartbeats 1000000 in
theorem c_conf_one_1 {I D : Dm} {x : EMember} {b_p1 : Nat} {p1 : EMember} {w : World} {rr : Bool} (hF : F_conf_one_1 x p1 = some rr) (H : St I D w [BxC b_p1 115 [vI p1.id, vI p1.serial]]) :
  Calls Try.prog 94 #[.agg #[vI x.id, vI x.serial], pp b_p1 0] w (Ret fun vv w' => vv = vT rr ∧ ∃ I', Hf I D w I' w' [BxC b_p1 115 [vI p1.id, vI p1.serial]]) := by
 replace H := H.hf
 unfold F_conf_one_1 at hF
 refine f_enter 9 Try.func94 rfl rfl (Nat.le_of_ble_eq_true rfl) fun a Z => ?_
 replace Z := Z.sub (ts := [0, 1]) rfl
 refine wp_seq (f_region Z ?_); clear Z; intro Z
 refine hB Z H [vI x.id, vI x.serial] rfl rfl rfl rfl fun a w1 b1 H Z => ?_
 refine s_runk tC Z 1 rfl rfl fun a Z => ?_
 refine s_end Z [1, 2, 3] rfl fun Z => ?_
 refine p_then (wp_seq (f_region Z ?_)); clear Z; intro Z
 refine s_runk tC Z 1 rfl rfl fun a Z => ?_
 refine sO Z _ rfl (oL tC rfl rfl (H.bc 0 0 rfl rfl)) fun a Z => ?_
 refine s_runk tC Z 1 rfl rfl fun a Z => ?_
 refine sO Z _ rfl (oL tC rfl rfl (H.bc 1 0 rfl rfl)) fun a Z => ?_
 refine s_runk tC Z 2 rfl rfl fun a Z => ?_
 refine s_end Z [3] rfl fun Z => ?_
 refine p_then (wp_ret ?_)
 obtain rfl := some_in hF
 exact f_ret Z (run_results1 rfl Z rfl) ⟨rfl, I, (H.sub [(1, false)] rfl).eq rfl⟩

def F_slices_IndexFunc_api_Member_api_Member__conf_one_1_l1 (s0 : List EMember) (p1 : EMember) (rc : Int → Option Int) (sg : Int) : Option Int := match sg with | x => if (decide (x < (s0.length : Int))) = true then (chk ((0 : Int) ≤ x ∧ x < (s0.length : Int)) ((F_conf_one_1 (s0.getD (x).toNat default) p1).bind fun x0 => (if (x0) = true then (some x) else (chk (inI (x + 1)) (rc (x + 1)))))) else (some (-1))

def F_slices_IndexFunc_api_Member_api_Member__conf_one_1 (s0 : List EMember) (p1 : EMember) : Option Int := iter (F_slices_IndexFunc_api_Member_api_Member__conf_one_1_l1 s0 p1) FU 0

set_option maxHeartbeats 1000000 in
theorem c_slices_IndexFunc_api_Member_api_Member__conf_one_1 {I D : Dm} {s0 : List EMember} {v1_s0 : Value} {b_p1 : Nat} {p1 : EMember} {w : World} {rr : Int} (hF : F_slices_IndexFunc_api_Member_api_Member__conf_one_1 s0 p1 = some rr) (H : St I D w [SlC NEMember v1_s0 s0, BxC b_p1 115 [vI p1.id, vI p1.serial]]) :
  Calls Try.prog 98 #[v1_s0, .func (.func 94) #[] #[pp b_p1 0]] w (Ret fun vv w' => vv = vI rr ∧ ∃ I', Hf I D w I' w' [BxC b_p1 115 [vI p1.id, vI p1.serial]]) := by
 replace H := H.hf
 unfold F_slices_IndexFunc_api_Member_api_Member__conf_one_1 at hF
 refine f_enter 19 Try.func98 rfl rfl (Nat.le_of_ble_eq_true rfl) fun a Z => ?_
 replace Z := Z.sub (ts := [0, 1]) rfl
 refine wp_seq (f_region Z ?_); clear Z; intro Z
 refine s_runk tC Z 1 rfl rfl fun a Z => ?_
 refine s_end Z [0, 1, 4] rfl fun Z => ?_
 refine p_then (wp_seq ?_)
 refine wp_seq (f_region Z ?_); clear Z; intro Z
 refine s_runk tC Z 1 rfl rfl fun a Z => ?_
 refine sO Z (vI (ln s0)) rfl (Ob_slen tC rfl rfl rfl (H.slshape 0 rfl)) fun a Z => ?_
 refine s_runk tC Z 1 rfl rfl fun a Z => ?_
 refine s_end Z [0, 1, 4, 7, 8] rfl fun Z => ?_
 refine p_then (wp_block ?_)
 refine f_iter hF (fun sg a' w' => match sg with | x => Sl 19 [(0, v1_s0), (1, .func (.func 94) #[] #[pp b_p1 0]), (4, vI 0), (7, vI (ln s0)), (8, vI x)] a' ∧ ∃ I2, Hf I D w I2 w' [BxC b_p1 115 [vI p1.id, vI p1.serial], SlC NEMember v1_s0 s0]) ⟨Z.sub (ts := [0, 1, 4, 7, 8]) rfl, ⟨I, (H.sub [(1, false), (0, true)] rfl).eq rfl⟩⟩ ?_
 rintro rc x a w1 ⟨Z, I1, H⟩ hF
 unfold F_slices_IndexFunc_api_Member_api_Member__conf_one_1_l1 at hF
 try dsimp only at hF
 refine wp_seq (f_region Z ?_); clear Z; intro Z
 refine s_runk tC Z 1 rfl rfl fun a Z => ?_
 refine s_end Z [0, 1, 4, 7, 8, 9] rfl fun Z => ?_
 refine p_then (wp_seq ?_)
 refine f_cond Z rfl (fun hc1 => ?_) (fun hc1 => ?_)
 ·replace hF := ite_t hc1 hF
  refine wp_skip ?_
  refine p_then (wp_seq ?_)
  refine wp_block ?_
  refine wp_seq (f_region Z ?_); clear Z; intro Z
  refine s_runk tC Z 2 rfl rfl fun a Z => ?_
  refine s_end Z [0, 1, 4, 7, 8, 9, 10, 5] rfl fun Z => ?_
  refine p_then (wp_seq ?_)
  obtain ⟨hg1, hF⟩ := chk_in hF
  obtain ⟨x0, hx1, hF⟩ := bnd_in hF
  refine f_region Z fun Z => ?_
  refine s_runk tC Z 3 rfl rfl fun a Z => ?_
  refine sO Z (.pointer (some ⟨blkOf v1_s0, oofOf v1_s0 + (x).toNat * 2, none⟩)) rfl (Ob_sidx tC rfl rfl rfl rfl (slPl (H.sl 1 rfl) hg1) hg1) fun a Z => ?_
  refine sO Z (.agg #[vI ((gi s0 x).id), vI ((gi s0 x).serial)]) rfl (oA tC rfl rfl ((slFl (H.sl 1 rfl) hg1).part 0 rfl)) fun a Z => ?_
  refine hC Z H [(0, false)] rfl #[pp b_p1 0] fn_94_YConf rfl rfl (fun D h => have q := c_conf_one_1 hx1 h; q) fun vv a w2 D2 hr hF2 Z => ?_
  obtain ⟨rfl, I2, K⟩ := hr
  have H := (hF2 K).nf rfl
  refine s_end Z [0, 1, 4, 7, 8, 9, 10, 5, 11, 12, 13, 14, 15, 16] rfl fun Z => ?_
  refine p_then ?_
  refine f_cond Z rfl (fun hc2 => ?_) (fun hc2 => ?_)
  ·replace hF := ite_t hc2 hF
   refine wp_seq (f_region Z ?_); clear Z; intro Z
   refine s_runk tC Z 2 rfl rfl fun a Z => ?_
   refine s_end Z [0, 1, 4, 7, 8, 9, 10, 5, 11, 12, 13, 14, 15, 16, 17] rfl fun Z => ?_
   refine p_then (wp_ret ?_)
   refine p_blk_r ?_
   refine p_then_r ?_
   refine p_then_r ?_
   refine p_blk_r ?_
   refine p_then_r ?_
   obtain rfl := some_in hF
   exact f_ret Z (run_results1 rfl Z rfl) ⟨rfl, I2, (H.sub [(0, false)] rfl).eq rfl⟩
  ·replace hF := ite_f hc2 hF
   refine wp_skip ?_
   refine p_blk ?_
   refine p_then ?_
   obtain ⟨hg2, hF⟩ := chk_in hF
   refine f_region Z fun Z => ?_
   refine sO Z (vI (x + 1)) rfl (Ob_add rfl rfl rfl (wrI hg2)) fun a Z => ?_
   refine s_runk tC Z 1 rfl rfl fun a Z => ?_
   refine s_end Z [0, 1, 4, 7, 8, 9, 10, 5, 11, 12, 13, 14, 15, 16, 18] rfl fun Z => ?_
   refine p_then ?_
   exact ⟨(x + 1), ⟨Z.sub (ts := [0, 1, 4, 7, 8]) rfl, ⟨I2, (H.sub [(0, false), (0, true)] rfl).eq rfl⟩⟩, hF⟩
 ·replace hF := ite_f hc1 hF
  refine wp_exit ?_
  refine p_then_x ?_
  refine p_then_x ?_
  refine f_exit_here ?_
  refine p_then (wp_seq (f_region Z ?_)); clear Z; intro Z
  refine s_runk tC Z 1 rfl rfl fun a Z => ?_
  refine s_end Z [4] rfl fun Z => ?_
  refine p_then (wp_ret ?_)
  obtain rfl := some_in hF
  exact f_ret Z (run_results1 rfl Z rfl) ⟨rfl, I1, (H.sub [(0, false)] rfl).eq rfl⟩

def F_slices_ContainsFunc_api_Member_api_Member__conf_one_1 (s0 : List EMember) (p1 : EMember) : Option Bool := (F_slices_IndexFunc_api_Member_api_Member__conf_one_1 s0 p1).bind fun x0 => (some (decide (x0 ≥ 0)))

set_option maxHeartbeats 1000000 in
theorem c_slices_ContainsFunc_api_Member_api_Member__conf_one_1 {I D : Dm} {s0 : List EMember} {v1_s0 : Value} {b_p1 : Nat} {p1 : EMember} {w : World} {rr : Bool} (hF : F_slices_ContainsFunc_api_Member_api_Member__conf_one_1 s0 p1 = some rr) (H : St I D w [SlC NEMember v1_s0 s0, BxC b_p1 115 [vI p1.id, vI p1.serial]]) :
  Calls Try.prog 95 #[v1_s0, .func (.func 94) #[] #[pp b_p1 0]] w (Ret fun vv w' => vv = vT rr ∧ ∃ I', Hf I D w I' w' [BxC b_p1 115 [vI p1.id, vI p1.serial]]) := by
 replace H := H.hf
 unfold F_slices_ContainsFunc_api_Member_api_Member__conf_one_1 at hF
 refine f_enter 9 Try.func95 rfl rfl (Nat.le_of_ble_eq_true rfl) fun a Z => ?_
 replace Z := Z.sub (ts := [0, 1]) rfl
 refine wp_seq (f_region Z ?_); clear Z; intro Z
 refine s_runk tC Z 1 rfl rfl fun a Z => ?_
 refine s_end Z [0, 1, 4] rfl fun Z => ?_
 refine p_then (wp_seq ?_)
 obtain ⟨x0, hx1, hF⟩ := bnd_in hF
 refine f_region Z fun Z => ?_
 refine s_runk tC Z 2 rfl rfl fun a Z => ?_
 refine hC Z H [(0, true), (1, false)] rfl #[] fn_98_YConf rfl rfl (fun D h => have q := c_slices_IndexFunc_api_Member_api_Member__conf_one_1 hx1 h; q) fun vv a w1 D2 hr hF2 Z => ?_
 obtain ⟨rfl, I1, K⟩ := hr
 have H := (hF2 K).nf rfl
 refine s_runk tC Z 2 rfl rfl fun a Z => ?_
 refine s_end Z [4] rfl fun Z => ?_
 refine p_then (wp_ret ?_)
 obtain rfl := some_in hF
 exact f_ret Z (run_results1 rfl Z rfl) ⟨rfl, I1, (H.sub [(0, false)] rfl).eq rfl⟩

def F_conf_one (m : EMember) (ahead : List EMember) : Option Int := if ((decide (m.id < 0)) || (decide (m.id ≥ 4))) = true then (some 1) else (if ((decide (m.serial < 1)) || (decide (m.serial > 1073741824))) = true then (some 5) else ((F_slices_ContainsFunc_api_Member_api_Member__conf_one_1 ahead m).bind fun x0 => (if (x0) = true then (some 18) else (some 0))))

set_option maxHeartbeats 1000000 in
theorem c_conf_one {I D : Dm} {m : EMember} {ahead : List EMember} {v1_ahead : Value} {w : World} {rr : Int} (hF : F_conf_one m ahead = some rr) (H : St I D w [SlC NEMember v1_ahead ahead]) :
  Calls Try.prog 80 #[.agg #[vI m.id, vI m.serial], v1_ahead] w (Ret fun vv w' => vv = vI rr ∧ ∃ I', Hf I D w I' w' []) := by
 replace H := H.hf
 unfold F_conf_one at hF
 refine f_enter 29 Try.func80 rfl rfl (Nat.le_of_ble_eq_true rfl) fun a Z => ?_
 replace Z := Z.sub (ts := [0, 1]) rfl
 refine wp_seq (f_region Z ?_); clear Z; intro Z
 refine hB Z H [vI m.id, vI m.serial] rfl rfl rfl rfl fun a w1 b1 H Z => ?_
 refine s_runk tC Z 1 rfl rfl fun a Z => ?_
 refine s_end Z [1, 2, 4] rfl fun Z => ?_
 refine p_then (wp_seq (f_region Z ?_)); clear Z; intro Z
 refine s_runk tC Z 2 rfl rfl fun a Z => ?_
 refine s_end Z [1, 2, 4, 5] rfl fun Z => ?_
 refine p_then (wp_seq ?_)
 refine wp_block ?_
 refine wp_seq (f_region Z ?_); clear Z; intro Z
 refine s_runk tC Z 1 rfl rfl fun a Z => ?_
 refine sO Z _ rfl (oL tC rfl rfl (H.bc 0 0 rfl rfl)) fun a Z => ?_
 refine s_runk tC Z 2 rfl rfl fun a Z => ?_
 refine gO Z (pp b1 0) rfl (wantB_f _) (.n 2 rfl .z) (fun hp => Ob_c tC rfl) fun a Z => ?_
 refine gO Z _ rfl (wantB_f _) (.c 12 rfl id .z) (fun hp => oL tC rfl rfl (H.bc 0 0 rfl rfl)) fun a Z => ?_
 refine gO Z (vT (decide (m.id ≥ 4))) rfl (wantB_f _) (.c 13 rfl id .z) (fun hp => Ob_c tC rfl) fun a Z => ?_
 refine sO Z (vT ((decide (m.id < 0)) || (decide (m.id ≥ 4)))) rfl (Ob_pick rfl rfl rfl rfl (pick_or _ _)) fun a Z => ?_
 refine s_runk tC Z 1 rfl rfl fun a Z => ?_
 refine s_end Z [1, 2, 4, 5, 7] rfl fun Z => ?_
 refine p_then ?_
 refine f_cond Z rfl (fun hc1 => ?_) (fun hc1 => ?_)
 ·replace hF := ite_t hc1 hF
  refine wp_seq (f_region Z ?_); clear Z; intro Z
  refine s_runk tC Z 1 rfl rfl fun a Z => ?_
  refine s_end Z [4] rfl fun Z => ?_
  refine p_then (wp_ret ?_)
  refine p_blk_r ?_
  refine p_then_r ?_
  obtain rfl := some_in hF
  exact f_ret Z (run_results1 rfl Z rfl) ⟨rfl, I, (H.sub [] rfl).eq rfl⟩
 ·replace hF := ite_f hc1 hF
  refine wp_seq (f_region Z ?_); clear Z; intro Z
  refine s_runk tC Z 1 rfl rfl fun a Z => ?_
  refine sO Z _ rfl (oL tC rfl rfl (H.bc 0 1 rfl rfl)) fun a Z => ?_
  refine s_runk tC Z 2 rfl rfl fun a Z => ?_
  refine gO Z (pp b1 1) rfl (wantB_f _) (.n 2 rfl .z) (fun hp => Ob_c tC rfl) fun a Z => ?_
  refine gO Z _ rfl (wantB_f _) (.c 21 rfl id .z) (fun hp => oL tC rfl rfl (H.bc 0 1 rfl rfl)) fun a Z => ?_
  refine gO Z (vT (decide (m.serial > 1073741824))) rfl (wantB_f _) (.c 22 rfl id .z) (fun hp => Ob_c tC rfl) fun a Z => ?_
  refine sO Z (vT ((decide (m.serial < 1)) || (decide (m.serial > 1073741824)))) rfl (Ob_pick rfl rfl rfl rfl (pick_or _ _)) fun a Z => ?_
  refine s_runk tC Z 1 rfl rfl fun a Z => ?_
  refine s_end Z [1, 4, 5, 16] rfl fun Z => ?_
  refine p_then ?_
  refine f_cond Z rfl (fun hc2 => ?_) (fun hc2 => ?_)
  ·replace hF := ite_t hc2 hF
   refine wp_seq (f_region Z ?_); clear Z; intro Z
   refine s_runk tC Z 1 rfl rfl fun a Z => ?_
   refine s_end Z [4] rfl fun Z => ?_
   refine p_then (wp_ret ?_)
   refine p_blk_r ?_
   refine p_then_r ?_
   obtain rfl := some_in hF
   exact f_ret Z (run_results1 rfl Z rfl) ⟨rfl, I, (H.sub [] rfl).eq rfl⟩
  ·replace hF := ite_f hc2 hF
   refine wp_seq ?_
   obtain ⟨x0, hx1, hF⟩ := bnd_in hF
   refine f_region Z fun Z => ?_
   refine s_runk tC Z 2 rfl rfl fun a Z => ?_
   refine hC Z H [(1, true), (0, false)] rfl #[] fn_95_YConf rfl rfl (fun D h => have q := c_slices_ContainsFunc_api_Member_api_Member__conf_one_1 hx1 h; q) fun vv a w2 D2 hr hF2 Z => ?_
   obtain ⟨rfl, I1, K⟩ := hr
   have H := (hF2 K).nf rfl
   refine s_runk tC Z 1 rfl rfl fun a Z => ?_
   refine s_end Z [4, 25] rfl fun Z => ?_
   refine p_then ?_
   refine f_cond Z rfl (fun hc3 => ?_) (fun hc3 => ?_)
   ·replace hF := ite_t hc3 hF
    refine wp_seq (f_region Z ?_); clear Z; intro Z
    refine s_runk tC Z 1 rfl rfl fun a Z => ?_
    refine s_end Z [4] rfl fun Z => ?_
    refine p_then (wp_ret ?_)
    refine p_blk_r ?_
    refine p_then_r ?_
    obtain rfl := some_in hF
    exact f_ret Z (run_results1 rfl Z rfl) ⟨rfl, I1, (H.sub [] rfl).eq rfl⟩
   ·replace hF := ite_f hc3 hF
    refine wp_skip ?_
    refine p_blk ?_
    refine p_then (wp_seq (f_region Z ?_)); clear Z; intro Z
    refine s_runk tC Z 1 rfl rfl fun a Z => ?_
    refine s_end Z [4] rfl fun Z => ?_
    refine p_then (wp_ret ?_)
    obtain rfl := some_in hF
    exact f_ret Z (run_results1 rfl Z rfl) ⟨rfl, I1, (H.sub [] rfl).eq rfl⟩

def F_conf_Check_l1 (c : EConf) (rc : Int → Option Int) (sg : Int) : Option Int := match sg with | x => if (decide (x < (c.members.length : Int))) = true then (chk ((0 : Int) ≤ x ∧ x < (c.members.length : Int)) (chk ((0 : Int) ≤ x ∧ x ≤ (c.members.length : Int)) ((F_conf_one (c.members.getD (x).toNat default) (c.members.take ((x).toNat))).bind fun o => (if (o != 0) = true then (some o) else (chk (inI (x + 1)) (rc (x + 1))))))) else (some 0)

def F_conf_Check (c : EConf) : Option Int := if ((decide (c.epoch < 1)) || (decide (c.epoch > 1073741824))) = true then (some 5) else (if ((c.members.length : Int) == 0) = true then (some 7) else (if (decide ((c.members.length : Int) > 4)) = true then (some 6) else (iter (F_conf_Check_l1 c) FU 0)))

set_option maxHeartbeats 1000000 in
theorem c_conf_Check {I D : Dm} {c : EConf} {v1_c : Value} {w : World} {rr : Int} (hF : F_conf_Check c = some rr) (H : St I D w [SlC NEMember v1_c c.members]) :
  Calls Try.prog 56 #[.agg #[vI c.epoch, v1_c, vU c.floor]] w (Ret fun vv w' => vv = vI rr ∧ ∃ I', Hf I D w I' w' []) := by
 replace H := H.hf
 unfold F_conf_Check at hF
 refine f_enter 43 Try.func56 rfl rfl (Nat.le_of_ble_eq_true rfl) fun a Z => ?_
 replace Z := Z.sub (ts := [0]) rfl
 refine wp_seq (f_region Z ?_); clear Z; intro Z
 refine hB Z H [vI c.epoch, v1_c, vU c.floor] rfl rfl rfl rfl fun a w1 b1 H Z => ?_
 refine s_runk tC Z 1 rfl rfl fun a Z => ?_
 refine s_end Z [1, 2] rfl fun Z => ?_
 refine p_then (wp_seq ?_)
 refine wp_block ?_
 refine wp_seq (f_region Z ?_); clear Z; intro Z
 refine s_runk tC Z 1 rfl rfl fun a Z => ?_
 refine sO Z _ rfl (oL tC rfl rfl (H.bc 0 0 rfl rfl)) fun a Z => ?_
 refine s_runk tC Z 2 rfl rfl fun a Z => ?_
 refine gO Z (pp b1 0) rfl (wantB_f _) (.n 1 rfl .z) (fun hp => Ob_c tC rfl) fun a Z => ?_
 refine gO Z _ rfl (wantB_f _) (.c 11 rfl id .z) (fun hp => oL tC rfl rfl (H.bc 0 0 rfl rfl)) fun a Z => ?_
 refine gO Z (vT (decide (c.epoch > 1073741824))) rfl (wantB_f _) (.c 12 rfl id .z) (fun hp => Ob_c tC rfl) fun a Z => ?_
 refine sO Z (vT ((decide (c.epoch < 1)) || (decide (c.epoch > 1073741824)))) rfl (Ob_pick rfl rfl rfl rfl (pick_or _ _)) fun a Z => ?_
 refine s_runk tC Z 1 rfl rfl fun a Z => ?_
 refine s_end Z [1, 2, 6] rfl fun Z => ?_
 refine p_then ?_
 refine f_cond Z rfl (fun hc1 => ?_) (fun hc1 => ?_)
 ·replace hF := ite_t hc1 hF
  refine wp_seq (f_region Z ?_); clear Z; intro Z
  refine s_runk tC Z 1 rfl rfl fun a Z => ?_
  refine s_end Z [1, 2] rfl fun Z => ?_
  refine p_then (wp_ret ?_)
  refine p_blk_r ?_
  refine p_then_r ?_
  obtain rfl := some_in hF
  exact f_ret Z (run_results1 rfl Z rfl) ⟨rfl, I, (H.sub [] rfl).eq rfl⟩
 ·replace hF := ite_f hc1 hF
  refine wp_seq (f_region Z ?_); clear Z; intro Z
  refine s_runk tC Z 1 rfl rfl fun a Z => ?_
  refine sO Z _ rfl (oL tC rfl rfl (H.bc 0 1 rfl rfl)) fun a Z => ?_
  refine sO Z (vI (ln c.members)) rfl (Ob_slen tC rfl rfl rfl (H.slshape 1 rfl)) fun a Z => ?_
  refine s_runk tC Z 2 rfl rfl fun a Z => ?_
  refine s_end Z [1, 2, 15] rfl fun Z => ?_
  refine p_then ?_
  refine f_cond Z rfl (fun hc2 => ?_) (fun hc2 => ?_)
  ·replace hF := ite_t hc2 hF
   refine wp_seq (f_region Z ?_); clear Z; intro Z
   refine s_runk tC Z 1 rfl rfl fun a Z => ?_
   refine s_end Z [1, 2] rfl fun Z => ?_
   refine p_then (wp_ret ?_)
   refine p_blk_r ?_
   refine p_then_r ?_
   obtain rfl := some_in hF
   exact f_ret Z (run_results1 rfl Z rfl) ⟨rfl, I, (H.sub [] rfl).eq rfl⟩
  ·replace hF := ite_f hc2 hF
   refine wp_seq (f_region Z ?_); clear Z; intro Z
   refine s_runk tC Z 1 rfl rfl fun a Z => ?_
   refine sO Z _ rfl (oL tC rfl rfl (H.bc 0 1 rfl rfl)) fun a Z => ?_
   refine sO Z (vI (ln c.members)) rfl (Ob_slen tC rfl rfl rfl (H.slshape 1 rfl)) fun a Z => ?_
   refine s_runk tC Z 2 rfl rfl fun a Z => ?_
   refine s_end Z [1, 2, 20] rfl fun Z => ?_
   refine p_then ?_
   refine f_cond Z rfl (fun hc3 => ?_) (fun hc3 => ?_)
   ·replace hF := ite_t hc3 hF
    refine wp_seq (f_region Z ?_); clear Z; intro Z
    refine s_runk tC Z 1 rfl rfl fun a Z => ?_
    refine s_end Z [1, 2] rfl fun Z => ?_
    refine p_then (wp_ret ?_)
    refine p_blk_r ?_
    refine p_then_r ?_
    obtain rfl := some_in hF
    exact f_ret Z (run_results1 rfl Z rfl) ⟨rfl, I, (H.sub [] rfl).eq rfl⟩
   ·replace hF := ite_f hc3 hF
    refine wp_skip ?_
    refine p_blk ?_
    refine p_then (wp_seq ?_)
    refine wp_seq (f_region Z ?_); clear Z; intro Z
    refine s_runk tC Z 1 rfl rfl fun a Z => ?_
    refine sO Z _ rfl (oL tC rfl rfl (H.bc 0 1 rfl rfl)) fun a Z => ?_
    refine sO Z (vI (ln c.members)) rfl (Ob_slen tC rfl rfl rfl (H.slshape 1 rfl)) fun a Z => ?_
    refine s_runk tC Z 1 rfl rfl fun a Z => ?_
    refine s_end Z [1, 2, 26, 27, 28] rfl fun Z => ?_
    refine p_then (wp_block ?_)
    refine f_iter hF (fun sg a' w' => match sg with | x => Sl 43 [(1, pp b1 0), (2, vI 0), (26, v1_c), (27, vI (ln c.members)), (28, vI x)] a' ∧ ∃ I2, Hf I D w I2 w' [BxC b1 31 [vI c.epoch, v1_c, vU c.floor], SlC NEMember v1_c c.members]) ⟨Z.sub (ts := [1, 2, 26, 27, 28]) rfl, ⟨I, (H.sub [(0, false), (0, true)] rfl).eq rfl⟩⟩ ?_
    rintro rc x a w2 ⟨Z, I1, H⟩ hF
    unfold F_conf_Check_l1 at hF
    try dsimp only at hF
    refine wp_seq (f_region Z ?_); clear Z; intro Z
    refine s_runk tC Z 1 rfl rfl fun a Z => ?_
    refine s_end Z [1, 2, 26, 27, 28, 29] rfl fun Z => ?_
    refine p_then (wp_seq ?_)
    refine f_cond Z rfl (fun hc4 => ?_) (fun hc4 => ?_)
    ·replace hF := ite_t hc4 hF
     refine wp_skip ?_
     refine p_then (wp_seq ?_)
     refine wp_block ?_
     refine wp_seq ?_
     obtain ⟨hg1, hF⟩ := chk_in hF
     refine f_region Z fun Z => ?_
     refine s_runk tC Z 1 rfl rfl fun a Z => ?_
     refine sO Z (.pointer (some ⟨blkOf v1_c, oofOf v1_c + (x).toNat * 2, none⟩)) rfl (Ob_sidx tC rfl rfl rfl rfl (slPl (H.sl 1 rfl) hg1) hg1) fun a Z => ?_
     refine sO Z (.agg #[vI ((gi c.members x).id), vI ((gi c.members x).serial)]) rfl (oA tC rfl rfl ((slFl (H.sl 1 rfl) hg1).part 0 rfl)) fun a Z => ?_
     refine hA Z H [vI 0, vI 0] rfl rfl (by kernel_rfl) fun a w3 b2 H Z => ?_
     refine s_runk tC Z 1 rfl rfl fun a Z => ?_
     refine hT tC Z H 0 rfl rfl rfl rfl rfl (onR 2 rfl one_nil) (Nat.le_of_ble_eq_true rfl) rfl fun w4 H => ?_
     dsimp only [List.eraseIdx] at H
     refine s_end Z [1, 2, 26, 27, 28, 29, 30, 31, 32, 4, 3] rfl fun Z => ?_
     refine p_then (wp_seq ?_)
     obtain ⟨hg2, hF⟩ := chk_in hF
     replace H : Hf I D w I1 w4 [SlC NEMember (subV v1_c 0 ((x).toNat) 2) (c.members.take ((x).toNat)), BxC b2 115 [vI ((gi c.members x).id), vI ((gi c.members x).serial)], BxC b1 31 [vI c.epoch, v1_c, vU c.floor], SlC NEMember v1_c c.members] := H.slPart_to 2 rfl hg2 2 rfl
     obtain ⟨o, hx1, hF⟩ := bnd_in hF
     refine f_quietd (by kernel_rfl) (by kernel_rfl) Z fun Z => ?_
     refine qO Z (.agg #[vI ((gi c.members x).id), vI ((gi c.members x).serial)]) rfl (fun _ hw => oA tC rfl rfl (((H.blw hw).bx 1 rfl).part 0 rfl)) fun a Z => ?_
     refine q_runk tC Z 1 rfl rfl fun a Z => ?_
     refine qO Z _ rfl (fun _ hw => oL tC rfl rfl ((H.blw hw).bc 2 1 rfl rfl)) fun a Z => ?_
     refine q_runk tC Z 1 rfl rfl fun a Z => ?_
     refine qO Z (subV v1_c 0 ((x).toNat) 2) rfl (fun _ hw => Ob_sub_to tC rfl rfl rfl rfl ((H.blw hw).slshape 3 rfl) hg2) fun a Z => ?_
     refine q_call Z (caps := #[]) fn_80_YConf rfl rfl rfl rfl rfl (by decide) rfl rfl (fun _ hw => (have hq := c_conf_one hx1 (((H.blw hw)).pick0 (js := [(0, true)]) rfl rfl); plainC hq)) fun a Z => ?_
     refine q_runk tC Z 1 rfl rfl fun a Z => ?_
     refine q_end Z [1, 2, 26, 27, 28, 29, 30, 31, 32, 4, 3, 33, 34, 35, 36, 37, 38, 5] rfl fun w5 hb Z => ?_
     replace H := H.blw hb
     clear hb
     refine p_then (wp_seq (f_region Z ?_)); clear Z; intro Z
     refine s_runk tC Z 2 rfl rfl fun a Z => ?_
     refine s_end Z [1, 2, 26, 27, 28, 29, 30, 31, 32, 4, 3, 33, 34, 35, 36, 37, 38, 5, 39, 40] rfl fun Z => ?_
     refine p_then ?_
     refine f_cond Z rfl (fun hc5 => ?_) (fun hc5 => ?_)
     ·replace hF := ite_t hc5 hF
      refine wp_seq (f_region Z ?_); clear Z; intro Z
      refine s_runk tC Z 2 rfl rfl fun a Z => ?_
      refine s_end Z [1, 2, 26, 27, 28, 29, 30, 31, 32, 4, 3, 33, 34, 35, 36, 37, 38, 5, 39, 40, 41] rfl fun Z => ?_
      refine p_then (wp_ret ?_)
      refine p_blk_r ?_
      refine p_then_r ?_
      refine p_then_r ?_
      refine p_blk_r ?_
      refine p_then_r ?_
      obtain rfl := some_in hF
      exact f_ret Z (run_results1 rfl Z rfl) ⟨rfl, I1, (H.sub [] rfl).eq rfl⟩
     ·replace hF := ite_f hc5 hF
      refine wp_skip ?_
      refine p_blk ?_
      refine p_then ?_
      obtain ⟨hg3, hF⟩ := chk_in hF
      refine f_region Z fun Z => ?_
      refine sO Z (vI (x + 1)) rfl (Ob_add rfl rfl rfl (wrI hg3)) fun a Z => ?_
      refine s_runk tC Z 1 rfl rfl fun a Z => ?_
      refine s_end Z [1, 2, 26, 27, 28, 29, 30, 31, 32, 4, 3, 33, 34, 35, 36, 37, 38, 5, 39, 40, 42] rfl fun Z => ?_
      refine p_then ?_
      exact ⟨(x + 1), ⟨Z.sub (ts := [1, 2, 26, 27, 28]) rfl, ⟨I1, (H.sub [(2, false), (2, true)] rfl).eq rfl⟩⟩, hF⟩
    ·replace hF := ite_f hc4 hF
     refine wp_exit ?_
     refine p_then_x ?_
     refine p_then_x ?_
     refine f_exit_here ?_
     refine p_then (wp_seq (f_region Z ?_)); clear Z; intro Z
     refine s_runk tC Z 1 rfl rfl fun a Z => ?_
     refine s_end Z [2] rfl fun Z => ?_
     refine p_then (wp_ret ?_)
     obtain rfl := some_in hF
     exact f_ret Z (run_results1 rfl Z rfl) ⟨rfl, I1, (H.sub [] rfl).eq rfl⟩

end Go.Proofs.Ytglfajjcgbfehaa

namespace Go.Proofs.Ytglfajjcgbfehaa
open Go.RowKit
end Go.Proofs.Ytglfajjcgbfehaa

namespace Go.Proofs.Ytglfajjcgbfehaa
open Go.RowKit
end Go.Proofs.Ytglfajjcgbfehaa

namespace Go.Proofs.Ytglfajjcgbfehaa
open Go.RowKit
end Go.Proofs.Ytglfajjcgbfehaa

namespace Go.Proofs.Ytglfajjcgbfehaa
open Go.RowKit
structure EEntry where
 batch : EBatch
 ts : Int

instance : Inhabited EEntry := ⟨⟨default, 0⟩⟩

def cEEntry (x : EEntry) (v0 : Value) : List Value := [.int .i64 x.batch.client, .int .i64 x.batch.req, v0, .int .u64 x.ts]

def NEEntry : Rp EEntry where
 n := 4
 rep A w cs x := ∃ v0 : Value, cs = cEEntry x v0 ∧ slRep NEOp A w v0 x.batch.ops
 len := fun ⟨v0, h, _⟩ => by rw [h]; rfl
 one := fun ⟨v0, h, s0⟩ c hc => by
  rw [h] at hc
  simp only [cEEntry, List.mem_cons, List.not_mem_nil, or_false] at hc
  rcases hc with rfl | rfl | rfl | rfl
  ·rfl
  ·rfl
  ·exact s0.one
  ·rfl
 mono := fun ⟨v0, h, s0⟩ hA hk => ⟨v0, h, s0.mono hA hk⟩
 bound := fun ⟨v0, h, s0⟩ => ⟨v0, h, s0.bound⟩

theorem NEEntry.dft (A : Dm) (w : World) : ∃ cl, NEEntry.rep A w cl default := ⟨_, .slice none 0 0, rfl, slRep.nil _ _ _ _ _ (Nat.zero_le _)⟩

def tIL : TabL := ⟨[(40960, 0)], [], [], [], [(38, (3, true)), (40, (4, true))]⟩

def tI : Tab Try.prog := ⟨tIL, by kernel_rfl⟩

theorem fn_71_YItem : IsFn Try.prog 71 := ⟨_, Try.func71, by kernel_rfl, by kernel_rfl⟩

def F_ref08_Check (e : EEntry) : Option Int := (F_ref06_Check e.batch).bind fun c => (some c)

def F_item_Check (e : EEntry) : Option Int := (F_ops_Check e.batch).bind fun c => (some c)

set_option maxHeartbeats 1000000 in
theorem c_item_Check {I D : Dm} {e : EEntry} {v1_e : Value} {w : World} {rr : Int} (hF : F_item_Check e = some rr) (H : St I D w [SlC NEOp v1_e e.batch.ops]) :
  Calls Try.prog 59 #[.agg (cEEntry e v1_e).toArray] w (Ret fun vv w' => vv = vI rr ∧ ∃ I', Hf I D w I' w' []) := by
 replace H := H.hf
 unfold F_item_Check at hF
 refine f_enter 6 Try.func59 rfl rfl (Nat.le_of_ble_eq_true rfl) fun a Z => ?_
 replace Z := Z.sub (ts := [0]) rfl
 refine wp_seq (f_region Z ?_); clear Z; intro Z
 refine h_boxv Z H (cl := (cEEntry e v1_e)) rfl rfl rfl (by decide) rfl rfl rfl fun a w1 b1 H Z => ?_
 refine s_runk tI Z 1 rfl rfl fun a Z => ?_
 refine s_end Z [1, 2] rfl fun Z => ?_
 refine p_then (wp_seq ?_)
 obtain ⟨c, hx1, hF⟩ := bnd_in hF
 refine f_region Z fun Z => ?_
 refine s_runk tI Z 1 rfl rfl fun a Z => ?_
 refine sO Z (.agg #[vI e.batch.client, vI e.batch.req, v1_e]) rfl (oA tI rfl rfl ((H.bx 0 rfl).part 0 rfl)) fun a Z => ?_
 refine hC Z H [(1, true)] rfl #[] fn_71_YItem rfl rfl (fun D h => have q := c_ops_Check hx1 h; q) fun vv a w2 D2 hr hF2 Z => ?_
 obtain ⟨rfl, I1, K⟩ := hr
 have H := (hF2 K).nf rfl
 refine s_runk tI Z 1 rfl rfl fun a Z => ?_
 refine s_end Z [2] rfl fun Z => ?_
 refine p_then (wp_ret ?_)
 obtain rfl := some_in hF
 exact f_ret Z (run_results1 rfl Z rfl) ⟨rfl, I1, (H.sub [] rfl).eq rfl⟩

end Go.Proofs.Ytglfajjcgbfehaa

namespace Go.Proofs.Ytglfajjcgbfehaa
open Go.RowKit
structure EPin where
 id : Int
 at_ : Int
 left : Int

instance : Inhabited EPin := ⟨⟨0, 0, 0⟩⟩

def cEPin (x : EPin) : List Value := [.int .i64 x.id, .int .u64 x.at_, .int .i64 x.left]

def NEPin : Rp EPin := Rp.flat 3 (fun _ => True) (fun x => cEPin x) (fun _ => rfl) (fun x c hc => by simp only [cEPin, List.mem_cons, List.not_mem_nil, or_false] at hc; rcases hc with rfl | rfl | rfl <;> rfl)

structure EAnswer where
 client : Int
 req : Int
 e : Int
 pin : Int

instance : Inhabited EAnswer := ⟨⟨0, 0, 0, 0⟩⟩

def cEAnswer (x : EAnswer) : List Value := [.int .i64 x.client, .int .i64 x.req, .int .i64 x.e, .int .i64 x.pin]

def NEAnswer : Rp EAnswer := Rp.flat 4 (fun _ => True) (fun x => cEAnswer x) (fun _ => rfl) (fun x c hc => by simp only [cEAnswer, List.mem_cons, List.not_mem_nil, or_false] at hc; rcases hc with rfl | rfl | rfl | rfl <;> rfl)

structure ENote where
 k : Int
 n : Int
 at_ : Int
 conf : EConf
 legit : List Int
 entry : EEntry
 pin : EPin
 said : EAnswer

instance : Inhabited ENote := ⟨⟨0, 0, 0, default, [], default, default, default⟩⟩

def cENote (x : ENote) (v0 : Value) (v1 : Value) (v2 : Value) : List Value := [.int .i64 x.k, .int .i64 x.n, .int .u64 x.at_, .int .i64 x.conf.epoch, v0, .int .u64 x.conf.floor, v1, .int .i64 x.entry.batch.client, .int .i64 x.entry.batch.req, v2, .int .u64 x.entry.ts, .int .i64 x.pin.id, .int .u64 x.pin.at_, .int .i64 x.pin.left, .int .i64 x.said.client, .int .i64 x.said.req, .int .i64 x.said.e, .int .i64 x.said.pin]

def NENote : Rp ENote where
 n := 18
 rep A w cs x := ∃ v0 v1 v2 : Value, cs = cENote x v0 v1 v2 ∧ slRep NEMember A w v0 x.conf.members ∧ slRep Ni64 A w v1 x.legit ∧ slRep NEOp A w v2 x.entry.batch.ops
 len := fun ⟨v0, v1, v2, h, _⟩ => by rw [h]; rfl
 one := fun ⟨v0, v1, v2, h, s0, s1, s2⟩ c hc => by
  rw [h] at hc
  simp only [cENote, List.mem_cons, List.not_mem_nil, or_false] at hc
  rcases hc with rfl | rfl | rfl | rfl | rfl | rfl | rfl | rfl | rfl | rfl | rfl | rfl | rfl | rfl | rfl | rfl | rfl | rfl
  ·rfl
  ·rfl
  ·rfl
  ·rfl
  ·exact s0.one
  ·rfl
  ·exact s1.one
  ·rfl
  ·rfl
  ·exact s2.one
  ·rfl
  ·rfl
  ·rfl
  ·rfl
  ·rfl
  ·rfl
  ·rfl
  ·rfl
 mono := fun ⟨v0, v1, v2, h, s0, s1, s2⟩ hA hk => ⟨v0, v1, v2, h, s0.mono hA hk, s1.mono hA hk, s2.mono hA hk⟩
 bound := fun ⟨v0, v1, v2, h, s0, s1, s2⟩ => ⟨v0, v1, v2, h, s0.bound, s1.bound, s2.bound⟩

theorem NENote.dft (A : Dm) (w : World) : ∃ cl, NENote.rep A w cl default := ⟨_, .slice none 0 0, .slice none 0 0, .slice none 0 0, rfl, slRep.nil _ _ _ _ _ (Nat.zero_le _), slRep.nil _ _ _ _ _ (Nat.zero_le _), slRep.nil _ _ _ _ _ (Nat.zero_le _)⟩

def tNL : TabL := ⟨[(43008, 0), (43010, 2), (45056, 0), (45057, 1), (45058, 2), (45059, 3), (47104, 0), (47105, 1), (47107, 3), (47108, 6), (47109, 7), (47110, 11), (47111, 14)], [], [], [(35, (3, 1))], [(3, (1, false)), (31, (3, true)), (33, (1, false)), (35, (1, false)), (40, (4, true)), (44, (4, true)), (46, (18, true))]⟩

def tN : Tab Try.prog := ⟨tNL, by kernel_rfl⟩

theorem fn_56_YNote : IsFn Try.prog 56 := ⟨_, Try.func56, by kernel_rfl, by kernel_rfl⟩

theorem fn_57_YNote : IsFn Try.prog 57 := ⟨_, Try.func57, by kernel_rfl, by kernel_rfl⟩

theorem fn_58_YNote : IsFn Try.prog 58 := ⟨_, Try.func58, by kernel_rfl, by kernel_rfl⟩

theorem fn_59_YNote : IsFn Try.prog 59 := ⟨_, Try.func59, by kernel_rfl, by kernel_rfl⟩

theorem fn_60_YNote : IsFn Try.prog 60 := ⟨_, Try.func60, by kernel_rfl, by kernel_rfl⟩

theorem fn_81_YNote : IsFn Try.prog 81 := ⟨_, Try.func81, by kernel_rfl, by kernel_rfl⟩

theorem fn_82_YNote : IsFn Try.prog 82 := ⟨_, Try.func82, by kernel_rfl, by kernel_rfl⟩

theorem fn_83_YNote : IsFn Try.prog 83 := ⟨_, Try.func83, by kernel_rfl, by kernel_rfl⟩

def F_note_legit_1 (i : Int) (x : Int) (p2 : List Int) : Option Int := if ((decide (x < 0)) || (decide (x ≥ 4))) = true then (some 1) else (chk ((decide (i > 0)) = true → inI (i - 1)) (chk ((decide (i > 0)) = true → (0 : Int) ≤ i - 1 ∧ i - 1 < (p2.length : Int)) (if ((decide (i > 0)) && (decide ((p2.getD (i - 1).toNat default) ≥ x))) = true then (some 18) else (some 0))))

set_option maxHeartbeats 1000000 in
theorem c_note_legit_1 {I D : Dm} {i : Int} {x : Int} {b_p2 : Nat} {p2 : List Int} {v1_p2 : Value} {w : World} {rr : Int} (hF : F_note_legit_1 i x p2 = some rr) (H : St I D w [BxC b_p2 35 [v1_p2], SlC Ni64 v1_p2 p2]) :
  Calls Try.prog 82 #[vI i, vI x, pp b_p2 0] w (Ret fun vv w' => vv = vI rr ∧ ∃ I', Hf I D w I' w' [BxC b_p2 35 [v1_p2]]) := by
 replace H := H.hf
 unfold F_note_legit_1 at hF
 refine f_enter 25 Try.func82 rfl rfl (Nat.le_of_ble_eq_true rfl) fun a Z => ?_
 replace Z := Z.sub (ts := [0, 1, 2]) rfl
 refine wp_seq (f_region Z ?_); clear Z; intro Z
 refine s_runk tN Z 1 rfl rfl fun a Z => ?_
 refine s_end Z [0, 1, 2, 5] rfl fun Z => ?_
 refine p_then (wp_seq ?_)
 refine wp_block ?_
 refine wp_seq (f_region Z ?_); clear Z; intro Z
 refine s_runk tN Z 3 rfl rfl fun a Z => ?_
 refine gO Z (vI x) rfl (wantB_f _) (.n 1 rfl .z) (fun hp => Ob_c tN rfl) fun a Z => ?_
 refine gO Z (vT (decide (x ≥ 4))) rfl (wantB_f _) (.c 10 rfl id .z) (fun hp => Ob_c tN rfl) fun a Z => ?_
 refine sO Z (vT ((decide (x < 0)) || (decide (x ≥ 4)))) rfl (Ob_pick rfl rfl rfl rfl (pick_or _ _)) fun a Z => ?_
 refine s_runk tN Z 1 rfl rfl fun a Z => ?_
 refine s_end Z [0, 1, 2, 5, 6] rfl fun Z => ?_
 refine p_then ?_
 refine f_cond Z rfl (fun hc1 => ?_) (fun hc1 => ?_)
 ·replace hF := ite_t hc1 hF
  refine wp_seq (f_region Z ?_); clear Z; intro Z
  refine s_runk tN Z 1 rfl rfl fun a Z => ?_
  refine s_end Z [5] rfl fun Z => ?_
  refine p_then (wp_ret ?_)
  refine p_blk_r ?_
  refine p_then_r ?_
  obtain rfl := some_in hF
  exact f_ret Z (run_results1 rfl Z rfl) ⟨rfl, I, (H.sub [(0, false)] rfl).eq rfl⟩
 ·replace hF := ite_f hc1 hF
  refine wp_seq ?_
  obtain ⟨hg1, hF⟩ := chk_in hF
  obtain ⟨hg2, hF⟩ := chk_in hF
  refine f_region Z fun Z => ?_
  refine s_runk tN Z 3 rfl rfl fun a Z => ?_
  refine gO Z _ rfl (wantB_t _) (.n 2 rfl .z) (fun hp => oL tN rfl rfl (H.bc 0 0 rfl rfl)) fun a Z => ?_
  refine gO Z (vI i) rfl (wantB_t _) (.n 0 rfl .z) (fun hp => Ob_c tN rfl) fun a Z => ?_
  refine gO Z (vI (i - 1)) rfl (wantB_t _) (.c 18 rfl id .z) (fun hp => Ob_sub rfl rfl rfl (wrI (hg1 hp))) fun a Z => ?_
  refine gO Z (.pointer (some ⟨blkOf v1_p2, oofOf v1_p2 + (i - 1).toNat * 1, none⟩)) rfl (wantB_t _) (.c 17 rfl id (.c 19 rfl id .z)) (fun hp => Ob_sidx tN rfl rfl rfl rfl (slPl (H.sl 1 rfl) (hg2 hp)) (hg2 hp)) fun a Z => ?_
  refine gO Z (vI (p2.getD (i - 1).toNat default)) rfl (wantB_t _) (.c 20 rfl id .z) (fun hp => oL tN rfl rfl ((slFl (H.sl 1 rfl) (hg2 hp)) 0 _ rfl)) fun a Z => ?_
  refine gO Z (vI x) rfl (wantB_t _) (.n 1 rfl .z) (fun hp => Ob_c tN rfl) fun a Z => ?_
  refine gO Z (vT (decide ((p2.getD (i - 1).toNat default) ≥ x))) rfl (wantB_t _) (.c 21 rfl id (.c 22 rfl id .z)) (fun hp => Ob_c tN rfl) fun a Z => ?_
  refine sO Z (vT ((decide (i > 0)) && (decide ((p2.getD (i - 1).toNat default) ≥ x)))) rfl (Ob_pick rfl rfl rfl rfl (pick_and _ _)) fun a Z => ?_
  refine s_runk tN Z 1 rfl rfl fun a Z => ?_
  refine s_end Z [5, 13] rfl fun Z => ?_
  refine p_then ?_
  refine f_cond Z rfl (fun hc2 => ?_) (fun hc2 => ?_)
  ·replace hF := ite_t hc2 hF
   refine wp_seq (f_region Z ?_); clear Z; intro Z
   refine s_runk tN Z 1 rfl rfl fun a Z => ?_
   refine s_end Z [5] rfl fun Z => ?_
   refine p_then (wp_ret ?_)
   refine p_blk_r ?_
   refine p_then_r ?_
   obtain rfl := some_in hF
   exact f_ret Z (run_results1 rfl Z rfl) ⟨rfl, I, (H.sub [(0, false)] rfl).eq rfl⟩
  ·replace hF := ite_f hc2 hF
   refine wp_skip ?_
   refine p_blk ?_
   refine p_then (wp_seq (f_region Z ?_)); clear Z; intro Z
   refine s_runk tN Z 1 rfl rfl fun a Z => ?_
   refine s_end Z [5] rfl fun Z => ?_
   refine p_then (wp_ret ?_)
   obtain rfl := some_in hF
   exact f_ret Z (run_results1 rfl Z rfl) ⟨rfl, I, (H.sub [(0, false)] rfl).eq rfl⟩

def F_note_each_int__note_legit_1_l1 (l : List Int) (p2 : List Int) (rc : Int → Option Int) (sg : Int) : Option Int := match sg with | x => if (decide (x < (l.length : Int))) = true then (chk ((0 : Int) ≤ x ∧ x < (l.length : Int)) ((F_note_legit_1 x (l.getD (x).toNat default) p2).bind fun x0 => (if (x0 != 0) = true then (some x0) else (chk (inI (x + 1)) (rc (x + 1)))))) else (some 0)

def F_note_each_int__note_legit_1 (l : List Int) (p2 : List Int) : Option Int := iter (F_note_each_int__note_legit_1_l1 l p2) FU 0

set_option maxHeartbeats 1000000 in
theorem c_note_each_int__note_legit_1 {I D : Dm} {l : List Int} {v1_l : Value} {b_p2 : Nat} {p2 : List Int} {v2_p2 : Value} {w : World} {rr : Int} (hF : F_note_each_int__note_legit_1 l p2 = some rr) (H : St I D w [SlC Ni64 v1_l l, BxC b_p2 35 [v2_p2], SlC Ni64 v2_p2 p2]) :
  Calls Try.prog 81 #[v1_l, .func (.func 82) #[] #[pp b_p2 0]] w (Ret fun vv w' => vv = vI rr ∧ ∃ I', Hf I D w I' w' [BxC b_p2 35 [v2_p2]]) := by
 replace H := H.hf
 unfold F_note_each_int__note_legit_1 at hF
 refine f_enter 23 Try.func81 rfl rfl (Nat.le_of_ble_eq_true rfl) fun a Z => ?_
 replace Z := Z.sub (ts := [0, 1]) rfl
 refine wp_seq (f_region Z ?_); clear Z; intro Z
 refine s_runk tN Z 1 rfl rfl fun a Z => ?_
 refine s_end Z [0, 1, 4] rfl fun Z => ?_
 refine p_then (wp_seq ?_)
 refine wp_seq (f_region Z ?_); clear Z; intro Z
 refine s_runk tN Z 1 rfl rfl fun a Z => ?_
 refine sO Z (vI (ln l)) rfl (Ob_slen tN rfl rfl rfl (H.slshape 0 rfl)) fun a Z => ?_
 refine s_runk tN Z 1 rfl rfl fun a Z => ?_
 refine s_end Z [1, 4, 8, 9, 10] rfl fun Z => ?_
 refine p_then (wp_block ?_)
 refine f_iter hF (fun sg a' w' => match sg with | x => Sl 23 [(1, .func (.func 82) #[] #[pp b_p2 0]), (4, vI 0), (8, v1_l), (9, vI (ln l)), (10, vI x)] a' ∧ ∃ I2, Hf I D w I2 w' [BxC b_p2 35 [v2_p2], SlC Ni64 v1_l l, SlC Ni64 v2_p2 p2]) ⟨Z.sub (ts := [1, 4, 8, 9, 10]) rfl, ⟨I, (H.sub [(1, false), (0, true), (1, true)] rfl).eq rfl⟩⟩ ?_
 rintro rc x a w1 ⟨Z, I1, H⟩ hF
 unfold F_note_each_int__note_legit_1_l1 at hF
 try dsimp only at hF
 refine wp_seq (f_region Z ?_); clear Z; intro Z
 refine s_runk tN Z 1 rfl rfl fun a Z => ?_
 refine s_end Z [1, 4, 8, 9, 10, 11] rfl fun Z => ?_
 refine p_then (wp_seq ?_)
 refine f_cond Z rfl (fun hc1 => ?_) (fun hc1 => ?_)
 ·replace hF := ite_t hc1 hF
  refine wp_skip ?_
  refine p_then (wp_seq ?_)
  refine wp_block ?_
  refine wp_seq ?_
  obtain ⟨hg1, hF⟩ := chk_in hF
  refine f_region Z fun Z => ?_
  refine s_runk tN Z 1 rfl rfl fun a Z => ?_
  refine sO Z (.pointer (some ⟨blkOf v1_l, oofOf v1_l + (x).toNat * 1, none⟩)) rfl (Ob_sidx tN rfl rfl rfl rfl (slPl (H.sl 1 rfl) hg1) hg1) fun a Z => ?_
  refine sO Z (vI (gi l x)) rfl (oL tN rfl rfl ((slFl (H.sl 1 rfl) hg1) 0 _ rfl)) fun a Z => ?_
  refine s_runk tN Z 2 rfl rfl fun a Z => ?_
  refine s_end Z [1, 4, 8, 9, 10, 11, 12, 13, 14, 5, 6] rfl fun Z => ?_
  refine p_then (wp_seq ?_)
  obtain ⟨x0, hx1, hF⟩ := bnd_in hF
  refine f_region Z fun Z => ?_
  refine s_runk tN Z 3 rfl rfl fun a Z => ?_
  refine hC Z H [(0, false), (1, true)] rfl #[pp b_p2 0] fn_82_YNote rfl rfl (fun D h => have q := c_note_legit_1 hx1 h; q) fun vv a w2 D2 hr hF2 Z => ?_
  obtain ⟨rfl, I2, K⟩ := hr
  have H := (hF2 K).nf rfl
  refine s_runk tN Z 1 rfl rfl fun a Z => ?_
  refine s_end Z [1, 4, 8, 9, 10, 11, 12, 13, 14, 5, 6, 15, 16, 17, 18, 7] rfl fun Z => ?_
  refine p_then (wp_seq (f_region Z ?_)); clear Z; intro Z
  refine s_runk tN Z 2 rfl rfl fun a Z => ?_
  refine s_end Z [1, 4, 8, 9, 10, 11, 12, 13, 14, 5, 6, 15, 16, 17, 18, 7, 19, 20] rfl fun Z => ?_
  refine p_then ?_
  refine f_cond Z rfl (fun hc2 => ?_) (fun hc2 => ?_)
  ·replace hF := ite_t hc2 hF
   refine wp_seq (f_region Z ?_); clear Z; intro Z
   refine s_runk tN Z 2 rfl rfl fun a Z => ?_
   refine s_end Z [1, 4, 8, 9, 10, 11, 12, 13, 14, 5, 6, 15, 16, 17, 18, 7, 19, 20, 21] rfl fun Z => ?_
   refine p_then (wp_ret ?_)
   refine p_blk_r ?_
   refine p_then_r ?_
   refine p_then_r ?_
   refine p_blk_r ?_
   refine p_then_r ?_
   obtain rfl := some_in hF
   exact f_ret Z (run_results1 rfl Z rfl) ⟨rfl, I2, (H.sub [(0, false)] rfl).eq rfl⟩
  ·replace hF := ite_f hc2 hF
   refine wp_skip ?_
   refine p_blk ?_
   refine p_then ?_
   obtain ⟨hg2, hF⟩ := chk_in hF
   refine f_region Z fun Z => ?_
   refine sO Z (vI (x + 1)) rfl (Ob_add rfl rfl rfl (wrI hg2)) fun a Z => ?_
   refine s_runk tN Z 1 rfl rfl fun a Z => ?_
   refine s_end Z [1, 4, 8, 9, 10, 11, 12, 13, 14, 5, 6, 15, 16, 17, 18, 7, 19, 20, 22] rfl fun Z => ?_
   refine p_then ?_
   exact ⟨(x + 1), ⟨Z.sub (ts := [1, 4, 8, 9, 10]) rfl, ⟨I2, (H.sub [(0, false), (0, true), (1, true)] rfl).eq rfl⟩⟩, hF⟩
 ·replace hF := ite_f hc1 hF
  refine wp_exit ?_
  refine p_then_x ?_
  refine p_then_x ?_
  refine f_exit_here ?_
  refine p_then (wp_seq (f_region Z ?_)); clear Z; intro Z
  refine s_runk tN Z 1 rfl rfl fun a Z => ?_
  refine s_end Z [4] rfl fun Z => ?_
  refine p_then (wp_ret ?_)
  obtain rfl := some_in hF
  exact f_ret Z (run_results1 rfl Z rfl) ⟨rfl, I1, (H.sub [(0, false)] rfl).eq rfl⟩

def F_note_legit (l : List Int) : Option Int := if (decide ((l.length : Int) > 4)) = true then (some 6) else ((F_note_each_int__note_legit_1 l l).bind fun x0 => (some x0))

set_option maxHeartbeats 1000000 in
theorem c_note_legit {I D : Dm} {l : List Int} {v1_l : Value} {w : World} {rr : Int} (hF : F_note_legit l = some rr) (H : St I D w [SlC Ni64 v1_l l]) :
  Calls Try.prog 57 #[v1_l] w (Ret fun vv w' => vv = vI rr ∧ ∃ I', Hf I D w I' w' []) := by
 replace H := H.hf
 unfold F_note_legit at hF
 refine f_enter 9 Try.func57 rfl rfl (Nat.le_of_ble_eq_true rfl) fun a Z => ?_
 replace Z := Z.sub (ts := [0]) rfl
 refine wp_seq (f_region Z ?_); clear Z; intro Z
 refine hB Z H [v1_l] rfl rfl rfl (slS.cells (H.slshape 0 rfl)) fun a w1 b1 H Z => ?_
 refine s_runk tN Z 1 rfl rfl fun a Z => ?_
 refine s_end Z [1, 2] rfl fun Z => ?_
 refine p_then (wp_seq ?_)
 refine wp_seq (f_region Z ?_); clear Z; intro Z
 refine sO Z _ rfl (oL tN rfl rfl (H.bc 0 0 rfl rfl)) fun a Z => ?_
 refine sO Z (vI (ln l)) rfl (Ob_slen tN rfl rfl rfl (H.slshape 1 rfl)) fun a Z => ?_
 refine s_runk tN Z 1 rfl rfl fun a Z => ?_
 refine s_end Z [1, 2, 5] rfl fun Z => ?_
 refine p_then ?_
 refine f_cond Z rfl (fun hc1 => ?_) (fun hc1 => ?_)
 ·replace hF := ite_t hc1 hF
  refine wp_seq (f_region Z ?_); clear Z; intro Z
  refine s_runk tN Z 1 rfl rfl fun a Z => ?_
  refine s_end Z [1, 2] rfl fun Z => ?_
  refine p_then (wp_ret ?_)
  refine p_then_r ?_
  obtain rfl := some_in hF
  exact f_ret Z (run_results1 rfl Z rfl) ⟨rfl, I, (H.sub [] rfl).eq rfl⟩
 ·replace hF := ite_f hc1 hF
  refine wp_skip ?_
  refine p_then (wp_seq ?_)
  obtain ⟨x0, hx1, hF⟩ := bnd_in hF
  refine f_region Z fun Z => ?_
  refine sO Z _ rfl (oL tN rfl rfl (H.bc 0 0 rfl rfl)) fun a Z => ?_
  refine s_runk tN Z 1 rfl rfl fun a Z => ?_
  refine hC Z H [(1, true), (0, false), (0, true)] rfl #[] fn_81_YNote rfl rfl (fun D h => have q := c_note_each_int__note_legit_1 hx1 h; q) fun vv a w2 D2 hr hF2 Z => ?_
  obtain ⟨rfl, I1, K⟩ := hr
  have H := (hF2 K).nf rfl
  refine s_runk tN Z 1 rfl rfl fun a Z => ?_
  refine s_end Z [2] rfl fun Z => ?_
  refine p_then (wp_ret ?_)
  obtain rfl := some_in hF
  exact f_ret Z (run_results1 rfl Z rfl) ⟨rfl, I1, (H.sub [] rfl).eq rfl⟩

def F_note_range0_1 (x0 : Int) (x : Int) : Option Int := if ((decide (x < 0)) || (decide (x > 1073741824))) = true then (some 5) else (some 0)

set_option maxHeartbeats 1000000 in
theorem c_note_range0_1 {I D : Dm} {x0 : Int} {x : Int} {w : World} {rr : Int} (hF : F_note_range0_1 x0 x = some rr) (H : St I D w []) :
  Calls Try.prog 83 #[vI x0, vI x] w (Ret fun vv w' => vv = vI rr ∧ ∃ I', Hf I D w I' w' []) := by
 replace H := H.hf
 unfold F_note_range0_1 at hF
 refine f_enter 11 Try.func83 rfl rfl (Nat.le_of_ble_eq_true rfl) fun a Z => ?_
 replace Z := Z.sub (ts := [0, 1]) rfl
 refine wp_seq (f_region Z ?_); clear Z; intro Z
 refine s_runk tN Z 1 rfl rfl fun a Z => ?_
 refine s_end Z [1, 4] rfl fun Z => ?_
 refine p_then (wp_seq ?_)
 refine wp_seq (f_region Z ?_); clear Z; intro Z
 refine s_runk tN Z 3 rfl rfl fun a Z => ?_
 refine gO Z (vI x) rfl (wantB_f _) (.n 1 rfl .z) (fun hp => Ob_c tN rfl) fun a Z => ?_
 refine gO Z (vT (decide (x > 1073741824))) rfl (wantB_f _) (.c 8 rfl id .z) (fun hp => Ob_c tN rfl) fun a Z => ?_
 refine sO Z (vT ((decide (x < 0)) || (decide (x > 1073741824)))) rfl (Ob_pick rfl rfl rfl rfl (pick_or _ _)) fun a Z => ?_
 refine s_end Z [4, 10] rfl fun Z => ?_
 refine p_then ?_
 refine f_cond Z rfl (fun hc1 => ?_) (fun hc1 => ?_)
 ·replace hF := ite_t hc1 hF
  refine wp_seq (f_region Z ?_); clear Z; intro Z
  refine s_runk tN Z 1 rfl rfl fun a Z => ?_
  refine s_end Z [4] rfl fun Z => ?_
  refine p_then (wp_ret ?_)
  refine p_then_r ?_
  obtain rfl := some_in hF
  exact f_ret Z (run_results1 rfl Z rfl) ⟨rfl, I, (H.sub [] rfl).eq rfl⟩
 ·replace hF := ite_f hc1 hF
  refine wp_skip ?_
  refine p_then (wp_seq (f_region Z ?_)); clear Z; intro Z
  refine s_runk tN Z 1 rfl rfl fun a Z => ?_
  refine s_end Z [4] rfl fun Z => ?_
  refine p_then (wp_ret ?_)
  obtain rfl := some_in hF
  exact f_ret Z (run_results1 rfl Z rfl) ⟨rfl, I, (H.sub [] rfl).eq rfl⟩

def F_note_each_int__note_range0_1_l1 (l : List Int) (rc : Int → Option Int) (sg : Int) : Option Int := match sg with | x => if (decide (x < (l.length : Int))) = true then (chk ((0 : Int) ≤ x ∧ x < (l.length : Int)) ((F_note_range0_1 x (l.getD (x).toNat default)).bind fun x0 => (if (x0 != 0) = true then (some x0) else (chk (inI (x + 1)) (rc (x + 1)))))) else (some 0)

def F_note_each_int__note_range0_1 (l : List Int) : Option Int := iter (F_note_each_int__note_range0_1_l1 l) FU 0

set_option maxHeartbeats 1000000 in
theorem c_note_each_int__note_range0_1 {I D : Dm} {l : List Int} {v1_l : Value} {w : World} {rr : Int} (hF : F_note_each_int__note_range0_1 l = some rr) (H : St I D w [SlC Ni64 v1_l l]) :
  Calls Try.prog 81 #[v1_l, .func (.func 83) #[] #[]] w (Ret fun vv w' => vv = vI rr ∧ ∃ I', Hf I D w I' w' []) := by
 replace H := H.hf
 unfold F_note_each_int__note_range0_1 at hF
 refine f_enter 23 Try.func81 rfl rfl (Nat.le_of_ble_eq_true rfl) fun a Z => ?_
 replace Z := Z.sub (ts := [0, 1]) rfl
 refine wp_seq (f_region Z ?_); clear Z; intro Z
 refine s_runk tN Z 1 rfl rfl fun a Z => ?_
 refine s_end Z [0, 1, 4] rfl fun Z => ?_
 refine p_then (wp_seq ?_)
 refine wp_seq (f_region Z ?_); clear Z; intro Z
 refine s_runk tN Z 1 rfl rfl fun a Z => ?_
 refine sO Z (vI (ln l)) rfl (Ob_slen tN rfl rfl rfl (H.slshape 0 rfl)) fun a Z => ?_
 refine s_runk tN Z 1 rfl rfl fun a Z => ?_
 refine s_end Z [1, 4, 8, 9, 10] rfl fun Z => ?_
 refine p_then (wp_block ?_)
 refine f_iter hF (fun sg a' w' => match sg with | x => Sl 23 [(1, .func (.func 83) #[] #[]), (4, vI 0), (8, v1_l), (9, vI (ln l)), (10, vI x)] a' ∧ ∃ I2, Hf I D w I2 w' [SlC Ni64 v1_l l]) ⟨Z.sub (ts := [1, 4, 8, 9, 10]) rfl, ⟨I, (H.sub [(0, true)] rfl).eq rfl⟩⟩ ?_
 rintro rc x a w1 ⟨Z, I1, H⟩ hF
 unfold F_note_each_int__note_range0_1_l1 at hF
 try dsimp only at hF
 refine wp_seq (f_region Z ?_); clear Z; intro Z
 refine s_runk tN Z 1 rfl rfl fun a Z => ?_
 refine s_end Z [1, 4, 8, 9, 10, 11] rfl fun Z => ?_
 refine p_then (wp_seq ?_)
 refine f_cond Z rfl (fun hc1 => ?_) (fun hc1 => ?_)
 ·replace hF := ite_t hc1 hF
  refine wp_skip ?_
  refine p_then (wp_seq ?_)
  refine wp_block ?_
  refine wp_seq ?_
  obtain ⟨hg1, hF⟩ := chk_in hF
  refine f_region Z fun Z => ?_
  refine s_runk tN Z 1 rfl rfl fun a Z => ?_
  refine sO Z (.pointer (some ⟨blkOf v1_l, oofOf v1_l + (x).toNat * 1, none⟩)) rfl (Ob_sidx tN rfl rfl rfl rfl (slPl (H.sl 0 rfl) hg1) hg1) fun a Z => ?_
  refine sO Z (vI (gi l x)) rfl (oL tN rfl rfl ((slFl (H.sl 0 rfl) hg1) 0 _ rfl)) fun a Z => ?_
  refine s_runk tN Z 2 rfl rfl fun a Z => ?_
  refine s_end Z [1, 4, 8, 9, 10, 11, 12, 13, 14, 5, 6] rfl fun Z => ?_
  refine p_then (wp_seq ?_)
  obtain ⟨x0, hx1, hF⟩ := bnd_in hF
  refine f_region Z fun Z => ?_
  refine s_runk tN Z 3 rfl rfl fun a Z => ?_
  refine hC Z H [] rfl #[] fn_83_YNote rfl rfl (fun D h => have q := c_note_range0_1 hx1 h; q) fun vv a w2 D2 hr hF2 Z => ?_
  obtain ⟨rfl, I2, K⟩ := hr
  have H := (hF2 K).nf rfl
  refine s_runk tN Z 1 rfl rfl fun a Z => ?_
  refine s_end Z [1, 4, 8, 9, 10, 11, 12, 13, 14, 5, 6, 15, 16, 17, 18, 7] rfl fun Z => ?_
  refine p_then (wp_seq (f_region Z ?_)); clear Z; intro Z
  refine s_runk tN Z 2 rfl rfl fun a Z => ?_
  refine s_end Z [1, 4, 8, 9, 10, 11, 12, 13, 14, 5, 6, 15, 16, 17, 18, 7, 19, 20] rfl fun Z => ?_
  refine p_then ?_
  refine f_cond Z rfl (fun hc2 => ?_) (fun hc2 => ?_)
  ·replace hF := ite_t hc2 hF
   refine wp_seq (f_region Z ?_); clear Z; intro Z
   refine s_runk tN Z 2 rfl rfl fun a Z => ?_
   refine s_end Z [1, 4, 8, 9, 10, 11, 12, 13, 14, 5, 6, 15, 16, 17, 18, 7, 19, 20, 21] rfl fun Z => ?_
   refine p_then (wp_ret ?_)
   refine p_blk_r ?_
   refine p_then_r ?_
   refine p_then_r ?_
   refine p_blk_r ?_
   refine p_then_r ?_
   obtain rfl := some_in hF
   exact f_ret Z (run_results1 rfl Z rfl) ⟨rfl, I2, (H.sub [] rfl).eq rfl⟩
  ·replace hF := ite_f hc2 hF
   refine wp_skip ?_
   refine p_blk ?_
   refine p_then ?_
   obtain ⟨hg2, hF⟩ := chk_in hF
   refine f_region Z fun Z => ?_
   refine sO Z (vI (x + 1)) rfl (Ob_add rfl rfl rfl (wrI hg2)) fun a Z => ?_
   refine s_runk tN Z 1 rfl rfl fun a Z => ?_
   refine s_end Z [1, 4, 8, 9, 10, 11, 12, 13, 14, 5, 6, 15, 16, 17, 18, 7, 19, 20, 22] rfl fun Z => ?_
   refine p_then ?_
   exact ⟨(x + 1), ⟨Z.sub (ts := [1, 4, 8, 9, 10]) rfl, ⟨I2, (H.sub [(0, true)] rfl).eq rfl⟩⟩, hF⟩
 ·replace hF := ite_f hc1 hF
  refine wp_exit ?_
  refine p_then_x ?_
  refine p_then_x ?_
  refine f_exit_here ?_
  refine p_then (wp_seq (f_region Z ?_)); clear Z; intro Z
  refine s_runk tN Z 1 rfl rfl fun a Z => ?_
  refine s_end Z [4] rfl fun Z => ?_
  refine p_then (wp_ret ?_)
  obtain rfl := some_in hF
  exact f_ret Z (run_results1 rfl Z rfl) ⟨rfl, I1, (H.sub [] rfl).eq rfl⟩

def F_note_range0 (l : List Int) : Option Int := (F_note_each_int__note_range0_1 l).bind fun x0 => (some x0)

set_option maxHeartbeats 1000000 in
theorem c_note_range0 {I D : Dm} {l : List Int} {v1_l : Value} {w : World} {rr : Int} (hF : F_note_range0 l = some rr) (H : St I D w [SlC Ni64 v1_l l]) :
  Calls Try.prog 58 #[v1_l] w (Ret fun vv w' => vv = vI rr ∧ ∃ I', Hf I D w I' w' []) := by
 replace H := H.hf
 unfold F_note_range0 at hF
 refine f_enter 5 Try.func58 rfl rfl (Nat.le_of_ble_eq_true rfl) fun a Z => ?_
 replace Z := Z.sub (ts := [0]) rfl
 refine wp_seq (f_region Z ?_); clear Z; intro Z
 refine s_runk tN Z 1 rfl rfl fun a Z => ?_
 refine s_end Z [0, 2] rfl fun Z => ?_
 refine p_then (wp_seq ?_)
 obtain ⟨x0, hx1, hF⟩ := bnd_in hF
 refine f_region Z fun Z => ?_
 refine s_runk tN Z 1 rfl rfl fun a Z => ?_
 refine hC Z H [(0, true)] rfl #[] fn_81_YNote rfl rfl (fun D h => have q := c_note_each_int__note_range0_1 hx1 h; q) fun vv a w1 D2 hr hF2 Z => ?_
 obtain ⟨rfl, I1, K⟩ := hr
 have H := (hF2 K).nf rfl
 refine s_runk tN Z 1 rfl rfl fun a Z => ?_
 refine s_end Z [2] rfl fun Z => ?_
 refine p_then (wp_ret ?_)
 obtain rfl := some_in hF
 exact f_ret Z (run_results1 rfl Z rfl) ⟨rfl, I1, (H.sub [] rfl).eq rfl⟩

def F_note_said (a0 : EAnswer) : Option Int := if ((decide (a0.client < 0)) || (decide (a0.client ≥ 3))) = true then (some 1) else ((F_note_range0 [a0.req, a0.pin]).bind fun r0 => (if (r0 != 0) = true then (some r0) else (if ((decide (a0.e < 0)) || (decide (a0.e > 21))) = true then (some 1) else (some 0))))

set_option maxHeartbeats 1000000 in
theorem c_note_said {I D : Dm} {a0 : EAnswer} {w : World} {rr : Int} (hF : F_note_said a0 = some rr) (H : St I D w []) :
  Calls Try.prog 60 #[.agg (cEAnswer a0).toArray] w (Ret fun vv w' => vv = vI rr ∧ ∃ I', Hf I D w I' w' []) := by
 replace H := H.hf
 unfold F_note_said at hF
 refine f_enter 29 Try.func60 rfl rfl (Nat.le_of_ble_eq_true rfl) fun a Z => ?_
 replace Z := Z.sub (ts := [0]) rfl
 refine wp_seq (f_region Z ?_); clear Z; intro Z
 refine h_boxv Z H (cl := (cEAnswer a0)) rfl rfl rfl (by decide) rfl rfl rfl fun a w1 b1 H Z => ?_
 refine s_runk tN Z 1 rfl rfl fun a Z => ?_
 refine s_end Z [1, 2] rfl fun Z => ?_
 refine p_then (wp_seq ?_)
 refine wp_seq (f_region Z ?_); clear Z; intro Z
 refine s_runk tN Z 1 rfl rfl fun a Z => ?_
 refine sO Z _ rfl (oL tN rfl rfl (H.bc 0 0 rfl rfl)) fun a Z => ?_
 refine s_runk tN Z 2 rfl rfl fun a Z => ?_
 refine gO Z (pp b1 0) rfl (wantB_f _) (.n 1 rfl .z) (fun hp => Ob_c tN rfl) fun a Z => ?_
 refine gO Z _ rfl (wantB_f _) (.c 8 rfl id .z) (fun hp => oL tN rfl rfl (H.bc 0 0 rfl rfl)) fun a Z => ?_
 refine gO Z (vT (decide (a0.client ≥ 3))) rfl (wantB_f _) (.c 9 rfl id .z) (fun hp => Ob_c tN rfl) fun a Z => ?_
 refine sO Z (vT ((decide (a0.client < 0)) || (decide (a0.client ≥ 3)))) rfl (Ob_pick rfl rfl rfl rfl (pick_or _ _)) fun a Z => ?_
 refine s_end Z [1, 2, 11] rfl fun Z => ?_
 refine p_then ?_
 refine f_cond Z rfl (fun hc1 => ?_) (fun hc1 => ?_)
 ·replace hF := ite_t hc1 hF
  refine wp_seq (f_region Z ?_); clear Z; intro Z
  refine s_runk tN Z 1 rfl rfl fun a Z => ?_
  refine s_end Z [1, 2] rfl fun Z => ?_
  refine p_then (wp_ret ?_)
  refine p_then_r ?_
  obtain rfl := some_in hF
  exact f_ret Z (run_results1 rfl Z rfl) ⟨rfl, I, (H.sub [] rfl).eq rfl⟩
 ·replace hF := ite_f hc1 hF
  refine wp_skip ?_
  refine p_then (wp_seq ?_)
  refine wp_seq ?_
  obtain ⟨r0, hx1, hF⟩ := bnd_in hF
  refine f_region Z fun Z => ?_
  refine s_runk tN Z 1 rfl rfl fun a Z => ?_
  refine sO Z _ rfl (oL tN rfl rfl (H.bc 0 1 rfl rfl)) fun a Z => ?_
  refine s_runk tN Z 1 rfl rfl fun a Z => ?_
  refine sO Z _ rfl (oL tN rfl rfl (H.bc 0 3 rfl rfl)) fun a Z => ?_
  refine h_bslice Z H (vs := [(0, vI a0.req), (1, vI a0.pin)]) (cl := [vI a0.req, vI a0.pin]) (e := 3) rfl rfl rfl (by decide) rfl rfl (fun w => run_bslice (z := vI 0) (m := 1) Try.underlying35 (by kernel_rfl) rfl rfl (by decide) (by simp [Instr.fill, Value.cells]) w) fun a w2 b2 H Z => ?_
  obtain ⟨I1, _, H⟩ := H.frzlit 0 rfl (R := Ni64) [[vI a0.req], [vI a0.pin]] [a0.req, a0.pin] rfl rfl (fun i h1 h2 => by match i, h1, h2 with | 0, _, _ => exact ⟨rfl, trivial⟩ | 1, _, _ => exact ⟨rfl, trivial⟩) (show 2 ≤ maxLen from by decide) (n := 2) rfl
  replace H := H.nf rfl; try dsimp only at H
  refine hC Z H [(0, true)] rfl #[] fn_58_YNote rfl rfl (fun D h => have q := c_note_range0 hx1 h; q) fun vv a w3 D2 hr hF2 Z => ?_
  obtain ⟨rfl, I2, K⟩ := hr
  have H := (hF2 K).nf rfl
  refine s_runk tN Z 1 rfl rfl fun a Z => ?_
  refine s_end Z [1, 2, 3] rfl fun Z => ?_
  refine p_then (wp_seq (f_region Z ?_)); clear Z; intro Z
  refine s_runk tN Z 2 rfl rfl fun a Z => ?_
  refine s_end Z [1, 2, 3, 19] rfl fun Z => ?_
  refine p_then ?_
  refine f_cond Z rfl (fun hc2 => ?_) (fun hc2 => ?_)
  ·replace hF := ite_t hc2 hF
   refine wp_seq (f_region Z ?_); clear Z; intro Z
   refine s_runk tN Z 2 rfl rfl fun a Z => ?_
   refine s_end Z [1, 2] rfl fun Z => ?_
   refine p_then (wp_ret ?_)
   refine p_then_r ?_
   obtain rfl := some_in hF
   exact f_ret Z (run_results1 rfl Z rfl) ⟨rfl, I2, (H.sub [] rfl).eq rfl⟩
  ·replace hF := ite_f hc2 hF
   refine wp_skip ?_
   refine p_then (wp_seq ?_)
   refine wp_seq (f_region Z ?_); clear Z; intro Z
   refine s_runk tN Z 1 rfl rfl fun a Z => ?_
   refine sO Z _ rfl (oL tN rfl rfl (H.bc 1 2 rfl rfl)) fun a Z => ?_
   refine s_runk tN Z 2 rfl rfl fun a Z => ?_
   refine gO Z (pp b1 2) rfl (wantB_f _) (.n 1 rfl .z) (fun hp => Ob_c tN rfl) fun a Z => ?_
   refine gO Z _ rfl (wantB_f _) (.c 25 rfl id .z) (fun hp => oL tN rfl rfl (H.bc 1 2 rfl rfl)) fun a Z => ?_
   refine gO Z (vT (decide (a0.e > 21))) rfl (wantB_f _) (.c 26 rfl id .z) (fun hp => Ob_c tN rfl) fun a Z => ?_
   refine sO Z (vT ((decide (a0.e < 0)) || (decide (a0.e > 21)))) rfl (Ob_pick rfl rfl rfl rfl (pick_or _ _)) fun a Z => ?_
   refine s_end Z [2, 28] rfl fun Z => ?_
   refine p_then ?_
   refine f_cond Z rfl (fun hc3 => ?_) (fun hc3 => ?_)
   ·replace hF := ite_t hc3 hF
    refine wp_seq (f_region Z ?_); clear Z; intro Z
    refine s_runk tN Z 1 rfl rfl fun a Z => ?_
    refine s_end Z [2] rfl fun Z => ?_
    refine p_then (wp_ret ?_)
    refine p_then_r ?_
    obtain rfl := some_in hF
    exact f_ret Z (run_results1 rfl Z rfl) ⟨rfl, I2, (H.sub [] rfl).eq rfl⟩
   ·replace hF := ite_f hc3 hF
    refine wp_skip ?_
    refine p_then (wp_seq (f_region Z ?_)); clear Z; intro Z
    refine s_runk tN Z 1 rfl rfl fun a Z => ?_
    refine s_end Z [2] rfl fun Z => ?_
    refine p_then (wp_ret ?_)
    obtain rfl := some_in hF
    exact f_ret Z (run_results1 rfl Z rfl) ⟨rfl, I2, (H.sub [] rfl).eq rfl⟩

def F_note_Check_k1 (n0 : ENote) (x : Bool) : Option Int := if (x) = true then ((F_note_range0 [n0.n]).bind fun r0_2 => (some r0_2)) else (if (n0.k == 6) = true then ((F_note_range0 [n0.pin.id, n0.pin.left]).bind fun r0_3 => (some r0_3)) else (if (n0.k == 8) = true then ((F_note_said n0.said).bind fun s0 => (some s0)) else (some 11)))

def F_note_Check (n0 : ENote) : Option Int := if (n0.k == 1) = true then ((F_conf_Check n0.conf).bind fun c => (if (c != 0) = true then (some c) else ((F_note_legit n0.legit).bind fun l => (some l)))) else (if (n0.k == 2) = true then ((F_note_range0 [n0.n]).bind fun r0 => (if (r0 != 0) = true then (some r0) else ((F_item_Check n0.entry).bind fun c_2 => (some c_2)))) else (if (n0.k == 3) = true then (F_note_Check_k1 n0 (n0.k == 3)) else (if (n0.k == 4) = true then (F_note_Check_k1 n0 (n0.k == 4)) else (if (n0.k == 5) = true then (F_note_Check_k1 n0 (n0.k == 5)) else (F_note_Check_k1 n0 (n0.k == 7))))))

set_option maxHeartbeats 1000000 in
theorem c_note_Check {I D : Dm} {n0 : ENote} {v1_n0 : Value} {v2_n0 : Value} {v3_n0 : Value} {w : World} {rr : Int} (hF : F_note_Check n0 = some rr) (H : St I D w [SlC NEMember v1_n0 n0.conf.members, SlC Ni64 v2_n0 n0.legit, SlC NEOp v3_n0 n0.entry.batch.ops]) :
  Calls Try.prog 32 #[.agg (cENote n0 v1_n0 v2_n0 v3_n0).toArray] w (Ret fun vv w' => vv = vI rr ∧ ∃ I', Hf I D w I' w' []) := by
 replace H := H.hf
 unfold F_note_Check at hF
 refine f_enter 54 Try.func32 rfl rfl (Nat.le_of_ble_eq_true rfl) fun a Z => ?_
 replace Z := Z.sub (ts := [0]) rfl
 refine wp_seq (f_region Z ?_); clear Z; intro Z
 refine h_boxv Z H (cl := (cENote n0 v1_n0 v2_n0 v3_n0)) rfl rfl rfl (by decide) rfl rfl rfl fun a w1 b1 H Z => ?_
 refine s_runk tN Z 1 rfl rfl fun a Z => ?_
 refine s_end Z [1, 2] rfl fun Z => ?_
 refine p_then (wp_seq ?_)
 refine wp_seq (f_region Z ?_); clear Z; intro Z
 refine s_runk tN Z 1 rfl rfl fun a Z => ?_
 refine sO Z _ rfl (oL tN rfl rfl (H.bc 0 0 rfl rfl)) fun a Z => ?_
 refine s_end Z [1, 2, 6] rfl fun Z => ?_
 refine p_then (wp_block ?_)
 refine wp_seq (f_region Z ?_); clear Z; intro Z
 refine s_runk tN Z 2 rfl rfl fun a Z => ?_
 refine s_end Z [1, 2, 6, 7] rfl fun Z => ?_
 refine p_then ?_
 refine f_cond Z rfl (fun hc1 => ?_) (fun hc1 => ?_)
 ·replace hF := ite_t hc1 hF
  refine wp_seq ?_
  refine wp_seq ?_
  obtain ⟨c, hx1, hF⟩ := bnd_in hF
  refine f_region Z fun Z => ?_
  refine s_runk tN Z 1 rfl rfl fun a Z => ?_
  refine sO Z (.agg #[vI n0.conf.epoch, v1_n0, vU n0.conf.floor]) rfl (oA tN rfl rfl ((H.bx 0 rfl).part 3 rfl)) fun a Z => ?_
  refine hC Z H [(1, true)] rfl #[] fn_56_YNote rfl rfl (fun D h => have q := c_conf_Check hx1 h; q) fun vv a w2 D2 hr hF2 Z => ?_
  obtain ⟨rfl, I1, K⟩ := hr
  have H := (hF2 K).nf rfl
  refine s_runk tN Z 1 rfl rfl fun a Z => ?_
  refine s_end Z [1, 2, 3] rfl fun Z => ?_
  refine p_then (wp_seq (f_region Z ?_)); clear Z; intro Z
  refine s_runk tN Z 2 rfl rfl fun a Z => ?_
  refine s_end Z [1, 2, 3, 13] rfl fun Z => ?_
  refine p_then ?_
  refine f_cond Z rfl (fun hc2 => ?_) (fun hc2 => ?_)
  ·replace hF := ite_t hc2 hF
   refine wp_seq (f_region Z ?_); clear Z; intro Z
   refine s_runk tN Z 2 rfl rfl fun a Z => ?_
   refine s_end Z [1, 2] rfl fun Z => ?_
   refine p_then (wp_ret ?_)
   refine p_then_r ?_
   refine p_blk_r ?_
   refine p_then_r ?_
   obtain rfl := some_in hF
   exact f_ret Z (run_results1 rfl Z rfl) ⟨rfl, I1, (H.sub [] rfl).eq rfl⟩
  ·replace hF := ite_f hc2 hF
   refine wp_skip ?_
   refine p_then (wp_seq ?_)
   obtain ⟨l, hx2, hF⟩ := bnd_in hF
   refine f_region Z fun Z => ?_
   refine s_runk tN Z 1 rfl rfl fun a Z => ?_
   refine sO Z _ rfl (oL tN rfl rfl (H.bc 0 6 rfl rfl)) fun a Z => ?_
   refine hC Z H [(2, true)] rfl #[] fn_57_YNote rfl rfl (fun D h => have q := c_note_legit hx2 h; q) fun vv a w3 D2 hr hF2 Z => ?_
   obtain ⟨rfl, I2, K⟩ := hr
   have H := (hF2 K).nf rfl
   refine s_runk tN Z 1 rfl rfl fun a Z => ?_
   refine s_end Z [2] rfl fun Z => ?_
   refine p_then (wp_ret ?_)
   refine p_blk_r ?_
   refine p_then_r ?_
   obtain rfl := some_in hF
   exact f_ret Z (run_results1 rfl Z rfl) ⟨rfl, I2, (H.sub [] rfl).eq rfl⟩
 ·replace hF := ite_f hc1 hF
  refine wp_seq (f_region Z ?_); clear Z; intro Z
  refine s_runk tN Z 2 rfl rfl fun a Z => ?_
  refine s_end Z [1, 2, 6, 18] rfl fun Z => ?_
  refine p_then ?_
  refine f_cond Z rfl (fun hc3 => ?_) (fun hc3 => ?_)
  ·replace hF := ite_t hc3 hF
   refine wp_seq ?_
   refine wp_seq ?_
   obtain ⟨r0, hx3, hF⟩ := bnd_in hF
   refine f_region Z fun Z => ?_
   refine s_runk tN Z 1 rfl rfl fun a Z => ?_
   refine sO Z _ rfl (oL tN rfl rfl (H.bc 0 1 rfl rfl)) fun a Z => ?_
   refine h_bslice Z H (vs := [(0, vI n0.n)]) (cl := [vI n0.n]) (e := 3) rfl rfl rfl (by decide) rfl rfl (fun w => run_bslice (z := vI 0) (m := 1) Try.underlying35 (by kernel_rfl) rfl rfl (by decide) (by simp [Instr.fill, Value.cells]) w) fun a w4 b2 H Z => ?_
   obtain ⟨I3, _, H⟩ := H.frzlit 0 rfl (R := Ni64) [[vI n0.n]] [n0.n] rfl rfl (fun i h1 h2 => by match i, h1, h2 with | 0, _, _ => exact ⟨rfl, trivial⟩) (show 1 ≤ maxLen from by decide) (n := 1) rfl
   replace H := H.nf rfl; try dsimp only at H
   refine hC Z H [(0, true)] rfl #[] fn_58_YNote rfl rfl (fun D h => have q := c_note_range0 hx3 h; q) fun vv a w5 D2 hr hF2 Z => ?_
   obtain ⟨rfl, I4, K⟩ := hr
   have H := (hF2 K).nf rfl
   refine s_runk tN Z 1 rfl rfl fun a Z => ?_
   refine s_end Z [1, 2, 4] rfl fun Z => ?_
   refine p_then (wp_seq (f_region Z ?_)); clear Z; intro Z
   refine s_runk tN Z 2 rfl rfl fun a Z => ?_
   refine s_end Z [1, 2, 4, 25] rfl fun Z => ?_
   refine p_then ?_
   refine f_cond Z rfl (fun hc4 => ?_) (fun hc4 => ?_)
   ·replace hF := ite_t hc4 hF
    refine wp_seq (f_region Z ?_); clear Z; intro Z
    refine s_runk tN Z 2 rfl rfl fun a Z => ?_
    refine s_end Z [1, 2] rfl fun Z => ?_
    refine p_then (wp_ret ?_)
    refine p_then_r ?_
    refine p_blk_r ?_
    refine p_then_r ?_
    obtain rfl := some_in hF
    exact f_ret Z (run_results1 rfl Z rfl) ⟨rfl, I4, (H.sub [] rfl).eq rfl⟩
   ·replace hF := ite_f hc4 hF
    refine wp_skip ?_
    refine p_then (wp_seq ?_)
    obtain ⟨c_2, hx4, hF⟩ := bnd_in hF
    refine f_region Z fun Z => ?_
    refine s_runk tN Z 1 rfl rfl fun a Z => ?_
    refine sO Z (.agg (cEEntry n0.entry v3_n0).toArray) rfl (oA tN rfl rfl ((H.bx 1 rfl).part 7 rfl)) fun a Z => ?_
    refine hC Z H [(4, true)] rfl #[] fn_59_YNote rfl rfl (fun D h => have q := c_item_Check hx4 h; q) fun vv a w6 D2 hr hF2 Z => ?_
    obtain ⟨rfl, I5, K⟩ := hr
    have H := (hF2 K).nf rfl
    refine s_runk tN Z 1 rfl rfl fun a Z => ?_
    refine s_end Z [2] rfl fun Z => ?_
    refine p_then (wp_ret ?_)
    refine p_blk_r ?_
    refine p_then_r ?_
    obtain rfl := some_in hF
    exact f_ret Z (run_results1 rfl Z rfl) ⟨rfl, I5, (H.sub [] rfl).eq rfl⟩
  ·replace hF := ite_f hc3 hF
   refine f_cut (fun a' w' => ∃ (x : Bool), Sl 54 [(1, pp b1 0), (2, vI 0), (6, vI n0.k), (30, vT x)] a' ∧ (∃ I2, Hf I D w I2 w' [BxC b1 46 (cENote n0 v1_n0 v2_n0 v3_n0), SlC NEMember v1_n0 n0.conf.members, SlC Ni64 v2_n0 n0.legit, SlC NEOp v3_n0 n0.entry.batch.ops]) ∧ F_note_Check_k1 n0 x = some rr) ?_ ?_
   ·rintro a w7 ⟨x, Z, ⟨I6, H⟩, hF⟩
    unfold F_note_Check_k1 at hF
    try dsimp only at hF
    refine f_cond Z rfl (fun hc5 => ?_) (fun hc5 => ?_)
    ·replace hF := ite_t hc5 hF
     refine wp_seq ?_
     obtain ⟨r0_2, hx5, hF⟩ := bnd_in hF
     refine f_region Z fun Z => ?_
     refine s_runk tN Z 1 rfl rfl fun a Z => ?_
     refine sO Z _ rfl (oL tN rfl rfl (H.bc 0 1 rfl rfl)) fun a Z => ?_
     refine h_bslice Z H (vs := [(0, vI n0.n)]) (cl := [vI n0.n]) (e := 3) rfl rfl rfl (by decide) rfl rfl (fun w => run_bslice (z := vI 0) (m := 1) Try.underlying35 (by kernel_rfl) rfl rfl (by decide) (by simp [Instr.fill, Value.cells]) w) fun a w8 b3 H Z => ?_
     obtain ⟨I7, _, H⟩ := H.frzlit 0 rfl (R := Ni64) [[vI n0.n]] [n0.n] rfl rfl (fun i h1 h2 => by match i, h1, h2 with | 0, _, _ => exact ⟨rfl, trivial⟩) (show 1 ≤ maxLen from by decide) (n := 1) rfl
     replace H := H.nf rfl; try dsimp only at H
     refine hC Z H [(0, true)] rfl #[] fn_58_YNote rfl rfl (fun D h => have q := c_note_range0 hx5 h; q) fun vv a w9 D2 hr hF2 Z => ?_
     obtain ⟨rfl, I8, K⟩ := hr
     have H := (hF2 K).nf rfl
     refine s_runk tN Z 1 rfl rfl fun a Z => ?_
     refine s_end Z [2] rfl fun Z => ?_
     refine p_then (wp_ret ?_)
     refine p_blk_r ?_
     refine p_then_r ?_
     obtain rfl := some_in hF
     exact f_ret Z (run_results1 rfl Z rfl) ⟨rfl, I8, (H.sub [] rfl).eq rfl⟩
    ·replace hF := ite_f hc5 hF
     refine wp_seq (f_region Z ?_); clear Z; intro Z
     refine s_runk tN Z 2 rfl rfl fun a Z => ?_
     refine s_end Z [1, 2, 6, 39] rfl fun Z => ?_
     refine p_then ?_
     refine f_cond Z rfl (fun hc6 => ?_) (fun hc6 => ?_)
     ·replace hF := ite_t hc6 hF
      refine wp_seq ?_
      obtain ⟨r0_3, hx6, hF⟩ := bnd_in hF
      refine f_region Z fun Z => ?_
      refine s_runk tN Z 2 rfl rfl fun a Z => ?_
      refine sO Z _ rfl (oL tN rfl rfl (H.bc 0 11 rfl rfl)) fun a Z => ?_
      refine s_runk tN Z 2 rfl rfl fun a Z => ?_
      refine sO Z _ rfl (oL tN rfl rfl (H.bc 0 13 rfl rfl)) fun a Z => ?_
      refine h_bslice Z H (vs := [(0, vI n0.pin.id), (1, vI n0.pin.left)]) (cl := [vI n0.pin.id, vI n0.pin.left]) (e := 3) rfl rfl rfl (by decide) rfl rfl (fun w => run_bslice (z := vI 0) (m := 1) Try.underlying35 (by kernel_rfl) rfl rfl (by decide) (by simp [Instr.fill, Value.cells]) w) fun a w10 b4 H Z => ?_
      obtain ⟨I9, _, H⟩ := H.frzlit 0 rfl (R := Ni64) [[vI n0.pin.id], [vI n0.pin.left]] [n0.pin.id, n0.pin.left] rfl rfl (fun i h1 h2 => by match i, h1, h2 with | 0, _, _ => exact ⟨rfl, trivial⟩ | 1, _, _ => exact ⟨rfl, trivial⟩) (show 2 ≤ maxLen from by decide) (n := 2) rfl
      replace H := H.nf rfl; try dsimp only at H
      refine hC Z H [(0, true)] rfl #[] fn_58_YNote rfl rfl (fun D h => have q := c_note_range0 hx6 h; q) fun vv a w11 D2 hr hF2 Z => ?_
      obtain ⟨rfl, I10, K⟩ := hr
      have H := (hF2 K).nf rfl
      refine s_runk tN Z 1 rfl rfl fun a Z => ?_
      refine s_end Z [2] rfl fun Z => ?_
      refine p_then (wp_ret ?_)
      refine p_blk_r ?_
      refine p_then_r ?_
      obtain rfl := some_in hF
      exact f_ret Z (run_results1 rfl Z rfl) ⟨rfl, I10, (H.sub [] rfl).eq rfl⟩
     ·replace hF := ite_f hc6 hF
      refine wp_seq (f_region Z ?_); clear Z; intro Z
      refine s_runk tN Z 2 rfl rfl fun a Z => ?_
      refine s_end Z [1, 2, 49] rfl fun Z => ?_
      refine p_then ?_
      refine f_cond Z rfl (fun hc7 => ?_) (fun hc7 => ?_)
      ·replace hF := ite_t hc7 hF
       refine wp_seq ?_
       obtain ⟨s0, hx7, hF⟩ := bnd_in hF
       refine f_region Z fun Z => ?_
       refine s_runk tN Z 1 rfl rfl fun a Z => ?_
       refine sO Z (.agg (cEAnswer n0.said).toArray) rfl (oA tN rfl rfl ((H.bx 0 rfl).part 14 rfl)) fun a Z => ?_
       refine hC Z H [] rfl #[] fn_60_YNote rfl rfl (fun D h => have q := c_note_said hx7 h; q) fun vv a w12 D2 hr hF2 Z => ?_
       obtain ⟨rfl, I11, K⟩ := hr
       have H := (hF2 K).nf rfl
       refine s_runk tN Z 1 rfl rfl fun a Z => ?_
       refine s_end Z [2] rfl fun Z => ?_
       refine p_then (wp_ret ?_)
       refine p_blk_r ?_
       refine p_then_r ?_
       obtain rfl := some_in hF
       exact f_ret Z (run_results1 rfl Z rfl) ⟨rfl, I11, (H.sub [] rfl).eq rfl⟩
      ·replace hF := ite_f hc7 hF
       refine wp_skip ?_
       refine p_blk ?_
       refine p_then (wp_seq (f_region Z ?_)); clear Z; intro Z
       refine s_runk tN Z 1 rfl rfl fun a Z => ?_
       refine s_end Z [2] rfl fun Z => ?_
       refine p_then (wp_ret ?_)
       obtain rfl := some_in hF
       exact f_ret Z (run_results1 rfl Z rfl) ⟨rfl, I6, (H.sub [] rfl).eq rfl⟩
   ·skip
    refine wp_seq (f_region Z ?_); clear Z; intro Z
    refine s_runk tN Z 2 rfl rfl fun a Z => ?_
    refine s_end Z [1, 2, 6, 30] rfl fun Z => ?_
    refine p_then ?_
    refine f_cond Z rfl (fun hc8 => ?_) (fun hc8 => ?_)
    ·replace hF := ite_t hc8 hF
     refine wp_skip ?_
     refine p_then ?_
     exact ⟨n0.k == 3, Z.sub (ts := [1, 2, 6, 30]) rfl, ⟨I, (H.sub [(0, false), (0, true), (1, true), (2, true)] rfl).eq rfl⟩, hF⟩
    ·replace hF := ite_f hc8 hF
     refine wp_seq (f_region Z ?_); clear Z; intro Z
     refine s_runk tN Z 2 rfl rfl fun a Z => ?_
     refine s_end Z [1, 2, 6, 30] rfl fun Z => ?_
     refine p_then ?_
     refine f_cond Z rfl (fun hc9 => ?_) (fun hc9 => ?_)
     ·replace hF := ite_t hc9 hF
      refine wp_skip ?_
      refine p_then ?_
      exact ⟨n0.k == 4, Z.sub (ts := [1, 2, 6, 30]) rfl, ⟨I, (H.sub [(0, false), (0, true), (1, true), (2, true)] rfl).eq rfl⟩, hF⟩
     ·replace hF := ite_f hc9 hF
      refine wp_seq (f_region Z ?_); clear Z; intro Z
      refine s_runk tN Z 2 rfl rfl fun a Z => ?_
      refine s_end Z [1, 2, 6, 30] rfl fun Z => ?_
      refine p_then ?_
      refine f_cond Z rfl (fun hc10 => ?_) (fun hc10 => ?_)
      ·replace hF := ite_t hc10 hF
       refine wp_skip ?_
       refine p_then ?_
       exact ⟨n0.k == 5, Z.sub (ts := [1, 2, 6, 30]) rfl, ⟨I, (H.sub [(0, false), (0, true), (1, true), (2, true)] rfl).eq rfl⟩, hF⟩
      ·replace hF := ite_f hc10 hF
       refine f_region Z fun Z => ?_
       refine s_runk tN Z 2 rfl rfl fun a Z => ?_
       refine s_end Z [1, 2, 6, 30] rfl fun Z => ?_
       refine p_then ?_
       exact ⟨n0.k == 7, Z.sub (ts := [1, 2, 6, 30]) rfl, ⟨I, (H.sub [(0, false), (0, true), (1, true), (2, true)] rfl).eq rfl⟩, hF⟩

end Go.Proofs.Ytglfajjcgbfehaa

