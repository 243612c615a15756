/- Small texts in one. -/
import Derived.Test.YtaknkbbjimielaaYMv2
import Derived.Test.YtaknkbbjimielaaYRv
namespace Go.Proofs.Ytaknkbbjimielaa
open Go.RowKit
def tCL : TabL := ⟨[(29696, 0), (29697, 1), (112640, 0), (112641, 1)], [], [], [(27, (110, 2))], [(3, (1, false)), (27, (1, false)), (29, (3, true)), (110, (2, true))]⟩

def tC : Tab Try.prog := ⟨tCL, by kernel_rfl⟩

theorem fn_90_YConf : IsFn Try.prog 90 := ⟨_, Try.func90, by kernel_rfl, by kernel_rfl⟩

theorem fn_97_YConf : IsFn Try.prog 97 := ⟨_, Try.func97, by kernel_rfl, by kernel_rfl⟩

theorem fn_98_YConf : IsFn Try.prog 98 := ⟨_, Try.func98, by kernel_rfl, by kernel_rfl⟩

theorem fn_99_YConf : IsFn Try.prog 99 := ⟨_, Try.func99, by kernel_rfl, by kernel_rfl⟩

def F_ref07_Check_l2 (c : EConf) (i : Int) (rc : Int → Option Int) (rc_2 : Int → Option Int) (sg : Int) : Option Int := match sg with | k => if (decide (k < i)) = true then (chk ((0 : Int) ≤ k ∧ k < (c.members.length : Int)) (if (((c.members.getD (k).toNat default).id) == ((c.members.getD (i).toNat default).id)) = true then (some 18) else (chk (inI (k + 1)) (rc_2 (k + 1))))) else (chk (inI (i + 1)) (rc (i + 1)))

def F_ref07_Check_l1 (c : EConf) (rc : Int → Option Int) (sg : Int) : Option Int := match sg with | i => if (decide (i < (c.members.length : Int))) = true then (chk ((0 : Int) ≤ i ∧ i < (c.members.length : Int)) (if ((decide ((c.members.getD (i).toNat default).id < 0)) || (decide ((c.members.getD (i).toNat default).id ≥ 4))) = true then (some 1) else (if ((decide ((c.members.getD (i).toNat default).serial < 1)) || (decide ((c.members.getD (i).toNat default).serial > 1073741824))) = true then (some 5) else (iter (F_ref07_Check_l2 c i rc) FU 0)))) else (some 0)

def F_ref07_Check (c : EConf) : Option Int := if ((decide (c.epoch < 1)) || (decide (c.epoch > 1073741824))) = true then (some 5) else (if ((c.members.length : Int) == 0) = true then (some 7) else (if (decide ((c.members.length : Int) > 4)) = true then (some 6) else (iter (F_ref07_Check_l1 c) FU 0)))

def F_conf_one_1 (x : EMember) (p1 : EMember) : Option Bool := some (x.id == p1.id)

set_option maxHeartbeats 1000000 in
theorem c_conf_one_1 {I D : Dm} {x : EMember} {b_p1 : Nat} {p1 : EMember} {w : World} {rr : Bool} (hF : F_conf_one_1 x p1 = some rr) (H : St I D w [BxC b_p1 110 [vI p1.id, vI p1.serial]]) :
  Calls Try.prog 97 #[.agg #[vI x.id, vI x.serial], pp b_p1 0] w (Ret fun vv w' => vv = vT rr ∧ ∃ I', Hf I D w I' w' [BxC b_p1 110 [vI p1.id, vI p1.serial]]) := by
 replace H := H.hf
 unfold F_conf_one_1 at hF
 refine f_enter 9 Try.func97 rfl rfl (Nat.le_of_ble_eq_true rfl) fun a Z => ?_
 replace Z := Z.sub (ts := [0, 1]) rfl
 refine wp_seq (f_region Z ?_); clear Z; intro Z
 refine hB Z H [vI x.id, vI x.serial] rfl rfl rfl rfl fun a w1 b1 H Z => ?_
 refine s_runk tC Z 1 rfl rfl fun a Z => ?_
 refine s_end Z [1, 2, 3] rfl fun Z => ?_
 refine p_then (wp_seq (f_region Z ?_)); clear Z; intro Z
 refine s_runk tC Z 1 rfl rfl fun a Z => ?_
 refine sO Z _ rfl (oL tC rfl rfl (H.bc 0 0 rfl rfl)) fun a Z => ?_
 refine s_runk tC Z 1 rfl rfl fun a Z => ?_
 refine sO Z _ rfl (oL tC rfl rfl (H.bc 1 0 rfl rfl)) fun a Z => ?_
 refine s_runk tC Z 2 rfl rfl fun a Z => ?_
 refine s_end Z [3] rfl fun Z => ?_
 refine p_then (wp_ret ?_)
 obtain rfl := some_in hF
 exact f_ret Z (run_results1 rfl Z rfl) ⟨rfl, I, (H.sub [(1, false)] rfl).eq rfl⟩

def F_slices_IndexFunc_api_Member_api_Member__conf_one_1_l1 (s0 : List EMember) (p1 : EMember) (rc : Int → Option Int) (sg : Int) : Option Int := match sg with | x => if (decide (x < (s0.length : Int))) = true then (chk ((0 : Int) ≤ x ∧ x < (s0.length : Int)) ((F_conf_one_1 (s0.getD (x).toNat default) p1).bind fun x0 => (if (x0) = true then (some x) else (chk (inI (x + 1)) (rc (x + 1)))))) else (some (-1))

def F_slices_IndexFunc_api_Member_api_Member__conf_one_1 (s0 : List EMember) (p1 : EMember) : Option Int := iter (F_slices_IndexFunc_api_Member_api_Member__conf_one_1_l1 s0 p1) FU 0

set_option maxHeartbeats 1000000 in
theorem c_slices_IndexFunc_api_Member_api_Member__conf_one_1 {I D : Dm} {s0 : List EMember} {v1_s0 : Value} {b_p1 : Nat} {p1 : EMember} {w : World} {rr : Int} (hF : F_slices_IndexFunc_api_Member_api_Member__conf_one_1 s0 p1 = some rr) (H : St I D w [SlC NEMember v1_s0 s0, BxC b_p1 110 [vI p1.id, vI p1.serial]]) :
  Calls Try.prog 99 #[v1_s0, .func (.func 97) #[] #[pp b_p1 0]] w (Ret fun vv w' => vv = vI rr ∧ ∃ I', Hf I D w I' w' [BxC b_p1 110 [vI p1.id, vI p1.serial]]) := by
 replace H := H.hf
 unfold F_slices_IndexFunc_api_Member_api_Member__conf_one_1 at hF
 refine f_enter 19 Try.func99 rfl rfl (Nat.le_of_ble_eq_true rfl) fun a Z => ?_
 replace Z := Z.sub (ts := [0, 1]) rfl
 refine wp_seq (f_region Z ?_); clear Z; intro Z
 refine s_runk tC Z 1 rfl rfl fun a Z => ?_
 refine s_end Z [0, 1, 4] rfl fun Z => ?_
 refine p_then (wp_seq ?_)
 refine wp_seq (f_region Z ?_); clear Z; intro Z
 refine s_runk tC Z 1 rfl rfl fun a Z => ?_
 refine sO Z (vI (ln s0)) rfl (Ob_slen tC rfl rfl rfl (H.slshape 0 rfl)) fun a Z => ?_
 refine s_runk tC Z 1 rfl rfl fun a Z => ?_
 refine s_end Z [0, 1, 4, 7, 8] rfl fun Z => ?_
 refine p_then (wp_block ?_)
 refine f_iter hF (fun sg a' w' => match sg with | x => Sl 19 [(0, v1_s0), (1, .func (.func 97) #[] #[pp b_p1 0]), (4, vI 0), (7, vI (ln s0)), (8, vI x)] a' ∧ ∃ I2, Hf I D w I2 w' [BxC b_p1 110 [vI p1.id, vI p1.serial], SlC NEMember v1_s0 s0]) ⟨Z.sub (ts := [0, 1, 4, 7, 8]) rfl, ⟨I, (H.sub [(1, false), (0, true)] rfl).eq rfl⟩⟩ ?_
 rintro rc x a w1 ⟨Z, I1, H⟩ hF
 unfold F_slices_IndexFunc_api_Member_api_Member__conf_one_1_l1 at hF
 try dsimp only at hF
 refine wp_seq (f_region Z ?_); clear Z; intro Z
 refine s_runk tC Z 1 rfl rfl fun a Z => ?_
 refine s_end Z [0, 1, 4, 7, 8, 9] rfl fun Z => ?_
 refine p_then (wp_seq ?_)
 refine f_cond Z rfl (fun hc1 => ?_) (fun hc1 => ?_)
 ·replace hF := ite_t hc1 hF
  refine wp_skip ?_
  refine p_then (wp_seq ?_)
  refine wp_block ?_
  refine wp_seq (f_region Z ?_); clear Z; intro Z
  refine s_runk tC Z 2 rfl rfl fun a Z => ?_
  refine s_end Z [0, 1, 4, 7, 8, 9, 10, 5] rfl fun Z => ?_
  refine p_then (wp_seq ?_)
  obtain ⟨hg1, hF⟩ := chk_in hF
  obtain ⟨x0, hx1, hF⟩ := bnd_in hF
  refine f_region Z fun Z => ?_
  refine s_runk tC Z 3 rfl rfl fun a Z => ?_
  refine sO Z (.pointer (some ⟨blkOf v1_s0, oofOf v1_s0 + (x).toNat * 2, none⟩)) rfl (Ob_sidx tC rfl rfl rfl rfl (slPl (H.sl 1 rfl) hg1) hg1) fun a Z => ?_
  refine sO Z (.agg #[vI ((gi s0 x).id), vI ((gi s0 x).serial)]) rfl (oA tC rfl rfl ((slFl (H.sl 1 rfl) hg1).part 0 rfl)) fun a Z => ?_
  refine hC Z H [(0, false)] rfl #[pp b_p1 0] fn_97_YConf rfl rfl (fun D h => have q := c_conf_one_1 hx1 h; q) fun vv a w2 D2 hr hF2 Z => ?_
  obtain ⟨rfl, I2, K⟩ := hr
  have H := (hF2 K).nf rfl
  refine s_end Z [0, 1, 4, 7, 8, 9, 10, 5, 11, 12, 13, 14, 15, 16] rfl fun Z => ?_
  refine p_then ?_
  refine f_cond Z rfl (fun hc2 => ?_) (fun hc2 => ?_)
  ·replace hF := ite_t hc2 hF
   refine wp_seq (f_region Z ?_); clear Z; intro Z
   refine s_runk tC Z 2 rfl rfl fun a Z => ?_
   refine s_end Z [0, 1, 4, 7, 8, 9, 10, 5, 11, 12, 13, 14, 15, 16, 17] rfl fun Z => ?_
   refine p_then (wp_ret ?_)
   refine p_blk_r ?_
   refine p_then_r ?_
   refine p_then_r ?_
   refine p_blk_r ?_
   refine p_then_r ?_
   obtain rfl := some_in hF
   exact f_ret Z (run_results1 rfl Z rfl) ⟨rfl, I2, (H.sub [(0, false)] rfl).eq rfl⟩
  ·replace hF := ite_f hc2 hF
   refine wp_skip ?_
   refine p_blk ?_
   refine p_then ?_
   obtain ⟨hg2, hF⟩ := chk_in hF
   refine f_region Z fun Z => ?_
   refine sO Z (vI (x + 1)) rfl (Ob_add rfl rfl rfl (wrI hg2)) fun a Z => ?_
   refine s_runk tC Z 1 rfl rfl fun a Z => ?_
   refine s_end Z [0, 1, 4, 7, 8, 9, 10, 5, 11, 12, 13, 14, 15, 16, 18] rfl fun Z => ?_
   refine p_then ?_
   exact ⟨(x + 1), ⟨Z.sub (ts := [0, 1, 4, 7, 8]) rfl, ⟨I2, (H.sub [(0, false), (0, true)] rfl).eq rfl⟩⟩, hF⟩
 ·replace hF := ite_f hc1 hF
  refine wp_exit ?_
  refine p_then_x ?_
  refine p_then_x ?_
  refine f_exit_here ?_
  refine p_then (wp_seq (f_region Z ?_)); clear Z; intro Z
  refine s_runk tC Z 1 rfl rfl fun a Z => ?_
  refine s_end Z [4] rfl fun Z => ?_
  refine p_then (wp_ret ?_)
  obtain rfl := some_in hF
  exact f_ret Z (run_results1 rfl Z rfl) ⟨rfl, I1, (H.sub [(0, false)] rfl).eq rfl⟩

def F_slices_ContainsFunc_api_Member_api_Member__conf_one_1 (s0 : List EMember) (p1 : EMember) : Option Bool := (F_slices_IndexFunc_api_Member_api_Member__conf_one_1 s0 p1).bind fun x0 => (some (decide (x0 ≥ 0)))

set_option maxHeartbeats 1000000 in
theorem c_slices_ContainsFunc_api_Member_api_Member__conf_one_1 {I D : Dm} {s0 : List EMember} {v1_s0 : Value} {b_p1 : Nat} {p1 : EMember} {w : World} {rr : Bool} (hF : F_slices_ContainsFunc_api_Member_api_Member__conf_one_1 s0 p1 = some rr) (H : St I D w [SlC NEMember v1_s0 s0, BxC b_p1 110 [vI p1.id, vI p1.serial]]) :
  Calls Try.prog 98 #[v1_s0, .func (.func 97) #[] #[pp b_p1 0]] w (Ret fun vv w' => vv = vT rr ∧ ∃ I', Hf I D w I' w' [BxC b_p1 110 [vI p1.id, vI p1.serial]]) := by
 replace H := H.hf
 unfold F_slices_ContainsFunc_api_Member_api_Member__conf_one_1 at hF
 refine f_enter 9 Try.func98 rfl rfl (Nat.le_of_ble_eq_true rfl) fun a Z => ?_
 replace Z := Z.sub (ts := [0, 1]) rfl
 refine wp_seq (f_region Z ?_); clear Z; intro Z
 refine s_runk tC Z 1 rfl rfl fun a Z => ?_
 refine s_end Z [0, 1, 4] rfl fun Z => ?_
 refine p_then (wp_seq ?_)
 obtain ⟨x0, hx1, hF⟩ := bnd_in hF
 refine f_region Z fun Z => ?_
 refine s_runk tC Z 2 rfl rfl fun a Z => ?_
 refine hC Z H [(0, true), (1, false)] rfl #[] fn_99_YConf rfl rfl (fun D h => have q := c_slices_IndexFunc_api_Member_api_Member__conf_one_1 hx1 h; q) fun vv a w1 D2 hr hF2 Z => ?_
 obtain ⟨rfl, I1, K⟩ := hr
 have H := (hF2 K).nf rfl
 refine s_runk tC Z 2 rfl rfl fun a Z => ?_
 refine s_end Z [4] rfl fun Z => ?_
 refine p_then (wp_ret ?_)
 obtain rfl := some_in hF
 exact f_ret Z (run_results1 rfl Z rfl) ⟨rfl, I1, (H.sub [(0, false)] rfl).eq rfl⟩

def F_conf_one (m : EMember) (ahead : List EMember) : Option Int := if ((decide (m.id < 0)) || (decide (m.id ≥ 4))) = true then (some 1) else (if ((decide (m.serial < 1)) || (decide (m.serial > 1073741824))) = true then (some 5) else ((F_slices_ContainsFunc_api_Member_api_Member__conf_one_1 ahead m).bind fun x0 => (if (x0) = true then (some 18) else (some 0))))

set_option maxHeartbeats 1000000 in
theorem c_conf_one {I D : Dm} {m : EMember} {ahead : List EMember} {v1_ahead : Value} {w : World} {rr : Int} (hF : F_conf_one m ahead = some rr) (H : St I D w [SlC NEMember v1_ahead ahead]) :
  Calls Try.prog 90 #[.agg #[vI m.id, vI m.serial], v1_ahead] w (Ret fun vv w' => vv = vI rr ∧ ∃ I', Hf I D w I' w' []) := by
 replace H := H.hf
 unfold F_conf_one at hF
 refine f_enter 29 Try.func90 rfl rfl (Nat.le_of_ble_eq_true rfl) fun a Z => ?_
 replace Z := Z.sub (ts := [0, 1]) rfl
 refine wp_seq (f_region Z ?_); clear Z; intro Z
 refine hB Z H [vI m.id, vI m.serial] rfl rfl rfl rfl fun a w1 b1 H Z => ?_
 refine s_runk tC Z 1 rfl rfl fun a Z => ?_
 refine s_end Z [1, 2, 4] rfl fun Z => ?_
 refine p_then (wp_seq (f_region Z ?_)); clear Z; intro Z
 refine s_runk tC Z 2 rfl rfl fun a Z => ?_
 refine s_end Z [1, 2, 4, 5] rfl fun Z => ?_
 refine p_then (wp_seq ?_)
 refine wp_block ?_
 refine wp_seq (f_region Z ?_); clear Z; intro Z
 refine s_runk tC Z 1 rfl rfl fun a Z => ?_
 refine sO Z _ rfl (oL tC rfl rfl (H.bc 0 0 rfl rfl)) fun a Z => ?_
 refine s_runk tC Z 2 rfl rfl fun a Z => ?_
 refine gO Z (pp b1 0) rfl (wantB_f _) (.n 2 rfl .z) (fun hp => Ob_c tC rfl) fun a Z => ?_
 refine gO Z _ rfl (wantB_f _) (.c 12 rfl id .z) (fun hp => oL tC rfl rfl (H.bc 0 0 rfl rfl)) fun a Z => ?_
 refine gO Z (vT (decide (m.id ≥ 4))) rfl (wantB_f _) (.c 13 rfl id .z) (fun hp => Ob_c tC rfl) fun a Z => ?_
 refine sO Z (vT ((decide (m.id < 0)) || (decide (m.id ≥ 4)))) rfl (Ob_pick rfl rfl rfl rfl (pick_or _ _)) fun a Z => ?_
 refine s_runk tC Z 1 rfl rfl fun a Z => ?_
 refine s_end Z [1, 2, 4, 5, 7] rfl fun Z => ?_
 refine p_then ?_
 refine f_cond Z rfl (fun hc1 => ?_) (fun hc1 => ?_)
 ·replace hF := ite_t hc1 hF
  refine wp_seq (f_region Z ?_); clear Z; intro Z
  refine s_runk tC Z 1 rfl rfl fun a Z => ?_
  refine s_end Z [4] rfl fun Z => ?_
  refine p_then (wp_ret ?_)
  refine p_blk_r ?_
  refine p_then_r ?_
  obtain rfl := some_in hF
  exact f_ret Z (run_results1 rfl Z rfl) ⟨rfl, I, (H.sub [] rfl).eq rfl⟩
 ·replace hF := ite_f hc1 hF
  refine wp_seq (f_region Z ?_); clear Z; intro Z
  refine s_runk tC Z 1 rfl rfl fun a Z => ?_
  refine sO Z _ rfl (oL tC rfl rfl (H.bc 0 1 rfl rfl)) fun a Z => ?_
  refine s_runk tC Z 2 rfl rfl fun a Z => ?_
  refine gO Z (pp b1 1) rfl (wantB_f _) (.n 2 rfl .z) (fun hp => Ob_c tC rfl) fun a Z => ?_
  refine gO Z _ rfl (wantB_f _) (.c 21 rfl id .z) (fun hp => oL tC rfl rfl (H.bc 0 1 rfl rfl)) fun a Z => ?_
  refine gO Z (vT (decide (m.serial > 1073741824))) rfl (wantB_f _) (.c 22 rfl id .z) (fun hp => Ob_c tC rfl) fun a Z => ?_
  refine sO Z (vT ((decide (m.serial < 1)) || (decide (m.serial > 1073741824)))) rfl (Ob_pick rfl rfl rfl rfl (pick_or _ _)) fun a Z => ?_
  refine s_runk tC Z 1 rfl rfl fun a Z => ?_
  refine s_end Z [1, 4, 5, 16] rfl fun Z => ?_
  refine p_then ?_
  refine f_cond Z rfl (fun hc2 => ?_) (fun hc2 => ?_)
  ·replace hF := ite_t hc2 hF
   refine wp_seq (f_region Z ?_); clear Z; intro Z
   refine s_runk tC Z 1 rfl rfl fun a Z => ?_
   refine s_end Z [4] rfl fun Z => ?_
   refine p_then (wp_ret ?_)
   refine p_blk_r ?_
   refine p_then_r ?_
   obtain rfl := some_in hF
   exact f_ret Z (run_results1 rfl Z rfl) ⟨rfl, I, (H.sub [] rfl).eq rfl⟩
  ·replace hF := ite_f hc2 hF
   refine wp_seq ?_
   obtain ⟨x0, hx1, hF⟩ := bnd_in hF
   refine f_region Z fun Z => ?_
   refine s_runk tC Z 2 rfl rfl fun a Z => ?_
   refine hC Z H [(1, true), (0, false)] rfl #[] fn_98_YConf rfl rfl (fun D h => have q := c_slices_ContainsFunc_api_Member_api_Member__conf_one_1 hx1 h; q) fun vv a w2 D2 hr hF2 Z => ?_
   obtain ⟨rfl, I1, K⟩ := hr
   have H := (hF2 K).nf rfl
   refine s_runk tC Z 1 rfl rfl fun a Z => ?_
   refine s_end Z [4, 25] rfl fun Z => ?_
   refine p_then ?_
   refine f_cond Z rfl (fun hc3 => ?_) (fun hc3 => ?_)
   ·replace hF := ite_t hc3 hF
    refine wp_seq (f_region Z ?_); clear Z; intro Z
    refine s_runk tC Z 1 rfl rfl fun a Z => ?_
    refine s_end Z [4] rfl fun Z => ?_
    refine p_then (wp_ret ?_)
    refine p_blk_r ?_
    refine p_then_r ?_
    obtain rfl := some_in hF
    exact f_ret Z (run_results1 rfl Z rfl) ⟨rfl, I1, (H.sub [] rfl).eq rfl⟩
   ·replace hF := ite_f hc3 hF
    refine wp_skip ?_
    refine p_blk ?_
    refine p_then (wp_seq (f_region Z ?_)); clear Z; intro Z
    refine s_runk tC Z 1 rfl rfl fun a Z => ?_
    refine s_end Z [4] rfl fun Z => ?_
    refine p_then (wp_ret ?_)
    obtain rfl := some_in hF
    exact f_ret Z (run_results1 rfl Z rfl) ⟨rfl, I1, (H.sub [] rfl).eq rfl⟩

def F_conf_Check_l1 (c : EConf) (rc : Int → Option Int) (sg : Int) : Option Int := match sg with | x => if (decide (x < (c.members.length : Int))) = true then (chk ((0 : Int) ≤ x ∧ x < (c.members.length : Int)) (chk ((0 : Int) ≤ x ∧ x ≤ (c.members.length : Int)) ((F_conf_one (c.members.getD (x).toNat default) (c.members.take ((x).toNat))).bind fun o => (if (o != 0) = true then (some o) else (chk (inI (x + 1)) (rc (x + 1))))))) else (some 0)

def F_conf_Check (c : EConf) : Option Int := if ((decide (c.epoch < 1)) || (decide (c.epoch > 1073741824))) = true then (some 5) else (if ((c.members.length : Int) == 0) = true then (some 7) else (if (decide ((c.members.length : Int) > 4)) = true then (some 6) else (iter (F_conf_Check_l1 c) FU 0)))

set_option maxHeartbeats 1000000 in
theorem c_conf_Check {I D : Dm} {c : EConf} {v1_c : Value} {w : World} {rr : Int} (hF : F_conf_Check c = some rr) (H : St I D w [SlC NEMember v1_c c.members]) :
  Calls Try.prog 70 #[.agg #[vI c.epoch, v1_c, vU c.floor]] w (Ret fun vv w' => vv = vI rr ∧ ∃ I', Hf I D w I' w' []) := by
 replace H := H.hf
 unfold F_conf_Check at hF
 refine f_enter 43 Try.func70 rfl rfl (Nat.le_of_ble_eq_true rfl) fun a Z => ?_
 replace Z := Z.sub (ts := [0]) rfl
 refine wp_seq (f_region Z ?_); clear Z; intro Z
 refine hB Z H [vI c.epoch, v1_c, vU c.floor] rfl rfl rfl rfl fun a w1 b1 H Z => ?_
 refine s_runk tC Z 1 rfl rfl fun a Z => ?_
 refine s_end Z [1, 2] rfl fun Z => ?_
 refine p_then (wp_seq ?_)
 refine wp_block ?_
 refine wp_seq (f_region Z ?_); clear Z; intro Z
 refine s_runk tC Z 1 rfl rfl fun a Z => ?_
 refine sO Z _ rfl (oL tC rfl rfl (H.bc 0 0 rfl rfl)) fun a Z => ?_
 refine s_runk tC Z 2 rfl rfl fun a Z => ?_
 refine gO Z (pp b1 0) rfl (wantB_f _) (.n 1 rfl .z) (fun hp => Ob_c tC rfl) fun a Z => ?_
 refine gO Z _ rfl (wantB_f _) (.c 11 rfl id .z) (fun hp => oL tC rfl rfl (H.bc 0 0 rfl rfl)) fun a Z => ?_
 refine gO Z (vT (decide (c.epoch > 1073741824))) rfl (wantB_f _) (.c 12 rfl id .z) (fun hp => Ob_c tC rfl) fun a Z => ?_
 refine sO Z (vT ((decide (c.epoch < 1)) || (decide (c.epoch > 1073741824)))) rfl (Ob_pick rfl rfl rfl rfl (pick_or _ _)) fun a Z => ?_
 refine s_runk tC Z 1 rfl rfl fun a Z => ?_
 refine s_end Z [1, 2, 6] rfl fun Z => ?_
 refine p_then ?_
 refine f_cond Z rfl (fun hc1 => ?_) (fun hc1 => ?_)
 ·replace hF := ite_t hc1 hF
  refine wp_seq (f_region Z ?_); clear Z; intro Z
  refine s_runk tC Z 1 rfl rfl fun a Z => ?_
  refine s_end Z [1, 2] rfl fun Z => ?_
  refine p_then (wp_ret ?_)
  refine p_blk_r ?_
  refine p_then_r ?_
  obtain rfl := some_in hF
  exact f_ret Z (run_results1 rfl Z rfl) ⟨rfl, I, (H.sub [] rfl).eq rfl⟩
 ·replace hF := ite_f hc1 hF
  refine wp_seq (f_region Z ?_); clear Z; intro Z
  refine s_runk tC Z 1 rfl rfl fun a Z => ?_
  refine sO Z _ rfl (oL tC rfl rfl (H.bc 0 1 rfl rfl)) fun a Z => ?_
  refine sO Z (vI (ln c.members)) rfl (Ob_slen tC rfl rfl rfl (H.slshape 1 rfl)) fun a Z => ?_
  refine s_runk tC Z 2 rfl rfl fun a Z => ?_
  refine s_end Z [1, 2, 15] rfl fun Z => ?_
  refine p_then ?_
  refine f_cond Z rfl (fun hc2 => ?_) (fun hc2 => ?_)
  ·replace hF := ite_t hc2 hF
   refine wp_seq (f_region Z ?_); clear Z; intro Z
   refine s_runk tC Z 1 rfl rfl fun a Z => ?_
   refine s_end Z [1, 2] rfl fun Z => ?_
   refine p_then (wp_ret ?_)
   refine p_blk_r ?_
   refine p_then_r ?_
   obtain rfl := some_in hF
   exact f_ret Z (run_results1 rfl Z rfl) ⟨rfl, I, (H.sub [] rfl).eq rfl⟩
  ·replace hF := ite_f hc2 hF
   refine wp_seq (f_region Z ?_); clear Z; intro Z
   refine s_runk tC Z 1 rfl rfl fun a Z => ?_
   refine sO Z _ rfl (oL tC rfl rfl (H.bc 0 1 rfl rfl)) fun a Z => ?_
   refine sO Z (vI (ln c.members)) rfl (Ob_slen tC rfl rfl rfl (H.slshape 1 rfl)) fun a Z => ?_
   refine s_runk tC Z 2 rfl rfl fun a Z => ?_
   refine s_end Z [1, 2, 20] rfl fun Z => ?_
   refine p_then ?_
   refine f_cond Z rfl (fun hc3 => ?_) (fun hc3 => ?_)
   ·replace hF := ite_t hc3 hF
    refine wp_seq (f_region Z ?_); clear Z; intro Z
    refine s_runk tC Z 1 rfl rfl fun a Z => ?_
    refine s_end Z [1, 2] rfl fun Z => ?_
    refine p_then (wp_ret ?_)
    refine p_blk_r ?_
    refine p_then_r ?_
    obtain rfl := some_in hF
    exact f_ret Z (run_results1 rfl Z rfl) ⟨rfl, I, (H.sub [] rfl).eq rfl⟩
   ·replace hF := ite_f hc3 hF
    refine wp_skip ?_
    refine p_blk ?_
    refine p_then (wp_seq ?_)
    refine wp_seq (f_region Z ?_); clear Z; intro Z
    refine s_runk tC Z 1 rfl rfl fun a Z => ?_
    refine sO Z _ rfl (oL tC rfl rfl (H.bc 0 1 rfl rfl)) fun a Z => ?_
    refine sO Z (vI (ln c.members)) rfl (Ob_slen tC rfl rfl rfl (H.slshape 1 rfl)) fun a Z => ?_
    refine s_runk tC Z 1 rfl rfl fun a Z => ?_
    refine s_end Z [1, 2, 26, 27, 28] rfl fun Z => ?_
    refine p_then (wp_block ?_)
    refine f_iter hF (fun sg a' w' => match sg with | x => Sl 43 [(1, pp b1 0), (2, vI 0), (26, v1_c), (27, vI (ln c.members)), (28, vI x)] a' ∧ ∃ I2, Hf I D w I2 w' [BxC b1 29 [vI c.epoch, v1_c, vU c.floor], SlC NEMember v1_c c.members]) ⟨Z.sub (ts := [1, 2, 26, 27, 28]) rfl, ⟨I, (H.sub [(0, false), (0, true)] rfl).eq rfl⟩⟩ ?_
    rintro rc x a w2 ⟨Z, I1, H⟩ hF
    unfold F_conf_Check_l1 at hF
    try dsimp only at hF
    refine wp_seq (f_region Z ?_); clear Z; intro Z
    refine s_runk tC Z 1 rfl rfl fun a Z => ?_
    refine s_end Z [1, 2, 26, 27, 28, 29] rfl fun Z => ?_
    refine p_then (wp_seq ?_)
    refine f_cond Z rfl (fun hc4 => ?_) (fun hc4 => ?_)
    ·replace hF := ite_t hc4 hF
     refine wp_skip ?_
     refine p_then (wp_seq ?_)
     refine wp_block ?_
     refine wp_seq ?_
     obtain ⟨hg1, hF⟩ := chk_in hF
     refine f_region Z fun Z => ?_
     refine s_runk tC Z 1 rfl rfl fun a Z => ?_
     refine sO Z (.pointer (some ⟨blkOf v1_c, oofOf v1_c + (x).toNat * 2, none⟩)) rfl (Ob_sidx tC rfl rfl rfl rfl (slPl (H.sl 1 rfl) hg1) hg1) fun a Z => ?_
     refine sO Z (.agg #[vI ((gi c.members x).id), vI ((gi c.members x).serial)]) rfl (oA tC rfl rfl ((slFl (H.sl 1 rfl) hg1).part 0 rfl)) fun a Z => ?_
     refine hA Z H [vI 0, vI 0] rfl rfl (by kernel_rfl) fun a w3 b2 H Z => ?_
     refine s_runk tC Z 1 rfl rfl fun a Z => ?_
     refine hT tC Z H 0 rfl rfl rfl rfl rfl (onR 2 rfl one_nil) (Nat.le_of_ble_eq_true rfl) rfl fun w4 H => ?_
     dsimp only [List.eraseIdx] at H
     refine s_end Z [1, 2, 26, 27, 28, 29, 30, 31, 32, 4, 3] rfl fun Z => ?_
     refine p_then (wp_seq ?_)
     obtain ⟨hg2, hF⟩ := chk_in hF
     replace H : Hf I D w I1 w4 [SlC NEMember (subV v1_c 0 ((x).toNat) 2) (c.members.take ((x).toNat)), BxC b2 110 [vI ((gi c.members x).id), vI ((gi c.members x).serial)], BxC b1 29 [vI c.epoch, v1_c, vU c.floor], SlC NEMember v1_c c.members] := H.slPart_to 2 rfl hg2 2 rfl
     obtain ⟨o, hx1, hF⟩ := bnd_in hF
     refine f_quietd (by kernel_rfl) (by kernel_rfl) Z fun Z => ?_
     refine qO Z (.agg #[vI ((gi c.members x).id), vI ((gi c.members x).serial)]) rfl (fun _ hw => oA tC rfl rfl (((H.blw hw).bx 1 rfl).part 0 rfl)) fun a Z => ?_
     refine q_runk tC Z 1 rfl rfl fun a Z => ?_
     refine qO Z _ rfl (fun _ hw => oL tC rfl rfl ((H.blw hw).bc 2 1 rfl rfl)) fun a Z => ?_
     refine q_runk tC Z 1 rfl rfl fun a Z => ?_
     refine qO Z (subV v1_c 0 ((x).toNat) 2) rfl (fun _ hw => Ob_sub_to tC rfl rfl rfl rfl ((H.blw hw).slshape 3 rfl) hg2) fun a Z => ?_
     refine q_call Z (caps := #[]) fn_90_YConf rfl rfl rfl rfl rfl (by decide) rfl rfl (fun _ hw => (have hq := c_conf_one hx1 (((H.blw hw)).pick0 (js := [(0, true)]) rfl rfl); plainC hq)) fun a Z => ?_
     refine q_runk tC Z 1 rfl rfl fun a Z => ?_
     refine q_end Z [1, 2, 26, 27, 28, 29, 30, 31, 32, 4, 3, 33, 34, 35, 36, 37, 38, 5] rfl fun w5 hb Z => ?_
     replace H := H.blw hb
     clear hb
     refine p_then (wp_seq (f_region Z ?_)); clear Z; intro Z
     refine s_runk tC Z 2 rfl rfl fun a Z => ?_
     refine s_end Z [1, 2, 26, 27, 28, 29, 30, 31, 32, 4, 3, 33, 34, 35, 36, 37, 38, 5, 39, 40] rfl fun Z => ?_
     refine p_then ?_
     refine f_cond Z rfl (fun hc5 => ?_) (fun hc5 => ?_)
     ·replace hF := ite_t hc5 hF
      refine wp_seq (f_region Z ?_); clear Z; intro Z
      refine s_runk tC Z 2 rfl rfl fun a Z => ?_
      refine s_end Z [1, 2, 26, 27, 28, 29, 30, 31, 32, 4, 3, 33, 34, 35, 36, 37, 38, 5, 39, 40, 41] rfl fun Z => ?_
      refine p_then (wp_ret ?_)
      refine p_blk_r ?_
      refine p_then_r ?_
      refine p_then_r ?_
      refine p_blk_r ?_
      refine p_then_r ?_
      obtain rfl := some_in hF
      exact f_ret Z (run_results1 rfl Z rfl) ⟨rfl, I1, (H.sub [] rfl).eq rfl⟩
     ·replace hF := ite_f hc5 hF
      refine wp_skip ?_
      refine p_blk ?_
      refine p_then ?_
      obtain ⟨hg3, hF⟩ := chk_in hF
      refine f_region Z fun Z => ?_
      refine sO Z (vI (x + 1)) rfl (Ob_add rfl rfl rfl (wrI hg3)) fun a Z => ?_
      refine s_runk tC Z 1 rfl rfl fun a Z => ?_
      refine s_end Z [1, 2, 26, 27, 28, 29, 30, 31, 32, 4, 3, 33, 34, 35, 36, 37, 38, 5, 39, 40, 42] rfl fun Z => ?_
      refine p_then ?_
      exact ⟨(x + 1), ⟨Z.sub (ts := [1, 2, 26, 27, 28]) rfl, ⟨I1, (H.sub [(2, false), (2, true)] rfl).eq rfl⟩⟩, hF⟩
    ·replace hF := ite_f hc4 hF
     refine wp_exit ?_
     refine p_then_x ?_
     refine p_then_x ?_
     refine f_exit_here ?_
     refine p_then (wp_seq (f_region Z ?_)); clear Z; intro Z
     refine s_runk tC Z 1 rfl rfl fun a Z => ?_
     refine s_end Z [2] rfl fun Z => ?_
     refine p_then (wp_ret ?_)
     obtain rfl := some_in hF
     exact f_ret Z (run_results1 rfl Z rfl) ⟨rfl, I1, (H.sub [] rfl).eq rfl⟩

end Go.Proofs.Ytaknkbbjimielaa

namespace Go.Proofs.Ytaknkbbjimielaa
open Go.RowKit
end Go.Proofs.Ytaknkbbjimielaa

namespace Go.Proofs.Ytaknkbbjimielaa
open Go.RowKit
end Go.Proofs.Ytaknkbbjimielaa

namespace Go.Proofs.Ytaknkbbjimielaa
open Go.RowKit
end Go.Proofs.Ytaknkbbjimielaa

namespace Go.Proofs.Ytaknkbbjimielaa
open Go.RowKit
structure EEntry where
 batch : EBatch
 ts : Int

instance : Inhabited EEntry := ⟨⟨default, 0⟩⟩

def cEEntry (x : EEntry) (v0 : Value) : List Value := [.int .i64 x.batch.client, .int .i64 x.batch.req, v0, .int .u64 x.ts]

def NEEntry : Rp EEntry where
 n := 4
 rep A w cs x := ∃ v0 : Value, cs = cEEntry x v0 ∧ slRep NEOp A w v0 x.batch.ops
 len := fun ⟨v0, h, _⟩ => by rw [h]; rfl
 one := fun ⟨v0, h, s0⟩ c hc => by
  rw [h] at hc
  simp only [cEEntry, List.mem_cons, List.not_mem_nil, or_false] at hc
  rcases hc with rfl | rfl | rfl | rfl
  ·rfl
  ·rfl
  ·exact s0.one
  ·rfl
 mono := fun ⟨v0, h, s0⟩ hA hk => ⟨v0, h, s0.mono hA hk⟩
 bound := fun ⟨v0, h, s0⟩ => ⟨v0, h, s0.bound⟩

theorem NEEntry.dft (A : Dm) (w : World) : ∃ cl, NEEntry.rep A w cl default := ⟨_, .slice none 0 0, rfl, slRep.nil _ _ _ _ _ (Nat.zero_le _)⟩

structure EMsg where
 k : Int
 epoch : Int
 req : Int
 serial : Int
 flag : Bool
 at_ : Int
 last : Int
 n : Int
 m : Int
 p : Int
 e : Int
 key : ByteArray
 to_ : ByteArray
 conf : EConf
 batch : EBatch
 entries : List EEntry
 stamps : List Int
 pairs : List EPair

instance : Inhabited EMsg := ⟨⟨0, 0, 0, 0, false, 0, 0, 0, 0, 0, 0, ByteArray.empty, ByteArray.empty, default, default, [], [], []⟩⟩

def cEMsg (x : EMsg) (v0 : Value) (v1 : Value) (v2 : Value) (v3 : Value) (v4 : Value) : List Value := [.int .i64 x.k, .int .i64 x.epoch, .int .i64 x.req, .int .i64 x.serial, .bool x.flag, .int .u64 x.at_, .int .u64 x.last, .int .i64 x.n, .int .i64 x.m, .int .i64 x.p, .int .i64 x.e, .string x.key, .string x.to_, .int .i64 x.conf.epoch, v0, .int .u64 x.conf.floor, .int .i64 x.batch.client, .int .i64 x.batch.req, v1, v2, v3, v4]

def NEMsg : Rp EMsg where
 n := 22
 rep A w cs x := ∃ v0 v1 v2 v3 v4 : Value, cs = cEMsg x v0 v1 v2 v3 v4 ∧ slRep NEMember A w v0 x.conf.members ∧ slRep NEOp A w v1 x.batch.ops ∧ slRep NEEntry A w v2 x.entries ∧ slRep Nu64 A w v3 x.stamps ∧ slRep NEPair A w v4 x.pairs
 len := fun ⟨v0, v1, v2, v3, v4, h, _⟩ => by rw [h]; rfl
 one := fun ⟨v0, v1, v2, v3, v4, h, s0, s1, s2, s3, s4⟩ c hc => by
  rw [h] at hc
  simp only [cEMsg, List.mem_cons, List.not_mem_nil, or_false] at hc
  rcases hc with rfl | rfl | rfl | rfl | rfl | rfl | rfl | rfl | rfl | rfl | rfl | rfl | rfl | rfl | rfl | rfl | rfl | rfl | rfl | rfl | rfl | rfl
  ·rfl
  ·rfl
  ·rfl
  ·rfl
  ·rfl
  ·rfl
  ·rfl
  ·rfl
  ·rfl
  ·rfl
  ·rfl
  ·rfl
  ·rfl
  ·rfl
  ·exact s0.one
  ·rfl
  ·rfl
  ·rfl
  ·exact s1.one
  ·exact s2.one
  ·exact s3.one
  ·exact s4.one
 mono := fun ⟨v0, v1, v2, v3, v4, h, s0, s1, s2, s3, s4⟩ hA hk => ⟨v0, v1, v2, v3, v4, h, s0.mono hA hk, s1.mono hA hk, s2.mono hA hk, s3.mono hA hk, s4.mono hA hk⟩
 bound := fun ⟨v0, v1, v2, v3, v4, h, s0, s1, s2, s3, s4⟩ => ⟨v0, v1, v2, v3, v4, h, s0.bound, s1.bound, s2.bound, s3.bound, s4.bound⟩

structure Eserve_View where
 mark : Int
 horizon : Int
 epoch : Int
 head : Int

instance : Inhabited Eserve_View := ⟨⟨0, 0, 0, 0⟩⟩

def cEserve_View (x : Eserve_View) : List Value := [.int .u64 x.mark, .int .u64 x.horizon, .int .i64 x.epoch, .int .i64 x.head]

structure Eref31_View where
 mark : Int
 horizon : Int
 epoch : Int
 head : Int

instance : Inhabited Eref31_View := ⟨⟨0, 0, 0, 0⟩⟩

structure Elaw31_Put where
 t : Int
 ops : List EOp

instance : Inhabited Elaw31_Put := ⟨⟨0, []⟩⟩

def cElaw31_Put (x : Elaw31_Put) (v0 : Value) : List Value := [.int .u64 x.t, v0]

def NElaw31_Put : Rp Elaw31_Put where
 n := 2
 rep A w cs x := ∃ v0 : Value, cs = cElaw31_Put x v0 ∧ slRep NEOp A w v0 x.ops
 len := fun ⟨v0, h, _⟩ => by rw [h]; rfl
 one := fun ⟨v0, h, s0⟩ c hc => by
  rw [h] at hc
  simp only [cElaw31_Put, List.mem_cons, List.not_mem_nil, or_false] at hc
  rcases hc with rfl | rfl
  ·rfl
  ·exact s0.one
 mono := fun ⟨v0, h, s0⟩ hA hk => ⟨v0, h, s0.mono hA hk⟩
 bound := fun ⟨v0, h, s0⟩ => ⟨v0, h, s0.bound⟩

theorem NElaw31_Put.dft (A : Dm) (w : World) : ∃ cl, NElaw31_Put.rep A w cl default := ⟨_, .slice none 0 0, rfl, slRep.nil _ _ _ _ _ (Nat.zero_le _)⟩

def tIL : TabL := ⟨[(116736, 0), (116737, 3)], [], [], [], [(23, (1, false)), (32, (3, true)), (114, (4, true))]⟩

def tI : Tab Try.prog := ⟨tIL, by kernel_rfl⟩

theorem fn_39_YItem : IsFn Try.prog 39 := ⟨_, Try.func39, by kernel_rfl, by kernel_rfl⟩

def F_item_Check (e : EEntry) : Option Int := (F_ops_Check e.batch).bind fun c => (some c)

set_option maxHeartbeats 1000000 in
theorem c_item_Check {I D : Dm} {e : EEntry} {v1_e : Value} {w : World} {rr : Int} (hF : F_item_Check e = some rr) (H : St I D w [SlC NEOp v1_e e.batch.ops]) :
  Calls Try.prog 91 #[.agg (cEEntry e v1_e).toArray] w (Ret fun vv w' => vv = vI rr ∧ ∃ I', Hf I D w I' w' []) := by
 replace H := H.hf
 unfold F_item_Check at hF
 refine f_enter 6 Try.func91 rfl rfl (Nat.le_of_ble_eq_true rfl) fun a Z => ?_
 replace Z := Z.sub (ts := [0]) rfl
 refine wp_seq (f_region Z ?_); clear Z; intro Z
 refine h_boxv Z H (cl := (cEEntry e v1_e)) rfl rfl rfl (by decide) rfl rfl rfl fun a w1 b1 H Z => ?_
 refine s_runk tI Z 1 rfl rfl fun a Z => ?_
 refine s_end Z [1, 2] rfl fun Z => ?_
 refine p_then (wp_seq ?_)
 obtain ⟨c, hx1, hF⟩ := bnd_in hF
 refine f_region Z fun Z => ?_
 refine s_runk tI Z 1 rfl rfl fun a Z => ?_
 refine sO Z (.agg #[vI e.batch.client, vI e.batch.req, v1_e]) rfl (oA tI rfl rfl ((H.bx 0 rfl).part 0 rfl)) fun a Z => ?_
 refine hC Z H [(1, true)] rfl #[] fn_39_YItem rfl rfl (fun D h => have q := c_ops_Check hx1 h; q) fun vv a w2 D2 hr hF2 Z => ?_
 obtain ⟨rfl, I1, K⟩ := hr
 have H := (hF2 K).nf rfl
 refine s_runk tI Z 1 rfl rfl fun a Z => ?_
 refine s_end Z [2] rfl fun Z => ?_
 refine p_then (wp_ret ?_)
 obtain rfl := some_in hF
 exact f_ret Z (run_results1 rfl Z rfl) ⟨rfl, I1, (H.sub [] rfl).eq rfl⟩

end Go.Proofs.Ytaknkbbjimielaa

