/- Configurations: what the program and the document compute. -/
import Derived.Test.YthmjkcdpbbcdgaaYWire
import Derived.Test.YthmjkcdpbbcdgaaYAI
namespace Go.Proofs.Ythmjkcdpbbcdgaa
open Go.RowKit
structure Eruntime_boundsError where
 x : Int
 y : Int
 signed : Bool
 code : Int

instance : Inhabited Eruntime_boundsError := ⟨⟨0, 0, false, 0⟩⟩

def cEruntime_boundsError (x : Eruntime_boundsError) : List Value := [.int .i64 x.x, .int .i64 x.y, .bool x.signed, .int .u8 x.code]

def NEruntime_boundsError : Rp Eruntime_boundsError := Rp.flat 4 (fun _ => True) (fun x => cEruntime_boundsError x) (fun _ => rfl) (fun x c hc => by simp only [cEruntime_boundsError, List.mem_cons, List.not_mem_nil, or_false] at hc; rcases hc with rfl | rfl | rfl | rfl <;> rfl)

structure Eruntime_errorAddressString where
 msg : ByteArray
 addr : Int

instance : Inhabited Eruntime_errorAddressString := ⟨⟨ByteArray.empty, 0⟩⟩

structure EMember where
 id : Int
 serial : Int

instance : Inhabited EMember := ⟨⟨0, 0⟩⟩

def eqEMember (x y : EMember) : Bool := (x.id == y.id) && (x.serial == y.serial)

theorem eqEMember_iff {x y : EMember} : eqEMember x y = true ↔ x = y := by cases x; cases y; simp [eqEMember, seqB_iff, and_assoc]

def cEMember (x : EMember) : List Value := [.int .i64 x.id, .int .i64 x.serial]

def NEMember : Rp EMember := Rp.flat 2 (fun _ => True) (fun x => cEMember x) (fun _ => rfl) (fun x c hc => by simp only [cEMember, List.mem_cons, List.not_mem_nil, or_false] at hc; rcases hc with rfl | rfl <;> rfl)

structure EConf where
 epoch : Int
 members : List EMember
 floor : Int

instance : Inhabited EConf := ⟨⟨0, [], 0⟩⟩

def cEConf (x : EConf) (v0 : Value) : List Value := [.int .i64 x.epoch, v0, .int .u64 x.floor]

def NEConf : Rp EConf where
 n := 3
 rep A w cs x := ∃ v0 : Value, cs = cEConf x v0 ∧ slRep NEMember A w v0 x.members
 len := fun ⟨v0, h, _⟩ => by rw [h]; rfl
 one := fun ⟨v0, h, s0⟩ c hc => by
  rw [h] at hc
  simp only [cEConf, List.mem_cons, List.not_mem_nil, or_false] at hc
  rcases hc with rfl | rfl | rfl
  ·rfl
  ·exact s0.one
  ·rfl
 mono := fun ⟨v0, h, s0⟩ hA hk => ⟨v0, h, s0.mono hA hk⟩
 bound := fun ⟨v0, h, s0⟩ => ⟨v0, h, s0.bound⟩

def tCL : TabL := ⟨[(26624, 0), (26625, 1), (26626, 2), (105472, 0), (105473, 1)], [], [], [(24, (103, 2))], [(3, (1, false)), (22, (1, false)), (24, (1, false)), (26, (3, true)), (103, (2, true))]⟩

def tC : Tab Try.prog := ⟨tCL, by kernel_rfl⟩

theorem fn_13_YConf : IsFn Try.prog 13 := ⟨_, Try.func13, by kernel_rfl, by kernel_rfl⟩

theorem fn_14_YConf : IsFn Try.prog 14 := ⟨_, Try.func14, by kernel_rfl, by kernel_rfl⟩

theorem fn_16_YConf : IsFn Try.prog 16 := ⟨_, Try.func16, by kernel_rfl, by kernel_rfl⟩

theorem fn_37_YConf : IsFn Try.prog 37 := ⟨_, Try.func37, by kernel_rfl, by kernel_rfl⟩

theorem fn_58_YConf : IsFn Try.prog 58 := ⟨_, Try.func58, by kernel_rfl, by kernel_rfl⟩

theorem fn_77_YConf : IsFn Try.prog 77 := ⟨_, Try.func77, by kernel_rfl, by kernel_rfl⟩

theorem fn_84_YConf : IsFn Try.prog 84 := ⟨_, Try.func84, by kernel_rfl, by kernel_rfl⟩

theorem fn_85_YConf : IsFn Try.prog 85 := ⟨_, Try.func85, by kernel_rfl, by kernel_rfl⟩

theorem fn_87_YConf : IsFn Try.prog 87 := ⟨_, Try.func87, by kernel_rfl, by kernel_rfl⟩

def F_conf_one_1 (x : EMember) (p1 : EMember) : Option Bool := some (x.id == p1.id)

set_option maxHeartbeats 1000000 in
theorem c_conf_one_1 {I D : Dm} {x : EMember} {b_p1 : Nat} {p1 : EMember} {w : World} {rr : Bool} (hF : F_conf_one_1 x p1 = some rr) (H : St I D w [BxC b_p1 103 [vI p1.id, vI p1.serial]]) :
  Calls Try.prog 84 #[.agg #[vI x.id, vI x.serial], pp b_p1 0] w (Ret fun vv w' => vv = vT rr ∧ ∃ I', Hf I D w I' w' [BxC b_p1 103 [vI p1.id, vI p1.serial]]) := by
 replace H := H.hf
 unfold F_conf_one_1 at hF
 refine f_enter 9 Try.func84 rfl rfl (Nat.le_of_ble_eq_true rfl) fun a Z => ?_
 replace Z := Z.sub (ts := [0, 1]) rfl
 refine wp_seq (f_region Z ?_); clear Z; intro Z
 refine hB Z H [vI x.id, vI x.serial] rfl rfl rfl rfl fun a w1 b1 H Z => ?_
 refine s_runk tC Z 1 rfl rfl fun a Z => ?_
 refine s_end Z [1, 2, 3] rfl fun Z => ?_
 refine p_then (wp_seq (f_region Z ?_)); clear Z; intro Z
 refine s_runk tC Z 1 rfl rfl fun a Z => ?_
 refine sO Z _ rfl (oL tC rfl rfl (H.bc 0 0 rfl rfl)) fun a Z => ?_
 refine s_runk tC Z 1 rfl rfl fun a Z => ?_
 refine sO Z _ rfl (oL tC rfl rfl (H.bc 1 0 rfl rfl)) fun a Z => ?_
 refine s_runk tC Z 2 rfl rfl fun a Z => ?_
 refine s_end Z [3] rfl fun Z => ?_
 refine p_then (wp_ret ?_)
 obtain rfl := some_in hF
 exact f_ret Z (run_results1 rfl Z rfl) ⟨rfl, I, (H.sub [(1, false)] rfl).eq rfl⟩

def F_slices_IndexFunc_api_Member_api_Member__conf_one_1_l1 (s0 : List EMember) (p1 : EMember) (rc : Int → Option Int) (sg : Int) : Option Int := match sg with | x => if (decide (x < (s0.length : Int))) = true then (chk ((0 : Int) ≤ x ∧ x < (s0.length : Int)) ((F_conf_one_1 (s0.getD (x).toNat default) p1).bind fun x0 => (if (x0) = true then (some x) else (chk (inI (x + 1)) (rc (x + 1)))))) else (some (-1))

def F_slices_IndexFunc_api_Member_api_Member__conf_one_1 (s0 : List EMember) (p1 : EMember) : Option Int := iter (F_slices_IndexFunc_api_Member_api_Member__conf_one_1_l1 s0 p1) FU 0

set_option maxHeartbeats 1000000 in
theorem c_slices_IndexFunc_api_Member_api_Member__conf_one_1 {I D : Dm} {s0 : List EMember} {v1_s0 : Value} {b_p1 : Nat} {p1 : EMember} {w : World} {rr : Int} (hF : F_slices_IndexFunc_api_Member_api_Member__conf_one_1 s0 p1 = some rr) (H : St I D w [SlC NEMember v1_s0 s0, BxC b_p1 103 [vI p1.id, vI p1.serial]]) :
  Calls Try.prog 87 #[v1_s0, .func (.func 84) #[] #[pp b_p1 0]] w (Ret fun vv w' => vv = vI rr ∧ ∃ I', Hf I D w I' w' [BxC b_p1 103 [vI p1.id, vI p1.serial]]) := by
 replace H := H.hf
 unfold F_slices_IndexFunc_api_Member_api_Member__conf_one_1 at hF
 refine f_enter 19 Try.func87 rfl rfl (Nat.le_of_ble_eq_true rfl) fun a Z => ?_
 replace Z := Z.sub (ts := [0, 1]) rfl
 refine wp_seq (f_region Z ?_); clear Z; intro Z
 refine s_runk tC Z 1 rfl rfl fun a Z => ?_
 refine s_end Z [0, 1, 4] rfl fun Z => ?_
 refine p_then (wp_seq ?_)
 refine wp_seq (f_region Z ?_); clear Z; intro Z
 refine s_runk tC Z 1 rfl rfl fun a Z => ?_
 refine sO Z (vI (ln s0)) rfl (Ob_slen tC rfl rfl rfl (H.slshape 0 rfl)) fun a Z => ?_
 refine s_runk tC Z 1 rfl rfl fun a Z => ?_
 refine s_end Z [0, 1, 4, 7, 8] rfl fun Z => ?_
 refine p_then (wp_block ?_)
 refine f_iter hF (fun sg a' w' => match sg with | x => Sl 19 [(0, v1_s0), (1, .func (.func 84) #[] #[pp b_p1 0]), (4, vI 0), (7, vI (ln s0)), (8, vI x)] a' ∧ ∃ I2, Hf I D w I2 w' [BxC b_p1 103 [vI p1.id, vI p1.serial], SlC NEMember v1_s0 s0]) ⟨Z.sub (ts := [0, 1, 4, 7, 8]) rfl, ⟨I, (H.sub [(1, false), (0, true)] rfl).eq rfl⟩⟩ ?_
 rintro rc x a w1 ⟨Z, I1, H⟩ hF
 unfold F_slices_IndexFunc_api_Member_api_Member__conf_one_1_l1 at hF
 try dsimp only at hF
 refine wp_seq (f_region Z ?_); clear Z; intro Z
 refine s_runk tC Z 1 rfl rfl fun a Z => ?_
 refine s_end Z [0, 1, 4, 7, 8, 9] rfl fun Z => ?_
 refine p_then (wp_seq ?_)
 refine f_cond Z rfl (fun hc1 => ?_) (fun hc1 => ?_)
 ·replace hF := ite_t hc1 hF
  refine wp_skip ?_
  refine p_then (wp_seq ?_)
  refine wp_block ?_
  refine wp_seq (f_region Z ?_); clear Z; intro Z
  refine s_runk tC Z 2 rfl rfl fun a Z => ?_
  refine s_end Z [0, 1, 4, 7, 8, 9, 10, 5] rfl fun Z => ?_
  refine p_then (wp_seq ?_)
  obtain ⟨hg1, hF⟩ := chk_in hF
  obtain ⟨x0, hx1, hF⟩ := bnd_in hF
  refine f_region Z fun Z => ?_
  refine s_runk tC Z 3 rfl rfl fun a Z => ?_
  refine sO Z (.pointer (some ⟨blkOf v1_s0, oofOf v1_s0 + (x).toNat * 2, none⟩)) rfl (Ob_sidx tC rfl rfl rfl rfl (slPl (H.sl 1 rfl) hg1) hg1) fun a Z => ?_
  refine sO Z (.agg #[vI ((gi s0 x).id), vI ((gi s0 x).serial)]) rfl (oA tC rfl rfl ((slFl (H.sl 1 rfl) hg1).part 0 rfl)) fun a Z => ?_
  refine hC Z H [(0, false)] rfl #[pp b_p1 0] fn_84_YConf rfl rfl (fun D h => have q := c_conf_one_1 hx1 h; q) fun vv a w2 D2 hr hF2 Z => ?_
  obtain ⟨rfl, I2, K⟩ := hr
  have H := (hF2 K).nf rfl
  refine s_end Z [0, 1, 4, 7, 8, 9, 10, 5, 11, 12, 13, 14, 15, 16] rfl fun Z => ?_
  refine p_then ?_
  refine f_cond Z rfl (fun hc2 => ?_) (fun hc2 => ?_)
  ·replace hF := ite_t hc2 hF
   refine wp_seq (f_region Z ?_); clear Z; intro Z
   refine s_runk tC Z 2 rfl rfl fun a Z => ?_
   refine s_end Z [0, 1, 4, 7, 8, 9, 10, 5, 11, 12, 13, 14, 15, 16, 17] rfl fun Z => ?_
   refine p_then (wp_ret ?_)
   refine p_blk_r ?_
   refine p_then_r ?_
   refine p_then_r ?_
   refine p_blk_r ?_
   refine p_then_r ?_
   obtain rfl := some_in hF
   exact f_ret Z (run_results1 rfl Z rfl) ⟨rfl, I2, (H.sub [(0, false)] rfl).eq rfl⟩
  ·replace hF := ite_f hc2 hF
   refine wp_skip ?_
   refine p_blk ?_
   refine p_then ?_
   obtain ⟨hg2, hF⟩ := chk_in hF
   refine f_region Z fun Z => ?_
   refine sO Z (vI (x + 1)) rfl (Ob_add rfl rfl rfl (wrI hg2)) fun a Z => ?_
   refine s_runk tC Z 1 rfl rfl fun a Z => ?_
   refine s_end Z [0, 1, 4, 7, 8, 9, 10, 5, 11, 12, 13, 14, 15, 16, 18] rfl fun Z => ?_
   refine p_then ?_
   exact ⟨(x + 1), ⟨Z.sub (ts := [0, 1, 4, 7, 8]) rfl, ⟨I2, (H.sub [(0, false), (0, true)] rfl).eq rfl⟩⟩, hF⟩
 ·replace hF := ite_f hc1 hF
  refine wp_exit ?_
  refine p_then_x ?_
  refine p_then_x ?_
  refine f_exit_here ?_
  refine p_then (wp_seq (f_region Z ?_)); clear Z; intro Z
  refine s_runk tC Z 1 rfl rfl fun a Z => ?_
  refine s_end Z [4] rfl fun Z => ?_
  refine p_then (wp_ret ?_)
  obtain rfl := some_in hF
  exact f_ret Z (run_results1 rfl Z rfl) ⟨rfl, I1, (H.sub [(0, false)] rfl).eq rfl⟩

def F_slices_ContainsFunc_api_Member_api_Member__conf_one_1 (s0 : List EMember) (p1 : EMember) : Option Bool := (F_slices_IndexFunc_api_Member_api_Member__conf_one_1 s0 p1).bind fun x0 => (some (decide (x0 ≥ 0)))

set_option maxHeartbeats 1000000 in
theorem c_slices_ContainsFunc_api_Member_api_Member__conf_one_1 {I D : Dm} {s0 : List EMember} {v1_s0 : Value} {b_p1 : Nat} {p1 : EMember} {w : World} {rr : Bool} (hF : F_slices_ContainsFunc_api_Member_api_Member__conf_one_1 s0 p1 = some rr) (H : St I D w [SlC NEMember v1_s0 s0, BxC b_p1 103 [vI p1.id, vI p1.serial]]) :
  Calls Try.prog 85 #[v1_s0, .func (.func 84) #[] #[pp b_p1 0]] w (Ret fun vv w' => vv = vT rr ∧ ∃ I', Hf I D w I' w' [BxC b_p1 103 [vI p1.id, vI p1.serial]]) := by
 replace H := H.hf
 unfold F_slices_ContainsFunc_api_Member_api_Member__conf_one_1 at hF
 refine f_enter 9 Try.func85 rfl rfl (Nat.le_of_ble_eq_true rfl) fun a Z => ?_
 replace Z := Z.sub (ts := [0, 1]) rfl
 refine wp_seq (f_region Z ?_); clear Z; intro Z
 refine s_runk tC Z 1 rfl rfl fun a Z => ?_
 refine s_end Z [0, 1, 4] rfl fun Z => ?_
 refine p_then (wp_seq ?_)
 obtain ⟨x0, hx1, hF⟩ := bnd_in hF
 refine f_region Z fun Z => ?_
 refine s_runk tC Z 2 rfl rfl fun a Z => ?_
 refine hC Z H [(0, true), (1, false)] rfl #[] fn_87_YConf rfl rfl (fun D h => have q := c_slices_IndexFunc_api_Member_api_Member__conf_one_1 hx1 h; q) fun vv a w1 D2 hr hF2 Z => ?_
 obtain ⟨rfl, I1, K⟩ := hr
 have H := (hF2 K).nf rfl
 refine s_runk tC Z 2 rfl rfl fun a Z => ?_
 refine s_end Z [4] rfl fun Z => ?_
 refine p_then (wp_ret ?_)
 obtain rfl := some_in hF
 exact f_ret Z (run_results1 rfl Z rfl) ⟨rfl, I1, (H.sub [(0, false)] rfl).eq rfl⟩

def F_conf_one (m : EMember) (ahead : List EMember) : Option Int := if ((decide (m.id < 0)) || (decide (m.id ≥ 4))) = true then (some 1) else (if ((decide (m.serial < 1)) || (decide (m.serial > 1073741824))) = true then (some 5) else ((F_slices_ContainsFunc_api_Member_api_Member__conf_one_1 ahead m).bind fun x0 => (if (x0) = true then (some 18) else (some 0))))

set_option maxHeartbeats 1000000 in
theorem c_conf_one {I D : Dm} {m : EMember} {ahead : List EMember} {v1_ahead : Value} {w : World} {rr : Int} (hF : F_conf_one m ahead = some rr) (H : St I D w [SlC NEMember v1_ahead ahead]) :
  Calls Try.prog 77 #[.agg #[vI m.id, vI m.serial], v1_ahead] w (Ret fun vv w' => vv = vI rr ∧ ∃ I', Hf I D w I' w' []) := by
 replace H := H.hf
 unfold F_conf_one at hF
 refine f_enter 29 Try.func77 rfl rfl (Nat.le_of_ble_eq_true rfl) fun a Z => ?_
 replace Z := Z.sub (ts := [0, 1]) rfl
 refine wp_seq (f_region Z ?_); clear Z; intro Z
 refine hB Z H [vI m.id, vI m.serial] rfl rfl rfl rfl fun a w1 b1 H Z => ?_
 refine s_runk tC Z 1 rfl rfl fun a Z => ?_
 refine s_end Z [1, 2, 4] rfl fun Z => ?_
 refine p_then (wp_seq (f_region Z ?_)); clear Z; intro Z
 refine s_runk tC Z 2 rfl rfl fun a Z => ?_
 refine s_end Z [1, 2, 4, 5] rfl fun Z => ?_
 refine p_then (wp_seq ?_)
 refine wp_block ?_
 refine wp_seq (f_region Z ?_); clear Z; intro Z
 refine s_runk tC Z 1 rfl rfl fun a Z => ?_
 refine sO Z _ rfl (oL tC rfl rfl (H.bc 0 0 rfl rfl)) fun a Z => ?_
 refine s_runk tC Z 2 rfl rfl fun a Z => ?_
 refine gO Z (pp b1 0) rfl (wantB_f _) (.n 2 rfl .z) (fun hp => Ob_c tC rfl) fun a Z => ?_
 refine gO Z _ rfl (wantB_f _) (.c 12 rfl id .z) (fun hp => oL tC rfl rfl (H.bc 0 0 rfl rfl)) fun a Z => ?_
 refine gO Z (vT (decide (m.id ≥ 4))) rfl (wantB_f _) (.c 13 rfl id .z) (fun hp => Ob_c tC rfl) fun a Z => ?_
 refine sO Z (vT ((decide (m.id < 0)) || (decide (m.id ≥ 4)))) rfl (Ob_pick rfl rfl rfl rfl (pick_or _ _)) fun a Z => ?_
 refine s_runk tC Z 1 rfl rfl fun a Z => ?_
 refine s_end Z [1, 2, 4, 5, 7] rfl fun Z => ?_
 refine p_then ?_
 refine f_cond Z rfl (fun hc1 => ?_) (fun hc1 => ?_)
 ·replace hF := ite_t hc1 hF
  refine wp_seq (f_region Z ?_); clear Z; intro Z
  refine s_runk tC Z 1 rfl rfl fun a Z => ?_
  refine s_end Z [4] rfl fun Z => ?_
  refine p_then (wp_ret ?_)
  refine p_blk_r ?_
  refine p_then_r ?_
  obtain rfl := some_in hF
  exact f_ret Z (run_results1 rfl Z rfl) ⟨rfl, I, (H.sub [] rfl).eq rfl⟩
 ·replace hF := ite_f hc1 hF
  refine wp_seq (f_region Z ?_); clear Z; intro Z
  refine s_runk tC Z 1 rfl rfl fun a Z => ?_
  refine sO Z _ rfl (oL tC rfl rfl (H.bc 0 1 rfl rfl)) fun a Z => ?_
  refine s_runk tC Z 2 rfl rfl fun a Z => ?_
  refine gO Z (pp b1 1) rfl (wantB_f _) (.n 2 rfl .z) (fun hp => Ob_c tC rfl) fun a Z => ?_
  refine gO Z _ rfl (wantB_f _) (.c 21 rfl id .z) (fun hp => oL tC rfl rfl (H.bc 0 1 rfl rfl)) fun a Z => ?_
  refine gO Z (vT (decide (m.serial > 1073741824))) rfl (wantB_f _) (.c 22 rfl id .z) (fun hp => Ob_c tC rfl) fun a Z => ?_
  refine sO Z (vT ((decide (m.serial < 1)) || (decide (m.serial > 1073741824)))) rfl (Ob_pick rfl rfl rfl rfl (pick_or _ _)) fun a Z => ?_
  refine s_runk tC Z 1 rfl rfl fun a Z => ?_
  refine s_end Z [1, 4, 5, 16] rfl fun Z => ?_
  refine p_then ?_
  refine f_cond Z rfl (fun hc2 => ?_) (fun hc2 => ?_)
  ·replace hF := ite_t hc2 hF
   refine wp_seq (f_region Z ?_); clear Z; intro Z
   refine s_runk tC Z 1 rfl rfl fun a Z => ?_
   refine s_end Z [4] rfl fun Z => ?_
   refine p_then (wp_ret ?_)
   refine p_blk_r ?_
   refine p_then_r ?_
   obtain rfl := some_in hF
   exact f_ret Z (run_results1 rfl Z rfl) ⟨rfl, I, (H.sub [] rfl).eq rfl⟩
  ·replace hF := ite_f hc2 hF
   refine wp_seq ?_
   obtain ⟨x0, hx1, hF⟩ := bnd_in hF
   refine f_region Z fun Z => ?_
   refine s_runk tC Z 2 rfl rfl fun a Z => ?_
   refine hC Z H [(1, true), (0, false)] rfl #[] fn_85_YConf rfl rfl (fun D h => have q := c_slices_ContainsFunc_api_Member_api_Member__conf_one_1 hx1 h; q) fun vv a w2 D2 hr hF2 Z => ?_
   obtain ⟨rfl, I1, K⟩ := hr
   have H := (hF2 K).nf rfl
   refine s_runk tC Z 1 rfl rfl fun a Z => ?_
   refine s_end Z [4, 25] rfl fun Z => ?_
   refine p_then ?_
   refine f_cond Z rfl (fun hc3 => ?_) (fun hc3 => ?_)
   ·replace hF := ite_t hc3 hF
    refine wp_seq (f_region Z ?_); clear Z; intro Z
    refine s_runk tC Z 1 rfl rfl fun a Z => ?_
    refine s_end Z [4] rfl fun Z => ?_
    refine p_then (wp_ret ?_)
    refine p_blk_r ?_
    refine p_then_r ?_
    obtain rfl := some_in hF
    exact f_ret Z (run_results1 rfl Z rfl) ⟨rfl, I1, (H.sub [] rfl).eq rfl⟩
   ·replace hF := ite_f hc3 hF
    refine wp_skip ?_
    refine p_blk ?_
    refine p_then (wp_seq (f_region Z ?_)); clear Z; intro Z
    refine s_runk tC Z 1 rfl rfl fun a Z => ?_
    refine s_end Z [4] rfl fun Z => ?_
    refine p_then (wp_ret ?_)
    obtain rfl := some_in hF
    exact f_ret Z (run_results1 rfl Z rfl) ⟨rfl, I1, (H.sub [] rfl).eq rfl⟩

def F_conf_Check_l1 (c : EConf) (rc : Int → Option Int) (sg : Int) : Option Int := match sg with | x => if (decide (x < (c.members.length : Int))) = true then (chk ((0 : Int) ≤ x ∧ x < (c.members.length : Int)) (chk ((0 : Int) ≤ x ∧ x ≤ (c.members.length : Int)) ((F_conf_one (c.members.getD (x).toNat default) (c.members.take ((x).toNat))).bind fun o => (if (o != 0) = true then (some o) else (chk (inI (x + 1)) (rc (x + 1))))))) else (some 0)

def F_conf_Check (c : EConf) : Option Int := if ((decide (c.epoch < 1)) || (decide (c.epoch > 1073741824))) = true then (some 5) else (if ((c.members.length : Int) == 0) = true then (some 7) else (if (decide ((c.members.length : Int) > 4)) = true then (some 6) else (iter (F_conf_Check_l1 c) FU 0)))

set_option maxHeartbeats 1000000 in
theorem c_conf_Check {I D : Dm} {c : EConf} {v1_c : Value} {w : World} {rr : Int} (hF : F_conf_Check c = some rr) (H : St I D w [SlC NEMember v1_c c.members]) :
  Calls Try.prog 58 #[.agg #[vI c.epoch, v1_c, vU c.floor]] w (Ret fun vv w' => vv = vI rr ∧ ∃ I', Hf I D w I' w' []) := by
 replace H := H.hf
 unfold F_conf_Check at hF
 refine f_enter 43 Try.func58 rfl rfl (Nat.le_of_ble_eq_true rfl) fun a Z => ?_
 replace Z := Z.sub (ts := [0]) rfl
 refine wp_seq (f_region Z ?_); clear Z; intro Z
 refine hB Z H [vI c.epoch, v1_c, vU c.floor] rfl rfl rfl rfl fun a w1 b1 H Z => ?_
 refine s_runk tC Z 1 rfl rfl fun a Z => ?_
 refine s_end Z [1, 2] rfl fun Z => ?_
 refine p_then (wp_seq ?_)
 refine wp_block ?_
 refine wp_seq (f_region Z ?_); clear Z; intro Z
 refine s_runk tC Z 1 rfl rfl fun a Z => ?_
 refine sO Z _ rfl (oL tC rfl rfl (H.bc 0 0 rfl rfl)) fun a Z => ?_
 refine s_runk tC Z 2 rfl rfl fun a Z => ?_
 refine gO Z (pp b1 0) rfl (wantB_f _) (.n 1 rfl .z) (fun hp => Ob_c tC rfl) fun a Z => ?_
 refine gO Z _ rfl (wantB_f _) (.c 11 rfl id .z) (fun hp => oL tC rfl rfl (H.bc 0 0 rfl rfl)) fun a Z => ?_
 refine gO Z (vT (decide (c.epoch > 1073741824))) rfl (wantB_f _) (.c 12 rfl id .z) (fun hp => Ob_c tC rfl) fun a Z => ?_
 refine sO Z (vT ((decide (c.epoch < 1)) || (decide (c.epoch > 1073741824)))) rfl (Ob_pick rfl rfl rfl rfl (pick_or _ _)) fun a Z => ?_
 refine s_runk tC Z 1 rfl rfl fun a Z => ?_
 refine s_end Z [1, 2, 6] rfl fun Z => ?_
 refine p_then ?_
 refine f_cond Z rfl (fun hc1 => ?_) (fun hc1 => ?_)
 ·replace hF := ite_t hc1 hF
  refine wp_seq (f_region Z ?_); clear Z; intro Z
  refine s_runk tC Z 1 rfl rfl fun a Z => ?_
  refine s_end Z [1, 2] rfl fun Z => ?_
  refine p_then (wp_ret ?_)
  refine p_blk_r ?_
  refine p_then_r ?_
  obtain rfl := some_in hF
  exact f_ret Z (run_results1 rfl Z rfl) ⟨rfl, I, (H.sub [] rfl).eq rfl⟩
 ·replace hF := ite_f hc1 hF
  refine wp_seq (f_region Z ?_); clear Z; intro Z
  refine s_runk tC Z 1 rfl rfl fun a Z => ?_
  refine sO Z _ rfl (oL tC rfl rfl (H.bc 0 1 rfl rfl)) fun a Z => ?_
  refine sO Z (vI (ln c.members)) rfl (Ob_slen tC rfl rfl rfl (H.slshape 1 rfl)) fun a Z => ?_
  refine s_runk tC Z 2 rfl rfl fun a Z => ?_
  refine s_end Z [1, 2, 15] rfl fun Z => ?_
  refine p_then ?_
  refine f_cond Z rfl (fun hc2 => ?_) (fun hc2 => ?_)
  ·replace hF := ite_t hc2 hF
   refine wp_seq (f_region Z ?_); clear Z; intro Z
   refine s_runk tC Z 1 rfl rfl fun a Z => ?_
   refine s_end Z [1, 2] rfl fun Z => ?_
   refine p_then (wp_ret ?_)
   refine p_blk_r ?_
   refine p_then_r ?_
   obtain rfl := some_in hF
   exact f_ret Z (run_results1 rfl Z rfl) ⟨rfl, I, (H.sub [] rfl).eq rfl⟩
  ·replace hF := ite_f hc2 hF
   refine wp_seq (f_region Z ?_); clear Z; intro Z
   refine s_runk tC Z 1 rfl rfl fun a Z => ?_
   refine sO Z _ rfl (oL tC rfl rfl (H.bc 0 1 rfl rfl)) fun a Z => ?_
   refine sO Z (vI (ln c.members)) rfl (Ob_slen tC rfl rfl rfl (H.slshape 1 rfl)) fun a Z => ?_
   refine s_runk tC Z 2 rfl rfl fun a Z => ?_
   refine s_end Z [1, 2, 20] rfl fun Z => ?_
   refine p_then ?_
   refine f_cond Z rfl (fun hc3 => ?_) (fun hc3 => ?_)
   ·replace hF := ite_t hc3 hF
    refine wp_seq (f_region Z ?_); clear Z; intro Z
    refine s_runk tC Z 1 rfl rfl fun a Z => ?_
    refine s_end Z [1, 2] rfl fun Z => ?_
    refine p_then (wp_ret ?_)
    refine p_blk_r ?_
    refine p_then_r ?_
    obtain rfl := some_in hF
    exact f_ret Z (run_results1 rfl Z rfl) ⟨rfl, I, (H.sub [] rfl).eq rfl⟩
   ·replace hF := ite_f hc3 hF
    refine wp_skip ?_
    refine p_blk ?_
    refine p_then (wp_seq ?_)
    refine wp_seq (f_region Z ?_); clear Z; intro Z
    refine s_runk tC Z 1 rfl rfl fun a Z => ?_
    refine sO Z _ rfl (oL tC rfl rfl (H.bc 0 1 rfl rfl)) fun a Z => ?_
    refine sO Z (vI (ln c.members)) rfl (Ob_slen tC rfl rfl rfl (H.slshape 1 rfl)) fun a Z => ?_
    refine s_runk tC Z 1 rfl rfl fun a Z => ?_
    refine s_end Z [1, 2, 26, 27, 28] rfl fun Z => ?_
    refine p_then (wp_block ?_)
    refine f_iter hF (fun sg a' w' => match sg with | x => Sl 43 [(1, pp b1 0), (2, vI 0), (26, v1_c), (27, vI (ln c.members)), (28, vI x)] a' ∧ ∃ I2, Hf I D w I2 w' [BxC b1 26 [vI c.epoch, v1_c, vU c.floor], SlC NEMember v1_c c.members]) ⟨Z.sub (ts := [1, 2, 26, 27, 28]) rfl, ⟨I, (H.sub [(0, false), (0, true)] rfl).eq rfl⟩⟩ ?_
    rintro rc x a w2 ⟨Z, I1, H⟩ hF
    unfold F_conf_Check_l1 at hF
    try dsimp only at hF
    refine wp_seq (f_region Z ?_); clear Z; intro Z
    refine s_runk tC Z 1 rfl rfl fun a Z => ?_
    refine s_end Z [1, 2, 26, 27, 28, 29] rfl fun Z => ?_
    refine p_then (wp_seq ?_)
    refine f_cond Z rfl (fun hc4 => ?_) (fun hc4 => ?_)
    ·replace hF := ite_t hc4 hF
     refine wp_skip ?_
     refine p_then (wp_seq ?_)
     refine wp_block ?_
     refine wp_seq ?_
     obtain ⟨hg1, hF⟩ := chk_in hF
     refine f_region Z fun Z => ?_
     refine s_runk tC Z 1 rfl rfl fun a Z => ?_
     refine sO Z (.pointer (some ⟨blkOf v1_c, oofOf v1_c + (x).toNat * 2, none⟩)) rfl (Ob_sidx tC rfl rfl rfl rfl (slPl (H.sl 1 rfl) hg1) hg1) fun a Z => ?_
     refine sO Z (.agg #[vI ((gi c.members x).id), vI ((gi c.members x).serial)]) rfl (oA tC rfl rfl ((slFl (H.sl 1 rfl) hg1).part 0 rfl)) fun a Z => ?_
     refine hA Z H [vI 0, vI 0] rfl rfl (by kernel_rfl) fun a w3 b2 H Z => ?_
     refine s_runk tC Z 1 rfl rfl fun a Z => ?_
     refine hT tC Z H 0 rfl rfl rfl rfl rfl (onR 2 rfl one_nil) (Nat.le_of_ble_eq_true rfl) rfl fun w4 H => ?_
     dsimp only [List.eraseIdx] at H
     refine s_end Z [1, 2, 26, 27, 28, 29, 30, 31, 32, 4, 3] rfl fun Z => ?_
     refine p_then (wp_seq ?_)
     obtain ⟨hg2, hF⟩ := chk_in hF
     replace H : Hf I D w I1 w4 [SlC NEMember (subV v1_c 0 ((x).toNat) 2) (c.members.take ((x).toNat)), BxC b2 103 [vI ((gi c.members x).id), vI ((gi c.members x).serial)], BxC b1 26 [vI c.epoch, v1_c, vU c.floor], SlC NEMember v1_c c.members] := H.slPart_to 2 rfl hg2 2 rfl
     obtain ⟨o, hx1, hF⟩ := bnd_in hF
     refine f_quietd (by kernel_rfl) (by kernel_rfl) Z fun Z => ?_
     refine qO Z (.agg #[vI ((gi c.members x).id), vI ((gi c.members x).serial)]) rfl (fun _ hw => oA tC rfl rfl (((H.blw hw).bx 1 rfl).part 0 rfl)) fun a Z => ?_
     refine q_runk tC Z 1 rfl rfl fun a Z => ?_
     refine qO Z _ rfl (fun _ hw => oL tC rfl rfl ((H.blw hw).bc 2 1 rfl rfl)) fun a Z => ?_
     refine q_runk tC Z 1 rfl rfl fun a Z => ?_
     refine qO Z (subV v1_c 0 ((x).toNat) 2) rfl (fun _ hw => Ob_sub_to tC rfl rfl rfl rfl ((H.blw hw).slshape 3 rfl) hg2) fun a Z => ?_
     refine q_call Z (caps := #[]) fn_77_YConf rfl rfl rfl rfl rfl (by decide) rfl rfl (fun _ hw => (have hq := c_conf_one hx1 (((H.blw hw)).pick0 (js := [(0, true)]) rfl rfl); plainC hq)) fun a Z => ?_
     refine q_runk tC Z 1 rfl rfl fun a Z => ?_
     refine q_end Z [1, 2, 26, 27, 28, 29, 30, 31, 32, 4, 3, 33, 34, 35, 36, 37, 38, 5] rfl fun w5 hb Z => ?_
     replace H := H.blw hb
     clear hb
     refine p_then (wp_seq (f_region Z ?_)); clear Z; intro Z
     refine s_runk tC Z 2 rfl rfl fun a Z => ?_
     refine s_end Z [1, 2, 26, 27, 28, 29, 30, 31, 32, 4, 3, 33, 34, 35, 36, 37, 38, 5, 39, 40] rfl fun Z => ?_
     refine p_then ?_
     refine f_cond Z rfl (fun hc5 => ?_) (fun hc5 => ?_)
     ·replace hF := ite_t hc5 hF
      refine wp_seq (f_region Z ?_); clear Z; intro Z
      refine s_runk tC Z 2 rfl rfl fun a Z => ?_
      refine s_end Z [1, 2, 26, 27, 28, 29, 30, 31, 32, 4, 3, 33, 34, 35, 36, 37, 38, 5, 39, 40, 41] rfl fun Z => ?_
      refine p_then (wp_ret ?_)
      refine p_blk_r ?_
      refine p_then_r ?_
      refine p_then_r ?_
      refine p_blk_r ?_
      refine p_then_r ?_
      obtain rfl := some_in hF
      exact f_ret Z (run_results1 rfl Z rfl) ⟨rfl, I1, (H.sub [] rfl).eq rfl⟩
     ·replace hF := ite_f hc5 hF
      refine wp_skip ?_
      refine p_blk ?_
      refine p_then ?_
      obtain ⟨hg3, hF⟩ := chk_in hF
      refine f_region Z fun Z => ?_
      refine sO Z (vI (x + 1)) rfl (Ob_add rfl rfl rfl (wrI hg3)) fun a Z => ?_
      refine s_runk tC Z 1 rfl rfl fun a Z => ?_
      refine s_end Z [1, 2, 26, 27, 28, 29, 30, 31, 32, 4, 3, 33, 34, 35, 36, 37, 38, 5, 39, 40, 42] rfl fun Z => ?_
      refine p_then ?_
      exact ⟨(x + 1), ⟨Z.sub (ts := [1, 2, 26, 27, 28]) rfl, ⟨I1, (H.sub [(2, false), (2, true)] rfl).eq rfl⟩⟩, hF⟩
    ·replace hF := ite_f hc4 hF
     refine wp_exit ?_
     refine p_then_x ?_
     refine p_then_x ?_
     refine f_exit_here ?_
     refine p_then (wp_seq (f_region Z ?_)); clear Z; intro Z
     refine s_runk tC Z 1 rfl rfl fun a Z => ?_
     refine s_end Z [2] rfl fun Z => ?_
     refine p_then (wp_ret ?_)
     obtain rfl := some_in hF
     exact f_ret Z (run_results1 rfl Z rfl) ⟨rfl, I1, (H.sub [] rfl).eq rfl⟩

def F_conf_Put_l1 (c : EConf) (rc : (Int × Ewire_Writer) → Option (ByteArray × Int)) (sg : Int × Ewire_Writer) : Option (ByteArray × Int) := match sg with | (x, w0) => if (decide (x < (c.members.length : Int))) = true then (chk ((0 : Int) ≤ x ∧ x < (c.members.length : Int)) ((F_wire_Writer_Num w0 ((c.members.getD (x).toNat default).id)).bind fun n0_4 => ((F_wire_Writer_Num n0_4 ((c.members.getD (x).toNat default).serial)).bind fun n0_5 => (chk (inI (x + 1)) (rc (x + 1, n0_5)))))) else ((F_wire_Writer_Big w0 c.floor).bind fun b => ((F_wire_Writer_Done b).bind fun d => (some (d.1, d.2))))

def F_conf_Put (c : EConf) : Option (ByteArray × Int) := (F_conf_Check c).bind fun c_2 => (if (c_2 != 0) = true then (some (⟨#[]⟩, c_2)) else ((F_wire_New).bind fun n0 => ((F_wire_Writer_Num n0 c.epoch).bind fun n0_2 => ((F_wire_Writer_Num n0_2 (c.members.length : Int)).bind fun n0_3 => (iter (F_conf_Put_l1 c) FU (0, n0_3))))))

set_option maxHeartbeats 1000000 in
theorem c_conf_Put {I D : Dm} {c : EConf} {v1_c : Value} {w : World} {rr : ByteArray × Int} (hF : F_conf_Put c = some rr) (H : St I D w [SlC NEMember v1_c c.members]) :
  Calls Try.prog 69 #[.agg #[vI c.epoch, v1_c, vU c.floor]] w (Ret fun vv w' => vv = .tuple #[vS rr.1, vI rr.2] ∧ ∃ I', Hf I D w I' w' []) := by
 replace H := H.hf
 unfold F_conf_Put at hF
 refine f_enter 43 Try.func69 rfl rfl (Nat.le_of_ble_eq_true rfl) fun a Z => ?_
 replace Z := Z.sub (ts := [0]) rfl
 refine wp_seq (f_region Z ?_); clear Z; intro Z
 refine hB Z H [vI c.epoch, v1_c, vU c.floor] rfl rfl rfl rfl fun a w1 b1 H Z => ?_
 refine s_runk tC Z 2 rfl rfl fun a Z => ?_
 refine s_end Z [1, 2, 3] rfl fun Z => ?_
 refine p_then (wp_seq ?_)
 refine wp_seq ?_
 obtain ⟨c_2, hx1, hF⟩ := bnd_in hF
 refine f_region Z fun Z => ?_
 refine sO Z (.agg #[vI c.epoch, v1_c, vU c.floor]) rfl (oA tC rfl rfl ((H.bx 0 rfl).part 0 rfl)) fun a Z => ?_
 refine hC Z H [(1, true)] rfl #[] fn_58_YConf rfl rfl (fun D h => have q := c_conf_Check hx1 h; q) fun vv a w2 D2 hr hF2 Z => ?_
 obtain ⟨rfl, I1, K⟩ := hr
 have H := (hF2 K).nf rfl
 refine s_runk tC Z 1 rfl rfl fun a Z => ?_
 refine s_end Z [1, 2, 3, 4] rfl fun Z => ?_
 refine p_then (wp_seq (f_region Z ?_)); clear Z; intro Z
 refine s_runk tC Z 2 rfl rfl fun a Z => ?_
 refine s_end Z [1, 2, 3, 4, 11] rfl fun Z => ?_
 refine p_then ?_
 refine f_cond Z rfl (fun hc1 => ?_) (fun hc1 => ?_)
 ·replace hF := ite_t hc1 hF
  refine wp_seq (f_region Z ?_); clear Z; intro Z
  refine s_runk tC Z 3 rfl rfl fun a Z => ?_
  refine s_end Z [1, 2, 3] rfl fun Z => ?_
  refine p_then (wp_ret ?_)
  refine p_then_r ?_
  obtain rfl := some_in hF
  exact f_ret Z (run_results2 rfl Z rfl rfl) ⟨rfl, I1, (H.sub [] rfl).eq rfl⟩
 ·replace hF := ite_f hc1 hF
  refine wp_skip ?_
  refine p_then (wp_seq ?_)
  obtain ⟨n0, hx2, hF⟩ := bnd_in hF
  obtain ⟨n0_2, hx3, hF⟩ := bnd_in hF
  obtain ⟨n0_3, hx4, hF⟩ := bnd_in hF
  refine f_regionM Z (by kernel_rfl) (by kernel_rfl) (by decide) (by decide) [0, 3, 7] [(0, 0, 0), (0, 0, 1), (2, 0, 1), (7, 1, 1), (0, 0, 2), (16, 0, 2), (48, 0, 2), (127, 2, 2), (255, 3, 3)] (by kernel_rfl) (fun jj => match jj with | 3 => 0 | 7 => 0 | 8 => 0 | _ => jj) (by kernel_rfl) (fun jj rv vv => match jj with | 0 => vv = .pointer (some ⟨(blkOf vv), 0, none⟩) | 1 => vv = pp b1 0 | 2 => vv = vI c.epoch | 3 => vv = .pointer (some ⟨(blkOf rv), 0, none⟩) | 4 => vv = pp b1 1 | 5 => vv = v1_c | 6 => vv = vI (ln c.members) | 7 => vv = .pointer (some ⟨(blkOf rv), 0, none⟩) | 8 => vv = .pointer (some ⟨(blkOf rv), 0, none⟩) | _ => True) (fun ss vals1 xw => match ss with | 0 => Gx I D w I1 w2 xw [BxC b1 26 [vI c.epoch, v1_c, vU c.floor], SlC NEMember v1_c c.members] | 1 => Gx I D w I1 w2 xw [OEwire_Writer (blkOf (vals1 0)) n0, BxC b1 26 [vI c.epoch, v1_c, vU c.floor], SlC NEMember v1_c c.members] | 2 => Gx I D w I1 w2 xw [OEwire_Writer (blkOf (vals1 0)) n0_2, BxC b1 26 [vI c.epoch, v1_c, vU c.floor], SlC NEMember v1_c c.members] | _ => Gx I D w I1 w2 xw [OEwire_Writer (blkOf (vals1 0)) n0_3, BxC b1 26 [vI c.epoch, v1_c, vU c.floor], SlC NEMember v1_c c.members]) (fun _ => Gx.start H) ?_ ?_
  ·intro fr hfr hfe
   refine .cons (fun ss hlo hhi vals1 xw hG hV => ?_) ?_
   ·obtain rfl : ss = 0 := Nat.le_antisymm hhi hlo
    rw [← hfe]
    have hS := (hfr vals1).sub (ts := []) rfl
    obtain ⟨I2, hI2, H⟩ := Gx.ex hG
    refine L_hcall H (js := []) rfl (caps := #[]) hS fn_13_YConf rfl rfl rfl rfl rfl (fun D1 hS => have hq := c_wire_New hx2 hS; hq) fun _ yw D1 hr hF2 => ?_
    obtain ⟨g0_, rfl, I3, K⟩ := hr
    obtain ⟨hK, H2⟩ := hF2 K
    exact ⟨rfl, Gx.go hG hI2 hK K.imm H2⟩
   refine .cons (fun ss hlo hhi vals1 xw hG hV => ?_) ?_
   ·obtain rfl | rfl : ss = 0 ∨ ss = 1 := st1 hlo hhi
    all_goals
    ·rw [← hfe]
     have hS := (hfr vals1).sub (ts := [1]) rfl
     exact L_val hS rfl (Ob_c tC rfl) ⟨rfl, hG⟩
   refine .cons (fun ss hlo hhi vals1 xw hG hV => ?_) ?_
   ·obtain rfl | rfl : ss = 0 ∨ ss = 1 := st1 hlo hhi
    ·rw [← hfe]
     have hS := (hfr vals1).sub (ts := [14]) rfl
     replace hS := hS.conv (t := 14) rfl (show (vals1 1) = pp b1 0 from hV 1 (by decide))
     obtain ⟨I2, hI2, H⟩ := Gx.ex hG
     exact L_val hS rfl (oL tC rfl rfl (H.bc 0 0 rfl rfl)) ⟨rfl, hG⟩
    ·rw [← hfe]
     have hS := (hfr vals1).sub (ts := [14]) rfl
     replace hS := hS.conv (t := 14) rfl (show (vals1 1) = pp b1 0 from hV 1 (by decide))
     obtain ⟨I2, hI2, H⟩ := Gx.ex hG
     exact L_val hS rfl (oL tC rfl rfl (H.bc 1 0 rfl rfl)) ⟨rfl, hG⟩
   refine .cons (fun ss hlo hhi vals1 xw hG hV => ?_) ?_
   ·obtain rfl : ss = 1 := Nat.le_antisymm hhi hlo
    rw [← hfe]
    have hS := (hfr vals1).sub (ts := [13, 15]) rfl
    replace hS := hS.conv (t := 13) rfl (show (vals1 0) = .pointer (some ⟨(blkOf (vals1 0)), 0, none⟩) from hV 0 (by decide))
    replace hS := hS.conv (t := 15) rfl (show (vals1 2) = vI c.epoch from hV 2 (by decide))
    obtain ⟨I2, hI2, H⟩ := Gx.ex hG
    refine L_hcall H (js := [(0, false)]) rfl (caps := #[]) hS fn_14_YConf rfl rfl rfl rfl rfl (fun D1 hS => have hq := c_wire_Writer_Num hx3 hS; hq) fun _ yw D1 hr hF2 => ?_
    obtain ⟨rfl, I3, K⟩ := hr
    obtain ⟨hK, H2⟩ := hF2 K
    exact ⟨rfl, Gx.go hG hI2 hK K.imm H2⟩
   refine .cons (fun ss hlo hhi vals1 xw hG hV => ?_) ?_
   ·obtain rfl | rfl | rfl : ss = 0 ∨ ss = 1 ∨ ss = 2 := st2 hlo hhi
    all_goals
    ·rw [← hfe]
     have hS := (hfr vals1).sub (ts := [1]) rfl
     exact L_val hS rfl (Ob_c tC rfl) ⟨rfl, hG⟩
   refine .cons (fun ss hlo hhi vals1 xw hG hV => ?_) ?_
   ·obtain rfl | rfl | rfl : ss = 0 ∨ ss = 1 ∨ ss = 2 := st2 hlo hhi
    ·rw [← hfe]
     have hS := (hfr vals1).sub (ts := [17]) rfl
     replace hS := hS.conv (t := 17) rfl (show (vals1 4) = pp b1 1 from hV 4 (by decide))
     obtain ⟨I2, hI2, H⟩ := Gx.ex hG
     exact L_val hS rfl (oL tC rfl rfl (H.bc 0 1 rfl rfl)) ⟨rfl, hG⟩
    ·rw [← hfe]
     have hS := (hfr vals1).sub (ts := [17]) rfl
     replace hS := hS.conv (t := 17) rfl (show (vals1 4) = pp b1 1 from hV 4 (by decide))
     obtain ⟨I2, hI2, H⟩ := Gx.ex hG
     exact L_val hS rfl (oL tC rfl rfl (H.bc 1 1 rfl rfl)) ⟨rfl, hG⟩
    ·rw [← hfe]
     have hS := (hfr vals1).sub (ts := [17]) rfl
     replace hS := hS.conv (t := 17) rfl (show (vals1 4) = pp b1 1 from hV 4 (by decide))
     obtain ⟨I2, hI2, H⟩ := Gx.ex hG
     exact L_val hS rfl (oL tC rfl rfl (H.bc 1 1 rfl rfl)) ⟨rfl, hG⟩
   refine .cons (fun ss hlo hhi vals1 xw hG hV => ?_) ?_
   ·obtain rfl | rfl | rfl : ss = 0 ∨ ss = 1 ∨ ss = 2 := st2 hlo hhi
    ·rw [← hfe]
     have hS := (hfr vals1).sub (ts := [18]) rfl
     replace hS := hS.conv (t := 18) rfl (show (vals1 5) = v1_c from hV 5 (by decide))
     obtain ⟨I2, hI2, H⟩ := Gx.ex hG
     exact L_val hS rfl (Ob_slen tC rfl rfl rfl (H.slshape 1 rfl)) ⟨rfl, hG⟩
    ·rw [← hfe]
     have hS := (hfr vals1).sub (ts := [18]) rfl
     replace hS := hS.conv (t := 18) rfl (show (vals1 5) = v1_c from hV 5 (by decide))
     obtain ⟨I2, hI2, H⟩ := Gx.ex hG
     exact L_val hS rfl (Ob_slen tC rfl rfl rfl (H.slshape 2 rfl)) ⟨rfl, hG⟩
    ·rw [← hfe]
     have hS := (hfr vals1).sub (ts := [18]) rfl
     replace hS := hS.conv (t := 18) rfl (show (vals1 5) = v1_c from hV 5 (by decide))
     obtain ⟨I2, hI2, H⟩ := Gx.ex hG
     exact L_val hS rfl (Ob_slen tC rfl rfl rfl (H.slshape 2 rfl)) ⟨rfl, hG⟩
   refine .cons (fun ss hlo hhi vals1 xw hG hV => ?_) ?_
   ·obtain rfl : ss = 2 := Nat.le_antisymm hhi hlo
    rw [← hfe]
    have hS := (hfr vals1).sub (ts := [16, 19]) rfl
    replace hS := hS.conv (t := 16) rfl (show (vals1 3) = .pointer (some ⟨(blkOf (vals1 0)), 0, none⟩) from hV 3 (by decide))
    replace hS := hS.conv (t := 19) rfl (show (vals1 6) = vI (ln c.members) from hV 6 (by decide))
    obtain ⟨I2, hI2, H⟩ := Gx.ex hG
    refine L_hcall H (js := [(0, false)]) rfl (caps := #[]) hS fn_14_YConf rfl rfl rfl rfl rfl (fun D1 hS => have hq := c_wire_Writer_Num hx4 hS; hq) fun _ yw D1 hr hF2 => ?_
    obtain ⟨rfl, I3, K⟩ := hr
    obtain ⟨hK, H2⟩ := hF2 K
    exact ⟨rfl, Gx.go hG hI2 hK K.imm H2⟩
   refine .cons (fun ss hlo hhi vals1 xw hG hV => ?_) ?_
   ·obtain rfl : ss = 3 := Nat.le_antisymm hhi hlo
    rw [← hfe]
    have hS := (hfr vals1).sub (ts := [20]) rfl
    replace hS := hS.conv (t := 20) rfl (show (vals1 7) = .pointer (some ⟨(blkOf (vals1 0)), 0, none⟩) from hV 7 (by decide))
    exact L_val hS rfl (Ob_c tC rfl) ⟨rfl, hG⟩
   exact .nil
  ·intro vals1 a w3 Z hG hV
   replace Z := Z.sub (ts := [1, 2, 3, 5]) (S' := [(1, pp b1 0), (2, vS ⟨#[]⟩), (3, vI 0), (5, vals1 8)]) rfl
   replace Z := Z.conv (t := 5) rfl (show (vals1 8) = .pointer (some ⟨(blkOf (vals1 0)), 0, none⟩) from hV 8 (by decide))
   obtain ⟨I2, _, H⟩ := Gx.ex hG
   clear hG hV
   replace Z := Z.sub (ts := [1, 2, 3, 5]) rfl
   replace H := H.nf rfl; try dsimp only at H
   refine p_then (wp_seq ?_)
   refine wp_seq (f_region Z ?_); clear Z; intro Z
   refine s_runk tC Z 1 rfl rfl fun a Z => ?_
   refine sO Z _ rfl (oL tC rfl rfl (H.bc 1 1 rfl rfl)) fun a Z => ?_
   refine sO Z (vI (ln c.members)) rfl (Ob_slen tC rfl rfl rfl (H.slshape 2 rfl)) fun a Z => ?_
   refine s_runk tC Z 1 rfl rfl fun a Z => ?_
   refine s_end Z [1, 2, 3, 5, 22, 23, 24] rfl fun Z => ?_
   refine p_then (wp_block ?_)
   refine f_iter hF (fun sg a' w' => match sg with | (x, w0) => Sl 43 [(1, pp b1 0), (2, vS ⟨#[]⟩), (3, vI 0), (5, .pointer (some ⟨(blkOf (vals1 0)), 0, none⟩)), (22, v1_c), (23, vI (ln c.members)), (24, vI x)] a' ∧ ∃ I2, Hf I D w I2 w' [BxC b1 26 [vI c.epoch, v1_c, vU c.floor], OEwire_Writer (blkOf (vals1 0)) w0, SlC NEMember v1_c c.members]) ⟨Z.sub (ts := [1, 2, 3, 5, 22, 23, 24]) rfl, ⟨I2, (H.sub [(1, false), (0, false), (0, true)] rfl).eq rfl⟩⟩ ?_
   rintro rc ⟨x, w0⟩ a w4 ⟨Z, I3, H⟩ hF
   unfold F_conf_Put_l1 at hF
   try dsimp only at hF
   refine wp_seq (f_region Z ?_); clear Z; intro Z
   refine s_runk tC Z 1 rfl rfl fun a Z => ?_
   refine s_end Z [1, 2, 3, 5, 22, 23, 24, 25] rfl fun Z => ?_
   refine p_then (wp_seq ?_)
   refine f_cond Z rfl (fun hc2 => ?_) (fun hc2 => ?_)
   ·replace hF := ite_t hc2 hF
    refine wp_skip ?_
    refine p_then (wp_seq ?_)
    refine wp_block ?_
    refine wp_seq ?_
    obtain ⟨hg1, hF⟩ := chk_in hF
    refine f_region Z fun Z => ?_
    refine sO Z (.pointer (some ⟨blkOf v1_c, oofOf v1_c + (x).toNat * 2, none⟩)) rfl (Ob_sidx tC rfl rfl rfl rfl (slPl (H.sl 2 rfl) hg1) hg1) fun a Z => ?_
    refine sO Z (.agg #[vI ((gi c.members x).id), vI ((gi c.members x).serial)]) rfl (oA tC rfl rfl ((slFl (H.sl 2 rfl) hg1).part 0 rfl)) fun a Z => ?_
    refine hA Z H [vI 0, vI 0] rfl rfl (by kernel_rfl) fun a w5 b2 H Z => ?_
    refine hT tC Z H 0 rfl rfl rfl rfl rfl (onR 2 rfl one_nil) (Nat.le_of_ble_eq_true rfl) rfl fun w6 H => ?_
    dsimp only [List.eraseIdx] at H
    refine s_end Z [1, 2, 3, 5, 22, 23, 24, 25, 26, 27, 7] rfl fun Z => ?_
    refine p_then ?_
    obtain ⟨n0_4, hx5, hF⟩ := bnd_in hF
    obtain ⟨n0_5, hx6, hF⟩ := bnd_in hF
    refine f_regionL Z (by kernel_rfl) (by kernel_rfl) (by decide) (by decide) [3, 6] [(0, 0, 0), (0, 0, 0), (2, 0, 0), (7, 0, 0), (0, 0, 1), (16, 0, 1), (63, 1, 1)] (by kernel_rfl) (fun jj vv => match jj with | 0 => vv = .pointer (some ⟨(blkOf (vals1 0)), 0, none⟩) | 1 => vv = pp b2 0 | 2 => vv = vI ((gi c.members x).id) | 3 => vv = .pointer (some ⟨(blkOf (vals1 0)), 0, none⟩) | 4 => vv = pp b2 1 | 5 => vv = vI ((gi c.members x).serial) | 6 => vv = .pointer (some ⟨(blkOf (vals1 0)), 0, none⟩) | _ => True) (fun ss vals2 xw => match ss with | 0 => Gx I D w I3 w6 xw [BxC b2 103 [vI ((gi c.members x).id), vI ((gi c.members x).serial)], BxC b1 26 [vI c.epoch, v1_c, vU c.floor], OEwire_Writer (blkOf (vals1 0)) w0, SlC NEMember v1_c c.members] | 1 => Gx I D w I3 w6 xw [OEwire_Writer (blkOf (vals1 0)) n0_4, BxC b2 103 [vI ((gi c.members x).id), vI ((gi c.members x).serial)], BxC b1 26 [vI c.epoch, v1_c, vU c.floor], SlC NEMember v1_c c.members] | _ => Gx I D w I3 w6 xw [OEwire_Writer (blkOf (vals1 0)) n0_5, BxC b2 103 [vI ((gi c.members x).id), vI ((gi c.members x).serial)], BxC b1 26 [vI c.epoch, v1_c, vU c.floor], SlC NEMember v1_c c.members]) (fun _ => Gx.start H) ?_ ?_
    ·intro fr hfr hfe
     refine .cons (fun ss hlo hhi vals2 xw hG hV => ?_) ?_
     ·obtain rfl : ss = 0 := Nat.le_antisymm hhi hlo
      rw [← hfe]
      have hS := (hfr vals2).sub (ts := [5]) rfl
      exact L_val hS rfl (Ob_c tC rfl) ⟨rfl, hG⟩
     refine .cons (fun ss hlo hhi vals2 xw hG hV => ?_) ?_
     ·obtain rfl : ss = 0 := Nat.le_antisymm hhi hlo
      rw [← hfe]
      have hS := (hfr vals2).sub (ts := [7]) rfl
      exact L_val hS rfl (Ob_c tC rfl) ⟨rfl, hG⟩
     refine .cons (fun ss hlo hhi vals2 xw hG hV => ?_) ?_
     ·obtain rfl : ss = 0 := Nat.le_antisymm hhi hlo
      rw [← hfe]
      have hS := (hfr vals2).sub (ts := [29]) rfl
      replace hS := hS.conv (t := 29) rfl (show (vals2 1) = pp b2 0 from hV 1 (by decide))
      obtain ⟨I2, hI2, H⟩ := Gx.ex hG
      exact L_val hS rfl (oL tC rfl rfl (H.bc 0 0 rfl rfl)) ⟨rfl, hG⟩
     refine .cons (fun ss hlo hhi vals2 xw hG hV => ?_) ?_
     ·obtain rfl : ss = 0 := Nat.le_antisymm hhi hlo
      rw [← hfe]
      have hS := (hfr vals2).sub (ts := [28, 30]) rfl
      replace hS := hS.conv (t := 28) rfl (show (vals2 0) = .pointer (some ⟨(blkOf (vals1 0)), 0, none⟩) from hV 0 (by decide))
      replace hS := hS.conv (t := 30) rfl (show (vals2 2) = vI ((gi c.members x).id) from hV 2 (by decide))
      obtain ⟨I2, hI2, H⟩ := Gx.ex hG
      refine L_hcall H (js := [(2, false)]) rfl (caps := #[]) hS fn_14_YConf rfl rfl rfl rfl rfl (fun D1 hS => have hq := c_wire_Writer_Num hx5 hS; hq) fun _ yw D1 hr hF2 => ?_
      obtain ⟨rfl, I3, K⟩ := hr
      obtain ⟨hK, H2⟩ := hF2 K
      exact ⟨rfl, Gx.go hG hI2 hK K.imm H2⟩
     refine .cons (fun ss hlo hhi vals2 xw hG hV => ?_) ?_
     ·obtain rfl | rfl : ss = 0 ∨ ss = 1 := st1 hlo hhi
      all_goals
      ·rw [← hfe]
       have hS := (hfr vals2).sub (ts := [7]) rfl
       exact L_val hS rfl (Ob_c tC rfl) ⟨rfl, hG⟩
     refine .cons (fun ss hlo hhi vals2 xw hG hV => ?_) ?_
     ·obtain rfl | rfl : ss = 0 ∨ ss = 1 := st1 hlo hhi
      ·rw [← hfe]
       have hS := (hfr vals2).sub (ts := [32]) rfl
       replace hS := hS.conv (t := 32) rfl (show (vals2 4) = pp b2 1 from hV 4 (by decide))
       obtain ⟨I2, hI2, H⟩ := Gx.ex hG
       exact L_val hS rfl (oL tC rfl rfl (H.bc 0 1 rfl rfl)) ⟨rfl, hG⟩
      ·rw [← hfe]
       have hS := (hfr vals2).sub (ts := [32]) rfl
       replace hS := hS.conv (t := 32) rfl (show (vals2 4) = pp b2 1 from hV 4 (by decide))
       obtain ⟨I2, hI2, H⟩ := Gx.ex hG
       exact L_val hS rfl (oL tC rfl rfl (H.bc 1 1 rfl rfl)) ⟨rfl, hG⟩
     refine .cons (fun ss hlo hhi vals2 xw hG hV => ?_) ?_
     ·obtain rfl : ss = 1 := Nat.le_antisymm hhi hlo
      rw [← hfe]
      have hS := (hfr vals2).sub (ts := [31, 33]) rfl
      replace hS := hS.conv (t := 31) rfl (show (vals2 3) = .pointer (some ⟨(blkOf (vals1 0)), 0, none⟩) from hV 3 (by decide))
      replace hS := hS.conv (t := 33) rfl (show (vals2 5) = vI ((gi c.members x).serial) from hV 5 (by decide))
      obtain ⟨I2, hI2, H⟩ := Gx.ex hG
      refine L_hcall H (js := [(0, false)]) rfl (caps := #[]) hS fn_14_YConf rfl rfl rfl rfl rfl (fun D1 hS => have hq := c_wire_Writer_Num hx6 hS; hq) fun _ yw D1 hr hF2 => ?_
      obtain ⟨rfl, I3, K⟩ := hr
      obtain ⟨hK, H2⟩ := hF2 K
      exact ⟨rfl, Gx.go hG hI2 hK K.imm H2⟩
     exact .nil
    ·intro vals2 a w7 Z hG hV
     replace Z := Z.sub (ts := [1, 2, 3, 5, 22, 23, 24, 25, 26, 27, 7, 28, 29, 30, 31, 32, 33]) (S' := [(1, pp b1 0), (2, vS ⟨#[]⟩), (3, vI 0), (5, .pointer (some ⟨(blkOf (vals1 0)), 0, none⟩)), (22, v1_c), (23, vI (ln c.members)), (24, vI x), (25, vT (decide (x < (ln c.members)))), (26, .pointer (some ⟨blkOf v1_c, oofOf v1_c + (x).toNat * 2, none⟩)), (27, .agg #[vI ((gi c.members x).id), vI ((gi c.members x).serial)]), (7, pp b2 0), (28, vals2 0), (29, vals2 1), (30, vals2 2), (31, vals2 3), (32, vals2 4), (33, vals2 5)]) rfl
     replace Z := Z.conv (t := 28) rfl (show (vals2 0) = .pointer (some ⟨(blkOf (vals1 0)), 0, none⟩) from hV 0 (by decide))
     replace Z := Z.conv (t := 29) rfl (show (vals2 1) = pp b2 0 from hV 1 (by decide))
     replace Z := Z.conv (t := 30) rfl (show (vals2 2) = vI ((gi c.members x).id) from hV 2 (by decide))
     replace Z := Z.conv (t := 31) rfl (show (vals2 3) = .pointer (some ⟨(blkOf (vals1 0)), 0, none⟩) from hV 3 (by decide))
     replace Z := Z.conv (t := 32) rfl (show (vals2 4) = pp b2 1 from hV 4 (by decide))
     replace Z := Z.conv (t := 33) rfl (show (vals2 5) = vI ((gi c.members x).serial) from hV 5 (by decide))
     obtain ⟨I4, _, H⟩ := Gx.ex hG
     clear hG hV
     replace Z := Z.sub (ts := [1, 2, 3, 5, 22, 23, 24, 25, 26, 27, 7, 28, 29, 30, 31, 32, 33]) rfl
     replace H := H.nf rfl; try dsimp only at H
     refine p_blk ?_
     refine p_then ?_
     obtain ⟨hg2, hF⟩ := chk_in hF
     refine f_region Z fun Z => ?_
     refine sO Z (vI (x + 1)) rfl (Ob_add rfl rfl rfl (wrI hg2)) fun a Z => ?_
     refine s_runk tC Z 1 rfl rfl fun a Z => ?_
     refine s_end Z [1, 2, 3, 5, 22, 23, 24, 25, 26, 27, 7, 28, 29, 30, 31, 32, 33, 35] rfl fun Z => ?_
     refine p_then ?_
     exact ⟨(x + 1, n0_5), ⟨Z.sub (ts := [1, 2, 3, 5, 22, 23, 24]) rfl, ⟨I4, (H.sub [(2, false), (0, false), (1, true)] rfl).eq rfl⟩⟩, hF⟩
   ·replace hF := ite_f hc2 hF
    refine wp_exit ?_
    refine p_then_x ?_
    refine p_then_x ?_
    refine f_exit_here ?_
    refine p_then (wp_seq ?_)
    obtain ⟨b, hx7, hF⟩ := bnd_in hF
    obtain ⟨d, hx8, hF⟩ := bnd_in hF
    refine f_region Z fun Z => ?_
    refine s_runk tC Z 2 rfl rfl fun a Z => ?_
    refine sO Z _ rfl (oL tC rfl rfl (H.bc 0 2 rfl rfl)) fun a Z => ?_
    refine hC Z H [(1, false)] rfl #[] fn_37_YConf rfl rfl (fun D h => have q := c_wire_Writer_Big hx7 h; q) fun vv a w8 D2 hr hF2 Z => ?_
    obtain ⟨rfl, I5, K⟩ := hr
    have H := (hF2 K).nf rfl
    refine hC Z H [(0, false)] rfl #[] fn_16_YConf rfl rfl (fun D h => have q := c_wire_Writer_Done hx8 h; q) fun vv a w9 D2 hr hF2 Z => ?_
    obtain ⟨rfl, I6, K⟩ := hr
    have H := (hF2 K).nf rfl
    refine s_runk tC Z 4 rfl rfl fun a Z => ?_
    refine s_end Z [2, 3] rfl fun Z => ?_
    refine p_then (wp_ret ?_)
    obtain rfl := some_in hF
    exact f_ret Z (run_results2 rfl Z rfl rfl) ⟨rfl, I6, (H.sub [] rfl).eq rfl⟩

end Go.Proofs.Ythmjkcdpbbcdgaa
