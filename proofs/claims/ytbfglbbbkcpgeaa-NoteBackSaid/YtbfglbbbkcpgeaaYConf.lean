/- Configurations: what the program and the document compute. -/
import Derived.Test.YtbfglbbbkcpgeaaYWire
namespace Go.Proofs.Ytbfglbbbkcpgeaa
open Go.RowKit
structure Eruntime_boundsError where
 x : Int
 y : Int
 signed : Bool
 code : Int

instance : Inhabited Eruntime_boundsError := ⟨⟨0, 0, false, 0⟩⟩

def cEruntime_boundsError (x : Eruntime_boundsError) : List Value := [.int .i64 x.x, .int .i64 x.y, .bool x.signed, .int .u8 x.code]

def NEruntime_boundsError : Rp Eruntime_boundsError := Rp.flat 4 (fun _ => True) (fun x => cEruntime_boundsError x) (fun _ => rfl) (fun x c hc => by simp only [cEruntime_boundsError, List.mem_cons, List.not_mem_nil, or_false] at hc; rcases hc with rfl | rfl | rfl | rfl <;> rfl)

structure Eruntime_errorAddressString where
 msg : ByteArray
 addr : Int

instance : Inhabited Eruntime_errorAddressString := ⟨⟨ByteArray.empty, 0⟩⟩

structure EMember where
 id : Int
 serial : Int

instance : Inhabited EMember := ⟨⟨0, 0⟩⟩

def eqEMember (x y : EMember) : Bool := (x.id == y.id) && (x.serial == y.serial)

theorem eqEMember_iff {x y : EMember} : eqEMember x y = true ↔ x = y := by cases x; cases y; simp [eqEMember, seqB_iff, and_assoc]

def cEMember (x : EMember) : List Value := [.int .i64 x.id, .int .i64 x.serial]

def NEMember : Rp EMember := Rp.flat 2 (fun _ => True) (fun x => cEMember x) (fun _ => rfl) (fun x c hc => by simp only [cEMember, List.mem_cons, List.not_mem_nil, or_false] at hc; rcases hc with rfl | rfl <;> rfl)

structure EConf where
 epoch : Int
 members : List EMember
 floor : Int

instance : Inhabited EConf := ⟨⟨0, [], 0⟩⟩

def cEConf (x : EConf) (v0 : Value) : List Value := [.int .i64 x.epoch, v0, .int .u64 x.floor]

def NEConf : Rp EConf where
 n := 3
 rep A w cs x := ∃ v0 : Value, cs = cEConf x v0 ∧ slRep NEMember A w v0 x.members
 len := fun ⟨v0, h, _⟩ => by rw [h]; rfl
 one := fun ⟨v0, h, s0⟩ c hc => by
  rw [h] at hc
  simp only [cEConf, List.mem_cons, List.not_mem_nil, or_false] at hc
  rcases hc with rfl | rfl | rfl
  ·rfl
  ·exact s0.one
  ·rfl
 mono := fun ⟨v0, h, s0⟩ hA hk => ⟨v0, h, s0.mono hA hk⟩
 bound := fun ⟨v0, h, s0⟩ => ⟨v0, h, s0.bound⟩

def tCL : TabL := ⟨[(26624, 0), (26625, 1), (26626, 2), (117760, 0), (117761, 1)], [], [], [(24, (115, 2))], [(3, (1, false)), (23, (1, false)), (24, (1, false)), (26, (3, true)), (63, (3, true)), (80, (2, true)), (115, (2, true))]⟩

def tC : Tab Try.prog := ⟨tCL, by kernel_rfl⟩

theorem fn_30_YConf : IsFn Try.prog 30 := ⟨_, Try.func30, by kernel_rfl, by kernel_rfl⟩

theorem fn_31_YConf : IsFn Try.prog 31 := ⟨_, Try.func31, by kernel_rfl, by kernel_rfl⟩

theorem fn_35_YConf : IsFn Try.prog 35 := ⟨_, Try.func35, by kernel_rfl, by kernel_rfl⟩

theorem fn_36_YConf : IsFn Try.prog 36 := ⟨_, Try.func36, by kernel_rfl, by kernel_rfl⟩

theorem fn_43_YConf : IsFn Try.prog 43 := ⟨_, Try.func43, by kernel_rfl, by kernel_rfl⟩

theorem fn_79_YConf : IsFn Try.prog 79 := ⟨_, Try.func79, by kernel_rfl, by kernel_rfl⟩

theorem fn_99_YConf : IsFn Try.prog 99 := ⟨_, Try.func99, by kernel_rfl, by kernel_rfl⟩

theorem fn_100_YConf : IsFn Try.prog 100 := ⟨_, Try.func100, by kernel_rfl, by kernel_rfl⟩

theorem fn_108_YConf : IsFn Try.prog 108 := ⟨_, Try.func108, by kernel_rfl, by kernel_rfl⟩

def F_ref07_Check_l2 (c : EConf) (i : Int) (rc : Int → Option Int) (rc_2 : Int → Option Int) (sg : Int) : Option Int := match sg with | k => if (decide (k < i)) = true then (chk ((0 : Int) ≤ k ∧ k < (c.members.length : Int)) (if (((c.members.getD (k).toNat default).id) == ((c.members.getD (i).toNat default).id)) = true then (some 18) else (chk (inI (k + 1)) (rc_2 (k + 1))))) else (chk (inI (i + 1)) (rc (i + 1)))

def F_ref07_Check_l1 (c : EConf) (rc : Int → Option Int) (sg : Int) : Option Int := match sg with | i => if (decide (i < (c.members.length : Int))) = true then (chk ((0 : Int) ≤ i ∧ i < (c.members.length : Int)) (if ((decide ((c.members.getD (i).toNat default).id < 0)) || (decide ((c.members.getD (i).toNat default).id ≥ 4))) = true then (some 1) else (if ((decide ((c.members.getD (i).toNat default).serial < 1)) || (decide ((c.members.getD (i).toNat default).serial > 1073741824))) = true then (some 5) else (iter (F_ref07_Check_l2 c i rc) FU 0)))) else (some 0)

def F_ref07_Check (c : EConf) : Option Int := if ((decide (c.epoch < 1)) || (decide (c.epoch > 1073741824))) = true then (some 5) else (if ((c.members.length : Int) == 0) = true then (some 7) else (if (decide ((c.members.length : Int) > 4)) = true then (some 6) else (iter (F_ref07_Check_l1 c) FU 0)))

def F_conf_one_1 (x : EMember) (p1 : EMember) : Option Bool := some (x.id == p1.id)

set_option maxHeartbeats 1000000 in
theorem c_conf_one_1 {I D : Dm} {x : EMember} {b_p1 : Nat} {p1 : EMember} {w : World} {rr : Bool} (hF : F_conf_one_1 x p1 = some rr) (H : St I D w [BxC b_p1 115 [.int .i64 p1.id, .int .i64 p1.serial]]) :
  Calls Try.prog 99 #[.agg #[.int .i64 x.id, .int .i64 x.serial], .pointer (some ⟨b_p1, 0, none⟩)] w (Ret fun vv w' => vv = .bool rr ∧ ∃ I', Hf I D w I' w' [BxC b_p1 115 [.int .i64 p1.id, .int .i64 p1.serial]]) := by
 replace H := H.hf
 unfold F_conf_one_1 at hF
 refine f_enter 9 Try.func99 rfl rfl (Nat.le_of_ble_eq_true rfl) fun a Z => ?_
 replace Z := Z.sub (ts := [0, 1]) rfl
 refine wp_seq (f_region Z ?_); clear Z; intro Z
 refine h_boxv Z H (cl := [.int .i64 x.id, .int .i64 x.serial]) rfl rfl rfl (by decide) rfl rfl rfl ?_; clear Z a H; intro a w1 b1 H Z
 refine s_runk tC Z 1 rfl rfl ?_; clear Z a; intro a Z
 refine s_end Z [1, 2, 3] rfl ?_; clear Z; intro Z
 refine p_then (wp_seq (f_region Z ?_)); clear Z; intro Z
 refine s_runk tC Z 1 rfl rfl ?_; clear Z a; intro a Z
 refine s_ob Z (v := .int .i64 x.id) rfl rfl (by decide) rfl (Ob_load tC rfl rfl rfl ((H.bx 0 rfl).cell 0 rfl)) ?_; clear Z a; intro a Z
 refine s_runk tC Z 1 rfl rfl ?_; clear Z a; intro a Z
 refine s_ob Z (v := .int .i64 p1.id) rfl rfl (by decide) rfl (Ob_load tC rfl rfl rfl ((H.bx 1 rfl).cell 0 rfl)) ?_; clear Z a; intro a Z
 refine s_runk tC Z 2 rfl rfl ?_; clear Z a; intro a Z
 refine s_end Z [3] rfl ?_; clear Z; intro Z
 refine p_then (wp_ret ?_)
 obtain rfl := some_in hF
 exact f_ret Z (run_results1 rfl Z rfl) ⟨rfl, I, (H.sub [(1, false)] rfl).eq rfl⟩

def F_slices_IndexFunc_api_Member_api_Member__conf_one_1_l1 (s0 : List EMember) (x : EMember) (rc : Int → Option Int) (sg : Int) : Option Int := match sg with | x_2 => if (decide (x_2 < (s0.length : Int))) = true then (chk ((0 : Int) ≤ x_2 ∧ x_2 < (s0.length : Int)) ((F_conf_one_1 (s0.getD (x_2).toNat default) x).bind fun x0 => (if (x0) = true then (some x_2) else (chk (inI (x_2 + 1)) (rc (x_2 + 1)))))) else (some (-1))

def F_slices_IndexFunc_api_Member_api_Member__conf_one_1 (s0 : List EMember) (x : EMember) : Option Int := iter (F_slices_IndexFunc_api_Member_api_Member__conf_one_1_l1 s0 x) FU 0

set_option maxHeartbeats 1000000 in
theorem c_slices_IndexFunc_api_Member_api_Member__conf_one_1 {I D : Dm} {s0 : List EMember} {v1_s0 : Value} {b_ : Nat} {x : EMember} {w : World} {rr : Int} (hF : F_slices_IndexFunc_api_Member_api_Member__conf_one_1 s0 x = some rr) (H : St I D w [SlC NEMember v1_s0 s0, BxC b_ 115 [.int .i64 x.id, .int .i64 x.serial]]) :
  Calls Try.prog 108 #[v1_s0, .func (.func 99) #[] #[.pointer (some ⟨b_, 0, none⟩)]] w (Ret fun vv w' => vv = .int .i64 rr ∧ ∃ I', Hf I D w I' w' [BxC b_ 115 [.int .i64 x.id, .int .i64 x.serial]]) := by
 replace H := H.hf
 unfold F_slices_IndexFunc_api_Member_api_Member__conf_one_1 at hF
 refine f_enter 19 Try.func108 rfl rfl (Nat.le_of_ble_eq_true rfl) fun a Z => ?_
 replace Z := Z.sub (ts := [0, 1]) rfl
 refine wp_seq (f_region Z ?_); clear Z; intro Z
 refine s_runk tC Z 1 rfl rfl ?_; clear Z a; intro a Z
 refine s_end Z [0, 1, 4] rfl ?_; clear Z; intro Z
 refine p_then (wp_seq ?_)
 refine wp_seq (f_region Z ?_); clear Z; intro Z
 refine s_runk tC Z 1 rfl rfl ?_; clear Z a; intro a Z
 refine s_ob Z (v := .int .i64 (s0.length : Int)) rfl rfl (by decide) rfl (Ob_slen tC rfl rfl rfl (H.slshape 0 rfl)) ?_; clear Z a; intro a Z
 refine s_runk tC Z 1 rfl rfl ?_; clear Z a; intro a Z
 refine s_end Z [0, 1, 4, 7, 8] rfl ?_; clear Z; intro Z
 refine p_then (wp_block ?_)
 refine f_iter hF (fun sg a' w' => match sg with | x_2 => Sl 19 [(0, v1_s0), (1, .func (.func 99) #[] #[.pointer (some ⟨b_, 0, none⟩)]), (4, .int .i64 0), (7, .int .i64 (s0.length : Int)), (8, .int .i64 x_2)] a' ∧ ∃ I2, Hf I D w I2 w' [BxC b_ 115 [.int .i64 x.id, .int .i64 x.serial], SlC NEMember v1_s0 s0]) ⟨Z.sub (ts := [0, 1, 4, 7, 8]) rfl, ⟨I, (H.sub [(1, false), (0, true)] rfl).eq rfl⟩⟩ ?_
 clear Z H hF a
 rintro rc x_2 a w1 ⟨Z, I1, H⟩ hF
 unfold F_slices_IndexFunc_api_Member_api_Member__conf_one_1_l1 at hF
 try dsimp only at hF
 refine wp_seq (f_region Z ?_); clear Z; intro Z
 refine s_runk tC Z 1 rfl rfl ?_; clear Z a; intro a Z
 refine s_end Z [0, 1, 4, 7, 8, 9] rfl ?_; clear Z; intro Z
 refine p_then (wp_seq ?_)
 refine f_cond Z rfl (fun hc1 => ?_) (fun hc1 => ?_)
 ·replace hF := ite_t hc1 hF
  refine wp_skip ?_
  refine p_then (wp_seq ?_)
  refine wp_block ?_
  refine wp_seq (f_region Z ?_); clear Z; intro Z
  refine s_runk tC Z 2 rfl rfl ?_; clear Z a; intro a Z
  refine s_end Z [0, 1, 4, 7, 8, 9, 10, 5] rfl ?_; clear Z; intro Z
  refine p_then (wp_seq ?_)
  obtain ⟨hg1, hF⟩ := chk_in hF
  obtain ⟨x0, hx1, hF⟩ := bnd_in hF
  refine f_region Z ?_; clear Z; intro Z
  refine s_runk tC Z 3 rfl rfl ?_; clear Z a; intro a Z
  refine s_ob Z (v := .pointer (some ⟨blkOf v1_s0, oofOf v1_s0 + (x_2).toNat * 2, none⟩)) rfl rfl (by decide) rfl (Ob_sidx tC rfl rfl rfl rfl (slPl (H.sl 1 rfl) hg1) hg1) ?_; clear Z a; intro a Z
  refine s_ob Z (v := .agg #[.int .i64 ((s0.getD (x_2).toNat default).id), .int .i64 ((s0.getD (x_2).toNat default).serial)]) rfl rfl (by decide) rfl (Ob_loads tC rfl rfl rfl ((slFl (H.sl 1 rfl) hg1).part 0 rfl)) ?_; clear Z a; intro a Z
  refine h_call Z H (js := [(0, false)]) rfl (caps := #[.pointer (some ⟨b_, 0, none⟩)]) fn_99_YConf rfl rfl rfl rfl rfl (by decide) rfl rfl (fun D1 hS => have hq := c_conf_one_1 hx1 hS; hq) ?_; clear Z a; intro vv a w2 D2 hr hF2 Z
  obtain ⟨rfl, I2, K⟩ := hr
  have H : Hf I D w I2 w2 [BxC b_ 115 [.int .i64 x.id, .int .i64 x.serial], SlC NEMember v1_s0 s0] := hF2 K
  clear hF2 K
  refine s_end Z [0, 1, 4, 7, 8, 9, 10, 5, 11, 12, 13, 14, 15, 16] rfl ?_; clear Z; intro Z
  refine p_then ?_
  refine f_cond Z rfl (fun hc2 => ?_) (fun hc2 => ?_)
  ·replace hF := ite_t hc2 hF
   refine wp_seq (f_region Z ?_); clear Z; intro Z
   refine s_runk tC Z 2 rfl rfl ?_; clear Z a; intro a Z
   refine s_end Z [0, 1, 4, 7, 8, 9, 10, 5, 11, 12, 13, 14, 15, 16, 17] rfl ?_; clear Z; intro Z
   refine p_then (wp_ret ?_)
   refine p_blk_r ?_
   refine p_then_r ?_
   refine p_then_r ?_
   refine p_blk_r ?_
   refine p_then_r ?_
   obtain rfl := some_in hF
   exact f_ret Z (run_results1 rfl Z rfl) ⟨rfl, I2, (H.sub [(0, false)] rfl).eq rfl⟩
  ·replace hF := ite_f hc2 hF
   refine wp_skip ?_
   refine p_blk ?_
   refine p_then ?_
   obtain ⟨hg2, hF⟩ := chk_in hF
   refine f_region Z ?_; clear Z; intro Z
   refine s_ob Z (v := .int .i64 (x_2 + 1)) rfl rfl (by decide) rfl (Ob_add rfl rfl rfl (wrI hg2)) ?_; clear Z a; intro a Z
   refine s_runk tC Z 1 rfl rfl ?_; clear Z a; intro a Z
   refine s_end Z [0, 1, 4, 7, 8, 9, 10, 5, 11, 12, 13, 14, 15, 16, 18] rfl ?_; clear Z; intro Z
   refine p_then ?_
   exact ⟨(x_2 + 1), ⟨Z.sub (ts := [0, 1, 4, 7, 8]) rfl, ⟨I2, (H.sub [(0, false), (0, true)] rfl).eq rfl⟩⟩, hF⟩
 ·replace hF := ite_f hc1 hF
  refine wp_exit ?_
  refine p_then_x ?_
  refine p_then_x ?_
  refine f_exit_here ?_
  refine p_then (wp_seq (f_region Z ?_)); clear Z; intro Z
  refine s_runk tC Z 1 rfl rfl ?_; clear Z a; intro a Z
  refine s_end Z [4] rfl ?_; clear Z; intro Z
  refine p_then (wp_ret ?_)
  obtain rfl := some_in hF
  exact f_ret Z (run_results1 rfl Z rfl) ⟨rfl, I1, (H.sub [(0, false)] rfl).eq rfl⟩

def F_slices_ContainsFunc_api_Member_api_Member__conf_one_1 (s0 : List EMember) (x : EMember) : Option Bool := (F_slices_IndexFunc_api_Member_api_Member__conf_one_1 s0 x).bind fun x0 => (some (decide (x0 ≥ 0)))

set_option maxHeartbeats 1000000 in
theorem c_slices_ContainsFunc_api_Member_api_Member__conf_one_1 {I D : Dm} {s0 : List EMember} {v1_s0 : Value} {b_ : Nat} {x : EMember} {w : World} {rr : Bool} (hF : F_slices_ContainsFunc_api_Member_api_Member__conf_one_1 s0 x = some rr) (H : St I D w [SlC NEMember v1_s0 s0, BxC b_ 115 [.int .i64 x.id, .int .i64 x.serial]]) :
  Calls Try.prog 100 #[v1_s0, .func (.func 99) #[] #[.pointer (some ⟨b_, 0, none⟩)]] w (Ret fun vv w' => vv = .bool rr ∧ ∃ I', Hf I D w I' w' [BxC b_ 115 [.int .i64 x.id, .int .i64 x.serial]]) := by
 replace H := H.hf
 unfold F_slices_ContainsFunc_api_Member_api_Member__conf_one_1 at hF
 refine f_enter 9 Try.func100 rfl rfl (Nat.le_of_ble_eq_true rfl) fun a Z => ?_
 replace Z := Z.sub (ts := [0, 1]) rfl
 refine wp_seq (f_region Z ?_); clear Z; intro Z
 refine s_runk tC Z 1 rfl rfl ?_; clear Z a; intro a Z
 refine s_end Z [0, 1, 4] rfl ?_; clear Z; intro Z
 refine p_then (wp_seq ?_)
 obtain ⟨x0, hx1, hF⟩ := bnd_in hF
 refine f_region Z ?_; clear Z; intro Z
 refine s_runk tC Z 2 rfl rfl ?_; clear Z a; intro a Z
 refine h_call Z H (js := [(0, true), (1, false)]) rfl (caps := #[]) fn_108_YConf rfl rfl rfl rfl rfl (by decide) rfl rfl (fun D1 hS => have hq := c_slices_IndexFunc_api_Member_api_Member__conf_one_1 hx1 hS; hq) ?_; clear Z a; intro vv a w1 D2 hr hF2 Z
 obtain ⟨rfl, I1, K⟩ := hr
 have H : Hf I D w I1 w1 [BxC b_ 115 [.int .i64 x.id, .int .i64 x.serial], SlC NEMember v1_s0 s0] := hF2 K
 clear hF2 K
 refine s_runk tC Z 2 rfl rfl ?_; clear Z a; intro a Z
 refine s_end Z [4] rfl ?_; clear Z; intro Z
 refine p_then (wp_ret ?_)
 obtain rfl := some_in hF
 exact f_ret Z (run_results1 rfl Z rfl) ⟨rfl, I1, (H.sub [(0, false)] rfl).eq rfl⟩

def F_conf_one (m : EMember) (ahead : List EMember) : Option Int := if ((decide (m.id < 0)) || (decide (m.id ≥ 4))) = true then (some 1) else (if ((decide (m.serial < 1)) || (decide (m.serial > 1073741824))) = true then (some 5) else ((F_slices_ContainsFunc_api_Member_api_Member__conf_one_1 ahead m).bind fun x0 => (if (x0) = true then (some 18) else (some 0))))

set_option maxHeartbeats 1000000 in
theorem c_conf_one {I D : Dm} {m : EMember} {ahead : List EMember} {v1_ahead : Value} {w : World} {rr : Int} (hF : F_conf_one m ahead = some rr) (H : St I D w [SlC NEMember v1_ahead ahead]) :
  Calls Try.prog 79 #[.agg #[.int .i64 m.id, .int .i64 m.serial], v1_ahead] w (Ret fun vv w' => vv = .int .i64 rr ∧ ∃ I', Hf I D w I' w' []) := by
 replace H := H.hf
 unfold F_conf_one at hF
 refine f_enter 29 Try.func79 rfl rfl (Nat.le_of_ble_eq_true rfl) fun a Z => ?_
 replace Z := Z.sub (ts := [0, 1]) rfl
 refine wp_seq (f_region Z ?_); clear Z; intro Z
 refine h_boxv Z H (cl := [.int .i64 m.id, .int .i64 m.serial]) rfl rfl rfl (by decide) rfl rfl rfl ?_; clear Z a H; intro a w1 b1 H Z
 refine s_runk tC Z 1 rfl rfl ?_; clear Z a; intro a Z
 refine s_end Z [1, 2, 4] rfl ?_; clear Z; intro Z
 refine p_then (wp_seq (f_region Z ?_)); clear Z; intro Z
 refine s_runk tC Z 2 rfl rfl ?_; clear Z a; intro a Z
 refine s_end Z [1, 2, 4, 5] rfl ?_; clear Z; intro Z
 refine p_then (wp_seq ?_)
 refine wp_block ?_
 refine wp_seq (f_region Z ?_); clear Z; intro Z
 refine s_runk tC Z 1 rfl rfl ?_; clear Z a; intro a Z
 refine s_ob Z (v := .int .i64 m.id) rfl rfl (by decide) rfl (Ob_load tC rfl rfl rfl ((H.bx 0 rfl).cell 0 rfl)) ?_; clear Z a; intro a Z
 refine s_runk tC Z 2 rfl rfl ?_; clear Z a; intro a Z
 refine g_ob Z (p := (!(decide (m.id < 0)))) (v := .pointer (some ⟨b1, 0, none⟩)) (S' := [(2, .pointer (some ⟨b1, 0, none⟩))]) rfl rfl rfl (wantB_f _) rfl (by decide) (fun hp hS => hS.sub (ts := [2]) rfl) (fun hp => Ob_c tC rfl) ?_; clear Z a; intro a Z
 refine g_ob Z (p := (!(decide (m.id < 0)))) (v := .int .i64 m.id) (S' := [(12, .pointer (some ⟨b1, 0, none⟩))]) rfl rfl rfl (wantB_f _) rfl (by decide) (fun hp hS => (hS.conv (t := 12) rfl (cond_t hp)).sub (ts := [12]) rfl) (fun hp => Ob_load tC rfl rfl rfl ((H.bx 0 rfl).cell 0 rfl)) ?_; clear Z a; intro a Z
 refine g_ob Z (p := (!(decide (m.id < 0)))) (v := .bool (decide (m.id ≥ 4))) (S' := [(13, .int .i64 m.id)]) rfl rfl rfl (wantB_f _) rfl (by decide) (fun hp hS => (hS.conv (t := 13) rfl (cond_t hp)).sub (ts := [13]) rfl) (fun hp => Ob_c tC rfl) ?_; clear Z a; intro a Z
 refine s_ob Z (v := .bool ((decide (m.id < 0)) || (decide (m.id ≥ 4)))) rfl rfl (by decide) rfl (Ob_pick rfl rfl rfl rfl (pick_or _ _)) ?_; clear Z a; intro a Z
 refine s_runk tC Z 1 rfl rfl ?_; clear Z a; intro a Z
 refine s_end Z [1, 2, 4, 5, 7] rfl ?_; clear Z; intro Z
 refine p_then ?_
 refine f_cond Z rfl (fun hc1 => ?_) (fun hc1 => ?_)
 ·replace hF := ite_t hc1 hF
  refine wp_seq (f_region Z ?_); clear Z; intro Z
  refine s_runk tC Z 1 rfl rfl ?_; clear Z a; intro a Z
  refine s_end Z [4] rfl ?_; clear Z; intro Z
  refine p_then (wp_ret ?_)
  refine p_blk_r ?_
  refine p_then_r ?_
  obtain rfl := some_in hF
  exact f_ret Z (run_results1 rfl Z rfl) ⟨rfl, I, (H.sub [] rfl).eq rfl⟩
 ·replace hF := ite_f hc1 hF
  refine wp_seq (f_region Z ?_); clear Z; intro Z
  refine s_runk tC Z 1 rfl rfl ?_; clear Z a; intro a Z
  refine s_ob Z (v := .int .i64 m.serial) rfl rfl (by decide) rfl (Ob_load tC rfl rfl rfl ((H.bx 0 rfl).cell 1 rfl)) ?_; clear Z a; intro a Z
  refine s_runk tC Z 2 rfl rfl ?_; clear Z a; intro a Z
  refine g_ob Z (p := (!(decide (m.serial < 1)))) (v := .pointer (some ⟨b1, 1, none⟩)) (S' := [(2, .pointer (some ⟨b1, 0, none⟩))]) rfl rfl rfl (wantB_f _) rfl (by decide) (fun hp hS => hS.sub (ts := [2]) rfl) (fun hp => Ob_c tC rfl) ?_; clear Z a; intro a Z
  refine g_ob Z (p := (!(decide (m.serial < 1)))) (v := .int .i64 m.serial) (S' := [(21, .pointer (some ⟨b1, 1, none⟩))]) rfl rfl rfl (wantB_f _) rfl (by decide) (fun hp hS => (hS.conv (t := 21) rfl (cond_t hp)).sub (ts := [21]) rfl) (fun hp => Ob_load tC rfl rfl rfl ((H.bx 0 rfl).cell 1 rfl)) ?_; clear Z a; intro a Z
  refine g_ob Z (p := (!(decide (m.serial < 1)))) (v := .bool (decide (m.serial > 1073741824))) (S' := [(22, .int .i64 m.serial)]) rfl rfl rfl (wantB_f _) rfl (by decide) (fun hp hS => (hS.conv (t := 22) rfl (cond_t hp)).sub (ts := [22]) rfl) (fun hp => Ob_c tC rfl) ?_; clear Z a; intro a Z
  refine s_ob Z (v := .bool ((decide (m.serial < 1)) || (decide (m.serial > 1073741824)))) rfl rfl (by decide) rfl (Ob_pick rfl rfl rfl rfl (pick_or _ _)) ?_; clear Z a; intro a Z
  refine s_runk tC Z 1 rfl rfl ?_; clear Z a; intro a Z
  refine s_end Z [1, 4, 5, 16] rfl ?_; clear Z; intro Z
  refine p_then ?_
  refine f_cond Z rfl (fun hc2 => ?_) (fun hc2 => ?_)
  ·replace hF := ite_t hc2 hF
   refine wp_seq (f_region Z ?_); clear Z; intro Z
   refine s_runk tC Z 1 rfl rfl ?_; clear Z a; intro a Z
   refine s_end Z [4] rfl ?_; clear Z; intro Z
   refine p_then (wp_ret ?_)
   refine p_blk_r ?_
   refine p_then_r ?_
   obtain rfl := some_in hF
   exact f_ret Z (run_results1 rfl Z rfl) ⟨rfl, I, (H.sub [] rfl).eq rfl⟩
  ·replace hF := ite_f hc2 hF
   refine wp_seq ?_
   obtain ⟨x0, hx1, hF⟩ := bnd_in hF
   refine f_region Z ?_; clear Z; intro Z
   refine s_runk tC Z 2 rfl rfl ?_; clear Z a; intro a Z
   refine h_call Z H (js := [(1, true), (0, false)]) rfl (caps := #[]) fn_100_YConf rfl rfl rfl rfl rfl (by decide) rfl rfl (fun D1 hS => have hq := c_slices_ContainsFunc_api_Member_api_Member__conf_one_1 hx1 hS; hq) ?_; clear Z a; intro vv a w2 D2 hr hF2 Z
   obtain ⟨rfl, I1, K⟩ := hr
   have H : Hf I D w I1 w2 [BxC b1 115 [.int .i64 m.id, .int .i64 m.serial], SlC NEMember v1_ahead ahead] := hF2 K
   clear hF2 K
   refine s_runk tC Z 1 rfl rfl ?_; clear Z a; intro a Z
   refine s_end Z [4, 25] rfl ?_; clear Z; intro Z
   refine p_then ?_
   refine f_cond Z rfl (fun hc3 => ?_) (fun hc3 => ?_)
   ·replace hF := ite_t hc3 hF
    refine wp_seq (f_region Z ?_); clear Z; intro Z
    refine s_runk tC Z 1 rfl rfl ?_; clear Z a; intro a Z
    refine s_end Z [4] rfl ?_; clear Z; intro Z
    refine p_then (wp_ret ?_)
    refine p_blk_r ?_
    refine p_then_r ?_
    obtain rfl := some_in hF
    exact f_ret Z (run_results1 rfl Z rfl) ⟨rfl, I1, (H.sub [] rfl).eq rfl⟩
   ·replace hF := ite_f hc3 hF
    refine wp_skip ?_
    refine p_blk ?_
    refine p_then (wp_seq (f_region Z ?_)); clear Z; intro Z
    refine s_runk tC Z 1 rfl rfl ?_; clear Z a; intro a Z
    refine s_end Z [4] rfl ?_; clear Z; intro Z
    refine p_then (wp_ret ?_)
    obtain rfl := some_in hF
    exact f_ret Z (run_results1 rfl Z rfl) ⟨rfl, I1, (H.sub [] rfl).eq rfl⟩

def F_conf_Check_l1 (c : EConf) (rc : Int → Option Int) (sg : Int) : Option Int := match sg with | x => if (decide (x < (c.members.length : Int))) = true then (chk ((0 : Int) ≤ x ∧ x < (c.members.length : Int)) (chk ((0 : Int) ≤ x ∧ x ≤ (c.members.length : Int)) ((F_conf_one (c.members.getD (x).toNat default) (c.members.take ((x).toNat))).bind fun o => (if (o != 0) = true then (some o) else (chk (inI (x + 1)) (rc (x + 1))))))) else (some 0)

def F_conf_Check (c : EConf) : Option Int := if ((decide (c.epoch < 1)) || (decide (c.epoch > 1073741824))) = true then (some 5) else (if ((c.members.length : Int) == 0) = true then (some 7) else (if (decide ((c.members.length : Int) > 4)) = true then (some 6) else (iter (F_conf_Check_l1 c) FU 0)))

set_option maxHeartbeats 1000000 in
theorem c_conf_Check {I D : Dm} {c : EConf} {v1_c : Value} {w : World} {rr : Int} (hF : F_conf_Check c = some rr) (H : St I D w [SlC NEMember v1_c c.members]) :
  Calls Try.prog 43 #[.agg #[.int .i64 c.epoch, v1_c, .int .u64 c.floor]] w (Ret fun vv w' => vv = .int .i64 rr ∧ ∃ I', Hf I D w I' w' []) := by
 replace H := H.hf
 unfold F_conf_Check at hF
 refine f_enter 43 Try.func43 rfl rfl (Nat.le_of_ble_eq_true rfl) fun a Z => ?_
 replace Z := Z.sub (ts := [0]) rfl
 refine wp_seq (f_region Z ?_); clear Z; intro Z
 refine h_boxv Z H (cl := [.int .i64 c.epoch, v1_c, .int .u64 c.floor]) rfl rfl rfl (by decide) rfl rfl rfl ?_; clear Z a H; intro a w1 b1 H Z
 refine s_runk tC Z 1 rfl rfl ?_; clear Z a; intro a Z
 refine s_end Z [1, 2] rfl ?_; clear Z; intro Z
 refine p_then (wp_seq ?_)
 refine wp_block ?_
 refine wp_seq (f_region Z ?_); clear Z; intro Z
 refine s_runk tC Z 1 rfl rfl ?_; clear Z a; intro a Z
 refine s_ob Z (v := .int .i64 c.epoch) rfl rfl (by decide) rfl (Ob_load tC rfl rfl rfl ((H.bx 0 rfl).cell 0 rfl)) ?_; clear Z a; intro a Z
 refine s_runk tC Z 2 rfl rfl ?_; clear Z a; intro a Z
 refine g_ob Z (p := (!(decide (c.epoch < 1)))) (v := .pointer (some ⟨b1, 0, none⟩)) (S' := [(1, .pointer (some ⟨b1, 0, none⟩))]) rfl rfl rfl (wantB_f _) rfl (by decide) (fun hp hS => hS.sub (ts := [1]) rfl) (fun hp => Ob_c tC rfl) ?_; clear Z a; intro a Z
 refine g_ob Z (p := (!(decide (c.epoch < 1)))) (v := .int .i64 c.epoch) (S' := [(11, .pointer (some ⟨b1, 0, none⟩))]) rfl rfl rfl (wantB_f _) rfl (by decide) (fun hp hS => (hS.conv (t := 11) rfl (cond_t hp)).sub (ts := [11]) rfl) (fun hp => Ob_load tC rfl rfl rfl ((H.bx 0 rfl).cell 0 rfl)) ?_; clear Z a; intro a Z
 refine g_ob Z (p := (!(decide (c.epoch < 1)))) (v := .bool (decide (c.epoch > 1073741824))) (S' := [(12, .int .i64 c.epoch)]) rfl rfl rfl (wantB_f _) rfl (by decide) (fun hp hS => (hS.conv (t := 12) rfl (cond_t hp)).sub (ts := [12]) rfl) (fun hp => Ob_c tC rfl) ?_; clear Z a; intro a Z
 refine s_ob Z (v := .bool ((decide (c.epoch < 1)) || (decide (c.epoch > 1073741824)))) rfl rfl (by decide) rfl (Ob_pick rfl rfl rfl rfl (pick_or _ _)) ?_; clear Z a; intro a Z
 refine s_runk tC Z 1 rfl rfl ?_; clear Z a; intro a Z
 refine s_end Z [1, 2, 6] rfl ?_; clear Z; intro Z
 refine p_then ?_
 refine f_cond Z rfl (fun hc1 => ?_) (fun hc1 => ?_)
 ·replace hF := ite_t hc1 hF
  refine wp_seq (f_region Z ?_); clear Z; intro Z
  refine s_runk tC Z 1 rfl rfl ?_; clear Z a; intro a Z
  refine s_end Z [1, 2] rfl ?_; clear Z; intro Z
  refine p_then (wp_ret ?_)
  refine p_blk_r ?_
  refine p_then_r ?_
  obtain rfl := some_in hF
  exact f_ret Z (run_results1 rfl Z rfl) ⟨rfl, I, (H.sub [] rfl).eq rfl⟩
 ·replace hF := ite_f hc1 hF
  refine wp_seq (f_region Z ?_); clear Z; intro Z
  refine s_runk tC Z 1 rfl rfl ?_; clear Z a; intro a Z
  refine s_ob Z (v := v1_c) rfl rfl (by decide) rfl (Ob_load tC rfl rfl rfl ((H.bx 0 rfl).cell 1 rfl)) ?_; clear Z a; intro a Z
  refine s_ob Z (v := .int .i64 (c.members.length : Int)) rfl rfl (by decide) rfl (Ob_slen tC rfl rfl rfl (H.slshape 1 rfl)) ?_; clear Z a; intro a Z
  refine s_runk tC Z 2 rfl rfl ?_; clear Z a; intro a Z
  refine s_end Z [1, 2, 15] rfl ?_; clear Z; intro Z
  refine p_then ?_
  refine f_cond Z rfl (fun hc2 => ?_) (fun hc2 => ?_)
  ·replace hF := ite_t hc2 hF
   refine wp_seq (f_region Z ?_); clear Z; intro Z
   refine s_runk tC Z 1 rfl rfl ?_; clear Z a; intro a Z
   refine s_end Z [1, 2] rfl ?_; clear Z; intro Z
   refine p_then (wp_ret ?_)
   refine p_blk_r ?_
   refine p_then_r ?_
   obtain rfl := some_in hF
   exact f_ret Z (run_results1 rfl Z rfl) ⟨rfl, I, (H.sub [] rfl).eq rfl⟩
  ·replace hF := ite_f hc2 hF
   refine wp_seq (f_region Z ?_); clear Z; intro Z
   refine s_runk tC Z 1 rfl rfl ?_; clear Z a; intro a Z
   refine s_ob Z (v := v1_c) rfl rfl (by decide) rfl (Ob_load tC rfl rfl rfl ((H.bx 0 rfl).cell 1 rfl)) ?_; clear Z a; intro a Z
   refine s_ob Z (v := .int .i64 (c.members.length : Int)) rfl rfl (by decide) rfl (Ob_slen tC rfl rfl rfl (H.slshape 1 rfl)) ?_; clear Z a; intro a Z
   refine s_runk tC Z 2 rfl rfl ?_; clear Z a; intro a Z
   refine s_end Z [1, 2, 20] rfl ?_; clear Z; intro Z
   refine p_then ?_
   refine f_cond Z rfl (fun hc3 => ?_) (fun hc3 => ?_)
   ·replace hF := ite_t hc3 hF
    refine wp_seq (f_region Z ?_); clear Z; intro Z
    refine s_runk tC Z 1 rfl rfl ?_; clear Z a; intro a Z
    refine s_end Z [1, 2] rfl ?_; clear Z; intro Z
    refine p_then (wp_ret ?_)
    refine p_blk_r ?_
    refine p_then_r ?_
    obtain rfl := some_in hF
    exact f_ret Z (run_results1 rfl Z rfl) ⟨rfl, I, (H.sub [] rfl).eq rfl⟩
   ·replace hF := ite_f hc3 hF
    refine wp_skip ?_
    refine p_blk ?_
    refine p_then (wp_seq ?_)
    refine wp_seq (f_region Z ?_); clear Z; intro Z
    refine s_runk tC Z 1 rfl rfl ?_; clear Z a; intro a Z
    refine s_ob Z (v := v1_c) rfl rfl (by decide) rfl (Ob_load tC rfl rfl rfl ((H.bx 0 rfl).cell 1 rfl)) ?_; clear Z a; intro a Z
    refine s_ob Z (v := .int .i64 (c.members.length : Int)) rfl rfl (by decide) rfl (Ob_slen tC rfl rfl rfl (H.slshape 1 rfl)) ?_; clear Z a; intro a Z
    refine s_runk tC Z 1 rfl rfl ?_; clear Z a; intro a Z
    refine s_end Z [1, 2, 26, 27, 28] rfl ?_; clear Z; intro Z
    refine p_then (wp_block ?_)
    refine f_iter hF (fun sg a' w' => match sg with | x => Sl 43 [(1, .pointer (some ⟨b1, 0, none⟩)), (2, .int .i64 0), (26, v1_c), (27, .int .i64 (c.members.length : Int)), (28, .int .i64 x)] a' ∧ ∃ I2, Hf I D w I2 w' [BxC b1 26 [.int .i64 c.epoch, v1_c, .int .u64 c.floor], SlC NEMember v1_c c.members]) ⟨Z.sub (ts := [1, 2, 26, 27, 28]) rfl, ⟨I, (H.sub [(0, false), (0, true)] rfl).eq rfl⟩⟩ ?_
    clear Z H hF a
    rintro rc x a w2 ⟨Z, I1, H⟩ hF
    unfold F_conf_Check_l1 at hF
    try dsimp only at hF
    refine wp_seq (f_region Z ?_); clear Z; intro Z
    refine s_runk tC Z 1 rfl rfl ?_; clear Z a; intro a Z
    refine s_end Z [1, 2, 26, 27, 28, 29] rfl ?_; clear Z; intro Z
    refine p_then (wp_seq ?_)
    refine f_cond Z rfl (fun hc4 => ?_) (fun hc4 => ?_)
    ·replace hF := ite_t hc4 hF
     refine wp_skip ?_
     refine p_then (wp_seq ?_)
     refine wp_block ?_
     refine wp_seq ?_
     obtain ⟨hg1, hF⟩ := chk_in hF
     refine f_region Z ?_; clear Z; intro Z
     refine s_runk tC Z 1 rfl rfl ?_; clear Z a; intro a Z
     refine s_ob Z (v := .pointer (some ⟨blkOf v1_c, oofOf v1_c + (x).toNat * 2, none⟩)) rfl rfl (by decide) rfl (Ob_sidx tC rfl rfl rfl rfl (slPl (H.sl 1 rfl) hg1) hg1) ?_; clear Z a; intro a Z
     refine s_ob Z (v := .agg #[.int .i64 ((c.members.getD (x).toNat default).id), .int .i64 ((c.members.getD (x).toNat default).serial)]) rfl rfl (by decide) rfl (Ob_loads tC rfl rfl rfl ((slFl (H.sl 1 rfl) hg1).part 0 rfl)) ?_; clear Z a; intro a Z
     refine h_alloc Z H (cl := [.int .i64 0, .int .i64 0]) (z := .agg #[.int .i64 0, .int .i64 0]) rfl rfl rfl (by decide) rfl (by kernel_rfl) rfl ?_; clear Z a H; intro a w3 b2 H Z
     refine s_runk tC Z 1 rfl rfl ?_; clear Z a; intro a Z
     refine h_store tC Z H 0 rfl rfl rfl rfl rfl rfl rfl rfl rfl (one_cons rfl (one_cons rfl one_nil)) (Nat.le_of_ble_eq_true rfl) rfl ?_; clear H; intro w4 H
     dsimp only [List.eraseIdx] at H
     refine s_end Z [1, 2, 26, 27, 28, 29, 30, 31, 32, 4, 3] rfl ?_; clear Z; intro Z
     refine p_then (wp_seq ?_)
     obtain ⟨hg2, hF⟩ := chk_in hF
     replace H : Hf I D w I1 w4 [SlC NEMember (subV v1_c 0 ((x).toNat) 2) (c.members.take ((x).toNat)), BxC b2 115 [.int .i64 ((c.members.getD (x).toNat default).id), .int .i64 ((c.members.getD (x).toNat default).serial)], BxC b1 26 [.int .i64 c.epoch, v1_c, .int .u64 c.floor], SlC NEMember v1_c c.members] := H.slPart_to 2 rfl hg2 2 rfl
     obtain ⟨o, hx1, hF⟩ := bnd_in hF
     refine f_quietd (by kernel_rfl) (by kernel_rfl) Z ?_; clear Z; intro Z
     refine q_ob Z (v := .agg #[.int .i64 ((c.members.getD (x).toNat default).id), .int .i64 ((c.members.getD (x).toNat default).serial)]) rfl rfl (by decide) rfl (fun _ hw => Ob_loads tC rfl rfl rfl (((H.blw hw).bx 1 rfl).part 0 rfl)) ?_; clear Z a; intro a Z
     refine q_runk tC Z 1 rfl rfl ?_; clear Z a; intro a Z
     refine q_ob Z (v := v1_c) rfl rfl (by decide) rfl (fun _ hw => Ob_load tC rfl rfl rfl (((H.blw hw).bx 2 rfl).cell 1 rfl)) ?_; clear Z a; intro a Z
     refine q_runk tC Z 1 rfl rfl ?_; clear Z a; intro a Z
     refine q_ob Z (v := subV v1_c 0 ((x).toNat) 2) rfl rfl (by decide) rfl (fun _ hw => Ob_sub_to tC rfl rfl rfl rfl ((H.blw hw).slshape 3 rfl) hg2) ?_; clear Z a; intro a Z
     refine q_call Z (caps := #[]) fn_79_YConf rfl rfl rfl rfl rfl (by decide) rfl rfl (fun _ hw => (have hq := c_conf_one hx1 (((H.blw hw)).pick0 (js := [(0, true)]) rfl rfl); plainC hq)) ?_; clear Z a; intro a Z
     refine q_runk tC Z 1 rfl rfl ?_; clear Z a; intro a Z
     refine q_end Z [1, 2, 26, 27, 28, 29, 30, 31, 32, 4, 3, 33, 34, 35, 36, 37, 38, 5] rfl ?_; clear Z; intro w5 hb Z
     replace H : Hf I D w I1 w5 [SlC NEMember (subV v1_c 0 ((x).toNat) 2) (c.members.take ((x).toNat)), BxC b2 115 [.int .i64 ((c.members.getD (x).toNat default).id), .int .i64 ((c.members.getD (x).toNat default).serial)], BxC b1 26 [.int .i64 c.epoch, v1_c, .int .u64 c.floor], SlC NEMember v1_c c.members] := H.blw hb
     clear hb
     refine p_then (wp_seq (f_region Z ?_)); clear Z; intro Z
     refine s_runk tC Z 2 rfl rfl ?_; clear Z a; intro a Z
     refine s_end Z [1, 2, 26, 27, 28, 29, 30, 31, 32, 4, 3, 33, 34, 35, 36, 37, 38, 5, 39, 40] rfl ?_; clear Z; intro Z
     refine p_then ?_
     refine f_cond Z rfl (fun hc5 => ?_) (fun hc5 => ?_)
     ·replace hF := ite_t hc5 hF
      refine wp_seq (f_region Z ?_); clear Z; intro Z
      refine s_runk tC Z 2 rfl rfl ?_; clear Z a; intro a Z
      refine s_end Z [1, 2, 26, 27, 28, 29, 30, 31, 32, 4, 3, 33, 34, 35, 36, 37, 38, 5, 39, 40, 41] rfl ?_; clear Z; intro Z
      refine p_then (wp_ret ?_)
      refine p_blk_r ?_
      refine p_then_r ?_
      refine p_then_r ?_
      refine p_blk_r ?_
      refine p_then_r ?_
      obtain rfl := some_in hF
      exact f_ret Z (run_results1 rfl Z rfl) ⟨rfl, I1, (H.sub [] rfl).eq rfl⟩
     ·replace hF := ite_f hc5 hF
      refine wp_skip ?_
      refine p_blk ?_
      refine p_then ?_
      obtain ⟨hg3, hF⟩ := chk_in hF
      refine f_region Z ?_; clear Z; intro Z
      refine s_ob Z (v := .int .i64 (x + 1)) rfl rfl (by decide) rfl (Ob_add rfl rfl rfl (wrI hg3)) ?_; clear Z a; intro a Z
      refine s_runk tC Z 1 rfl rfl ?_; clear Z a; intro a Z
      refine s_end Z [1, 2, 26, 27, 28, 29, 30, 31, 32, 4, 3, 33, 34, 35, 36, 37, 38, 5, 39, 40, 42] rfl ?_; clear Z; intro Z
      refine p_then ?_
      exact ⟨(x + 1), ⟨Z.sub (ts := [1, 2, 26, 27, 28]) rfl, ⟨I1, (H.sub [(2, false), (2, true)] rfl).eq rfl⟩⟩, hF⟩
    ·replace hF := ite_f hc4 hF
     refine wp_exit ?_
     refine p_then_x ?_
     refine p_then_x ?_
     refine f_exit_here ?_
     refine p_then (wp_seq (f_region Z ?_)); clear Z; intro Z
     refine s_runk tC Z 1 rfl rfl ?_; clear Z a; intro a Z
     refine s_end Z [2] rfl ?_; clear Z; intro Z
     refine p_then (wp_ret ?_)
     obtain rfl := some_in hF
     exact f_ret Z (run_results1 rfl Z rfl) ⟨rfl, I1, (H.sub [] rfl).eq rfl⟩

def F_ref07_Put_l1 (c : EConf) (rc : (Int × ByteArray × Int) → Option (ByteArray × Int)) (sg : Int × ByteArray × Int) : Option (ByteArray × Int) := match sg with | (i, w_s, w_e) => if (decide (i < (c.members.length : Int))) = true then (chk ((0 : Int) ≤ i ∧ i < (c.members.length : Int)) ((F_ref02_Writer_Num ({ s := w_s, e := w_e } : Eref02_Writer) ((c.members.getD (i).toNat default).id)).bind fun n0_3 => (chk ((0 : Int) ≤ i ∧ i < (c.members.length : Int)) ((F_ref02_Writer_Num n0_3 ((c.members.getD (i).toNat default).serial)).bind fun n0_4 => (chk (inI (i + 1)) (rc (i + 1, n0_4.s, n0_4.e))))))) else ((F_ref02_Writer_Big ({ s := w_s, e := w_e } : Eref02_Writer) c.floor).bind fun b => ((F_ref02_Writer_Done b).bind fun d => (some (d.1, d.2))))

def F_ref07_Put (c : EConf) : Option (ByteArray × Int) := (F_ref07_Check c).bind fun c_2 => (if (c_2 != 0) = true then (some (⟨#[]⟩, c_2)) else ((F_ref02_Writer_Num (default : Eref02_Writer) c.epoch).bind fun n0 => ((F_ref02_Writer_Num n0 (c.members.length : Int)).bind fun n0_2 => (iter (F_ref07_Put_l1 c) FU (0, n0_2.s, n0_2.e)))))

def F_conf_Put_l1 (c : EConf) (rc : (Int × Ewire_Writer) → Option (ByteArray × Int)) (sg : Int × Ewire_Writer) : Option (ByteArray × Int) := match sg with | (x, w0) => if (decide (x < (c.members.length : Int))) = true then (chk ((0 : Int) ≤ x ∧ x < (c.members.length : Int)) ((F_wire_Writer_Num w0 ((c.members.getD (x).toNat default).id)).bind fun n0_4 => ((F_wire_Writer_Num n0_4 ((c.members.getD (x).toNat default).serial)).bind fun n0_5 => (chk (inI (x + 1)) (rc (x + 1, n0_5)))))) else ((F_wire_Writer_Big w0 c.floor).bind fun b => ((F_wire_Writer_Done b).bind fun d => (some (d.1, d.2))))

def F_conf_Put (c : EConf) : Option (ByteArray × Int) := (F_conf_Check c).bind fun c_2 => (if (c_2 != 0) = true then (some (⟨#[]⟩, c_2)) else ((F_wire_New).bind fun n0 => ((F_wire_Writer_Num n0 c.epoch).bind fun n0_2 => ((F_wire_Writer_Num n0_2 (c.members.length : Int)).bind fun n0_3 => (iter (F_conf_Put_l1 c) FU (0, n0_3))))))

set_option maxHeartbeats 1000000 in
theorem c_conf_Put {I D : Dm} {c : EConf} {v1_c : Value} {w : World} {rr : ByteArray × Int} (hF : F_conf_Put c = some rr) (H : St I D w [SlC NEMember v1_c c.members]) :
  Calls Try.prog 32 #[.agg #[.int .i64 c.epoch, v1_c, .int .u64 c.floor]] w (Ret fun vv w' => vv = .tuple #[.string rr.1, .int .i64 rr.2] ∧ ∃ I', Hf I D w I' w' []) := by
 replace H := H.hf
 unfold F_conf_Put at hF
 refine f_enter 43 Try.func32 rfl rfl (Nat.le_of_ble_eq_true rfl) fun a Z => ?_
 replace Z := Z.sub (ts := [0]) rfl
 refine wp_seq (f_region Z ?_); clear Z; intro Z
 refine h_boxv Z H (cl := [.int .i64 c.epoch, v1_c, .int .u64 c.floor]) rfl rfl rfl (by decide) rfl rfl rfl ?_; clear Z a H; intro a w1 b1 H Z
 refine s_runk tC Z 2 rfl rfl ?_; clear Z a; intro a Z
 refine s_end Z [1, 2, 3] rfl ?_; clear Z; intro Z
 refine p_then (wp_seq ?_)
 refine wp_seq ?_
 obtain ⟨c_2, hx1, hF⟩ := bnd_in hF
 refine f_region Z ?_; clear Z; intro Z
 refine s_ob Z (v := .agg #[.int .i64 c.epoch, v1_c, .int .u64 c.floor]) rfl rfl (by decide) rfl (Ob_loads tC rfl rfl rfl ((H.bx 0 rfl).part 0 rfl)) ?_; clear Z a; intro a Z
 refine h_call Z H (js := [(1, true)]) rfl (caps := #[]) fn_43_YConf rfl rfl rfl rfl rfl (by decide) rfl rfl (fun D1 hS => have hq := c_conf_Check hx1 hS; hq) ?_; clear Z a; intro vv a w2 D2 hr hF2 Z
 obtain ⟨rfl, I1, K⟩ := hr
 have H : Hf I D w I1 w2 [BxC b1 26 [.int .i64 c.epoch, v1_c, .int .u64 c.floor], SlC NEMember v1_c c.members] := hF2 K
 clear hF2 K
 refine s_runk tC Z 1 rfl rfl ?_; clear Z a; intro a Z
 refine s_end Z [1, 2, 3, 4] rfl ?_; clear Z; intro Z
 refine p_then (wp_seq (f_region Z ?_)); clear Z; intro Z
 refine s_runk tC Z 2 rfl rfl ?_; clear Z a; intro a Z
 refine s_end Z [1, 2, 3, 4, 11] rfl ?_; clear Z; intro Z
 refine p_then ?_
 refine f_cond Z rfl (fun hc1 => ?_) (fun hc1 => ?_)
 ·replace hF := ite_t hc1 hF
  refine wp_seq (f_region Z ?_); clear Z; intro Z
  refine s_runk tC Z 3 rfl rfl ?_; clear Z a; intro a Z
  refine s_end Z [1, 2, 3] rfl ?_; clear Z; intro Z
  refine p_then (wp_ret ?_)
  refine p_then_r ?_
  obtain rfl := some_in hF
  exact f_ret Z (run_results2 rfl Z rfl rfl) ⟨rfl, I1, (H.sub [] rfl).eq rfl⟩
 ·replace hF := ite_f hc1 hF
  refine wp_skip ?_
  refine p_then (wp_seq ?_)
  obtain ⟨n0, hx2, hF⟩ := bnd_in hF
  obtain ⟨n0_2, hx3, hF⟩ := bnd_in hF
  obtain ⟨n0_3, hx4, hF⟩ := bnd_in hF
  refine f_regionM Z (by kernel_rfl) (by kernel_rfl) (by decide) (by decide) [0, 3, 7] [(0, 0, 0), (0, 0, 1), (2, 0, 1), (7, 1, 1), (0, 0, 2), (16, 0, 2), (48, 0, 2), (127, 2, 2), (255, 3, 3)] (by kernel_rfl) (fun jj => match jj with | 3 => 0 | 7 => 0 | 8 => 0 | _ => jj) (by kernel_rfl) (fun jj rv vv => match jj with | 0 => vv = .pointer (some ⟨(blkOf vv), 0, none⟩) | 1 => vv = .pointer (some ⟨b1, 0, none⟩) | 2 => vv = .int .i64 c.epoch | 3 => vv = .pointer (some ⟨(blkOf rv), 0, none⟩) | 4 => vv = .pointer (some ⟨b1, 1, none⟩) | 5 => vv = v1_c | 6 => vv = .int .i64 (c.members.length : Int) | 7 => vv = .pointer (some ⟨(blkOf rv), 0, none⟩) | 8 => vv = .pointer (some ⟨(blkOf rv), 0, none⟩) | _ => True) (fun ss vals1 xw => match ss with | 0 => Gx I D w I1 w2 xw [BxC b1 26 [.int .i64 c.epoch, v1_c, .int .u64 c.floor], SlC NEMember v1_c c.members] | 1 => Gx I D w I1 w2 xw [OEwire_Writer (blkOf (vals1 0)) n0, BxC b1 26 [.int .i64 c.epoch, v1_c, .int .u64 c.floor], SlC NEMember v1_c c.members] | 2 => Gx I D w I1 w2 xw [OEwire_Writer (blkOf (vals1 0)) n0_2, BxC b1 26 [.int .i64 c.epoch, v1_c, .int .u64 c.floor], SlC NEMember v1_c c.members] | _ => Gx I D w I1 w2 xw [OEwire_Writer (blkOf (vals1 0)) n0_3, BxC b1 26 [.int .i64 c.epoch, v1_c, .int .u64 c.floor], SlC NEMember v1_c c.members]) (fun _ => Gx.start H) ?_ ?_
  ·intro fr hfr hfe
   refine .cons (fun ss hlo hhi vals1 xw hG hV => ?_) ?_
   ·obtain rfl : ss = 0 := Nat.le_antisymm hhi hlo
    rw [← hfe]
    have hS := (hfr vals1).sub (ts := []) (S' := []) rfl
    obtain ⟨I2, hI2, H⟩ := Gx.ex hG
    refine L_hcall H (js := []) rfl (caps := #[]) hS fn_30_YConf rfl rfl rfl rfl rfl (fun D1 hS => have hq := c_wire_New hx2 hS; hq) fun _ yw D1 hr hF2 => ?_
    obtain ⟨g0_, rfl, I3, K⟩ := hr
    obtain ⟨hK, H2⟩ := hF2 K
    exact ⟨rfl, Gx.go hG hI2 hK K.imm H2⟩
   refine .cons (fun ss hlo hhi vals1 xw hG hV => ?_) ?_
   ·obtain rfl | rfl : ss = 0 ∨ ss = 1 := st1 hlo hhi
    all_goals
    ·rw [← hfe]
     have hS := (hfr vals1).sub (ts := [1]) (S' := [(1, .pointer (some ⟨b1, 0, none⟩))]) rfl
     exact L_val hS rfl (Ob_c tC rfl) ⟨rfl, hG⟩
   refine .cons (fun ss hlo hhi vals1 xw hG hV => ?_) ?_
   ·obtain rfl | rfl : ss = 0 ∨ ss = 1 := st1 hlo hhi
    ·rw [← hfe]
     have hS := (hfr vals1).sub (ts := [14]) (S' := [(14, vals1 1)]) rfl
     replace hS := hS.conv (t := 14) rfl (show (vals1 1) = .pointer (some ⟨b1, 0, none⟩) from hV 1 (by decide))
     obtain ⟨I2, hI2, H⟩ := Gx.ex hG
     exact L_val hS rfl (Ob_load tC rfl rfl rfl ((H.bx 0 rfl).cell 0 rfl)) ⟨rfl, hG⟩
    ·rw [← hfe]
     have hS := (hfr vals1).sub (ts := [14]) (S' := [(14, vals1 1)]) rfl
     replace hS := hS.conv (t := 14) rfl (show (vals1 1) = .pointer (some ⟨b1, 0, none⟩) from hV 1 (by decide))
     obtain ⟨I2, hI2, H⟩ := Gx.ex hG
     exact L_val hS rfl (Ob_load tC rfl rfl rfl ((H.bx 1 rfl).cell 0 rfl)) ⟨rfl, hG⟩
   refine .cons (fun ss hlo hhi vals1 xw hG hV => ?_) ?_
   ·obtain rfl : ss = 1 := Nat.le_antisymm hhi hlo
    rw [← hfe]
    have hS := (hfr vals1).sub (ts := [13, 15]) (S' := [(13, vals1 0), (15, vals1 2)]) rfl
    replace hS := hS.conv (t := 13) rfl (show (vals1 0) = .pointer (some ⟨(blkOf (vals1 0)), 0, none⟩) from hV 0 (by decide))
    replace hS := hS.conv (t := 15) rfl (show (vals1 2) = .int .i64 c.epoch from hV 2 (by decide))
    obtain ⟨I2, hI2, H⟩ := Gx.ex hG
    refine L_hcall H (js := [(0, false)]) rfl (caps := #[]) hS fn_31_YConf rfl rfl rfl rfl rfl (fun D1 hS => have hq := c_wire_Writer_Num hx3 hS; hq) fun _ yw D1 hr hF2 => ?_
    obtain ⟨rfl, I3, K⟩ := hr
    obtain ⟨hK, H2⟩ := hF2 K
    exact ⟨rfl, Gx.go hG hI2 hK K.imm H2⟩
   refine .cons (fun ss hlo hhi vals1 xw hG hV => ?_) ?_
   ·obtain rfl | rfl | rfl : ss = 0 ∨ ss = 1 ∨ ss = 2 := st2 hlo hhi
    all_goals
    ·rw [← hfe]
     have hS := (hfr vals1).sub (ts := [1]) (S' := [(1, .pointer (some ⟨b1, 0, none⟩))]) rfl
     exact L_val hS rfl (Ob_c tC rfl) ⟨rfl, hG⟩
   refine .cons (fun ss hlo hhi vals1 xw hG hV => ?_) ?_
   ·obtain rfl | rfl | rfl : ss = 0 ∨ ss = 1 ∨ ss = 2 := st2 hlo hhi
    ·rw [← hfe]
     have hS := (hfr vals1).sub (ts := [17]) (S' := [(17, vals1 4)]) rfl
     replace hS := hS.conv (t := 17) rfl (show (vals1 4) = .pointer (some ⟨b1, 1, none⟩) from hV 4 (by decide))
     obtain ⟨I2, hI2, H⟩ := Gx.ex hG
     exact L_val hS rfl (Ob_load tC rfl rfl rfl ((H.bx 0 rfl).cell 1 rfl)) ⟨rfl, hG⟩
    ·rw [← hfe]
     have hS := (hfr vals1).sub (ts := [17]) (S' := [(17, vals1 4)]) rfl
     replace hS := hS.conv (t := 17) rfl (show (vals1 4) = .pointer (some ⟨b1, 1, none⟩) from hV 4 (by decide))
     obtain ⟨I2, hI2, H⟩ := Gx.ex hG
     exact L_val hS rfl (Ob_load tC rfl rfl rfl ((H.bx 1 rfl).cell 1 rfl)) ⟨rfl, hG⟩
    ·rw [← hfe]
     have hS := (hfr vals1).sub (ts := [17]) (S' := [(17, vals1 4)]) rfl
     replace hS := hS.conv (t := 17) rfl (show (vals1 4) = .pointer (some ⟨b1, 1, none⟩) from hV 4 (by decide))
     obtain ⟨I2, hI2, H⟩ := Gx.ex hG
     exact L_val hS rfl (Ob_load tC rfl rfl rfl ((H.bx 1 rfl).cell 1 rfl)) ⟨rfl, hG⟩
   refine .cons (fun ss hlo hhi vals1 xw hG hV => ?_) ?_
   ·obtain rfl | rfl | rfl : ss = 0 ∨ ss = 1 ∨ ss = 2 := st2 hlo hhi
    ·rw [← hfe]
     have hS := (hfr vals1).sub (ts := [18]) (S' := [(18, vals1 5)]) rfl
     replace hS := hS.conv (t := 18) rfl (show (vals1 5) = v1_c from hV 5 (by decide))
     obtain ⟨I2, hI2, H⟩ := Gx.ex hG
     exact L_val hS rfl (Ob_slen tC rfl rfl rfl (H.slshape 1 rfl)) ⟨rfl, hG⟩
    ·rw [← hfe]
     have hS := (hfr vals1).sub (ts := [18]) (S' := [(18, vals1 5)]) rfl
     replace hS := hS.conv (t := 18) rfl (show (vals1 5) = v1_c from hV 5 (by decide))
     obtain ⟨I2, hI2, H⟩ := Gx.ex hG
     exact L_val hS rfl (Ob_slen tC rfl rfl rfl (H.slshape 2 rfl)) ⟨rfl, hG⟩
    ·rw [← hfe]
     have hS := (hfr vals1).sub (ts := [18]) (S' := [(18, vals1 5)]) rfl
     replace hS := hS.conv (t := 18) rfl (show (vals1 5) = v1_c from hV 5 (by decide))
     obtain ⟨I2, hI2, H⟩ := Gx.ex hG
     exact L_val hS rfl (Ob_slen tC rfl rfl rfl (H.slshape 2 rfl)) ⟨rfl, hG⟩
   refine .cons (fun ss hlo hhi vals1 xw hG hV => ?_) ?_
   ·obtain rfl : ss = 2 := Nat.le_antisymm hhi hlo
    rw [← hfe]
    have hS := (hfr vals1).sub (ts := [16, 19]) (S' := [(16, vals1 3), (19, vals1 6)]) rfl
    replace hS := hS.conv (t := 16) rfl (show (vals1 3) = .pointer (some ⟨(blkOf (vals1 0)), 0, none⟩) from hV 3 (by decide))
    replace hS := hS.conv (t := 19) rfl (show (vals1 6) = .int .i64 (c.members.length : Int) from hV 6 (by decide))
    obtain ⟨I2, hI2, H⟩ := Gx.ex hG
    refine L_hcall H (js := [(0, false)]) rfl (caps := #[]) hS fn_31_YConf rfl rfl rfl rfl rfl (fun D1 hS => have hq := c_wire_Writer_Num hx4 hS; hq) fun _ yw D1 hr hF2 => ?_
    obtain ⟨rfl, I3, K⟩ := hr
    obtain ⟨hK, H2⟩ := hF2 K
    exact ⟨rfl, Gx.go hG hI2 hK K.imm H2⟩
   refine .cons (fun ss hlo hhi vals1 xw hG hV => ?_) ?_
   ·obtain rfl : ss = 3 := Nat.le_antisymm hhi hlo
    rw [← hfe]
    have hS := (hfr vals1).sub (ts := [20]) (S' := [(20, vals1 7)]) rfl
    replace hS := hS.conv (t := 20) rfl (show (vals1 7) = .pointer (some ⟨(blkOf (vals1 0)), 0, none⟩) from hV 7 (by decide))
    exact L_val hS rfl (Ob_c tC rfl) ⟨rfl, hG⟩
   exact .nil
  ·intro vals1 a w3 Z hG hV
   replace Z := Z.sub (ts := [1, 2, 3, 5]) (S' := [(1, .pointer (some ⟨b1, 0, none⟩)), (2, .string ⟨#[]⟩), (3, .int .i64 0), (5, vals1 8)]) rfl
   replace Z := Z.conv (t := 5) rfl (show (vals1 8) = .pointer (some ⟨(blkOf (vals1 0)), 0, none⟩) from hV 8 (by decide))
   obtain ⟨I2, _, H⟩ := Gx.ex hG
   clear hG hV
   replace Z := Z.sub (ts := [1, 2, 3, 5]) rfl
   replace H : Hf I D w I2 w3 [OEwire_Writer (blkOf (vals1 0)) n0_3, BxC b1 26 [.int .i64 c.epoch, v1_c, .int .u64 c.floor], SlC NEMember v1_c c.members] := H
   refine p_then (wp_seq ?_)
   refine wp_seq (f_region Z ?_); clear Z; intro Z
   refine s_runk tC Z 1 rfl rfl ?_; clear Z a; intro a Z
   refine s_ob Z (v := v1_c) rfl rfl (by decide) rfl (Ob_load tC rfl rfl rfl ((H.bx 1 rfl).cell 1 rfl)) ?_; clear Z a; intro a Z
   refine s_ob Z (v := .int .i64 (c.members.length : Int)) rfl rfl (by decide) rfl (Ob_slen tC rfl rfl rfl (H.slshape 2 rfl)) ?_; clear Z a; intro a Z
   refine s_runk tC Z 1 rfl rfl ?_; clear Z a; intro a Z
   refine s_end Z [1, 2, 3, 5, 22, 23, 24] rfl ?_; clear Z; intro Z
   refine p_then (wp_block ?_)
   refine f_iter hF (fun sg a' w' => match sg with | (x, w0) => Sl 43 [(1, .pointer (some ⟨b1, 0, none⟩)), (2, .string ⟨#[]⟩), (3, .int .i64 0), (5, .pointer (some ⟨(blkOf (vals1 0)), 0, none⟩)), (22, v1_c), (23, .int .i64 (c.members.length : Int)), (24, .int .i64 x)] a' ∧ ∃ I2, Hf I D w I2 w' [BxC b1 26 [.int .i64 c.epoch, v1_c, .int .u64 c.floor], OEwire_Writer (blkOf (vals1 0)) w0, SlC NEMember v1_c c.members]) ⟨Z.sub (ts := [1, 2, 3, 5, 22, 23, 24]) rfl, ⟨I2, (H.sub [(1, false), (0, false), (0, true)] rfl).eq rfl⟩⟩ ?_
   clear Z H hF a
   rintro rc ⟨x, w0⟩ a w4 ⟨Z, I3, H⟩ hF
   unfold F_conf_Put_l1 at hF
   try dsimp only at hF
   refine wp_seq (f_region Z ?_); clear Z; intro Z
   refine s_runk tC Z 1 rfl rfl ?_; clear Z a; intro a Z
   refine s_end Z [1, 2, 3, 5, 22, 23, 24, 25] rfl ?_; clear Z; intro Z
   refine p_then (wp_seq ?_)
   refine f_cond Z rfl (fun hc2 => ?_) (fun hc2 => ?_)
   ·replace hF := ite_t hc2 hF
    refine wp_skip ?_
    refine p_then (wp_seq ?_)
    refine wp_block ?_
    refine wp_seq ?_
    obtain ⟨hg1, hF⟩ := chk_in hF
    refine f_region Z ?_; clear Z; intro Z
    refine s_ob Z (v := .pointer (some ⟨blkOf v1_c, oofOf v1_c + (x).toNat * 2, none⟩)) rfl rfl (by decide) rfl (Ob_sidx tC rfl rfl rfl rfl (slPl (H.sl 2 rfl) hg1) hg1) ?_; clear Z a; intro a Z
    refine s_ob Z (v := .agg #[.int .i64 ((c.members.getD (x).toNat default).id), .int .i64 ((c.members.getD (x).toNat default).serial)]) rfl rfl (by decide) rfl (Ob_loads tC rfl rfl rfl ((slFl (H.sl 2 rfl) hg1).part 0 rfl)) ?_; clear Z a; intro a Z
    refine h_alloc Z H (cl := [.int .i64 0, .int .i64 0]) (z := .agg #[.int .i64 0, .int .i64 0]) rfl rfl rfl (by decide) rfl (by kernel_rfl) rfl ?_; clear Z a H; intro a w5 b2 H Z
    refine h_store tC Z H 0 rfl rfl rfl rfl rfl rfl rfl rfl rfl (one_cons rfl (one_cons rfl one_nil)) (Nat.le_of_ble_eq_true rfl) rfl ?_; clear H; intro w6 H
    dsimp only [List.eraseIdx] at H
    refine s_end Z [1, 2, 3, 5, 22, 23, 24, 25, 26, 27, 7] rfl ?_; clear Z; intro Z
    refine p_then ?_
    obtain ⟨n0_4, hx5, hF⟩ := bnd_in hF
    obtain ⟨n0_5, hx6, hF⟩ := bnd_in hF
    refine f_regionL Z (by kernel_rfl) (by kernel_rfl) (by decide) (by decide) [3, 6] [(0, 0, 0), (0, 0, 0), (2, 0, 0), (7, 0, 0), (0, 0, 1), (16, 0, 1), (63, 1, 1)] (by kernel_rfl) (fun jj vv => match jj with | 0 => vv = .pointer (some ⟨(blkOf (vals1 0)), 0, none⟩) | 1 => vv = .pointer (some ⟨b2, 0, none⟩) | 2 => vv = .int .i64 ((c.members.getD (x).toNat default).id) | 3 => vv = .pointer (some ⟨(blkOf (vals1 0)), 0, none⟩) | 4 => vv = .pointer (some ⟨b2, 1, none⟩) | 5 => vv = .int .i64 ((c.members.getD (x).toNat default).serial) | 6 => vv = .pointer (some ⟨(blkOf (vals1 0)), 0, none⟩) | _ => True) (fun ss vals2 xw => match ss with | 0 => Gx I D w I3 w6 xw [BxC b2 115 [.int .i64 ((c.members.getD (x).toNat default).id), .int .i64 ((c.members.getD (x).toNat default).serial)], BxC b1 26 [.int .i64 c.epoch, v1_c, .int .u64 c.floor], OEwire_Writer (blkOf (vals1 0)) w0, SlC NEMember v1_c c.members] | 1 => Gx I D w I3 w6 xw [OEwire_Writer (blkOf (vals1 0)) n0_4, BxC b2 115 [.int .i64 ((c.members.getD (x).toNat default).id), .int .i64 ((c.members.getD (x).toNat default).serial)], BxC b1 26 [.int .i64 c.epoch, v1_c, .int .u64 c.floor], SlC NEMember v1_c c.members] | _ => Gx I D w I3 w6 xw [OEwire_Writer (blkOf (vals1 0)) n0_5, BxC b2 115 [.int .i64 ((c.members.getD (x).toNat default).id), .int .i64 ((c.members.getD (x).toNat default).serial)], BxC b1 26 [.int .i64 c.epoch, v1_c, .int .u64 c.floor], SlC NEMember v1_c c.members]) (fun _ => Gx.start H) ?_ ?_
    ·intro fr hfr hfe
     refine .cons (fun ss hlo hhi vals2 xw hG hV => ?_) ?_
     ·obtain rfl : ss = 0 := Nat.le_antisymm hhi hlo
      rw [← hfe]
      have hS := (hfr vals2).sub (ts := [5]) (S' := [(5, .pointer (some ⟨(blkOf (vals1 0)), 0, none⟩))]) rfl
      exact L_val hS rfl (Ob_c tC rfl) ⟨rfl, hG⟩
     refine .cons (fun ss hlo hhi vals2 xw hG hV => ?_) ?_
     ·obtain rfl : ss = 0 := Nat.le_antisymm hhi hlo
      rw [← hfe]
      have hS := (hfr vals2).sub (ts := [7]) (S' := [(7, .pointer (some ⟨b2, 0, none⟩))]) rfl
      exact L_val hS rfl (Ob_c tC rfl) ⟨rfl, hG⟩
     refine .cons (fun ss hlo hhi vals2 xw hG hV => ?_) ?_
     ·obtain rfl : ss = 0 := Nat.le_antisymm hhi hlo
      rw [← hfe]
      have hS := (hfr vals2).sub (ts := [29]) (S' := [(29, vals2 1)]) rfl
      replace hS := hS.conv (t := 29) rfl (show (vals2 1) = .pointer (some ⟨b2, 0, none⟩) from hV 1 (by decide))
      obtain ⟨I2, hI2, H⟩ := Gx.ex hG
      exact L_val hS rfl (Ob_load tC rfl rfl rfl ((H.bx 0 rfl).cell 0 rfl)) ⟨rfl, hG⟩
     refine .cons (fun ss hlo hhi vals2 xw hG hV => ?_) ?_
     ·obtain rfl : ss = 0 := Nat.le_antisymm hhi hlo
      rw [← hfe]
      have hS := (hfr vals2).sub (ts := [28, 30]) (S' := [(28, vals2 0), (30, vals2 2)]) rfl
      replace hS := hS.conv (t := 28) rfl (show (vals2 0) = .pointer (some ⟨(blkOf (vals1 0)), 0, none⟩) from hV 0 (by decide))
      replace hS := hS.conv (t := 30) rfl (show (vals2 2) = .int .i64 ((c.members.getD (x).toNat default).id) from hV 2 (by decide))
      obtain ⟨I2, hI2, H⟩ := Gx.ex hG
      refine L_hcall H (js := [(2, false)]) rfl (caps := #[]) hS fn_31_YConf rfl rfl rfl rfl rfl (fun D1 hS => have hq := c_wire_Writer_Num hx5 hS; hq) fun _ yw D1 hr hF2 => ?_
      obtain ⟨rfl, I3, K⟩ := hr
      obtain ⟨hK, H2⟩ := hF2 K
      exact ⟨rfl, Gx.go hG hI2 hK K.imm H2⟩
     refine .cons (fun ss hlo hhi vals2 xw hG hV => ?_) ?_
     ·obtain rfl | rfl : ss = 0 ∨ ss = 1 := st1 hlo hhi
      all_goals
      ·rw [← hfe]
       have hS := (hfr vals2).sub (ts := [7]) (S' := [(7, .pointer (some ⟨b2, 0, none⟩))]) rfl
       exact L_val hS rfl (Ob_c tC rfl) ⟨rfl, hG⟩
     refine .cons (fun ss hlo hhi vals2 xw hG hV => ?_) ?_
     ·obtain rfl | rfl : ss = 0 ∨ ss = 1 := st1 hlo hhi
      ·rw [← hfe]
       have hS := (hfr vals2).sub (ts := [32]) (S' := [(32, vals2 4)]) rfl
       replace hS := hS.conv (t := 32) rfl (show (vals2 4) = .pointer (some ⟨b2, 1, none⟩) from hV 4 (by decide))
       obtain ⟨I2, hI2, H⟩ := Gx.ex hG
       exact L_val hS rfl (Ob_load tC rfl rfl rfl ((H.bx 0 rfl).cell 1 rfl)) ⟨rfl, hG⟩
      ·rw [← hfe]
       have hS := (hfr vals2).sub (ts := [32]) (S' := [(32, vals2 4)]) rfl
       replace hS := hS.conv (t := 32) rfl (show (vals2 4) = .pointer (some ⟨b2, 1, none⟩) from hV 4 (by decide))
       obtain ⟨I2, hI2, H⟩ := Gx.ex hG
       exact L_val hS rfl (Ob_load tC rfl rfl rfl ((H.bx 1 rfl).cell 1 rfl)) ⟨rfl, hG⟩
     refine .cons (fun ss hlo hhi vals2 xw hG hV => ?_) ?_
     ·obtain rfl : ss = 1 := Nat.le_antisymm hhi hlo
      rw [← hfe]
      have hS := (hfr vals2).sub (ts := [31, 33]) (S' := [(31, vals2 3), (33, vals2 5)]) rfl
      replace hS := hS.conv (t := 31) rfl (show (vals2 3) = .pointer (some ⟨(blkOf (vals1 0)), 0, none⟩) from hV 3 (by decide))
      replace hS := hS.conv (t := 33) rfl (show (vals2 5) = .int .i64 ((c.members.getD (x).toNat default).serial) from hV 5 (by decide))
      obtain ⟨I2, hI2, H⟩ := Gx.ex hG
      refine L_hcall H (js := [(0, false)]) rfl (caps := #[]) hS fn_31_YConf rfl rfl rfl rfl rfl (fun D1 hS => have hq := c_wire_Writer_Num hx6 hS; hq) fun _ yw D1 hr hF2 => ?_
      obtain ⟨rfl, I3, K⟩ := hr
      obtain ⟨hK, H2⟩ := hF2 K
      exact ⟨rfl, Gx.go hG hI2 hK K.imm H2⟩
     exact .nil
    ·intro vals2 a w7 Z hG hV
     replace Z := Z.sub (ts := [1, 2, 3, 5, 22, 23, 24, 25, 26, 27, 7, 28, 29, 30, 31, 32, 33]) (S' := [(1, .pointer (some ⟨b1, 0, none⟩)), (2, .string ⟨#[]⟩), (3, .int .i64 0), (5, .pointer (some ⟨(blkOf (vals1 0)), 0, none⟩)), (22, v1_c), (23, .int .i64 (c.members.length : Int)), (24, .int .i64 x), (25, .bool (decide (x < (c.members.length : Int)))), (26, .pointer (some ⟨blkOf v1_c, oofOf v1_c + (x).toNat * 2, none⟩)), (27, .agg #[.int .i64 ((c.members.getD (x).toNat default).id), .int .i64 ((c.members.getD (x).toNat default).serial)]), (7, .pointer (some ⟨b2, 0, none⟩)), (28, vals2 0), (29, vals2 1), (30, vals2 2), (31, vals2 3), (32, vals2 4), (33, vals2 5)]) rfl
     replace Z := Z.conv (t := 28) rfl (show (vals2 0) = .pointer (some ⟨(blkOf (vals1 0)), 0, none⟩) from hV 0 (by decide))
     replace Z := Z.conv (t := 29) rfl (show (vals2 1) = .pointer (some ⟨b2, 0, none⟩) from hV 1 (by decide))
     replace Z := Z.conv (t := 30) rfl (show (vals2 2) = .int .i64 ((c.members.getD (x).toNat default).id) from hV 2 (by decide))
     replace Z := Z.conv (t := 31) rfl (show (vals2 3) = .pointer (some ⟨(blkOf (vals1 0)), 0, none⟩) from hV 3 (by decide))
     replace Z := Z.conv (t := 32) rfl (show (vals2 4) = .pointer (some ⟨b2, 1, none⟩) from hV 4 (by decide))
     replace Z := Z.conv (t := 33) rfl (show (vals2 5) = .int .i64 ((c.members.getD (x).toNat default).serial) from hV 5 (by decide))
     obtain ⟨I4, _, H⟩ := Gx.ex hG
     clear hG hV
     replace Z := Z.sub (ts := [1, 2, 3, 5, 22, 23, 24, 25, 26, 27, 7, 28, 29, 30, 31, 32, 33]) rfl
     replace H : Hf I D w I4 w7 [OEwire_Writer (blkOf (vals1 0)) n0_5, BxC b2 115 [.int .i64 ((c.members.getD (x).toNat default).id), .int .i64 ((c.members.getD (x).toNat default).serial)], BxC b1 26 [.int .i64 c.epoch, v1_c, .int .u64 c.floor], SlC NEMember v1_c c.members] := H
     refine p_blk ?_
     refine p_then ?_
     obtain ⟨hg2, hF⟩ := chk_in hF
     refine f_region Z ?_; clear Z; intro Z
     refine s_ob Z (v := .int .i64 (x + 1)) rfl rfl (by decide) rfl (Ob_add rfl rfl rfl (wrI hg2)) ?_; clear Z a; intro a Z
     refine s_runk tC Z 1 rfl rfl ?_; clear Z a; intro a Z
     refine s_end Z [1, 2, 3, 5, 22, 23, 24, 25, 26, 27, 7, 28, 29, 30, 31, 32, 33, 35] rfl ?_; clear Z; intro Z
     refine p_then ?_
     exact ⟨(x + 1, n0_5), ⟨Z.sub (ts := [1, 2, 3, 5, 22, 23, 24]) rfl, ⟨I4, (H.sub [(2, false), (0, false), (1, true)] rfl).eq rfl⟩⟩, hF⟩
   ·replace hF := ite_f hc2 hF
    refine wp_exit ?_
    refine p_then_x ?_
    refine p_then_x ?_
    refine f_exit_here ?_
    refine p_then (wp_seq ?_)
    obtain ⟨b, hx7, hF⟩ := bnd_in hF
    obtain ⟨d, hx8, hF⟩ := bnd_in hF
    refine f_region Z ?_; clear Z; intro Z
    refine s_runk tC Z 2 rfl rfl ?_; clear Z a; intro a Z
    refine s_ob Z (v := .int .u64 c.floor) rfl rfl (by decide) rfl (Ob_load tC rfl rfl rfl ((H.bx 0 rfl).cell 2 rfl)) ?_; clear Z a; intro a Z
    refine h_call Z H (js := [(1, false)]) rfl (caps := #[]) fn_35_YConf rfl rfl rfl rfl rfl (by decide) rfl rfl (fun D1 hS => have hq := c_wire_Writer_Big hx7 hS; hq) ?_; clear Z a; intro vv a w8 D2 hr hF2 Z
    obtain ⟨rfl, I5, K⟩ := hr
    have H : Hf I D w I5 w8 [OEwire_Writer (blkOf (vals1 0)) b, BxC b1 26 [.int .i64 c.epoch, v1_c, .int .u64 c.floor], SlC NEMember v1_c c.members] := hF2 K
    clear hF2 K
    refine h_call Z H (js := [(0, false)]) rfl (caps := #[]) fn_36_YConf rfl rfl rfl rfl rfl (by decide) rfl rfl (fun D1 hS => have hq := c_wire_Writer_Done hx8 hS; hq) ?_; clear Z a; intro vv a w9 D2 hr hF2 Z
    obtain ⟨rfl, I6, K⟩ := hr
    have H : Hf I D w I6 w9 [BxC b1 26 [.int .i64 c.epoch, v1_c, .int .u64 c.floor], SlC NEMember v1_c c.members] := hF2 K
    clear hF2 K
    refine s_runk tC Z 4 rfl rfl ?_; clear Z a; intro a Z
    refine s_end Z [2, 3] rfl ?_; clear Z; intro Z
    refine p_then (wp_ret ?_)
    obtain rfl := some_in hF
    exact f_ret Z (run_results2 rfl Z rfl rfl) ⟨rfl, I6, (H.sub [] rfl).eq rfl⟩

end Go.Proofs.Ytbfglbbbkcpgeaa
