/- What a replica knows: the program's state. -/
import Derived.Test.YtglfajjcgbfehaaGreatYTn
import Derived.Test.YtglfajjcgbfehaaGreatYRv
namespace Go.Proofs.YtglfajjcgbfehaaGreat
open Go.RowKit
structure Erstate_State where
 log : Option Erlog_Log
 conf : EConf
 horizon : Int

instance : Inhabited Erstate_State := ⟨⟨none, default, 0⟩⟩

def cErstate_State (x : Erstate_State) (v0 : Value) (v1 : Value) : List Value := [v0, .int .i64 x.conf.epoch, v1, .int .u64 x.conf.floor, .int .u64 x.horizon]

def OErstate_State (b : Nat) (x : Erstate_State) : Ch := ExC fun (p : Value × Value) => [BxC b 68 (cErstate_State x p.1 p.2), PtC OErlog_Log p.1 x.log, SlC NEMember p.2 x.conf.members]

def tRfL : TabL := ⟨[(31744, 0), (31745, 1), (43010, 2), (45056, 0), (45057, 3), (51200, 0), (51201, 1), (51202, 2), (51203, 3), (51205, 7), (69632, 0), (69633, 1), (69634, 4)], [], [], [(28, (109, 2))], [(3, (1, false)), (28, (1, false)), (29, (1, false)), (31, (3, true)), (40, (1, false)), (44, (4, true)), (50, (18, true)), (65, (1, false)), (68, (5, true)), (116, (1, false))]⟩

def tRf : Tab Tryz.prog := ⟨tRfL, by kernel_rfl⟩

theorem fn_17_YRf : IsFn Tryz.prog 17 := ⟨_, Tryz.func17, by kernel_rfl, by kernel_rfl⟩

theorem fn_18_YRf : IsFn Tryz.prog 18 := ⟨_, Tryz.func18, by kernel_rfl, by kernel_rfl⟩

theorem fn_19_YRf : IsFn Tryz.prog 19 := ⟨_, Tryz.func19, by kernel_rfl, by kernel_rfl⟩

theorem fn_20_YRf : IsFn Tryz.prog 20 := ⟨_, Tryz.func20, by kernel_rfl, by kernel_rfl⟩

theorem fn_21_YRf : IsFn Tryz.prog 21 := ⟨_, Tryz.func21, by kernel_rfl, by kernel_rfl⟩

theorem fn_22_YRf : IsFn Tryz.prog 22 := ⟨_, Tryz.func22, by kernel_rfl, by kernel_rfl⟩

theorem fn_23_YRf : IsFn Tryz.prog 23 := ⟨_, Tryz.func23, by kernel_rfl, by kernel_rfl⟩

theorem fn_24_YRf : IsFn Tryz.prog 24 := ⟨_, Tryz.func24, by kernel_rfl, by kernel_rfl⟩

theorem fn_44_YRf : IsFn Tryz.prog 44 := ⟨_, Tryz.func44, by kernel_rfl, by kernel_rfl⟩

theorem fn_45_YRf : IsFn Tryz.prog 45 := ⟨_, Tryz.func45, by kernel_rfl, by kernel_rfl⟩

theorem fn_49_YRf : IsFn Tryz.prog 49 := ⟨_, Tryz.func49, by kernel_rfl, by kernel_rfl⟩

theorem fn_55_YRf : IsFn Tryz.prog 55 := ⟨_, Tryz.func55, by kernel_rfl, by kernel_rfl⟩

theorem fn_56_YRf : IsFn Tryz.prog 56 := ⟨_, Tryz.func56, by kernel_rfl, by kernel_rfl⟩

theorem fn_57_YRf : IsFn Tryz.prog 57 := ⟨_, Tryz.func57, by kernel_rfl, by kernel_rfl⟩

theorem fn_75_YRf : IsFn Tryz.prog 75 := ⟨_, Tryz.func75, by kernel_rfl, by kernel_rfl⟩

theorem E_28_YRf : Elem Tryz.prog 28 109 2 16 := ⟨Tryz.underlying28, by
 have h : (Tryz.prog.info? 109).map (fun i => (i.zero, i.size, i.bytes)) = some (some (.agg #[.int .i64 0, .int .i64 0]), 2, 16) := by kernel_rfl
 obtain ⟨i, hi, h1⟩ := Option.map_eq_some_iff.1 h
 simp only [Prod.mk.injEq] at h1
 exact ⟨i, _, hi, h1.1, h1.2.1, h1.2.2, by rfl⟩, by decide⟩

def F_slices_Clone_api_Member_api_Member (s0 : List EMember) : Option (List EMember) := chk (((([] : List EMember).length + s0.length : Nat) : Int) * 16 ≤ 140737488355328) (some s0)

theorem c_slices_Clone_api_Member_api_Member {I D : Dm} {v_s0 : Value} {s0 : List EMember} {w : World} {rr : List EMember} (hF : F_slices_Clone_api_Member_api_Member s0 = some rr) (H : St I D w [SlC NEMember v_s0 s0]) :
  Calls Tryz.prog 55 #[v_s0] w (Ret fun vv w' => ∃ q1 : Value, vv = q1 ∧ ∃ I', Hf I D w I' w' [OwC NEMember 109 q1 rr]) := by
 replace H := H.hf
 unfold F_slices_Clone_api_Member_api_Member at hF
 obtain ⟨hg, hF⟩ := chk_in hF
 obtain rfl := some_in hF
 obtain ⟨ao, cap, rfl, _, _⟩ := H.slshape 0 rfl
 refine f_enter 8 Tryz.func55 rfl rfl (Nat.le_of_ble_eq_true rfl) fun a Z => ?_
 replace Z := Z.sub (ts := [0]) rfl
 refine sR Z fun Z => ?_
 refine s_runk tRf Z 1 rfl rfl fun a Z => ?_
 refine s_end Z [0, 2] rfl fun Z => ?_
 refine p_then (wp_seq ?_)
 refine sR Z fun Z => ?_
 refine s_runk tRf Z 1 rfl rfl fun a Z => ?_
 refine sO Z (vT ao.isNone) rfl (Ob_bin rfl rfl rfl (eqg_sl _ _ _ _ _ _ _ _ _ _ _) (run_eql_slice_nil' Tryz.underlying28 _ _ _ _)) fun a Z => ?_
 refine s_end Z [0, 2, 4] rfl fun Z => ?_
 refine p_then ?_
 refine f_cond Z rfl (fun hc1 => ?_) (fun hc1 => ?_)
 ·have e := (H.sl 0 rfl).isNone hc1
  subst e
  refine sR Z fun Z => ?_
  refine s_runk tRf Z 1 rfl rfl fun a Z => ?_
  refine s_end Z [0, 2] rfl fun Z => ?_
  refine p_then (wp_ret ?_)
  refine p_then_r ?_
  exact f_ret Z (run_results1 rfl Z rfl) ⟨_, rfl, I, ((H.nilow NEMember 109).sub [(0, false)] rfl).eq rfl⟩
 ·refine wp_skip ?_
  refine pR Z fun Z => ?_
  refine h_bslice Z H (vs := []) (cl := []) (e := 109) rfl rfl rfl (by decide) rfl rfl (fun w => run_bslice (z := .agg #[vI 0, vI 0]) (m := 2) Tryz.underlying28 (by kernel_rfl) rfl rfl (by decide) (by simp [Instr.fill, Value.cells]) w) fun a w1 b1 H Z => ?_
  refine s_runk tRf Z 1 rfl rfl fun a Z => ?_
  replace H : Hf I D w I w1 [OwC NEMember 109 (.slice (some ⟨b1, 0, none⟩) 0 0) [], SlC NEMember (.slice ao s0.length cap) s0] := H.emptyow 0 rfl NEMember
  refine h_appO Z H 0 E_28_YRf s0 rfl rfl rfl rfl rfl (by decide) rfl rfl rfl (H.sl2 1 rfl) hg (by decide) fun v1 a w2 H Z => ?_
  refine s_runk tRf Z 1 rfl rfl fun a Z => ?_
  refine s_end Z [2] rfl fun Z => ?_
  refine p_then (wp_ret ?_)
  exact f_ret Z (run_results1 rfl Z rfl) ⟨_, rfl, I, (H.sub [(0, false)] rfl).eq rfl⟩

def F_rstate_New : Option Erstate_State := (F_rlog_New).bind fun n0 => (some ({ (default : Erstate_State) with log := some n0 } : Erstate_State))

set_option maxHeartbeats 1000000 in
theorem c_rstate_New {I D : Dm} {w : World} {rr : Erstate_State} (hF : F_rstate_New = some rr) (H : St I D w []) :
  Calls Tryz.prog 7 #[] w (Ret fun vv w' => ∃ g1 : Nat, vv = pp g1 0 ∧ ∃ I', Hf I D w I' w' [OErstate_State g1 rr]) := by
 replace H := H.hf
 unfold F_rstate_New at hF
 refine f_enter 4 Tryz.func7 rfl rfl (Nat.le_of_ble_eq_true rfl) fun a Z => ?_
 replace Z := Z.sub (ts := []) rfl
 refine sR Z fun Z => ?_
 refine s_runk tRf Z 1 rfl rfl fun a Z => ?_
 refine s_end Z [] rfl fun Z => ?_
 refine p_then (wp_seq ?_)
 obtain ⟨n0, hx1, hF⟩ := bnd_in hF
 refine f_region Z fun Z => ?_
 refine hC Z H [] rfl #[] fn_18_YRf rfl rfl (fun D h => have q := d_rlog_New hx1 h; q) fun vv a w1 D2 hr hF2 Z => ?_
 obtain ⟨g1, rfl, I1, K⟩ := hr
 have H := (hF2 K).nf rfl
 refine sO Z (.agg #[pp g1 0, vI 0, nS, vU 0, vU 0]) rfl (Ob_build (vs := [(0, pp g1 0)]) rfl rfl (by go_simp <;> rfl)) fun a Z => ?_
 refine hB Z H [pp g1 0, vI 0, nS, vU 0, vU 0] rfl rfl rfl rfl fun a w2 b1 H Z => ?_
 refine s_runk tRf Z 1 rfl rfl fun a Z => ?_
 refine s_end Z [0] rfl fun Z => ?_
 refine p_then (wp_ret ?_)
 replace H := (H.mkS (K := OErlog_Log) 1 rfl).nf rfl
 replace H := H.slNil NEMember
 replace H := H.sX (OErstate_State b1 ({ (default : Erstate_State) with log := some n0 } : Erstate_State)) (pp g1 0, nS) [(2, false), (1, false), (0, true)] rfl rfl rfl
 obtain rfl := some_in hF
 exact f_ret Z (run_results1 rfl Z rfl) ⟨b1, rfl, I1, (H.sub [(0, false)] rfl).eq rfl⟩

def F_rstate_State_none (s0 : Erstate_State) : Option Bool := some s0.log.isNone

set_option maxHeartbeats 1000000 in
theorem c_rstate_State_none {I D : Dm} {b_s0 : Nat} {s0 : Erstate_State} {w : World} {rr : Bool} (hF : F_rstate_State_none s0 = some rr) (H : St I D w [OErstate_State b_s0 s0]) :
  Calls Tryz.prog 19 #[pp b_s0 0] w (Ret fun vv w' => vv = vT rr ∧ ∃ I', Hf I D w I' w' [OErstate_State b_s0 s0]) := by
 replace H := H.hf
 unfold F_rstate_State_none at hF
 refine f_enter 12 Tryz.func19 rfl rfl (Nat.le_of_ble_eq_true rfl) fun a Z => ?_
 replace Z := Z.sub (ts := [0]) rfl
 refine sR Z fun Z => ?_
 refine s_runk tRf Z 1 rfl rfl fun a Z => ?_
 refine s_end Z [0] rfl fun Z => ?_
 refine pR Z fun Z => ?_
 refine s_runk tRf Z 1 rfl rfl fun a Z => ?_
 refine sO Z (vT false) rfl (Ob_pnil rfl rfl rfl Tryz.underlying25 (.inl ⟨rfl, rfl⟩)) fun a Z => ?_
 refine s_runk tRf Z 1 rfl rfl fun a Z => ?_
 refine g_if Z rfl rfl rfl (p := true) rfl rfl (by decide) (fun _ => ?_) (fun h => by cases h)
 refine s_runk tRf Z 1 rfl rfl fun a Z => ?_
 refine g_if Z rfl rfl rfl (p := true) rfl rfl (by decide) (fun _ => ?_) (fun h => by cases h)
 refine s_runk tRf Z 1 rfl rfl fun a Z => ?_
 refine g_if Z rfl rfl rfl (p := true) rfl rfl (by decide) (fun _ => ?_) (fun h => by cases h)
 refine s_runk tRf Z 1 rfl rfl fun a Z => ?_
 refine g_if Z rfl rfl rfl (p := true) rfl rfl (by decide) (fun _ => ?_) (fun h => by cases h)
 obtain ⟨⟨v1, v2⟩, H⟩ := H.openX 0 rfl
 replace H := H.nf rfl; try dsimp only at H
 refine sO Z _ rfl (oL tRf rfl rfl (H.bc 0 0 rfl rfl)) fun a Z => ?_
 refine g_if Z rfl rfl rfl (p := true) rfl rfl (by decide) (fun _ => ?_) (fun h => by cases h)
 refine sO Z (vT s0.log.isNone) rfl (Ob_popt (q := s0.log) rfl rfl rfl Tryz.underlying65 (H.optI 1 rfl) (.inl ⟨rfl, rfl⟩)) fun a Z => ?_
 refine sO Z (vT s0.log.isNone) rfl (Ob_pick rfl rfl rfl rfl rfl) fun a Z => ?_
 refine s_runk tRf Z 1 rfl rfl fun a Z => ?_
 refine s_end Z [2] rfl fun Z => ?_
 refine p_then (wp_ret ?_)
 replace H := H.sX (OErstate_State b_s0 s0) (v1, v2) [(0, false), (0, false), (0, true)] rfl rfl rfl
 obtain rfl := some_in hF
 exact f_ret Z (run_results1 rfl Z rfl) ⟨rfl, I, (H.sub [(0, false)] rfl).eq rfl⟩

def F_rstate_own (c : EConf) : Option EConf := (F_slices_Clone_api_Member_api_Member c.members).bind fun m => (some ({ c with members := m } : EConf))

set_option maxHeartbeats 1000000 in
theorem c_rstate_own {I D : Dm} {c : EConf} {v1_c : Value} {w : World} {rr : EConf} (hF : F_rstate_own c = some rr) (H : St I D w [SlC NEMember v1_c c.members]) :
  Calls Tryz.prog 21 #[.agg #[vI c.epoch, v1_c, vU c.floor]] w (Ret fun vv w' => ∃ q1 : Value, vv = .agg #[vI rr.epoch, q1, vU rr.floor] ∧ ∃ I', Hf I D w I' w' [OwC NEMember 109 q1 rr.members]) := by
 replace H := H.hf
 unfold F_rstate_own at hF
 refine f_enter 8 Tryz.func21 rfl rfl (Nat.le_of_ble_eq_true rfl) fun a Z => ?_
 replace Z := Z.sub (ts := [0]) rfl
 refine sR Z fun Z => ?_
 refine hB Z H [vI c.epoch, v1_c, vU c.floor] rfl rfl rfl rfl fun a w1 b1 H Z => ?_
 refine hA Z H [vI 0, nS, vU 0] rfl rfl (by kernel_rfl) fun a w2 b2 H Z => ?_
 refine s_end Z [1, 2] rfl fun Z => ?_
 refine p_then (wp_seq ?_)
 obtain ⟨m, hx1, hF⟩ := bnd_in hF
 refine f_region Z fun Z => ?_
 refine s_runk tRf Z 1 rfl rfl fun a Z => ?_
 refine sO Z _ rfl (oL tRf rfl rfl (H.bc 1 1 rfl rfl)) fun a Z => ?_
 refine hC Z H [(2, true)] rfl #[] fn_55_YRf rfl rfl (fun D h => have q := c_slices_Clone_api_Member_api_Member hx1 h; q) fun vv a w3 D2 hr hF2 Z => ?_
 obtain ⟨q1, hvv, I1, K⟩ := hr; obtain rfl := hvv.symm
 have H := (hF2 K).nf rfl
 refine s_runk tRf Z 1 rfl rfl fun a Z => ?_
 refine hT tRf Z H 2 rfl rfl (slS.cells (H.owshape 0 rfl)) rfl rfl (one_cons (slS.one (H.owshape 0 rfl)) one_nil) (Nat.le_of_ble_eq_true rfl) rfl fun w4 H => ?_
 dsimp only [List.eraseIdx] at H
 refine s_end Z [1, 2] rfl fun Z => ?_
 refine pR Z fun Z => ?_
 refine sO Z (.agg #[vI c.epoch, q1, vU c.floor]) rfl (oA tRf rfl rfl ((H.bx 0 rfl).part 0 rfl)) fun a Z => ?_
 refine hT tRf Z H 2 rfl rfl rfl rfl rfl (one_cons rfl (one_cons (slS.one (H.owshape 1 rfl)) (one_cons rfl one_nil))) (Nat.le_of_ble_eq_true rfl) rfl fun w5 H => ?_
 dsimp only [List.eraseIdx] at H
 refine s_end Z [2] rfl fun Z => ?_
 refine p_then (wp_ret ?_)
 obtain rfl := some_in hF
 exact f_ret Z (run_resultsC rfl Z rfl (run_loadVar_agg tRf rfl (H.bx 0 rfl).at)) ⟨q1, rfl, I1, (H.sub [(2, false)] rfl).eq rfl⟩

def F_rlog_Log_none_nil : Option Bool := some true

set_option maxHeartbeats 1000000 in
theorem c_rlog_Log_none_nil {I D : Dm} {w : World} {rr : Bool} (hF : F_rlog_Log_none_nil = some rr) (H : St I D w []) :
  Calls Tryz.prog 56 #[nP] w (Ret fun vv w' => vv = vT rr ∧ ∃ I', Hf I D w I' w' []) := by
 replace H := H.hf
 unfold F_rlog_Log_none_nil at hF
 refine f_enter 12 Tryz.func56 rfl rfl (Nat.le_of_ble_eq_true rfl) fun a Z => ?_
 replace Z := Z.sub (ts := [0]) rfl
 refine sR Z fun Z => ?_
 refine s_runk tRf Z 1 rfl rfl fun a Z => ?_
 refine s_end Z [0] rfl fun Z => ?_
 refine pR Z fun Z => ?_
 refine s_runk tRf Z 1 rfl rfl fun a Z => ?_
 refine sO Z (vT true) rfl (Ob_pnil rfl rfl rfl Tryz.underlying65 (.inl ⟨rfl, rfl⟩)) fun a Z => ?_
 refine s_runk tRf Z 1 rfl rfl fun a Z => ?_
 refine g_if Z rfl rfl rfl (p := false) rfl rfl (by decide) (fun h => by cases h) fun _ a Z => ?_
 refine g_if Z rfl rfl rfl (p := false) rfl rfl (by decide) (fun h => by cases h) fun _ a Z => ?_
 refine g_if Z rfl rfl rfl (p := false) rfl rfl (by decide) (fun h => by cases h) fun _ a Z => ?_
 refine g_if Z rfl rfl rfl (p := false) rfl rfl (by decide) (fun h => by cases h) fun _ a Z => ?_
 refine g_if Z rfl rfl rfl (p := false) rfl rfl (by decide) (fun h => by cases h) fun _ a Z => ?_
 refine sO Z (vT true) rfl (Ob_pick rfl rfl rfl rfl rfl) fun a Z => ?_
 refine s_runk tRf Z 1 rfl rfl fun a Z => ?_
 refine s_end Z [2] rfl fun Z => ?_
 refine p_then (wp_ret ?_)
 obtain rfl := some_in hF
 exact f_ret Z (run_results1 rfl Z rfl) ⟨rfl, I, (H.sub [] rfl).eq rfl⟩

def F_rlog_Log_may_nil (i : Int) (e : EEntry) : Option Int := none

set_option maxHeartbeats 1000000 in
theorem c_rlog_Log_may_nil {I D : Dm} {i : Int} {e : EEntry} {v1_e : Value} {w : World} {rr : Int} (hF : F_rlog_Log_may_nil i e = some rr) (H : St I D w [SlC NEOp v1_e e.batch.ops]) :
  Calls Tryz.prog 57 #[nP, vI i, .agg (cEEntry e v1_e).toArray] w (Ret fun vv w' => vv = vI rr ∧ ∃ I', Hf I D w I' w' []) := by
 replace H := H.hf
 unfold F_rlog_Log_may_nil at hF
 refine f_enter 77 Tryz.func57 rfl rfl (Nat.le_of_ble_eq_true rfl) fun a Z => ?_
 replace Z := Z.sub (ts := [0, 1, 2]) rfl
 refine sR Z fun Z => ?_
 refine h_boxv Z H (cl := (cEEntry e v1_e)) rfl rfl rfl (by decide) rfl rfl rfl fun a w1 b1 H Z => ?_
 refine s_runk tRf Z 1 rfl rfl fun a Z => ?_
 refine s_end Z [0, 1, 5] rfl fun Z => ?_
 refine p_then (wp_seq ?_)
 refine wp_seq ?_
 cases hF

def F_rlog_Log_Set_nil (i : Int) (e : EEntry) : Option Int := (F_rlog_Log_none_nil).bind fun n0 => (if (n0) = true then (some 8) else ((F_rlog_Log_may_nil i e).bind fun n0_2 => (if (n0_2 != 0) = true then (some n0_2) else (none))))

set_option maxHeartbeats 1000000 in
theorem c_rlog_Log_Set_nil {I D : Dm} {i : Int} {e : EEntry} {v1_e : Value} {w : World} {rr : Int} (hF : F_rlog_Log_Set_nil i e = some rr) (H : St I D w [SlC NEOp v1_e e.batch.ops]) :
  Calls Tryz.prog 22 #[nP, vI i, .agg (cEEntry e v1_e).toArray] w (Ret fun vv w' => vv = vI rr ∧ ∃ I', Hf I D w I' w' []) := by
 replace H := H.hf
 unfold F_rlog_Log_Set_nil at hF
 refine f_enter 107 Tryz.func22 rfl rfl (Nat.le_of_ble_eq_true rfl) fun a Z => ?_
 replace Z := Z.sub (ts := [0, 1, 2]) rfl
 refine sR Z fun Z => ?_
 refine h_boxv Z H (cl := (cEEntry e v1_e)) rfl rfl rfl (by decide) rfl rfl rfl fun a w1 b1 H Z => ?_
 refine s_runk tRf Z 1 rfl rfl fun a Z => ?_
 refine s_end Z [0, 1, 5] rfl fun Z => ?_
 refine p_then (wp_seq ?_)
 refine wp_seq ?_
 obtain ⟨n0, hx1, hF⟩ := bnd_in hF
 refine f_region Z fun Z => ?_
 refine s_runk tRf Z 1 rfl rfl fun a Z => ?_
 refine hC Z H [] rfl #[] fn_56_YRf rfl rfl (fun D h => have q := c_rlog_Log_none_nil hx1 h; q) fun vv a w2 D2 hr hF2 Z => ?_
 obtain ⟨rfl, I1, K⟩ := hr
 have H := (hF2 K).nf rfl
 refine s_end Z [0, 1, 5, 10] rfl fun Z => ?_
 refine p_then ?_
 refine f_cond Z rfl (fun hc1 => ?_) (fun hc1 => ?_)
 ·replace hF := ite_t hc1 hF
  refine sR Z fun Z => ?_
  refine s_runk tRf Z 1 rfl rfl fun a Z => ?_
  refine s_end Z [6] rfl fun Z => ?_
  refine p_then (wp_ret ?_)
  refine p_then_r ?_
  obtain rfl := some_in hF
  exact f_ret Z (run_results1 rfl Z rfl) ⟨rfl, I1, (H.sub [] rfl).eq rfl⟩
 ·replace hF := ite_f hc1 hF
  refine wp_skip ?_
  refine p_then (wp_seq ?_)
  refine wp_seq ?_
  obtain ⟨n0_2, hx2, hF⟩ := bnd_in hF
  refine f_region Z fun Z => ?_
  refine s_runk tRf Z 2 rfl rfl fun a Z => ?_
  refine sO Z (.agg (cEEntry e v1_e).toArray) rfl (oA tRf rfl rfl ((H.bx 0 rfl).part 0 rfl)) fun a Z => ?_
  refine hC Z H [(1, true)] rfl #[] fn_57_YRf rfl rfl (fun D h => have q := c_rlog_Log_may_nil hx2 h; q) fun vv a w3 D2 hr hF2 Z => ?_
  obtain ⟨rfl, I2, K⟩ := hr
  have H := (hF2 K).nf rfl
  refine s_runk tRf Z 1 rfl rfl fun a Z => ?_
  refine s_end Z [0, 1, 5, 7] rfl fun Z => ?_
  refine pR Z fun Z => ?_
  refine s_runk tRf Z 2 rfl rfl fun a Z => ?_
  refine s_end Z [0, 1, 5, 7, 16] rfl fun Z => ?_
  refine p_then ?_
  refine f_cond Z rfl (fun hc2 => ?_) (fun hc2 => ?_)
  ·replace hF := ite_t hc2 hF
   refine sR Z fun Z => ?_
   refine s_runk tRf Z 2 rfl rfl fun a Z => ?_
   refine s_end Z [6] rfl fun Z => ?_
   refine p_then (wp_ret ?_)
   refine p_then_r ?_
   obtain rfl := some_in hF
   exact f_ret Z (run_results1 rfl Z rfl) ⟨rfl, I2, (H.sub [] rfl).eq rfl⟩
  ·replace hF := ite_f hc2 hF
   refine wp_skip ?_
   refine p_then (wp_seq ?_)
   refine wp_seq ?_
   cases hF

def F_rlog_Log_Stamp_nil (i : Int) (ts : Int) : Option Int := (F_rlog_Log_none_nil).bind fun n0 => (if (n0) = true then (some 8) else (none))

set_option maxHeartbeats 1000000 in
theorem c_rlog_Log_Stamp_nil {I D : Dm} {i : Int} {ts : Int} {w : World} {rr : Int} (hF : F_rlog_Log_Stamp_nil i ts = some rr) (H : St I D w []) :
  Calls Tryz.prog 23 #[nP, vI i, vU ts] w (Ret fun vv w' => vv = vI rr ∧ ∃ I', Hf I D w I' w' []) := by
 replace H := H.hf
 unfold F_rlog_Log_Stamp_nil at hF
 refine f_enter 56 Tryz.func23 rfl rfl (Nat.le_of_ble_eq_true rfl) fun a Z => ?_
 replace Z := Z.sub (ts := [0, 1, 2]) rfl
 refine sR Z fun Z => ?_
 refine s_runk tRf Z 1 rfl rfl fun a Z => ?_
 refine s_end Z [0, 1, 2] rfl fun Z => ?_
 refine p_then (wp_seq ?_)
 refine wp_block ?_
 refine wp_seq ?_
 obtain ⟨n0, hx1, hF⟩ := bnd_in hF
 refine f_region Z fun Z => ?_
 refine s_runk tRf Z 1 rfl rfl fun a Z => ?_
 refine hC Z H [] rfl #[] fn_56_YRf rfl rfl (fun D h => have q := c_rlog_Log_none_nil hx1 h; q) fun vv a w1 D2 hr hF2 Z => ?_
 obtain ⟨rfl, I1, K⟩ := hr
 have H := (hF2 K).nf rfl
 refine s_runk tRf Z 1 rfl rfl fun a Z => ?_
 refine s_end Z [0, 1, 2, 7] rfl fun Z => ?_
 refine p_then ?_
 refine f_cond Z rfl (fun hc1 => ?_) (fun hc1 => ?_)
 ·replace hF := ite_t hc1 hF
  refine sR Z fun Z => ?_
  refine s_runk tRf Z 1 rfl rfl fun a Z => ?_
  refine s_end Z [6] rfl fun Z => ?_
  refine p_then (wp_ret ?_)
  refine p_blk_r ?_
  refine p_then_r ?_
  obtain rfl := some_in hF
  exact f_ret Z (run_results1 rfl Z rfl) ⟨rfl, I1, (H.sub [] rfl).eq rfl⟩
 ·replace hF := ite_f hc1 hF
  refine wp_seq ?_
  cases hF

def F_rlog_Log_Thin_nil (h : Int) (n0 : Int) : Option Int := (F_rlog_Log_none_nil).bind fun n0_2 => (if (n0_2) = true then (some 0) else (none))

set_option maxHeartbeats 1000000 in
theorem c_rlog_Log_Thin_nil {I D : Dm} {h : Int} {n0 : Int} {w : World} {rr : Int} (hF : F_rlog_Log_Thin_nil h n0 = some rr) (H : St I D w []) :
  Calls Tryz.prog 24 #[nP, vU h, vI n0] w (Ret fun vv w' => vv = vI rr ∧ ∃ I', Hf I D w I' w' []) := by
 replace H := H.hf
 unfold F_rlog_Log_Thin_nil at hF
 refine f_enter 51 Tryz.func24 rfl rfl (Nat.le_of_ble_eq_true rfl) fun a Z => ?_
 replace Z := Z.sub (ts := [0, 1, 2]) rfl
 refine sR Z fun Z => ?_
 refine s_runk tRf Z 1 rfl rfl fun a Z => ?_
 refine s_end Z [0, 1, 2] rfl fun Z => ?_
 refine p_then (wp_seq ?_)
 refine wp_seq ?_
 obtain ⟨n0_2, hx1, hF⟩ := bnd_in hF
 refine f_region Z fun Z => ?_
 refine s_runk tRf Z 1 rfl rfl fun a Z => ?_
 refine hC Z H [] rfl #[] fn_56_YRf rfl rfl (fun D h => have q := c_rlog_Log_none_nil hx1 h; q) fun vv a w1 D2 hr hF2 Z => ?_
 obtain ⟨rfl, I1, K⟩ := hr
 have H := (hF2 K).nf rfl
 refine s_end Z [0, 1, 2, 13] rfl fun Z => ?_
 refine p_then ?_
 refine f_cond Z rfl (fun hc1 => ?_) (fun hc1 => ?_)
 ·replace hF := ite_t hc1 hF
  refine sR Z fun Z => ?_
  refine s_runk tRf Z 1 rfl rfl fun a Z => ?_
  refine s_end Z [6] rfl fun Z => ?_
  refine p_then (wp_ret ?_)
  refine p_then_r ?_
  obtain rfl := some_in hF
  exact f_ret Z (run_results1 rfl Z rfl) ⟨rfl, I1, (H.sub [] rfl).eq rfl⟩
 ·replace hF := ite_f hc1 hF
  refine wp_skip ?_
  refine pR Z fun Z => ?_
  refine hA1 Z H (vI 0) rfl rfl (by kernel_rfl) rfl fun a w2 b1 H Z => ?_
  refine hT tRf Z H 0 rfl rfl rfl rfl rfl (one_cons rfl one_nil) (Nat.le_of_ble_eq_true rfl) rfl fun w3 H => ?_
  dsimp only [List.eraseIdx] at H
  refine s_end Z [0, 1, 2, 7] rfl fun Z => ?_
  refine pR Z fun Z => ?_
  refine h_mkmap Z H M_116 rfl rfl rfl (by decide) rfl fun a w4 b2 H Z => ?_
  refine hA1 Z H (.map none) rfl rfl (by kernel_rfl) rfl fun a w5 b3 H Z => ?_
  refine hT tRf Z H 0 rfl rfl rfl rfl rfl (one_cons rfl one_nil) (Nat.le_of_ble_eq_true rfl) rfl fun w6 H => ?_
  dsimp only [List.eraseIdx] at H
  refine s_end Z [0, 1, 2, 7, 8] rfl fun Z => ?_
  refine pR Z fun Z => ?_
  refine s_runk tRf Z 2 rfl rfl fun a Z => ?_
  refine s_end Z [0, 1, 2, 7, 9] rfl fun Z => ?_
  refine p_then (wp_seq ?_)
  refine wp_seq ?_
  cases hF

def F_rstate_State_Apply_k1 (yb_s0 : Erstate_State) : Option (Int × Erstate_State) := some (0, yb_s0)

def F_rstate_State_Apply (s0 : Erstate_State) (n0 : ENote) : Option (Int × Erstate_State) := (F_rstate_State_none s0).bind fun n0_2 => (if (n0_2) = true then (some (8, s0)) else ((F_note_Check n0).bind fun c => (if (c != 0) = true then (some (c, s0)) else (if (n0.k == 1) = true then (if (decide (n0.conf.epoch ≤ s0.conf.epoch)) = true then (some (18, s0)) else ((F_rstate_own n0.conf).bind fun o => (F_rstate_State_Apply_k1 ({ s0 with conf := o } : Erstate_State)))) else (if (n0.k == 2) = true then (optE s0.log ((F_rlog_Log_Set_nil n0.n n0.entry).bind fun n0_3 => (some (n0_3, ({ s0 with log := none } : Erstate_State)))) (fun x => (F_rlog_Log_Set x n0.n n0.entry).bind fun s0_2 => (some (s0_2.1, ({ s0 with log := some s0_2.2 } : Erstate_State))))) else (if (n0.k == 3) = true then (optE s0.log ((F_rlog_Log_Stamp_nil n0.n n0.at_).bind fun n0_4 => (some (n0_4, ({ s0 with log := none } : Erstate_State)))) (fun x_2 => (F_rlog_Log_Stamp x_2 n0.n n0.at_).bind fun s0_3 => (some (s0_3.1, ({ s0 with log := some s0_3.2 } : Erstate_State))))) else (if (n0.k == 4) = true then (if (decide (n0.at_ < s0.horizon)) = true then (some (18, s0)) else (optE s0.log ((F_rlog_Log_Thin_nil n0.at_ n0.n).bind fun n0_5 => (F_rstate_State_Apply_k1 ({ s0 with log := none, horizon := n0.at_ } : Erstate_State))) (fun x_3 => (F_rlog_Log_Thin x_3 n0.at_ n0.n).bind fun t => (F_rstate_State_Apply_k1 ({ s0 with log := some t.2, horizon := n0.at_ } : Erstate_State))))) else (some (11, s0)))))))))

set_option maxHeartbeats 1000000 in
theorem c_rstate_State_Apply {I D : Dm} {b_s0 : Nat} {s0 : Erstate_State} {n0 : ENote} {v1_n0 : Value} {v2_n0 : Value} {v3_n0 : Value} {w : World} {rr : Int × Erstate_State} (hF : F_rstate_State_Apply s0 n0 = some rr) (H : St I D w [OErstate_State b_s0 s0, SlC NEMember v1_n0 n0.conf.members, SlC Ni64 v2_n0 n0.legit, SlC NEOp v3_n0 n0.entry.batch.ops]) :
  Calls Tryz.prog 8 #[pp b_s0 0, .agg (cENote n0 v1_n0 v2_n0 v3_n0).toArray] w (Ret fun vv w' => vv = vI rr.1 ∧ ∃ I', Hf I D w I' w' [OErstate_State b_s0 rr.2]) := by
 replace H := H.hf
 unfold F_rstate_State_Apply at hF
 refine f_enter 77 Tryz.func8 rfl rfl (Nat.le_of_ble_eq_true rfl) fun a Z => ?_
 replace Z := Z.sub (ts := [0, 1]) rfl
 refine sR Z fun Z => ?_
 refine h_boxv Z H (cl := (cENote n0 v1_n0 v2_n0 v3_n0)) rfl rfl rfl (by decide) rfl rfl rfl fun a w1 b1 H Z => ?_
 refine s_runk tRf Z 1 rfl rfl fun a Z => ?_
 refine s_end Z [0, 3] rfl fun Z => ?_
 refine p_then (wp_seq ?_)
 refine wp_seq ?_
 obtain ⟨n0_2, hx1, hF⟩ := bnd_in hF
 refine f_region Z fun Z => ?_
 refine s_runk tRf Z 1 rfl rfl fun a Z => ?_
 refine hC Z H [(1, false)] rfl #[] fn_19_YRf rfl rfl (fun D h => have q := c_rstate_State_none hx1 h; q) fun vv a w2 D2 hr hF2 Z => ?_
 obtain ⟨rfl, I1, K⟩ := hr
 have H := (hF2 K).nf rfl
 refine s_end Z [0, 3, 7] rfl fun Z => ?_
 refine p_then ?_
 refine f_cond Z rfl (fun hc1 => ?_) (fun hc1 => ?_)
 ·replace hF := ite_t hc1 hF
  refine sR Z fun Z => ?_
  refine s_runk tRf Z 1 rfl rfl fun a Z => ?_
  refine s_end Z [4] rfl fun Z => ?_
  refine p_then (wp_ret ?_)
  refine p_then_r ?_
  obtain rfl := some_in hF
  exact f_ret Z (run_results1 rfl Z rfl) ⟨rfl, I1, (H.sub [(0, false)] rfl).eq rfl⟩
 ·replace hF := ite_f hc1 hF
  refine wp_skip ?_
  refine p_then (wp_seq ?_)
  refine wp_seq ?_
  obtain ⟨c, hx2, hF⟩ := bnd_in hF
  refine f_region Z fun Z => ?_
  refine sO Z (.agg (cENote n0 v1_n0 v2_n0 v3_n0).toArray) rfl (oA tRf rfl rfl ((H.bx 1 rfl).part 0 rfl)) fun a Z => ?_
  refine hC Z H [(2, true), (3, true), (4, true)] rfl #[] fn_20_YRf rfl rfl (fun D h => have q := c_note_Check hx2 h; q) fun vv a w3 D2 hr hF2 Z => ?_
  obtain ⟨rfl, I2, K⟩ := hr
  have H := (hF2 K).nf rfl
  refine s_runk tRf Z 1 rfl rfl fun a Z => ?_
  refine s_end Z [0, 3, 5] rfl fun Z => ?_
  refine pR Z fun Z => ?_
  refine s_runk tRf Z 2 rfl rfl fun a Z => ?_
  refine s_end Z [0, 3, 5, 11] rfl fun Z => ?_
  refine p_then ?_
  refine f_cond Z rfl (fun hc2 => ?_) (fun hc2 => ?_)
  ·replace hF := ite_t hc2 hF
   refine sR Z fun Z => ?_
   refine s_runk tRf Z 2 rfl rfl fun a Z => ?_
   refine s_end Z [4] rfl fun Z => ?_
   refine p_then (wp_ret ?_)
   refine p_then_r ?_
   obtain rfl := some_in hF
   exact f_ret Z (run_results1 rfl Z rfl) ⟨rfl, I2, (H.sub [(0, false)] rfl).eq rfl⟩
  ·replace hF := ite_f hc2 hF
   refine wp_skip ?_
   refine p_then ?_
   refine f_cut (fun a' w' => ∃ (yb_s0 : Erstate_State), Sl 77 [] a' ∧ (∃ I2, Hf I D w I2 w' [OErstate_State b_s0 yb_s0]) ∧ F_rstate_State_Apply_k1 yb_s0 = some rr) ?_ ?_
   ·rintro a w4 ⟨yb_s0, Z, ⟨I4, H⟩, hF⟩
    unfold F_rstate_State_Apply_k1 at hF
    try dsimp only at hF
    refine sR Z fun Z => ?_
    refine s_runk tRf Z 1 rfl rfl fun a Z => ?_
    refine s_end Z [4] rfl fun Z => ?_
    refine p_then (wp_ret ?_)
    obtain rfl := some_in hF
    exact f_ret Z (run_results1 rfl Z rfl) ⟨rfl, I4, (H.sub [(0, false)] rfl).eq rfl⟩
   ·skip
    refine sR Z fun Z => ?_
    refine s_runk tRf Z 1 rfl rfl fun a Z => ?_
    refine sO Z _ rfl (oL tRf rfl rfl (H.bc 1 0 rfl rfl)) fun a Z => ?_
    refine s_end Z [0, 3, 14] rfl fun Z => ?_
    refine p_then (wp_block ?_)
    refine sR Z fun Z => ?_
    refine s_runk tRf Z 2 rfl rfl fun a Z => ?_
    refine s_end Z [0, 3, 14, 15] rfl fun Z => ?_
    refine p_then ?_
    refine f_cond Z rfl (fun hc3 => ?_) (fun hc3 => ?_)
    ·replace hF := ite_t hc3 hF
     refine wp_seq ?_
     refine wp_seq ?_
     obtain ⟨⟨v4, v5⟩, H⟩ := H.openX 0 rfl
     replace H := H.nf rfl; try dsimp only at H
     refine f_quietd (by kernel_rfl) (by kernel_rfl) Z fun Z => ?_
     refine q_runk tRf Z 2 rfl rfl fun a Z => ?_
     refine qO Z _ rfl (fun _ hw => oL tRf rfl rfl ((H.blw hw).bc 3 3 rfl rfl)) fun a Z => ?_
     refine q_runk tRf Z 4 rfl rfl fun a Z => ?_
     refine qO Z _ rfl (fun _ hw => oL tRf rfl rfl ((H.blw hw).bc 0 1 rfl rfl)) fun a Z => ?_
     refine q_runk tRf Z 1 rfl rfl fun a Z => ?_
     refine q_end Z [0, 3, 25] rfl fun w5 hb Z => ?_
     replace H := H.blw hb
     clear hb
     refine p_then ?_
     refine f_cond Z rfl (fun hc4 => ?_) (fun hc4 => ?_)
     ·replace hF := ite_t hc4 hF
      refine sR Z fun Z => ?_
      refine s_runk tRf Z 1 rfl rfl fun a Z => ?_
      refine s_end Z [4] rfl fun Z => ?_
      refine p_then (wp_ret ?_)
      refine p_then_r ?_
      refine p_blk_r ?_
      refine p_then_r ?_
      replace H := H.sX (OErstate_State b_s0 s0) (v4, v5) [(0, false), (0, false), (0, true)] rfl rfl rfl
      obtain rfl := some_in hF
      exact f_ret Z (run_results1 rfl Z rfl) ⟨rfl, I2, (H.sub [(0, false)] rfl).eq rfl⟩
     ·replace hF := ite_f hc4 hF
      refine wp_skip ?_
      refine p_then ?_
      obtain ⟨o, hx3, hF⟩ := bnd_in hF
      refine f_region Z fun Z => ?_
      refine s_runk tRf Z 2 rfl rfl fun a Z => ?_
      refine sO Z (.agg #[vI n0.conf.epoch, v1_n0, vU n0.conf.floor]) rfl (oA tRf rfl rfl ((H.bx 3 rfl).part 3 rfl)) fun a Z => ?_
      refine hC Z H [(4, true)] rfl #[] fn_21_YRf rfl rfl (fun D h => have q := c_rstate_own hx3 h; q) fun vv a w6 D2 hr hF2 Z => ?_
      obtain ⟨q1, rfl, I5, K⟩ := hr
      have H := (hF2 K).nf rfl
      refine s_runk tRf Z 2 rfl rfl fun a Z => ?_
      refine hT tRf Z H 1 rfl rfl rfl rfl rfl (one_cons rfl (one_cons (slS.one (H.owshape 0 rfl)) (one_cons rfl one_nil))) (Nat.le_of_ble_eq_true rfl) rfl fun w7 H => ?_
      dsimp only [List.eraseIdx] at H
      refine s_end Z [] rfl fun Z => ?_
      refine p_blk ?_
      refine p_then ?_
      obtain ⟨I6, _, H⟩ := H.frzow 1 rfl
      replace H := H.nf rfl; try dsimp only at H
      replace H := H.sX (OErstate_State b_s0 ({ s0 with conf := o } : Erstate_State)) (v4, q1) [(1, false), (1, false), (0, true)] rfl rfl rfl
      exact ⟨({ s0 with conf := o } : Erstate_State), Z.sub (ts := []) rfl, ⟨I6, (H.sub [(0, false)] rfl).eq rfl⟩, hF⟩
    ·replace hF := ite_f hc3 hF
     refine sR Z fun Z => ?_
     refine s_runk tRf Z 2 rfl rfl fun a Z => ?_
     refine s_end Z [0, 3, 14, 32] rfl fun Z => ?_
     refine p_then ?_
     refine f_cond Z rfl (fun hc5 => ?_) (fun hc5 => ?_)
     ·replace hF := ite_t hc5 hF
      refine wp_seq ?_
      obtain ⟨⟨v6, v7⟩, H⟩ := H.openX 0 rfl
      replace H := H.nf rfl; try dsimp only at H
      rcases optE_in hF with ⟨ho1, hF⟩ | ⟨x, ho1, hF⟩
      ·obtain ⟨hv, H⟩ := H.optN 1 rfl ho1
       (try have Zq33 := Z); subst hv; (try have Z := Zq33)
       replace H := H.nf rfl; try dsimp only at H
       obtain ⟨n0_3, hx4, hF⟩ := bnd_in hF
       refine f_quietS 8 (by kernel_rfl) (by kernel_rfl) (by kernel_rfl) (by kernel_rfl) (by kernel_rfl) Z fun Z => ?_
       refine q_runk tRf Z 3 rfl rfl fun a Z => ?_
       refine qO Z _ rfl (fun _ hw => oL tRf rfl rfl ((H.blw hw).bc 0 0 rfl rfl)) fun a Z => ?_
       refine q_runk tRf Z 1 rfl rfl fun a Z => ?_
       refine qO Z _ rfl (fun _ hw => oL tRf rfl rfl ((H.blw hw).bc 2 1 rfl rfl)) fun a Z => ?_
       refine q_runk tRf Z 1 rfl rfl fun a Z => ?_
       refine qO Z (.agg (cEEntry n0.entry v3_n0).toArray) rfl (fun _ hw => oA tRf rfl rfl (((H.blw hw).bx 2 rfl).part 7 rfl)) fun a Z => ?_
       refine q_endS Z [0, 3, 14, 32, 34, 35, 36, 37, 38, 39, 40, 41] rfl fun w8 hb Z => ?_
       replace H := H.blw hb
       clear hb
       refine hC Z H [(5, true)] rfl #[] fn_22_YRf rfl rfl (fun D h => have q := c_rlog_Log_Set_nil hx4 h; q) fun vv a w9 D2 hr hF2 Z => ?_
       obtain ⟨rfl, I7, K⟩ := hr
       have H := (hF2 K).nf rfl
       refine s_runk tRf Z 1 rfl rfl fun a Z => ?_
       refine s_end Z [4] rfl fun Z => ?_
       refine p_then (wp_ret ?_)
       refine p_blk_r ?_
       refine p_then_r ?_
       replace H := H.mkN OErlog_Log
       replace H := H.sX (OErstate_State b_s0 ({ s0 with log := none } : Erstate_State)) (nP, v7) [(1, false), (0, false), (0, true)] rfl rfl rfl
       obtain rfl := some_in hF
       exact f_ret Z (run_results1 rfl Z rfl) ⟨rfl, I7, (H.sub [(0, false)] rfl).eq rfl⟩
      ·obtain ⟨b2, hv, H⟩ := H.optS 1 rfl ho1
       (try have Zq34 := Z); subst hv; (try have Z := Zq34)
       replace H := H.nf rfl; try dsimp only at H
       obtain ⟨s0_2, hx5, hF⟩ := bnd_in hF
       refine f_quietS 8 (by kernel_rfl) (by kernel_rfl) (by kernel_rfl) (by kernel_rfl) (by kernel_rfl) Z fun Z => ?_
       refine q_runk tRf Z 3 rfl rfl fun a Z => ?_
       refine qO Z _ rfl (fun _ hw => oL tRf rfl rfl ((H.blw hw).bc 1 0 rfl rfl)) fun a Z => ?_
       refine q_runk tRf Z 1 rfl rfl fun a Z => ?_
       refine qO Z _ rfl (fun _ hw => oL tRf rfl rfl ((H.blw hw).bc 3 1 rfl rfl)) fun a Z => ?_
       refine q_runk tRf Z 1 rfl rfl fun a Z => ?_
       refine qO Z (.agg (cEEntry n0.entry v3_n0).toArray) rfl (fun _ hw => oA tRf rfl rfl (((H.blw hw).bx 3 rfl).part 7 rfl)) fun a Z => ?_
       refine q_endS Z [0, 3, 14, 32, 34, 35, 36, 37, 38, 39, 40, 41] rfl fun w10 hb Z => ?_
       replace H := H.blw hb
       clear hb
       refine hC Z H [(0, false), (5, true)] rfl #[] fn_22_YRf rfl rfl (fun D h => have q := d_rlog_Log_Set hx5 h; q) fun vv a w11 D2 hr hF2 Z => ?_
       obtain ⟨rfl, I8, K⟩ := hr
       have H := (hF2 K).nf rfl
       refine s_runk tRf Z 1 rfl rfl fun a Z => ?_
       refine s_end Z [4] rfl fun Z => ?_
       refine p_then (wp_ret ?_)
       refine p_blk_r ?_
       refine p_then_r ?_
       replace H := (H.mkS (K := OErlog_Log) 0 rfl).nf rfl
       replace H := H.sX (OErstate_State b_s0 ({ s0 with log := some s0_2.2 } : Erstate_State)) (pp b2 0, v7) [(1, false), (0, false), (0, true)] rfl rfl rfl
       obtain rfl := some_in hF
       exact f_ret Z (run_results1 rfl Z rfl) ⟨rfl, I8, (H.sub [(0, false)] rfl).eq rfl⟩
     ·replace hF := ite_f hc5 hF
      refine sR Z fun Z => ?_
      refine s_runk tRf Z 2 rfl rfl fun a Z => ?_
      refine s_end Z [0, 3, 14, 43] rfl fun Z => ?_
      refine p_then ?_
      refine f_cond Z rfl (fun hc6 => ?_) (fun hc6 => ?_)
      ·replace hF := ite_t hc6 hF
       refine wp_seq ?_
       obtain ⟨⟨v8, v9⟩, H⟩ := H.openX 0 rfl
       replace H := H.nf rfl; try dsimp only at H
       rcases optE_in hF with ⟨ho2, hF⟩ | ⟨x_2, ho2, hF⟩
       ·obtain ⟨hv, H⟩ := H.optN 1 rfl ho2
        (try have Zq35 := Z); subst hv; (try have Z := Zq35)
        replace H := H.nf rfl; try dsimp only at H
        obtain ⟨n0_4, hx6, hF⟩ := bnd_in hF
        refine f_quietS 8 (by kernel_rfl) (by kernel_rfl) (by kernel_rfl) (by kernel_rfl) (by kernel_rfl) Z fun Z => ?_
        refine q_runk tRf Z 3 rfl rfl fun a Z => ?_
        refine qO Z _ rfl (fun _ hw => oL tRf rfl rfl ((H.blw hw).bc 0 0 rfl rfl)) fun a Z => ?_
        refine q_runk tRf Z 1 rfl rfl fun a Z => ?_
        refine qO Z _ rfl (fun _ hw => oL tRf rfl rfl ((H.blw hw).bc 2 1 rfl rfl)) fun a Z => ?_
        refine q_runk tRf Z 1 rfl rfl fun a Z => ?_
        refine qO Z _ rfl (fun _ hw => oL tRf rfl rfl ((H.blw hw).bc 2 2 rfl rfl)) fun a Z => ?_
        refine q_endS Z [0, 3, 14, 43, 45, 46, 47, 48, 49, 50, 51, 52] rfl fun w12 hb Z => ?_
        replace H := H.blw hb
        clear hb
        refine hC Z H [] rfl #[] fn_23_YRf rfl rfl (fun D h => have q := c_rlog_Log_Stamp_nil hx6 h; q) fun vv a w13 D2 hr hF2 Z => ?_
        obtain ⟨rfl, I9, K⟩ := hr
        have H := (hF2 K).nf rfl
        refine s_runk tRf Z 1 rfl rfl fun a Z => ?_
        refine s_end Z [4] rfl fun Z => ?_
        refine p_then (wp_ret ?_)
        refine p_blk_r ?_
        refine p_then_r ?_
        replace H := H.mkN OErlog_Log
        replace H := H.sX (OErstate_State b_s0 ({ s0 with log := none } : Erstate_State)) (nP, v9) [(1, false), (0, false), (0, true)] rfl rfl rfl
        obtain rfl := some_in hF
        exact f_ret Z (run_results1 rfl Z rfl) ⟨rfl, I9, (H.sub [(0, false)] rfl).eq rfl⟩
       ·obtain ⟨b3, hv, H⟩ := H.optS 1 rfl ho2
        (try have Zq36 := Z); subst hv; (try have Z := Zq36)
        replace H := H.nf rfl; try dsimp only at H
        obtain ⟨s0_3, hx7, hF⟩ := bnd_in hF
        refine f_quietS 8 (by kernel_rfl) (by kernel_rfl) (by kernel_rfl) (by kernel_rfl) (by kernel_rfl) Z fun Z => ?_
        refine q_runk tRf Z 3 rfl rfl fun a Z => ?_
        refine qO Z _ rfl (fun _ hw => oL tRf rfl rfl ((H.blw hw).bc 1 0 rfl rfl)) fun a Z => ?_
        refine q_runk tRf Z 1 rfl rfl fun a Z => ?_
        refine qO Z _ rfl (fun _ hw => oL tRf rfl rfl ((H.blw hw).bc 3 1 rfl rfl)) fun a Z => ?_
        refine q_runk tRf Z 1 rfl rfl fun a Z => ?_
        refine qO Z _ rfl (fun _ hw => oL tRf rfl rfl ((H.blw hw).bc 3 2 rfl rfl)) fun a Z => ?_
        refine q_endS Z [0, 3, 14, 43, 45, 46, 47, 48, 49, 50, 51, 52] rfl fun w14 hb Z => ?_
        replace H := H.blw hb
        clear hb
        refine hC Z H [(0, false)] rfl #[] fn_23_YRf rfl rfl (fun D h => have q := d_rlog_Log_Stamp hx7 h; q) fun vv a w15 D2 hr hF2 Z => ?_
        obtain ⟨rfl, I10, K⟩ := hr
        have H := (hF2 K).nf rfl
        refine s_runk tRf Z 1 rfl rfl fun a Z => ?_
        refine s_end Z [4] rfl fun Z => ?_
        refine p_then (wp_ret ?_)
        refine p_blk_r ?_
        refine p_then_r ?_
        replace H := (H.mkS (K := OErlog_Log) 0 rfl).nf rfl
        replace H := H.sX (OErstate_State b_s0 ({ s0 with log := some s0_3.2 } : Erstate_State)) (pp b3 0, v9) [(1, false), (0, false), (0, true)] rfl rfl rfl
        obtain rfl := some_in hF
        exact f_ret Z (run_results1 rfl Z rfl) ⟨rfl, I10, (H.sub [(0, false)] rfl).eq rfl⟩
      ·replace hF := ite_f hc6 hF
       refine sR Z fun Z => ?_
       refine s_runk tRf Z 2 rfl rfl fun a Z => ?_
       refine s_end Z [0, 3, 54] rfl fun Z => ?_
       refine p_then ?_
       refine f_cond Z rfl (fun hc7 => ?_) (fun hc7 => ?_)
       ·replace hF := ite_t hc7 hF
        refine wp_seq ?_
        refine wp_seq ?_
        obtain ⟨⟨v10, v11⟩, H⟩ := H.openX 0 rfl
        replace H := H.nf rfl; try dsimp only at H
        refine f_quietd (by kernel_rfl) (by kernel_rfl) Z fun Z => ?_
        refine q_runk tRf Z 1 rfl rfl fun a Z => ?_
        refine qO Z _ rfl (fun _ hw => oL tRf rfl rfl ((H.blw hw).bc 3 2 rfl rfl)) fun a Z => ?_
        refine q_runk tRf Z 3 rfl rfl fun a Z => ?_
        refine qO Z _ rfl (fun _ hw => oL tRf rfl rfl ((H.blw hw).bc 0 4 rfl rfl)) fun a Z => ?_
        refine q_runk tRf Z 1 rfl rfl fun a Z => ?_
        refine q_end Z [0, 3, 62] rfl fun w16 hb Z => ?_
        replace H := H.blw hb
        clear hb
        refine p_then ?_
        refine f_cond Z rfl (fun hc8 => ?_) (fun hc8 => ?_)
        ·replace hF := ite_t hc8 hF
         refine sR Z fun Z => ?_
         refine s_runk tRf Z 1 rfl rfl fun a Z => ?_
         refine s_end Z [4] rfl fun Z => ?_
         refine p_then (wp_ret ?_)
         refine p_then_r ?_
         refine p_blk_r ?_
         refine p_then_r ?_
         replace H := H.sX (OErstate_State b_s0 s0) (v10, v11) [(0, false), (0, false), (0, true)] rfl rfl rfl
         obtain rfl := some_in hF
         exact f_ret Z (run_results1 rfl Z rfl) ⟨rfl, I2, (H.sub [(0, false)] rfl).eq rfl⟩
        ·replace hF := ite_f hc8 hF
         refine wp_skip ?_
         refine pR Z fun Z => ?_
         refine s_runk tRf Z 2 rfl rfl fun a Z => ?_
         refine sO Z _ rfl (oL tRf rfl rfl (H.bc 3 2 rfl rfl)) fun a Z => ?_
         refine s_runk tRf Z 2 rfl rfl fun a Z => ?_
         refine hT tRf Z H 0 rfl rfl rfl rfl rfl (one_cons rfl one_nil) (Nat.le_of_ble_eq_true rfl) rfl fun w17 H => ?_
         dsimp only [List.eraseIdx] at H
         refine s_end Z [0, 3] rfl fun Z => ?_
         refine p_then ?_
         rcases optE_in hF with ⟨ho3, hF⟩ | ⟨x_3, ho3, hF⟩
         ·obtain ⟨hv, H⟩ := H.optN 1 rfl ho3
          (try have Zq37 := Z); subst hv; (try have Z := Zq37)
          replace H := H.nf rfl; try dsimp only at H
          obtain ⟨n0_5, hx8, hF⟩ := bnd_in hF
          refine f_quietS 8 (by kernel_rfl) (by kernel_rfl) (by kernel_rfl) (by kernel_rfl) (by kernel_rfl) Z fun Z => ?_
          refine q_runk tRf Z 3 rfl rfl fun a Z => ?_
          refine qO Z _ rfl (fun _ hw => oL tRf rfl rfl ((H.blw hw).bc 0 0 rfl rfl)) fun a Z => ?_
          refine q_runk tRf Z 1 rfl rfl fun a Z => ?_
          refine qO Z _ rfl (fun _ hw => oL tRf rfl rfl ((H.blw hw).bc 2 2 rfl rfl)) fun a Z => ?_
          refine q_runk tRf Z 1 rfl rfl fun a Z => ?_
          refine qO Z _ rfl (fun _ hw => oL tRf rfl rfl ((H.blw hw).bc 2 1 rfl rfl)) fun a Z => ?_
          refine q_endS Z [0, 3, 68, 69, 70, 71, 72, 73, 74, 75] rfl fun w18 hb Z => ?_
          replace H := H.blw hb
          clear hb
          refine hC Z H [] rfl #[] fn_24_YRf rfl rfl (fun D h => have q := c_rlog_Log_Thin_nil hx8 h; q) fun vv a w19 D2 hr hF2 Z => ?_
          obtain ⟨rfl, I11, K⟩ := hr
          have H := (hF2 K).nf rfl
          refine s_end Z [] rfl fun Z => ?_
          refine p_blk ?_
          refine p_then ?_
          replace H := H.mkN OErlog_Log
          replace H := H.sX (OErstate_State b_s0 ({ s0 with log := none, horizon := n0.at_ } : Erstate_State)) (nP, v11) [(1, false), (0, false), (0, true)] rfl rfl rfl
          exact ⟨({ s0 with log := none, horizon := n0.at_ } : Erstate_State), Z.sub (ts := []) rfl, ⟨I11, (H.sub [(0, false)] rfl).eq rfl⟩, hF⟩
         ·obtain ⟨b4, hv, H⟩ := H.optS 1 rfl ho3
          (try have Zq38 := Z); subst hv; (try have Z := Zq38)
          replace H := H.nf rfl; try dsimp only at H
          obtain ⟨t, hx9, hF⟩ := bnd_in hF
          refine f_quietS 8 (by kernel_rfl) (by kernel_rfl) (by kernel_rfl) (by kernel_rfl) (by kernel_rfl) Z fun Z => ?_
          refine q_runk tRf Z 3 rfl rfl fun a Z => ?_
          refine qO Z _ rfl (fun _ hw => oL tRf rfl rfl ((H.blw hw).bc 1 0 rfl rfl)) fun a Z => ?_
          refine q_runk tRf Z 1 rfl rfl fun a Z => ?_
          refine qO Z _ rfl (fun _ hw => oL tRf rfl rfl ((H.blw hw).bc 3 2 rfl rfl)) fun a Z => ?_
          refine q_runk tRf Z 1 rfl rfl fun a Z => ?_
          refine qO Z _ rfl (fun _ hw => oL tRf rfl rfl ((H.blw hw).bc 3 1 rfl rfl)) fun a Z => ?_
          refine q_endS Z [0, 3, 68, 69, 70, 71, 72, 73, 74, 75] rfl fun w20 hb Z => ?_
          replace H := H.blw hb
          clear hb
          refine hC Z H [(0, false)] rfl #[] fn_24_YRf rfl rfl (fun D h => have q := c_rlog_Log_Thin hx9 h; q) fun vv a w21 D2 hr hF2 Z => ?_
          obtain ⟨rfl, I12, K⟩ := hr
          have H := (hF2 K).nf rfl
          refine s_end Z [] rfl fun Z => ?_
          refine p_blk ?_
          refine p_then ?_
          replace H := (H.mkS (K := OErlog_Log) 0 rfl).nf rfl
          replace H := H.sX (OErstate_State b_s0 ({ s0 with log := some t.2, horizon := n0.at_ } : Erstate_State)) (pp b4 0, v11) [(1, false), (0, false), (0, true)] rfl rfl rfl
          exact ⟨({ s0 with log := some t.2, horizon := n0.at_ } : Erstate_State), Z.sub (ts := []) rfl, ⟨I12, (H.sub [(0, false)] rfl).eq rfl⟩, hF⟩
       ·replace hF := ite_f hc7 hF
        refine sR Z fun Z => ?_
        refine s_runk tRf Z 1 rfl rfl fun a Z => ?_
        refine s_end Z [4] rfl fun Z => ?_
        refine p_then (wp_ret ?_)
        refine p_blk_r ?_
        refine p_then_r ?_
        obtain rfl := some_in hF
        exact f_ret Z (run_results1 rfl Z rfl) ⟨rfl, I2, (H.sub [(0, false)] rfl).eq rfl⟩

def F_rstate_State_Conf (s0 : Erstate_State) : Option EConf := (F_rstate_State_none s0).bind fun n0 => (if (n0) = true then (some (default : EConf)) else ((F_rstate_own s0.conf).bind fun o => (some o)))

set_option maxHeartbeats 1000000 in
theorem c_rstate_State_Conf {I D : Dm} {b_s0 : Nat} {s0 : Erstate_State} {w : World} {rr : EConf} (hF : F_rstate_State_Conf s0 = some rr) (H : St I D w [OErstate_State b_s0 s0]) :
  Calls Tryz.prog 30 #[pp b_s0 0] w (Ret fun vv w' => ∃ q1 : Value, vv = .agg #[vI rr.epoch, q1, vU rr.floor] ∧ ∃ I', Hf I D w I' w' [OErstate_State b_s0 s0, SlC NEMember q1 rr.members]) := by
 replace H := H.hf
 unfold F_rstate_State_Conf at hF
 refine f_enter 11 Tryz.func30 rfl rfl (Nat.le_of_ble_eq_true rfl) fun a Z => ?_
 replace Z := Z.sub (ts := [0]) rfl
 refine sR Z fun Z => ?_
 refine hA Z H [vI 0, nS, vU 0] rfl rfl (by kernel_rfl) fun a w1 b1 H Z => ?_
 refine s_end Z [0, 2] rfl fun Z => ?_
 refine p_then (wp_seq ?_)
 refine wp_seq ?_
 obtain ⟨n0, hx1, hF⟩ := bnd_in hF
 refine f_region Z fun Z => ?_
 refine s_runk tRf Z 1 rfl rfl fun a Z => ?_
 refine hC Z H [(1, false)] rfl #[] fn_19_YRf rfl rfl (fun D h => have q := c_rstate_State_none hx1 h; q) fun vv a w2 D2 hr hF2 Z => ?_
 obtain ⟨rfl, I1, K⟩ := hr
 have H := (hF2 K).nf rfl
 refine s_end Z [0, 2, 4] rfl fun Z => ?_
 refine p_then ?_
 refine f_cond Z rfl (fun hc1 => ?_) (fun hc1 => ?_)
 ·replace hF := ite_t hc1 hF
  refine sR Z fun Z => ?_
  refine sO Z (.agg #[vI 0, nS, vU 0]) rfl (Ob_build (vs := []) rfl rfl (by go_simp <;> rfl)) fun a Z => ?_
  refine hT tRf Z H 1 rfl rfl rfl rfl rfl (one_cons rfl (one_cons (slS.one slS.nil) (one_cons rfl one_nil))) (Nat.le_of_ble_eq_true rfl) rfl fun w3 H => ?_
  dsimp only [List.eraseIdx] at H
  refine s_end Z [2] rfl fun Z => ?_
  refine p_then (wp_ret ?_)
  refine p_then_r ?_
  replace H := H.slNil NEMember
  obtain rfl := some_in hF
  exact f_ret Z (run_resultsC rfl Z rfl (run_loadVar_agg tRf rfl (H.bx 1 rfl).at)) ⟨nS, rfl, I1, (H.sub [(2, false), (0, true)] rfl).eq rfl⟩
 ·replace hF := ite_f hc1 hF
  refine wp_skip ?_
  refine p_then (wp_seq ?_)
  obtain ⟨o, hx2, hF⟩ := bnd_in hF
  refine f_region Z fun Z => ?_
  refine s_runk tRf Z 3 rfl rfl fun a Z => ?_
  obtain ⟨⟨v1, v2⟩, H⟩ := H.openX 0 rfl
  replace H := H.nf rfl; try dsimp only at H
  refine sO Z (.agg #[vI s0.conf.epoch, v2, vU s0.conf.floor]) rfl (oA tRf rfl rfl ((H.bx 0 rfl).part 1 rfl)) fun a Z => ?_
  refine hC Z H [(2, true)] rfl #[] fn_21_YRf rfl rfl (fun D h => have q := c_rstate_own hx2 h; q) fun vv a w4 D2 hr hF2 Z => ?_
  obtain ⟨q1, rfl, I2, K⟩ := hr
  have H := (hF2 K).nf rfl
  refine hT tRf Z H 4 rfl rfl rfl rfl rfl (one_cons rfl (one_cons (slS.one (H.owshape 0 rfl)) (one_cons rfl one_nil))) (Nat.le_of_ble_eq_true rfl) rfl fun w5 H => ?_
  dsimp only [List.eraseIdx] at H
  refine s_end Z [2] rfl fun Z => ?_
  refine p_then (wp_ret ?_)
  obtain ⟨I3, _, H⟩ := H.frzow 1 rfl
  replace H := H.nf rfl; try dsimp only at H
  replace H := H.sX (OErstate_State b_s0 s0) (v1, v2) [(2, false), (2, false), (2, true)] rfl rfl rfl
  obtain rfl := some_in hF
  exact f_ret Z (run_resultsC rfl Z rfl (run_loadVar_agg tRf rfl (H.bx 2 rfl).at)) ⟨q1, rfl, I3, (H.sub [(0, false), (0, true)] rfl).eq rfl⟩

def F_rstate_State_Horizon (s0 : Erstate_State) : Option Int := (F_rstate_State_none s0).bind fun n0 => (if (n0) = true then (some 0) else (some s0.horizon))

set_option maxHeartbeats 1000000 in
theorem c_rstate_State_Horizon {I D : Dm} {b_s0 : Nat} {s0 : Erstate_State} {w : World} {rr : Int} (hF : F_rstate_State_Horizon s0 = some rr) (H : St I D w [OErstate_State b_s0 s0]) :
  Calls Tryz.prog 31 #[pp b_s0 0] w (Ret fun vv w' => vv = vU rr ∧ ∃ I', Hf I D w I' w' [OErstate_State b_s0 s0]) := by
 replace H := H.hf
 unfold F_rstate_State_Horizon at hF
 refine f_enter 9 Tryz.func31 rfl rfl (Nat.le_of_ble_eq_true rfl) fun a Z => ?_
 replace Z := Z.sub (ts := [0]) rfl
 refine sR Z fun Z => ?_
 refine s_runk tRf Z 1 rfl rfl fun a Z => ?_
 refine s_end Z [0] rfl fun Z => ?_
 refine p_then (wp_seq ?_)
 refine wp_seq ?_
 obtain ⟨n0, hx1, hF⟩ := bnd_in hF
 refine f_region Z fun Z => ?_
 refine s_runk tRf Z 1 rfl rfl fun a Z => ?_
 refine hC Z H [(0, false)] rfl #[] fn_19_YRf rfl rfl (fun D h => have q := c_rstate_State_none hx1 h; q) fun vv a w1 D2 hr hF2 Z => ?_
 obtain ⟨rfl, I1, K⟩ := hr
 have H := (hF2 K).nf rfl
 refine s_end Z [0, 4] rfl fun Z => ?_
 refine p_then ?_
 refine f_cond Z rfl (fun hc1 => ?_) (fun hc1 => ?_)
 ·replace hF := ite_t hc1 hF
  refine sR Z fun Z => ?_
  refine s_runk tRf Z 1 rfl rfl fun a Z => ?_
  refine s_end Z [2] rfl fun Z => ?_
  refine p_then (wp_ret ?_)
  refine p_then_r ?_
  obtain rfl := some_in hF
  exact f_ret Z (run_results1 rfl Z rfl) ⟨rfl, I1, (H.sub [(0, false)] rfl).eq rfl⟩
 ·replace hF := ite_f hc1 hF
  refine wp_skip ?_
  refine pR Z fun Z => ?_
  refine s_runk tRf Z 3 rfl rfl fun a Z => ?_
  obtain ⟨⟨v1, v2⟩, H⟩ := H.openX 0 rfl
  replace H := H.nf rfl; try dsimp only at H
  refine sO Z _ rfl (oL tRf rfl rfl (H.bc 0 4 rfl rfl)) fun a Z => ?_
  refine s_runk tRf Z 1 rfl rfl fun a Z => ?_
  refine s_end Z [2] rfl fun Z => ?_
  refine p_then (wp_ret ?_)
  replace H := H.sX (OErstate_State b_s0 s0) (v1, v2) [(0, false), (0, false), (0, true)] rfl rfl rfl
  obtain rfl := some_in hF
  exact f_ret Z (run_results1 rfl Z rfl) ⟨rfl, I1, (H.sub [(0, false)] rfl).eq rfl⟩

def F_rlog_Log_All_nil : Option (List EEntry) := (F_rlog_Log_none_nil).bind fun n0 => (if (n0) = true then (some ([] : List EEntry)) else (none))

set_option maxHeartbeats 1000000 in
theorem c_rlog_Log_All_nil {I D : Dm} {w : World} {rr : List EEntry} (hF : F_rlog_Log_All_nil = some rr) (H : St I D w []) :
  Calls Tryz.prog 75 #[nP] w (Ret fun vv w' => ∃ q1 : Value, vv = q1 ∧ ∃ I', Hf I D w I' w' [OwC NEEntry 44 q1 rr]) := by
 replace H := H.hf
 unfold F_rlog_Log_All_nil at hF
 refine f_enter 24 Tryz.func75 rfl rfl (Nat.le_of_ble_eq_true rfl) fun a Z => ?_
 replace Z := Z.sub (ts := [0]) rfl
 refine sR Z fun Z => ?_
 refine s_runk tRf Z 1 rfl rfl fun a Z => ?_
 refine s_end Z [0] rfl fun Z => ?_
 refine p_then (wp_seq ?_)
 refine wp_seq ?_
 obtain ⟨n0, hx1, hF⟩ := bnd_in hF
 refine f_region Z fun Z => ?_
 refine s_runk tRf Z 1 rfl rfl fun a Z => ?_
 refine hC Z H [] rfl #[] fn_56_YRf rfl rfl (fun D h => have q := c_rlog_Log_none_nil hx1 h; q) fun vv a w1 D2 hr hF2 Z => ?_
 obtain ⟨rfl, I1, K⟩ := hr
 have H := (hF2 K).nf rfl
 refine s_end Z [0, 7] rfl fun Z => ?_
 refine p_then ?_
 refine f_cond Z rfl (fun hc1 => ?_) (fun hc1 => ?_)
 ·replace hF := ite_t hc1 hF
  refine sR Z fun Z => ?_
  refine s_runk tRf Z 1 rfl rfl fun a Z => ?_
  refine s_end Z [2] rfl fun Z => ?_
  refine p_then (wp_ret ?_)
  refine p_then_r ?_
  replace H := H.nilow NEEntry 44
  obtain rfl := some_in hF
  exact f_ret Z (run_results1 rfl Z rfl) ⟨nS, rfl, I1, (H.sub [(0, false)] rfl).eq rfl⟩
 ·replace hF := ite_f hc1 hF
  refine wp_skip ?_
  refine pR Z fun Z => ?_
  refine s_runk tRf Z 1 rfl rfl fun a Z => ?_
  refine s_end Z [0, 3] rfl fun Z => ?_
  refine p_then (wp_seq ?_)
  refine wp_seq ?_
  cases hF

def F_rstate_State_All (s0 : Erstate_State) : Option ((List EEntry) × Erstate_State) := (F_rstate_State_none s0).bind fun n0 => (if (n0) = true then (some (([] : List EEntry), s0)) else (optE s0.log ((F_rlog_Log_All_nil).bind fun n0_2 => (some (n0_2, ({ s0 with log := none } : Erstate_State)))) (fun x => (F_rlog_Log_All x).bind fun a0 => (some (a0, ({ s0 with log := some x } : Erstate_State))))))

set_option maxHeartbeats 1000000 in
theorem c_rstate_State_All {I D : Dm} {b_s0 : Nat} {s0 : Erstate_State} {w : World} {rr : (List EEntry) × Erstate_State} (hF : F_rstate_State_All s0 = some rr) (H : St I D w [OErstate_State b_s0 s0]) :
  Calls Tryz.prog 33 #[pp b_s0 0] w (Ret fun vv w' => ∃ q1 : Value, vv = q1 ∧ ∃ I', Hf I D w I' w' [OErstate_State b_s0 rr.2, SlC NEEntry q1 rr.1]) := by
 replace H := H.hf
 unfold F_rstate_State_All at hF
 refine f_enter 10 Tryz.func33 rfl rfl (Nat.le_of_ble_eq_true rfl) fun a Z => ?_
 replace Z := Z.sub (ts := [0]) rfl
 refine sR Z fun Z => ?_
 refine s_runk tRf Z 1 rfl rfl fun a Z => ?_
 refine s_end Z [0] rfl fun Z => ?_
 refine p_then (wp_seq ?_)
 refine wp_seq ?_
 obtain ⟨n0, hx1, hF⟩ := bnd_in hF
 refine f_region Z fun Z => ?_
 refine s_runk tRf Z 1 rfl rfl fun a Z => ?_
 refine hC Z H [(0, false)] rfl #[] fn_19_YRf rfl rfl (fun D h => have q := c_rstate_State_none hx1 h; q) fun vv a w1 D2 hr hF2 Z => ?_
 obtain ⟨rfl, I1, K⟩ := hr
 have H := (hF2 K).nf rfl
 refine s_end Z [0, 4] rfl fun Z => ?_
 refine p_then ?_
 refine f_cond Z rfl (fun hc1 => ?_) (fun hc1 => ?_)
 ·replace hF := ite_t hc1 hF
  refine sR Z fun Z => ?_
  refine s_runk tRf Z 1 rfl rfl fun a Z => ?_
  refine s_end Z [2] rfl fun Z => ?_
  refine p_then (wp_ret ?_)
  refine p_then_r ?_
  replace H := H.slNil NEEntry
  obtain rfl := some_in hF
  exact f_ret Z (run_results1 rfl Z rfl) ⟨nS, rfl, I1, (H.sub [(1, false), (0, true)] rfl).eq rfl⟩
 ·replace hF := ite_f hc1 hF
  refine wp_skip ?_
  refine p_then (wp_seq ?_)
  obtain ⟨⟨v1, v2⟩, H⟩ := H.openX 0 rfl
  replace H := H.nf rfl; try dsimp only at H
  rcases optE_in hF with ⟨ho1, hF⟩ | ⟨x, ho1, hF⟩
  ·obtain ⟨hv, H⟩ := H.optN 1 rfl ho1
   (try have Zq39 := Z); subst hv; (try have Z := Zq39)
   replace H := H.nf rfl; try dsimp only at H
   obtain ⟨n0_2, hx2, hF⟩ := bnd_in hF
   refine f_region Z fun Z => ?_
   refine s_runk tRf Z 3 rfl rfl fun a Z => ?_
   refine sO Z _ rfl (oL tRf rfl rfl (H.bc 0 0 rfl rfl)) fun a Z => ?_
   refine hC Z H [] rfl #[] fn_75_YRf rfl rfl (fun D h => have q := c_rlog_Log_All_nil hx2 h; q) fun vv a w2 D2 hr hF2 Z => ?_
   obtain ⟨q1, hvv, I2, K⟩ := hr; obtain rfl := hvv.symm
   have H := (hF2 K).nf rfl
   refine s_runk tRf Z 1 rfl rfl fun a Z => ?_
   refine s_end Z [2] rfl fun Z => ?_
   refine p_then (wp_ret ?_)
   obtain ⟨I3, _, H⟩ := H.frzow 0 rfl
   replace H := H.nf rfl; try dsimp only at H
   replace H := H.mkN OErlog_Log
   replace H := H.sX (OErstate_State b_s0 ({ s0 with log := none } : Erstate_State)) (nP, v2) [(2, false), (0, false), (1, true)] rfl rfl rfl
   obtain rfl := some_in hF
   exact f_ret Z (run_results1 rfl Z rfl) ⟨q1, rfl, I3, (H.sub [(0, false), (0, true)] rfl).eq rfl⟩
  ·obtain ⟨b1, hv, H⟩ := H.optS 1 rfl ho1
   (try have Zq40 := Z); subst hv; (try have Z := Zq40)
   replace H := H.nf rfl; try dsimp only at H
   obtain ⟨a0, hx3, hF⟩ := bnd_in hF
   refine f_region Z fun Z => ?_
   refine s_runk tRf Z 3 rfl rfl fun a Z => ?_
   refine sO Z _ rfl (oL tRf rfl rfl (H.bc 1 0 rfl rfl)) fun a Z => ?_
   refine hC Z H [(0, false)] rfl #[] fn_75_YRf rfl rfl (fun D h => have q := d_rlog_Log_All hx3 h; q) fun vv a w3 D2 hr hF2 Z => ?_
   obtain ⟨q2, hvv, I4, K⟩ := hr; obtain rfl := hvv.symm
   have H := (hF2 K).nf rfl
   refine s_runk tRf Z 1 rfl rfl fun a Z => ?_
   refine s_end Z [2] rfl fun Z => ?_
   refine p_then (wp_ret ?_)
   obtain ⟨I5, _, H⟩ := H.frzow 1 rfl
   replace H := H.nf rfl; try dsimp only at H
   replace H := (H.mkS (K := OErlog_Log) 1 rfl).nf rfl
   replace H := H.sX (OErstate_State b_s0 ({ s0 with log := some x } : Erstate_State)) (pp b1 0, v2) [(2, false), (0, false), (1, true)] rfl rfl rfl
   obtain rfl := some_in hF
   exact f_ret Z (run_results1 rfl Z rfl) ⟨q2, rfl, I5, (H.sub [(0, false), (0, true)] rfl).eq rfl⟩

def F_rlog_Log_Stamped_nil : Option Int := (F_rlog_Log_none_nil).bind fun n0 => (if (n0) = true then (some 0) else (none))

set_option maxHeartbeats 1000000 in
theorem c_rlog_Log_Stamped_nil {I D : Dm} {w : World} {rr : Int} (hF : F_rlog_Log_Stamped_nil = some rr) (H : St I D w []) :
  Calls Tryz.prog 49 #[nP] w (Ret fun vv w' => vv = vI rr ∧ ∃ I', Hf I D w I' w' []) := by
 replace H := H.hf
 unfold F_rlog_Log_Stamped_nil at hF
 refine f_enter 9 Tryz.func49 rfl rfl (Nat.le_of_ble_eq_true rfl) fun a Z => ?_
 replace Z := Z.sub (ts := [0]) rfl
 refine sR Z fun Z => ?_
 refine s_runk tRf Z 1 rfl rfl fun a Z => ?_
 refine s_end Z [0] rfl fun Z => ?_
 refine p_then (wp_seq ?_)
 refine wp_seq ?_
 obtain ⟨n0, hx1, hF⟩ := bnd_in hF
 refine f_region Z fun Z => ?_
 refine s_runk tRf Z 1 rfl rfl fun a Z => ?_
 refine hC Z H [] rfl #[] fn_56_YRf rfl rfl (fun D h => have q := c_rlog_Log_none_nil hx1 h; q) fun vv a w1 D2 hr hF2 Z => ?_
 obtain ⟨rfl, I1, K⟩ := hr
 have H := (hF2 K).nf rfl
 refine s_end Z [0, 4] rfl fun Z => ?_
 refine p_then ?_
 refine f_cond Z rfl (fun hc1 => ?_) (fun hc1 => ?_)
 ·replace hF := ite_t hc1 hF
  refine sR Z fun Z => ?_
  refine s_runk tRf Z 1 rfl rfl fun a Z => ?_
  refine s_end Z [2] rfl fun Z => ?_
  refine p_then (wp_ret ?_)
  refine p_then_r ?_
  obtain rfl := some_in hF
  exact f_ret Z (run_results1 rfl Z rfl) ⟨rfl, I1, (H.sub [] rfl).eq rfl⟩
 ·replace hF := ite_f hc1 hF
  refine wp_skip ?_
  refine p_then (wp_seq ?_)
  cases hF

def F_rstate_State_Stamped (s0 : Erstate_State) : Option (Int × Erstate_State) := (F_rstate_State_none s0).bind fun n0 => (if (n0) = true then (some (0, s0)) else (optE s0.log ((F_rlog_Log_Stamped_nil).bind fun n0_2 => (some (n0_2, ({ s0 with log := none } : Erstate_State)))) (fun x => (F_rlog_Log_Stamped x).bind fun s0_2 => (some (s0_2, ({ s0 with log := some x } : Erstate_State))))))

set_option maxHeartbeats 1000000 in
theorem c_rstate_State_Stamped {I D : Dm} {b_s0 : Nat} {s0 : Erstate_State} {w : World} {rr : Int × Erstate_State} (hF : F_rstate_State_Stamped s0 = some rr) (H : St I D w [OErstate_State b_s0 s0]) :
  Calls Tryz.prog 17 #[pp b_s0 0] w (Ret fun vv w' => vv = vI rr.1 ∧ ∃ I', Hf I D w I' w' [OErstate_State b_s0 rr.2]) := by
 replace H := H.hf
 unfold F_rstate_State_Stamped at hF
 refine f_enter 10 Tryz.func17 rfl rfl (Nat.le_of_ble_eq_true rfl) fun a Z => ?_
 replace Z := Z.sub (ts := [0]) rfl
 refine sR Z fun Z => ?_
 refine s_runk tRf Z 1 rfl rfl fun a Z => ?_
 refine s_end Z [0] rfl fun Z => ?_
 refine p_then (wp_seq ?_)
 refine wp_seq ?_
 obtain ⟨n0, hx1, hF⟩ := bnd_in hF
 refine f_region Z fun Z => ?_
 refine s_runk tRf Z 1 rfl rfl fun a Z => ?_
 refine hC Z H [(0, false)] rfl #[] fn_19_YRf rfl rfl (fun D h => have q := c_rstate_State_none hx1 h; q) fun vv a w1 D2 hr hF2 Z => ?_
 obtain ⟨rfl, I1, K⟩ := hr
 have H := (hF2 K).nf rfl
 refine s_end Z [0, 4] rfl fun Z => ?_
 refine p_then ?_
 refine f_cond Z rfl (fun hc1 => ?_) (fun hc1 => ?_)
 ·replace hF := ite_t hc1 hF
  refine sR Z fun Z => ?_
  refine s_runk tRf Z 1 rfl rfl fun a Z => ?_
  refine s_end Z [2] rfl fun Z => ?_
  refine p_then (wp_ret ?_)
  refine p_then_r ?_
  obtain rfl := some_in hF
  exact f_ret Z (run_results1 rfl Z rfl) ⟨rfl, I1, (H.sub [(0, false)] rfl).eq rfl⟩
 ·replace hF := ite_f hc1 hF
  refine wp_skip ?_
  refine p_then (wp_seq ?_)
  obtain ⟨⟨v1, v2⟩, H⟩ := H.openX 0 rfl
  replace H := H.nf rfl; try dsimp only at H
  rcases optE_in hF with ⟨ho1, hF⟩ | ⟨x, ho1, hF⟩
  ·obtain ⟨hv, H⟩ := H.optN 1 rfl ho1
   (try have Zq41 := Z); subst hv; (try have Z := Zq41)
   replace H := H.nf rfl; try dsimp only at H
   obtain ⟨n0_2, hx2, hF⟩ := bnd_in hF
   refine f_region Z fun Z => ?_
   refine s_runk tRf Z 3 rfl rfl fun a Z => ?_
   refine sO Z _ rfl (oL tRf rfl rfl (H.bc 0 0 rfl rfl)) fun a Z => ?_
   refine hC Z H [] rfl #[] fn_49_YRf rfl rfl (fun D h => have q := c_rlog_Log_Stamped_nil hx2 h; q) fun vv a w2 D2 hr hF2 Z => ?_
   obtain ⟨rfl, I2, K⟩ := hr
   have H := (hF2 K).nf rfl
   refine s_runk tRf Z 1 rfl rfl fun a Z => ?_
   refine s_end Z [2] rfl fun Z => ?_
   refine p_then (wp_ret ?_)
   replace H := H.mkN OErlog_Log
   replace H := H.sX (OErstate_State b_s0 ({ s0 with log := none } : Erstate_State)) (nP, v2) [(1, false), (0, false), (0, true)] rfl rfl rfl
   obtain rfl := some_in hF
   exact f_ret Z (run_results1 rfl Z rfl) ⟨rfl, I2, (H.sub [(0, false)] rfl).eq rfl⟩
  ·obtain ⟨b1, hv, H⟩ := H.optS 1 rfl ho1
   (try have Zq42 := Z); subst hv; (try have Z := Zq42)
   replace H := H.nf rfl; try dsimp only at H
   obtain ⟨s0_2, hx3, hF⟩ := bnd_in hF
   refine f_region Z fun Z => ?_
   refine s_runk tRf Z 3 rfl rfl fun a Z => ?_
   refine sO Z _ rfl (oL tRf rfl rfl (H.bc 1 0 rfl rfl)) fun a Z => ?_
   refine hC Z H [(0, false)] rfl #[] fn_49_YRf rfl rfl (fun D h => have q := d_rlog_Log_Stamped hx3 h; q) fun vv a w3 D2 hr hF2 Z => ?_
   obtain ⟨rfl, I3, K⟩ := hr
   have H := (hF2 K).nf rfl
   refine s_runk tRf Z 1 rfl rfl fun a Z => ?_
   refine s_end Z [2] rfl fun Z => ?_
   refine p_then (wp_ret ?_)
   replace H := (H.mkS (K := OErlog_Log) 0 rfl).nf rfl
   replace H := H.sX (OErstate_State b_s0 ({ s0 with log := some x } : Erstate_State)) (pp b1 0, v2) [(1, false), (0, false), (0, true)] rfl rfl rfl
   obtain rfl := some_in hF
   exact f_ret Z (run_results1 rfl Z rfl) ⟨rfl, I3, (H.sub [(0, false)] rfl).eq rfl⟩

def F_rlog_Log_At_nil (i : Int) : Option (EEntry × Bool) := none

set_option maxHeartbeats 1000000 in
theorem c_rlog_Log_At_nil {I D : Dm} {i : Int} {w : World} {rr : EEntry × Bool} (hF : F_rlog_Log_At_nil i = some rr) (H : St I D w []) :
  Calls Tryz.prog 44 #[nP, vI i] w (Ret fun vv w' => ∃ q1 : Value, vv = .tuple #[.agg (cEEntry rr.1 q1).toArray, vT rr.2] ∧ ∃ I', Hf I D w I' w' [OwC NEOp 58 q1 rr.1.batch.ops]) := by
 replace H := H.hf
 unfold F_rlog_Log_At_nil at hF
 refine f_enter 30 Tryz.func44 rfl rfl (Nat.le_of_ble_eq_true rfl) fun a Z => ?_
 replace Z := Z.sub (ts := [0, 1]) rfl
 refine sR Z fun Z => ?_
 refine hA Z H [vI 0, vI 0, nS, vU 0] rfl rfl (by kernel_rfl) fun a w1 b1 H Z => ?_
 refine s_runk tRf Z 1 rfl rfl fun a Z => ?_
 refine s_end Z [0, 1, 4] rfl fun Z => ?_
 refine p_then (wp_seq ?_)
 refine wp_seq ?_
 cases hF

def F_rstate_State_Feed_l1 (from_ : Int) (to_ : Int) (rc : (Int × Erstate_State × Emvcc_Store) → Option (Int × Erstate_State × Emvcc_Store)) (sg : Int × Erstate_State × Emvcc_Store) : Option (Int × Erstate_State × Emvcc_Store) := match sg with | (at_, s0_2, m_2) => (F_rstate_State_Stamped s0_2).bind fun s0_3 => (if (decide (at_ < min to_ s0_3.1)) = true then (optE s0_3.2.log ((F_rlog_Log_At_nil at_).bind fun n0_2 => ((F_mvcc_Store_Put m_2 n0_2.1.ts n0_2.1.batch.ops).bind fun p => (chk (inI (at_ + 1)) (rc (at_ + 1, ({ s0_3.2 with log := none } : Erstate_State), p.2))))) (fun x => (F_rlog_Log_At x at_).bind fun a0 => ((F_mvcc_Store_Put m_2 a0.1.ts a0.1.batch.ops).bind fun p_2 => (chk (inI (at_ + 1)) (rc (at_ + 1, ({ s0_3.2 with log := some x } : Erstate_State), p_2.2)))))) else (some (max from_ at_, s0_3.2, m_2)))

def F_rstate_State_Feed (s0 : Erstate_State) (m : Emvcc_Store) (from_ : Int) (to_ : Int) : Option (Int × Erstate_State × Emvcc_Store) := (F_rstate_State_none s0).bind fun n0 => (if (n0) = true then (some (0, s0, m)) else (iter (F_rstate_State_Feed_l1 from_ to_) FU (max from_ 0, s0, m)))

set_option maxHeartbeats 1000000 in
theorem c_rstate_State_Feed {I D : Dm} {b_s0 : Nat} {s0 : Erstate_State} {b_m : Nat} {m : Emvcc_Store} {from_ : Int} {to_ : Int} {w : World} {rr : Int × Erstate_State × Emvcc_Store} (hF : F_rstate_State_Feed s0 m from_ to_ = some rr) (H : St I D w [OErstate_State b_s0 s0, OEmvcc_Store b_m m]) :
  Calls Tryz.prog 15 #[pp b_s0 0, pp b_m 0, vI from_, vI to_] w (Ret fun vv w' => vv = vI rr.1 ∧ ∃ I', Hf I D w I' w' [OErstate_State b_s0 rr.2.1, OEmvcc_Store b_m rr.2.2]) := by
 replace H := H.hf
 unfold F_rstate_State_Feed at hF
 refine f_enter 43 Tryz.func15 rfl rfl (Nat.le_of_ble_eq_true rfl) fun a Z => ?_
 replace Z := Z.sub (ts := [0, 1, 2, 3]) rfl
 refine sR Z fun Z => ?_
 refine s_runk tRf Z 1 rfl rfl fun a Z => ?_
 refine s_end Z [0, 1, 2, 3] rfl fun Z => ?_
 refine p_then (wp_seq ?_)
 refine wp_seq ?_
 obtain ⟨n0, hx1, hF⟩ := bnd_in hF
 refine f_region Z fun Z => ?_
 refine s_runk tRf Z 1 rfl rfl fun a Z => ?_
 refine hC Z H [(0, false)] rfl #[] fn_19_YRf rfl rfl (fun D h => have q := c_rstate_State_none hx1 h; q) fun vv a w1 D2 hr hF2 Z => ?_
 obtain ⟨rfl, I1, K⟩ := hr
 have H := (hF2 K).nf rfl
 refine s_end Z [0, 1, 2, 3, 13] rfl fun Z => ?_
 refine p_then ?_
 refine f_cond Z rfl (fun hc1 => ?_) (fun hc1 => ?_)
 ·replace hF := ite_t hc1 hF
  refine sR Z fun Z => ?_
  refine s_runk tRf Z 1 rfl rfl fun a Z => ?_
  refine s_end Z [8] rfl fun Z => ?_
  refine p_then (wp_ret ?_)
  refine p_then_r ?_
  obtain rfl := some_in hF
  exact f_ret Z (run_results1 rfl Z rfl) ⟨rfl, I1, (H.sub [(0, false), (0, false)] rfl).eq rfl⟩
 ·replace hF := ite_f hc1 hF
  refine wp_skip ?_
  refine pR Z fun Z => ?_
  refine s_runk tRf Z 3 rfl rfl fun a Z => ?_
  refine s_end Z [0, 1, 2, 3, 9] rfl fun Z => ?_
  refine p_then (wp_seq ?_)
  refine wp_block ?_
  refine f_iter hF (fun sg a' w' => match sg with | (at_, s0_2, m_2) => Sl 43 [(0, pp b_s0 0), (1, pp b_m 0), (2, vI from_), (3, vI to_), (9, vI at_)] a' ∧ ∃ I2, Hf I D w I2 w' [OErstate_State b_s0 s0_2, OEmvcc_Store b_m m_2]) ⟨Z.sub (ts := [0, 1, 2, 3, 9]) rfl, ⟨I1, (H.sub [(0, false), (0, false)] rfl).eq rfl⟩⟩ ?_
  rintro rc ⟨at_, s0_2, m_2⟩ a w2 ⟨Z, I2, H⟩ hF
  unfold F_rstate_State_Feed_l1 at hF
  try dsimp only at hF
  refine wp_seq ?_
  refine wp_seq ?_
  obtain ⟨s0_3, hx2, hF⟩ := bnd_in hF
  refine f_region Z fun Z => ?_
  refine s_runk tRf Z 3 rfl rfl fun a Z => ?_
  refine hC Z H [(0, false)] rfl #[] fn_17_YRf rfl rfl (fun D h => have q := c_rstate_State_Stamped hx2 h; q) fun vv a w3 D2 hr hF2 Z => ?_
  obtain ⟨rfl, I3, K⟩ := hr
  have H := (hF2 K).nf rfl
  refine s_runk tRf Z 2 rfl rfl fun a Z => ?_
  refine s_end Z [0, 1, 2, 3, 9, 21] rfl fun Z => ?_
  refine p_then ?_
  refine f_cond Z rfl (fun hc2 => ?_) (fun hc2 => ?_)
  ·replace hF := ite_t hc2 hF
   refine wp_skip ?_
   refine p_then (wp_seq ?_)
   refine wp_block ?_
   refine wp_seq ?_
   obtain ⟨⟨v1, v2⟩, H⟩ := H.openX 0 rfl
   replace H := H.nf rfl; try dsimp only at H
   rcases optE_in hF with ⟨ho1, hF⟩ | ⟨x, ho1, hF⟩
   ·obtain ⟨hv, H⟩ := H.optN 1 rfl ho1
    (try have Zq43 := Z); subst hv; (try have Z := Zq43)
    replace H := H.nf rfl; try dsimp only at H
    obtain ⟨n0_2, hx3, hF⟩ := bnd_in hF
    refine f_region Z fun Z => ?_
    refine s_runk tRf Z 3 rfl rfl fun a Z => ?_
    refine sO Z _ rfl (oL tRf rfl rfl (H.bc 0 0 rfl rfl)) fun a Z => ?_
    refine s_runk tRf Z 1 rfl rfl fun a Z => ?_
    refine hC Z H [] rfl #[] fn_44_YRf rfl rfl (fun D h => have q := c_rlog_Log_At_nil hx3 h; q) fun vv a w4 D2 hr hF2 Z => ?_
    obtain ⟨q1, rfl, I4, K⟩ := hr
    have H := (hF2 K).nf rfl
    refine s_runk tRf Z 3 rfl rfl fun a Z => ?_
    refine hA Z H [vI 0, vI 0, nS, vU 0] rfl rfl (by kernel_rfl) fun a w5 b2 H Z => ?_
    refine hT tRf Z H 0 rfl rfl rfl rfl rfl (onR 2 rfl (one_cons (slS.one (H.owshape 1 rfl)) (one_cons rfl one_nil))) (Nat.le_of_ble_eq_true rfl) rfl fun w6 H => ?_
    dsimp only [List.eraseIdx] at H
    refine s_runk tRf Z 1 rfl rfl fun a Z => ?_
    refine s_end Z [0, 1, 2, 3, 9, 10] rfl fun Z => ?_
    refine p_then ?_
    obtain ⟨p, hx4, hF⟩ := bnd_in hF
    refine f_region Z fun Z => ?_
    refine s_runk tRf Z 2 rfl rfl fun a Z => ?_
    refine sO Z _ rfl (oL tRf rfl rfl (H.bc 0 3 rfl rfl)) fun a Z => ?_
    refine s_runk tRf Z 2 rfl rfl fun a Z => ?_
    refine sO Z _ rfl (oL tRf rfl rfl (H.bc 0 2 rfl rfl)) fun a Z => ?_
    obtain ⟨I5, _, H⟩ := H.frzow 1 rfl
    replace H := H.nf rfl; try dsimp only at H
    refine hC Z H [(4, false), (0, true)] rfl #[] fn_45_YRf rfl rfl (fun D h => have q := c_mvcc_Store_Put hx4 h; q) fun vv a w7 D2 hr hF2 Z => ?_
    obtain ⟨rfl, I6, K⟩ := hr
    have H := (hF2 K).nf rfl
    refine s_end Z [0, 1, 2, 3, 9] rfl fun Z => ?_
    refine p_blk ?_
    refine p_then ?_
    obtain ⟨hg1, hF⟩ := chk_in hF
    refine f_region Z fun Z => ?_
    refine s_runk tRf Z 1 rfl rfl fun a Z => ?_
    refine sO Z (vI (at_ + 1)) rfl (Ob_add rfl rfl rfl (wrI hg1)) fun a Z => ?_
    refine s_runk tRf Z 1 rfl rfl fun a Z => ?_
    refine s_end Z [0, 1, 2, 3, 9] rfl fun Z => ?_
    refine p_then ?_
    replace H := H.mkN OErlog_Log
    replace H := H.sX (OErstate_State b_s0 ({ s0_3.2 with log := none } : Erstate_State)) (nP, v2) [(4, false), (0, false), (3, true)] rfl rfl rfl
    exact ⟨(at_ + 1, ({ s0_3.2 with log := none } : Erstate_State), p.2), ⟨Z.sub (ts := [0, 1, 2, 3, 9]) rfl, ⟨I6, (H.sub [(0, false), (0, false)] rfl).eq rfl⟩⟩, hF⟩
   ·obtain ⟨b1, hv, H⟩ := H.optS 1 rfl ho1
    (try have Zq44 := Z); subst hv; (try have Z := Zq44)
    replace H := H.nf rfl; try dsimp only at H
    obtain ⟨a0, hx5, hF⟩ := bnd_in hF
    refine f_region Z fun Z => ?_
    refine s_runk tRf Z 3 rfl rfl fun a Z => ?_
    refine sO Z _ rfl (oL tRf rfl rfl (H.bc 1 0 rfl rfl)) fun a Z => ?_
    refine s_runk tRf Z 1 rfl rfl fun a Z => ?_
    refine hC Z H [(0, false)] rfl #[] fn_44_YRf rfl rfl (fun D h => have q := d_rlog_Log_At hx5 h; q) fun vv a w8 D2 hr hF2 Z => ?_
    obtain ⟨q2, rfl, I7, K⟩ := hr
    have H := (hF2 K).nf rfl
    refine s_runk tRf Z 3 rfl rfl fun a Z => ?_
    refine hA Z H [vI 0, vI 0, nS, vU 0] rfl rfl (by kernel_rfl) fun a w9 b3 H Z => ?_
    refine hT tRf Z H 0 rfl rfl rfl rfl rfl (onR 2 rfl (one_cons (slS.one (H.owshape 2 rfl)) (one_cons rfl one_nil))) (Nat.le_of_ble_eq_true rfl) rfl fun w10 H => ?_
    dsimp only [List.eraseIdx] at H
    refine s_runk tRf Z 1 rfl rfl fun a Z => ?_
    refine s_end Z [0, 1, 2, 3, 9, 10] rfl fun Z => ?_
    refine p_then ?_
    obtain ⟨p_2, hx6, hF⟩ := bnd_in hF
    refine f_region Z fun Z => ?_
    refine s_runk tRf Z 2 rfl rfl fun a Z => ?_
    refine sO Z _ rfl (oL tRf rfl rfl (H.bc 0 3 rfl rfl)) fun a Z => ?_
    refine s_runk tRf Z 2 rfl rfl fun a Z => ?_
    refine sO Z _ rfl (oL tRf rfl rfl (H.bc 0 2 rfl rfl)) fun a Z => ?_
    obtain ⟨I8, _, H⟩ := H.frzow 2 rfl
    replace H := H.nf rfl; try dsimp only at H
    refine hC Z H [(5, false), (0, true)] rfl #[] fn_45_YRf rfl rfl (fun D h => have q := c_mvcc_Store_Put hx6 h; q) fun vv a w11 D2 hr hF2 Z => ?_
    obtain ⟨rfl, I9, K⟩ := hr
    have H := (hF2 K).nf rfl
    refine s_end Z [0, 1, 2, 3, 9] rfl fun Z => ?_
    refine p_blk ?_
    refine p_then ?_
    obtain ⟨hg2, hF⟩ := chk_in hF
    refine f_region Z fun Z => ?_
    refine s_runk tRf Z 1 rfl rfl fun a Z => ?_
    refine sO Z (vI (at_ + 1)) rfl (Ob_add rfl rfl rfl (wrI hg2)) fun a Z => ?_
    refine s_runk tRf Z 1 rfl rfl fun a Z => ?_
    refine s_end Z [0, 1, 2, 3, 9] rfl fun Z => ?_
    refine p_then ?_
    replace H := (H.mkS (K := OErlog_Log) 3 rfl).nf rfl
    replace H := H.sX (OErstate_State b_s0 ({ s0_3.2 with log := some x } : Erstate_State)) (pp b1 0, v2) [(4, false), (0, false), (3, true)] rfl rfl rfl
    exact ⟨(at_ + 1, ({ s0_3.2 with log := some x } : Erstate_State), p_2.2), ⟨Z.sub (ts := [0, 1, 2, 3, 9]) rfl, ⟨I9, (H.sub [(0, false), (0, false)] rfl).eq rfl⟩⟩, hF⟩
  ·replace hF := ite_f hc2 hF
   refine wp_exit ?_
   refine p_then_x ?_
   refine p_then_x ?_
   refine f_exit_here ?_
   refine pR Z fun Z => ?_
   refine s_runk tRf Z 4 rfl rfl fun a Z => ?_
   refine s_end Z [8] rfl fun Z => ?_
   refine p_then (wp_ret ?_)
   obtain rfl := some_in hF
   exact f_ret Z (run_results1 rfl Z rfl) ⟨rfl, I3, (H.sub [(0, false), (0, false)] rfl).eq rfl⟩

end Go.Proofs.YtglfajjcgbfehaaGreat
