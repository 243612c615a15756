/- What a replica knows: its notes, and places in its log. -/
import Derived.Test.YtglfajjcgbfehaaGreatYRf
import Derived.Test.YtglfajjcgbfehaaGreatYRlX
namespace Go.Proofs.YtglfajjcgbfehaaGreat
open Go.RowKit
def tRgL : TabL := ⟨[(31744, 0), (69632, 0), (69633, 1), (69634, 4)], [], [], [(22, (50, 18)), (32, (44, 4))], [(3, (1, false)), (22, (1, false)), (25, (1, false)), (29, (1, false)), (31, (3, true)), (44, (4, true)), (50, (18, true)), (65, (1, false))]⟩

def tRg : Tab Tryz.prog := ⟨tRgL, by kernel_rfl⟩

theorem fn_19_YRg : IsFn Tryz.prog 19 := ⟨_, Tryz.func19, by kernel_rfl, by kernel_rfl⟩

theorem fn_21_YRg : IsFn Tryz.prog 21 := ⟨_, Tryz.func21, by kernel_rfl, by kernel_rfl⟩

theorem fn_33_YRg : IsFn Tryz.prog 33 := ⟨_, Tryz.func33, by kernel_rfl, by kernel_rfl⟩

theorem fn_40_YRg : IsFn Tryz.prog 40 := ⟨_, Tryz.func40, by kernel_rfl, by kernel_rfl⟩

theorem fn_56_YRg : IsFn Tryz.prog 56 := ⟨_, Tryz.func56, by kernel_rfl, by kernel_rfl⟩

theorem fn_76_YRg : IsFn Tryz.prog 76 := ⟨_, Tryz.func76, by kernel_rfl, by kernel_rfl⟩

theorem fn_77_YRg : IsFn Tryz.prog 77 := ⟨_, Tryz.func77, by kernel_rfl, by kernel_rfl⟩

theorem fn_78_YRg : IsFn Tryz.prog 78 := ⟨_, Tryz.func78, by kernel_rfl, by kernel_rfl⟩

theorem fn_79_YRg : IsFn Tryz.prog 79 := ⟨_, Tryz.func79, by kernel_rfl, by kernel_rfl⟩

theorem E_22_YRg : Elem Tryz.prog 22 50 18 192 := ⟨Tryz.underlying22, by
 have h : (Tryz.prog.info? 50).map (fun i => (i.zero, i.size, i.bytes)) = some (some (.agg #[.int .i64 0, .int .i64 0, .int .u64 0, .int .i64 0, .slice none 0 0, .int .u64 0, .slice none 0 0, .int .i64 0, .int .i64 0, .slice none 0 0, .int .u64 0, .int .i64 0, .int .u64 0, .int .i64 0, .int .i64 0, .int .i64 0, .int .i64 0, .int .i64 0]), 18, 192) := by kernel_rfl
 obtain ⟨i, hi, h1⟩ := Option.map_eq_some_iff.1 h
 simp only [Prod.mk.injEq] at h1
 exact ⟨i, _, hi, h1.1, h1.2.1, h1.2.2, by rfl⟩, by decide⟩

def F_rlog_Log_Len_nil : Option Int := (F_rlog_Log_none_nil).bind fun n0 => (if (n0) = true then (some 0) else (none))

set_option maxHeartbeats 1000000 in
theorem c_rlog_Log_Len_nil {I D : Dm} {w : World} {rr : Int} (hF : F_rlog_Log_Len_nil = some rr) (H : St I D w []) :
  Calls Tryz.prog 76 #[nP] w (Ret fun vv w' => vv = vI rr ∧ ∃ I', Hf I D w I' w' []) := by
 replace H := H.hf
 unfold F_rlog_Log_Len_nil at hF
 refine f_enter 10 Tryz.func76 rfl rfl (Nat.le_of_ble_eq_true rfl) fun a Z => ?_
 replace Z := Z.sub (ts := [0]) rfl
 refine sR Z fun Z => ?_
 refine s_runk tRg Z 1 rfl rfl fun a Z => ?_
 refine s_end Z [0] rfl fun Z => ?_
 refine p_then (wp_seq ?_)
 refine wp_seq ?_
 obtain ⟨n0, hx1, hF⟩ := bnd_in hF
 refine f_region Z fun Z => ?_
 refine s_runk tRg Z 1 rfl rfl fun a Z => ?_
 refine hC Z H [] rfl #[] fn_56_YRg rfl rfl (fun D h => have q := c_rlog_Log_none_nil hx1 h; q) fun vv a w1 D2 hr hF2 Z => ?_
 obtain ⟨rfl, I1, K⟩ := hr
 have H := (hF2 K).nf rfl
 refine s_end Z [0, 4] rfl fun Z => ?_
 refine p_then ?_
 refine f_cond Z rfl (fun hc1 => ?_) (fun hc1 => ?_)
 ·replace hF := ite_t hc1 hF
  refine sR Z fun Z => ?_
  refine s_runk tRg Z 1 rfl rfl fun a Z => ?_
  refine s_end Z [2] rfl fun Z => ?_
  refine p_then (wp_ret ?_)
  refine p_then_r ?_
  obtain rfl := some_in hF
  exact f_ret Z (run_results1 rfl Z rfl) ⟨rfl, I1, (H.sub [] rfl).eq rfl⟩
 ·replace hF := ite_f hc1 hF
  refine wp_skip ?_
  refine p_then (wp_seq ?_)
  cases hF

def F_rstate_State_Len (s0 : Erstate_State) : Option (Int × Erstate_State) := (F_rstate_State_none s0).bind fun n0 => (if (n0) = true then (some (0, s0)) else (optE s0.log ((F_rlog_Log_Len_nil).bind fun n0_2 => (some (n0_2, ({ s0 with log := none } : Erstate_State)))) (fun x => (F_rlog_Log_Len x).bind fun l => (some (l, ({ s0 with log := some x } : Erstate_State))))))

set_option maxHeartbeats 1000000 in
theorem c_rstate_State_Len {I D : Dm} {b_s0 : Nat} {s0 : Erstate_State} {w : World} {rr : Int × Erstate_State} (hF : F_rstate_State_Len s0 = some rr) (H : St I D w [OErstate_State b_s0 s0]) :
  Calls Tryz.prog 34 #[pp b_s0 0] w (Ret fun vv w' => vv = vI rr.1 ∧ ∃ I', Hf I D w I' w' [OErstate_State b_s0 rr.2]) := by
 replace H := H.hf
 unfold F_rstate_State_Len at hF
 refine f_enter 10 Tryz.func34 rfl rfl (Nat.le_of_ble_eq_true rfl) fun a Z => ?_
 replace Z := Z.sub (ts := [0]) rfl
 refine sR Z fun Z => ?_
 refine s_runk tRg Z 1 rfl rfl fun a Z => ?_
 refine s_end Z [0] rfl fun Z => ?_
 refine p_then (wp_seq ?_)
 refine wp_seq ?_
 obtain ⟨n0, hx1, hF⟩ := bnd_in hF
 refine f_region Z fun Z => ?_
 refine s_runk tRg Z 1 rfl rfl fun a Z => ?_
 refine hC Z H [(0, false)] rfl #[] fn_19_YRg rfl rfl (fun D h => have q := c_rstate_State_none hx1 h; q) fun vv a w1 D2 hr hF2 Z => ?_
 obtain ⟨rfl, I1, K⟩ := hr
 have H := (hF2 K).nf rfl
 refine s_end Z [0, 4] rfl fun Z => ?_
 refine p_then ?_
 refine f_cond Z rfl (fun hc1 => ?_) (fun hc1 => ?_)
 ·replace hF := ite_t hc1 hF
  refine sR Z fun Z => ?_
  refine s_runk tRg Z 1 rfl rfl fun a Z => ?_
  refine s_end Z [2] rfl fun Z => ?_
  refine p_then (wp_ret ?_)
  refine p_then_r ?_
  obtain rfl := some_in hF
  exact f_ret Z (run_results1 rfl Z rfl) ⟨rfl, I1, (H.sub [(0, false)] rfl).eq rfl⟩
 ·replace hF := ite_f hc1 hF
  refine wp_skip ?_
  refine p_then (wp_seq ?_)
  obtain ⟨⟨v1, v2⟩, H⟩ := H.openX 0 rfl
  replace H := H.nf rfl; try dsimp only at H
  rcases optE_in hF with ⟨ho1, hF⟩ | ⟨x, ho1, hF⟩
  ·obtain ⟨hv, H⟩ := H.optN 1 rfl ho1
   (try have Zq46 := Z); subst hv; (try have Z := Zq46)
   replace H := H.nf rfl; try dsimp only at H
   obtain ⟨n0_2, hx2, hF⟩ := bnd_in hF
   refine f_region Z fun Z => ?_
   refine s_runk tRg Z 3 rfl rfl fun a Z => ?_
   refine sO Z _ rfl (oL tRg rfl rfl (H.bc 0 0 rfl rfl)) fun a Z => ?_
   refine hC Z H [] rfl #[] fn_76_YRg rfl rfl (fun D h => have q := c_rlog_Log_Len_nil hx2 h; q) fun vv a w2 D2 hr hF2 Z => ?_
   obtain ⟨rfl, I2, K⟩ := hr
   have H := (hF2 K).nf rfl
   refine s_runk tRg Z 1 rfl rfl fun a Z => ?_
   refine s_end Z [2] rfl fun Z => ?_
   refine p_then (wp_ret ?_)
   replace H := H.mkN OErlog_Log
   replace H := H.sX (OErstate_State b_s0 ({ s0 with log := none } : Erstate_State)) (nP, v2) [(1, false), (0, false), (0, true)] rfl rfl rfl
   obtain rfl := some_in hF
   exact f_ret Z (run_results1 rfl Z rfl) ⟨rfl, I2, (H.sub [(0, false)] rfl).eq rfl⟩
  ·obtain ⟨b1, hv, H⟩ := H.optS 1 rfl ho1
   (try have Zq47 := Z); subst hv; (try have Z := Zq47)
   replace H := H.nf rfl; try dsimp only at H
   obtain ⟨l, hx3, hF⟩ := bnd_in hF
   refine f_region Z fun Z => ?_
   refine s_runk tRg Z 3 rfl rfl fun a Z => ?_
   refine sO Z _ rfl (oL tRg rfl rfl (H.bc 1 0 rfl rfl)) fun a Z => ?_
   refine hC Z H [(0, false)] rfl #[] fn_76_YRg rfl rfl (fun D h => have q := d_rlog_Log_Len hx3 h; q) fun vv a w3 D2 hr hF2 Z => ?_
   obtain ⟨rfl, I3, K⟩ := hr
   have H := (hF2 K).nf rfl
   refine s_runk tRg Z 1 rfl rfl fun a Z => ?_
   refine s_end Z [2] rfl fun Z => ?_
   refine p_then (wp_ret ?_)
   replace H := (H.mkS (K := OErlog_Log) 0 rfl).nf rfl
   replace H := H.sX (OErstate_State b_s0 ({ s0 with log := some x } : Erstate_State)) (pp b1 0, v2) [(1, false), (0, false), (0, true)] rfl rfl rfl
   obtain rfl := some_in hF
   exact f_ret Z (run_results1 rfl Z rfl) ⟨rfl, I3, (H.sub [(0, false)] rfl).eq rfl⟩

def F_rlog_Log_Top_nil (client : Int) : Option Int := (F_rlog_Log_none_nil).bind fun n0 => (if (n0) = true then (some 0) else (none))

set_option maxHeartbeats 1000000 in
theorem c_rlog_Log_Top_nil {I D : Dm} {client : Int} {w : World} {rr : Int} (hF : F_rlog_Log_Top_nil client = some rr) (H : St I D w []) :
  Calls Tryz.prog 77 #[nP, vI client] w (Ret fun vv w' => vv = vI rr ∧ ∃ I', Hf I D w I' w' []) := by
 replace H := H.hf
 unfold F_rlog_Log_Top_nil at hF
 refine f_enter 27 Tryz.func77 rfl rfl (Nat.le_of_ble_eq_true rfl) fun a Z => ?_
 replace Z := Z.sub (ts := [0, 1]) rfl
 refine sR Z fun Z => ?_
 refine s_runk tRg Z 1 rfl rfl fun a Z => ?_
 refine s_end Z [0, 1] rfl fun Z => ?_
 refine p_then (wp_seq ?_)
 refine wp_seq ?_
 obtain ⟨n0, hx1, hF⟩ := bnd_in hF
 refine f_region Z fun Z => ?_
 refine s_runk tRg Z 1 rfl rfl fun a Z => ?_
 refine hC Z H [] rfl #[] fn_56_YRg rfl rfl (fun D h => have q := c_rlog_Log_none_nil hx1 h; q) fun vv a w1 D2 hr hF2 Z => ?_
 obtain ⟨rfl, I1, K⟩ := hr
 have H := (hF2 K).nf rfl
 refine s_end Z [0, 1, 8] rfl fun Z => ?_
 refine p_then ?_
 refine f_cond Z rfl (fun hc1 => ?_) (fun hc1 => ?_)
 ·replace hF := ite_t hc1 hF
  refine sR Z fun Z => ?_
  refine s_runk tRg Z 1 rfl rfl fun a Z => ?_
  refine s_end Z [4] rfl fun Z => ?_
  refine p_then (wp_ret ?_)
  refine p_then_r ?_
  obtain rfl := some_in hF
  exact f_ret Z (run_results1 rfl Z rfl) ⟨rfl, I1, (H.sub [] rfl).eq rfl⟩
 ·replace hF := ite_f hc1 hF
  refine wp_skip ?_
  refine pR Z fun Z => ?_
  refine s_runk tRg Z 1 rfl rfl fun a Z => ?_
  refine s_end Z [0, 1, 5] rfl fun Z => ?_
  refine p_then (wp_seq ?_)
  refine wp_seq ?_
  cases hF

def F_rstate_State_Top (s0 : Erstate_State) (client : Int) : Option (Int × Erstate_State) := (F_rstate_State_none s0).bind fun n0 => (if (n0) = true then (some (0, s0)) else (optE s0.log ((F_rlog_Log_Top_nil client).bind fun n0_2 => (some (n0_2, ({ s0 with log := none } : Erstate_State)))) (fun x => (F_rlog_Log_Top x client).bind fun t => (some (t.1, ({ s0 with log := some t.2 } : Erstate_State))))))

set_option maxHeartbeats 1000000 in
theorem c_rstate_State_Top {I D : Dm} {b_s0 : Nat} {s0 : Erstate_State} {client : Int} {w : World} {rr : Int × Erstate_State} (hF : F_rstate_State_Top s0 client = some rr) (H : St I D w [OErstate_State b_s0 s0]) :
  Calls Tryz.prog 36 #[pp b_s0 0, vI client] w (Ret fun vv w' => vv = vI rr.1 ∧ ∃ I', Hf I D w I' w' [OErstate_State b_s0 rr.2]) := by
 replace H := H.hf
 unfold F_rstate_State_Top at hF
 refine f_enter 13 Tryz.func36 rfl rfl (Nat.le_of_ble_eq_true rfl) fun a Z => ?_
 replace Z := Z.sub (ts := [0, 1]) rfl
 refine sR Z fun Z => ?_
 refine s_runk tRg Z 1 rfl rfl fun a Z => ?_
 refine s_end Z [0, 1] rfl fun Z => ?_
 refine p_then (wp_seq ?_)
 refine wp_seq ?_
 obtain ⟨n0, hx1, hF⟩ := bnd_in hF
 refine f_region Z fun Z => ?_
 refine s_runk tRg Z 1 rfl rfl fun a Z => ?_
 refine hC Z H [(0, false)] rfl #[] fn_19_YRg rfl rfl (fun D h => have q := c_rstate_State_none hx1 h; q) fun vv a w1 D2 hr hF2 Z => ?_
 obtain ⟨rfl, I1, K⟩ := hr
 have H := (hF2 K).nf rfl
 refine s_end Z [0, 1, 6] rfl fun Z => ?_
 refine p_then ?_
 refine f_cond Z rfl (fun hc1 => ?_) (fun hc1 => ?_)
 ·replace hF := ite_t hc1 hF
  refine sR Z fun Z => ?_
  refine s_runk tRg Z 1 rfl rfl fun a Z => ?_
  refine s_end Z [4] rfl fun Z => ?_
  refine p_then (wp_ret ?_)
  refine p_then_r ?_
  obtain rfl := some_in hF
  exact f_ret Z (run_results1 rfl Z rfl) ⟨rfl, I1, (H.sub [(0, false)] rfl).eq rfl⟩
 ·replace hF := ite_f hc1 hF
  refine wp_skip ?_
  refine p_then (wp_seq ?_)
  obtain ⟨⟨v1, v2⟩, H⟩ := H.openX 0 rfl
  replace H := H.nf rfl; try dsimp only at H
  rcases optE_in hF with ⟨ho1, hF⟩ | ⟨x, ho1, hF⟩
  ·obtain ⟨hv, H⟩ := H.optN 1 rfl ho1
   (try have Zq48 := Z); subst hv; (try have Z := Zq48)
   replace H := H.nf rfl; try dsimp only at H
   obtain ⟨n0_2, hx2, hF⟩ := bnd_in hF
   refine f_region Z fun Z => ?_
   refine s_runk tRg Z 3 rfl rfl fun a Z => ?_
   refine sO Z _ rfl (oL tRg rfl rfl (H.bc 0 0 rfl rfl)) fun a Z => ?_
   refine s_runk tRg Z 1 rfl rfl fun a Z => ?_
   refine hC Z H [] rfl #[] fn_77_YRg rfl rfl (fun D h => have q := c_rlog_Log_Top_nil hx2 h; q) fun vv a w2 D2 hr hF2 Z => ?_
   obtain ⟨rfl, I2, K⟩ := hr
   have H := (hF2 K).nf rfl
   refine s_runk tRg Z 1 rfl rfl fun a Z => ?_
   refine s_end Z [4] rfl fun Z => ?_
   refine p_then (wp_ret ?_)
   replace H := H.mkN OErlog_Log
   replace H := H.sX (OErstate_State b_s0 ({ s0 with log := none } : Erstate_State)) (nP, v2) [(1, false), (0, false), (0, true)] rfl rfl rfl
   obtain rfl := some_in hF
   exact f_ret Z (run_results1 rfl Z rfl) ⟨rfl, I2, (H.sub [(0, false)] rfl).eq rfl⟩
  ·obtain ⟨b1, hv, H⟩ := H.optS 1 rfl ho1
   (try have Zq49 := Z); subst hv; (try have Z := Zq49)
   replace H := H.nf rfl; try dsimp only at H
   obtain ⟨t, hx3, hF⟩ := bnd_in hF
   refine f_region Z fun Z => ?_
   refine s_runk tRg Z 3 rfl rfl fun a Z => ?_
   refine sO Z _ rfl (oL tRg rfl rfl (H.bc 1 0 rfl rfl)) fun a Z => ?_
   refine s_runk tRg Z 1 rfl rfl fun a Z => ?_
   refine hC Z H [(0, false)] rfl #[] fn_77_YRg rfl rfl (fun D h => have q := d_rlog_Log_Top hx3 h; q) fun vv a w3 D2 hr hF2 Z => ?_
   obtain ⟨rfl, I3, K⟩ := hr
   have H := (hF2 K).nf rfl
   refine s_runk tRg Z 1 rfl rfl fun a Z => ?_
   refine s_end Z [4] rfl fun Z => ?_
   refine p_then (wp_ret ?_)
   replace H := (H.mkS (K := OErlog_Log) 0 rfl).nf rfl
   replace H := H.sX (OErstate_State b_s0 ({ s0 with log := some t.2 } : Erstate_State)) (pp b1 0, v2) [(1, false), (0, false), (0, true)] rfl rfl rfl
   obtain rfl := some_in hF
   exact f_ret Z (run_results1 rfl Z rfl) ⟨rfl, I3, (H.sub [(0, false)] rfl).eq rfl⟩

def F_rlog_Log_Find_nil (client : Int) (req : Int) : Option Int := (F_rlog_Log_none_nil).bind fun n0 => (if (n0) = true then (some (-1)) else (none))

set_option maxHeartbeats 1000000 in
theorem c_rlog_Log_Find_nil {I D : Dm} {client : Int} {req : Int} {w : World} {rr : Int} (hF : F_rlog_Log_Find_nil client req = some rr) (H : St I D w []) :
  Calls Tryz.prog 78 #[nP, vI client, vI req] w (Ret fun vv w' => vv = vI rr ∧ ∃ I', Hf I D w I' w' []) := by
 replace H := H.hf
 unfold F_rlog_Log_Find_nil at hF
 refine f_enter 24 Tryz.func78 rfl rfl (Nat.le_of_ble_eq_true rfl) fun a Z => ?_
 replace Z := Z.sub (ts := [0, 1, 2]) rfl
 refine sR Z fun Z => ?_
 refine s_runk tRg Z 1 rfl rfl fun a Z => ?_
 refine s_end Z [0, 1, 2] rfl fun Z => ?_
 refine p_then (wp_seq ?_)
 refine wp_seq ?_
 obtain ⟨n0, hx1, hF⟩ := bnd_in hF
 refine f_region Z fun Z => ?_
 refine s_runk tRg Z 1 rfl rfl fun a Z => ?_
 refine hC Z H [] rfl #[] fn_56_YRg rfl rfl (fun D h => have q := c_rlog_Log_none_nil hx1 h; q) fun vv a w1 D2 hr hF2 Z => ?_
 obtain ⟨rfl, I1, K⟩ := hr
 have H := (hF2 K).nf rfl
 refine s_end Z [0, 1, 2, 10] rfl fun Z => ?_
 refine p_then ?_
 refine f_cond Z rfl (fun hc1 => ?_) (fun hc1 => ?_)
 ·replace hF := ite_t hc1 hF
  refine sR Z fun Z => ?_
  refine s_runk tRg Z 1 rfl rfl fun a Z => ?_
  refine s_end Z [6] rfl fun Z => ?_
  refine p_then (wp_ret ?_)
  refine p_then_r ?_
  obtain rfl := some_in hF
  exact f_ret Z (run_results1 rfl Z rfl) ⟨rfl, I1, (H.sub [] rfl).eq rfl⟩
 ·replace hF := ite_f hc1 hF
  refine wp_skip ?_
  refine p_then (wp_seq ?_)
  refine wp_seq ?_
  cases hF

def F_rstate_State_Find (s0 : Erstate_State) (client : Int) (req : Int) : Option (Int × Erstate_State) := (F_rstate_State_none s0).bind fun n0 => (if (n0) = true then (some ((-1), s0)) else (optE s0.log ((F_rlog_Log_Find_nil client req).bind fun n0_2 => (some (n0_2, ({ s0 with log := none } : Erstate_State)))) (fun x => (F_rlog_Log_Find x client req).bind fun f => (some (f.1, ({ s0 with log := some f.2 } : Erstate_State))))))

set_option maxHeartbeats 1000000 in
theorem c_rstate_State_Find {I D : Dm} {b_s0 : Nat} {s0 : Erstate_State} {client : Int} {req : Int} {w : World} {rr : Int × Erstate_State} (hF : F_rstate_State_Find s0 client req = some rr) (H : St I D w [OErstate_State b_s0 s0]) :
  Calls Tryz.prog 38 #[pp b_s0 0, vI client, vI req] w (Ret fun vv w' => vv = vI rr.1 ∧ ∃ I', Hf I D w I' w' [OErstate_State b_s0 rr.2]) := by
 replace H := H.hf
 unfold F_rstate_State_Find at hF
 refine f_enter 16 Tryz.func38 rfl rfl (Nat.le_of_ble_eq_true rfl) fun a Z => ?_
 replace Z := Z.sub (ts := [0, 1, 2]) rfl
 refine sR Z fun Z => ?_
 refine s_runk tRg Z 1 rfl rfl fun a Z => ?_
 refine s_end Z [0, 1, 2] rfl fun Z => ?_
 refine p_then (wp_seq ?_)
 refine wp_seq ?_
 obtain ⟨n0, hx1, hF⟩ := bnd_in hF
 refine f_region Z fun Z => ?_
 refine s_runk tRg Z 1 rfl rfl fun a Z => ?_
 refine hC Z H [(0, false)] rfl #[] fn_19_YRg rfl rfl (fun D h => have q := c_rstate_State_none hx1 h; q) fun vv a w1 D2 hr hF2 Z => ?_
 obtain ⟨rfl, I1, K⟩ := hr
 have H := (hF2 K).nf rfl
 refine s_end Z [0, 1, 2, 8] rfl fun Z => ?_
 refine p_then ?_
 refine f_cond Z rfl (fun hc1 => ?_) (fun hc1 => ?_)
 ·replace hF := ite_t hc1 hF
  refine sR Z fun Z => ?_
  refine s_runk tRg Z 1 rfl rfl fun a Z => ?_
  refine s_end Z [6] rfl fun Z => ?_
  refine p_then (wp_ret ?_)
  refine p_then_r ?_
  obtain rfl := some_in hF
  exact f_ret Z (run_results1 rfl Z rfl) ⟨rfl, I1, (H.sub [(0, false)] rfl).eq rfl⟩
 ·replace hF := ite_f hc1 hF
  refine wp_skip ?_
  refine p_then (wp_seq ?_)
  obtain ⟨⟨v1, v2⟩, H⟩ := H.openX 0 rfl
  replace H := H.nf rfl; try dsimp only at H
  rcases optE_in hF with ⟨ho1, hF⟩ | ⟨x, ho1, hF⟩
  ·obtain ⟨hv, H⟩ := H.optN 1 rfl ho1
   (try have Zq50 := Z); subst hv; (try have Z := Zq50)
   replace H := H.nf rfl; try dsimp only at H
   obtain ⟨n0_2, hx2, hF⟩ := bnd_in hF
   refine f_region Z fun Z => ?_
   refine s_runk tRg Z 3 rfl rfl fun a Z => ?_
   refine sO Z _ rfl (oL tRg rfl rfl (H.bc 0 0 rfl rfl)) fun a Z => ?_
   refine s_runk tRg Z 2 rfl rfl fun a Z => ?_
   refine hC Z H [] rfl #[] fn_78_YRg rfl rfl (fun D h => have q := c_rlog_Log_Find_nil hx2 h; q) fun vv a w2 D2 hr hF2 Z => ?_
   obtain ⟨rfl, I2, K⟩ := hr
   have H := (hF2 K).nf rfl
   refine s_runk tRg Z 1 rfl rfl fun a Z => ?_
   refine s_end Z [6] rfl fun Z => ?_
   refine p_then (wp_ret ?_)
   replace H := H.mkN OErlog_Log
   replace H := H.sX (OErstate_State b_s0 ({ s0 with log := none } : Erstate_State)) (nP, v2) [(1, false), (0, false), (0, true)] rfl rfl rfl
   obtain rfl := some_in hF
   exact f_ret Z (run_results1 rfl Z rfl) ⟨rfl, I2, (H.sub [(0, false)] rfl).eq rfl⟩
  ·obtain ⟨b1, hv, H⟩ := H.optS 1 rfl ho1
   (try have Zq51 := Z); subst hv; (try have Z := Zq51)
   replace H := H.nf rfl; try dsimp only at H
   obtain ⟨f, hx3, hF⟩ := bnd_in hF
   refine f_region Z fun Z => ?_
   refine s_runk tRg Z 3 rfl rfl fun a Z => ?_
   refine sO Z _ rfl (oL tRg rfl rfl (H.bc 1 0 rfl rfl)) fun a Z => ?_
   refine s_runk tRg Z 2 rfl rfl fun a Z => ?_
   refine hC Z H [(0, false)] rfl #[] fn_78_YRg rfl rfl (fun D h => have q := d_rlog_Log_Find hx3 h; q) fun vv a w3 D2 hr hF2 Z => ?_
   obtain ⟨rfl, I3, K⟩ := hr
   have H := (hF2 K).nf rfl
   refine s_runk tRg Z 1 rfl rfl fun a Z => ?_
   refine s_end Z [6] rfl fun Z => ?_
   refine p_then (wp_ret ?_)
   replace H := (H.mkS (K := OErlog_Log) 0 rfl).nf rfl
   replace H := H.sX (OErstate_State b_s0 ({ s0 with log := some f.2 } : Erstate_State)) (pp b1 0, v2) [(1, false), (0, false), (0, true)] rfl rfl rfl
   obtain rfl := some_in hF
   exact f_ret Z (run_results1 rfl Z rfl) ⟨rfl, I3, (H.sub [(0, false)] rfl).eq rfl⟩

def F_rstate_State_notes (s0 : Erstate_State) : Option Unit := some ()

set_option maxHeartbeats 1000000 in
theorem c_rstate_State_notes {I D : Dm} {b_s0 : Nat} {s0 : Erstate_State} {w : World} {rr : Unit} (hF : F_rstate_State_notes s0 = some rr) (H : St I D w [OErstate_State b_s0 s0]) :
  Calls Tryz.prog 40 #[pp b_s0 0] w (Ret fun vv w' => ∃ g1 : Nat, vv = .func (.func 79) #[] #[pp g1 0] ∧ ∃ I', Hf I D w I' w' [OErstate_State b_s0 s0, BxC g1 25 [pp b_s0 0]]) := by
 replace H := H.hf
 unfold F_rstate_State_notes at hF
 refine f_enter 4 Tryz.func40 rfl rfl (Nat.le_of_ble_eq_true rfl) fun a Z => ?_
 replace Z := Z.sub (ts := [0]) rfl
 refine sR Z fun Z => ?_
 refine hB Z H [pp b_s0 0] rfl rfl rfl rfl fun a w1 b1 H Z => ?_
 refine s_runk tRg Z 1 rfl rfl fun a Z => ?_
 refine s_end Z [1] rfl fun Z => ?_
 refine pR Z fun Z => ?_
 refine s_runk tRg Z 2 rfl rfl fun a Z => ?_
 refine s_end Z [2] rfl fun Z => ?_
 refine p_then (wp_ret ?_)
 obtain rfl := some_in hF
 exact f_ret Z (run_results1 rfl Z rfl) ⟨b1, rfl, I, (H.sub [(1, false), (0, false)] rfl).eq rfl⟩

def F_rstate_State_notes_1_l1 {σ : Type} (y : ENote → σ → Option (Bool × σ)) (a0 : (List EEntry) × Erstate_State) (rc : (Int × (Bool × σ)) → Option (Erstate_State × (Bool × σ))) (sg : Int × (Bool × σ)) : Option (Erstate_State × (Bool × σ)) := match sg with | (x, yY) => if (decide (x < (a0.1.length : Int))) = true then (chk ((0 : Int) ≤ x ∧ x < (a0.1.length : Int)) (chk (yY.1 = true) ((y ({ (default : ENote) with k := 2, n := x, entry := ({ (a0.1.getD (x).toNat default) with batch := ({ client := ((a0.1.getD (x).toNat default).batch).client, req := ((a0.1.getD (x).toNat default).batch).req, ops := ((a0.1.getD (x).toNat default).batch).ops } : EBatch) } : EEntry) } : ENote) yY.2).bind fun r0_2 => (if (!r0_2.1) = true then (some (a0.2, r0_2)) else (chk (inI (x + 1)) (rc (x + 1, r0_2))))))) else (chk (yY.1 = true) ((y ({ (default : ENote) with k := 4, at_ := a0.2.horizon } : ENote) yY.2).bind fun r0_3 => (some (a0.2, r0_3))))

def F_rstate_State_notes_1_l2 {σ : Type} (y : ENote → σ → Option (Bool × σ)) (a0_2 : (List EEntry) × Erstate_State) (rc_2 : (Int × (Bool × σ)) → Option (Erstate_State × (Bool × σ))) (sg : Int × (Bool × σ)) : Option (Erstate_State × (Bool × σ)) := match sg with | (x_2, yY_2) => if (decide (x_2 < (a0_2.1.length : Int))) = true then (chk ((0 : Int) ≤ x_2 ∧ x_2 < (a0_2.1.length : Int)) (chk (yY_2.1 = true) ((y ({ (default : ENote) with k := 2, n := x_2, entry := ({ (a0_2.1.getD (x_2).toNat default) with batch := ({ client := ((a0_2.1.getD (x_2).toNat default).batch).client, req := ((a0_2.1.getD (x_2).toNat default).batch).req, ops := ((a0_2.1.getD (x_2).toNat default).batch).ops } : EBatch) } : EEntry) } : ENote) yY_2.2).bind fun r0_4 => (if (!r0_4.1) = true then (some (a0_2.2, r0_4)) else (chk (inI (x_2 + 1)) (rc_2 (x_2 + 1, r0_4))))))) else (chk (yY_2.1 = true) ((y ({ (default : ENote) with k := 4, at_ := a0_2.2.horizon } : ENote) yY_2.2).bind fun r0_5 => (some (a0_2.2, r0_5))))

def F_rstate_State_notes_1 {σ : Type} (y : ENote → σ → Option (Bool × σ)) (x0 : Bool × σ) (p1 : Erstate_State) : Option (Erstate_State × (Bool × σ)) := if (decide (p1.conf.epoch > 0)) = true then ((F_rstate_own p1.conf).bind fun o => (chk (x0.1 = true) ((y ({ (default : ENote) with k := 1, conf := o } : ENote) x0.2).bind fun r0 => (if (!r0.1) = true then (some (p1, r0)) else ((F_rstate_State_All p1).bind fun a0 => (iter (F_rstate_State_notes_1_l1 y a0) FU (0, r0))))))) else ((F_rstate_State_All p1).bind fun a0_2 => (iter (F_rstate_State_notes_1_l2 y a0_2) FU (0, x0)))

set_option maxHeartbeats 1000000 in
theorem c_rstate_State_notes_1 {σ : Type} {I D : Dm} {Y : Bool × σ → Ch} {y : ENote → σ → Option (Bool × σ)} {x0 : Bool × σ} {ly : Nat} {b_p1 : Nat} {p1 : Erstate_State} {bb_p1 : Nat} {w : World} {rr : Erstate_State × (Bool × σ)} (hy : YieldOk Tryz.prog ly Y (fun (e_ : ENote) (v_ : Value × Value × Value) => .agg (cENote e_ v_.1 v_.2.1 v_.2.2).toArray) (fun (e_ : ENote) (v_ : Value × Value × Value) => [SlC NEMember v_.1 e_.conf.members, SlC Ni64 v_.2.1 e_.legit, SlC NEOp v_.2.2 e_.entry.batch.ops]) y) (hF : F_rstate_State_notes_1 y x0 p1 = some rr) (H : St I D w [BxC b_p1 25 [pp bb_p1 0], OErstate_State bb_p1 p1, Y x0]) :
  Calls Tryz.prog 79 #[.func (.yield ly) #[] #[], pp b_p1 0] w (Ret fun vv w' => vv = .tuple #[] ∧ ∃ I', Hf I D w I' w' [BxC b_p1 25 [pp bb_p1 0], OErstate_State bb_p1 rr.1, Y rr.2]) := by
 replace H := H.hf
 unfold F_rstate_State_notes_1 at hF
 refine f_enter 44 Tryz.func79 rfl rfl (Nat.le_of_ble_eq_true rfl) fun a Z => ?_
 replace Z := Z.sub (ts := [0, 1]) rfl
 refine wp_seq ?_
 refine wp_seq ?_
 refine f_regionY 14 (by kernel_rfl) (by rintro ⟨_, _, h⟩; exact h) Z fun Z => ?_
 refine sO Z _ rfl (oL tRg rfl rfl (H.bc 0 0 rfl rfl)) fun a Z => ?_
 refine s_runk tRg Z 3 rfl rfl fun a Z => ?_
 obtain ⟨⟨v1, v2⟩, H⟩ := H.openX 1 rfl
 replace H := H.nf rfl; try dsimp only at H
 refine sO Z _ rfl (oL tRg rfl rfl (H.bc 0 1 rfl rfl)) fun a Z => ?_
 refine s_runk tRg Z 2 rfl rfl fun a Z => ?_
 refine bsplit (decide (p1.conf.epoch > 0)) (fun hc1 => ?_) (fun hc1 => ?_)
 ·replace hF := ite_t hc1 hF; replace Z := Z.cnv (t := 11) rfl (show Value.bool (decide (p1.conf.epoch > 0)) = vT true from congrArg Value.bool hc1); replace Z := Z.sub (ts := [0, 1, 5, 6, 7, 8, 9, 10, 11]) rfl
  obtain ⟨o, hx1, hF⟩ := bnd_in hF
  obtain ⟨hg1, hF⟩ := chk_in hF
  obtain ⟨r0, hx2, hF⟩ := bnd_in hF
  refine g_if Z rfl rfl rfl (p := true) rfl rfl (by decide) (fun _ => ?_) (fun h => by cases h)
  refine s_runk tRg Z 1 rfl rfl fun a Z => ?_
  refine g_if Z rfl rfl rfl (p := true) rfl rfl (by decide) (fun _ => ?_) (fun h => by cases h)
  refine sO Z _ rfl (oL tRg rfl rfl (H.bc 3 0 rfl rfl)) fun a Z => ?_
  refine g_if Z rfl rfl rfl (p := true) rfl rfl (by decide) (fun _ => ?_) (fun h => by cases h)
  refine s_runk tRg Z 1 rfl rfl fun a Z => ?_
  refine g_if Z rfl rfl rfl (p := true) rfl rfl (by decide) (fun _ => ?_) (fun h => by cases h)
  refine s_runk tRg Z 1 rfl rfl fun a Z => ?_
  refine g_if Z rfl rfl rfl (p := true) rfl rfl (by decide) (fun _ => ?_) (fun h => by cases h)
  refine sO Z (.agg #[vI p1.conf.epoch, v2, vU p1.conf.floor]) rfl (oA tRg rfl rfl ((H.bx 0 rfl).part 1 rfl)) fun a Z => ?_
  refine g_if Z rfl rfl rfl (p := true) rfl rfl (by decide) (fun _ => ?_) (fun h => by cases h)
  refine hC Z H [(2, true)] rfl #[] fn_21_YRg rfl rfl (fun D h => have q := c_rstate_own hx1 h; q) fun vv a w1 D2 hr hF2 Z => ?_
  obtain ⟨q1, rfl, I1, K⟩ := hr
  have H := (hF2 K).nf rfl
  refine g_if Z rfl rfl rfl (p := true) rfl rfl (by decide) (fun _ => ?_) (fun h => by cases h)
  refine sO Z (.agg #[vI 1, vI 0, vU 0, vI o.epoch, q1, vU o.floor, nS, vI 0, vI 0, nS, vU 0, vI 0, vU 0, vI 0, vI 0, vI 0, vI 0, vI 0]) rfl (Ob_build (vs := [(0, vI 1), (3, .agg #[vI o.epoch, q1, vU o.floor])]) rfl rfl (by go_simp <;> rfl)) fun a Z => ?_
  refine s_mid ?_
  refine gY_yes Z rfl rfl rfl rfl ?_
  obtain ⟨I2, _, H⟩ := H.frzow 0 rfl
  replace H := H.nf rfl; try dsimp only at H
  replace H := H.slNil Ni64
  replace H := H.slNil NEOp
  refine h_yield Z H (js := [(2, true), (1, true), (0, true), (7, false)]) rfl rfl rfl rfl rfl rfl (by decide) rfl rfl (fun D1 hS => have hq := hy ({ (default : ENote) with k := 1, conf := o } : ENote) (q1, nS, nS) x0 _ hg1 hx2 hS; hq) fun vv a w2 D2 hr hF2 Z => ?_
  obtain ⟨rfl, I3, K⟩ := hr
  have H := (hF2 K).nf rfl
  refine l_back (by rintro ⟨_, _, h⟩; exact h) (by kernel_rfl) ?_
  refine g_if Z rfl rfl rfl (p := true) rfl rfl (by decide) (fun _ => ?_) (fun h => by cases h)
  refine s_runk tRg Z 1 rfl rfl fun a Z => ?_
  refine sO Z (vT (!r0.1)) rfl (Ob_pick rfl rfl rfl rfl rfl) fun a Z => ?_
  refine s_end Z [0, 1, 21] rfl fun Z => ?_
  refine p_then ?_
  refine f_cond Z rfl (fun hc2 => ?_) (fun hc2 => ?_)
  ·replace hF := ite_t hc2 hF
   refine wp_ret ?_
   refine p_then_r ?_
   replace H := H.sX (OErstate_State bb_p1 p1) (v1, v2) [(4, false), (4, false), (4, true)] rfl rfl rfl
   obtain rfl := some_in hF
   exact f_ret Z (run_results0 rfl) ⟨rfl, I3, (H.sub [(6, false), (0, false), (0, false)] rfl).eq rfl⟩
  ·replace hF := ite_f hc2 hF
   refine wp_skip ?_
   refine p_then (wp_seq ?_)
   refine wp_seq ?_
   obtain ⟨a0, hx3, hF⟩ := bnd_in hF
   refine f_region Z fun Z => ?_
   refine sO Z _ rfl (oL tRg rfl rfl (H.bc 7 0 rfl rfl)) fun a Z => ?_
   replace H := H.sX (OErstate_State bb_p1 p1) (v1, v2) [(4, false), (4, false), (4, true)] rfl rfl rfl
   refine hC Z H [(0, false)] rfl #[] fn_33_YRg rfl rfl (fun D h => have q := c_rstate_State_All hx3 h; q) fun vv a w3 D2 hr hF2 Z => ?_
   obtain ⟨q2, hvv, I4, K⟩ := hr; obtain rfl := hvv.symm
   have H := (hF2 K).nf rfl
   refine sO Z (vI (ln a0.1)) rfl (Ob_slen tRg rfl rfl rfl (H.slshape 1 rfl)) fun a Z => ?_
   refine s_runk tRg Z 1 rfl rfl fun a Z => ?_
   refine s_end Z [0, 1, 23, 24, 25] rfl fun Z => ?_
   refine p_then (wp_block ?_)
   refine f_iter hF (fun sg a' w' => match sg with | (x, yY) => Sl 44 [(0, .func (.yield ly) #[] #[]), (1, pp b_p1 0), (23, q2), (24, vI (ln a0.1)), (25, vI x)] a' ∧ ∃ I2, Hf I D w I2 w' [Y yY, BxC b_p1 25 [pp bb_p1 0], OErstate_State bb_p1 a0.2, SlC NEEntry q2 a0.1]) ⟨Z.sub (ts := [0, 1, 23, 24, 25]) rfl, ⟨I4, (H.sub [(2, false), (6, false), (0, false), (0, true)] rfl).eq rfl⟩⟩ ?_
   rintro rc ⟨x, yY⟩ a w4 ⟨Z, I5, H⟩ hF
   unfold F_rstate_State_notes_1_l1 at hF
   try dsimp only at hF
   refine sR Z fun Z => ?_
   refine s_runk tRg Z 1 rfl rfl fun a Z => ?_
   refine s_end Z [0, 1, 23, 24, 25, 26] rfl fun Z => ?_
   refine p_then (wp_seq ?_)
   refine f_cond Z rfl (fun hc3 => ?_) (fun hc3 => ?_)
   ·replace hF := ite_t hc3 hF
    refine wp_skip ?_
    refine p_then (wp_seq ?_)
    refine wp_block ?_
    refine wp_seq ?_
    obtain ⟨hg2, hF⟩ := chk_in hF
    refine f_region Z fun Z => ?_
    refine s_runk tRg Z 1 rfl rfl fun a Z => ?_
    refine sO Z (.pointer (some ⟨blkOf q2, oofOf q2 + (x).toNat * 4, none⟩)) rfl (Ob_sidx tRg rfl rfl rfl rfl (slPl (H.sl 3 rfl) hg2) hg2) fun a Z => ?_
    obtain ⟨_, ⟨u1, rfl, L1⟩, H⟩ := H.elG 3 rfl (x) (NEEntry.dft _ _)
    replace H := H.addsl L1
    replace H : Hf I D w I5 w4 [SlC NEOp u1 (((gi a0.1 x).batch).ops), AtG ((0 : Int) ≤ x ∧ x < (ln a0.1)) (blkOf q2) (oofOf q2 + (x).toNat * 4) (cEEntry (gi a0.1 x) u1), Y yY, BxC b_p1 25 [pp bb_p1 0], OErstate_State bb_p1 a0.2, SlC NEEntry q2 a0.1] := H
    refine sO Z (.agg (cEEntry (gi a0.1 x) u1).toArray) rfl (oA tRg rfl rfl ((H.atg 1 rfl hg2).part 0 rfl)) fun a Z => ?_
    refine hA Z H [vI 0, vI 0, nS, vU 0] rfl rfl (by kernel_rfl) fun a w5 b1 H Z => ?_
    refine s_runk tRg Z 1 rfl rfl fun a Z => ?_
    refine hT tRg Z H 0 rfl rfl rfl rfl rfl (onR 2 rfl (one_cons (slS.one (H.slshape 1 rfl)) (one_cons rfl one_nil))) (Nat.le_of_ble_eq_true rfl) rfl fun w6 H => ?_
    dsimp only [List.eraseIdx] at H
    refine s_end Z [0, 1, 23, 24, 25, 4, 3] rfl fun Z => ?_
    refine p_then (wp_seq ?_)
    obtain ⟨hg3, hF⟩ := chk_in hF
    obtain ⟨r0_2, hx4, hF⟩ := bnd_in hF
    refine f_regionY 4 (by kernel_rfl) (by rintro ⟨_, _, h⟩; exact h) Z fun Z => ?_
    refine s_runk tRg Z 2 rfl rfl fun a Z => ?_
    refine sO Z (.agg (cEEntry (gi a0.1 x) u1).toArray) rfl (oA tRg rfl rfl ((H.bx 0 rfl).part 0 rfl)) fun a Z => ?_
    refine sO Z (.agg #[vI 2, vI x, vU 0, vI 0, nS, vU 0, nS, vI (((gi a0.1 x).batch).client), vI (((gi a0.1 x).batch).req), u1, vU ((gi a0.1 x).ts), vI 0, vU 0, vI 0, vI 0, vI 0, vI 0, vI 0]) rfl (Ob_build (vs := [(0, vI 2), (1, vI x), (5, .agg (cEEntry (gi a0.1 x) u1).toArray)]) rfl rfl (by go_simp <;> rfl)) fun a Z => ?_
    refine s_mid ?_
    replace H := H.slNil NEMember
    replace H := H.slNil Ni64
    refine h_yield Z H (js := [(1, true), (0, true), (3, true), (5, false)]) rfl rfl rfl rfl rfl rfl (by decide) rfl rfl (fun D1 hS => have hq := hy ({ (default : ENote) with k := 2, n := x, entry := ({ (gi a0.1 x) with batch := ({ client := ((gi a0.1 x).batch).client, req := ((gi a0.1 x).batch).req, ops := ((gi a0.1 x).batch).ops } : EBatch) } : EEntry) } : ENote) (nS, nS, u1) yY _ hg3 hx4 hS; hq) fun vv a w7 D2 hr hF2 Z => ?_
    obtain ⟨rfl, I6, K⟩ := hr
    have H := (hF2 K).nf rfl
    refine l_back (by rintro ⟨_, _, h⟩; exact h) (by kernel_rfl) ?_
    refine s_runk tRg Z 1 rfl rfl fun a Z => ?_
    refine s_end Z [0, 1, 23, 24, 25, 35] rfl fun Z => ?_
    refine p_then ?_
    refine f_cond Z rfl (fun hc4 => ?_) (fun hc4 => ?_)
    ·replace hF := ite_t hc4 hF
     refine wp_ret ?_
     refine p_blk_r ?_
     refine p_then_r ?_
     refine p_then_r ?_
     refine p_blk_r ?_
     refine p_then_r ?_
     obtain rfl := some_in hF
     exact f_ret Z (run_results0 rfl) ⟨rfl, I6, (H.sub [(6, false), (6, false), (0, false)] rfl).eq rfl⟩
    ·replace hF := ite_f hc4 hF
     refine wp_skip ?_
     refine p_blk ?_
     refine p_then ?_
     obtain ⟨hg4, hF⟩ := chk_in hF
     refine f_region Z fun Z => ?_
     refine sO Z (vI (x + 1)) rfl (Ob_add rfl rfl rfl (wrI hg4)) fun a Z => ?_
     refine s_runk tRg Z 1 rfl rfl fun a Z => ?_
     refine s_end Z [0, 1, 23, 24, 25] rfl fun Z => ?_
     refine p_then ?_
     exact ⟨(x + 1, r0_2), ⟨Z.sub (ts := [0, 1, 23, 24, 25]) rfl, ⟨I6, (H.sub [(0, false), (5, false), (5, false), (5, true)] rfl).eq rfl⟩⟩, hF⟩
   ·replace hF := ite_f hc3 hF
    refine wp_exit ?_
    refine p_then_x ?_
    refine p_then_x ?_
    refine f_exit_here ?_
    refine p_then ?_
    obtain ⟨hg5, hF⟩ := chk_in hF
    obtain ⟨r0_3, hx5, hF⟩ := bnd_in hF
    refine f_regionY 6 (by kernel_rfl) (by rintro ⟨_, _, h⟩; exact h) Z fun Z => ?_
    refine s_runk tRg Z 1 rfl rfl fun a Z => ?_
    refine sO Z _ rfl (oL tRg rfl rfl (H.bc 1 0 rfl rfl)) fun a Z => ?_
    refine s_runk tRg Z 2 rfl rfl fun a Z => ?_
    obtain ⟨⟨v3, v4⟩, H⟩ := H.openX 2 rfl
    replace H := H.nf rfl; try dsimp only at H
    refine sO Z _ rfl (oL tRg rfl rfl (H.bc 0 4 rfl rfl)) fun a Z => ?_
    refine sO Z (.agg #[vI 4, vI 0, vU a0.2.horizon, vI 0, nS, vU 0, nS, vI 0, vI 0, nS, vU 0, vI 0, vU 0, vI 0, vI 0, vI 0, vI 0, vI 0]) rfl (Ob_build (vs := [(0, vI 4), (2, vU a0.2.horizon)]) rfl rfl (by go_simp <;> rfl)) fun a Z => ?_
    refine s_mid ?_
    replace H := H.slNil NEMember
    replace H := H.slNil Ni64
    replace H := H.slNil NEOp
    refine h_yield Z H (js := [(2, true), (1, true), (0, true), (6, false)]) rfl rfl rfl rfl rfl rfl (by decide) rfl rfl (fun D1 hS => have hq := hy ({ (default : ENote) with k := 4, at_ := a0.2.horizon } : ENote) (nS, nS, nS) yY _ hg5 hx5 hS; hq) fun vv a w8 D2 hr hF2 Z => ?_
    obtain ⟨rfl, I7, K⟩ := hr
    have H := (hF2 K).nf rfl
    refine l_back (by rintro ⟨_, _, h⟩; exact h) (by kernel_rfl) ?_
    refine s_end Z [] rfl fun Z => ?_
    replace H := H.sX (OErstate_State bb_p1 a0.2) (v3, v4) [(4, false), (4, false), (4, true)] rfl rfl rfl
    obtain rfl := some_in hF
    exact f_fall Z (run_results0 rfl) ⟨rfl, I7, (H.sub [(6, false), (0, false), (0, false)] rfl).eq rfl⟩
 ·replace hF := ite_f hc1 hF; replace Z := Z.cnv (t := 11) rfl (show Value.bool (decide (p1.conf.epoch > 0)) = vT false from congrArg Value.bool hc1); replace Z := Z.sub (ts := [0, 1, 5, 6, 7, 8, 9, 10, 11]) rfl
  refine g_if Z rfl rfl rfl (p := false) rfl rfl (by decide) (fun h => by cases h) fun _ a Z => ?_
  refine g_if Z rfl rfl rfl (p := false) rfl rfl (by decide) (fun h => by cases h) fun _ a Z => ?_
  refine g_if Z rfl rfl rfl (p := false) rfl rfl (by decide) (fun h => by cases h) fun _ a Z => ?_
  refine g_if Z rfl rfl rfl (p := false) rfl rfl (by decide) (fun h => by cases h) fun _ a Z => ?_
  refine g_if Z rfl rfl rfl (p := false) rfl rfl (by decide) (fun h => by cases h) fun _ a Z => ?_
  refine g_if Z rfl rfl rfl (p := false) rfl rfl (by decide) (fun h => by cases h) fun _ a Z => ?_
  refine g_if Z rfl rfl rfl (p := false) rfl rfl (by decide) (fun h => by cases h) fun _ a Z => ?_
  refine s_mid ?_
  refine gY_no Z rfl rfl rfl rfl rfl (by decide) fun a Z => ?_
  refine l_back (by rintro ⟨_, _, h⟩; exact h) (by kernel_rfl) ?_
  refine g_if Z rfl rfl rfl (p := false) rfl rfl (by decide) (fun h => by cases h) fun _ a Z => ?_
  refine sO Z (vT false) rfl (Ob_pick rfl rfl rfl rfl rfl) fun a Z => ?_
  refine s_end Z [0, 1, 21] rfl fun Z => ?_
  refine p_then ?_
  refine wp_cond_false (Z.ev rfl) ?_
  refine wp_skip ?_
  refine p_then (wp_seq ?_)
  refine wp_seq ?_
  obtain ⟨a0_2, hx6, hF⟩ := bnd_in hF
  refine f_region Z fun Z => ?_
  refine sO Z _ rfl (oL tRg rfl rfl (H.bc 3 0 rfl rfl)) fun a Z => ?_
  replace H := H.sX (OErstate_State bb_p1 p1) (v1, v2) [(0, false), (0, false), (0, true)] rfl rfl rfl
  refine hC Z H [(0, false)] rfl #[] fn_33_YRg rfl rfl (fun D h => have q := c_rstate_State_All hx6 h; q) fun vv a w9 D2 hr hF2 Z => ?_
  obtain ⟨q3, hvv, I8, K⟩ := hr; obtain rfl := hvv.symm
  have H := (hF2 K).nf rfl
  refine sO Z (vI (ln a0_2.1)) rfl (Ob_slen tRg rfl rfl rfl (H.slshape 1 rfl)) fun a Z => ?_
  refine s_runk tRg Z 1 rfl rfl fun a Z => ?_
  refine s_end Z [0, 1, 23, 24, 25] rfl fun Z => ?_
  refine p_then (wp_block ?_)
  refine f_iter hF (fun sg a' w' => match sg with | (x_2, yY_2) => Sl 44 [(0, .func (.yield ly) #[] #[]), (1, pp b_p1 0), (23, q3), (24, vI (ln a0_2.1)), (25, vI x_2)] a' ∧ ∃ I2, Hf I D w I2 w' [Y yY_2, BxC b_p1 25 [pp bb_p1 0], OErstate_State bb_p1 a0_2.2, SlC NEEntry q3 a0_2.1]) ⟨Z.sub (ts := [0, 1, 23, 24, 25]) rfl, ⟨I8, (H.sub [(4, false), (3, false), (0, false), (0, true)] rfl).eq rfl⟩⟩ ?_
  rintro rc_2 ⟨x_2, yY_2⟩ a w10 ⟨Z, I9, H⟩ hF
  unfold F_rstate_State_notes_1_l2 at hF
  try dsimp only at hF
  refine sR Z fun Z => ?_
  refine s_runk tRg Z 1 rfl rfl fun a Z => ?_
  refine s_end Z [0, 1, 23, 24, 25, 26] rfl fun Z => ?_
  refine p_then (wp_seq ?_)
  refine f_cond Z rfl (fun hc5 => ?_) (fun hc5 => ?_)
  ·replace hF := ite_t hc5 hF
   refine wp_skip ?_
   refine p_then (wp_seq ?_)
   refine wp_block ?_
   refine wp_seq ?_
   obtain ⟨hg6, hF⟩ := chk_in hF
   refine f_region Z fun Z => ?_
   refine s_runk tRg Z 1 rfl rfl fun a Z => ?_
   refine sO Z (.pointer (some ⟨blkOf q3, oofOf q3 + (x_2).toNat * 4, none⟩)) rfl (Ob_sidx tRg rfl rfl rfl rfl (slPl (H.sl 3 rfl) hg6) hg6) fun a Z => ?_
   obtain ⟨_, ⟨u2, rfl, L2⟩, H⟩ := H.elG 3 rfl (x_2) (NEEntry.dft _ _)
   replace H := H.addsl L2
   replace H : Hf I D w I9 w10 [SlC NEOp u2 (((gi a0_2.1 x_2).batch).ops), AtG ((0 : Int) ≤ x_2 ∧ x_2 < (ln a0_2.1)) (blkOf q3) (oofOf q3 + (x_2).toNat * 4) (cEEntry (gi a0_2.1 x_2) u2), Y yY_2, BxC b_p1 25 [pp bb_p1 0], OErstate_State bb_p1 a0_2.2, SlC NEEntry q3 a0_2.1] := H
   refine sO Z (.agg (cEEntry (gi a0_2.1 x_2) u2).toArray) rfl (oA tRg rfl rfl ((H.atg 1 rfl hg6).part 0 rfl)) fun a Z => ?_
   refine hA Z H [vI 0, vI 0, nS, vU 0] rfl rfl (by kernel_rfl) fun a w11 b2 H Z => ?_
   refine s_runk tRg Z 1 rfl rfl fun a Z => ?_
   refine hT tRg Z H 0 rfl rfl rfl rfl rfl (onR 2 rfl (one_cons (slS.one (H.slshape 1 rfl)) (one_cons rfl one_nil))) (Nat.le_of_ble_eq_true rfl) rfl fun w12 H => ?_
   dsimp only [List.eraseIdx] at H
   refine s_end Z [0, 1, 23, 24, 25, 4, 3] rfl fun Z => ?_
   refine p_then (wp_seq ?_)
   obtain ⟨hg7, hF⟩ := chk_in hF
   obtain ⟨r0_4, hx7, hF⟩ := bnd_in hF
   refine f_regionY 4 (by kernel_rfl) (by rintro ⟨_, _, h⟩; exact h) Z fun Z => ?_
   refine s_runk tRg Z 2 rfl rfl fun a Z => ?_
   refine sO Z (.agg (cEEntry (gi a0_2.1 x_2) u2).toArray) rfl (oA tRg rfl rfl ((H.bx 0 rfl).part 0 rfl)) fun a Z => ?_
   refine sO Z (.agg #[vI 2, vI x_2, vU 0, vI 0, nS, vU 0, nS, vI (((gi a0_2.1 x_2).batch).client), vI (((gi a0_2.1 x_2).batch).req), u2, vU ((gi a0_2.1 x_2).ts), vI 0, vU 0, vI 0, vI 0, vI 0, vI 0, vI 0]) rfl (Ob_build (vs := [(0, vI 2), (1, vI x_2), (5, .agg (cEEntry (gi a0_2.1 x_2) u2).toArray)]) rfl rfl (by go_simp <;> rfl)) fun a Z => ?_
   refine s_mid ?_
   replace H := H.slNil NEMember
   replace H := H.slNil Ni64
   refine h_yield Z H (js := [(1, true), (0, true), (3, true), (5, false)]) rfl rfl rfl rfl rfl rfl (by decide) rfl rfl (fun D1 hS => have hq := hy ({ (default : ENote) with k := 2, n := x_2, entry := ({ (gi a0_2.1 x_2) with batch := ({ client := ((gi a0_2.1 x_2).batch).client, req := ((gi a0_2.1 x_2).batch).req, ops := ((gi a0_2.1 x_2).batch).ops } : EBatch) } : EEntry) } : ENote) (nS, nS, u2) yY_2 _ hg7 hx7 hS; hq) fun vv a w13 D2 hr hF2 Z => ?_
   obtain ⟨rfl, I10, K⟩ := hr
   have H := (hF2 K).nf rfl
   refine l_back (by rintro ⟨_, _, h⟩; exact h) (by kernel_rfl) ?_
   refine s_runk tRg Z 1 rfl rfl fun a Z => ?_
   refine s_end Z [0, 1, 23, 24, 25, 35] rfl fun Z => ?_
   refine p_then ?_
   refine f_cond Z rfl (fun hc6 => ?_) (fun hc6 => ?_)
   ·replace hF := ite_t hc6 hF
    refine wp_ret ?_
    refine p_blk_r ?_
    refine p_then_r ?_
    refine p_then_r ?_
    refine p_blk_r ?_
    refine p_then_r ?_
    obtain rfl := some_in hF
    exact f_ret Z (run_results0 rfl) ⟨rfl, I10, (H.sub [(6, false), (6, false), (0, false)] rfl).eq rfl⟩
   ·replace hF := ite_f hc6 hF
    refine wp_skip ?_
    refine p_blk ?_
    refine p_then ?_
    obtain ⟨hg8, hF⟩ := chk_in hF
    refine f_region Z fun Z => ?_
    refine sO Z (vI (x_2 + 1)) rfl (Ob_add rfl rfl rfl (wrI hg8)) fun a Z => ?_
    refine s_runk tRg Z 1 rfl rfl fun a Z => ?_
    refine s_end Z [0, 1, 23, 24, 25] rfl fun Z => ?_
    refine p_then ?_
    exact ⟨(x_2 + 1, r0_4), ⟨Z.sub (ts := [0, 1, 23, 24, 25]) rfl, ⟨I10, (H.sub [(0, false), (5, false), (5, false), (5, true)] rfl).eq rfl⟩⟩, hF⟩
  ·replace hF := ite_f hc5 hF
   refine wp_exit ?_
   refine p_then_x ?_
   refine p_then_x ?_
   refine f_exit_here ?_
   refine p_then ?_
   obtain ⟨hg9, hF⟩ := chk_in hF
   obtain ⟨r0_5, hx8, hF⟩ := bnd_in hF
   refine f_regionY 6 (by kernel_rfl) (by rintro ⟨_, _, h⟩; exact h) Z fun Z => ?_
   refine s_runk tRg Z 1 rfl rfl fun a Z => ?_
   refine sO Z _ rfl (oL tRg rfl rfl (H.bc 1 0 rfl rfl)) fun a Z => ?_
   refine s_runk tRg Z 2 rfl rfl fun a Z => ?_
   obtain ⟨⟨v5, v6⟩, H⟩ := H.openX 2 rfl
   replace H := H.nf rfl; try dsimp only at H
   refine sO Z _ rfl (oL tRg rfl rfl (H.bc 0 4 rfl rfl)) fun a Z => ?_
   refine sO Z (.agg #[vI 4, vI 0, vU a0_2.2.horizon, vI 0, nS, vU 0, nS, vI 0, vI 0, nS, vU 0, vI 0, vU 0, vI 0, vI 0, vI 0, vI 0, vI 0]) rfl (Ob_build (vs := [(0, vI 4), (2, vU a0_2.2.horizon)]) rfl rfl (by go_simp <;> rfl)) fun a Z => ?_
   refine s_mid ?_
   replace H := H.slNil NEMember
   replace H := H.slNil Ni64
   replace H := H.slNil NEOp
   refine h_yield Z H (js := [(2, true), (1, true), (0, true), (6, false)]) rfl rfl rfl rfl rfl rfl (by decide) rfl rfl (fun D1 hS => have hq := hy ({ (default : ENote) with k := 4, at_ := a0_2.2.horizon } : ENote) (nS, nS, nS) yY_2 _ hg9 hx8 hS; hq) fun vv a w14 D2 hr hF2 Z => ?_
   obtain ⟨rfl, I11, K⟩ := hr
   have H := (hF2 K).nf rfl
   refine l_back (by rintro ⟨_, _, h⟩; exact h) (by kernel_rfl) ?_
   refine s_end Z [] rfl fun Z => ?_
   replace H := H.sX (OErstate_State bb_p1 a0_2.2) (v5, v6) [(4, false), (4, false), (4, true)] rfl rfl rfl
   obtain rfl := some_in hF
   exact f_fall Z (run_results0 rfl) ⟨rfl, I11, (H.sub [(6, false), (0, false), (0, false)] rfl).eq rfl⟩

def F_rstate_State_Notes_y1 (e_ : ENote) (sg : (List ENote)) : Option (Bool × (List ENote)) := match sg with | out => chk (((out.length + [e_].length : Nat) : Int) * 192 ≤ 140737488355328) (some (true, (out ++ [e_])))

def F_rstate_State_Notes (s0 : Erstate_State) : Option ((List ENote) × Erstate_State) := (F_rstate_State_none s0).bind fun n0 => (if (n0) = true then (some (([] : List ENote), s0)) else ((F_rstate_State_notes s0).bind fun n0_2 => ((F_rstate_State_notes_1 F_rstate_State_Notes_y1 (true, ([] : List ENote)) s0).bind fun r0 => (if (r0.2.1) = true then (some (r0.2.2, r0.1)) else (none)))))

set_option maxHeartbeats 1000000 in
theorem c_rstate_State_Notes {I D : Dm} {b_s0 : Nat} {s0 : Erstate_State} {w : World} {rr : (List ENote) × Erstate_State} (hF : F_rstate_State_Notes s0 = some rr) (H : St I D w [OErstate_State b_s0 s0]) :
  Calls Tryz.prog 11 #[pp b_s0 0] w (Ret fun vv w' => ∃ q1 : Value, vv = q1 ∧ ∃ I', Hf I D w I' w' [OErstate_State b_s0 rr.2, OwC NENote 50 q1 rr.1]) := by
 replace H := H.hf
 unfold F_rstate_State_Notes at hF
 refine f_enterM 15 Tryz.func11 rfl rfl (Nat.le_of_ble_eq_true rfl) fun a Z => ?_
 replace Z := Z.sub (ts := [0]) rfl
 refine sR Z fun Z => ?_
 refine s_runk tRg Z 1 rfl rfl fun a Z => ?_
 refine s_end Z [0, 2] rfl fun Z => ?_
 refine p_then (wp_seq ?_)
 refine wp_seq ?_
 obtain ⟨n0, hx1, hF⟩ := bnd_in hF
 refine f_region Z fun Z => ?_
 refine s_runk tRg Z 1 rfl rfl fun a Z => ?_
 refine hC Z H [(0, false)] rfl #[] fn_19_YRg rfl rfl (fun D h => have q := c_rstate_State_none hx1 h; q) fun vv a w1 D2 hr hF2 Z => ?_
 obtain ⟨rfl, I1, K⟩ := hr
 have H := (hF2 K).nf rfl
 refine s_end Z [0, 2, 6] rfl fun Z => ?_
 refine p_then ?_
 refine f_cond Z rfl (fun hc1 => ?_) (fun hc1 => ?_)
 ·replace hF := ite_t hc1 hF
  refine sR Z fun Z => ?_
  refine s_runk tRg Z 1 rfl rfl fun a Z => ?_
  refine s_end Z [2] rfl fun Z => ?_
  refine p_then (wp_ret ?_)
  refine p_then_r ?_
  replace H := H.nilow NENote 50
  obtain rfl := some_in hF
  exact f_retM0 Z (run_results1 rfl Z rfl) ⟨nS, rfl, I1, (H.sub [(1, false), (0, false)] rfl).eq rfl⟩
 ·replace hF := ite_f hc1 hF
  refine wp_skip ?_
  refine pR Z fun Z => ?_
  refine hA1 Z H (nS) rfl rfl (by kernel_rfl) rfl fun a w2 b1 H Z => ?_
  refine s_end Z [0, 2, 3] rfl fun Z => ?_
  refine p_then (wp_seq ?_)
  refine wp_seq ?_
  obtain ⟨n0_2, hx2, hF⟩ := bnd_in hF
  refine f_region Z fun Z => ?_
  refine s_runk tRg Z 1 rfl rfl fun a Z => ?_
  refine hC Z H [(1, false)] rfl #[] fn_40_YRg rfl rfl (fun D h => have q := c_rstate_State_notes hx2 h; q) fun vv a w3 D2 hr hF2 Z => ?_
  obtain ⟨g1, rfl, I2, K⟩ := hr
  have H := (hF2 K).nf rfl
  refine s_end Z [2, 3, 8] rfl fun Z => ?_
  refine p_then (wp_block ?_)
  replace H := H.nilow NENote 50
  replace H := Hf.shutX (f := fun (xv_ : Value) => [BxC b1 22 [xv_], OwC NENote 50 xv_ ([] : List ENote)]) (nS) H [(3, false), (0, false)] rfl
  obtain ⟨r0, hx3, hF⟩ := bnd_in hF
  refine f_rangeFunc (KC := (fun (sg_ : (List ENote)) => ExC fun (xv_ : Value) => [BxC b1 22 [xv_], OwC NENote 50 xv_ sg_])) (s0 := ([] : List ENote)) (enc := (fun (e_ : ENote) (v_ : Value × Value × Value) => .agg (cENote e_ v_.1 v_.2.1 v_.2.2).toArray)) (ech := (fun (e_ : ENote) (v_ : Value × Value × Value) => [SlC NEMember v_.1 e_.conf.members, SlC Ni64 v_.2.1 e_.legit, SlC NEOp v_.2.2 e_.entry.batch.ops])) (c0 := .skip) (rr := r0.2) Z H (js := [(0, false), (1, false), (0, false)]) rfl [BxC g1 25 [pp b_s0 0], OErstate_State b_s0 r0.1] fn_79_YRg rfl (by decide) ?_ (fun L Y hyk hS => have hq := c_rstate_State_notes_1 hyk hx3 hS; Ret.mono hq fun _ _ h => h.2) ?_
  ·clear hF H Z
   intro m I D w L D0 fn tm e_ v_ sg_ rr a hF Z H
   obtain ⟨out, rfl⟩ : ∃ x_, x_ = sg_ := ⟨_, rfl⟩
   obtain ⟨u1, u2, u3⟩ := v_
   obtain ⟨v1, H⟩ := H.openX 1 rfl
   replace H := H.nf rfl; try dsimp only at H
   unfold F_rstate_State_Notes_y1 at hF; try dsimp only at hF
   refine f_regionI (by kernel_rfl) (by rintro ⟨_, _, h⟩; exact h) Z fun Z => ?_
   refine hA Z H [vI 0, vI 0, vU 0, vI 0, nS, vU 0, nS, vI 0, vI 0, nS, vU 0, vI 0, vU 0, vI 0, vI 0, vI 0, vI 0, vI 0] rfl rfl (by kernel_rfl) fun a w5 b2 H Z => ?_
   refine hT tRg Z H 0 rfl rfl rfl rfl rfl (onR 4 rfl (one_cons (slS.one (H.slshape 4 rfl)) (one_cons rfl (one_cons (slS.one (H.slshape 5 rfl)) (onR 2 rfl (one_cons (slS.one (H.slshape 6 rfl)) (onR 8 rfl one_nil))))))) (Nat.le_of_ble_eq_true rfl) (putCells_all rfl) fun w6 H => ?_
   dsimp only [List.eraseIdx] at H
   refine s_end Z [2, 3, 8, 9, 4] rfl fun Z => ?_
   refine p_begin H 3 rfl fun w7 H => ?_
   replace H := H.nf rfl; try dsimp only at H
   refine wpIn_block ?_
   obtain ⟨hg1, hF⟩ := chk_in hF
   refine f_regionI (by kernel_rfl) (by rintro ⟨_, _, h⟩; exact h) Z fun Z => ?_
   refine sO Z _ rfl (oL tRg rfl rfl (H.bc 2 0 rfl rfl)) fun a Z => ?_
   refine sO Z (.agg (cENote e_ u1 u2 u3).toArray) rfl (oA tRg rfl rfl ((H.bx 1 rfl).part 0 rfl)) fun a Z => ?_
   refine h_bslice Z H (vs := [(0, .agg #[vI e_.k, vI e_.n, vU e_.at_, vI e_.conf.epoch, u1, vU e_.conf.floor, u2, vI e_.entry.batch.client, vI e_.entry.batch.req, u3, vU e_.entry.ts, vI e_.pin.id, vU e_.pin.at_, vI e_.pin.left, vI e_.said.client, vI e_.said.req, vI e_.said.e, vI e_.said.pin])]) (cl := [vI e_.k, vI e_.n, vU e_.at_, vI e_.conf.epoch, u1, vU e_.conf.floor, u2, vI e_.entry.batch.client, vI e_.entry.batch.req, u3, vU e_.entry.ts, vI e_.pin.id, vU e_.pin.at_, vI e_.pin.left, vI e_.said.client, vI e_.said.req, vI e_.said.e, vI e_.said.pin]) (e := 50) rfl rfl rfl (by decide) rfl rfl (fun w => run_bslice (z := .agg #[vI 0, vI 0, vU 0, vI 0, nS, vU 0, nS, vI 0, vI 0, nS, vU 0, vI 0, vU 0, vI 0, vI 0, vI 0, vI 0, vI 0]) (m := 18) Tryz.underlying22 (by kernel_rfl) rfl rfl (by decide) (by simp [Instr.fill, Value.cells]) w) fun a w8 b3 H Z => ?_
   refine h_appO Z H 4 E_22_YRg [e_] rfl rfl rfl rfl rfl (by decide) rfl rfl rfl (slRep2.box1 (H.bx 0 rfl) ⟨_, _, _, rfl, (H.sl 5 rfl), (H.sl 6 rfl), (H.sl 7 rfl)⟩) hg1 (by decide) fun v2 a w9 H Z => ?_
   dsimp only [List.eraseIdx] at H
   replace H := (H.sub [(0, false), (1, false), (1, false), (1, false), (1, true), (2, true), (3, true)] rfl).nf rfl
   refine hT tRg Z H 3 rfl rfl (slS.cells (H.owshape 0 rfl)) rfl rfl (one_cons (slS.one (H.owshape 0 rfl)) one_nil) (Nat.le_of_ble_eq_true rfl) rfl fun w10 H => ?_
   dsimp only [List.eraseIdx] at H
   refine s_end Z [2, 3, 8, 9, 4, 10, 11, 12, 13] rfl fun Z => ?_
   refine p_blk ?_
   refine y_norm H 2 rfl fun w11 H => ?_
   obtain rfl := some_in hF
   exact ⟨rfl, I, ((Hf.shutX (f := fun (xv_ : Value) => [BxC b1 22 [xv_], OwC NENote 50 xv_ (out ++ [e_])]) v2 H [(1, false), (1, false)] rfl).sub [(1, false), (0, false)] rfl).eq rfl⟩
  ·intro D0_1 a w12 I4 Z H
   obtain ⟨v3, H⟩ := H.openX 1 rfl
   replace H := H.nf rfl; try dsimp only at H
   refine ⟨fun hc2 => ?_, fun hc2 => ?_⟩
   ·replace hF := ite_t hc2 hF
    refine p_blk ?_
    refine pR Z fun Z => ?_
    refine sO Z _ rfl (oL tRg rfl rfl (H.bc 0 0 rfl rfl)) fun a Z => ?_
    refine s_runk tRg Z 1 rfl rfl fun a Z => ?_
    refine s_end Z [2] rfl fun Z => ?_
    refine p_then (wp_ret ?_)
    refine f_retM Z H 2 rfl fun w13 H => ?_
    replace H := H.nf rfl; try dsimp only at H
    obtain rfl := some_in hF
    exact ⟨_, (run_results1 rfl Z rfl), v3, rfl, I4, (H.sub [(4, false), (2, false)] rfl).eq rfl⟩
   ·replace hF := ite_f hc2 hF
    cases hF

end Go.Proofs.YtglfajjcgbfehaaGreat
