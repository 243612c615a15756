/- A replica's log: the program's, with labels (whose a block is). -/
import Derived.Test.YtglfajjcgbfehaaGreatYRv
import Derived.Test.YtglfajjcgbfehaaGreatYOx
import Derived.Test.YtglfajjcgbfehaaGreatYNote
import Derived.Test.YtglfajjcgbfehaaGreatProg
namespace Go.Proofs.YtglfajjcgbfehaaGreat
open Go.RowKit
variable {T0 : Lb} {A0 A1 : Dm}
structure Erlog_who where
 client : Int
 req : Int

instance : Inhabited Erlog_who := ⟨⟨0, 0⟩⟩

def eqErlog_who (x y : Erlog_who) : Bool := (x.client == y.client) && (x.req == y.req)

theorem eqErlog_who_iff {x y : Erlog_who} : eqErlog_who x y = true ↔ x = y := by cases x; cases y; simp [eqErlog_who, seqB_iff, and_assoc]

structure Erlog_Log where
 l : List EEntry
 at_ : Option (List (Erlog_who × Int))
 stamped : Int

instance : Inhabited Erlog_Log := ⟨⟨[], none, 0⟩⟩

def cErlog_Log (x : Erlog_Log) (v0 : Value) (v1 : Value) : List Value := [v0, v1, .int .i64 x.stamped]

instance : DecidableEq Erlog_who := fun _ _ => decidable_of_iff _ eqErlog_who_iff

@[reducible] def M_99 : MapE Erlog_who Int := ⟨fun k => .agg #[.int .i64 k.client, .int .i64 k.req], fun v => .int .i64 v, fun k => inI k.client ∧ inI k.req, fun a b _ _ h => by cases a; cases b; simp at h; simp [h]⟩

theorem MF_99 : MapF Tryz.prog 99 M_99 0 := ⟨113, 3, Go.deep_law_gate (by kernel_rfl) (of_decide_eq_true (by kernel_rfl)) (of_decide_eq_true (by kernel_rfl)) (by kernel_rfl) (by rw [Tryz.underlying113]), fun a h => by exact keyOf_two Tryz.underlying113 (by kernel_rfl) (by kernel_rfl) (by kernel_rfl) (by kernel_rfl) (by kernel_rfl) Tryz.underlying3 ⟨_, (by kernel_rfl : Tryz.prog.types.size = 180 + 1)⟩ (Lit_wfI h.1) (Lit_wfI h.2), Tryz.underlying99, run_zero0 (by kernel_rfl)⟩

theorem MK_99 : MapK Tryz.prog 99 113 M_99 := ⟨MF_99.keyed Tryz.underlying99⟩

def XErlog_Log (T0 : Lb) (A0 : Dm) (b : Nat) (x : Erlog_Log) : Ch := ExC fun (p : Value × Value × LbX T0 A0) => [BxC b 101 (cErlog_Log x p.1 p.2.1), OwC (NEEntryO p.2.2.1) 44 p.1 x.l, PmC M_99 p.2.1 x.at_]

def tDgL : TabL := ⟨[(43008, 0), (43009, 1), (43010, 2), (45056, 0), (45057, 3), (103424, 0), (103425, 1), (103426, 2), (115712, 0), (115713, 1)], [], [], [(32, (44, 4)), (40, (58, 3))], [(3, (1, false)), (29, (1, false)), (32, (1, false)), (40, (1, false)), (44, (4, true)), (99, (1, false)), (101, (3, true)), (113, (2, true)), (147, (2, true))]⟩

def tDg : Tab Tryz.prog := ⟨tDgL, by kernel_rfl⟩

theorem fn_53_YDg : IsFn Tryz.prog 53 := ⟨_, Tryz.func53, by kernel_rfl, by kernel_rfl⟩

theorem fn_56_YDg : IsFn Tryz.prog 56 := ⟨_, Tryz.func56, by kernel_rfl, by kernel_rfl⟩

theorem fn_57_YDg : IsFn Tryz.prog 57 := ⟨_, Tryz.func57, by kernel_rfl, by kernel_rfl⟩

theorem fn_58_YDg : IsFn Tryz.prog 58 := ⟨_, Tryz.func58, by kernel_rfl, by kernel_rfl⟩

theorem fn_59_YDg : IsFn Tryz.prog 59 := ⟨_, Tryz.func59, by kernel_rfl, by kernel_rfl⟩

theorem fn_60_YDg : IsFn Tryz.prog 60 := ⟨_, Tryz.func60, by kernel_rfl, by kernel_rfl⟩

theorem fn_61_YDg : IsFn Tryz.prog 61 := ⟨_, Tryz.func61, by kernel_rfl, by kernel_rfl⟩

theorem fn_62_YDg : IsFn Tryz.prog 62 := ⟨_, Tryz.func62, by kernel_rfl, by kernel_rfl⟩

theorem fn_63_YDg : IsFn Tryz.prog 63 := ⟨_, Tryz.func63, by kernel_rfl, by kernel_rfl⟩

theorem fn_90_YDg : IsFn Tryz.prog 90 := ⟨_, Tryz.func90, by kernel_rfl, by kernel_rfl⟩

theorem fn_91_YDg : IsFn Tryz.prog 91 := ⟨_, Tryz.func91, by kernel_rfl, by kernel_rfl⟩

theorem E_32_YDg : Elem Tryz.prog 32 44 4 48 := ⟨Tryz.underlying32, by
 have h : (Tryz.prog.info? 44).map (fun i => (i.zero, i.size, i.bytes)) = some (some (.agg #[.int .i64 0, .int .i64 0, .slice none 0 0, .int .u64 0]), 4, 48) := by kernel_rfl
 obtain ⟨i, hi, h1⟩ := Option.map_eq_some_iff.1 h
 simp only [Prod.mk.injEq] at h1
 exact ⟨i, _, hi, h1.1, h1.2.1, h1.2.2, by rfl⟩, by decide⟩

theorem E_40_YDg : Elem Tryz.prog 40 58 3 40 := ⟨Tryz.underlying40, by
 have h : (Tryz.prog.info? 58).map (fun i => (i.zero, i.size, i.bytes)) = some (some (.agg #[.string ByteArray.empty, .string ByteArray.empty, .bool false]), 3, 40) := by kernel_rfl
 obtain ⟨i, hi, h1⟩ := Option.map_eq_some_iff.1 h
 simp only [Prod.mk.injEq] at h1
 exact ⟨i, _, hi, h1.1, h1.2.1, h1.2.2, by rfl⟩, by decide⟩

theorem eql_a147 (a b c d : Int) (w : World) : (binOp .eql 147 (.agg #[.int .i64 a, .int .i64 b]) (.agg #[.int .i64 c, .int .i64 d])).run Tryz.prog w = .ok (.bool ((a == c && b == d))) w := run_eql_pair Tryz.underlying147 Tryz.underlying3 (by kernel_rfl) (by kernel_rfl) a b c d w

theorem eqga_147 (op : BinOp) (x y : Operand) (a b : Array Value) (w : World) : (eqGuard op 147 x y (.agg a) (.agg b)).run Tryz.prog w = .ok () w := run_eqGuard_agg (by kernel_rfl) op x y a b w

def F_slices_Clone_api_Op_api_Op (s0 : List EOp) : Option (List EOp) := chk (((([] : List EOp).length + s0.length : Nat) : Int) * 40 ≤ 140737488355328) (some s0)

theorem c_slices_Clone_api_Op_api_Op {I D : Dm} {v_s0 : Value} {s0 : List EOp} {w : World} {rr : List EOp} (hF : F_slices_Clone_api_Op_api_Op s0 = some rr) (H : St I D w [SlC NEOp v_s0 s0]) :
  Calls Tryz.prog 91 #[v_s0] w (Ret fun vv w' => ∃ q1 : Value, vv = q1 ∧ ∃ I', Hf I D w I' w' [OwC NEOp 58 q1 rr]) := by
 replace H := H.hf
 unfold F_slices_Clone_api_Op_api_Op at hF
 obtain ⟨hg, hF⟩ := chk_in hF
 obtain rfl := some_in hF
 obtain ⟨ao, cap, rfl, _, _⟩ := H.slshape 0 rfl
 refine f_enter 8 Tryz.func91 rfl rfl (Nat.le_of_ble_eq_true rfl) fun a Z => ?_
 replace Z := Z.sub (ts := [0]) rfl
 refine sR Z fun Z => ?_
 refine s_runk tDg Z 1 rfl rfl fun a Z => ?_
 refine s_end Z [0, 2] rfl fun Z => ?_
 refine p_then (wp_seq ?_)
 refine sR Z fun Z => ?_
 refine s_runk tDg Z 1 rfl rfl fun a Z => ?_
 refine sO Z (vT ao.isNone) rfl (Ob_bin rfl rfl rfl (eqg_sl _ _ _ _ _ _ _ _ _ _ _) (run_eql_slice_nil' Tryz.underlying40 _ _ _ _)) fun a Z => ?_
 refine s_end Z [0, 2, 4] rfl fun Z => ?_
 refine p_then ?_
 refine f_cond Z rfl (fun hc1 => ?_) (fun hc1 => ?_)
 ·have e := (H.sl 0 rfl).isNone hc1
  subst e
  refine sR Z fun Z => ?_
  refine s_runk tDg Z 1 rfl rfl fun a Z => ?_
  refine s_end Z [0, 2] rfl fun Z => ?_
  refine p_then (wp_ret ?_)
  refine p_then_r ?_
  exact f_ret Z (run_results1 rfl Z rfl) ⟨_, rfl, I, ((H.nilow NEOp 58).sub [(0, false)] rfl).eq rfl⟩
 ·refine wp_skip ?_
  refine pR Z fun Z => ?_
  refine h_bslice Z H (vs := []) (cl := []) (e := 58) rfl rfl rfl (by decide) rfl rfl (fun w => run_bslice (z := .agg #[vS ByteArray.empty, vS ByteArray.empty, vT false]) (m := 3) Tryz.underlying40 (by kernel_rfl) rfl rfl (by decide) (by simp [Instr.fill, Value.cells]) w) fun a w1 b1 H Z => ?_
  refine s_runk tDg Z 1 rfl rfl fun a Z => ?_
  replace H : Hf I D w I w1 [OwC NEOp 58 (.slice (some ⟨b1, 0, none⟩) 0 0) [], SlC NEOp (.slice ao s0.length cap) s0] := H.emptyow 0 rfl NEOp
  refine h_appO Z H 0 E_40_YDg s0 rfl rfl rfl rfl rfl (by decide) rfl rfl rfl (H.sl2 1 rfl) hg (by decide) fun v1 a w2 H Z => ?_
  refine s_runk tDg Z 1 rfl rfl fun a Z => ?_
  refine s_end Z [2] rfl fun Z => ?_
  refine p_then (wp_ret ?_)
  exact f_ret Z (run_results1 rfl Z rfl) ⟨_, rfl, I, (H.sub [(0, false)] rfl).eq rfl⟩

def F_rlog_of (e : EEntry) : Option Erlog_who := some ({ client := e.batch.client, req := e.batch.req } : Erlog_who)

set_option maxHeartbeats 1000000 in
theorem c_rlog_of {I D : Dm} {e : EEntry} {v1_e : Value} {w : World} {rr : Erlog_who} (hF : F_rlog_of e = some rr) (H : St I D w [SlC NEOp v1_e e.batch.ops]) :
  Calls Tryz.prog 61 #[.agg (cEEntry e v1_e).toArray] w (Ret fun vv w' => vv = .agg #[vI rr.client, vI rr.req] ∧ ∃ I', Hf I D w I' w' []) := by
 replace H := H.hf
 unfold F_rlog_of at hF
 refine f_enter 10 Tryz.func61 rfl rfl (Nat.le_of_ble_eq_true rfl) fun a Z => ?_
 replace Z := Z.sub (ts := [0]) rfl
 refine sR Z fun Z => ?_
 refine h_boxv Z H (cl := (cEEntry e v1_e)) rfl rfl rfl (by decide) rfl rfl rfl fun a w1 b1 H Z => ?_
 refine hA Z H [vI 0, vI 0] rfl rfl (by kernel_rfl) fun a w2 b2 H Z => ?_
 refine s_end Z [1, 2] rfl fun Z => ?_
 refine pR Z fun Z => ?_
 refine s_runk tDg Z 2 rfl rfl fun a Z => ?_
 refine sO Z _ rfl (oL tDg rfl rfl (H.bc 1 0 rfl rfl)) fun a Z => ?_
 refine s_runk tDg Z 2 rfl rfl fun a Z => ?_
 refine sO Z _ rfl (oL tDg rfl rfl (H.bc 1 1 rfl rfl)) fun a Z => ?_
 refine sO Z (.agg #[vI e.batch.client, vI e.batch.req]) rfl (Ob_build (vs := [(0, vI e.batch.client), (1, vI e.batch.req)]) rfl rfl (by go_simp <;> rfl)) fun a Z => ?_
 refine hT tDg Z H 0 rfl rfl rfl rfl rfl (onR 2 rfl one_nil) (Nat.le_of_ble_eq_true rfl) rfl fun w3 H => ?_
 dsimp only [List.eraseIdx] at H
 refine s_end Z [2] rfl fun Z => ?_
 refine p_then (wp_ret ?_)
 obtain rfl := some_in hF
 exact f_ret Z (run_resultsC rfl Z rfl (run_loadVar_agg tDg rfl (H.bx 0 rfl).at)) ⟨rfl, I, (H.sub [] rfl).eq rfl⟩

def F_rlog_own (e : EEntry) : Option EEntry := (F_slices_Clone_api_Op_api_Op e.batch.ops).bind fun o => (some ({ e with batch := ({ e.batch with ops := o } : EBatch) } : EEntry))

set_option maxHeartbeats 1000000 in
theorem c_rlog_own {I D : Dm} {e : EEntry} {v1_e : Value} {w : World} {rr : EEntry} (hF : F_rlog_own e = some rr) (H : St I D w [SlC NEOp v1_e e.batch.ops]) :
  Calls Tryz.prog 60 #[.agg (cEEntry e v1_e).toArray] w (Ret fun vv w' => ∃ q1 : Value, vv = .agg (cEEntry rr q1).toArray ∧ ∃ I', Hf I D w I' w' [OwC NEOp 58 q1 rr.batch.ops]) := by
 replace H := H.hf
 unfold F_rlog_own at hF
 refine f_enter 10 Tryz.func60 rfl rfl (Nat.le_of_ble_eq_true rfl) fun a Z => ?_
 replace Z := Z.sub (ts := [0]) rfl
 refine sR Z fun Z => ?_
 refine h_boxv Z H (cl := (cEEntry e v1_e)) rfl rfl rfl (by decide) rfl rfl rfl fun a w1 b1 H Z => ?_
 refine hA Z H [vI 0, vI 0, nS, vU 0] rfl rfl (by kernel_rfl) fun a w2 b2 H Z => ?_
 refine s_end Z [1, 2] rfl fun Z => ?_
 refine p_then (wp_seq ?_)
 obtain ⟨o, hx1, hF⟩ := bnd_in hF
 refine f_region Z fun Z => ?_
 refine s_runk tDg Z 2 rfl rfl fun a Z => ?_
 refine sO Z _ rfl (oL tDg rfl rfl (H.bc 1 2 rfl rfl)) fun a Z => ?_
 refine hC Z H [(2, true)] rfl #[] fn_91_YDg rfl rfl (fun D h => have q := c_slices_Clone_api_Op_api_Op hx1 h; q) fun vv a w3 D2 hr hF2 Z => ?_
 obtain ⟨q1, hvv, I1, K⟩ := hr; obtain rfl := hvv.symm
 have H := (hF2 K).nf rfl
 refine s_runk tDg Z 2 rfl rfl fun a Z => ?_
 refine hT tDg Z H 2 rfl rfl (slS.cells (H.owshape 0 rfl)) rfl rfl (one_cons (slS.one (H.owshape 0 rfl)) one_nil) (Nat.le_of_ble_eq_true rfl) rfl fun w4 H => ?_
 dsimp only [List.eraseIdx] at H
 refine s_end Z [1, 2] rfl fun Z => ?_
 refine pR Z fun Z => ?_
 refine sO Z (.agg (cEEntry e q1).toArray) rfl (oA tDg rfl rfl ((H.bx 0 rfl).part 0 rfl)) fun a Z => ?_
 refine hT tDg Z H 2 rfl rfl rfl rfl rfl (onR 2 rfl (one_cons (slS.one (H.owshape 1 rfl)) (one_cons rfl one_nil))) (Nat.le_of_ble_eq_true rfl) rfl fun w5 H => ?_
 dsimp only [List.eraseIdx] at H
 refine s_end Z [2] rfl fun Z => ?_
 refine p_then (wp_ret ?_)
 obtain rfl := some_in hF
 exact f_ret Z (run_resultsC rfl Z rfl (run_loadVar_agg tDg rfl (H.bx 0 rfl).at)) ⟨q1, rfl, I1, (H.sub [(2, false)] rfl).eq rfl⟩

def F_rlog_New : Option Erlog_Log := some ({ (default : Erlog_Log) with at_ := some ([] : List (Erlog_who × Int)) } : Erlog_Log)

set_option maxHeartbeats 1000000 in
theorem c_rlog_New {I D : Dm} {w : World} {rr : Erlog_Log} (hF : F_rlog_New = some rr) (H : St I D w []) :
  Calls Tryz.prog 18 #[] w (Ret fun vv w' => ∃ g1 : Nat, vv = pp g1 0 ∧ ∃ I', Hf I D w I' w' [XErlog_Log T0 A0 g1 rr]) := by
 replace H := H.hf
 unfold F_rlog_New at hF
 refine f_enter 4 Tryz.func18 rfl rfl (Nat.le_of_ble_eq_true rfl) fun a Z => ?_
 replace Z := Z.sub (ts := []) rfl
 refine sR Z fun Z => ?_
 refine s_runk tDg Z 1 rfl rfl fun a Z => ?_
 refine s_end Z [0] rfl fun Z => ?_
 refine pR Z fun Z => ?_
 refine h_mkmap Z H M_99 rfl rfl rfl (by decide) rfl fun a w1 b1 H Z => ?_
 refine sO Z (.agg #[nS, .map (some b1), vI 0]) rfl (Ob_build (vs := [(1, .map (some b1))]) rfl rfl (by go_simp <;> rfl)) fun a Z => ?_
 refine hB Z H [nS, .map (some b1), vI 0] rfl rfl rfl rfl fun a w2 b2 H Z => ?_
 refine s_runk tDg Z 1 rfl rfl fun a Z => ?_
 refine s_end Z [0] rfl fun Z => ?_
 refine p_then (wp_ret ?_)
 replace H := (H.mkMS 1 rfl).nf rfl
 replace H := H.nilow (NEEntryO (LbX.start T0 A0).1) 44
 replace H := H.sX (XErlog_Log T0 A0 b2 ({ (default : Erlog_Log) with at_ := some ([] : List (Erlog_who × Int)) } : Erlog_Log)) (nS, .map (some b1), (LbX.start T0 A0)) [(2, false), (0, false), (0, false)] rfl rfl rfl
 obtain rfl := some_in hF
 exact f_ret Z (run_results1 rfl Z rfl) ⟨b2, rfl, I, (H.sub [(0, false)] rfl).eq rfl⟩

def F_rlog_Log_none (l : Erlog_Log) : Option Bool := some l.at_.isNone

set_option maxHeartbeats 1000000 in
theorem c_rlog_Log_none {I D : Dm} {b_l : Nat} {l : Erlog_Log} {w : World} {rr : Bool} (hF : F_rlog_Log_none l = some rr) (H : St I D w [XErlog_Log T0 A0 b_l l]) :
  Calls Tryz.prog 56 #[pp b_l 0] w (Ret fun vv w' => vv = vT rr ∧ ∃ I', Hf I D w I' w' [XErlog_Log T0 A0 b_l l]) := by
 replace H := H.hf
 unfold F_rlog_Log_none at hF
 refine f_enter 12 Tryz.func56 rfl rfl (Nat.le_of_ble_eq_true rfl) fun a Z => ?_
 replace Z := Z.sub (ts := [0]) rfl
 refine sR Z fun Z => ?_
 refine s_runk tDg Z 1 rfl rfl fun a Z => ?_
 refine s_end Z [0, 2] rfl fun Z => ?_
 refine pR Z fun Z => ?_
 refine s_runk tDg Z 1 rfl rfl fun a Z => ?_
 refine sO Z (vT false) rfl (Ob_pnil rfl rfl rfl Tryz.underlying65 (.inl ⟨rfl, rfl⟩)) fun a Z => ?_
 refine s_runk tDg Z 1 rfl rfl fun a Z => ?_
 refine g_if Z rfl rfl rfl (p := true) rfl rfl (by decide) (fun _ => ?_) (fun h => by cases h)
 refine s_runk tDg Z 1 rfl rfl fun a Z => ?_
 refine g_if Z rfl rfl rfl (p := true) rfl rfl (by decide) (fun _ => ?_) (fun h => by cases h)
 refine s_runk tDg Z 1 rfl rfl fun a Z => ?_
 refine g_if Z rfl rfl rfl (p := true) rfl rfl (by decide) (fun _ => ?_) (fun h => by cases h)
 refine s_runk tDg Z 1 rfl rfl fun a Z => ?_
 refine g_if Z rfl rfl rfl (p := true) rfl rfl (by decide) (fun _ => ?_) (fun h => by cases h)
 obtain ⟨⟨v1, v2, T1⟩, H⟩ := H.openX 0 rfl
 replace H := H.nf rfl; try dsimp only at H
 refine sO Z _ rfl (oL tDg rfl rfl (H.bc 0 1 rfl rfl)) fun a Z => ?_
 refine g_if Z rfl rfl rfl (p := true) rfl rfl (by decide) (fun _ => ?_) (fun h => by cases h)
 refine sO Z (vT l.at_.isNone) rfl (Ob_pmap (q := l.at_.isNone) rfl rfl rfl Tryz.underlying99 (H.optMI 2 rfl) (.inl ⟨rfl, rfl⟩)) fun a Z => ?_
 refine sO Z (vT l.at_.isNone) rfl (Ob_pick rfl rfl rfl rfl rfl) fun a Z => ?_
 refine s_runk tDg Z 1 rfl rfl fun a Z => ?_
 refine s_end Z [2] rfl fun Z => ?_
 refine p_then (wp_ret ?_)
 replace H := H.sX (XErlog_Log T0 A0 b_l l) (v1, v2, T1) [(0, false), (0, false), (0, false)] rfl rfl rfl
 obtain rfl := some_in hF
 exact f_ret Z (run_results1 rfl Z rfl) ⟨rfl, I, (H.sub [(0, false)] rfl).eq rfl⟩

def F_rlog_Log_may (l : Erlog_Log) (i : Int) (e : EEntry) : Option (Int × Erlog_Log) := if ((decide (i < 0)) || (decide (i > (l.l.length : Int)))) = true then (some (1, l)) else ((F_item_Check e).bind fun c => (if (c != 0) = true then (some (c, l)) else (if (decide (i ≥ 100)) = true then (some (6, l)) else (optE l.at_ (none) (fun m => (F_rlog_of e).bind fun o => (chk (inI o.client ∧ inI o.req) (if (((mget m o).isSome) && (decide (((mget m o).getD 0) < i))) = true then (some (18, ({ l with at_ := some m } : Erlog_Log))) else (chk (((e.ts != 0) && (decide (i > 0))) = true → inI (i - 1)) (chk (((e.ts != 0) && (decide (i > 0))) = true → (0 : Int) ≤ i - 1 ∧ i - 1 < (l.l.length : Int)) (chk ((((e.ts != 0) && (decide (i > 0))) && (!(((l.l.getD (i - 1).toNat default).ts) == 0))) = true → inI (i - 1)) (chk ((((e.ts != 0) && (decide (i > 0))) && (!(((l.l.getD (i - 1).toNat default).ts) == 0))) = true → (0 : Int) ≤ i - 1 ∧ i - 1 < (l.l.length : Int)) (if (((e.ts != 0) && (decide (i > 0))) && ((((l.l.getD (i - 1).toNat default).ts) == 0) || (decide ((l.l.getD (i - 1).toNat default).ts ≥ e.ts)))) = true then (some (18, ({ l with at_ := some m } : Erlog_Log))) else (some (0, ({ l with at_ := some m } : Erlog_Log)))))))))))))))

set_option maxHeartbeats 1000000 in
theorem c_rlog_Log_may {I D : Dm} {b_l : Nat} {l : Erlog_Log} {i : Int} {e : EEntry} {v1_e : Value} {w : World} {rr : Int × Erlog_Log} (hF : F_rlog_Log_may l i e = some rr) (H : St I D w [XErlog_Log T0 A0 b_l l, SlC NEOp v1_e e.batch.ops]) :
  Calls Tryz.prog 57 #[pp b_l 0, vI i, .agg (cEEntry e v1_e).toArray] w (Ret fun vv w' => vv = vI rr.1 ∧ ∃ I', Hf I D w I' w' [XErlog_Log T0 A0 b_l rr.2]) := by
 replace H := H.hf
 unfold F_rlog_Log_may at hF
 refine f_enter 77 Tryz.func57 rfl rfl (Nat.le_of_ble_eq_true rfl) fun a Z => ?_
 replace Z := Z.sub (ts := [0, 1, 2]) rfl
 refine sR Z fun Z => ?_
 refine h_boxv Z H (cl := (cEEntry e v1_e)) rfl rfl rfl (by decide) rfl rfl rfl fun a w1 b1 H Z => ?_
 refine s_runk tDg Z 1 rfl rfl fun a Z => ?_
 refine s_end Z [0, 1, 5, 6] rfl fun Z => ?_
 refine p_then (wp_seq ?_)
 refine sR Z fun Z => ?_
 refine s_runk tDg Z 3 rfl rfl fun a Z => ?_
 refine gO Z (vI i) rfl (wantB_f _) (.n 1 rfl .z) (fun hp => Ob_c tDg rfl) fun a Z => ?_
 refine gO Z (pp b_l 0) rfl (wantB_f _) (.n 0 rfl .z) (fun hp => Ob_c tDg rfl) fun a Z => ?_
 refine gO Z (pp b_l 0) rfl (wantB_f _) (.c 14 rfl id .z) (fun hp => Ob_c tDg rfl) fun a Z => ?_
 refine gO Z (pp b_l 0) rfl (wantB_f _) (.c 15 rfl id .z) (fun hp => Ob_c tDg rfl) fun a Z => ?_
 obtain ⟨⟨v2, v3, T1⟩, H⟩ := H.openX 1 rfl
 replace H := H.nf rfl; try dsimp only at H
 refine gO Z _ rfl (wantB_f _) (.c 16 rfl id .z) (fun hp => oL tDg rfl rfl (H.bc 0 0 rfl rfl)) fun a Z => ?_
 refine gO Z (vI (ln l.l)) rfl (wantB_f _) (.c 17 rfl id .z) (fun hp => Ob_slen tDg rfl rfl rfl (H.owshape 1 rfl)) fun a Z => ?_
 refine gO Z (vT (decide (i > (ln l.l)))) rfl (wantB_f _) (.c 13 rfl id (.c 18 rfl id .z)) (fun hp => Ob_c tDg rfl) fun a Z => ?_
 refine sO Z (vT ((decide (i < 0)) || (decide (i > (ln l.l))))) rfl (Ob_pick rfl rfl rfl rfl (pick_or _ _)) fun a Z => ?_
 refine s_end Z [0, 1, 5, 6, 20] rfl fun Z => ?_
 refine p_then ?_
 refine f_cond Z rfl (fun hc1 => ?_) (fun hc1 => ?_)
 ·replace hF := ite_t hc1 hF
  refine sR Z fun Z => ?_
  refine s_runk tDg Z 1 rfl rfl fun a Z => ?_
  refine s_end Z [0, 1, 5, 6] rfl fun Z => ?_
  refine p_then (wp_ret ?_)
  refine p_then_r ?_
  replace H := H.sX (XErlog_Log T0 A0 b_l l) (v2, v3, T1) [(0, false), (0, false), (0, false)] rfl rfl rfl
  obtain rfl := some_in hF
  exact f_ret Z (run_results1 rfl Z rfl) ⟨rfl, I, (H.sub [(0, false)] rfl).eq rfl⟩
 ·replace hF := ite_f hc1 hF
  refine wp_skip ?_
  refine p_then (wp_seq ?_)
  refine wp_seq ?_
  obtain ⟨c, hx1, hF⟩ := bnd_in hF
  refine f_region Z fun Z => ?_
  refine sO Z (.agg (cEEntry e v1_e).toArray) rfl (oA tDg rfl rfl ((H.bx 3 rfl).part 0 rfl)) fun a Z => ?_
  refine hC Z H [(4, true)] rfl #[] fn_53_YDg rfl rfl (fun D h => have q := c_item_Check hx1 h; q) fun vv a w2 D2 hr hF2 Z => ?_
  obtain ⟨rfl, I1, K⟩ := hr
  have H := (hF2 K).nf rfl
  refine s_runk tDg Z 1 rfl rfl fun a Z => ?_
  refine s_end Z [0, 1, 5, 6, 7] rfl fun Z => ?_
  refine pR Z fun Z => ?_
  refine s_runk tDg Z 2 rfl rfl fun a Z => ?_
  refine s_end Z [0, 1, 5, 6, 7, 24] rfl fun Z => ?_
  refine p_then ?_
  refine f_cond Z rfl (fun hc2 => ?_) (fun hc2 => ?_)
  ·replace hF := ite_t hc2 hF
   refine sR Z fun Z => ?_
   refine s_runk tDg Z 2 rfl rfl fun a Z => ?_
   refine s_end Z [0, 1, 5, 6] rfl fun Z => ?_
   refine p_then (wp_ret ?_)
   refine p_then_r ?_
   replace H := H.sX (XErlog_Log T0 A0 b_l l) (v2, v3, T1) [(0, false), (0, false), (0, false)] rfl rfl rfl
   obtain rfl := some_in hF
   exact f_ret Z (run_results1 rfl Z rfl) ⟨rfl, I1, (H.sub [(0, false)] rfl).eq rfl⟩
  ·replace hF := ite_f hc2 hF
   refine wp_skip ?_
   refine p_then (wp_seq ?_)
   refine sR Z fun Z => ?_
   refine s_runk tDg Z 2 rfl rfl fun a Z => ?_
   refine s_end Z [0, 1, 5, 6, 27] rfl fun Z => ?_
   refine p_then ?_
   refine f_cond Z rfl (fun hc3 => ?_) (fun hc3 => ?_)
   ·replace hF := ite_t hc3 hF
    refine sR Z fun Z => ?_
    refine s_runk tDg Z 1 rfl rfl fun a Z => ?_
    refine s_end Z [0, 1, 5, 6] rfl fun Z => ?_
    refine p_then (wp_ret ?_)
    refine p_then_r ?_
    replace H := H.sX (XErlog_Log T0 A0 b_l l) (v2, v3, T1) [(0, false), (0, false), (0, false)] rfl rfl rfl
    obtain rfl := some_in hF
    exact f_ret Z (run_results1 rfl Z rfl) ⟨rfl, I1, (H.sub [(0, false)] rfl).eq rfl⟩
   ·replace hF := ite_f hc3 hF
    refine wp_skip ?_
    refine p_then (wp_seq ?_)
    refine wp_seq ?_
    rcases optE_in hF with ⟨ho1, hF⟩ | ⟨m, ho1, hF⟩
    ·obtain ⟨hv, H⟩ := H.optMN 2 rfl ho1
     (try have Zq25 := Z); subst hv; (try have Z := Zq25)
     replace H := H.nf rfl; try dsimp only at H
     cases hF
    ·obtain ⟨b2, hv, H⟩ := H.optMS 2 rfl ho1
     (try have Zq26 := Z); subst hv; (try have Z := Zq26)
     replace H := H.nf rfl; try dsimp only at H
     obtain ⟨o, hx2, hF⟩ := bnd_in hF
     obtain ⟨hg1, hF⟩ := chk_in hF
     refine f_quietd (by kernel_rfl) (by kernel_rfl) Z fun Z => ?_
     refine q_runk tDg Z 3 rfl rfl fun a Z => ?_
     refine qO Z _ rfl (fun _ hw => oL tDg rfl rfl ((H.blw hw).bc 1 1 rfl rfl)) fun a Z => ?_
     refine qO Z (.agg (cEEntry e v1_e).toArray) rfl (fun _ hw => oA tDg rfl rfl (((H.blw hw).bx 3 rfl).part 0 rfl)) fun a Z => ?_
     refine q_call Z (caps := #[]) fn_61_YDg rfl rfl rfl rfl rfl (by decide) rfl rfl (fun _ hw => (have hq := c_rlog_of hx2 (((H.blw hw)).pick0 (js := [(4, true)]) rfl rfl); plainC hq)) fun a Z => ?_
     refine qO Z (.tuple #[vI ((mget m o).getD 0), vT ((mget m o).isSome)]) rfl (fun _ hw => Ob_mlook2 o MF_99 (H.blw hw) 0 rfl rfl rfl rfl hg1) fun a Z => ?_
     refine q_runk tDg Z 5 rfl rfl fun a Z => ?_
     refine q_end Z [0, 1, 5, 6, 8, 9] rfl fun w3 hb Z => ?_
     replace H := H.blw hb
     clear hb
     refine pR Z fun Z => ?_
     refine s_runk tDg Z 2 rfl rfl fun a Z => ?_
     refine gO Z (vI ((mget m o).getD 0)) rfl (wantB_t _) (.n 8 rfl .z) (fun hp => Ob_c tDg rfl) fun a Z => ?_
     refine gO Z (vI i) rfl (wantB_t _) (.n 1 rfl .z) (fun hp => Ob_c tDg rfl) fun a Z => ?_
     refine gO Z (vT (decide (((mget m o).getD 0) < i))) rfl (wantB_t _) (.c 40 rfl id (.c 41 rfl id .z)) (fun hp => Ob_c tDg rfl) fun a Z => ?_
     refine sO Z (vT (((mget m o).isSome) && (decide (((mget m o).getD 0) < i)))) rfl (Ob_pick rfl rfl rfl rfl (pick_and _ _)) fun a Z => ?_
     refine s_end Z [0, 1, 5, 6, 43] rfl fun Z => ?_
     refine p_then ?_
     refine f_cond Z rfl (fun hc4 => ?_) (fun hc4 => ?_)
     ·replace hF := ite_t hc4 hF
      refine sR Z fun Z => ?_
      refine s_runk tDg Z 1 rfl rfl fun a Z => ?_
      refine s_end Z [0, 1, 5, 6] rfl fun Z => ?_
      refine p_then (wp_ret ?_)
      refine p_then_r ?_
      replace H := (H.mkMS 0 rfl).nf rfl
      replace H := H.sX (XErlog_Log T0 A0 b_l ({ l with at_ := some m } : Erlog_Log)) (v2, .map (some b2), T1) [(1, false), (1, false), (0, false)] rfl rfl rfl
      obtain rfl := some_in hF
      exact f_ret Z (run_results1 rfl Z rfl) ⟨rfl, I1, (H.sub [(0, false)] rfl).eq rfl⟩
     ·replace hF := ite_f hc4 hF
      refine wp_skip ?_
      refine p_then (wp_seq ?_)
      refine wp_seq ?_
      obtain ⟨hg2, hF⟩ := chk_in hF
      obtain ⟨hg3, hF⟩ := chk_in hF
      obtain ⟨_, ⟨u1, rfl, L1⟩, hat1⟩ := H.owElG 2 rfl (i - 1) (NEEntryO.dft _ _ _)
      replace H : Hf I D w I1 w3 [SlC NEOp u1 (((l.l.getD (i - 1).toNat default).batch).ops), MpC M_99 b2 m, BxC b_l 101 [v2, .map (some b2), vI l.stamped], OwC (NEEntryO T1.1) 44 v2 l.l, BxC b1 44 (cEEntry e v1_e), SlC NEOp v1_e e.batch.ops] := H.addsl L1.sl
      obtain ⟨hg4, hF⟩ := chk_in hF
      obtain ⟨hg5, hF⟩ := chk_in hF
      obtain ⟨_, ⟨u2, rfl, L2⟩, hat2⟩ := H.owElG 3 rfl (i - 1) (NEEntryO.dft _ _ _)
      replace H : Hf I D w I1 w3 [SlC NEOp u2 (((l.l.getD (i - 1).toNat default).batch).ops), SlC NEOp u1 (((l.l.getD (i - 1).toNat default).batch).ops), MpC M_99 b2 m, BxC b_l 101 [v2, .map (some b2), vI l.stamped], OwC (NEEntryO T1.1) 44 v2 l.l, BxC b1 44 (cEEntry e v1_e), SlC NEOp v1_e e.batch.ops] := H.addsl L2.sl
      refine f_quietd (by kernel_rfl) (by kernel_rfl) Z fun Z => ?_
      refine q_runk tDg Z 1 rfl rfl fun a Z => ?_
      refine qO Z _ rfl (fun _ hw => oL tDg rfl rfl ((H.blw hw).bc 5 3 rfl rfl)) fun a Z => ?_
      refine q_runk tDg Z 2 rfl rfl fun a Z => ?_
      refine jO Z (vI i) rfl (wantB_t _) (.n 1 rfl .z) (fun hp _ hw => Ob_c tDg rfl) fun a Z => ?_
      refine jO Z (vT (decide (i > 0))) rfl (wantB_t _) (.c 48 rfl id .z) (fun hp _ hw => Ob_c tDg rfl) fun a Z => ?_
      refine qO Z (vT ((e.ts != 0) && (decide (i > 0)))) rfl (fun _ hw => Ob_pick rfl rfl rfl rfl (pick_and _ _)) fun a Z => ?_
      refine q_runk tDg Z 1 rfl rfl fun a Z => ?_
      refine jO Z (pp b_l 0) rfl (wantB_t _) (.n 0 rfl .z) (fun hp _ hw => Ob_c tDg rfl) fun a Z => ?_
      refine jO Z (pp b_l 0) rfl (wantB_t _) (.c 52 rfl id .z) (fun hp _ hw => Ob_c tDg rfl) fun a Z => ?_
      refine jO Z (pp b_l 0) rfl (wantB_t _) (.c 53 rfl id .z) (fun hp _ hw => Ob_c tDg rfl) fun a Z => ?_
      refine jO Z _ rfl (wantB_t _) (.c 54 rfl id .z) (fun hp _ hw => oL tDg rfl rfl ((H.blw hw).bc 3 0 rfl rfl)) fun a Z => ?_
      refine jO Z (vI i) rfl (wantB_t _) (.n 1 rfl .z) (fun hp _ hw => Ob_c tDg rfl) fun a Z => ?_
      refine jO Z (vI (i - 1)) rfl (wantB_t _) (.c 56 rfl id .z) (fun hp _ hw => Ob_sub rfl rfl rfl (wrI (hg2 hp))) fun a Z => ?_
      refine jO Z (.pointer (some ⟨blkOf v2, oofOf v2 + (i - 1).toNat * 4, none⟩)) rfl (wantB_t _) (.c 55 rfl id (.c 57 rfl id .z)) (fun hp _ hw => Ob_sidx tDg rfl rfl rfl rfl (slPl ((H.blw hw).owA 4 rfl).unl (hg3 hp)) (hg3 hp)) fun a Z => ?_
      refine jO Z (.pointer (some ⟨blkOf v2, oofOf v2 + (i - 1).toNat * 4 + 3, none⟩)) rfl (wantB_t _) (.c 58 rfl id .z) (fun hp _ hw => Ob_c tDg rfl) fun a Z => ?_
      refine jO Z (vU ((l.l.getD (i - 1).toNat default).ts)) rfl (wantB_t _) (.c 59 rfl id .z) (fun hp _ hw => oL tDg rfl rfl (((hat1 (hg3 hp)).blw hw) 3 _ rfl)) fun a Z => ?_
      refine jO Z (vT (((l.l.getD (i - 1).toNat default).ts) == 0)) rfl (wantB_t _) (.c 60 rfl id .z) (fun hp _ hw => Ob_c tDg rfl) fun a Z => ?_
      refine jO Z (vT (((l.l.getD (i - 1).toNat default).ts) == 0)) rfl (wantB_t _) (.c 61 rfl id .z) (fun hp _ hw => Ob_c tDg rfl) fun a Z => ?_
      refine jO Z (pp b_l 0) rfl (wantB_cf _ _) (.n 0 rfl .z) (fun hp _ hw => Ob_c tDg rfl) fun a Z => ?_
      refine jO Z (pp b_l 0) rfl (wantB_cf _ _) (.c 63 rfl id .z) (fun hp _ hw => Ob_c tDg rfl) fun a Z => ?_
      refine jO Z (pp b_l 0) rfl (wantB_cf _ _) (.c 64 rfl id .z) (fun hp _ hw => Ob_c tDg rfl) fun a Z => ?_
      refine jO Z _ rfl (wantB_cf _ _) (.c 65 rfl id .z) (fun hp _ hw => oL tDg rfl rfl ((H.blw hw).bc 3 0 rfl rfl)) fun a Z => ?_
      refine jO Z (vI i) rfl (wantB_cf _ _) (.n 1 rfl .z) (fun hp _ hw => Ob_c tDg rfl) fun a Z => ?_
      refine jO Z (vI (i - 1)) rfl (wantB_cf _ _) (.c 67 rfl id .z) (fun hp _ hw => Ob_sub rfl rfl rfl (wrI (hg4 hp))) fun a Z => ?_
      refine jO Z (.pointer (some ⟨blkOf v2, oofOf v2 + (i - 1).toNat * 4, none⟩)) rfl (wantB_cf _ _) (.c 66 rfl id (.c 68 rfl id .z)) (fun hp _ hw => Ob_sidx tDg rfl rfl rfl rfl (slPl ((H.blw hw).owA 4 rfl).unl (hg5 hp)) (hg5 hp)) fun a Z => ?_
      refine jO Z (.pointer (some ⟨blkOf v2, oofOf v2 + (i - 1).toNat * 4 + 3, none⟩)) rfl (wantB_cf _ _) (.c 69 rfl id .z) (fun hp _ hw => Ob_c tDg rfl) fun a Z => ?_
      refine jO Z (vU ((l.l.getD (i - 1).toNat default).ts)) rfl (wantB_cf _ _) (.c 70 rfl id .z) (fun hp _ hw => oL tDg rfl rfl (((hat2 (hg5 hp)).blw hw) 3 _ rfl)) fun a Z => ?_
      refine jO Z (pp b1 3) rfl (wantB_cf _ _) (.n 5 rfl .z) (fun hp _ hw => Ob_c tDg rfl) fun a Z => ?_
      refine jO Z _ rfl (wantB_cf _ _) (.c 72 rfl id .z) (fun hp _ hw => oL tDg rfl rfl ((H.blw hw).bc 5 3 rfl rfl)) fun a Z => ?_
      refine jO Z (vT (decide ((l.l.getD (i - 1).toNat default).ts ≥ e.ts))) rfl (wantB_cf _ _) (.c 71 rfl id (.c 73 rfl id .z)) (fun hp _ hw => Ob_c tDg rfl) fun a Z => ?_
      refine jO Z (vT ((((l.l.getD (i - 1).toNat default).ts) == 0) || (decide ((l.l.getD (i - 1).toNat default).ts ≥ e.ts)))) rfl (wantB_t _) (.c 62 rfl id (.n 74 rfl .z)) (fun hp _ hw => Ob_pick rfl rfl rfl rfl (pick_orp _ _ hp)) fun a Z => ?_
      refine qO Z (vT (((e.ts != 0) && (decide (i > 0))) && ((((l.l.getD (i - 1).toNat default).ts) == 0) || (decide ((l.l.getD (i - 1).toNat default).ts ≥ e.ts))))) rfl (fun _ hw => Ob_pick rfl rfl rfl rfl (pick_and _ _)) fun a Z => ?_
      refine q_end Z [6, 76] rfl fun w4 hb Z => ?_
      replace H := H.blw hb
      clear hb
      refine p_then ?_
      refine f_cond Z rfl (fun hc5 => ?_) (fun hc5 => ?_)
      ·replace hF := ite_t hc5 hF
       refine sR Z fun Z => ?_
       refine s_runk tDg Z 1 rfl rfl fun a Z => ?_
       refine s_end Z [6] rfl fun Z => ?_
       refine p_then (wp_ret ?_)
       refine p_then_r ?_
       replace H := (H.mkMS 2 rfl).nf rfl
       replace H := H.sX (XErlog_Log T0 A0 b_l ({ l with at_ := some m } : Erlog_Log)) (v2, .map (some b2), T1) [(3, false), (3, false), (0, false)] rfl rfl rfl
       obtain rfl := some_in hF
       exact f_ret Z (run_results1 rfl Z rfl) ⟨rfl, I1, (H.sub [(0, false)] rfl).eq rfl⟩
      ·replace hF := ite_f hc5 hF
       refine wp_skip ?_
       refine pR Z fun Z => ?_
       refine s_runk tDg Z 1 rfl rfl fun a Z => ?_
       refine s_end Z [6] rfl fun Z => ?_
       refine p_then (wp_ret ?_)
       replace H := (H.mkMS 2 rfl).nf rfl
       replace H := H.sX (XErlog_Log T0 A0 b_l ({ l with at_ := some m } : Erlog_Log)) (v2, .map (some b2), T1) [(3, false), (3, false), (0, false)] rfl rfl rfl
       obtain rfl := some_in hF
       exact f_ret Z (run_results1 rfl Z rfl) ⟨rfl, I1, (H.sub [(0, false)] rfl).eq rfl⟩

def F_rlog_Log_cut_l1 (l : Erlog_Log) (i : Int) (rc : (Int × (Option (List (Erlog_who × Int)))) → Option Erlog_Log) (sg : Int × (Option (List (Erlog_who × Int)))) : Option Erlog_Log := match sg with | (x, l_at_) => if (decide (x < ((l.l.drop ((i).toNat)).length : Int))) = true then (chk ((0 : Int) ≤ x ∧ x < ((l.l.drop ((i).toNat)).length : Int)) (optE l_at_ (none) (fun m => (F_rlog_of ({ batch := ({ client := (((l.l.drop ((i).toNat)).getD (x).toNat default).batch).client, req := (((l.l.drop ((i).toNat)).getD (x).toNat default).batch).req, ops := (((l.l.drop ((i).toNat)).getD (x).toNat default).batch).ops } : EBatch), ts := ((l.l.drop ((i).toNat)).getD (x).toNat default).ts } : EEntry)).bind fun o => (chk (inI o.client ∧ inI o.req) (chk (inI (x + 1)) (rc (x + 1, some (mdel m o)))))))) else (chk ((0 : Int) ≤ i ∧ i ≤ (l.l.length : Int)) (some ({ l with l := l.l.take ((i).toNat), at_ := l_at_ } : Erlog_Log)))

def F_rlog_Log_cut (l : Erlog_Log) (i : Int) : Option Erlog_Log := chk ((0 : Int) ≤ i ∧ i ≤ (l.l.length : Int)) (iter (F_rlog_Log_cut_l1 l i) FU (0, l.at_))

set_option maxHeartbeats 1000000 in
theorem c_rlog_Log_cut {I D : Dm} {b_l : Nat} {l : Erlog_Log} {i : Int} {w : World} {rr : Erlog_Log} (hF : F_rlog_Log_cut l i = some rr) (H : St I D w [XErlog_Log T0 A0 b_l l]) :
  Calls Tryz.prog 59 #[pp b_l 0, vI i] w (Ret fun vv w' => vv = .tuple #[] ∧ ∃ I', Hf I D w I' w' [XErlog_Log T0 A0 b_l rr]) := by
 replace H := H.hf
 unfold F_rlog_Log_cut at hF
 refine f_enter 33 Tryz.func59 rfl rfl (Nat.le_of_ble_eq_true rfl) fun a Z => ?_
 replace Z := Z.sub (ts := [0, 1]) rfl
 refine wp_seq ?_
 refine wp_seq ?_
 obtain ⟨hg1, hF⟩ := chk_in hF
 refine f_region Z fun Z => ?_
 refine s_runk tDg Z 3 rfl rfl fun a Z => ?_
 obtain ⟨⟨v1, v2, T1⟩, H⟩ := H.openX 0 rfl
 replace H := H.nf rfl; try dsimp only at H
 refine sO Z _ rfl (oL tDg rfl rfl (H.bc 0 0 rfl rfl)) fun a Z => ?_
 refine s_runk tDg Z 1 rfl rfl fun a Z => ?_
 refine sO Z (subV v1 ((i).toNat) l.l.length 4) rfl (Ob_sub_from tDg rfl rfl rfl rfl (H.owshape 1 rfl) hg1) fun a Z => ?_
 refine sO Z (vI ((l.l.drop ((i).toNat)).length : Int)) rfl (Ob_slen tDg rfl rfl rfl (slRep2.any ((H.ow2 1 rfl).part_from hg1 4 rfl)).shape) fun a Z => ?_
 refine s_runk tDg Z 1 rfl rfl fun a Z => ?_
 refine s_end Z [0, 1, 11, 12, 13] rfl fun Z => ?_
 refine p_then (wp_block ?_)
 refine f_iter hF (fun sg a' w' => match sg with | (x, l_at_) => ∃ v3 : Value, Sl 33 [(0, pp b_l 0), (1, vI i), (11, subV v1 ((i).toNat) l.l.length 4), (12, vI ((l.l.drop ((i).toNat)).length : Int)), (13, vI x)] a' ∧ ∃ I2, Hf I D w I2 w' [BxC b_l 101 [v1, v3, vI l.stamped], OwC (NEEntryO T1.1) 44 v1 l.l, PmC M_99 v3 l_at_]) ⟨v2, Z.sub (ts := [0, 1, 11, 12, 13]) rfl, ⟨I, (H.sub [(0, false), (0, false), (0, false)] rfl).eq rfl⟩⟩ ?_
 rintro rc ⟨x, l_at_⟩ a w1 ⟨v3, Z, I1, H⟩ hF
 unfold F_rlog_Log_cut_l1 at hF
 try dsimp only at hF
 refine sR Z fun Z => ?_
 refine s_runk tDg Z 1 rfl rfl fun a Z => ?_
 refine s_end Z [0, 1, 11, 12, 13, 14] rfl fun Z => ?_
 refine p_then (wp_seq ?_)
 refine f_cond Z rfl (fun hc1 => ?_) (fun hc1 => ?_)
 ·replace hF := ite_t hc1 hF
  refine wp_skip ?_
  refine p_then (wp_seq ?_)
  refine wp_block ?_
  refine wp_seq ?_
  obtain ⟨hg2, hF⟩ := chk_in hF
  refine f_region Z fun Z => ?_
  refine sO Z (.pointer (some ⟨blkOf (subV v1 ((i).toNat) l.l.length 4), oofOf (subV v1 ((i).toNat) l.l.length 4) + (x).toNat * 4, none⟩)) rfl (Ob_sidx tDg rfl rfl rfl rfl (slPl (slRep2.any ((H.ow2 1 rfl).part_from hg1 4 rfl)) hg2) hg2) fun a Z => ?_
  obtain ⟨_, ⟨u1, rfl, L1⟩, hat1⟩ := ((H.ow2 1 rfl).part_from hg1 4 rfl).elG (x) (NEEntryO.dft _ _ _)
  replace H : Hf I D w I1 w1 [SlC NEOp u1 ((((l.l.drop ((i).toNat)).getD (x).toNat default).batch).ops), BxC b_l 101 [v1, v3, vI l.stamped], OwC (NEEntryO T1.1) 44 v1 l.l, PmC M_99 v3 l_at_] := H.addsl L1.sl
  refine sO Z (.agg (cEEntry ((l.l.drop ((i).toNat)).getD (x).toNat default) u1).toArray) rfl (oA tDg rfl rfl ((hat1 hg2).part 0 rfl)) fun a Z => ?_
  refine hA Z H [vI 0, vI 0, nS, vU 0] rfl rfl (by kernel_rfl) fun a w2 b1 H Z => ?_
  refine hT tDg Z H 0 rfl rfl rfl rfl rfl (onR 2 rfl (one_cons (slS.one (H.slshape 1 rfl)) (one_cons rfl one_nil))) (Nat.le_of_ble_eq_true rfl) rfl fun w3 H => ?_
  dsimp only [List.eraseIdx] at H
  refine s_end Z [0, 1, 11, 12, 13, 14, 15, 16, 5] rfl fun Z => ?_
  refine p_then ?_
  rcases optE_in hF with ⟨ho1, hF⟩ | ⟨m, ho1, hF⟩
  ·obtain ⟨hv, H⟩ := H.optMN 4 rfl ho1
   (try have Zq27 := Z); subst hv; (try have Z := Zq27)
   replace H := H.nf rfl; try dsimp only at H
   cases hF
  ·obtain ⟨b2, hv, H⟩ := H.optMS 4 rfl ho1
   (try have Zq28 := Z); subst hv; (try have Z := Zq28)
   replace H := H.nf rfl; try dsimp only at H
   obtain ⟨o, hx1, hF⟩ := bnd_in hF
   obtain ⟨hg3, hF⟩ := chk_in hF
   refine f_quietS 6 (by kernel_rfl) (by kernel_rfl) (by kernel_rfl) (by kernel_rfl) (by kernel_rfl) Z fun Z => ?_
   refine q_runk tDg Z 3 rfl rfl fun a Z => ?_
   refine qO Z _ rfl (fun _ hw => oL tDg rfl rfl ((H.blw hw).bc 3 1 rfl rfl)) fun a Z => ?_
   refine qO Z (.agg (cEEntry ((l.l.drop ((i).toNat)).getD (x).toNat default) u1).toArray) rfl (fun _ hw => oA tDg rfl rfl (((H.blw hw).bx 1 rfl).part 0 rfl)) fun a Z => ?_
   refine q_call Z (caps := #[]) fn_61_YDg rfl rfl rfl rfl rfl (by decide) rfl rfl (fun _ hw => (have hq := c_rlog_of hx1 (((H.blw hw)).pick0 (js := [(2, true)]) rfl rfl); plainC hq)) fun a Z => ?_
   refine q_endS Z [0, 1, 11, 12, 13, 14, 15, 16, 5, 17, 18, 19, 20, 21, 22] rfl fun w4 hb Z => ?_
   replace H := H.blw hb
   clear hb
   refine h_mdel Z H 0 o MK_99 rfl rfl rfl rfl rfl rfl hg3 fun w5 H => ?_
   dsimp only [List.eraseIdx] at H
   refine s_end Z [0, 1, 11, 12, 13, 14, 15, 16, 5, 17, 18, 19, 20, 21, 22] rfl fun Z => ?_
   refine p_blk ?_
   refine p_then ?_
   obtain ⟨hg4, hF⟩ := chk_in hF
   refine f_region Z fun Z => ?_
   refine sO Z (vI (x + 1)) rfl (Ob_add rfl rfl rfl (wrI hg4)) fun a Z => ?_
   refine s_runk tDg Z 1 rfl rfl fun a Z => ?_
   refine s_end Z [0, 1, 11, 12, 13, 14, 15, 16, 5, 17, 18, 19, 20, 21, 22, 23] rfl fun Z => ?_
   refine p_then ?_
   replace H := (H.mkMS 0 rfl).nf rfl
   exact ⟨(x + 1, some (mdel m o)), ⟨.map (some b2), Z.sub (ts := [0, 1, 11, 12, 13]) rfl, ⟨I1, (H.sub [(3, false), (3, false), (0, false)] rfl).eq rfl⟩⟩, hF⟩
 ·replace hF := ite_f hc1 hF
  refine wp_exit ?_
  refine p_then_x ?_
  refine p_then_x ?_
  refine f_exit_here ?_
  refine p_then ?_
  obtain ⟨hg5, hF⟩ := chk_in hF
  refine f_region Z fun Z => ?_
  refine s_runk tDg Z 4 rfl rfl fun a Z => ?_
  refine sO Z _ rfl (oL tDg rfl rfl (H.bc 0 0 rfl rfl)) fun a Z => ?_
  refine s_runk tDg Z 1 rfl rfl fun a Z => ?_
  refine sO Z (subV v1 0 ((i).toNat) 4) rfl (Ob_sub_to tDg rfl rfl rfl rfl (H.owshape 1 rfl) hg5) fun a Z => ?_
  replace H : Hf I D w I1 w1 [OwC (NEEntryO T1.1) 44 (subV v1 0 ((i).toNat) 4) (l.l.take ((i).toNat)), BxC b_l 101 [v1, v3, vI l.stamped], PmC M_99 v3 l_at_] := H.truncO 1 rfl hg5 4
  refine s_runk tDg Z 2 rfl rfl fun a Z => ?_
  refine hT tDg Z H 1 rfl rfl (slS.cells (H.owshape 0 rfl)) rfl rfl (one_cons (slS.one (H.owshape 0 rfl)) one_nil) (Nat.le_of_ble_eq_true rfl) rfl fun w6 H => ?_
  dsimp only [List.eraseIdx] at H
  refine s_end Z [] rfl fun Z => ?_
  replace H := H.sX (XErlog_Log T0 A0 b_l ({ l with l := l.l.take ((i).toNat), at_ := l_at_ } : Erlog_Log)) (subV v1 0 ((i).toNat) 4, v3, T1) [(0, false), (0, false), (0, false)] rfl rfl rfl
  obtain rfl := some_in hF
  exact f_fall Z (run_results0 rfl) ⟨rfl, I1, (H.sub [(0, false)] rfl).eq rfl⟩

def F_item_of (e : EEntry) : Option (List Int) := some [e.batch.client, e.batch.req]

set_option maxHeartbeats 1000000 in
theorem c_item_of {I D : Dm} {e : EEntry} {v1_e : Value} {w : World} {rr : List Int} (hF : F_item_of e = some rr) (H : St I D w [SlC NEOp v1_e e.batch.ops]) :
  Calls Tryz.prog 90 #[.agg (cEEntry e v1_e).toArray] w (Ret fun vv w' => vv = .agg #[vI (rr.getD 0 0), vI (rr.getD 1 0)] ∧ ∃ I', Hf I D w I' w' []) := by
 replace H := H.hf
 unfold F_item_of at hF
 refine f_enter 10 Tryz.func90 rfl rfl (Nat.le_of_ble_eq_true rfl) fun a Z => ?_
 replace Z := Z.sub (ts := [0]) rfl
 refine sR Z fun Z => ?_
 refine h_boxv Z H (cl := (cEEntry e v1_e)) rfl rfl rfl (by decide) rfl rfl rfl fun a w1 b1 H Z => ?_
 refine hA Z H [vI 0, vI 0] rfl rfl (by kernel_rfl) fun a w2 b2 H Z => ?_
 refine s_end Z [1, 2] rfl fun Z => ?_
 refine pR Z fun Z => ?_
 refine s_runk tDg Z 2 rfl rfl fun a Z => ?_
 refine sO Z _ rfl (oL tDg rfl rfl (H.bc 1 0 rfl rfl)) fun a Z => ?_
 refine s_runk tDg Z 2 rfl rfl fun a Z => ?_
 refine sO Z _ rfl (oL tDg rfl rfl (H.bc 1 1 rfl rfl)) fun a Z => ?_
 refine sO Z (.agg #[vI e.batch.client, vI e.batch.req]) rfl (Ob_build (vs := [(0, vI e.batch.client), (1, vI e.batch.req)]) rfl rfl (by go_simp <;> rfl)) fun a Z => ?_
 refine hT tDg Z H 0 rfl rfl rfl rfl rfl (onR 2 rfl one_nil) (Nat.le_of_ble_eq_true rfl) rfl fun w3 H => ?_
 dsimp only [List.eraseIdx] at H
 refine s_end Z [2] rfl fun Z => ?_
 refine p_then (wp_ret ?_)
 obtain rfl := some_in hF
 exact f_ret Z (run_resultsC rfl Z rfl (run_loadVar_agg tDg rfl (H.bx 0 rfl).at)) ⟨rfl, I, (H.sub [] rfl).eq rfl⟩

def F_item_Twins (a0 : EEntry) (b : EEntry) : Option Bool := (F_item_of a0).bind fun o => ((F_item_of b).bind fun o_2 => (some ((o.getD 0 0) == (o_2.getD 0 0) && (o.getD 1 0) == (o_2.getD 1 0))))

set_option maxHeartbeats 1000000 in
theorem c_item_Twins {I D : Dm} {a0 : EEntry} {v1_a0 : Value} {b : EEntry} {v2_b : Value} {w : World} {rr : Bool} (hF : F_item_Twins a0 b = some rr) (H : St I D w [SlC NEOp v1_a0 a0.batch.ops, SlC NEOp v2_b b.batch.ops]) :
  Calls Tryz.prog 58 #[.agg (cEEntry a0 v1_a0).toArray, .agg (cEEntry b v2_b).toArray] w (Ret fun vv w' => vv = vT rr ∧ ∃ I', Hf I D w I' w' []) := by
 replace H := H.hf
 unfold F_item_Twins at hF
 refine f_enter 10 Tryz.func58 rfl rfl (Nat.le_of_ble_eq_true rfl) fun a Z => ?_
 replace Z := Z.sub (ts := [0, 1]) rfl
 refine sR Z fun Z => ?_
 refine h_boxv Z H (cl := (cEEntry a0 v1_a0)) rfl rfl rfl (by decide) rfl rfl rfl fun a w1 b1 H Z => ?_
 refine h_boxv Z H (cl := (cEEntry b v2_b)) rfl rfl rfl (by decide) rfl rfl rfl fun a w2 b2 H Z => ?_
 refine s_runk tDg Z 1 rfl rfl fun a Z => ?_
 refine s_end Z [2, 3, 4] rfl fun Z => ?_
 refine p_then (wp_seq ?_)
 obtain ⟨o, hx1, hF⟩ := bnd_in hF
 obtain ⟨o_2, hx2, hF⟩ := bnd_in hF
 refine f_quietd (by kernel_rfl) (by kernel_rfl) Z fun Z => ?_
 refine qO Z (.agg (cEEntry a0 v1_a0).toArray) rfl (fun _ hw => oA tDg rfl rfl (((H.blw hw).bx 1 rfl).part 0 rfl)) fun a Z => ?_
 refine q_call Z (caps := #[]) fn_90_YDg rfl rfl rfl rfl rfl (by decide) rfl rfl (fun _ hw => (have hq := c_item_of hx1 (((H.blw hw)).pick0 (js := [(2, true)]) rfl rfl); plainC hq)) fun a Z => ?_
 refine qO Z (.agg (cEEntry b v2_b).toArray) rfl (fun _ hw => oA tDg rfl rfl (((H.blw hw).bx 0 rfl).part 0 rfl)) fun a Z => ?_
 refine q_call Z (caps := #[]) fn_90_YDg rfl rfl rfl rfl rfl (by decide) rfl rfl (fun _ hw => (have hq := c_item_of hx2 (((H.blw hw)).pick0 (js := [(3, true)]) rfl rfl); plainC hq)) fun a Z => ?_
 refine qO Z (vT ((o.getD 0 0) == (o_2.getD 0 0) && (o.getD 1 0) == (o_2.getD 1 0))) rfl (fun _ hw => Ob_bin rfl rfl rfl (eqga_147 _ _ _ _ _ _) (eql_a147 (o.getD 0 0) (o.getD 1 0) (o_2.getD 0 0) (o_2.getD 1 0) _)) fun a Z => ?_
 refine q_runk tDg Z 1 rfl rfl fun a Z => ?_
 refine q_end Z [4] rfl fun w3 hb Z => ?_
 replace H := H.blw hb
 clear hb
 refine p_then (wp_ret ?_)
 obtain rfl := some_in hF
 exact f_ret Z (run_results1 rfl Z rfl) ⟨rfl, I, (H.sub [] rfl).eq rfl⟩

def F_item_Stamped_l1 (l : List EEntry) (rc : Int → Option Int) (sg : Int) : Option Int := match sg with | x => if (decide (x < (l.length : Int))) = true then (chk ((0 : Int) ≤ x ∧ x < (l.length : Int)) (if (((l.getD (x).toNat default).ts) == 0) = true then (some x) else (chk (inI (x + 1)) (rc (x + 1))))) else (some (l.length : Int))

def F_item_Stamped (l : List EEntry) : Option Int := iter (F_item_Stamped_l1 l) FU 0

set_option maxHeartbeats 1000000 in
theorem c_item_Stamped {I D : Dm} {l : List EEntry} {v1_l : Value} {w : World} {rr : Int} (hF : F_item_Stamped l = some rr) (H : St I D w [SlC NEEntry v1_l l]) :
  Calls Tryz.prog 62 #[v1_l] w (Ret fun vv w' => vv = vI rr ∧ ∃ I', Hf I D w I' w' []) := by
 replace H := H.hf
 unfold F_item_Stamped at hF
 refine f_enter 19 Tryz.func62 rfl rfl (Nat.le_of_ble_eq_true rfl) fun a Z => ?_
 replace Z := Z.sub (ts := [0]) rfl
 refine sR Z fun Z => ?_
 refine s_runk tDg Z 1 rfl rfl fun a Z => ?_
 refine s_end Z [0, 2] rfl fun Z => ?_
 refine p_then (wp_seq ?_)
 refine sR Z fun Z => ?_
 refine s_runk tDg Z 1 rfl rfl fun a Z => ?_
 refine sO Z (vI (ln l)) rfl (Ob_slen tDg rfl rfl rfl (H.slshape 0 rfl)) fun a Z => ?_
 refine s_runk tDg Z 1 rfl rfl fun a Z => ?_
 refine s_end Z [0, 2, 5, 6, 7] rfl fun Z => ?_
 refine p_then (wp_block ?_)
 refine f_iter hF (fun sg a' w' => match sg with | x => Sl 19 [(0, v1_l), (2, vI 0), (5, v1_l), (6, vI (ln l)), (7, vI x)] a' ∧ ∃ I2, Hf I D w I2 w' [SlC NEEntry v1_l l]) ⟨Z.sub (ts := [0, 2, 5, 6, 7]) rfl, ⟨I, (H.sub [(0, true)] rfl).eq rfl⟩⟩ ?_
 rintro rc x a w1 ⟨Z, I1, H⟩ hF
 unfold F_item_Stamped_l1 at hF
 try dsimp only at hF
 refine sR Z fun Z => ?_
 refine s_runk tDg Z 1 rfl rfl fun a Z => ?_
 refine s_end Z [0, 2, 5, 6, 7, 8] rfl fun Z => ?_
 refine p_then (wp_seq ?_)
 refine f_cond Z rfl (fun hc1 => ?_) (fun hc1 => ?_)
 ·replace hF := ite_t hc1 hF
  refine wp_skip ?_
  refine p_then (wp_seq ?_)
  refine wp_block ?_
  refine wp_seq ?_
  obtain ⟨hg1, hF⟩ := chk_in hF
  refine f_region Z fun Z => ?_
  refine s_runk tDg Z 1 rfl rfl fun a Z => ?_
  refine sO Z (.pointer (some ⟨blkOf v1_l, oofOf v1_l + (x).toNat * 4, none⟩)) rfl (Ob_sidx tDg rfl rfl rfl rfl (slPl (H.sl 0 rfl) hg1) hg1) fun a Z => ?_
  obtain ⟨_, ⟨u1, rfl, L1⟩, H⟩ := H.elG 0 rfl (x) (NEEntry.dft _ _)
  replace H := H.addsl L1
  replace H : Hf I D w I1 w1 [SlC NEOp u1 (((gi l x).batch).ops), AtG ((0 : Int) ≤ x ∧ x < (ln l)) (blkOf v1_l) (oofOf v1_l + (x).toNat * 4) (cEEntry (gi l x) u1), SlC NEEntry v1_l l] := H
  refine sO Z (.agg (cEEntry (gi l x) u1).toArray) rfl (oA tDg rfl rfl ((H.atg 1 rfl hg1).part 0 rfl)) fun a Z => ?_
  refine hA Z H [vI 0, vI 0, nS, vU 0] rfl rfl (by kernel_rfl) fun a w2 b1 H Z => ?_
  refine s_runk tDg Z 1 rfl rfl fun a Z => ?_
  refine hT tDg Z H 0 rfl rfl rfl rfl rfl (onR 2 rfl (one_cons (slS.one (H.slshape 1 rfl)) (one_cons rfl one_nil))) (Nat.le_of_ble_eq_true rfl) rfl fun w3 H => ?_
  dsimp only [List.eraseIdx] at H
  refine s_end Z [0, 2, 5, 6, 7, 8, 9, 10, 11, 4, 3] rfl fun Z => ?_
  refine pR Z fun Z => ?_
  refine s_runk tDg Z 1 rfl rfl fun a Z => ?_
  refine sO Z _ rfl (oL tDg rfl rfl (H.bc 0 3 rfl rfl)) fun a Z => ?_
  refine s_runk tDg Z 1 rfl rfl fun a Z => ?_
  refine s_end Z [0, 2, 5, 6, 7, 8, 9, 10, 11, 4, 3, 12, 13, 14] rfl fun Z => ?_
  refine p_then ?_
  refine f_cond Z rfl (fun hc2 => ?_) (fun hc2 => ?_)
  ·replace hF := ite_t hc2 hF
   refine sR Z fun Z => ?_
   refine s_runk tDg Z 2 rfl rfl fun a Z => ?_
   refine s_end Z [0, 2, 5, 6, 7, 8, 9, 10, 11, 4, 3, 12, 13, 14, 15] rfl fun Z => ?_
   refine p_then (wp_ret ?_)
   refine p_blk_r ?_
   refine p_then_r ?_
   refine p_then_r ?_
   refine p_blk_r ?_
   refine p_then_r ?_
   obtain rfl := some_in hF
   exact f_ret Z (run_results1 rfl Z rfl) ⟨rfl, I1, (H.sub [] rfl).eq rfl⟩
  ·replace hF := ite_f hc2 hF
   refine wp_skip ?_
   refine p_blk ?_
   refine p_then ?_
   obtain ⟨hg2, hF⟩ := chk_in hF
   refine f_region Z fun Z => ?_
   refine sO Z (vI (x + 1)) rfl (Ob_add rfl rfl rfl (wrI hg2)) fun a Z => ?_
   refine s_runk tDg Z 1 rfl rfl fun a Z => ?_
   refine s_end Z [0, 2, 5, 6, 7, 8, 9, 10, 11, 4, 3, 12, 13, 14, 16] rfl fun Z => ?_
   refine p_then ?_
   exact ⟨(x + 1), ⟨Z.sub (ts := [0, 2, 5, 6, 7]) rfl, ⟨I1, (H.sub [(3, true)] rfl).eq rfl⟩⟩, hF⟩
 ·replace hF := ite_f hc1 hF
  refine wp_exit ?_
  refine p_then_x ?_
  refine p_then_x ?_
  refine f_exit_here ?_
  refine pR Z fun Z => ?_
  refine s_runk tDg Z 1 rfl rfl fun a Z => ?_
  refine sO Z (vI (ln l)) rfl (Ob_slen tDg rfl rfl rfl (H.slshape 0 rfl)) fun a Z => ?_
  refine s_runk tDg Z 1 rfl rfl fun a Z => ?_
  refine s_end Z [2] rfl fun Z => ?_
  refine p_then (wp_ret ?_)
  obtain rfl := some_in hF
  exact f_ret Z (run_results1 rfl Z rfl) ⟨rfl, I1, (H.sub [] rfl).eq rfl⟩

def F_rlog_Log_Set_k1 (l_2 : Erlog_Log) : Option (Int × Erlog_Log) := (F_item_Stamped l_2.l).bind fun s0 => (some (0, ({ l_2 with stamped := s0 } : Erlog_Log)))

def F_rlog_Log_Set_l2 (i : Int) (e : EEntry) (m : Int × Erlog_Log) (rc : (Int × (List EEntry)) → Option (Int × Erlog_Log)) (sg : Int × (List EEntry)) : Option (Int × Erlog_Log) := match sg with | (x, l_l) => if (decide (x < (((m.2.l.set (i).toNat ({ e with batch := ({ client := ((m.2.l.getD (i).toNat default).batch).client, req := ((m.2.l.getD (i).toNat default).batch).req, ops := ((m.2.l.getD (i).toNat default).batch).ops } : EBatch) } : EEntry)).drop ((i + 1).toNat)).length : Int))) = true then (chk (inI (i + 1)) (chk (inI (i + 1 + x)) (chk ((0 : Int) ≤ i + 1 + x ∧ i + 1 + x < (l_l.length : Int)) (chk (inI (x + 1)) (rc (x + 1, l_l.set (i + 1 + x).toNat ({ batch := ({ client := ((l_l.getD (i + 1 + x).toNat default).batch).client, req := ((l_l.getD (i + 1 + x).toNat default).batch).req, ops := ((l_l.getD (i + 1 + x).toNat default).batch).ops } : EBatch), ts := 0 } : EEntry))))))) else (F_rlog_Log_Set_k1 ({ m.2 with l := l_l } : Erlog_Log))

def F_rlog_Log_Set (l : Erlog_Log) (i : Int) (e : EEntry) : Option (Int × Erlog_Log) := (F_rlog_Log_none l).bind fun n0 => (if (n0) = true then (some (8, l)) else ((F_rlog_Log_may l i e).bind fun m => (if (m.1 != 0) = true then (some (m.1, m.2)) else (chk ((decide (i < (m.2.l.length : Int))) = true → (0 : Int) ≤ i ∧ i < (m.2.l.length : Int)) ((gif (decide (i < (m.2.l.length : Int))) (F_item_Twins ({ (m.2.l.getD (i).toNat default) with batch := ({ client := ((m.2.l.getD (i).toNat default).batch).client, req := ((m.2.l.getD (i).toNat default).batch).req, ops := ((m.2.l.getD (i).toNat default).batch).ops } : EBatch) } : EEntry) e) default).bind fun t => (if ((decide (i < (m.2.l.length : Int))) && t) = true then (chk ((0 : Int) ≤ i ∧ i < (m.2.l.length : Int)) (if (((m.2.l.getD (i).toNat default).ts) != e.ts) = true then (chk ((0 : Int) ≤ i ∧ i < (m.2.l.length : Int)) (chk (inI (i + 1)) (chk ((0 : Int) ≤ i + 1 ∧ i + 1 ≤ ((m.2.l.set (i).toNat ({ e with batch := ({ client := ((m.2.l.getD (i).toNat default).batch).client, req := ((m.2.l.getD (i).toNat default).batch).req, ops := ((m.2.l.getD (i).toNat default).batch).ops } : EBatch) } : EEntry)).length : Int)) (iter (F_rlog_Log_Set_l2 i e m) FU (0, m.2.l.set (i).toNat ({ e with batch := ({ client := ((m.2.l.getD (i).toNat default).batch).client, req := ((m.2.l.getD (i).toNat default).batch).req, ops := ((m.2.l.getD (i).toNat default).batch).ops } : EBatch) } : EEntry)))))) else (F_rlog_Log_Set_k1 m.2))) else ((F_rlog_Log_cut m.2 i).bind fun c => ((F_rlog_own e).bind fun o => (chk (((c.l.length + [o].length : Nat) : Int) * 48 ≤ 140737488355328) (optE c.at_ (none) (fun m_2 => (F_rlog_of e).bind fun o_2 => (chk (inI o_2.client ∧ inI o_2.req) (F_rlog_Log_Set_k1 ({ c with l := c.l ++ [o], at_ := some (mset m_2 o_2 i) } : Erlog_Log))))))))))))))

set_option maxHeartbeats 1000000 in
theorem c_rlog_Log_Set {I D : Dm} {b_l : Nat} {l : Erlog_Log} {i : Int} {e : EEntry} {v1_e : Value} {w : World} {rr : Int × Erlog_Log} (hA : ∀ k, A0 k → I k) (hF : F_rlog_Log_Set l i e = some rr) (H : St I D w [XErlog_Log T0 A0 b_l l, SlC NEOp v1_e e.batch.ops]) :
  Calls Tryz.prog 22 #[pp b_l 0, vI i, .agg (cEEntry e v1_e).toArray] w (Ret fun vv w' => vv = vI rr.1 ∧ ∃ I', Hf I D w I' w' [XErlog_Log T0 A0 b_l rr.2]) := by
 replace H := H.hf
 unfold F_rlog_Log_Set at hF
 refine f_enter 107 Tryz.func22 rfl rfl (Nat.le_of_ble_eq_true rfl) fun a Z => ?_
 replace Z := Z.sub (ts := [0, 1, 2]) rfl
 refine sR Z fun Z => ?_
 refine h_boxv Z H (cl := (cEEntry e v1_e)) rfl rfl rfl (by decide) rfl rfl rfl fun a w1 b1 H Z => ?_
 refine s_runk tDg Z 1 rfl rfl fun a Z => ?_
 refine s_end Z [0, 1, 5, 6] rfl fun Z => ?_
 refine p_then (wp_seq ?_)
 refine wp_seq ?_
 obtain ⟨n0, hx1, hF⟩ := bnd_in hF
 refine f_region Z fun Z => ?_
 refine s_runk tDg Z 1 rfl rfl fun a Z => ?_
 refine hC Z H [(1, false)] rfl #[] fn_56_YDg rfl rfl (fun D h => have q := c_rlog_Log_none hx1 h; q) fun vv a w2 D2 hr hF2 Z => ?_
 obtain ⟨rfl, I1, K⟩ := hr
 have H := (hF2 K).nf rfl
 refine s_end Z [0, 1, 5, 6, 10] rfl fun Z => ?_
 refine p_then ?_
 refine f_cond Z rfl (fun hc1 => ?_) (fun hc1 => ?_)
 ·replace hF := ite_t hc1 hF
  refine sR Z fun Z => ?_
  refine s_runk tDg Z 1 rfl rfl fun a Z => ?_
  refine s_end Z [0, 1, 5, 6] rfl fun Z => ?_
  refine p_then (wp_ret ?_)
  refine p_then_r ?_
  obtain rfl := some_in hF
  exact f_ret Z (run_results1 rfl Z rfl) ⟨rfl, I1, (H.sub [(0, false)] rfl).eq rfl⟩
 ·replace hF := ite_f hc1 hF
  refine wp_skip ?_
  refine p_then (wp_seq ?_)
  refine wp_seq ?_
  obtain ⟨m, hx2, hF⟩ := bnd_in hF
  refine f_region Z fun Z => ?_
  refine s_runk tDg Z 2 rfl rfl fun a Z => ?_
  refine sO Z (.agg (cEEntry e v1_e).toArray) rfl (oA tDg rfl rfl ((H.bx 1 rfl).part 0 rfl)) fun a Z => ?_
  refine hC Z H [(0, false), (1, true)] rfl #[] fn_57_YDg rfl rfl (fun D h => have q := c_rlog_Log_may hx2 h; q) fun vv a w3 D2 hr hF2 Z => ?_
  obtain ⟨rfl, I2, K⟩ := hr
  have H := (hF2 K).nf rfl
  refine s_runk tDg Z 1 rfl rfl fun a Z => ?_
  refine s_end Z [0, 1, 5, 6, 7] rfl fun Z => ?_
  refine pR Z fun Z => ?_
  refine s_runk tDg Z 2 rfl rfl fun a Z => ?_
  refine s_end Z [0, 1, 5, 6, 7, 16] rfl fun Z => ?_
  refine p_then ?_
  refine f_cond Z rfl (fun hc2 => ?_) (fun hc2 => ?_)
  ·replace hF := ite_t hc2 hF
   refine sR Z fun Z => ?_
   refine s_runk tDg Z 2 rfl rfl fun a Z => ?_
   refine s_end Z [0, 1, 5, 6] rfl fun Z => ?_
   refine p_then (wp_ret ?_)
   refine p_then_r ?_
   obtain rfl := some_in hF
   exact f_ret Z (run_results1 rfl Z rfl) ⟨rfl, I2, (H.sub [(0, false)] rfl).eq rfl⟩
  ·replace hF := ite_f hc2 hF
   refine wp_skip ?_
   refine p_then ?_
   refine f_cut (fun a' w' => ∃ (l_2 : Erlog_Log), Sl 107 [(0, pp b_l 0), (6, vI 0)] a' ∧ (∃ I2, Hf I D w I2 w' [XErlog_Log T0 A0 b_l l_2]) ∧ F_rlog_Log_Set_k1 l_2 = some rr) ?_ ?_
   ·rintro a w4 ⟨l_2, Z, ⟨I3, H⟩, hF⟩
    unfold F_rlog_Log_Set_k1 at hF
    try dsimp only at hF
    refine wp_seq ?_
    obtain ⟨s0, hx3, hF⟩ := bnd_in hF
    refine f_region Z fun Z => ?_
    refine s_runk tDg Z 4 rfl rfl fun a Z => ?_
    obtain ⟨⟨v2, v3, T1⟩, H⟩ := H.openX 0 rfl
    replace H := H.nf rfl; try dsimp only at H
    refine sO Z _ rfl (oL tDg rfl rfl (H.bc 0 0 rfl rfl)) fun a Z => ?_
    refine s_call Z (caps := #[]) fn_62_YDg rfl rfl rfl rfl rfl (by decide) rfl rfl (have hq := c_item_Stamped hx3 (stS (H.owA 1 rfl).unl (stB _)); plainC hq) ?_; rintro _ a w5 ⟨rfl, hb⟩ Z
    replace H := H.blw hb
    clear hb
    refine s_runk tDg Z 2 rfl rfl fun a Z => ?_
    refine hT tDg Z H 0 rfl rfl rfl rfl rfl (one_cons rfl one_nil) (Nat.le_of_ble_eq_true rfl) rfl fun w6 H => ?_
    dsimp only [List.eraseIdx] at H
    refine s_end Z [6] rfl fun Z => ?_
    refine pR Z fun Z => ?_
    refine s_runk tDg Z 1 rfl rfl fun a Z => ?_
    refine s_end Z [6] rfl fun Z => ?_
    refine p_then (wp_ret ?_)
    replace H := H.sX (XErlog_Log T0 A0 b_l ({ l_2 with stamped := s0 } : Erlog_Log)) (v2, v3, T1) [(0, false), (0, false), (0, false)] rfl rfl rfl
    obtain rfl := some_in hF
    exact f_ret Z (run_results1 rfl Z rfl) ⟨rfl, I3, (H.sub [(0, false)] rfl).eq rfl⟩
   ·skip
    refine wp_seq ?_
    obtain ⟨⟨v4, v5, T2⟩, H⟩ := H.openX 0 rfl
    replace H := H.nf rfl; try dsimp only at H
    obtain ⟨hg1, hF⟩ := chk_in hF
    obtain ⟨_, ⟨u1, rfl, L1⟩, hat1⟩ := H.owElG 1 rfl (i) (NEEntryO.dft _ _ _)
    replace H : Hf I D w I2 w3 [SlC NEOp u1 (((gi m.2.l i).batch).ops), BxC b_l 101 [v4, v5, vI m.2.stamped], OwC (NEEntryO T2.1) 44 v4 m.2.l, PmC M_99 v5 m.2.at_, BxC b1 44 (cEEntry e v1_e), SlC NEOp v1_e e.batch.ops] := H.addsl L1.sl
    obtain ⟨t, hx4, hF⟩ := bnd_in hF
    refine f_quietd (by kernel_rfl) (by kernel_rfl) Z fun Z => ?_
    refine q_runk tDg Z 4 rfl rfl fun a Z => ?_
    refine qO Z _ rfl (fun _ hw => oL tDg rfl rfl ((H.blw hw).bc 1 0 rfl rfl)) fun a Z => ?_
    refine qO Z (vI (ln m.2.l)) rfl (fun _ hw => Ob_slen tDg rfl rfl rfl ((H.blw hw).owshape 2 rfl)) fun a Z => ?_
    refine q_runk tDg Z 2 rfl rfl fun a Z => ?_
    refine jO Z (pp b_l 0) rfl (wantB_t _) (.n 0 rfl .z) (fun hp _ hw => Ob_c tDg rfl) fun a Z => ?_
    refine jO Z (pp b_l 0) rfl (wantB_t _) (.c 26 rfl id .z) (fun hp _ hw => Ob_c tDg rfl) fun a Z => ?_
    refine jO Z (pp b_l 0) rfl (wantB_t _) (.c 27 rfl id .z) (fun hp _ hw => Ob_c tDg rfl) fun a Z => ?_
    refine jO Z _ rfl (wantB_t _) (.c 28 rfl id .z) (fun hp _ hw => oL tDg rfl rfl ((H.blw hw).bc 1 0 rfl rfl)) fun a Z => ?_
    refine jO Z (vI i) rfl (wantB_t _) (.n 1 rfl .z) (fun hp _ hw => Ob_c tDg rfl) fun a Z => ?_
    refine jO Z (.pointer (some ⟨blkOf v4, oofOf v4 + (i).toNat * 4, none⟩)) rfl (wantB_t _) (.c 29 rfl id (.c 30 rfl id .z)) (fun hp _ hw => Ob_sidx tDg rfl rfl rfl rfl (slPl ((H.blw hw).owA 2 rfl).unl (hg1 hp)) (hg1 hp)) fun a Z => ?_
    refine jO Z (.agg (cEEntry (gi m.2.l i) u1).toArray) rfl (wantB_t _) (.c 31 rfl id .z) (fun hp _ hw => oA tDg rfl rfl (((hat1 (hg1 hp)).blw hw).part 0 rfl)) fun a Z => ?_
    refine jO Z (.agg (cEEntry e v1_e).toArray) rfl (wantB_t _) (.n 5 rfl .z) (fun hp _ hw => oA tDg rfl rfl (((H.blw hw).bx 4 rfl).part 0 rfl)) fun a Z => ?_
    refine gq_call Z (p := (decide (i < (ln m.2.l)))) (v := vT t) (S' := [(32, .agg (cEEntry (gi m.2.l i) u1).toArray), (33, .agg (cEEntry e v1_e).toArray)]) (caps := #[]) fn_58_YDg rfl rfl rfl (wantB_t _) rfl (by decide) (fun hp hS => ((hS.conv (t := 32) rfl (cond_t hp)).conv (t := 33) rfl (cond_t hp)).sub (ts := [32, 33]) rfl) rfl rfl rfl rfl (fun hp _ hw => (have hq := c_item_Twins (gif_in hx4 hp) (((H.blw hw)).pick0 (js := [(0, true), (5, true)]) rfl rfl); plainC hq)) fun a Z => ?_
    refine qO Z (vT ((decide (i < (ln m.2.l))) && t)) rfl (fun _ hw => Ob_pick rfl rfl rfl rfl (pick_and _ _)) fun a Z => ?_
    refine q_end Z [0, 1, 5, 6, 35] rfl fun w7 hb Z => ?_
    replace H := H.blw hb
    clear hb
    refine p_then ?_
    refine f_cond Z rfl (fun hc3 => ?_) (fun hc3 => ?_)
    ·replace hF := ite_t hc3 hF
     refine wp_seq ?_
     obtain ⟨hg2, hF⟩ := chk_in hF
     obtain ⟨_, ⟨u2, rfl, L2⟩, hat2⟩ := H.owElG 2 rfl (i) (NEEntryO.dft _ _ _)
     replace H : Hf I D w I2 w7 [SlC NEOp u2 (((gi m.2.l i).batch).ops), SlC NEOp u1 (((gi m.2.l i).batch).ops), BxC b_l 101 [v4, v5, vI m.2.stamped], OwC (NEEntryO T2.1) 44 v4 m.2.l, PmC M_99 v5 m.2.at_, BxC b1 44 (cEEntry e v1_e), SlC NEOp v1_e e.batch.ops] := H.addsl L2.sl
     refine f_quietd (by kernel_rfl) (by kernel_rfl) Z fun Z => ?_
     refine q_runk tDg Z 3 rfl rfl fun a Z => ?_
     refine qO Z _ rfl (fun _ hw => oL tDg rfl rfl ((H.blw hw).bc 2 0 rfl rfl)) fun a Z => ?_
     refine q_runk tDg Z 1 rfl rfl fun a Z => ?_
     refine qO Z (.pointer (some ⟨blkOf v4, oofOf v4 + (i).toNat * 4, none⟩)) rfl (fun _ hw => Ob_sidx tDg rfl rfl rfl rfl (slPl ((H.blw hw).owA 3 rfl).unl hg2) hg2) fun a Z => ?_
     refine q_runk tDg Z 1 rfl rfl fun a Z => ?_
     refine qO Z (vU ((gi m.2.l i).ts)) rfl (fun _ hw => oL tDg rfl rfl (((hat2 hg2).blw hw) 3 _ rfl)) fun a Z => ?_
     refine q_runk tDg Z 1 rfl rfl fun a Z => ?_
     refine qO Z _ rfl (fun _ hw => oL tDg rfl rfl ((H.blw hw).bc 5 3 rfl rfl)) fun a Z => ?_
     refine q_runk tDg Z 1 rfl rfl fun a Z => ?_
     refine q_end Z [0, 1, 5, 6, 46] rfl fun w8 hb Z => ?_
     replace H := H.blw hb
     clear hb
     refine p_then ?_
     refine f_cond Z rfl (fun hc4 => ?_) (fun hc4 => ?_)
     ·replace hF := ite_t hc4 hF
      refine wp_seq ?_
      obtain ⟨hg3, hF⟩ := chk_in hF
      refine f_quietS 7 (by kernel_rfl) (by kernel_rfl) (by kernel_rfl) (by kernel_rfl) (by kernel_rfl) Z fun Z => ?_
      refine q_runk tDg Z 3 rfl rfl fun a Z => ?_
      refine qO Z _ rfl (fun _ hw => oL tDg rfl rfl ((H.blw hw).bc 2 0 rfl rfl)) fun a Z => ?_
      refine q_runk tDg Z 2 rfl rfl fun a Z => ?_
      refine qO Z _ rfl (fun _ hw => oL tDg rfl rfl ((H.blw hw).bc 5 3 rfl rfl)) fun a Z => ?_
      refine q_endS Z [0, 1, 5, 6, 46, 47, 48, 49, 50, 51, 52, 53] rfl fun w9 hb Z => ?_
      replace H := H.blw hb
      clear hb
      refine sO Z (.pointer (some ⟨blkOf v4, oofOf v4 + (i).toNat * 4, none⟩)) rfl (Ob_sidx tDg rfl rfl rfl rfl (slPl (H.owA 3 rfl).unl hg3) hg3) fun a Z => ?_
      refine s_runk tDg Z 1 rfl rfl fun a Z => ?_
      refine h_setR tDg Z H 3 (z := i) (d := default) 3 ({ e with batch := ({ client := ((gi m.2.l i).batch).client, req := ((gi m.2.l i).batch).req, ops := ((gi m.2.l i).batch).ops } : EBatch) } : EEntry) rfl hg3 rfl rfl rfl 4 rfl rfl rfl rfl rfl (by decide) (fun cl ⟨s0_, e, h0_⟩ => ⟨s0_, by rw [e]; rfl, h0_⟩) fun w11 H => ?_
      dsimp only [List.eraseIdx] at H
      refine s_end Z [0, 1, 6] rfl fun Z => ?_
      refine p_then (wp_seq ?_)
      obtain ⟨hg4, hF⟩ := chk_in hF
      obtain ⟨hg5, hF⟩ := chk_in hF
      refine f_region Z fun Z => ?_
      refine s_runk tDg Z 3 rfl rfl fun a Z => ?_
      refine sO Z _ rfl (oL tDg rfl rfl (H.bc 3 0 rfl rfl)) fun a Z => ?_
      refine s_runk tDg Z 1 rfl rfl fun a Z => ?_
      refine sO Z (vI (i + 1)) rfl (Ob_add rfl rfl rfl (wrI hg4)) fun a Z => ?_
      refine sO Z (subV v4 ((i + 1).toNat) ((m.2.l.set (i).toNat ({ e with batch := ({ client := ((gi m.2.l i).batch).client, req := ((gi m.2.l i).batch).req, ops := ((gi m.2.l i).batch).ops } : EBatch) } : EEntry)).length) 4) rfl (Ob_sub_from tDg rfl rfl rfl rfl (H.owshape 0 rfl) hg5) fun a Z => ?_
      refine sO Z (vI (((m.2.l.set (i).toNat ({ e with batch := ({ client := ((gi m.2.l i).batch).client, req := ((gi m.2.l i).batch).req, ops := ((gi m.2.l i).batch).ops } : EBatch) } : EEntry)).drop ((i + 1).toNat)).length : Int)) rfl (Ob_slen tDg rfl rfl rfl (slRep2.any ((H.ow2 0 rfl).part_from hg5 4 rfl)).shape) fun a Z => ?_
      refine s_runk tDg Z 1 rfl rfl fun a Z => ?_
      refine s_end Z [0, 1, 6, 63, 64] rfl fun Z => ?_
      refine p_then (wp_block ?_)
      refine f_iter hF (fun sg a' w' => match sg with | (x, l_l) => ∃ v6 : Value, Sl 107 [(0, pp b_l 0), (1, vI i), (6, vI 0), (63, vI (((m.2.l.set (i).toNat ({ e with batch := ({ client := ((gi m.2.l i).batch).client, req := ((gi m.2.l i).batch).req, ops := ((gi m.2.l i).batch).ops } : EBatch) } : EEntry)).drop ((i + 1).toNat)).length : Int)), (64, vI x)] a' ∧ ∃ I2, Hf I D w I2 w' [BxC b_l 101 [v6, v5, vI m.2.stamped], PmC M_99 v5 m.2.at_, OwC (NEEntryO T2.1) 44 v6 l_l]) ⟨v4, Z.sub (ts := [0, 1, 6, 63, 64]) rfl, ⟨I2, (H.sub [(3, false), (3, false), (0, false)] rfl).eq rfl⟩⟩ ?_
      rintro rc ⟨x, l_l⟩ a w12 ⟨v6, Z, I4, H⟩ hF
      unfold F_rlog_Log_Set_l2 at hF
      try dsimp only at hF
      refine sR Z fun Z => ?_
      refine s_runk tDg Z 1 rfl rfl fun a Z => ?_
      refine s_end Z [0, 1, 6, 63, 64, 65] rfl fun Z => ?_
      refine p_then (wp_seq ?_)
      refine f_cond Z rfl (fun hc5 => ?_) (fun hc5 => ?_)
      ·replace hF := ite_t hc5 hF
       refine wp_skip ?_
       refine p_then (wp_seq ?_)
       refine wp_block ?_
       refine sR Z fun Z => ?_
       refine s_runk tDg Z 2 rfl rfl fun a Z => ?_
       refine s_end Z [0, 1, 6, 63, 64, 65, 66, 8] rfl fun Z => ?_
       refine p_then ?_
       obtain ⟨hg6, hF⟩ := chk_in hF
       obtain ⟨hg7, hF⟩ := chk_in hF
       obtain ⟨hg8, hF⟩ := chk_in hF
       refine f_region Z fun Z => ?_
       refine s_runk tDg Z 3 rfl rfl fun a Z => ?_
       refine sO Z _ rfl (oL tDg rfl rfl (H.bc 0 0 rfl rfl)) fun a Z => ?_
       refine s_runk tDg Z 1 rfl rfl fun a Z => ?_
       refine sO Z (vI (i + 1)) rfl (Ob_add rfl rfl rfl (wrI hg6)) fun a Z => ?_
       refine s_runk tDg Z 1 rfl rfl fun a Z => ?_
       refine sO Z (vI (i + 1 + x)) rfl (Ob_add rfl rfl rfl (wrI hg7)) fun a Z => ?_
       refine sO Z (.pointer (some ⟨blkOf v6, oofOf v6 + (i + 1 + x).toNat * 4, none⟩)) rfl (Ob_sidx tDg rfl rfl rfl rfl (slPl (H.owA 2 rfl).unl hg8) hg8) fun a Z => ?_
       refine s_runk tDg Z 1 rfl rfl fun a Z => ?_
       refine h_setR tDg Z H 2 (z := i + 1 + x) (d := default) 3 ({ batch := ({ client := ((l_l.getD (i + 1 + x).toNat default).batch).client, req := ((l_l.getD (i + 1 + x).toNat default).batch).req, ops := ((l_l.getD (i + 1 + x).toNat default).batch).ops } : EBatch), ts := 0 } : EEntry) rfl hg8 rfl rfl rfl 4 rfl rfl rfl rfl rfl (by decide) (fun cl ⟨s0_, e, h0_⟩ => ⟨s0_, by rw [e]; rfl, h0_⟩) fun w14 H => ?_
       dsimp only [List.eraseIdx] at H
       refine s_end Z [0, 1, 6, 63, 64, 65, 66, 8, 67, 68, 69, 70, 71, 72, 73, 74, 75, 76] rfl fun Z => ?_
       refine p_blk ?_
       refine p_then ?_
       obtain ⟨hg9, hF⟩ := chk_in hF
       refine f_region Z fun Z => ?_
       refine sO Z (vI (x + 1)) rfl (Ob_add rfl rfl rfl (wrI hg9)) fun a Z => ?_
       refine s_runk tDg Z 1 rfl rfl fun a Z => ?_
       refine s_end Z [0, 1, 6, 63, 64, 65, 66, 8, 67, 68, 69, 70, 71, 72, 73, 74, 75, 76, 77] rfl fun Z => ?_
       refine p_then ?_
       exact ⟨(x + 1, l_l.set (i + 1 + x).toNat ({ batch := ({ client := ((l_l.getD (i + 1 + x).toNat default).batch).client, req := ((l_l.getD (i + 1 + x).toNat default).batch).req, ops := ((l_l.getD (i + 1 + x).toNat default).batch).ops } : EBatch), ts := 0 } : EEntry)), ⟨v6, Z.sub (ts := [0, 1, 6, 63, 64]) rfl, ⟨I4, (H.sub [(1, false), (1, false), (0, false)] rfl).eq rfl⟩⟩, hF⟩
      ·replace hF := ite_f hc5 hF
       refine wp_exit ?_
       refine p_then_x ?_
       refine p_then_x ?_
       refine f_exit_here ?_
       refine p_then ?_
       replace H := H.sX (XErlog_Log T0 A0 b_l ({ m.2 with l := l_l } : Erlog_Log)) (v6, v5, T2) [(0, false), (1, false), (0, false)] rfl rfl rfl
       exact ⟨({ m.2 with l := l_l } : Erlog_Log), Z.sub (ts := [0, 6]) rfl, ⟨I4, (H.sub [(0, false)] rfl).eq rfl⟩, hF⟩
     ·replace hF := ite_f hc4 hF
      refine wp_skip ?_
      refine p_then ?_
      replace H := H.sX (XErlog_Log T0 A0 b_l m.2) (v4, v5, T2) [(2, false), (2, false), (2, false)] rfl rfl rfl
      exact ⟨m.2, Z.sub (ts := [0, 6]) rfl, ⟨I2, (H.sub [(0, false)] rfl).eq rfl⟩, hF⟩
    ·replace hF := ite_f hc3 hF
     refine wp_seq ?_
     obtain ⟨c, hx5, hF⟩ := bnd_in hF
     refine f_region Z fun Z => ?_
     refine s_runk tDg Z 2 rfl rfl fun a Z => ?_
     replace H := H.sX (XErlog_Log T0 A0 b_l m.2) (v4, v5, T2) [(1, false), (1, false), (1, false)] rfl rfl rfl
     refine hC Z H [(0, false)] rfl #[] fn_59_YDg rfl rfl (fun D h => have q := c_rlog_Log_cut hx5 h; q) fun vv a w15 D2 hr hF2 Z => ?_
     obtain ⟨rfl, I5, K⟩ := hr
     have H := (hF2 K).nf rfl
     refine s_end Z [0, 1, 5, 6] rfl fun Z => ?_
     refine p_then (wp_seq ?_)
     obtain ⟨⟨v7, v8, T3⟩, H⟩ := H.openX 0 rfl
     replace H := H.nf rfl; try dsimp only at H
     obtain ⟨o, hx6, hF⟩ := bnd_in hF
     obtain ⟨hg10, hF⟩ := chk_in hF
     refine f_regionL Z (by kernel_rfl) (by kernel_rfl) (by decide) (by decide) [6, 7, 8, 11] [(0, 0, 3), (0, 0, 2), (2, 0, 2), (6, 0, 2), (14, 0, 2), (0, 0, 0), (32, 0, 0), (96, 1, 1), (254, 2, 2), (511, 3, 3), (1023, 3, 3), (2047, 3, 3)] (by kernel_rfl) (fun jj vv => match jj with | 0 => vv = pp b_l 0 | 1 => vv = pp b_l 0 | 2 => vv = pp b_l 0 | 3 => vv = pp b_l 0 | 4 => vv = v7 | 5 => vv = .agg (cEEntry e v1_e).toArray | 6 => vv = .agg (cEEntry o (aggAt vv 2)).toArray | 7 => vv = .slice (some ⟨blkOf vv, 0, none⟩) 1 1 | 8 => True | 9 => vv = pp b_l 0 | 10 => vv = pp b_l 0 | 11 => True | _ => True) (fun ss vals1 xw => match ss with | 0 => Gx I D w I5 w15 xw [BxC b_l 101 [v7, v8, vI c.stamped], OwC (NEEntryO T3.1) 44 v7 c.l, PmC M_99 v8 c.at_, SlC NEOp u1 (((gi m.2.l i).batch).ops), BxC b1 44 (cEEntry e v1_e), SlC NEOp v1_e e.batch.ops] | 1 => Gx I D w I5 w15 xw [OwC NEOp 58 (aggAt (vals1 6) 2) o.batch.ops, BxC b_l 101 [v7, v8, vI c.stamped], OwC (NEEntryO T3.1) 44 v7 c.l, PmC M_99 v8 c.at_, SlC NEOp u1 (((gi m.2.l i).batch).ops), BxC b1 44 (cEEntry e v1_e), SlC NEOp v1_e e.batch.ops] | 2 => Gx I D w I5 w15 xw [BxC (blkOf (vals1 7)) 44 (cEEntry o (aggAt (vals1 6) 2)), OwC NEOp 58 (aggAt (vals1 6) 2) o.batch.ops, BxC b_l 101 [v7, v8, vI c.stamped], OwC (NEEntryO T3.1) 44 v7 c.l, PmC M_99 v8 c.at_, SlC NEOp u1 (((gi m.2.l i).batch).ops), BxC b1 44 (cEEntry e v1_e), SlC NEOp v1_e e.batch.ops] | 3 => Gx I D w I5 w15 xw [OxC T0 A0 44 (vals1 8) (c.l ++ [o]), BxC b_l 101 [v7, v8, vI c.stamped], PmC M_99 v8 c.at_, SlC NEOp u1 (((gi m.2.l i).batch).ops), BxC b1 44 (cEEntry e v1_e), SlC NEOp v1_e e.batch.ops] | _ => Gx I D w I5 w15 xw [BxC b_l 101 [(vals1 8), v8, vI c.stamped], OxC T0 A0 44 (vals1 8) (c.l ++ [o]), PmC M_99 v8 c.at_, SlC NEOp u1 (((gi m.2.l i).batch).ops), BxC b1 44 (cEEntry e v1_e), SlC NEOp v1_e e.batch.ops]) (fun _ => Gx.start H) ?_ ?_
     ·intro fr hfr hfe
      refine .cons (fun ss hlo hhi vals1 xw hG hV => ?_) ?_
      ·obtain rfl | rfl | rfl | rfl : ss = 0 ∨ ss = 1 ∨ ss = 2 ∨ ss = 3 := st3 hlo hhi
       all_goals
       ·rw [← hfe]
        have hS := (hfr vals1).sub (ts := [0]) rfl
        exact L_val hS rfl (Ob_c tDg rfl) ⟨rfl, hG⟩
      refine .cons (fun ss hlo hhi vals1 xw hG hV => ?_) ?_
      ·obtain rfl | rfl | rfl : ss = 0 ∨ ss = 1 ∨ ss = 2 := st2 hlo hhi
       all_goals
       ·rw [← hfe]
        have hS := (hfr vals1).sub (ts := [0]) rfl
        exact L_val hS rfl (Ob_c tDg rfl) ⟨rfl, hG⟩
      refine .cons (fun ss hlo hhi vals1 xw hG hV => ?_) ?_
      ·obtain rfl | rfl | rfl : ss = 0 ∨ ss = 1 ∨ ss = 2 := st2 hlo hhi
       all_goals
       ·rw [← hfe]
        have hS := (hfr vals1).sub (ts := [82]) rfl
        replace hS := hS.conv (t := 82) rfl (show (vals1 1) = pp b_l 0 from hV 1 (by decide))
        exact L_val hS rfl (Ob_c tDg rfl) ⟨rfl, hG⟩
      refine .cons (fun ss hlo hhi vals1 xw hG hV => ?_) ?_
      ·obtain rfl | rfl | rfl : ss = 0 ∨ ss = 1 ∨ ss = 2 := st2 hlo hhi
       all_goals
       ·rw [← hfe]
        have hS := (hfr vals1).sub (ts := [83]) rfl
        replace hS := hS.conv (t := 83) rfl (show (vals1 2) = pp b_l 0 from hV 2 (by decide))
        exact L_val hS rfl (Ob_c tDg rfl) ⟨rfl, hG⟩
      refine .cons (fun ss hlo hhi vals1 xw hG hV => ?_) ?_
      ·obtain rfl | rfl | rfl : ss = 0 ∨ ss = 1 ∨ ss = 2 := st2 hlo hhi
       ·rw [← hfe]
        have hS := (hfr vals1).sub (ts := [84]) rfl
        replace hS := hS.conv (t := 84) rfl (show (vals1 3) = pp b_l 0 from hV 3 (by decide))
        obtain ⟨I2, hI2, H⟩ := Gx.ex hG
        exact L_val hS rfl (oL tDg rfl rfl (H.bc 0 0 rfl rfl)) ⟨rfl, hG⟩
       ·rw [← hfe]
        have hS := (hfr vals1).sub (ts := [84]) rfl
        replace hS := hS.conv (t := 84) rfl (show (vals1 3) = pp b_l 0 from hV 3 (by decide))
        obtain ⟨I2, hI2, H⟩ := Gx.ex hG
        exact L_val hS rfl (oL tDg rfl rfl (H.bc 1 0 rfl rfl)) ⟨rfl, hG⟩
       ·rw [← hfe]
        have hS := (hfr vals1).sub (ts := [84]) rfl
        replace hS := hS.conv (t := 84) rfl (show (vals1 3) = pp b_l 0 from hV 3 (by decide))
        obtain ⟨I2, hI2, H⟩ := Gx.ex hG
        exact L_val hS rfl (oL tDg rfl rfl (H.bc 2 0 rfl rfl)) ⟨rfl, hG⟩
      refine .cons (fun ss hlo hhi vals1 xw hG hV => ?_) ?_
      ·obtain rfl : ss = 0 := Nat.le_antisymm hhi hlo
       rw [← hfe]
       have hS := (hfr vals1).sub (ts := [5]) rfl
       obtain ⟨I2, hI2, H⟩ := Gx.ex hG
       exact L_val hS rfl (oA tDg rfl rfl ((H.bx 4 rfl).part 0 rfl)) ⟨rfl, hG⟩
      refine .cons (fun ss hlo hhi vals1 xw hG hV => ?_) ?_
      ·obtain rfl : ss = 0 := Nat.le_antisymm hhi hlo
       rw [← hfe]
       have hS := (hfr vals1).sub (ts := [86]) rfl
       replace hS := hS.conv (t := 86) rfl (show (vals1 5) = .agg (cEEntry e v1_e).toArray from hV 5 (by decide))
       obtain ⟨I2, hI2, H⟩ := Gx.ex hG
       refine L_hcall H (js := [(5, true)]) rfl (caps := #[]) hS fn_60_YDg rfl rfl rfl rfl rfl (fun D1 hS => have hq := c_rlog_own hx6 hS; hq) fun _ yw D1 hr hF2 => ?_
       obtain ⟨q0_, rfl, I3, K⟩ := hr
       obtain ⟨hK, H2⟩ := hF2 K
       exact ⟨rfl, Gx.go hG hI2 hK K.imm H2⟩
      refine .cons (fun ss hlo hhi vals1 xw hG hV => ?_) ?_
      ·obtain rfl : ss = 1 := Nat.le_antisymm hhi hlo
       rw [← hfe]
       have hS := (hfr vals1).sub (ts := [87]) rfl
       replace hS := hS.conv (t := 87) rfl (show (vals1 6) = .agg (cEEntry o (aggAt (vals1 6) 2)).toArray from hV 6 (by decide))
       obtain ⟨I2, hI2, H⟩ := Gx.ex hG
       exact L_bslice H (vs := [(0, .agg #[vI o.batch.client, vI o.batch.req, (aggAt (vals1 6) 2), vU o.ts])]) (cl := [vI o.batch.client, vI o.batch.req, (aggAt (vals1 6) 2), vU o.ts]) (e := 44) hS rfl rfl rfl (fun w => run_bslice (z := .agg #[vI 0, vI 0, nS, vU 0]) (m := 4) Tryz.underlying32 (by kernel_rfl) rfl rfl (by decide) (by simp [Instr.fill, Value.cells]) w) fun yw b hK H => ⟨rfl, Gx.go hG hI2 hK (fun _ h => h) H⟩
      refine .cons (fun ss hlo hhi vals1 xw hG hV => ?_) ?_
      ·obtain rfl : ss = 2 := Nat.le_antisymm hhi hlo
       rw [← hfe]
       have hS := (hfr vals1).sub (ts := [85, 88]) rfl
       replace hS := hS.conv (t := 85) rfl (show (vals1 4) = v7 from hV 4 (by decide))
       replace hS := hS.conv (t := 88) rfl (show (vals1 7) = .slice (some ⟨blkOf (vals1 7), 0, none⟩) 1 1 from hV 7 (by decide))
       obtain ⟨I2, hI2, H⟩ := Gx.ex hG
       exact L_appX H 3 1 E_32_YDg o rfl rfl (fun k h => H.imm k (hA k h)) [(1, false), (2, false)] rfl 0 rfl rfl hS rfl rfl rfl rfl hg10 (by decide) fun v yw I3 hI hK H => ⟨trivial, Gx.go hG hI2 (hK.sub hI) hI (H.sub [(0, false), (1, false), (1, false), (1, true), (2, false), (2, true)] rfl)⟩
      refine .cons (fun ss hlo hhi vals1 xw hG hV => ?_) ?_
      ·obtain rfl : ss = 3 := Nat.le_antisymm hhi hlo
       rw [← hfe]
       have hS := (hfr vals1).sub (ts := [81]) rfl
       replace hS := hS.conv (t := 81) rfl (show (vals1 0) = pp b_l 0 from hV 0 (by decide))
       exact L_val hS rfl (Ob_c tDg rfl) ⟨rfl, hG⟩
      refine .cons (fun ss hlo hhi vals1 xw hG hV => ?_) ?_
      ·obtain rfl : ss = 3 := Nat.le_antisymm hhi hlo
       rw [← hfe]
       have hS := (hfr vals1).sub (ts := [90]) rfl
       replace hS := hS.conv (t := 90) rfl (show (vals1 9) = pp b_l 0 from hV 9 (by decide))
       exact L_val hS rfl (Ob_c tDg rfl) ⟨rfl, hG⟩
      refine .cons (fun ss hlo hhi vals1 xw hG hV => ?_) ?_
      ·obtain rfl : ss = 3 := Nat.le_antisymm hhi hlo
       rw [← hfe]
       have hS := (hfr vals1).sub (ts := [91, 89]) rfl
       replace hS := hS.conv (t := 91) rfl (show (vals1 10) = pp b_l 0 from hV 10 (by decide))
       obtain ⟨I2, hI2, H⟩ := Gx.ex hG
       exact L_store tDg H 1 rfl hS rfl rfl rfl rfl rfl (slS.cells (H.oxshape 0 rfl)) rfl rfl (one_cons (slS.one (H.oxshape 0 rfl)) one_nil) (Nat.le_of_ble_eq_true rfl) rfl fun yw hK H => ⟨trivial, Gx.go hG hI2 hK (fun _ h => h) H⟩
      exact .nil
     ·intro vals1 a w16 Z hG hV
      replace Z := Z.sub (ts := [0, 1, 5, 6]) (S' := [(0, pp b_l 0), (1, vI i), (5, pp b1 0), (6, vI 0)]) rfl
      obtain ⟨I6, _, H⟩ := Gx.ex hG
      clear hG hV
      replace Z := Z.sub (ts := [0, 1, 5, 6]) rfl
      replace H := H.nf rfl; try dsimp only at H
      obtain ⟨T4, H⟩ := H.openX 1 rfl
      replace H := H.nf rfl; try dsimp only at H
      refine p_then ?_
      rcases optE_in hF with ⟨ho1, hF⟩ | ⟨m_2, ho1, hF⟩
      ·obtain ⟨hv, H⟩ := H.optMN 2 rfl ho1
       (try have Zq29 := Z); subst hv; (try have Z := Zq29)
       replace H := H.nf rfl; try dsimp only at H
       cases hF
      ·obtain ⟨b2, hv, H⟩ := H.optMS 2 rfl ho1
       (try have Zq30 := Z); subst hv; (try have Z := Zq30)
       replace H := H.nf rfl; try dsimp only at H
       obtain ⟨o_2, hx7, hF⟩ := bnd_in hF
       obtain ⟨hg11, hF⟩ := chk_in hF
       refine f_quietS 7 (by kernel_rfl) (by kernel_rfl) (by kernel_rfl) (by kernel_rfl) (by kernel_rfl) Z fun Z => ?_
       refine q_runk tDg Z 3 rfl rfl fun a Z => ?_
       refine qO Z _ rfl (fun _ hw => oL tDg rfl rfl ((H.blw hw).bc 2 1 rfl rfl)) fun a Z => ?_
       refine qO Z (.agg (cEEntry e v1_e).toArray) rfl (fun _ hw => oA tDg rfl rfl (((H.blw hw).bx 4 rfl).part 0 rfl)) fun a Z => ?_
       refine q_call Z (caps := #[]) fn_61_YDg rfl rfl rfl rfl rfl (by decide) rfl rfl (fun _ hw => (have hq := c_rlog_of hx7 (((H.blw hw)).pick0 (js := [(5, true)]) rfl rfl); plainC hq)) fun a Z => ?_
       refine q_runk tDg Z 1 rfl rfl fun a Z => ?_
       refine q_endS Z [0, 1, 5, 6, 92, 93, 94, 95, 96, 97, 98] rfl fun w17 hb Z => ?_
       replace H := H.blw hb
       clear hb
       refine h_mset Z H 0 o_2 i MF_99 rfl rfl rfl rfl rfl rfl rfl hg11 fun w18 H => ?_
       dsimp only [List.eraseIdx] at H
       refine s_end Z [0, 6] rfl fun Z => ?_
       refine p_then ?_
       replace H := (H.mkMS 0 rfl).nf rfl
       replace H := H.sX (XErlog_Log T0 A0 b_l ({ c with l := c.l ++ [o], at_ := some (mset m_2 o_2 i) } : Erlog_Log)) ((vals1 8), .map (some b2), T4) [(2, false), (1, false), (0, false)] rfl rfl rfl
       exact ⟨({ c with l := c.l ++ [o], at_ := some (mset m_2 o_2 i) } : Erlog_Log), Z.sub (ts := [0, 6]) rfl, ⟨I6, (H.sub [(0, false)] rfl).eq rfl⟩, hF⟩

def F_item_Last (l : List EEntry) : Option Int := (F_item_Stamped l).bind fun s0 => (if (decide (s0 > 0)) = true then (chk (inI (s0 - 1)) (chk ((0 : Int) ≤ s0 - 1 ∧ s0 - 1 < (l.length : Int)) (some ((l.getD (s0 - 1).toNat default).ts)))) else (some 0))

set_option maxHeartbeats 1000000 in
theorem c_item_Last {I D : Dm} {l : List EEntry} {v1_l : Value} {w : World} {rr : Int} (hF : F_item_Last l = some rr) (H : St I D w [SlC NEEntry v1_l l]) :
  Calls Tryz.prog 63 #[v1_l] w (Ret fun vv w' => vv = vU rr ∧ ∃ I', Hf I D w I' w' []) := by
 replace H := H.hf
 unfold F_item_Last at hF
 refine f_enter 14 Tryz.func63 rfl rfl (Nat.le_of_ble_eq_true rfl) fun a Z => ?_
 replace Z := Z.sub (ts := [0]) rfl
 refine sR Z fun Z => ?_
 refine s_runk tDg Z 1 rfl rfl fun a Z => ?_
 refine s_end Z [0, 2] rfl fun Z => ?_
 refine p_then (wp_seq ?_)
 refine wp_seq ?_
 obtain ⟨s0, hx1, hF⟩ := bnd_in hF
 refine f_region Z fun Z => ?_
 refine s_runk tDg Z 1 rfl rfl fun a Z => ?_
 refine hC Z H [(0, true)] rfl #[] fn_62_YDg rfl rfl (fun D h => have q := c_item_Stamped hx1 h; q) fun vv a w1 D2 hr hF2 Z => ?_
 obtain ⟨rfl, I1, K⟩ := hr
 have H := (hF2 K).nf rfl
 refine s_runk tDg Z 1 rfl rfl fun a Z => ?_
 refine s_end Z [0, 2, 3] rfl fun Z => ?_
 refine pR Z fun Z => ?_
 refine s_runk tDg Z 2 rfl rfl fun a Z => ?_
 refine s_end Z [0, 2, 3, 7] rfl fun Z => ?_
 refine p_then ?_
 refine f_cond Z rfl (fun hc1 => ?_) (fun hc1 => ?_)
 ·replace hF := ite_t hc1 hF
  refine wp_seq ?_
  obtain ⟨hg1, hF⟩ := chk_in hF
  obtain ⟨hg2, hF⟩ := chk_in hF
  refine f_region Z fun Z => ?_
  refine s_runk tDg Z 2 rfl rfl fun a Z => ?_
  refine sO Z (vI (s0 - 1)) rfl (Ob_sub rfl rfl rfl (wrI hg1)) fun a Z => ?_
  refine sO Z (.pointer (some ⟨blkOf v1_l, oofOf v1_l + (s0 - 1).toNat * 4, none⟩)) rfl (Ob_sidx tDg rfl rfl rfl rfl (slPl (H.sl 0 rfl) hg2) hg2) fun a Z => ?_
  refine s_runk tDg Z 1 rfl rfl fun a Z => ?_
  obtain ⟨_, ⟨u1, rfl, L1⟩, H⟩ := H.elG 0 rfl (s0 - 1) (NEEntry.dft _ _)
  replace H := H.addsl L1
  replace H : Hf I D w I1 w1 [SlC NEOp u1 (((l.getD (s0 - 1).toNat default).batch).ops), AtG ((0 : Int) ≤ s0 - 1 ∧ s0 - 1 < (ln l)) (blkOf v1_l) (oofOf v1_l + (s0 - 1).toNat * 4) (cEEntry (l.getD (s0 - 1).toNat default) u1), SlC NEEntry v1_l l] := H
  refine sO Z (vU ((l.getD (s0 - 1).toNat default).ts)) rfl (oL tDg rfl rfl ((H.atg 1 rfl hg2) 3 _ rfl)) fun a Z => ?_
  refine s_runk tDg Z 1 rfl rfl fun a Z => ?_
  refine s_end Z [2] rfl fun Z => ?_
  refine p_then (wp_ret ?_)
  refine p_then_r ?_
  obtain rfl := some_in hF
  exact f_ret Z (run_results1 rfl Z rfl) ⟨rfl, I1, (H.sub [] rfl).eq rfl⟩
 ·replace hF := ite_f hc1 hF
  refine wp_skip ?_
  refine pR Z fun Z => ?_
  refine s_runk tDg Z 1 rfl rfl fun a Z => ?_
  refine s_end Z [2] rfl fun Z => ?_
  refine p_then (wp_ret ?_)
  obtain rfl := some_in hF
  exact f_ret Z (run_results1 rfl Z rfl) ⟨rfl, I1, (H.sub [] rfl).eq rfl⟩

def F_rlog_Log_Stamp (l : Erlog_Log) (i : Int) (ts : Int) : Option (Int × Erlog_Log) := (F_rlog_Log_none l).bind fun n0 => (if (n0) = true then (some (8, l)) else (if ((decide (i < 0)) || (decide (i ≥ (l.l.length : Int)))) = true then (some (1, l)) else (if (ts == 0) = true then (some (5, l)) else ((gif (!(i != l.stamped)) (F_item_Last l.l) default).bind fun l_2 => (if ((i != l.stamped) || (decide (ts ≤ l_2))) = true then (some (18, l)) else (chk ((0 : Int) ≤ i ∧ i < (l.l.length : Int)) (chk (inI (l.stamped + 1)) (some (0, ({ l with l := l.l.set (i).toNat ({ batch := ({ client := ((l.l.getD (i).toNat default).batch).client, req := ((l.l.getD (i).toNat default).batch).req, ops := ((l.l.getD (i).toNat default).batch).ops } : EBatch), ts := ts } : EEntry), stamped := l.stamped + 1 } : Erlog_Log))))))))))

set_option maxHeartbeats 1000000 in
theorem c_rlog_Log_Stamp {I D : Dm} {b_l : Nat} {l : Erlog_Log} {i : Int} {ts : Int} {w : World} {rr : Int × Erlog_Log} (hF : F_rlog_Log_Stamp l i ts = some rr) (H : St I D w [XErlog_Log T0 A0 b_l l]) :
  Calls Tryz.prog 23 #[pp b_l 0, vI i, vU ts] w (Ret fun vv w' => vv = vI rr.1 ∧ ∃ I', Hf I D w I' w' [XErlog_Log T0 A0 b_l rr.2]) := by
 replace H := H.hf
 unfold F_rlog_Log_Stamp at hF
 refine f_enter 56 Tryz.func23 rfl rfl (Nat.le_of_ble_eq_true rfl) fun a Z => ?_
 replace Z := Z.sub (ts := [0, 1, 2]) rfl
 refine sR Z fun Z => ?_
 refine s_runk tDg Z 1 rfl rfl fun a Z => ?_
 refine s_end Z [0, 1, 2, 6] rfl fun Z => ?_
 refine p_then (wp_seq ?_)
 refine wp_block ?_
 refine wp_seq ?_
 obtain ⟨n0, hx1, hF⟩ := bnd_in hF
 refine f_region Z fun Z => ?_
 refine s_runk tDg Z 1 rfl rfl fun a Z => ?_
 refine hC Z H [(0, false)] rfl #[] fn_56_YDg rfl rfl (fun D h => have q := c_rlog_Log_none hx1 h; q) fun vv a w1 D2 hr hF2 Z => ?_
 obtain ⟨rfl, I1, K⟩ := hr
 have H := (hF2 K).nf rfl
 refine s_runk tDg Z 1 rfl rfl fun a Z => ?_
 refine s_end Z [0, 1, 2, 6, 7] rfl fun Z => ?_
 refine p_then ?_
 refine f_cond Z rfl (fun hc1 => ?_) (fun hc1 => ?_)
 ·replace hF := ite_t hc1 hF
  refine sR Z fun Z => ?_
  refine s_runk tDg Z 1 rfl rfl fun a Z => ?_
  refine s_end Z [0, 1, 2, 6] rfl fun Z => ?_
  refine p_then (wp_ret ?_)
  refine p_blk_r ?_
  refine p_then_r ?_
  obtain rfl := some_in hF
  exact f_ret Z (run_results1 rfl Z rfl) ⟨rfl, I1, (H.sub [(0, false)] rfl).eq rfl⟩
 ·replace hF := ite_f hc1 hF
  refine sR Z fun Z => ?_
  refine s_runk tDg Z 3 rfl rfl fun a Z => ?_
  refine gO Z (vI i) rfl (wantB_f _) (.n 1 rfl .z) (fun hp => Ob_c tDg rfl) fun a Z => ?_
  refine gO Z (pp b_l 0) rfl (wantB_f _) (.n 0 rfl .z) (fun hp => Ob_c tDg rfl) fun a Z => ?_
  refine gO Z (pp b_l 0) rfl (wantB_f _) (.c 15 rfl id .z) (fun hp => Ob_c tDg rfl) fun a Z => ?_
  refine gO Z (pp b_l 0) rfl (wantB_f _) (.c 16 rfl id .z) (fun hp => Ob_c tDg rfl) fun a Z => ?_
  obtain ⟨⟨v1, v2, T1⟩, H⟩ := H.openX 0 rfl
  replace H := H.nf rfl; try dsimp only at H
  refine gO Z _ rfl (wantB_f _) (.c 17 rfl id .z) (fun hp => oL tDg rfl rfl (H.bc 0 0 rfl rfl)) fun a Z => ?_
  refine gO Z (vI (ln l.l)) rfl (wantB_f _) (.c 18 rfl id .z) (fun hp => Ob_slen tDg rfl rfl rfl (H.owshape 1 rfl)) fun a Z => ?_
  refine gO Z (vT (decide (i ≥ (ln l.l)))) rfl (wantB_f _) (.c 14 rfl id (.c 19 rfl id .z)) (fun hp => Ob_c tDg rfl) fun a Z => ?_
  refine sO Z (vT ((decide (i < 0)) || (decide (i ≥ (ln l.l))))) rfl (Ob_pick rfl rfl rfl rfl (pick_or _ _)) fun a Z => ?_
  refine s_runk tDg Z 1 rfl rfl fun a Z => ?_
  refine s_end Z [0, 1, 2, 6, 10] rfl fun Z => ?_
  refine p_then ?_
  refine f_cond Z rfl (fun hc2 => ?_) (fun hc2 => ?_)
  ·replace hF := ite_t hc2 hF
   refine sR Z fun Z => ?_
   refine s_runk tDg Z 1 rfl rfl fun a Z => ?_
   refine s_end Z [0, 1, 2, 6] rfl fun Z => ?_
   refine p_then (wp_ret ?_)
   refine p_blk_r ?_
   refine p_then_r ?_
   replace H := H.sX (XErlog_Log T0 A0 b_l l) (v1, v2, T1) [(0, false), (0, false), (0, false)] rfl rfl rfl
   obtain rfl := some_in hF
   exact f_ret Z (run_results1 rfl Z rfl) ⟨rfl, I1, (H.sub [(0, false)] rfl).eq rfl⟩
  ·replace hF := ite_f hc2 hF
   refine sR Z fun Z => ?_
   refine s_runk tDg Z 3 rfl rfl fun a Z => ?_
   refine s_end Z [0, 1, 2, 6, 22] rfl fun Z => ?_
   refine p_then ?_
   refine f_cond Z rfl (fun hc3 => ?_) (fun hc3 => ?_)
   ·replace hF := ite_t hc3 hF
    refine sR Z fun Z => ?_
    refine s_runk tDg Z 1 rfl rfl fun a Z => ?_
    refine s_end Z [0, 1, 2, 6] rfl fun Z => ?_
    refine p_then (wp_ret ?_)
    refine p_blk_r ?_
    refine p_then_r ?_
    replace H := H.sX (XErlog_Log T0 A0 b_l l) (v1, v2, T1) [(0, false), (0, false), (0, false)] rfl rfl rfl
    obtain rfl := some_in hF
    exact f_ret Z (run_results1 rfl Z rfl) ⟨rfl, I1, (H.sub [(0, false)] rfl).eq rfl⟩
   ·replace hF := ite_f hc3 hF
    refine wp_seq ?_
    obtain ⟨l_2, hx2, hF⟩ := bnd_in hF
    refine f_region Z fun Z => ?_
    refine s_runk tDg Z 4 rfl rfl fun a Z => ?_
    refine sO Z _ rfl (oL tDg rfl rfl (H.bc 0 2 rfl rfl)) fun a Z => ?_
    refine s_runk tDg Z 2 rfl rfl fun a Z => ?_
    refine gO Z (vU ts) rfl (wantB_f _) (.n 2 rfl .z) (fun hp => Ob_c tDg rfl) fun a Z => ?_
    refine gO Z (pp b_l 0) rfl (wantB_f _) (.n 0 rfl .z) (fun hp => Ob_c tDg rfl) fun a Z => ?_
    refine gO Z (pp b_l 0) rfl (wantB_f _) (.c 34 rfl id .z) (fun hp => Ob_c tDg rfl) fun a Z => ?_
    refine gO Z (pp b_l 0) rfl (wantB_f _) (.c 35 rfl id .z) (fun hp => Ob_c tDg rfl) fun a Z => ?_
    refine gO Z _ rfl (wantB_f _) (.c 36 rfl id .z) (fun hp => oL tDg rfl rfl (H.bc 0 0 rfl rfl)) fun a Z => ?_
    refine g_call Z (p := (!(i != l.stamped))) (v := vU l_2) (S' := [(37, v1)]) (caps := #[]) fn_63_YDg rfl rfl rfl (wantB_f _) rfl (by decide) (fun hp hS => (hS.conv (t := 37) rfl (cond_t hp)).sub (ts := [37]) rfl) rfl rfl rfl rfl (fun hp => (have hq := c_item_Last (gif_in hx2 hp) (stS (H.owA 1 rfl).unl (stB _)); plainC hq)) fun a w2 hb Z => ?_
    replace H := H.blw hb
    clear hb
    refine gO Z (vT (decide (ts ≤ l_2))) rfl (wantB_f _) (.c 33 rfl id (.c 38 rfl id .z)) (fun hp => Ob_c tDg rfl) fun a Z => ?_
    refine sO Z (vT ((i != l.stamped) || (decide (ts ≤ l_2)))) rfl (Ob_pick rfl rfl rfl rfl (pick_or _ _)) fun a Z => ?_
    refine s_runk tDg Z 1 rfl rfl fun a Z => ?_
    refine s_end Z [0, 1, 2, 6, 25] rfl fun Z => ?_
    refine p_then ?_
    refine f_cond Z rfl (fun hc4 => ?_) (fun hc4 => ?_)
    ·replace hF := ite_t hc4 hF
     refine sR Z fun Z => ?_
     refine s_runk tDg Z 1 rfl rfl fun a Z => ?_
     refine s_end Z [0, 1, 2, 6] rfl fun Z => ?_
     refine p_then (wp_ret ?_)
     refine p_blk_r ?_
     refine p_then_r ?_
     replace H := H.sX (XErlog_Log T0 A0 b_l l) (v1, v2, T1) [(0, false), (0, false), (0, false)] rfl rfl rfl
     obtain rfl := some_in hF
     exact f_ret Z (run_results1 rfl Z rfl) ⟨rfl, I1, (H.sub [(0, false)] rfl).eq rfl⟩
    ·replace hF := ite_f hc4 hF
     refine wp_skip ?_
     refine p_blk ?_
     refine p_then (wp_seq ?_)
     obtain ⟨hg1, hF⟩ := chk_in hF
     refine f_region Z fun Z => ?_
     refine s_runk tDg Z 3 rfl rfl fun a Z => ?_
     refine sO Z _ rfl (oL tDg rfl rfl (H.bc 0 0 rfl rfl)) fun a Z => ?_
     refine s_runk tDg Z 2 rfl rfl fun a Z => ?_
     refine sO Z (.pointer (some ⟨blkOf v1, oofOf v1 + (i).toNat * 4, none⟩)) rfl (Ob_sidx tDg rfl rfl rfl rfl (slPl (H.owA 1 rfl).unl hg1) hg1) fun a Z => ?_
     refine s_runk tDg Z 1 rfl rfl fun a Z => ?_
     refine h_setR tDg Z H 1 (z := i) (d := default) 3 ({ batch := ({ client := ((gi l.l i).batch).client, req := ((gi l.l i).batch).req, ops := ((gi l.l i).batch).ops } : EBatch), ts := ts } : EEntry) rfl hg1 rfl rfl rfl 4 rfl rfl rfl rfl rfl (by decide) (fun cl ⟨s0_, e, h0_⟩ => ⟨s0_, by rw [e]; rfl, h0_⟩) fun w4 H => ?_
     dsimp only [List.eraseIdx] at H
     refine s_end Z [0, 6] rfl fun Z => ?_
     refine p_then (wp_seq ?_)
     obtain ⟨hg2, hF⟩ := chk_in hF
     refine f_region Z fun Z => ?_
     refine s_runk tDg Z 3 rfl rfl fun a Z => ?_
     refine sO Z _ rfl (oL tDg rfl rfl (H.bc 1 2 rfl rfl)) fun a Z => ?_
     refine sO Z (vI (l.stamped + 1)) rfl (Ob_add rfl rfl rfl (wrI hg2)) fun a Z => ?_
     refine s_runk tDg Z 2 rfl rfl fun a Z => ?_
     refine hT tDg Z H 1 rfl rfl rfl rfl rfl (one_cons rfl one_nil) (Nat.le_of_ble_eq_true rfl) rfl fun w5 H => ?_
     dsimp only [List.eraseIdx] at H
     refine s_end Z [6] rfl fun Z => ?_
     refine pR Z fun Z => ?_
     refine s_runk tDg Z 1 rfl rfl fun a Z => ?_
     refine s_end Z [6] rfl fun Z => ?_
     refine p_then (wp_ret ?_)
     replace H := H.sX (XErlog_Log T0 A0 b_l ({ l with l := l.l.set (i).toNat ({ batch := ({ client := ((gi l.l i).batch).client, req := ((gi l.l i).batch).req, ops := ((gi l.l i).batch).ops } : EBatch), ts := ts } : EEntry), stamped := l.stamped + 1 } : Erlog_Log)) (v1, v2, T1) [(0, false), (0, false), (0, false)] rfl rfl rfl
     obtain rfl := some_in hF
     exact f_ret Z (run_results1 rfl Z rfl) ⟨rfl, I1, (H.sub [(0, false)] rfl).eq rfl⟩

def F_rlog_Log_Find (l : Erlog_Log) (client : Int) (req : Int) : Option (Int × Erlog_Log) := (F_rlog_Log_none l).bind fun n0 => (if (n0) = true then (some ((-1), l)) else (optE l.at_ (none) (fun m => chk (inI (({ client := client, req := req } : Erlog_who).client) ∧ inI (({ client := client, req := req } : Erlog_who).req)) (if ((mget m ({ client := client, req := req } : Erlog_who)).isSome) = true then (some (((mget m ({ client := client, req := req } : Erlog_who)).getD 0), ({ l with at_ := some m } : Erlog_Log))) else (some ((-1), ({ l with at_ := some m } : Erlog_Log)))))))

set_option maxHeartbeats 1000000 in
theorem c_rlog_Log_Find {I D : Dm} {b_l : Nat} {l : Erlog_Log} {client : Int} {req : Int} {w : World} {rr : Int × Erlog_Log} (hF : F_rlog_Log_Find l client req = some rr) (H : St I D w [XErlog_Log T0 A0 b_l l]) :
  Calls Tryz.prog 78 #[pp b_l 0, vI client, vI req] w (Ret fun vv w' => vv = vI rr.1 ∧ ∃ I', Hf I D w I' w' [XErlog_Log T0 A0 b_l rr.2]) := by
 replace H := H.hf
 unfold F_rlog_Log_Find at hF
 refine f_enter 24 Tryz.func78 rfl rfl (Nat.le_of_ble_eq_true rfl) fun a Z => ?_
 replace Z := Z.sub (ts := [0, 1, 2]) rfl
 refine sR Z fun Z => ?_
 refine s_runk tDg Z 1 rfl rfl fun a Z => ?_
 refine s_end Z [0, 1, 2, 6] rfl fun Z => ?_
 refine p_then (wp_seq ?_)
 refine wp_seq ?_
 obtain ⟨n0, hx1, hF⟩ := bnd_in hF
 refine f_region Z fun Z => ?_
 refine s_runk tDg Z 1 rfl rfl fun a Z => ?_
 refine hC Z H [(0, false)] rfl #[] fn_56_YDg rfl rfl (fun D h => have q := c_rlog_Log_none hx1 h; q) fun vv a w1 D2 hr hF2 Z => ?_
 obtain ⟨rfl, I1, K⟩ := hr
 have H := (hF2 K).nf rfl
 refine s_end Z [0, 1, 2, 6, 10] rfl fun Z => ?_
 refine p_then ?_
 refine f_cond Z rfl (fun hc1 => ?_) (fun hc1 => ?_)
 ·replace hF := ite_t hc1 hF
  refine sR Z fun Z => ?_
  refine s_runk tDg Z 1 rfl rfl fun a Z => ?_
  refine s_end Z [0, 1, 2, 6] rfl fun Z => ?_
  refine p_then (wp_ret ?_)
  refine p_then_r ?_
  obtain rfl := some_in hF
  exact f_ret Z (run_results1 rfl Z rfl) ⟨rfl, I1, (H.sub [(0, false)] rfl).eq rfl⟩
 ·replace hF := ite_f hc1 hF
  refine wp_skip ?_
  refine p_then (wp_seq ?_)
  refine wp_seq ?_
  obtain ⟨⟨v1, v2, T1⟩, H⟩ := H.openX 0 rfl
  replace H := H.nf rfl; try dsimp only at H
  rcases optE_in hF with ⟨ho1, hF⟩ | ⟨m, ho1, hF⟩
  ·obtain ⟨hv, H⟩ := H.optMN 2 rfl ho1
   (try have Zq31 := Z); subst hv; (try have Z := Zq31)
   replace H := H.nf rfl; try dsimp only at H
   cases hF
  ·obtain ⟨b1, hv, H⟩ := H.optMS 2 rfl ho1
   (try have Zq32 := Z); subst hv; (try have Z := Zq32)
   replace H := H.nf rfl; try dsimp only at H
   obtain ⟨hg1, hF⟩ := chk_in hF
   refine f_region Z fun Z => ?_
   refine s_runk tDg Z 3 rfl rfl fun a Z => ?_
   refine sO Z _ rfl (oL tDg rfl rfl (H.bc 1 1 rfl rfl)) fun a Z => ?_
   refine s_runk tDg Z 2 rfl rfl fun a Z => ?_
   refine sO Z (.agg #[vI client, vI req]) rfl (Ob_build (vs := [(0, vI client), (1, vI req)]) rfl rfl (by go_simp <;> rfl)) fun a Z => ?_
   refine sO Z (.tuple #[vI ((mget m ({ client := client, req := req } : Erlog_who)).getD 0), vT ((mget m ({ client := client, req := req } : Erlog_who)).isSome)]) rfl (Ob_mlook2 ({ client := client, req := req } : Erlog_who) MF_99 H 0 rfl rfl rfl rfl hg1) fun a Z => ?_
   refine s_runk tDg Z 5 rfl rfl fun a Z => ?_
   refine s_end Z [6, 7, 8] rfl fun Z => ?_
   refine pR Z fun Z => ?_
   refine s_runk tDg Z 1 rfl rfl fun a Z => ?_
   refine s_end Z [6, 7, 22] rfl fun Z => ?_
   refine p_then ?_
   refine f_cond Z rfl (fun hc2 => ?_) (fun hc2 => ?_)
   ·replace hF := ite_t hc2 hF
    refine sR Z fun Z => ?_
    refine s_runk tDg Z 2 rfl rfl fun a Z => ?_
    refine s_end Z [6] rfl fun Z => ?_
    refine p_then (wp_ret ?_)
    refine p_then_r ?_
    replace H := (H.mkMS 0 rfl).nf rfl
    replace H := H.sX (XErlog_Log T0 A0 b_l ({ l with at_ := some m } : Erlog_Log)) (v1, .map (some b1), T1) [(1, false), (1, false), (0, false)] rfl rfl rfl
    obtain rfl := some_in hF
    exact f_ret Z (run_results1 rfl Z rfl) ⟨rfl, I1, (H.sub [(0, false)] rfl).eq rfl⟩
   ·replace hF := ite_f hc2 hF
    refine wp_skip ?_
    refine pR Z fun Z => ?_
    refine s_runk tDg Z 1 rfl rfl fun a Z => ?_
    refine s_end Z [6] rfl fun Z => ?_
    refine p_then (wp_ret ?_)
    replace H := (H.mkMS 0 rfl).nf rfl
    replace H := H.sX (XErlog_Log T0 A0 b_l ({ l with at_ := some m } : Erlog_Log)) (v1, .map (some b1), T1) [(1, false), (1, false), (0, false)] rfl rfl rfl
    obtain rfl := some_in hF
    exact f_ret Z (run_results1 rfl Z rfl) ⟨rfl, I1, (H.sub [(0, false)] rfl).eq rfl⟩

def F_rlog_Log_Len (l : Erlog_Log) : Option Int := (F_rlog_Log_none l).bind fun n0 => (if (n0) = true then (some 0) else (some (l.l.length : Int)))

set_option maxHeartbeats 1000000 in
theorem c_rlog_Log_Len {I D : Dm} {b_l : Nat} {l : Erlog_Log} {w : World} {rr : Int} (hF : F_rlog_Log_Len l = some rr) (H : St I D w [XErlog_Log T0 A0 b_l l]) :
  Calls Tryz.prog 76 #[pp b_l 0] w (Ret fun vv w' => vv = vI rr ∧ ∃ I', Hf I D w I' w' [XErlog_Log T0 A0 b_l l]) := by
 replace H := H.hf
 unfold F_rlog_Log_Len at hF
 refine f_enter 10 Tryz.func76 rfl rfl (Nat.le_of_ble_eq_true rfl) fun a Z => ?_
 replace Z := Z.sub (ts := [0]) rfl
 refine sR Z fun Z => ?_
 refine s_runk tDg Z 1 rfl rfl fun a Z => ?_
 refine s_end Z [0, 2] rfl fun Z => ?_
 refine p_then (wp_seq ?_)
 refine wp_seq ?_
 obtain ⟨n0, hx1, hF⟩ := bnd_in hF
 refine f_region Z fun Z => ?_
 refine s_runk tDg Z 1 rfl rfl fun a Z => ?_
 refine hC Z H [(0, false)] rfl #[] fn_56_YDg rfl rfl (fun D h => have q := c_rlog_Log_none hx1 h; q) fun vv a w1 D2 hr hF2 Z => ?_
 obtain ⟨rfl, I1, K⟩ := hr
 have H := (hF2 K).nf rfl
 refine s_end Z [0, 2, 4] rfl fun Z => ?_
 refine p_then ?_
 refine f_cond Z rfl (fun hc1 => ?_) (fun hc1 => ?_)
 ·replace hF := ite_t hc1 hF
  refine sR Z fun Z => ?_
  refine s_runk tDg Z 1 rfl rfl fun a Z => ?_
  refine s_end Z [0, 2] rfl fun Z => ?_
  refine p_then (wp_ret ?_)
  refine p_then_r ?_
  obtain rfl := some_in hF
  exact f_ret Z (run_results1 rfl Z rfl) ⟨rfl, I1, (H.sub [(0, false)] rfl).eq rfl⟩
 ·replace hF := ite_f hc1 hF
  refine wp_skip ?_
  refine pR Z fun Z => ?_
  refine s_runk tDg Z 3 rfl rfl fun a Z => ?_
  obtain ⟨⟨v1, v2, T1⟩, H⟩ := H.openX 0 rfl
  replace H := H.nf rfl; try dsimp only at H
  refine sO Z _ rfl (oL tDg rfl rfl (H.bc 0 0 rfl rfl)) fun a Z => ?_
  refine sO Z (vI (ln l.l)) rfl (Ob_slen tDg rfl rfl rfl (H.owshape 1 rfl)) fun a Z => ?_
  refine s_runk tDg Z 1 rfl rfl fun a Z => ?_
  refine s_end Z [2] rfl fun Z => ?_
  refine p_then (wp_ret ?_)
  replace H := H.sX (XErlog_Log T0 A0 b_l l) (v1, v2, T1) [(0, false), (0, false), (0, false)] rfl rfl rfl
  obtain rfl := some_in hF
  exact f_ret Z (run_results1 rfl Z rfl) ⟨rfl, I1, (H.sub [(0, false)] rfl).eq rfl⟩

def F_rlog_Log_Stamped (l : Erlog_Log) : Option Int := (F_rlog_Log_none l).bind fun n0 => (if (n0) = true then (some 0) else (some l.stamped))

set_option maxHeartbeats 1000000 in
theorem c_rlog_Log_Stamped {I D : Dm} {b_l : Nat} {l : Erlog_Log} {w : World} {rr : Int} (hF : F_rlog_Log_Stamped l = some rr) (H : St I D w [XErlog_Log T0 A0 b_l l]) :
  Calls Tryz.prog 49 #[pp b_l 0] w (Ret fun vv w' => vv = vI rr ∧ ∃ I', Hf I D w I' w' [XErlog_Log T0 A0 b_l l]) := by
 replace H := H.hf
 unfold F_rlog_Log_Stamped at hF
 refine f_enter 9 Tryz.func49 rfl rfl (Nat.le_of_ble_eq_true rfl) fun a Z => ?_
 replace Z := Z.sub (ts := [0]) rfl
 refine sR Z fun Z => ?_
 refine s_runk tDg Z 1 rfl rfl fun a Z => ?_
 refine s_end Z [0, 2] rfl fun Z => ?_
 refine p_then (wp_seq ?_)
 refine wp_seq ?_
 obtain ⟨n0, hx1, hF⟩ := bnd_in hF
 refine f_region Z fun Z => ?_
 refine s_runk tDg Z 1 rfl rfl fun a Z => ?_
 refine hC Z H [(0, false)] rfl #[] fn_56_YDg rfl rfl (fun D h => have q := c_rlog_Log_none hx1 h; q) fun vv a w1 D2 hr hF2 Z => ?_
 obtain ⟨rfl, I1, K⟩ := hr
 have H := (hF2 K).nf rfl
 refine s_end Z [0, 2, 4] rfl fun Z => ?_
 refine p_then ?_
 refine f_cond Z rfl (fun hc1 => ?_) (fun hc1 => ?_)
 ·replace hF := ite_t hc1 hF
  refine sR Z fun Z => ?_
  refine s_runk tDg Z 1 rfl rfl fun a Z => ?_
  refine s_end Z [0, 2] rfl fun Z => ?_
  refine p_then (wp_ret ?_)
  refine p_then_r ?_
  obtain rfl := some_in hF
  exact f_ret Z (run_results1 rfl Z rfl) ⟨rfl, I1, (H.sub [(0, false)] rfl).eq rfl⟩
 ·replace hF := ite_f hc1 hF
  refine wp_skip ?_
  refine pR Z fun Z => ?_
  refine s_runk tDg Z 3 rfl rfl fun a Z => ?_
  obtain ⟨⟨v1, v2, T1⟩, H⟩ := H.openX 0 rfl
  replace H := H.nf rfl; try dsimp only at H
  refine sO Z _ rfl (oL tDg rfl rfl (H.bc 0 2 rfl rfl)) fun a Z => ?_
  refine s_runk tDg Z 1 rfl rfl fun a Z => ?_
  refine s_end Z [2] rfl fun Z => ?_
  refine p_then (wp_ret ?_)
  replace H := H.sX (XErlog_Log T0 A0 b_l l) (v1, v2, T1) [(0, false), (0, false), (0, false)] rfl rfl rfl
  obtain rfl := some_in hF
  exact f_ret Z (run_results1 rfl Z rfl) ⟨rfl, I1, (H.sub [(0, false)] rfl).eq rfl⟩

def F_rlog_Log_At (l : Erlog_Log) (i : Int) : Option (EEntry × Bool) := (F_rlog_Log_none l).bind fun n0 => (if ((n0 || (decide (i < 0))) || (decide (i ≥ (l.l.length : Int)))) = true then (some ((default : EEntry), false)) else (chk ((0 : Int) ≤ i ∧ i < (l.l.length : Int)) ((F_rlog_own ({ (l.l.getD (i).toNat default) with batch := ({ client := ((l.l.getD (i).toNat default).batch).client, req := ((l.l.getD (i).toNat default).batch).req, ops := ((l.l.getD (i).toNat default).batch).ops } : EBatch) } : EEntry)).bind fun o => (some (o, true)))))

set_option maxHeartbeats 1000000 in
theorem c_rlog_Log_At {I D : Dm} {b_l : Nat} {l : Erlog_Log} {i : Int} {w : World} {rr : EEntry × Bool} (hF : F_rlog_Log_At l i = some rr) (H : St I D w [XErlog_Log T0 A0 b_l l]) :
  Calls Tryz.prog 44 #[pp b_l 0, vI i] w (Ret fun vv w' => ∃ q1 : Value, vv = .tuple #[.agg (cEEntry rr.1 q1).toArray, vT rr.2] ∧ ∃ I', Hf I D w I' w' [XErlog_Log T0 A0 b_l l, OwC NEOp 58 q1 rr.1.batch.ops]) := by
 replace H := H.hf
 unfold F_rlog_Log_At at hF
 refine f_enter 30 Tryz.func44 rfl rfl (Nat.le_of_ble_eq_true rfl) fun a Z => ?_
 replace Z := Z.sub (ts := [0, 1]) rfl
 refine sR Z fun Z => ?_
 refine hA Z H [vI 0, vI 0, nS, vU 0] rfl rfl (by kernel_rfl) fun a w1 b1 H Z => ?_
 refine s_runk tDg Z 1 rfl rfl fun a Z => ?_
 refine s_end Z [0, 1, 4, 5] rfl fun Z => ?_
 refine p_then (wp_seq ?_)
 refine wp_seq ?_
 obtain ⟨n0, hx1, hF⟩ := bnd_in hF
 refine f_region Z fun Z => ?_
 refine s_runk tDg Z 1 rfl rfl fun a Z => ?_
 refine hC Z H [(1, false)] rfl #[] fn_56_YDg rfl rfl (fun D h => have q := c_rlog_Log_none hx1 h; q) fun vv a w2 D2 hr hF2 Z => ?_
 obtain ⟨rfl, I1, K⟩ := hr
 have H := (hF2 K).nf rfl
 refine s_runk tDg Z 1 rfl rfl fun a Z => ?_
 refine gO Z (vI i) rfl (wantB_f _) (.n 1 rfl .z) (fun hp => Ob_c tDg rfl) fun a Z => ?_
 refine gO Z (vT (decide (i < 0))) rfl (wantB_f _) (.c 9 rfl id .z) (fun hp => Ob_c tDg rfl) fun a Z => ?_
 refine sO Z (vT (n0 || (decide (i < 0)))) rfl (Ob_pick rfl rfl rfl rfl (pick_or _ _)) fun a Z => ?_
 refine s_runk tDg Z 1 rfl rfl fun a Z => ?_
 refine gO Z (vI i) rfl (wantB_f _) (.n 1 rfl .z) (fun hp => Ob_c tDg rfl) fun a Z => ?_
 refine gO Z (pp b_l 0) rfl (wantB_f _) (.n 0 rfl .z) (fun hp => Ob_c tDg rfl) fun a Z => ?_
 refine gO Z (pp b_l 0) rfl (wantB_f _) (.c 14 rfl id .z) (fun hp => Ob_c tDg rfl) fun a Z => ?_
 refine gO Z (pp b_l 0) rfl (wantB_f _) (.c 15 rfl id .z) (fun hp => Ob_c tDg rfl) fun a Z => ?_
 obtain ⟨⟨v1, v2, T1⟩, H⟩ := H.openX 0 rfl
 replace H := H.nf rfl; try dsimp only at H
 refine gO Z _ rfl (wantB_f _) (.c 16 rfl id .z) (fun hp => oL tDg rfl rfl (H.bc 0 0 rfl rfl)) fun a Z => ?_
 refine gO Z (vI (ln l.l)) rfl (wantB_f _) (.c 17 rfl id .z) (fun hp => Ob_slen tDg rfl rfl rfl (H.owshape 1 rfl)) fun a Z => ?_
 refine gO Z (vT (decide (i ≥ (ln l.l)))) rfl (wantB_f _) (.c 13 rfl id (.c 18 rfl id .z)) (fun hp => Ob_c tDg rfl) fun a Z => ?_
 refine sO Z (vT ((n0 || (decide (i < 0))) || (decide (i ≥ (ln l.l))))) rfl (Ob_pick rfl rfl rfl rfl (pick_or _ _)) fun a Z => ?_
 refine s_end Z [0, 1, 4, 5, 20] rfl fun Z => ?_
 refine p_then ?_
 refine f_cond Z rfl (fun hc1 => ?_) (fun hc1 => ?_)
 ·replace hF := ite_t hc1 hF
  refine sR Z fun Z => ?_
  refine sO Z (.agg #[vI 0, vI 0, nS, vU 0]) rfl (Ob_build (vs := []) rfl rfl (by go_simp <;> rfl)) fun a Z => ?_
  refine hT tDg Z H 3 rfl rfl rfl rfl rfl (onR 2 rfl (one_cons (slS.one slS.nil) (one_cons rfl one_nil))) (Nat.le_of_ble_eq_true rfl) rfl fun w3 H => ?_
  dsimp only [List.eraseIdx] at H
  refine s_runk tDg Z 1 rfl rfl fun a Z => ?_
  refine s_end Z [0, 1, 4, 5] rfl fun Z => ?_
  refine p_then (wp_ret ?_)
  refine p_then_r ?_
  replace H := H.nilow NEOp 58
  replace H := H.sX (XErlog_Log T0 A0 b_l l) (v1, v2, T1) [(2, false), (2, false), (2, false)] rfl rfl rfl
  obtain rfl := some_in hF
  exact f_ret Z (run_resultsCT rfl Z rfl (run_loadVar_agg tDg rfl (H.bx 2 rfl).at) rfl) ⟨nS, rfl, I1, (H.sub [(0, false), (0, false)] rfl).eq rfl⟩
 ·replace hF := ite_f hc1 hF
  refine wp_skip ?_
  refine p_then (wp_seq ?_)
  obtain ⟨hg1, hF⟩ := chk_in hF
  obtain ⟨o, hx2, hF⟩ := bnd_in hF
  refine f_region Z fun Z => ?_
  refine s_runk tDg Z 3 rfl rfl fun a Z => ?_
  refine sO Z _ rfl (oL tDg rfl rfl (H.bc 0 0 rfl rfl)) fun a Z => ?_
  refine s_runk tDg Z 1 rfl rfl fun a Z => ?_
  refine sO Z (.pointer (some ⟨blkOf v1, oofOf v1 + (i).toNat * 4, none⟩)) rfl (Ob_sidx tDg rfl rfl rfl rfl (slPl (H.owA 1 rfl).unl hg1) hg1) fun a Z => ?_
  obtain ⟨_, ⟨u1, rfl, L1⟩, hat1⟩ := H.owEl 1 rfl hg1
  replace H : Hf I D w I1 w2 [SlC NEOp u1 (((gi l.l i).batch).ops), BxC b_l 101 [v1, v2, vI l.stamped], OwC (NEEntryO T1.1) 44 v1 l.l, PmC M_99 v2 l.at_, BxC b1 44 [vI 0, vI 0, nS, vU 0]] := H.addsl L1.sl
  refine sO Z (.agg (cEEntry (gi l.l i) u1).toArray) rfl (oA tDg rfl rfl (hat1.part 0 rfl)) fun a Z => ?_
  refine hC Z H [(0, true)] rfl #[] fn_60_YDg rfl rfl (fun D h => have q := c_rlog_own hx2 h; q) fun vv a w4 D2 hr hF2 Z => ?_
  obtain ⟨q1, rfl, I2, K⟩ := hr
  have H := (hF2 K).nf rfl
  refine hT tDg Z H 5 rfl rfl rfl rfl rfl (onR 2 rfl (one_cons (slS.one (H.owshape 0 rfl)) (one_cons rfl one_nil))) (Nat.le_of_ble_eq_true rfl) rfl fun w5 H => ?_
  dsimp only [List.eraseIdx] at H
  refine s_runk tDg Z 1 rfl rfl fun a Z => ?_
  refine s_end Z [4, 5] rfl fun Z => ?_
  refine p_then (wp_ret ?_)
  replace H := H.sX (XErlog_Log T0 A0 b_l l) (v1, v2, T1) [(3, false), (3, false), (3, false)] rfl rfl rfl
  obtain rfl := some_in hF
  exact f_ret Z (run_resultsCT rfl Z rfl (run_loadVar_agg tDg rfl (H.bx 1 rfl).at) rfl) ⟨q1, rfl, I2, (H.sub [(0, false), (1, false)] rfl).eq rfl⟩

def F_rlog_Log_All_l1 (l : Erlog_Log) (rc : ((List EEntry) × Int) → Option (List EEntry)) (sg : (List EEntry) × Int) : Option (List EEntry) := match sg with | (out, x) => if (decide (x < (l.l.length : Int))) = true then (chk ((0 : Int) ≤ x ∧ x < (l.l.length : Int)) ((F_rlog_own ({ (l.l.getD (x).toNat default) with batch := ({ client := ((l.l.getD (x).toNat default).batch).client, req := ((l.l.getD (x).toNat default).batch).req, ops := ((l.l.getD (x).toNat default).batch).ops } : EBatch) } : EEntry)).bind fun o => (chk (((out.length + [o].length : Nat) : Int) * 48 ≤ 140737488355328) (chk (inI (x + 1)) (rc (out ++ [o], x + 1)))))) else (some out)

def F_rlog_Log_All (l : Erlog_Log) : Option (List EEntry) := (F_rlog_Log_none l).bind fun n0 => (if (n0) = true then (some ([] : List EEntry)) else (iter (F_rlog_Log_All_l1 l) FU (([] : List EEntry), 0)))

set_option maxHeartbeats 1000000 in
theorem c_rlog_Log_All {I D : Dm} {b_l : Nat} {l : Erlog_Log} {w : World} {rr : List EEntry} (hA1 : ∀ k, A1 k → I k) (hF : F_rlog_Log_All l = some rr) (H : St I D w [XErlog_Log T0 A0 b_l l]) :
  Calls Tryz.prog 75 #[pp b_l 0] w (Ret fun vv w' => ∃ q1 : Value, vv = q1 ∧ ∃ I', Hf I D w I' w' [XErlog_Log T0 A0 b_l l, OwC (NEEntryN A1) 44 q1 rr]) := by
 replace H := H.hf
 unfold F_rlog_Log_All at hF
 refine f_enter 24 Tryz.func75 rfl rfl (Nat.le_of_ble_eq_true rfl) fun a Z => ?_
 replace Z := Z.sub (ts := [0]) rfl
 refine sR Z fun Z => ?_
 refine s_runk tDg Z 1 rfl rfl fun a Z => ?_
 refine s_end Z [0, 2] rfl fun Z => ?_
 refine p_then (wp_seq ?_)
 refine wp_seq ?_
 obtain ⟨n0, hx1, hF⟩ := bnd_in hF
 refine f_region Z fun Z => ?_
 refine s_runk tDg Z 1 rfl rfl fun a Z => ?_
 refine hC Z H [(0, false)] rfl #[] fn_56_YDg rfl rfl (fun D h => have q := c_rlog_Log_none hx1 h; q) fun vv a w1 D2 hr hF2 Z => ?_
 obtain ⟨rfl, I1, K⟩ := hr
 have H := (hF2 K).nf rfl
 refine s_end Z [0, 2, 7] rfl fun Z => ?_
 refine p_then ?_
 refine f_cond Z rfl (fun hc1 => ?_) (fun hc1 => ?_)
 ·replace hF := ite_t hc1 hF
  refine sR Z fun Z => ?_
  refine s_runk tDg Z 1 rfl rfl fun a Z => ?_
  refine s_end Z [0, 2] rfl fun Z => ?_
  refine p_then (wp_ret ?_)
  refine p_then_r ?_
  replace H := H.nilow (NEEntryN A1) 44
  obtain rfl := some_in hF
  exact f_ret Z (run_results1 rfl Z rfl) ⟨nS, rfl, I1, (H.sub [(1, false), (0, false)] rfl).eq rfl⟩
 ·replace hF := ite_f hc1 hF
  refine wp_skip ?_
  refine pR Z fun Z => ?_
  refine s_runk tDg Z 1 rfl rfl fun a Z => ?_
  refine s_end Z [0, 2, 3] rfl fun Z => ?_
  refine p_then (wp_seq ?_)
  refine sR Z fun Z => ?_
  refine s_runk tDg Z 3 rfl rfl fun a Z => ?_
  obtain ⟨⟨v1, v2, T1⟩, H⟩ := H.openX 0 rfl
  replace H := H.nf rfl; try dsimp only at H
  refine sO Z _ rfl (oL tDg rfl rfl (H.bc 0 0 rfl rfl)) fun a Z => ?_
  refine sO Z (vI (ln l.l)) rfl (Ob_slen tDg rfl rfl rfl (H.owshape 1 rfl)) fun a Z => ?_
  refine s_runk tDg Z 1 rfl rfl fun a Z => ?_
  refine s_end Z [2, 3, 11, 12, 13] rfl fun Z => ?_
  refine p_then (wp_block ?_)
  replace H := H.nilow (NEEntryN A1) 44
  refine f_iter hF (fun sg a' w' => match sg with | (out, x) => ∃ v3 : Value, Sl 24 [(2, nS), (3, v3), (11, v1), (12, vI (ln l.l)), (13, vI x)] a' ∧ ∃ I2, Hf I D w I2 w' [BxC b_l 101 [v1, v2, vI l.stamped], OwC (NEEntryO T1.1) 44 v1 l.l, PmC M_99 v2 l.at_, OwC (NEEntryN A1) 44 v3 out]) ⟨nS, Z.sub (ts := [2, 3, 11, 12, 13]) rfl, ⟨I1, (H.sub [(1, false), (1, false), (1, false), (0, false)] rfl).eq rfl⟩⟩ ?_
  rintro rc ⟨out, x⟩ a w2 ⟨v3, Z, I2, H⟩ hF
  unfold F_rlog_Log_All_l1 at hF
  try dsimp only at hF
  refine sR Z fun Z => ?_
  refine s_runk tDg Z 1 rfl rfl fun a Z => ?_
  refine s_end Z [2, 3, 11, 12, 13, 14] rfl fun Z => ?_
  refine p_then (wp_seq ?_)
  refine f_cond Z rfl (fun hc2 => ?_) (fun hc2 => ?_)
  ·replace hF := ite_t hc2 hF
   refine wp_skip ?_
   refine p_then (wp_seq ?_)
   refine wp_block ?_
   refine wp_seq ?_
   obtain ⟨hg1, hF⟩ := chk_in hF
   refine f_region Z fun Z => ?_
   refine sO Z (.pointer (some ⟨blkOf v1, oofOf v1 + (x).toNat * 4, none⟩)) rfl (Ob_sidx tDg rfl rfl rfl rfl (slPl (H.owA 1 rfl).unl hg1) hg1) fun a Z => ?_
   obtain ⟨_, ⟨u1, rfl, L1⟩, hat1⟩ := H.owEl 1 rfl hg1
   replace H : Hf I D w I2 w2 [SlC NEOp u1 (((gi l.l x).batch).ops), BxC b_l 101 [v1, v2, vI l.stamped], OwC (NEEntryO T1.1) 44 v1 l.l, PmC M_99 v2 l.at_, OwC (NEEntryN A1) 44 v3 out] := H.addsl L1.sl
   refine sO Z (.agg (cEEntry (gi l.l x) u1).toArray) rfl (oA tDg rfl rfl (hat1.part 0 rfl)) fun a Z => ?_
   refine hA Z H [vI 0, vI 0, nS, vU 0] rfl rfl (by kernel_rfl) fun a w3 b1 H Z => ?_
   refine hT tDg Z H 0 rfl rfl rfl rfl rfl (onR 2 rfl (one_cons (slS.one (H.slshape 1 rfl)) (one_cons rfl one_nil))) (Nat.le_of_ble_eq_true rfl) rfl fun w4 H => ?_
   dsimp only [List.eraseIdx] at H
   refine s_end Z [2, 3, 11, 12, 13, 14, 15, 16, 5] rfl fun Z => ?_
   refine p_then ?_
   obtain ⟨o, hx2, hF⟩ := bnd_in hF
   obtain ⟨hg2, hF⟩ := chk_in hF
   refine f_region Z fun Z => ?_
   refine s_runk tDg Z 1 rfl rfl fun a Z => ?_
   refine sO Z (.agg (cEEntry (gi l.l x) u1).toArray) rfl (oA tDg rfl rfl ((H.bx 0 rfl).part 0 rfl)) fun a Z => ?_
   refine hC Z H [(1, true)] rfl #[] fn_60_YDg rfl rfl (fun D h => have q := c_rlog_own hx2 h; q) fun vv a w5 D2 hr hF2 Z => ?_
   obtain ⟨q1, rfl, I3, K⟩ := hr
   have H := (hF2 K).nf rfl
   refine h_bslice Z H (vs := [(0, .agg #[vI o.batch.client, vI o.batch.req, q1, vU o.ts])]) (cl := [vI o.batch.client, vI o.batch.req, q1, vU o.ts]) (e := 44) rfl rfl rfl (by decide) rfl rfl (fun w => run_bslice (z := .agg #[vI 0, vI 0, nS, vU 0]) (m := 4) Tryz.underlying32 (by kernel_rfl) rfl rfl (by decide) (by simp [Instr.fill, Value.cells]) w) fun a w6 b2 H Z => ?_
   obtain ⟨I4, hI3, hN1, H⟩ := H.frzN 1 rfl NEOp.isFlat (fun k h => H.imm k (hA1 k h))
   replace H := H.nf rfl; try dsimp only at H
   clear hI3
   refine h_appO Z H 7 E_32_YDg [o] rfl rfl rfl rfl rfl (by decide) rfl rfl rfl (slRep2.box1 (H.bx 1 rfl) ⟨_, rfl, hN1⟩) hg2 (by decide) fun v4 a w7 H Z => ?_
   dsimp only [List.eraseIdx] at H
   replace H := (H.sub [(0, false), (0, true), (2, false), (2, true), (3, false), (3, false), (3, false)] rfl).nf rfl
   refine s_runk tDg Z 1 rfl rfl fun a Z => ?_
   refine s_end Z [2, 3, 11, 12, 13, 14, 15, 16, 5, 17, 18, 19, 20, 21] rfl fun Z => ?_
   refine p_blk ?_
   refine p_then ?_
   obtain ⟨hg3, hF⟩ := chk_in hF
   refine f_region Z fun Z => ?_
   refine sO Z (vI (x + 1)) rfl (Ob_add rfl rfl rfl (wrI hg3)) fun a Z => ?_
   refine s_runk tDg Z 1 rfl rfl fun a Z => ?_
   refine s_end Z [2, 3, 11, 12, 13, 14, 15, 16, 5, 17, 18, 19, 20, 21, 22] rfl fun Z => ?_
   refine p_then ?_
   exact ⟨(out ++ [o], x + 1), ⟨v4, Z.sub (ts := [2, 3, 11, 12, 13]) rfl, ⟨I4, (H.sub [(4, false), (4, false), (4, false), (0, false)] rfl).eq rfl⟩⟩, hF⟩
  ·replace hF := ite_f hc2 hF
   refine wp_exit ?_
   refine p_then_x ?_
   refine p_then_x ?_
   refine f_exit_here ?_
   refine pR Z fun Z => ?_
   refine s_runk tDg Z 2 rfl rfl fun a Z => ?_
   refine s_end Z [2] rfl fun Z => ?_
   refine p_then (wp_ret ?_)
   replace H := H.sX (XErlog_Log T0 A0 b_l l) (v1, v2, T1) [(0, false), (0, false), (0, false)] rfl rfl rfl
   obtain rfl := some_in hF
   exact f_ret Z (run_results1 rfl Z rfl) ⟨v3, rfl, I2, (H.sub [(0, false), (0, false)] rfl).eq rfl⟩

end Go.Proofs.YtglfajjcgbfehaaGreat
