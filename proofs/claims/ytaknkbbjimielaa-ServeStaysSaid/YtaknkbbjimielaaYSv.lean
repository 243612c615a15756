/- What a replica answers, for the program and for the document. -/
import Derived.Test.YtaknkbbjimielaaYMs2
import Derived.Test.YtaknkbbjimielaaYRv
namespace Go.Proofs.Ytaknkbbjimielaa
open Go.RowKit
structure Ebound_span where
 from_ : Int
 to_ : Int

instance : Inhabited Ebound_span := ⟨⟨0, 0⟩⟩

def tSvL : TabL := ⟨[(37888, 0), (37890, 2), (37892, 4), (37893, 5), (37895, 7), (37899, 11), (37900, 12), (37905, 21), (46080, 0), (46081, 1), (46082, 2), (46083, 3), (48128, 0), (48129, 1), (48130, 2), (48131, 3), (155648, 0), (155649, 1)], [], [], [(35, (81, 2))], [(3, (1, false)), (4, (1, false)), (9, (1, false)), (23, (1, false)), (35, (1, false)), (37, (22, true)), (45, (4, true)), (47, (4, true)), (77, (1, false)), (84, (1, false)), (152, (2, true))]⟩

def tSv : Tab Try.prog := ⟨tSvL, by kernel_rfl⟩

theorem fn_12_YSv : IsFn Try.prog 12 := ⟨_, Try.func12, by kernel_rfl, by kernel_rfl⟩

theorem fn_14_YSv : IsFn Try.prog 14 := ⟨_, Try.func14, by kernel_rfl, by kernel_rfl⟩

theorem fn_16_YSv : IsFn Try.prog 16 := ⟨_, Try.func16, by kernel_rfl, by kernel_rfl⟩

theorem fn_24_YSv : IsFn Try.prog 24 := ⟨_, Try.func24, by kernel_rfl, by kernel_rfl⟩

theorem fn_30_YSv : IsFn Try.prog 30 := ⟨_, Try.func30, by kernel_rfl, by kernel_rfl⟩

theorem fn_31_YSv : IsFn Try.prog 31 := ⟨_, Try.func31, by kernel_rfl, by kernel_rfl⟩

theorem fn_32_YSv : IsFn Try.prog 32 := ⟨_, Try.func32, by kernel_rfl, by kernel_rfl⟩

theorem fn_35_YSv : IsFn Try.prog 35 := ⟨_, Try.func35, by kernel_rfl, by kernel_rfl⟩

theorem fn_36_YSv : IsFn Try.prog 36 := ⟨_, Try.func36, by kernel_rfl, by kernel_rfl⟩

theorem fn_56_YSv : IsFn Try.prog 56 := ⟨_, Try.func56, by kernel_rfl, by kernel_rfl⟩

theorem fn_81_YSv : IsFn Try.prog 81 := ⟨_, Try.func81, by kernel_rfl, by kernel_rfl⟩

def F_bound_span_check (s0 : Ebound_span) (t : Int) : Option Int := if (decide (t > s0.to_)) = true then (some 12) else (if (decide (t < s0.from_)) = true then (some 13) else (some 0))

set_option maxHeartbeats 1000000 in
theorem c_bound_span_check {I D : Dm} {s0 : Ebound_span} {t : Int} {w : World} {rr : Int} (hF : F_bound_span_check s0 t = some rr) (H : St I D w []) :
  Calls Try.prog 81 #[.agg #[vU s0.from_, vU s0.to_], vU t] w (Ret fun vv w' => vv = vI rr ∧ ∃ I', Hf I D w I' w' []) := by
 replace H := H.hf
 unfold F_bound_span_check at hF
 refine f_enter 15 Try.func81 rfl rfl (Nat.le_of_ble_eq_true rfl) fun a Z => ?_
 replace Z := Z.sub (ts := [0, 1]) rfl
 refine wp_seq (f_region Z ?_); clear Z; intro Z
 refine hB Z H [vU s0.from_, vU s0.to_] rfl rfl rfl rfl fun a w1 b1 H Z => ?_
 refine s_runk tSv Z 1 rfl rfl fun a Z => ?_
 refine s_end Z [1, 2] rfl fun Z => ?_
 refine p_then (wp_seq ?_)
 refine wp_block ?_
 refine wp_seq (f_region Z ?_); clear Z; intro Z
 refine s_runk tSv Z 2 rfl rfl fun a Z => ?_
 refine sO Z _ rfl (oL tSv rfl rfl (H.bc 0 1 rfl rfl)) fun a Z => ?_
 refine s_runk tSv Z 2 rfl rfl fun a Z => ?_
 refine s_end Z [1, 2, 5] rfl fun Z => ?_
 refine p_then ?_
 refine f_cond Z rfl (fun hc1 => ?_) (fun hc1 => ?_)
 ·replace hF := ite_t hc1 hF
  refine wp_seq (f_region Z ?_); clear Z; intro Z
  refine s_runk tSv Z 1 rfl rfl fun a Z => ?_
  refine s_end Z [4] rfl fun Z => ?_
  refine p_then (wp_ret ?_)
  refine p_blk_r ?_
  refine p_then_r ?_
  obtain rfl := some_in hF
  exact f_ret Z (run_results1 rfl Z rfl) ⟨rfl, I, (H.sub [] rfl).eq rfl⟩
 ·replace hF := ite_f hc1 hF
  refine wp_seq (f_region Z ?_); clear Z; intro Z
  refine s_runk tSv Z 2 rfl rfl fun a Z => ?_
  refine sO Z _ rfl (oL tSv rfl rfl (H.bc 0 0 rfl rfl)) fun a Z => ?_
  refine s_runk tSv Z 2 rfl rfl fun a Z => ?_
  refine s_end Z [10] rfl fun Z => ?_
  refine p_then ?_
  refine f_cond Z rfl (fun hc2 => ?_) (fun hc2 => ?_)
  ·replace hF := ite_t hc2 hF
   refine wp_seq (f_region Z ?_); clear Z; intro Z
   refine s_runk tSv Z 1 rfl rfl fun a Z => ?_
   refine s_end Z [4] rfl fun Z => ?_
   refine p_then (wp_ret ?_)
   refine p_blk_r ?_
   refine p_then_r ?_
   obtain rfl := some_in hF
   exact f_ret Z (run_results1 rfl Z rfl) ⟨rfl, I, (H.sub [] rfl).eq rfl⟩
  ·replace hF := ite_f hc2 hF
   refine wp_skip ?_
   refine p_blk ?_
   refine p_then (wp_seq (f_region Z ?_)); clear Z; intro Z
   refine s_runk tSv Z 1 rfl rfl fun a Z => ?_
   refine s_end Z [4] rfl fun Z => ?_
   refine p_then (wp_ret ?_)
   obtain rfl := some_in hF
   exact f_ret Z (run_results1 rfl Z rfl) ⟨rfl, I, (H.sub [] rfl).eq rfl⟩

def F_bound_Check (t : Int) (mark : Int) (horizon : Int) : Option Int := (F_bound_span_check ({ from_ := horizon, to_ := mark } : Ebound_span) t).bind fun c => (some c)

set_option maxHeartbeats 1000000 in
theorem c_bound_Check {I D : Dm} {t : Int} {mark : Int} {horizon : Int} {w : World} {rr : Int} (hF : F_bound_Check t mark horizon = some rr) (H : St I D w []) :
  Calls Try.prog 56 #[vU t, vU mark, vU horizon] w (Ret fun vv w' => vv = vI rr ∧ ∃ I', Hf I D w I' w' []) := by
 replace H := H.hf
 unfold F_bound_Check at hF
 refine f_enter 14 Try.func56 rfl rfl (Nat.le_of_ble_eq_true rfl) fun a Z => ?_
 replace Z := Z.sub (ts := [0, 1, 2]) rfl
 refine wp_seq (f_region Z ?_); clear Z; intro Z
 refine s_runk tSv Z 1 rfl rfl fun a Z => ?_
 refine s_end Z [0, 1, 2] rfl fun Z => ?_
 refine p_then (wp_seq (f_region Z ?_)); clear Z; intro Z
 refine s_runk tSv Z 1 rfl rfl fun a Z => ?_
 refine s_end Z [0, 1, 2, 7] rfl fun Z => ?_
 refine p_then (wp_seq ?_)
 obtain ⟨c, hx1, hF⟩ := bnd_in hF
 refine f_region Z fun Z => ?_
 refine s_runk tSv Z 3 rfl rfl fun a Z => ?_
 refine sO Z (.agg #[vU horizon, vU mark]) rfl (Ob_build (vs := [(0, vU horizon), (1, vU mark)]) rfl rfl (by go_simp <;> rfl)) fun a Z => ?_
 refine s_runk tSv Z 1 rfl rfl fun a Z => ?_
 refine hC Z H [] rfl #[] fn_81_YSv rfl rfl (fun D h => have q := c_bound_span_check hx1 h; q) fun vv a w1 D2 hr hF2 Z => ?_
 obtain ⟨rfl, I1, K⟩ := hr
 have H := (hF2 K).nf rfl
 refine s_runk tSv Z 1 rfl rfl fun a Z => ?_
 refine s_end Z [6] rfl fun Z => ?_
 refine p_then (wp_ret ?_)
 obtain rfl := some_in hF
 exact f_ret Z (run_results1 rfl Z rfl) ⟨rfl, I1, (H.sub [] rfl).eq rfl⟩

def F_serve_At (mark : Int) (horizon : Int) (epoch : Int) (head : Int) : Option Eserve_View := some ({ mark := mark, horizon := horizon, epoch := max epoch 0, head := max head 0 } : Eserve_View)

set_option maxHeartbeats 1000000 in
theorem c_serve_At {I D : Dm} {mark : Int} {horizon : Int} {epoch : Int} {head : Int} {w : World} {rr : Eserve_View} (hF : F_serve_At mark horizon epoch head = some rr) (H : St I D w []) :
  Calls Try.prog 8 #[vU mark, vU horizon, vI epoch, vI head] w (Ret fun vv w' => vv = .agg #[vU rr.mark, vU rr.horizon, vI rr.epoch, vI rr.head] ∧ ∃ I', Hf I D w I' w' []) := by
 replace H := H.hf
 unfold F_serve_At at hF
 refine f_enter 16 Try.func8 rfl rfl (Nat.le_of_ble_eq_true rfl) fun a Z => ?_
 replace Z := Z.sub (ts := [0, 1, 2, 3]) rfl
 refine wp_seq (f_region Z ?_); clear Z; intro Z
 refine hA Z H [vU 0, vU 0, vI 0, vI 0] rfl rfl (by kernel_rfl) fun a w1 b1 H Z => ?_
 refine s_end Z [0, 1, 2, 3, 8] rfl fun Z => ?_
 refine p_then (wp_seq (f_region Z ?_)); clear Z; intro Z
 refine s_runk tSv Z 6 rfl rfl fun a Z => ?_
 refine sO Z (.agg #[vU mark, vU horizon, vI (max epoch 0), vI (max head 0)]) rfl (Ob_build (vs := [(0, vU mark), (1, vU horizon), (2, vI (max epoch 0)), (3, vI (max head 0))]) rfl rfl (by go_simp <;> rfl)) fun a Z => ?_
 refine hT tSv Z H 0 rfl rfl rfl rfl rfl (onR 4 rfl one_nil) (Nat.le_of_ble_eq_true rfl) rfl fun w2 H => ?_
 dsimp only [List.eraseIdx] at H
 refine s_end Z [8] rfl fun Z => ?_
 refine p_then (wp_ret ?_)
 obtain rfl := some_in hF
 exact f_ret Z (run_resultsC rfl Z rfl (run_loadVar_agg tSv rfl (H.bx 0 rfl).at)) ⟨rfl, I, (H.sub [] rfl).eq rfl⟩

def F_serve_No (v : Eserve_View) (req : Int) (e : Int) : Option EMsg := some ({ (default : EMsg) with k := 7, epoch := v.epoch, req := req, n := v.head, e := e } : EMsg)

set_option maxHeartbeats 1000000 in
theorem c_serve_No {I D : Dm} {v : Eserve_View} {req : Int} {e : Int} {w : World} {rr : EMsg} (hF : F_serve_No v req e = some rr) (H : St I D w []) :
  Calls Try.prog 16 #[.agg #[vU v.mark, vU v.horizon, vI v.epoch, vI v.head], vI req, vI e] w (Ret fun vv w' => ∃ q1 q2 q3 q4 q5 : Value, vv = .agg (cEMsg rr q1 q2 q3 q4 q5).toArray ∧ ∃ I', Hf I D w I' w' [SlC NEMember q1 rr.conf.members, SlC NEOp q2 rr.batch.ops, SlC NEEntry q3 rr.entries, SlC Nu64 q4 rr.stamps, SlC NEPair q5 rr.pairs]) := by
 replace H := H.hf
 unfold F_serve_No at hF
 refine f_enter 14 Try.func16 rfl rfl (Nat.le_of_ble_eq_true rfl) fun a Z => ?_
 replace Z := Z.sub (ts := [0, 1, 2]) rfl
 refine wp_seq (f_region Z ?_); clear Z; intro Z
 refine hB Z H [vU v.mark, vU v.horizon, vI v.epoch, vI v.head] rfl rfl rfl rfl fun a w1 b1 H Z => ?_
 refine hA Z H [vI 0, vI 0, vI 0, vI 0, vT false, vU 0, vU 0, vI 0, vI 0, vI 0, vI 0, vS ByteArray.empty, vS ByteArray.empty, vI 0, nS, vU 0, vI 0, vI 0, nS, nS, nS, nS] rfl rfl (by kernel_rfl) fun a w2 b2 H Z => ?_
 refine s_end Z [1, 2, 3, 6] rfl fun Z => ?_
 refine p_then (wp_seq (f_region Z ?_)); clear Z; intro Z
 refine s_runk tSv Z 3 rfl rfl fun a Z => ?_
 refine sO Z _ rfl (oL tSv rfl rfl (H.bc 1 2 rfl rfl)) fun a Z => ?_
 refine s_runk tSv Z 1 rfl rfl fun a Z => ?_
 refine sO Z _ rfl (oL tSv rfl rfl (H.bc 1 3 rfl rfl)) fun a Z => ?_
 refine sO Z (.agg #[vI 7, vI v.epoch, vI req, vI 0, vT false, vU 0, vU 0, vI v.head, vI 0, vI 0, vI e, vS ByteArray.empty, vS ByteArray.empty, vI 0, nS, vU 0, vI 0, vI 0, nS, nS, nS, nS]) rfl (Ob_build (vs := [(0, vI 7), (2, vI req), (10, vI e), (1, vI v.epoch), (7, vI v.head)]) rfl rfl (by go_simp <;> rfl)) fun a Z => ?_
 refine hT tSv Z H 0 rfl rfl rfl rfl rfl (onR 14 rfl (one_cons (slS.one slS.nil) (onR 3 rfl (one_cons (slS.one slS.nil) (one_cons (slS.one slS.nil) (one_cons (slS.one slS.nil) (one_cons (slS.one slS.nil) one_nil))))))) (Nat.le_of_ble_eq_true rfl) (putCells_all rfl) fun w3 H => ?_
 dsimp only [List.eraseIdx] at H
 refine s_end Z [6] rfl fun Z => ?_
 refine p_then (wp_ret ?_)
 replace H := H.slNil NEMember
 replace H := H.slNil NEOp
 replace H := H.slNil NEEntry
 replace H := H.slNil Nu64
 replace H := H.slNil NEPair
 obtain rfl := some_in hF
 exact f_ret Z (run_resultsC rfl Z rfl (run_loadVar_agg tSv rfl (H.bx 5 rfl).at)) ⟨nS, nS, nS, nS, nS, rfl, I, (H.sub [(4, true), (3, true), (2, true), (1, true), (0, true)] rfl).eq rfl⟩

def F_serve_Get_1 (p0_o : Emvcc_Store) (p1 : EMsg) : Option ((List EPair) × Bool × Emvcc_Store) := (F_mvcc_Store_Get p0_o p1.key p1.at_).bind fun g => (if (!g.2.1) = true then (some (([] : List EPair), false, g.2.2)) else (some ([({ key := p1.key, val := g.1 } : EPair)], false, g.2.2)))

set_option maxHeartbeats 1000000 in
theorem c_serve_Get_1 {I D : Dm} {b_p0 : Nat} {p0_o : Emvcc_Store} {bb_p0 : Nat} {b_p1 : Nat} {p1 : EMsg} {v1_p1 : Value} {v2_p1 : Value} {v3_p1 : Value} {v4_p1 : Value} {v5_p1 : Value} {w : World} {rr : (List EPair) × Bool × Emvcc_Store} (hF : F_serve_Get_1 p0_o p1 = some rr) (H : St I D w [BxC b_p0 77 [.func (.func 30) #[pp bb_p0 0] #[]], OEmvcc_Store bb_p0 p0_o, BxC b_p1 37 (cEMsg p1 v1_p1 v2_p1 v3_p1 v4_p1 v5_p1), SlC NEMember v1_p1 p1.conf.members, SlC NEOp v2_p1 p1.batch.ops, SlC NEEntry v3_p1 p1.entries, SlC Nu64 v4_p1 p1.stamps, SlC NEPair v5_p1 p1.pairs]) :
  Calls Try.prog 32 #[pp b_p0 0, pp b_p1 0] w (Ret fun vv w' => ∃ q1 : Value, vv = .tuple #[q1, vT rr.2.1] ∧ ∃ I', Hf I D w I' w' [BxC b_p0 77 [.func (.func 30) #[pp bb_p0 0] #[]], OEmvcc_Store bb_p0 rr.2.2, BxC b_p1 37 (cEMsg p1 v1_p1 v2_p1 v3_p1 v4_p1 v5_p1), SlC NEPair q1 rr.1]) := by
 replace H := H.hf
 unfold F_serve_Get_1 at hF
 refine f_enter 22 Try.func32 rfl rfl (Nat.le_of_ble_eq_true rfl) fun a Z => ?_
 replace Z := Z.sub (ts := [0, 1]) rfl
 refine wp_seq (f_region Z ?_); clear Z; intro Z
 refine s_runk tSv Z 2 rfl rfl fun a Z => ?_
 refine s_end Z [0, 1] rfl fun Z => ?_
 refine p_then (wp_seq ?_)
 obtain ⟨g, hx1, hF⟩ := bnd_in hF
 refine f_region Z fun Z => ?_
 refine sO Z _ rfl (oL tSv rfl rfl (H.bc 0 0 rfl rfl)) fun a Z => ?_
 refine s_runk tSv Z 1 rfl rfl fun a Z => ?_
 refine sO Z _ rfl (oL tSv rfl rfl (H.bc 2 11 rfl rfl)) fun a Z => ?_
 refine s_runk tSv Z 1 rfl rfl fun a Z => ?_
 refine sO Z _ rfl (oL tSv rfl rfl (H.bc 2 5 rfl rfl)) fun a Z => ?_
 refine h_callR Z H (js := [(1, false)]) rfl (caps := #[]) (first := #[pp bb_p0 0]) fn_30_YSv rfl rfl rfl rfl rfl (by decide) rfl rfl (fun D1 hS => have hq := c_mvcc_Store_Get hx1 hS; hq) fun vv a w1 D2 hr hF2 Z => ?_
 obtain ⟨rfl, I1, K⟩ := hr
 have H := (hF2 K).nf rfl
 refine s_runk tSv Z 5 rfl rfl fun a Z => ?_
 refine s_end Z [1, 4, 5] rfl fun Z => ?_
 refine p_then (wp_seq ?_)
 refine wp_seq (f_region Z ?_); clear Z; intro Z
 refine s_runk tSv Z 2 rfl rfl fun a Z => ?_
 refine s_end Z [1, 4, 16] rfl fun Z => ?_
 refine p_then ?_
 refine f_cond Z rfl (fun hc1 => ?_) (fun hc1 => ?_)
 ·replace hF := ite_t hc1 hF
  refine wp_seq (f_region Z ?_); clear Z; intro Z
  refine s_runk tSv Z 2 rfl rfl fun a Z => ?_
  refine s_end Z [2, 3] rfl fun Z => ?_
  refine p_then (wp_ret ?_)
  refine p_then_r ?_
  replace H := H.slNil NEPair
  obtain rfl := some_in hF
  exact f_ret Z (run_results2 rfl Z rfl rfl) ⟨nS, rfl, I1, (H.sub [(2, false), (1, false), (1, false), (0, true)] rfl).eq rfl⟩
 ·replace hF := ite_f hc1 hF
  refine wp_skip ?_
  refine p_then (wp_seq (f_region Z ?_)); clear Z; intro Z
  refine s_runk tSv Z 1 rfl rfl fun a Z => ?_
  refine sO Z _ rfl (oL tSv rfl rfl (H.bc 2 11 rfl rfl)) fun a Z => ?_
  refine s_runk tSv Z 1 rfl rfl fun a Z => ?_
  refine sO Z (.agg #[vS p1.key, vS g.1]) rfl (Ob_build (vs := [(0, vS p1.key), (1, vS g.1)]) rfl rfl (by go_simp <;> rfl)) fun a Z => ?_
  refine h_bslice Z H (vs := [(0, .agg #[vS p1.key, vS g.1])]) (cl := [vS p1.key, vS g.1]) (e := 81) rfl rfl rfl (by decide) rfl rfl (fun w => run_bslice (z := .agg #[vS ByteArray.empty, vS ByteArray.empty]) (m := 2) Try.underlying35 (by kernel_rfl) rfl rfl (by decide) (by simp [Instr.fill, Value.cells]) w) fun a w2 b1 H Z => ?_
  refine s_runk tSv Z 2 rfl rfl fun a Z => ?_
  refine s_end Z [2, 3] rfl fun Z => ?_
  refine p_then (wp_ret ?_)
  obtain ⟨I2, _, H⟩ := H.frzlit 0 rfl (R := NEPair) [[vS p1.key, vS g.1]] [({ key := p1.key, val := g.1 } : EPair)] rfl rfl (fun i h1 h2 => by match i, h1, h2 with | 0, _, _ => exact ⟨rfl, trivial⟩) (show 1 ≤ maxLen from by decide) (n := 1) rfl
  replace H := H.nf rfl; try dsimp only at H
  obtain rfl := some_in hF
  exact f_ret Z (run_results2 rfl Z rfl rfl) ⟨.slice (some ⟨b1, 0, none⟩) 1 1, rfl, I2, (H.sub [(2, false), (1, false), (1, false), (0, true)] rfl).eq rfl⟩

def F_serve_read__serve_Get_1 (v : Eserve_View) (x : EMsg) (p0_o : Emvcc_Store) (p1 : EMsg) : Option (EMsg × Emvcc_Store) := (F_bound_Check x.at_ v.mark v.horizon).bind fun c => (if (c != 0) = true then ((F_serve_No v x.req c).bind fun n0 => (some (n0, p0_o))) else ((F_serve_Get_1 p0_o p1).bind fun x0 => (some (({ (default : EMsg) with k := 10, req := x.req, flag := x0.2.1, at_ := x.at_, key := x.key, pairs := x0.1 } : EMsg), x0.2.2))))

set_option maxHeartbeats 1000000 in
theorem c_serve_read__serve_Get_1 {I D : Dm} {v : Eserve_View} {x : EMsg} {v1_x : Value} {v2_x : Value} {v3_x : Value} {v4_x : Value} {v5_x : Value} {b_p0_o : Nat} {p0_o : Emvcc_Store} {bb_p0_o : Nat} {b_p1 : Nat} {p1 : EMsg} {v6_p1 : Value} {v7_p1 : Value} {v8_p1 : Value} {v9_p1 : Value} {v10_p1 : Value} {w : World} {rr : EMsg × Emvcc_Store} (hF : F_serve_read__serve_Get_1 v x p0_o p1 = some rr) (H : St I D w [SlC NEMember v1_x x.conf.members, SlC NEOp v2_x x.batch.ops, SlC NEEntry v3_x x.entries, SlC Nu64 v4_x x.stamps, SlC NEPair v5_x x.pairs, BxC b_p0_o 77 [.func (.func 30) #[pp bb_p0_o 0] #[]], OEmvcc_Store bb_p0_o p0_o, BxC b_p1 37 (cEMsg p1 v6_p1 v7_p1 v8_p1 v9_p1 v10_p1), SlC NEMember v6_p1 p1.conf.members, SlC NEOp v7_p1 p1.batch.ops, SlC NEEntry v8_p1 p1.entries, SlC Nu64 v9_p1 p1.stamps, SlC NEPair v10_p1 p1.pairs]) :
  Calls Try.prog 31 #[.agg #[vU v.mark, vU v.horizon, vI v.epoch, vI v.head], .agg (cEMsg x v1_x v2_x v3_x v4_x v5_x).toArray, .func (.func 32) #[] #[pp b_p0_o 0, pp b_p1 0]] w (Ret fun vv w' => ∃ q1 q2 q3 q4 q5 : Value, vv = .agg (cEMsg rr.1 q1 q2 q3 q4 q5).toArray ∧ ∃ I', Hf I D w I' w' [BxC b_p0_o 77 [.func (.func 30) #[pp bb_p0_o 0] #[]], OEmvcc_Store bb_p0_o rr.2, BxC b_p1 37 (cEMsg p1 v6_p1 v7_p1 v8_p1 v9_p1 v10_p1), SlC NEMember q1 rr.1.conf.members, SlC NEOp q2 rr.1.batch.ops, SlC NEEntry q3 rr.1.entries, SlC Nu64 q4 rr.1.stamps, SlC NEPair q5 rr.1.pairs]) := by
 replace H := H.hf
 unfold F_serve_read__serve_Get_1 at hF
 refine f_enter 38 Try.func31 rfl rfl (Nat.le_of_ble_eq_true rfl) fun a Z => ?_
 replace Z := Z.sub (ts := [0, 1, 2]) rfl
 refine wp_seq (f_region Z ?_); clear Z; intro Z
 refine hB Z H [vU v.mark, vU v.horizon, vI v.epoch, vI v.head] rfl rfl rfl rfl fun a w1 b1 H Z => ?_
 refine h_boxv Z H (cl := (cEMsg x v1_x v2_x v3_x v4_x v5_x)) rfl rfl rfl (by decide) rfl rfl rfl fun a w2 b2 H Z => ?_
 refine hA Z H [vI 0, vI 0, vI 0, vI 0, vT false, vU 0, vU 0, vI 0, vI 0, vI 0, vI 0, vS ByteArray.empty, vS ByteArray.empty, vI 0, nS, vU 0, vI 0, vI 0, nS, nS, nS, nS] rfl rfl (by kernel_rfl) fun a w3 b3 H Z => ?_
 refine s_end Z [2, 3, 4, 6] rfl fun Z => ?_
 refine p_then (wp_seq ?_)
 refine wp_seq ?_
 obtain ⟨c, hx1, hF⟩ := bnd_in hF
 refine f_region Z fun Z => ?_
 refine s_runk tSv Z 1 rfl rfl fun a Z => ?_
 refine sO Z _ rfl (oL tSv rfl rfl (H.bc 1 5 rfl rfl)) fun a Z => ?_
 refine s_runk tSv Z 1 rfl rfl fun a Z => ?_
 refine sO Z _ rfl (oL tSv rfl rfl (H.bc 2 0 rfl rfl)) fun a Z => ?_
 refine s_runk tSv Z 1 rfl rfl fun a Z => ?_
 refine sO Z _ rfl (oL tSv rfl rfl (H.bc 2 1 rfl rfl)) fun a Z => ?_
 refine hC Z H [] rfl #[] fn_56_YSv rfl rfl (fun D h => have q := c_bound_Check hx1 h; q) fun vv a w4 D2 hr hF2 Z => ?_
 obtain ⟨rfl, I1, K⟩ := hr
 have H := (hF2 K).nf rfl
 refine s_runk tSv Z 1 rfl rfl fun a Z => ?_
 refine s_end Z [2, 3, 4, 6, 7] rfl fun Z => ?_
 refine p_then (wp_seq (f_region Z ?_)); clear Z; intro Z
 refine s_runk tSv Z 2 rfl rfl fun a Z => ?_
 refine s_end Z [2, 3, 4, 6, 7, 17] rfl fun Z => ?_
 refine p_then ?_
 refine f_cond Z rfl (fun hc1 => ?_) (fun hc1 => ?_)
 ·replace hF := ite_t hc1 hF
  refine wp_seq ?_
  obtain ⟨n0, hx2, hF⟩ := bnd_in hF
  refine f_region Z fun Z => ?_
  refine sO Z (.agg #[vU v.mark, vU v.horizon, vI v.epoch, vI v.head]) rfl (oA tSv rfl rfl ((H.bx 2 rfl).part 0 rfl)) fun a Z => ?_
  refine s_runk tSv Z 1 rfl rfl fun a Z => ?_
  refine sO Z _ rfl (oL tSv rfl rfl (H.bc 1 2 rfl rfl)) fun a Z => ?_
  refine s_runk tSv Z 1 rfl rfl fun a Z => ?_
  refine hC Z H [] rfl #[] fn_16_YSv rfl rfl (fun D h => have q := c_serve_No hx2 h; q) fun vv a w5 D2 hr hF2 Z => ?_
  obtain ⟨q1, q2, q3, q4, q5, rfl, I2, K⟩ := hr
  have H := (hF2 K).nf rfl
  refine hT tSv Z H 5 rfl rfl rfl rfl rfl (onR 14 rfl (one_cons (slS.one (H.slshape 0 rfl)) (onR 3 rfl (one_cons (slS.one (H.slshape 1 rfl)) (one_cons (slS.one (H.slshape 2 rfl)) (one_cons (slS.one (H.slshape 3 rfl)) (one_cons (slS.one (H.slshape 4 rfl)) one_nil))))))) (Nat.le_of_ble_eq_true rfl) (putCells_all rfl) fun w6 H => ?_
  dsimp only [List.eraseIdx] at H
  refine s_end Z [6] rfl fun Z => ?_
  refine p_then (wp_ret ?_)
  refine p_then_r ?_
  obtain rfl := some_in hF
  exact f_ret Z (run_resultsC rfl Z rfl (run_loadVar_agg tSv rfl (H.bx 0 rfl).at)) ⟨q1, q2, q3, q4, q5, rfl, I2, (H.sub [(13, false), (13, false), (13, false), (1, true), (2, true), (3, true), (4, true), (5, true)] rfl).eq rfl⟩
 ·replace hF := ite_f hc1 hF
  refine wp_skip ?_
  refine p_then (wp_seq (f_region Z ?_)); clear Z; intro Z
  refine s_runk tSv Z 1 rfl rfl fun a Z => ?_
  refine sO Z _ rfl (oL tSv rfl rfl (H.bc 1 2 rfl rfl)) fun a Z => ?_
  refine s_runk tSv Z 1 rfl rfl fun a Z => ?_
  refine sO Z _ rfl (oL tSv rfl rfl (H.bc 1 11 rfl rfl)) fun a Z => ?_
  refine s_runk tSv Z 1 rfl rfl fun a Z => ?_
  refine sO Z _ rfl (oL tSv rfl rfl (H.bc 1 5 rfl rfl)) fun a Z => ?_
  refine sO Z (.agg #[vI 10, vI 0, vI x.req, vI 0, vT false, vU x.at_, vU 0, vI 0, vI 0, vI 0, vI 0, vS x.key, vS ByteArray.empty, vI 0, nS, vU 0, vI 0, vI 0, nS, nS, nS, nS]) rfl (Ob_build (vs := [(0, vI 10), (2, vI x.req), (11, vS x.key), (5, vU x.at_)]) rfl rfl (by go_simp <;> rfl)) fun a Z => ?_
  refine hA Z H [vI 0, vI 0, vI 0, vI 0, vT false, vU 0, vU 0, vI 0, vI 0, vI 0, vI 0, vS ByteArray.empty, vS ByteArray.empty, vI 0, nS, vU 0, vI 0, vI 0, nS, nS, nS, nS] rfl rfl (by kernel_rfl) fun a w7 b4 H Z => ?_
  refine hT tSv Z H 0 rfl rfl rfl rfl rfl (onR 14 rfl (one_cons (slS.one slS.nil) (onR 3 rfl (one_cons (slS.one slS.nil) (one_cons (slS.one slS.nil) (one_cons (slS.one slS.nil) (one_cons (slS.one slS.nil) one_nil))))))) (Nat.le_of_ble_eq_true rfl) (putCells_all rfl) fun w8 H => ?_
  dsimp only [List.eraseIdx] at H
  refine s_end Z [2, 6, 8] rfl fun Z => ?_
  refine p_then (wp_seq ?_)
  obtain ⟨x0, hx3, hF⟩ := bnd_in hF
  refine f_region Z fun Z => ?_
  refine s_runk tSv Z 1 rfl rfl fun a Z => ?_
  refine hC Z H [(9, false), (9, false), (9, false), (9, true), (10, true), (11, true), (12, true), (13, true)] rfl #[pp b_p0_o 0, pp b_p1 0] fn_32_YSv rfl rfl (fun D h => have q := c_serve_Get_1 hx3 h; q) fun vv a w9 D2 hr hF2 Z => ?_
  obtain ⟨q6, rfl, I3, K⟩ := hr
  have H := (hF2 K).nf rfl
  refine s_runk tSv Z 4 rfl rfl fun a Z => ?_
  refine hT tSv Z H 4 rfl rfl (slS.cells (H.slshape 3 rfl)) rfl rfl (one_cons (slS.one (H.slshape 3 rfl)) one_nil) (Nat.le_of_ble_eq_true rfl) rfl fun w10 H => ?_
  dsimp only [List.eraseIdx] at H
  refine s_runk tSv Z 1 rfl rfl fun a Z => ?_
  refine hT tSv Z H 0 rfl rfl rfl rfl rfl (one_cons rfl one_nil) (Nat.le_of_ble_eq_true rfl) rfl fun w11 H => ?_
  dsimp only [List.eraseIdx] at H
  refine s_end Z [6, 8] rfl fun Z => ?_
  refine p_then (wp_seq (f_region Z ?_)); clear Z; intro Z
  refine sO Z (.agg #[vI 10, vI 0, vI x.req, vI 0, vT x0.2.1, vU x.at_, vU 0, vI 0, vI 0, vI 0, vI 0, vS x.key, vS ByteArray.empty, vI 0, nS, vU 0, vI 0, vI 0, nS, nS, nS, q6]) rfl (oA tSv rfl rfl ((H.bx 0 rfl).part 0 rfl)) fun a Z => ?_
  refine hT tSv Z H 5 rfl rfl rfl rfl rfl (onR 14 rfl (one_cons (slS.one slS.nil) (onR 3 rfl (one_cons (slS.one slS.nil) (one_cons (slS.one slS.nil) (one_cons (slS.one slS.nil) (one_cons (slS.one (H.slshape 4 rfl)) one_nil))))))) (Nat.le_of_ble_eq_true rfl) (putCells_all rfl) fun w12 H => ?_
  dsimp only [List.eraseIdx] at H
  refine s_end Z [6] rfl fun Z => ?_
  refine p_then (wp_ret ?_)
  replace H := H.slNil NEMember
  replace H := H.slNil NEOp
  replace H := H.slNil NEEntry
  replace H := H.slNil Nu64
  obtain rfl := some_in hF
  exact f_ret Z (run_resultsC rfl Z rfl (run_loadVar_agg tSv rfl (H.bx 4 rfl).at)) ⟨nS, nS, nS, nS, q6, rfl, I3, (H.sub [(6, false), (6, false), (6, false), (3, true), (2, true), (1, true), (0, true), (6, true)] rfl).eq rfl⟩

def F_serve_Get (s0 : Emvcc_Store) (v : Eserve_View) (x : EMsg) : Option (EMsg × Emvcc_Store) := (F_serve_read__serve_Get_1 v x s0 x).bind fun x0 => (some (x0.1, x0.2))

set_option maxHeartbeats 1000000 in
theorem c_serve_Get {I D : Dm} {b_s0 : Nat} {s0 : Emvcc_Store} {v : Eserve_View} {x : EMsg} {v1_x : Value} {v2_x : Value} {v3_x : Value} {v4_x : Value} {v5_x : Value} {w : World} {rr : EMsg × Emvcc_Store} (hF : F_serve_Get s0 v x = some rr) (H : St I D w [OEmvcc_Store b_s0 s0, SlC NEMember v1_x x.conf.members, SlC NEOp v2_x x.batch.ops, SlC NEEntry v3_x x.entries, SlC Nu64 v4_x x.stamps, SlC NEPair v5_x x.pairs]) :
  Calls Try.prog 12 #[pp b_s0 0, .agg #[vU v.mark, vU v.horizon, vI v.epoch, vI v.head], .agg (cEMsg x v1_x v2_x v3_x v4_x v5_x).toArray] w (Ret fun vv w' => ∃ q1 q2 q3 q4 q5 : Value, vv = .agg (cEMsg rr.1 q1 q2 q3 q4 q5).toArray ∧ ∃ I', Hf I D w I' w' [OEmvcc_Store b_s0 rr.2, SlC NEMember q1 rr.1.conf.members, SlC NEOp q2 rr.1.batch.ops, SlC NEEntry q3 rr.1.entries, SlC Nu64 q4 rr.1.stamps, SlC NEPair q5 rr.1.pairs]) := by
 replace H := H.hf
 unfold F_serve_Get at hF
 refine f_enter 14 Try.func12 rfl rfl (Nat.le_of_ble_eq_true rfl) fun a Z => ?_
 replace Z := Z.sub (ts := [0, 1, 2]) rfl
 refine wp_seq (f_region Z ?_); clear Z; intro Z
 refine hB Z H [vU v.mark, vU v.horizon, vI v.epoch, vI v.head] rfl rfl rfl rfl fun a w1 b1 H Z => ?_
 refine h_boxv Z H (cl := (cEMsg x v1_x v2_x v3_x v4_x v5_x)) rfl rfl rfl (by decide) rfl rfl rfl fun a w2 b2 H Z => ?_
 refine hA Z H [vI 0, vI 0, vI 0, vI 0, vT false, vU 0, vU 0, vI 0, vI 0, vI 0, vI 0, vS ByteArray.empty, vS ByteArray.empty, vI 0, nS, vU 0, vI 0, vI 0, nS, nS, nS, nS] rfl rfl (by kernel_rfl) fun a w3 b3 H Z => ?_
 refine s_end Z [0, 4, 5, 6] rfl fun Z => ?_
 refine p_then (wp_seq (f_region Z ?_)); clear Z; intro Z
 refine s_runk tSv Z 1 rfl rfl fun a Z => ?_
 refine sO Z (.func (.func 30) #[pp b_s0 0] #[]) rfl (Ob_mkr rfl rfl) fun a Z => ?_
 refine hA1 Z H .nilFunc rfl rfl (by kernel_rfl) rfl fun a w4 b4 H Z => ?_
 refine hT tSv Z H 0 rfl rfl rfl rfl rfl (one_cons rfl one_nil) (Nat.le_of_ble_eq_true rfl) rfl fun w5 H => ?_
 dsimp only [List.eraseIdx] at H
 refine s_end Z [4, 5, 6, 7] rfl fun Z => ?_
 refine p_then (wp_seq ?_)
 obtain ⟨x0, hx1, hF⟩ := bnd_in hF
 refine f_region Z fun Z => ?_
 refine sO Z (.agg #[vU v.mark, vU v.horizon, vI v.epoch, vI v.head]) rfl (oA tSv rfl rfl ((H.bx 3 rfl).part 0 rfl)) fun a Z => ?_
 refine sO Z (.agg (cEMsg x v1_x v2_x v3_x v4_x v5_x).toArray) rfl (oA tSv rfl rfl ((H.bx 2 rfl).part 0 rfl)) fun a Z => ?_
 refine s_runk tSv Z 1 rfl rfl fun a Z => ?_
 refine hC Z H [(5, true), (6, true), (7, true), (8, true), (9, true), (0, false), (3, false), (1, false), (2, true), (3, true), (4, true), (5, true), (6, true)] rfl #[] fn_31_YSv rfl rfl (fun D h => have q := c_serve_read__serve_Get_1 hx1 h; q) fun vv a w6 D2 hr hF2 Z => ?_
 obtain ⟨q1, q2, q3, q4, q5, rfl, I1, K⟩ := hr
 have H := (hF2 K).nf rfl
 refine hT tSv Z H 8 rfl rfl rfl rfl rfl (onR 14 rfl (one_cons (slS.one (H.slshape 3 rfl)) (onR 3 rfl (one_cons (slS.one (H.slshape 4 rfl)) (one_cons (slS.one (H.slshape 5 rfl)) (one_cons (slS.one (H.slshape 6 rfl)) (one_cons (slS.one (H.slshape 7 rfl)) one_nil))))))) (Nat.le_of_ble_eq_true rfl) (putCells_all rfl) fun w7 H => ?_
 dsimp only [List.eraseIdx] at H
 refine s_end Z [6] rfl fun Z => ?_
 refine p_then (wp_ret ?_)
 obtain rfl := some_in hF
 exact f_ret Z (run_resultsC rfl Z rfl (run_loadVar_agg tSv rfl (H.bx 0 rfl).at)) ⟨q1, q2, q3, q4, q5, rfl, I1, (H.sub [(2, false), (3, true), (4, true), (5, true), (6, true), (7, true)] rfl).eq rfl⟩

def F_serve_Scan_1 (p0_o : Emvcc_Store) (p1 : EMsg) : Option ((List EPair) × Bool × Emvcc_Store) := (F_mvcc_Store_Scan p0_o p1.key p1.to_ p1.at_ (min p1.n 32)).bind fun s0 => (some (s0.1, s0.2.1, s0.2.2))

set_option maxHeartbeats 1000000 in
theorem c_serve_Scan_1 {I D : Dm} {b_p0 : Nat} {p0_o : Emvcc_Store} {bb_p0 : Nat} {b_p1 : Nat} {p1 : EMsg} {v1_p1 : Value} {v2_p1 : Value} {v3_p1 : Value} {v4_p1 : Value} {v5_p1 : Value} {w : World} {rr : (List EPair) × Bool × Emvcc_Store} (hF : F_serve_Scan_1 p0_o p1 = some rr) (H : St I D w [BxC b_p0 84 [.func (.func 35) #[pp bb_p0 0] #[]], OEmvcc_Store bb_p0 p0_o, BxC b_p1 37 (cEMsg p1 v1_p1 v2_p1 v3_p1 v4_p1 v5_p1), SlC NEMember v1_p1 p1.conf.members, SlC NEOp v2_p1 p1.batch.ops, SlC NEEntry v3_p1 p1.entries, SlC Nu64 v4_p1 p1.stamps, SlC NEPair v5_p1 p1.pairs]) :
  Calls Try.prog 36 #[pp b_p0 0, pp b_p1 0] w (Ret fun vv w' => ∃ q1 : Value, vv = .tuple #[q1, vT rr.2.1] ∧ ∃ I', Hf I D w I' w' [BxC b_p0 84 [.func (.func 35) #[pp bb_p0 0] #[]], OEmvcc_Store bb_p0 rr.2.2, BxC b_p1 37 (cEMsg p1 v1_p1 v2_p1 v3_p1 v4_p1 v5_p1), SlC NEPair q1 rr.1]) := by
 replace H := H.hf
 unfold F_serve_Scan_1 at hF
 refine f_enter 17 Try.func36 rfl rfl (Nat.le_of_ble_eq_true rfl) fun a Z => ?_
 replace Z := Z.sub (ts := [0, 1]) rfl
 refine wp_seq (f_region Z ?_); clear Z; intro Z
 refine s_runk tSv Z 2 rfl rfl fun a Z => ?_
 refine s_end Z [0, 1] rfl fun Z => ?_
 refine p_then (wp_seq ?_)
 obtain ⟨s0, hx1, hF⟩ := bnd_in hF
 refine f_region Z fun Z => ?_
 refine sO Z _ rfl (oL tSv rfl rfl (H.bc 0 0 rfl rfl)) fun a Z => ?_
 refine s_runk tSv Z 1 rfl rfl fun a Z => ?_
 refine sO Z _ rfl (oL tSv rfl rfl (H.bc 2 11 rfl rfl)) fun a Z => ?_
 refine s_runk tSv Z 1 rfl rfl fun a Z => ?_
 refine sO Z _ rfl (oL tSv rfl rfl (H.bc 2 12 rfl rfl)) fun a Z => ?_
 refine s_runk tSv Z 1 rfl rfl fun a Z => ?_
 refine sO Z _ rfl (oL tSv rfl rfl (H.bc 2 5 rfl rfl)) fun a Z => ?_
 refine s_runk tSv Z 1 rfl rfl fun a Z => ?_
 refine sO Z _ rfl (oL tSv rfl rfl (H.bc 2 7 rfl rfl)) fun a Z => ?_
 refine s_runk tSv Z 1 rfl rfl fun a Z => ?_
 refine h_callR Z H (js := [(1, false)]) rfl (caps := #[]) (first := #[pp bb_p0 0]) fn_35_YSv rfl rfl rfl rfl rfl (by decide) rfl rfl (fun D1 hS => have hq := c_mvcc_Store_Scan hx1 hS; hq) fun vv a w1 D2 hr hF2 Z => ?_
 obtain ⟨q1, rfl, I1, K⟩ := hr
 have H := (hF2 K).nf rfl
 refine s_runk tSv Z 4 rfl rfl fun a Z => ?_
 refine s_end Z [2, 3] rfl fun Z => ?_
 refine p_then (wp_ret ?_)
 obtain rfl := some_in hF
 exact f_ret Z (run_results2 rfl Z rfl rfl) ⟨q1, rfl, I1, (H.sub [(2, false), (0, false), (1, false), (0, true)] rfl).eq rfl⟩

def F_serve_read__serve_Scan_1 (v : Eserve_View) (x : EMsg) (p0_o : Emvcc_Store) (p1 : EMsg) : Option (EMsg × Emvcc_Store) := (F_bound_Check x.at_ v.mark v.horizon).bind fun c => (if (c != 0) = true then ((F_serve_No v x.req c).bind fun n0 => (some (n0, p0_o))) else ((F_serve_Scan_1 p0_o p1).bind fun x0 => (some (({ (default : EMsg) with k := 10, req := x.req, flag := x0.2.1, at_ := x.at_, key := x.key, pairs := x0.1 } : EMsg), x0.2.2))))

set_option maxHeartbeats 1000000 in
theorem c_serve_read__serve_Scan_1 {I D : Dm} {v : Eserve_View} {x : EMsg} {v1_x : Value} {v2_x : Value} {v3_x : Value} {v4_x : Value} {v5_x : Value} {b_p0_o : Nat} {p0_o : Emvcc_Store} {bb_p0_o : Nat} {b_p1 : Nat} {p1 : EMsg} {v6_p1 : Value} {v7_p1 : Value} {v8_p1 : Value} {v9_p1 : Value} {v10_p1 : Value} {w : World} {rr : EMsg × Emvcc_Store} (hF : F_serve_read__serve_Scan_1 v x p0_o p1 = some rr) (H : St I D w [SlC NEMember v1_x x.conf.members, SlC NEOp v2_x x.batch.ops, SlC NEEntry v3_x x.entries, SlC Nu64 v4_x x.stamps, SlC NEPair v5_x x.pairs, BxC b_p0_o 84 [.func (.func 35) #[pp bb_p0_o 0] #[]], OEmvcc_Store bb_p0_o p0_o, BxC b_p1 37 (cEMsg p1 v6_p1 v7_p1 v8_p1 v9_p1 v10_p1), SlC NEMember v6_p1 p1.conf.members, SlC NEOp v7_p1 p1.batch.ops, SlC NEEntry v8_p1 p1.entries, SlC Nu64 v9_p1 p1.stamps, SlC NEPair v10_p1 p1.pairs]) :
  Calls Try.prog 31 #[.agg #[vU v.mark, vU v.horizon, vI v.epoch, vI v.head], .agg (cEMsg x v1_x v2_x v3_x v4_x v5_x).toArray, .func (.func 36) #[] #[pp b_p0_o 0, pp b_p1 0]] w (Ret fun vv w' => ∃ q1 q2 q3 q4 q5 : Value, vv = .agg (cEMsg rr.1 q1 q2 q3 q4 q5).toArray ∧ ∃ I', Hf I D w I' w' [BxC b_p0_o 84 [.func (.func 35) #[pp bb_p0_o 0] #[]], OEmvcc_Store bb_p0_o rr.2, BxC b_p1 37 (cEMsg p1 v6_p1 v7_p1 v8_p1 v9_p1 v10_p1), SlC NEMember q1 rr.1.conf.members, SlC NEOp q2 rr.1.batch.ops, SlC NEEntry q3 rr.1.entries, SlC Nu64 q4 rr.1.stamps, SlC NEPair q5 rr.1.pairs]) := by
 replace H := H.hf
 unfold F_serve_read__serve_Scan_1 at hF
 refine f_enter 38 Try.func31 rfl rfl (Nat.le_of_ble_eq_true rfl) fun a Z => ?_
 replace Z := Z.sub (ts := [0, 1, 2]) rfl
 refine wp_seq (f_region Z ?_); clear Z; intro Z
 refine hB Z H [vU v.mark, vU v.horizon, vI v.epoch, vI v.head] rfl rfl rfl rfl fun a w1 b1 H Z => ?_
 refine h_boxv Z H (cl := (cEMsg x v1_x v2_x v3_x v4_x v5_x)) rfl rfl rfl (by decide) rfl rfl rfl fun a w2 b2 H Z => ?_
 refine hA Z H [vI 0, vI 0, vI 0, vI 0, vT false, vU 0, vU 0, vI 0, vI 0, vI 0, vI 0, vS ByteArray.empty, vS ByteArray.empty, vI 0, nS, vU 0, vI 0, vI 0, nS, nS, nS, nS] rfl rfl (by kernel_rfl) fun a w3 b3 H Z => ?_
 refine s_end Z [2, 3, 4, 6] rfl fun Z => ?_
 refine p_then (wp_seq ?_)
 refine wp_seq ?_
 obtain ⟨c, hx1, hF⟩ := bnd_in hF
 refine f_region Z fun Z => ?_
 refine s_runk tSv Z 1 rfl rfl fun a Z => ?_
 refine sO Z _ rfl (oL tSv rfl rfl (H.bc 1 5 rfl rfl)) fun a Z => ?_
 refine s_runk tSv Z 1 rfl rfl fun a Z => ?_
 refine sO Z _ rfl (oL tSv rfl rfl (H.bc 2 0 rfl rfl)) fun a Z => ?_
 refine s_runk tSv Z 1 rfl rfl fun a Z => ?_
 refine sO Z _ rfl (oL tSv rfl rfl (H.bc 2 1 rfl rfl)) fun a Z => ?_
 refine hC Z H [] rfl #[] fn_56_YSv rfl rfl (fun D h => have q := c_bound_Check hx1 h; q) fun vv a w4 D2 hr hF2 Z => ?_
 obtain ⟨rfl, I1, K⟩ := hr
 have H := (hF2 K).nf rfl
 refine s_runk tSv Z 1 rfl rfl fun a Z => ?_
 refine s_end Z [2, 3, 4, 6, 7] rfl fun Z => ?_
 refine p_then (wp_seq (f_region Z ?_)); clear Z; intro Z
 refine s_runk tSv Z 2 rfl rfl fun a Z => ?_
 refine s_end Z [2, 3, 4, 6, 7, 17] rfl fun Z => ?_
 refine p_then ?_
 refine f_cond Z rfl (fun hc1 => ?_) (fun hc1 => ?_)
 ·replace hF := ite_t hc1 hF
  refine wp_seq ?_
  obtain ⟨n0, hx2, hF⟩ := bnd_in hF
  refine f_region Z fun Z => ?_
  refine sO Z (.agg #[vU v.mark, vU v.horizon, vI v.epoch, vI v.head]) rfl (oA tSv rfl rfl ((H.bx 2 rfl).part 0 rfl)) fun a Z => ?_
  refine s_runk tSv Z 1 rfl rfl fun a Z => ?_
  refine sO Z _ rfl (oL tSv rfl rfl (H.bc 1 2 rfl rfl)) fun a Z => ?_
  refine s_runk tSv Z 1 rfl rfl fun a Z => ?_
  refine hC Z H [] rfl #[] fn_16_YSv rfl rfl (fun D h => have q := c_serve_No hx2 h; q) fun vv a w5 D2 hr hF2 Z => ?_
  obtain ⟨q1, q2, q3, q4, q5, rfl, I2, K⟩ := hr
  have H := (hF2 K).nf rfl
  refine hT tSv Z H 5 rfl rfl rfl rfl rfl (onR 14 rfl (one_cons (slS.one (H.slshape 0 rfl)) (onR 3 rfl (one_cons (slS.one (H.slshape 1 rfl)) (one_cons (slS.one (H.slshape 2 rfl)) (one_cons (slS.one (H.slshape 3 rfl)) (one_cons (slS.one (H.slshape 4 rfl)) one_nil))))))) (Nat.le_of_ble_eq_true rfl) (putCells_all rfl) fun w6 H => ?_
  dsimp only [List.eraseIdx] at H
  refine s_end Z [6] rfl fun Z => ?_
  refine p_then (wp_ret ?_)
  refine p_then_r ?_
  obtain rfl := some_in hF
  exact f_ret Z (run_resultsC rfl Z rfl (run_loadVar_agg tSv rfl (H.bx 0 rfl).at)) ⟨q1, q2, q3, q4, q5, rfl, I2, (H.sub [(13, false), (13, false), (13, false), (1, true), (2, true), (3, true), (4, true), (5, true)] rfl).eq rfl⟩
 ·replace hF := ite_f hc1 hF
  refine wp_skip ?_
  refine p_then (wp_seq (f_region Z ?_)); clear Z; intro Z
  refine s_runk tSv Z 1 rfl rfl fun a Z => ?_
  refine sO Z _ rfl (oL tSv rfl rfl (H.bc 1 2 rfl rfl)) fun a Z => ?_
  refine s_runk tSv Z 1 rfl rfl fun a Z => ?_
  refine sO Z _ rfl (oL tSv rfl rfl (H.bc 1 11 rfl rfl)) fun a Z => ?_
  refine s_runk tSv Z 1 rfl rfl fun a Z => ?_
  refine sO Z _ rfl (oL tSv rfl rfl (H.bc 1 5 rfl rfl)) fun a Z => ?_
  refine sO Z (.agg #[vI 10, vI 0, vI x.req, vI 0, vT false, vU x.at_, vU 0, vI 0, vI 0, vI 0, vI 0, vS x.key, vS ByteArray.empty, vI 0, nS, vU 0, vI 0, vI 0, nS, nS, nS, nS]) rfl (Ob_build (vs := [(0, vI 10), (2, vI x.req), (11, vS x.key), (5, vU x.at_)]) rfl rfl (by go_simp <;> rfl)) fun a Z => ?_
  refine hA Z H [vI 0, vI 0, vI 0, vI 0, vT false, vU 0, vU 0, vI 0, vI 0, vI 0, vI 0, vS ByteArray.empty, vS ByteArray.empty, vI 0, nS, vU 0, vI 0, vI 0, nS, nS, nS, nS] rfl rfl (by kernel_rfl) fun a w7 b4 H Z => ?_
  refine hT tSv Z H 0 rfl rfl rfl rfl rfl (onR 14 rfl (one_cons (slS.one slS.nil) (onR 3 rfl (one_cons (slS.one slS.nil) (one_cons (slS.one slS.nil) (one_cons (slS.one slS.nil) (one_cons (slS.one slS.nil) one_nil))))))) (Nat.le_of_ble_eq_true rfl) (putCells_all rfl) fun w8 H => ?_
  dsimp only [List.eraseIdx] at H
  refine s_end Z [2, 6, 8] rfl fun Z => ?_
  refine p_then (wp_seq ?_)
  obtain ⟨x0, hx3, hF⟩ := bnd_in hF
  refine f_region Z fun Z => ?_
  refine s_runk tSv Z 1 rfl rfl fun a Z => ?_
  refine hC Z H [(9, false), (9, false), (9, false), (9, true), (10, true), (11, true), (12, true), (13, true)] rfl #[pp b_p0_o 0, pp b_p1 0] fn_36_YSv rfl rfl (fun D h => have q := c_serve_Scan_1 hx3 h; q) fun vv a w9 D2 hr hF2 Z => ?_
  obtain ⟨q6, rfl, I3, K⟩ := hr
  have H := (hF2 K).nf rfl
  refine s_runk tSv Z 4 rfl rfl fun a Z => ?_
  refine hT tSv Z H 4 rfl rfl (slS.cells (H.slshape 3 rfl)) rfl rfl (one_cons (slS.one (H.slshape 3 rfl)) one_nil) (Nat.le_of_ble_eq_true rfl) rfl fun w10 H => ?_
  dsimp only [List.eraseIdx] at H
  refine s_runk tSv Z 1 rfl rfl fun a Z => ?_
  refine hT tSv Z H 0 rfl rfl rfl rfl rfl (one_cons rfl one_nil) (Nat.le_of_ble_eq_true rfl) rfl fun w11 H => ?_
  dsimp only [List.eraseIdx] at H
  refine s_end Z [6, 8] rfl fun Z => ?_
  refine p_then (wp_seq (f_region Z ?_)); clear Z; intro Z
  refine sO Z (.agg #[vI 10, vI 0, vI x.req, vI 0, vT x0.2.1, vU x.at_, vU 0, vI 0, vI 0, vI 0, vI 0, vS x.key, vS ByteArray.empty, vI 0, nS, vU 0, vI 0, vI 0, nS, nS, nS, q6]) rfl (oA tSv rfl rfl ((H.bx 0 rfl).part 0 rfl)) fun a Z => ?_
  refine hT tSv Z H 5 rfl rfl rfl rfl rfl (onR 14 rfl (one_cons (slS.one slS.nil) (onR 3 rfl (one_cons (slS.one slS.nil) (one_cons (slS.one slS.nil) (one_cons (slS.one slS.nil) (one_cons (slS.one (H.slshape 4 rfl)) one_nil))))))) (Nat.le_of_ble_eq_true rfl) (putCells_all rfl) fun w12 H => ?_
  dsimp only [List.eraseIdx] at H
  refine s_end Z [6] rfl fun Z => ?_
  refine p_then (wp_ret ?_)
  replace H := H.slNil NEMember
  replace H := H.slNil NEOp
  replace H := H.slNil NEEntry
  replace H := H.slNil Nu64
  obtain rfl := some_in hF
  exact f_ret Z (run_resultsC rfl Z rfl (run_loadVar_agg tSv rfl (H.bx 4 rfl).at)) ⟨nS, nS, nS, nS, q6, rfl, I3, (H.sub [(6, false), (6, false), (6, false), (3, true), (2, true), (1, true), (0, true), (6, true)] rfl).eq rfl⟩

def F_serve_Scan (s0 : Emvcc_Store) (v : Eserve_View) (x : EMsg) : Option (EMsg × Emvcc_Store) := (F_serve_read__serve_Scan_1 v x s0 x).bind fun x0 => (some (x0.1, x0.2))

set_option maxHeartbeats 1000000 in
theorem c_serve_Scan {I D : Dm} {b_s0 : Nat} {s0 : Emvcc_Store} {v : Eserve_View} {x : EMsg} {v1_x : Value} {v2_x : Value} {v3_x : Value} {v4_x : Value} {v5_x : Value} {w : World} {rr : EMsg × Emvcc_Store} (hF : F_serve_Scan s0 v x = some rr) (H : St I D w [OEmvcc_Store b_s0 s0, SlC NEMember v1_x x.conf.members, SlC NEOp v2_x x.batch.ops, SlC NEEntry v3_x x.entries, SlC Nu64 v4_x x.stamps, SlC NEPair v5_x x.pairs]) :
  Calls Try.prog 14 #[pp b_s0 0, .agg #[vU v.mark, vU v.horizon, vI v.epoch, vI v.head], .agg (cEMsg x v1_x v2_x v3_x v4_x v5_x).toArray] w (Ret fun vv w' => ∃ q1 q2 q3 q4 q5 : Value, vv = .agg (cEMsg rr.1 q1 q2 q3 q4 q5).toArray ∧ ∃ I', Hf I D w I' w' [OEmvcc_Store b_s0 rr.2, SlC NEMember q1 rr.1.conf.members, SlC NEOp q2 rr.1.batch.ops, SlC NEEntry q3 rr.1.entries, SlC Nu64 q4 rr.1.stamps, SlC NEPair q5 rr.1.pairs]) := by
 replace H := H.hf
 unfold F_serve_Scan at hF
 refine f_enter 14 Try.func14 rfl rfl (Nat.le_of_ble_eq_true rfl) fun a Z => ?_
 replace Z := Z.sub (ts := [0, 1, 2]) rfl
 refine wp_seq (f_region Z ?_); clear Z; intro Z
 refine hB Z H [vU v.mark, vU v.horizon, vI v.epoch, vI v.head] rfl rfl rfl rfl fun a w1 b1 H Z => ?_
 refine h_boxv Z H (cl := (cEMsg x v1_x v2_x v3_x v4_x v5_x)) rfl rfl rfl (by decide) rfl rfl rfl fun a w2 b2 H Z => ?_
 refine hA Z H [vI 0, vI 0, vI 0, vI 0, vT false, vU 0, vU 0, vI 0, vI 0, vI 0, vI 0, vS ByteArray.empty, vS ByteArray.empty, vI 0, nS, vU 0, vI 0, vI 0, nS, nS, nS, nS] rfl rfl (by kernel_rfl) fun a w3 b3 H Z => ?_
 refine s_end Z [0, 4, 5, 6] rfl fun Z => ?_
 refine p_then (wp_seq (f_region Z ?_)); clear Z; intro Z
 refine s_runk tSv Z 1 rfl rfl fun a Z => ?_
 refine sO Z (.func (.func 35) #[pp b_s0 0] #[]) rfl (Ob_mkr rfl rfl) fun a Z => ?_
 refine hA1 Z H .nilFunc rfl rfl (by kernel_rfl) rfl fun a w4 b4 H Z => ?_
 refine hT tSv Z H 0 rfl rfl rfl rfl rfl (one_cons rfl one_nil) (Nat.le_of_ble_eq_true rfl) rfl fun w5 H => ?_
 dsimp only [List.eraseIdx] at H
 refine s_end Z [4, 5, 6, 7] rfl fun Z => ?_
 refine p_then (wp_seq ?_)
 obtain ⟨x0, hx1, hF⟩ := bnd_in hF
 refine f_region Z fun Z => ?_
 refine sO Z (.agg #[vU v.mark, vU v.horizon, vI v.epoch, vI v.head]) rfl (oA tSv rfl rfl ((H.bx 3 rfl).part 0 rfl)) fun a Z => ?_
 refine sO Z (.agg (cEMsg x v1_x v2_x v3_x v4_x v5_x).toArray) rfl (oA tSv rfl rfl ((H.bx 2 rfl).part 0 rfl)) fun a Z => ?_
 refine s_runk tSv Z 1 rfl rfl fun a Z => ?_
 refine hC Z H [(5, true), (6, true), (7, true), (8, true), (9, true), (0, false), (3, false), (1, false), (2, true), (3, true), (4, true), (5, true), (6, true)] rfl #[] fn_31_YSv rfl rfl (fun D h => have q := c_serve_read__serve_Scan_1 hx1 h; q) fun vv a w6 D2 hr hF2 Z => ?_
 obtain ⟨q1, q2, q3, q4, q5, rfl, I1, K⟩ := hr
 have H := (hF2 K).nf rfl
 refine hT tSv Z H 8 rfl rfl rfl rfl rfl (onR 14 rfl (one_cons (slS.one (H.slshape 3 rfl)) (onR 3 rfl (one_cons (slS.one (H.slshape 4 rfl)) (one_cons (slS.one (H.slshape 5 rfl)) (one_cons (slS.one (H.slshape 6 rfl)) (one_cons (slS.one (H.slshape 7 rfl)) one_nil))))))) (Nat.le_of_ble_eq_true rfl) (putCells_all rfl) fun w7 H => ?_
 dsimp only [List.eraseIdx] at H
 refine s_end Z [6] rfl fun Z => ?_
 refine p_then (wp_ret ?_)
 obtain rfl := some_in hF
 exact f_ret Z (run_resultsC rfl Z rfl (run_loadVar_agg tSv rfl (H.bx 0 rfl).at)) ⟨q1, q2, q3, q4, q5, rfl, I1, (H.sub [(2, false), (3, true), (4, true), (5, true), (6, true), (7, true)] rfl).eq rfl⟩

def F_serve_Answer (s0 : Emvcc_Store) (v : Eserve_View) (x : EMsg) : Option (EMsg × Bool × Emvcc_Store) := (F_mess_Check x).bind fun c => (if (c != 0) = true then (some ((default : EMsg), false, s0)) else (if (x.k == 8) = true then ((F_serve_Get s0 v x).bind fun g => (some (g.1, true, g.2))) else (if (x.k == 9) = true then ((F_serve_Scan s0 v x).bind fun s0_2 => (some (s0_2.1, true, s0_2.2))) else (some ((default : EMsg), false, s0)))))

set_option maxHeartbeats 1000000 in
theorem c_serve_Answer {I D : Dm} {b_s0 : Nat} {s0 : Emvcc_Store} {v : Eserve_View} {x : EMsg} {v1_x : Value} {v2_x : Value} {v3_x : Value} {v4_x : Value} {v5_x : Value} {w : World} {rr : EMsg × Bool × Emvcc_Store} (hF : F_serve_Answer s0 v x = some rr) (H : St I D w [OEmvcc_Store b_s0 s0, SlC NEMember v1_x x.conf.members, SlC NEOp v2_x x.batch.ops, SlC NEEntry v3_x x.entries, SlC Nu64 v4_x x.stamps, SlC NEPair v5_x x.pairs]) :
  Calls Try.prog 9 #[pp b_s0 0, .agg #[vU v.mark, vU v.horizon, vI v.epoch, vI v.head], .agg (cEMsg x v1_x v2_x v3_x v4_x v5_x).toArray] w (Ret fun vv w' => ∃ q1 q2 q3 q4 q5 : Value, vv = .tuple #[.agg (cEMsg rr.1 q1 q2 q3 q4 q5).toArray, vT rr.2.1] ∧ ∃ I', Hf I D w I' w' [OEmvcc_Store b_s0 rr.2.2, SlC NEMember q1 rr.1.conf.members, SlC NEOp q2 rr.1.batch.ops, SlC NEEntry q3 rr.1.entries, SlC Nu64 q4 rr.1.stamps, SlC NEPair q5 rr.1.pairs]) := by
 replace H := H.hf
 unfold F_serve_Answer at hF
 refine f_enter 27 Try.func9 rfl rfl (Nat.le_of_ble_eq_true rfl) fun a Z => ?_
 replace Z := Z.sub (ts := [0, 1, 2]) rfl
 refine wp_seq (f_region Z ?_); clear Z; intro Z
 refine hB Z H [vU v.mark, vU v.horizon, vI v.epoch, vI v.head] rfl rfl rfl rfl fun a w1 b1 H Z => ?_
 refine h_boxv Z H (cl := (cEMsg x v1_x v2_x v3_x v4_x v5_x)) rfl rfl rfl (by decide) rfl rfl rfl fun a w2 b2 H Z => ?_
 refine hA Z H [vI 0, vI 0, vI 0, vI 0, vT false, vU 0, vU 0, vI 0, vI 0, vI 0, vI 0, vS ByteArray.empty, vS ByteArray.empty, vI 0, nS, vU 0, vI 0, vI 0, nS, nS, nS, nS] rfl rfl (by kernel_rfl) fun a w3 b3 H Z => ?_
 refine s_runk tSv Z 1 rfl rfl fun a Z => ?_
 refine s_end Z [0, 4, 5, 6] rfl fun Z => ?_
 refine p_then (wp_seq ?_)
 refine wp_seq ?_
 obtain ⟨c, hx1, hF⟩ := bnd_in hF
 refine f_region Z fun Z => ?_
 refine sO Z (.agg (cEMsg x v1_x v2_x v3_x v4_x v5_x).toArray) rfl (oA tSv rfl rfl ((H.bx 1 rfl).part 0 rfl)) fun a Z => ?_
 refine hC Z H [(4, true), (5, true), (6, true), (7, true), (8, true)] rfl #[] fn_24_YSv rfl rfl (fun D h => have q := c_mess_Check hx1 h; q) fun vv a w4 D2 hr hF2 Z => ?_
 obtain ⟨rfl, I1, K⟩ := hr
 have H := (hF2 K).nf rfl
 refine s_runk tSv Z 1 rfl rfl fun a Z => ?_
 refine s_end Z [0, 4, 5, 6, 10] rfl fun Z => ?_
 refine p_then ?_
 refine f_cond Z rfl (fun hc1 => ?_) (fun hc1 => ?_)
 ·replace hF := ite_t hc1 hF
  refine wp_seq (f_region Z ?_); clear Z; intro Z
  refine sO Z (.agg #[vI 0, vI 0, vI 0, vI 0, vT false, vU 0, vU 0, vI 0, vI 0, vI 0, vI 0, vS ByteArray.empty, vS ByteArray.empty, vI 0, nS, vU 0, vI 0, vI 0, nS, nS, nS, nS]) rfl (Ob_build (vs := []) rfl rfl (by go_simp <;> rfl)) fun a Z => ?_
  refine hT tSv Z H 0 rfl rfl rfl rfl rfl (onR 14 rfl (one_cons (slS.one slS.nil) (onR 3 rfl (one_cons (slS.one slS.nil) (one_cons (slS.one slS.nil) (one_cons (slS.one slS.nil) (one_cons (slS.one slS.nil) one_nil))))))) (Nat.le_of_ble_eq_true rfl) (putCells_all rfl) fun w5 H => ?_
  dsimp only [List.eraseIdx] at H
  refine s_runk tSv Z 1 rfl rfl fun a Z => ?_
  refine s_end Z [6, 7] rfl fun Z => ?_
  refine p_then (wp_ret ?_)
  refine p_then_r ?_
  replace H := H.slNil NEMember
  replace H := H.slNil NEOp
  replace H := H.slNil NEEntry
  replace H := H.slNil Nu64
  replace H := H.slNil NEPair
  obtain rfl := some_in hF
  exact f_ret Z (run_resultsCT rfl Z rfl (run_loadVar_agg tSv rfl (H.bx 5 rfl).at) rfl) ⟨nS, nS, nS, nS, nS, rfl, I1, (H.sub [(8, false), (4, true), (3, true), (2, true), (1, true), (0, true)] rfl).eq rfl⟩
 ·replace hF := ite_f hc1 hF
  refine wp_skip ?_
  refine p_then (wp_seq ?_)
  refine wp_seq (f_region Z ?_); clear Z; intro Z
  refine s_runk tSv Z 1 rfl rfl fun a Z => ?_
  refine sO Z _ rfl (oL tSv rfl rfl (H.bc 1 0 rfl rfl)) fun a Z => ?_
  refine s_end Z [0, 4, 5, 6, 13] rfl fun Z => ?_
  refine p_then (wp_block ?_)
  refine wp_seq (f_region Z ?_); clear Z; intro Z
  refine s_runk tSv Z 2 rfl rfl fun a Z => ?_
  refine s_end Z [0, 4, 5, 6, 13, 14] rfl fun Z => ?_
  refine p_then ?_
  refine f_cond Z rfl (fun hc2 => ?_) (fun hc2 => ?_)
  ·replace hF := ite_t hc2 hF
   refine wp_seq ?_
   obtain ⟨g, hx2, hF⟩ := bnd_in hF
   refine f_region Z fun Z => ?_
   refine s_runk tSv Z 1 rfl rfl fun a Z => ?_
   refine sO Z (.agg #[vU v.mark, vU v.horizon, vI v.epoch, vI v.head]) rfl (oA tSv rfl rfl ((H.bx 2 rfl).part 0 rfl)) fun a Z => ?_
   refine sO Z (.agg (cEMsg x v1_x v2_x v3_x v4_x v5_x).toArray) rfl (oA tSv rfl rfl ((H.bx 1 rfl).part 0 rfl)) fun a Z => ?_
   refine hC Z H [(3, false), (3, true), (4, true), (5, true), (6, true), (7, true)] rfl #[] fn_12_YSv rfl rfl (fun D h => have q := c_serve_Get hx2 h; q) fun vv a w6 D2 hr hF2 Z => ?_
   obtain ⟨q1, q2, q3, q4, q5, rfl, I2, K⟩ := hr
   have H := (hF2 K).nf rfl
   refine hT tSv Z H 6 rfl rfl rfl rfl rfl (onR 14 rfl (one_cons (slS.one (H.slshape 1 rfl)) (onR 3 rfl (one_cons (slS.one (H.slshape 2 rfl)) (one_cons (slS.one (H.slshape 3 rfl)) (one_cons (slS.one (H.slshape 4 rfl)) (one_cons (slS.one (H.slshape 5 rfl)) one_nil))))))) (Nat.le_of_ble_eq_true rfl) (putCells_all rfl) fun w7 H => ?_
   dsimp only [List.eraseIdx] at H
   refine s_runk tSv Z 1 rfl rfl fun a Z => ?_
   refine s_end Z [6, 7] rfl fun Z => ?_
   refine p_then (wp_ret ?_)
   refine p_blk_r ?_
   refine p_then_r ?_
   obtain rfl := some_in hF
   exact f_ret Z (run_resultsCT rfl Z rfl (run_loadVar_agg tSv rfl (H.bx 0 rfl).at) rfl) ⟨q1, q2, q3, q4, q5, rfl, I2, (H.sub [(1, false), (1, true), (2, true), (3, true), (4, true), (5, true)] rfl).eq rfl⟩
  ·replace hF := ite_f hc2 hF
   refine wp_seq (f_region Z ?_); clear Z; intro Z
   refine s_runk tSv Z 2 rfl rfl fun a Z => ?_
   refine s_end Z [0, 4, 5, 6, 20] rfl fun Z => ?_
   refine p_then ?_
   refine f_cond Z rfl (fun hc3 => ?_) (fun hc3 => ?_)
   ·replace hF := ite_t hc3 hF
    refine wp_seq ?_
    obtain ⟨s0_2, hx3, hF⟩ := bnd_in hF
    refine f_region Z fun Z => ?_
    refine s_runk tSv Z 1 rfl rfl fun a Z => ?_
    refine sO Z (.agg #[vU v.mark, vU v.horizon, vI v.epoch, vI v.head]) rfl (oA tSv rfl rfl ((H.bx 2 rfl).part 0 rfl)) fun a Z => ?_
    refine sO Z (.agg (cEMsg x v1_x v2_x v3_x v4_x v5_x).toArray) rfl (oA tSv rfl rfl ((H.bx 1 rfl).part 0 rfl)) fun a Z => ?_
    refine hC Z H [(3, false), (3, true), (4, true), (5, true), (6, true), (7, true)] rfl #[] fn_14_YSv rfl rfl (fun D h => have q := c_serve_Scan hx3 h; q) fun vv a w8 D2 hr hF2 Z => ?_
    obtain ⟨q6, q7, q8, q9, q10, rfl, I3, K⟩ := hr
    have H := (hF2 K).nf rfl
    refine hT tSv Z H 6 rfl rfl rfl rfl rfl (onR 14 rfl (one_cons (slS.one (H.slshape 1 rfl)) (onR 3 rfl (one_cons (slS.one (H.slshape 2 rfl)) (one_cons (slS.one (H.slshape 3 rfl)) (one_cons (slS.one (H.slshape 4 rfl)) (one_cons (slS.one (H.slshape 5 rfl)) one_nil))))))) (Nat.le_of_ble_eq_true rfl) (putCells_all rfl) fun w9 H => ?_
    dsimp only [List.eraseIdx] at H
    refine s_runk tSv Z 1 rfl rfl fun a Z => ?_
    refine s_end Z [6, 7] rfl fun Z => ?_
    refine p_then (wp_ret ?_)
    refine p_blk_r ?_
    refine p_then_r ?_
    obtain rfl := some_in hF
    exact f_ret Z (run_resultsCT rfl Z rfl (run_loadVar_agg tSv rfl (H.bx 0 rfl).at) rfl) ⟨q6, q7, q8, q9, q10, rfl, I3, (H.sub [(1, false), (1, true), (2, true), (3, true), (4, true), (5, true)] rfl).eq rfl⟩
   ·replace hF := ite_f hc3 hF
    refine wp_skip ?_
    refine p_blk ?_
    refine p_then (wp_seq (f_region Z ?_)); clear Z; intro Z
    refine sO Z (.agg #[vI 0, vI 0, vI 0, vI 0, vT false, vU 0, vU 0, vI 0, vI 0, vI 0, vI 0, vS ByteArray.empty, vS ByteArray.empty, vI 0, nS, vU 0, vI 0, vI 0, nS, nS, nS, nS]) rfl (Ob_build (vs := []) rfl rfl (by go_simp <;> rfl)) fun a Z => ?_
    refine hT tSv Z H 0 rfl rfl rfl rfl rfl (onR 14 rfl (one_cons (slS.one slS.nil) (onR 3 rfl (one_cons (slS.one slS.nil) (one_cons (slS.one slS.nil) (one_cons (slS.one slS.nil) (one_cons (slS.one slS.nil) one_nil))))))) (Nat.le_of_ble_eq_true rfl) (putCells_all rfl) fun w10 H => ?_
    dsimp only [List.eraseIdx] at H
    refine s_runk tSv Z 1 rfl rfl fun a Z => ?_
    refine s_end Z [6, 7] rfl fun Z => ?_
    refine p_then (wp_ret ?_)
    replace H := H.slNil NEMember
    replace H := H.slNil NEOp
    replace H := H.slNil NEEntry
    replace H := H.slNil Nu64
    replace H := H.slNil NEPair
    obtain rfl := some_in hF
    exact f_ret Z (run_resultsCT rfl Z rfl (run_loadVar_agg tSv rfl (H.bx 5 rfl).at) rfl) ⟨nS, nS, nS, nS, nS, rfl, I1, (H.sub [(8, false), (4, true), (3, true), (2, true), (1, true), (0, true)] rfl).eq rfl⟩

end Go.Proofs.Ytaknkbbjimielaa
