/- Operations read out of bytes. -/
import Derived.Test.YthmjkcdpbbcdgaaYOps
import Derived.Test.YthmjkcdpbbcdgaaYAI
namespace Go.Proofs.Ythmjkcdpbbcdgaa
open Go.RowKit
def tOps1L : TabL := ⟨[(29696, 0), (29697, 1), (29698, 2), (129025, 1), (129026, 2)], [], [], [(27, (126, 3))], [(3, (1, false)), (4, (1, false)), (9, (1, false)), (27, (1, false)), (29, (3, true)), (126, (3, true))]⟩

def tOps1 : Tab Try.prog := ⟨tOps1L, by kernel_rfl⟩

theorem fn_17_YOps1 : IsFn Try.prog 17 := ⟨_, Try.func17, by kernel_rfl, by kernel_rfl⟩

theorem fn_18_YOps1 : IsFn Try.prog 18 := ⟨_, Try.func18, by kernel_rfl, by kernel_rfl⟩

theorem fn_22_YOps1 : IsFn Try.prog 22 := ⟨_, Try.func22, by kernel_rfl, by kernel_rfl⟩

theorem fn_55_YOps1 : IsFn Try.prog 55 := ⟨_, Try.func55, by kernel_rfl, by kernel_rfl⟩

theorem fn_59_YOps1 : IsFn Try.prog 59 := ⟨_, Try.func59, by kernel_rfl, by kernel_rfl⟩

theorem fn_72_YOps1 : IsFn Try.prog 72 := ⟨_, Try.func72, by kernel_rfl, by kernel_rfl⟩

theorem fn_73_YOps1 : IsFn Try.prog 73 := ⟨_, Try.func73, by kernel_rfl, by kernel_rfl⟩

theorem E_27_YOps1 : Elem Try.prog 27 126 3 40 := ⟨Try.underlying27, by
 have h : (Try.prog.info? 126).map (fun i => (i.zero, i.size, i.bytes)) = some (some (.agg #[.string ByteArray.empty, .string ByteArray.empty, .bool false]), 3, 40) := by kernel_rfl
 obtain ⟨i, hi, h1⟩ := Option.map_eq_some_iff.1 h
 simp only [Prod.mk.injEq] at h1
 exact ⟨i, _, hi, h1.1, h1.2.1, h1.2.2, by rfl⟩, by decide⟩

theorem neq_EOp (x y : EOp) (w : World) : (binOp .neq 126 (.agg (cEOp x).toArray) (.agg (cEOp y).toArray)).run Try.prog w = .ok (.bool (!eqEOp x y)) w := by
 have h1 := run_equalIn_struct (P := Try.prog) w 9999 126 (cEOp x).toArray (cEOp y).toArray (by rw [fieldsOf_of Try.underlying126]; exact Try.underlying126) (by kernel_rfl)
 rw [run_neq_struct, h1, fieldsOf_of Try.underlying126]
 simp [Op.eqFields, part, isAgg, cEOp, beqS, eqEOp, seqB_eq, run_underlying Try.underlying9, run_equalIn_string w 9998 9 _ _ Try.underlying9, run_underlying Try.underlying4, run_equalIn_bool' w 9998 4 _ _ Try.underlying4]
 try ((repeat' split) <;> simp_all)

theorem eqg_EOp (op : BinOp) (x y : Operand) (a b : Array Value) (w : World) : (eqGuard op 126 x y (.agg a) (.agg b)).run Try.prog w = .ok () w := run_eqGuard_agg (by kernel_rfl) op x y a b w

def F_ops_Of_l1 (n0 : Int × Ewire_Reader) (n0_2 : Int × Ewire_Reader) (n0_3 : Int × Ewire_Reader) (rc : (Int × ByteArray × Int × Int × Bool × (List EOp)) → Option (EBatch × Int)) (sg : Int × ByteArray × Int × Int × Bool × (List EOp)) : Option (EBatch × Int) := match sg with | (x, r_s, r_at_, r_e, r_made, b_ops) => if (decide (x < n0_3.1)) = true then ((F_wire_Reader_Text ({ s := r_s, at_ := r_at_, e := r_e, made := r_made } : Ewire_Reader) 8).bind fun t => ((F_wire_Reader_Flag t.2).bind fun f => ((F_wire_Reader_Text f.2 8).bind fun t_2 => (chk (((b_ops.length + [({ key := t.1, val := t_2.1, del := f.1 } : EOp)].length : Nat) : Int) * 40 ≤ 140737488355328) (chk (inI (x + 1)) (rc (x + 1, t_2.2.s, t_2.2.at_, t_2.2.e, t_2.2.made, b_ops ++ [({ key := t.1, val := t_2.1, del := f.1 } : EOp)]))))))) else ((F_wire_Reader_End ({ s := r_s, at_ := r_at_, e := r_e, made := r_made } : Ewire_Reader)).bind fun e => (if (e != 0) = true then (some ((default : EBatch), e)) else ((F_ops_Check ({ client := n0.1, req := n0_2.1, ops := b_ops } : EBatch)).bind fun c => (if (c != 0) = true then (some ((default : EBatch), c)) else (some (({ client := n0.1, req := n0_2.1, ops := b_ops } : EBatch), 0))))))

def F_ops_Of (s0 : ByteArray) : Option (EBatch × Int) := (F_wire_Open s0).bind fun o => ((F_wire_Reader_Num o 2).bind fun n0 => ((F_wire_Reader_Num n0.2 1073741824).bind fun n0_2 => ((F_wire_Reader_Num n0_2.2 4).bind fun n0_3 => (iter (F_ops_Of_l1 n0 n0_2 n0_3) FU (0, n0_3.2.s, n0_3.2.at_, n0_3.2.e, n0_3.2.made, ([] : List EOp))))))

set_option maxHeartbeats 1000000 in
theorem c_ops_Of {I D : Dm} {s0 : ByteArray} {w : World} {rr : EBatch × Int} (hF : F_ops_Of s0 = some rr) (H : St I D w []) :
  Calls Try.prog 49 #[vS s0] w (Ret fun vv w' => ∃ q1 : Value, vv = .tuple #[.agg #[vI rr.1.client, vI rr.1.req, q1], vI rr.2] ∧ ∃ I', Hf I D w I' w' [SlC NEOp q1 rr.1.ops]) := by
 replace H := H.hf
 unfold F_ops_Of at hF
 refine f_enter 50 Try.func49 rfl rfl (Nat.le_of_ble_eq_true rfl) fun a Z => ?_
 replace Z := Z.sub (ts := [0]) rfl
 refine wp_seq (f_region Z ?_); clear Z; intro Z
 refine hA Z H [vI 0, vI 0, nS] rfl rfl (by kernel_rfl) fun a w1 b1 H Z => ?_
 refine s_runk tOps1 Z 1 rfl rfl fun a Z => ?_
 refine s_end Z [0, 2, 3] rfl fun Z => ?_
 refine p_then (wp_seq ?_)
 obtain ⟨o, hx1, hF⟩ := bnd_in hF
 refine f_region Z fun Z => ?_
 refine s_runk tOps1 Z 1 rfl rfl fun a Z => ?_
 refine hC Z H [] rfl #[] fn_17_YOps1 rfl rfl (fun D h => have q := c_wire_Open hx1 h; q) fun vv a w2 D2 hr hF2 Z => ?_
 obtain ⟨g1, rfl, I1, K⟩ := hr
 have H := (hF2 K).nf rfl
 refine s_runk tOps1 Z 1 rfl rfl fun a Z => ?_
 refine s_end Z [2, 3, 4] rfl fun Z => ?_
 refine p_then (wp_seq ?_)
 obtain ⟨n0, hx2, hF⟩ := bnd_in hF
 refine f_region Z fun Z => ?_
 refine s_runk tOps1 Z 1 rfl rfl fun a Z => ?_
 refine hC Z H [(0, false)] rfl #[] fn_18_YOps1 rfl rfl (fun D h => have q := c_wire_Reader_Num hx2 h; q) fun vv a w3 D2 hr hF2 Z => ?_
 obtain ⟨rfl, I2, K⟩ := hr
 have H := (hF2 K).nf rfl
 refine sO Z (.agg #[vI n0.1, vI 0, nS]) rfl (Ob_build (vs := [(0, vI n0.1)]) rfl rfl (by go_simp <;> rfl)) fun a Z => ?_
 refine hA Z H [vI 0, vI 0, nS] rfl rfl (by kernel_rfl) fun a w4 b2 H Z => ?_
 refine hT tOps1 Z H 0 rfl rfl rfl rfl rfl (onR 2 rfl (one_cons (slS.one slS.nil) one_nil)) (Nat.le_of_ble_eq_true rfl) rfl fun w5 H => ?_
 dsimp only [List.eraseIdx] at H
 refine s_end Z [2, 3, 4, 5] rfl fun Z => ?_
 refine p_then (wp_seq ?_)
 obtain ⟨n0_2, hx3, hF⟩ := bnd_in hF
 refine f_region Z fun Z => ?_
 refine s_runk tOps1 Z 1 rfl rfl fun a Z => ?_
 refine hC Z H [(1, false)] rfl #[] fn_18_YOps1 rfl rfl (fun D h => have q := c_wire_Reader_Num hx3 h; q) fun vv a w6 D2 hr hF2 Z => ?_
 obtain ⟨rfl, I3, K⟩ := hr
 have H := (hF2 K).nf rfl
 refine s_runk tOps1 Z 1 rfl rfl fun a Z => ?_
 refine hT tOps1 Z H 1 rfl rfl rfl rfl rfl (one_cons rfl one_nil) (Nat.le_of_ble_eq_true rfl) rfl fun w7 H => ?_
 dsimp only [List.eraseIdx] at H
 refine s_end Z [2, 3, 4, 5] rfl fun Z => ?_
 refine p_then (wp_seq ?_)
 refine wp_seq ?_
 obtain ⟨n0_3, hx4, hF⟩ := bnd_in hF
 refine f_region Z fun Z => ?_
 refine s_runk tOps1 Z 1 rfl rfl fun a Z => ?_
 refine hC Z H [(1, false)] rfl #[] fn_18_YOps1 rfl rfl (fun D h => have q := c_wire_Reader_Num hx4 h; q) fun vv a w8 D2 hr hF2 Z => ?_
 obtain ⟨rfl, I4, K⟩ := hr
 have H := (hF2 K).nf rfl
 refine s_runk tOps1 Z 1 rfl rfl fun a Z => ?_
 refine s_end Z [2, 3, 4, 5, 18, 19] rfl fun Z => ?_
 refine p_then (wp_block ?_)
 replace H := H.nilow NEOp 126
 refine f_iter hF (fun sg a' w' => match sg with | (x, r_s, r_at_, r_e, r_made, b_ops) => ∃ v1 : Value, Sl 50 [(2, pp b1 0), (3, vI 0), (4, pp g1 0), (5, pp b2 0), (18, vI n0_3.1), (19, vI x)] a' ∧ ∃ I2, Hf I D w I2 w' [BxC b1 29 [vI 0, vI 0, nS], BxC g1 85 [vS r_s, vI r_at_, vI r_e, vT r_made], BxC b2 29 [vI n0.1, vI n0_2.1, v1], OwC NEOp 126 v1 b_ops]) ⟨nS, Z.sub (ts := [2, 3, 4, 5, 18, 19]) rfl, ⟨I4, (H.sub [(3, false), (1, false), (1, false), (0, false)] rfl).eq rfl⟩⟩ ?_
 rintro rc ⟨x, r_s, r_at_, r_e, r_made, b_ops⟩ a w9 ⟨v1, Z, I5, H⟩ hF
 unfold F_ops_Of_l1 at hF
 try dsimp only at hF
 refine wp_seq (f_region Z ?_); clear Z; intro Z
 refine s_runk tOps1 Z 1 rfl rfl fun a Z => ?_
 refine s_end Z [2, 3, 4, 5, 18, 19, 20] rfl fun Z => ?_
 refine p_then (wp_seq ?_)
 refine f_cond Z rfl (fun hc1 => ?_) (fun hc1 => ?_)
 ·replace hF := ite_t hc1 hF
  refine wp_skip ?_
  refine p_then (wp_seq ?_)
  refine wp_block ?_
  refine wp_seq ?_
  obtain ⟨t, hx5, hF⟩ := bnd_in hF
  refine f_region Z fun Z => ?_
  refine s_runk tOps1 Z 1 rfl rfl fun a Z => ?_
  refine hC Z H [(1, false)] rfl #[] fn_72_YOps1 rfl rfl (fun D h => have q := c_wire_Reader_Text hx5 h; q) fun vv a w10 D2 hr hF2 Z => ?_
  obtain ⟨rfl, I6, K⟩ := hr
  have H := (hF2 K).nf rfl
  refine sO Z (.agg #[vS t.1, vS ByteArray.empty, vT false]) rfl (Ob_build (vs := [(0, vS t.1)]) rfl rfl (by go_simp <;> rfl)) fun a Z => ?_
  refine hA Z H [vS ByteArray.empty, vS ByteArray.empty, vT false] rfl rfl (by kernel_rfl) fun a w11 b3 H Z => ?_
  refine hT tOps1 Z H 0 rfl rfl rfl rfl rfl (onR 3 rfl one_nil) (Nat.le_of_ble_eq_true rfl) rfl fun w12 H => ?_
  dsimp only [List.eraseIdx] at H
  refine s_end Z [2, 3, 4, 5, 18, 19, 20, 21, 22, 23, 6] rfl fun Z => ?_
  refine p_then (wp_seq ?_)
  obtain ⟨f, hx6, hF⟩ := bnd_in hF
  refine f_region Z fun Z => ?_
  refine s_runk tOps1 Z 1 rfl rfl fun a Z => ?_
  refine hC Z H [(1, false)] rfl #[] fn_73_YOps1 rfl rfl (fun D h => have q := c_wire_Reader_Flag hx6 h; q) fun vv a w13 D2 hr hF2 Z => ?_
  obtain ⟨rfl, I7, K⟩ := hr
  have H := (hF2 K).nf rfl
  refine s_runk tOps1 Z 1 rfl rfl fun a Z => ?_
  refine hT tOps1 Z H 1 rfl rfl rfl rfl rfl (one_cons rfl one_nil) (Nat.le_of_ble_eq_true rfl) rfl fun w14 H => ?_
  dsimp only [List.eraseIdx] at H
  refine s_end Z [2, 3, 4, 5, 18, 19, 20, 21, 22, 23, 6, 24, 25, 26] rfl fun Z => ?_
  refine p_then (wp_seq ?_)
  obtain ⟨t_2, hx7, hF⟩ := bnd_in hF
  refine f_region Z fun Z => ?_
  refine s_runk tOps1 Z 1 rfl rfl fun a Z => ?_
  refine hC Z H [(1, false)] rfl #[] fn_72_YOps1 rfl rfl (fun D h => have q := c_wire_Reader_Text hx7 h; q) fun vv a w15 D2 hr hF2 Z => ?_
  obtain ⟨rfl, I8, K⟩ := hr
  have H := (hF2 K).nf rfl
  refine s_runk tOps1 Z 1 rfl rfl fun a Z => ?_
  refine hT tOps1 Z H 1 rfl rfl rfl rfl rfl (one_cons rfl one_nil) (Nat.le_of_ble_eq_true rfl) rfl fun w16 H => ?_
  dsimp only [List.eraseIdx] at H
  refine s_end Z [2, 3, 4, 5, 18, 19, 20, 21, 22, 23, 6, 24, 25, 26, 27, 28, 29] rfl fun Z => ?_
  refine p_then ?_
  obtain ⟨hg1, hF⟩ := chk_in hF
  refine f_region Z fun Z => ?_
  refine s_runk tOps1 Z 1 rfl rfl fun a Z => ?_
  refine sO Z _ rfl (oL tOps1 rfl rfl (H.bc 3 2 rfl rfl)) fun a Z => ?_
  refine sO Z (.agg #[vS t.1, vS t_2.1, vT f.1]) rfl (oA tOps1 rfl rfl ((H.bx 0 rfl).part 0 rfl)) fun a Z => ?_
  refine h_bslice Z H (vs := [(0, .agg #[vS t.1, vS t_2.1, vT f.1])]) (cl := [vS t.1, vS t_2.1, vT f.1]) (e := 126) rfl rfl rfl (by decide) rfl rfl (fun w => run_bslice (z := .agg #[vS ByteArray.empty, vS ByteArray.empty, vT false]) (m := 3) Try.underlying27 (by kernel_rfl) rfl rfl (by decide) (by simp [Instr.fill, Value.cells]) w) fun a w17 b4 H Z => ?_
  refine h_appO Z H 5 E_27_YOps1 [({ key := t.1, val := t_2.1, del := f.1 } : EOp)] rfl rfl rfl rfl rfl (by decide) rfl rfl rfl (slRep2.box1 (H.bx 0 rfl) ⟨rfl, trivial⟩) hg1 (by decide) fun v2 a w18 H Z => ?_
  dsimp only [List.eraseIdx] at H
  replace H := (H.sub [(0, false), (1, false), (1, false), (1, false), (1, false)] rfl).nf rfl
  refine s_runk tOps1 Z 1 rfl rfl fun a Z => ?_
  refine hT tOps1 Z H 4 rfl rfl (slS.cells (H.owshape 0 rfl)) rfl rfl (one_cons (slS.one (H.owshape 0 rfl)) one_nil) (Nat.le_of_ble_eq_true rfl) rfl fun w19 H => ?_
  dsimp only [List.eraseIdx] at H
  refine s_end Z [2, 3, 4, 5, 18, 19, 20, 21, 22, 23, 6, 24, 25, 26, 27, 28, 29, 30, 31, 32, 33, 34, 35] rfl fun Z => ?_
  refine p_blk ?_
  refine p_then ?_
  obtain ⟨hg2, hF⟩ := chk_in hF
  refine f_region Z fun Z => ?_
  refine sO Z (vI (x + 1)) rfl (Ob_add rfl rfl rfl (wrI hg2)) fun a Z => ?_
  refine s_runk tOps1 Z 1 rfl rfl fun a Z => ?_
  refine s_end Z [2, 3, 4, 5, 18, 19, 20, 21, 22, 23, 6, 24, 25, 26, 27, 28, 29, 30, 31, 32, 33, 34, 35, 36] rfl fun Z => ?_
  refine p_then ?_
  exact ⟨(x + 1, t_2.2.s, t_2.2.at_, t_2.2.e, t_2.2.made, b_ops ++ [({ key := t.1, val := t_2.1, del := f.1 } : EOp)]), ⟨v2, Z.sub (ts := [2, 3, 4, 5, 18, 19]) rfl, ⟨I8, (H.sub [(4, false), (3, false), (0, false), (0, false)] rfl).eq rfl⟩⟩, hF⟩
 ·replace hF := ite_f hc1 hF
  refine wp_exit ?_
  refine p_then_x ?_
  refine p_then_x ?_
  refine f_exit_here ?_
  refine p_then (wp_seq ?_)
  refine wp_seq ?_
  obtain ⟨e, hx8, hF⟩ := bnd_in hF
  refine f_region Z fun Z => ?_
  refine s_runk tOps1 Z 1 rfl rfl fun a Z => ?_
  refine hC Z H [(1, false)] rfl #[] fn_22_YOps1 rfl rfl (fun D h => have q := c_wire_Reader_End hx8 h; q) fun vv a w20 D2 hr hF2 Z => ?_
  obtain ⟨rfl, I9, K⟩ := hr
  have H := (hF2 K).nf rfl
  refine s_runk tOps1 Z 1 rfl rfl fun a Z => ?_
  refine s_end Z [2, 3, 5, 7] rfl fun Z => ?_
  refine p_then (wp_seq (f_region Z ?_)); clear Z; intro Z
  refine s_runk tOps1 Z 2 rfl rfl fun a Z => ?_
  refine s_end Z [2, 3, 5, 7, 40] rfl fun Z => ?_
  refine p_then ?_
  refine f_cond Z rfl (fun hc2 => ?_) (fun hc2 => ?_)
  ·replace hF := ite_t hc2 hF
   refine wp_seq (f_region Z ?_); clear Z; intro Z
   refine sO Z (.agg #[vI 0, vI 0, nS]) rfl (Ob_build (vs := []) rfl rfl (by go_simp <;> rfl)) fun a Z => ?_
   refine s_runk tOps1 Z 1 rfl rfl fun a Z => ?_
   refine hT tOps1 Z H 1 rfl rfl rfl rfl rfl (onR 2 rfl (one_cons (slS.one slS.nil) one_nil)) (Nat.le_of_ble_eq_true rfl) rfl fun w21 H => ?_
   dsimp only [List.eraseIdx] at H
   refine s_runk tOps1 Z 1 rfl rfl fun a Z => ?_
   refine s_end Z [2, 3, 5] rfl fun Z => ?_
   refine p_then (wp_ret ?_)
   refine p_then_r ?_
   replace H := H.slNil NEOp
   obtain rfl := some_in hF
   exact f_ret Z (run_resultsCT rfl Z rfl (run_loadVar_agg tOps1 rfl (H.bx 1 rfl).at) rfl) ⟨nS, rfl, I9, (H.sub [(0, true)] rfl).eq rfl⟩
  ·replace hF := ite_f hc2 hF
   refine wp_skip ?_
   refine p_then (wp_seq ?_)
   refine wp_seq ?_
   obtain ⟨c, hx9, hF⟩ := bnd_in hF
   refine f_region Z fun Z => ?_
   refine sO Z (.agg #[vI n0.1, vI n0_2.1, v1]) rfl (oA tOps1 rfl rfl ((H.bx 2 rfl).part 0 rfl)) fun a Z => ?_
   refine s_call Z (caps := #[]) fn_59_YOps1 rfl rfl rfl rfl rfl (by decide) rfl rfl (have hq := c_ops_Check hx9 (stS (H.owA 3 rfl) (stB _)); plainC hq) ?_; rintro _ a w22 ⟨rfl, hb⟩ Z
   replace H := H.blw hb
   clear hb
   refine s_runk tOps1 Z 1 rfl rfl fun a Z => ?_
   refine s_end Z [2, 3, 5, 8] rfl fun Z => ?_
   refine p_then (wp_seq (f_region Z ?_)); clear Z; intro Z
   refine s_runk tOps1 Z 2 rfl rfl fun a Z => ?_
   refine s_end Z [2, 3, 5, 8, 46] rfl fun Z => ?_
   refine p_then ?_
   refine f_cond Z rfl (fun hc3 => ?_) (fun hc3 => ?_)
   ·replace hF := ite_t hc3 hF
    refine wp_seq (f_region Z ?_); clear Z; intro Z
    refine sO Z (.agg #[vI 0, vI 0, nS]) rfl (Ob_build (vs := []) rfl rfl (by go_simp <;> rfl)) fun a Z => ?_
    refine s_runk tOps1 Z 1 rfl rfl fun a Z => ?_
    refine hT tOps1 Z H 1 rfl rfl rfl rfl rfl (onR 2 rfl (one_cons (slS.one slS.nil) one_nil)) (Nat.le_of_ble_eq_true rfl) rfl fun w23 H => ?_
    dsimp only [List.eraseIdx] at H
    refine s_runk tOps1 Z 1 rfl rfl fun a Z => ?_
    refine s_end Z [2, 3, 5] rfl fun Z => ?_
    refine p_then (wp_ret ?_)
    refine p_then_r ?_
    replace H := H.slNil NEOp
    obtain rfl := some_in hF
    exact f_ret Z (run_resultsCT rfl Z rfl (run_loadVar_agg tOps1 rfl (H.bx 1 rfl).at) rfl) ⟨nS, rfl, I9, (H.sub [(0, true)] rfl).eq rfl⟩
   ·replace hF := ite_f hc3 hF
    refine wp_skip ?_
    refine p_then (wp_seq (f_region Z ?_)); clear Z; intro Z
    refine sO Z (.agg #[vI n0.1, vI n0_2.1, v1]) rfl (oA tOps1 rfl rfl ((H.bx 2 rfl).part 0 rfl)) fun a Z => ?_
    refine hT tOps1 Z H 1 rfl rfl rfl rfl rfl (onR 2 rfl (one_cons (slS.one (H.owshape 3 rfl)) one_nil)) (Nat.le_of_ble_eq_true rfl) rfl fun w24 H => ?_
    dsimp only [List.eraseIdx] at H
    refine s_runk tOps1 Z 1 rfl rfl fun a Z => ?_
    refine s_end Z [2, 3] rfl fun Z => ?_
    refine p_then (wp_ret ?_)
    obtain ⟨I10, _, H⟩ := H.frzow 3 rfl
    replace H := H.nf rfl; try dsimp only at H
    obtain rfl := some_in hF
    exact f_ret Z (run_resultsCT rfl Z rfl (run_loadVar_agg tOps1 rfl (H.bx 1 rfl).at) rfl) ⟨v1, rfl, I10, (H.sub [(0, true)] rfl).eq rfl⟩

def F_ref06_SameOps_l1 (a0 : List EOp) (b : List EOp) (rc : Int → Option Bool) (sg : Int) : Option Bool := match sg with | i => if ((decide (i < (a0.length : Int))) && (decide (i < (b.length : Int)))) = true then (chk ((0 : Int) ≤ i ∧ i < (a0.length : Int)) (chk ((0 : Int) ≤ i ∧ i < (b.length : Int)) (if (!eqEOp (a0.getD (i).toNat default) (b.getD (i).toNat default)) = true then (some false) else (chk (inI (i + 1)) (rc (i + 1)))))) else (some true)

def F_ref06_SameOps (a0 : List EOp) (b : List EOp) : Option Bool := if ((a0.length : Int) != (b.length : Int)) = true then (some false) else (iter (F_ref06_SameOps_l1 a0 b) FU 0)

set_option maxHeartbeats 1000000 in
theorem c_ref06_SameOps {I D : Dm} {a0 : List EOp} {v1_a0 : Value} {b : List EOp} {v2_b : Value} {w : World} {rr : Bool} (hF : F_ref06_SameOps a0 b = some rr) (H : St I D w [SlC NEOp v1_a0 a0, SlC NEOp v2_b b]) :
  Calls Try.prog 55 #[v1_a0, v2_b] w (Ret fun vv w' => vv = vT rr ∧ ∃ I', Hf I D w I' w' []) := by
 replace H := H.hf
 unfold F_ref06_SameOps at hF
 refine f_enter 32 Try.func55 rfl rfl (Nat.le_of_ble_eq_true rfl) fun a Z => ?_
 replace Z := Z.sub (ts := [0, 1]) rfl
 refine wp_seq (f_region Z ?_); clear Z; intro Z
 refine s_runk tOps1 Z 1 rfl rfl fun a Z => ?_
 refine s_end Z [0, 1, 4] rfl fun Z => ?_
 refine p_then (wp_seq ?_)
 refine wp_seq (f_region Z ?_); clear Z; intro Z
 refine s_runk tOps1 Z 1 rfl rfl fun a Z => ?_
 refine sO Z (vI (ln a0)) rfl (Ob_slen tOps1 rfl rfl rfl (H.slshape 0 rfl)) fun a Z => ?_
 refine s_runk tOps1 Z 1 rfl rfl fun a Z => ?_
 refine sO Z (vI (ln b)) rfl (Ob_slen tOps1 rfl rfl rfl (H.slshape 1 rfl)) fun a Z => ?_
 refine s_runk tOps1 Z 1 rfl rfl fun a Z => ?_
 refine s_end Z [0, 1, 4, 10] rfl fun Z => ?_
 refine p_then ?_
 refine f_cond Z rfl (fun hc1 => ?_) (fun hc1 => ?_)
 ·replace hF := ite_t hc1 hF
  refine wp_seq (f_region Z ?_); clear Z; intro Z
  refine s_runk tOps1 Z 1 rfl rfl fun a Z => ?_
  refine s_end Z [0, 1, 4] rfl fun Z => ?_
  refine p_then (wp_ret ?_)
  refine p_then_r ?_
  obtain rfl := some_in hF
  exact f_ret Z (run_results1 rfl Z rfl) ⟨rfl, I, (H.sub [] rfl).eq rfl⟩
 ·replace hF := ite_f hc1 hF
  refine wp_skip ?_
  refine p_then (wp_seq ?_)
  refine wp_seq (f_region Z ?_); clear Z; intro Z
  refine s_runk tOps1 Z 1 rfl rfl fun a Z => ?_
  refine s_end Z [0, 1, 4, 5] rfl fun Z => ?_
  refine p_then (wp_block ?_)
  refine f_iter hF (fun sg a' w' => match sg with | i => Sl 32 [(0, v1_a0), (1, v2_b), (4, vT false), (5, vI i)] a' ∧ ∃ I2, Hf I D w I2 w' [SlC NEOp v1_a0 a0, SlC NEOp v2_b b]) ⟨Z.sub (ts := [0, 1, 4, 5]) rfl, ⟨I, (H.sub [(0, true), (1, true)] rfl).eq rfl⟩⟩ ?_
  rintro rc i a w1 ⟨Z, I1, H⟩ hF
  unfold F_ref06_SameOps_l1 at hF
  try dsimp only at hF
  refine wp_seq ?_
  refine wp_seq (f_region Z ?_); clear Z; intro Z
  refine s_runk tOps1 Z 2 rfl rfl fun a Z => ?_
  refine sO Z (vI (ln a0)) rfl (Ob_slen tOps1 rfl rfl rfl (H.slshape 0 rfl)) fun a Z => ?_
  refine s_runk tOps1 Z 2 rfl rfl fun a Z => ?_
  refine gO Z (vI i) rfl (wantB_t _) (.n 5 rfl .z) (fun hp => Ob_c tOps1 rfl) fun a Z => ?_
  refine gO Z v2_b rfl (wantB_t _) (.n 1 rfl .z) (fun hp => Ob_c tOps1 rfl) fun a Z => ?_
  refine gO Z (vI (ln b)) rfl (wantB_t _) (.c 17 rfl id .z) (fun hp => Ob_slen tOps1 rfl rfl rfl (H.slshape 1 rfl)) fun a Z => ?_
  refine gO Z (vT (decide (i < (ln b)))) rfl (wantB_t _) (.c 16 rfl id (.c 18 rfl id .z)) (fun hp => Ob_c tOps1 rfl) fun a Z => ?_
  refine sO Z (vT ((decide (i < (ln a0))) && (decide (i < (ln b))))) rfl (Ob_pick rfl rfl rfl rfl (pick_and _ _)) fun a Z => ?_
  refine s_end Z [0, 1, 4, 5, 11, 12, 13, 14, 15, 20] rfl fun Z => ?_
  refine p_then ?_
  refine f_cond Z rfl (fun hc2 => ?_) (fun hc2 => ?_)
  ·replace hF := ite_t hc2 hF
   refine wp_skip ?_
   refine p_then (wp_seq ?_)
   refine wp_block ?_
   refine wp_seq ?_
   obtain ⟨hg1, hF⟩ := chk_in hF
   obtain ⟨hg2, hF⟩ := chk_in hF
   refine f_quietd (by kernel_rfl) (by kernel_rfl) Z fun Z => ?_
   refine q_runk tOps1 Z 2 rfl rfl fun a Z => ?_
   refine qO Z (.pointer (some ⟨blkOf v1_a0, oofOf v1_a0 + (i).toNat * 3, none⟩)) rfl (fun _ hw => Ob_sidx tOps1 rfl rfl rfl rfl (slPl ((H.blw hw).sl 0 rfl) hg1) hg1) fun a Z => ?_
   refine qO Z (.agg #[vS ((gi a0 i).key), vS ((gi a0 i).val), vT ((gi a0 i).del)]) rfl (fun _ hw => oA tOps1 rfl rfl ((slFl ((H.blw hw).sl 0 rfl) hg1).part 0 rfl)) fun a Z => ?_
   refine q_runk tOps1 Z 2 rfl rfl fun a Z => ?_
   refine qO Z (.pointer (some ⟨blkOf v2_b, oofOf v2_b + (i).toNat * 3, none⟩)) rfl (fun _ hw => Ob_sidx tOps1 rfl rfl rfl rfl (slPl ((H.blw hw).sl 1 rfl) hg2) hg2) fun a Z => ?_
   refine qO Z (.agg #[vS ((gi b i).key), vS ((gi b i).val), vT ((gi b i).del)]) rfl (fun _ hw => oA tOps1 rfl rfl ((slFl ((H.blw hw).sl 1 rfl) hg2).part 0 rfl)) fun a Z => ?_
   refine qO Z (vT (!eqEOp (gi a0 i) (gi b i))) rfl (fun _ hw => Ob_bin rfl rfl rfl (eqg_EOp _ _ _ _ _ _) (neq_EOp (gi a0 i) (gi b i) _)) fun a Z => ?_
   refine q_end Z [0, 1, 4, 5, 11, 12, 13, 14, 15, 20, 23, 24, 25, 26, 27, 28, 29, 30, 31] rfl fun w2 hb Z => ?_
   replace H := H.blw hb
   clear hb
   refine p_then ?_
   refine f_cond Z rfl (fun hc3 => ?_) (fun hc3 => ?_)
   ·replace hF := ite_t hc3 hF
    refine wp_seq (f_region Z ?_); clear Z; intro Z
    refine s_runk tOps1 Z 1 rfl rfl fun a Z => ?_
    refine s_end Z [0, 1, 4, 5, 11, 12, 13, 14, 15, 20, 23, 24, 25, 26, 27, 28, 29, 30, 31] rfl fun Z => ?_
    refine p_then (wp_ret ?_)
    refine p_blk_r ?_
    refine p_then_r ?_
    refine p_then_r ?_
    refine p_blk_r ?_
    refine p_then_r ?_
    obtain rfl := some_in hF
    exact f_ret Z (run_results1 rfl Z rfl) ⟨rfl, I1, (H.sub [] rfl).eq rfl⟩
   ·replace hF := ite_f hc3 hF
    refine wp_skip ?_
    refine p_blk ?_
    refine p_then ?_
    obtain ⟨hg3, hF⟩ := chk_in hF
    refine f_region Z fun Z => ?_
    refine s_runk tOps1 Z 1 rfl rfl fun a Z => ?_
    refine sO Z (vI (i + 1)) rfl (Ob_add rfl rfl rfl (wrI hg3)) fun a Z => ?_
    refine s_runk tOps1 Z 1 rfl rfl fun a Z => ?_
    refine s_end Z [0, 1, 4, 5, 11, 12, 13, 14, 15, 20, 23, 24, 25, 26, 27, 28, 29, 30, 31, 21, 22] rfl fun Z => ?_
    refine p_then ?_
    exact ⟨(i + 1), ⟨Z.sub (ts := [0, 1, 4, 5]) rfl, ⟨I1, (H.sub [(0, true), (1, true)] rfl).eq rfl⟩⟩, hF⟩
  ·replace hF := ite_f hc2 hF
   refine wp_exit ?_
   refine p_then_x ?_
   refine p_then_x ?_
   refine f_exit_here ?_
   refine p_then (wp_seq (f_region Z ?_)); clear Z; intro Z
   refine s_runk tOps1 Z 1 rfl rfl fun a Z => ?_
   refine s_end Z [4] rfl fun Z => ?_
   refine p_then (wp_ret ?_)
   obtain rfl := some_in hF
   exact f_ret Z (run_results1 rfl Z rfl) ⟨rfl, I1, (H.sub [] rfl).eq rfl⟩

def F_ref06_Same (a0 : EBatch) (b : EBatch) : Option Bool := (gif ((a0.client == b.client) && (a0.req == b.req)) (F_ref06_SameOps a0.ops b.ops) default).bind fun s0 => (some (((a0.client == b.client) && (a0.req == b.req)) && s0))

set_option maxHeartbeats 1000000 in
theorem c_ref06_Same {I D : Dm} {a0 : EBatch} {v1_a0 : Value} {b : EBatch} {v2_b : Value} {w : World} {rr : Bool} (hF : F_ref06_Same a0 b = some rr) (H : St I D w [SlC NEOp v1_a0 a0.ops, SlC NEOp v2_b b.ops]) :
  Calls Try.prog 25 #[.agg #[vI a0.client, vI a0.req, v1_a0], .agg #[vI b.client, vI b.req, v2_b]] w (Ret fun vv w' => vv = vT rr ∧ ∃ I', Hf I D w I' w' []) := by
 replace H := H.hf
 unfold F_ref06_Same at hF
 refine f_enter 24 Try.func25 rfl rfl (Nat.le_of_ble_eq_true rfl) fun a Z => ?_
 replace Z := Z.sub (ts := [0, 1]) rfl
 refine wp_seq (f_region Z ?_); clear Z; intro Z
 refine hB Z H [vI a0.client, vI a0.req, v1_a0] rfl rfl rfl rfl fun a w1 b1 H Z => ?_
 refine hB Z H [vI b.client, vI b.req, v2_b] rfl rfl rfl rfl fun a w2 b2 H Z => ?_
 refine s_runk tOps1 Z 1 rfl rfl fun a Z => ?_
 refine s_end Z [2, 3, 4] rfl fun Z => ?_
 refine p_then (wp_seq ?_)
 obtain ⟨s0, hx1, hF⟩ := bnd_in hF
 refine f_region Z fun Z => ?_
 refine s_runk tOps1 Z 1 rfl rfl fun a Z => ?_
 refine sO Z _ rfl (oL tOps1 rfl rfl (H.bc 1 0 rfl rfl)) fun a Z => ?_
 refine s_runk tOps1 Z 1 rfl rfl fun a Z => ?_
 refine sO Z _ rfl (oL tOps1 rfl rfl (H.bc 0 0 rfl rfl)) fun a Z => ?_
 refine s_runk tOps1 Z 2 rfl rfl fun a Z => ?_
 refine gO Z (pp b1 1) rfl (wantB_t _) (.n 2 rfl .z) (fun hp => Ob_c tOps1 rfl) fun a Z => ?_
 refine gO Z _ rfl (wantB_t _) (.c 11 rfl id .z) (fun hp => oL tOps1 rfl rfl (H.bc 1 1 rfl rfl)) fun a Z => ?_
 refine gO Z (pp b2 1) rfl (wantB_t _) (.n 3 rfl .z) (fun hp => Ob_c tOps1 rfl) fun a Z => ?_
 refine gO Z _ rfl (wantB_t _) (.c 13 rfl id .z) (fun hp => oL tOps1 rfl rfl (H.bc 0 1 rfl rfl)) fun a Z => ?_
 refine gO Z (vT (a0.req == b.req)) rfl (wantB_t _) (.c 12 rfl id (.c 14 rfl id .z)) (fun hp => Ob_c tOps1 rfl) fun a Z => ?_
 refine sO Z (vT ((a0.client == b.client) && (a0.req == b.req))) rfl (Ob_pick rfl rfl rfl rfl (pick_and _ _)) fun a Z => ?_
 refine s_runk tOps1 Z 1 rfl rfl fun a Z => ?_
 refine gO Z (pp b1 2) rfl (wantB_t _) (.n 2 rfl .z) (fun hp => Ob_c tOps1 rfl) fun a Z => ?_
 refine gO Z _ rfl (wantB_t _) (.c 18 rfl id .z) (fun hp => oL tOps1 rfl rfl (H.bc 1 2 rfl rfl)) fun a Z => ?_
 refine gO Z (pp b2 2) rfl (wantB_t _) (.n 3 rfl .z) (fun hp => Ob_c tOps1 rfl) fun a Z => ?_
 refine gO Z _ rfl (wantB_t _) (.c 20 rfl id .z) (fun hp => oL tOps1 rfl rfl (H.bc 0 2 rfl rfl)) fun a Z => ?_
 refine g_call Z (p := ((a0.client == b.client) && (a0.req == b.req))) (v := vT s0) (S' := [(19, v1_a0), (21, v2_b)]) (caps := #[]) fn_55_YOps1 rfl rfl rfl (wantB_t _) rfl (by decide) (fun hp hS => ((hS.conv (t := 19) rfl (cond_t hp)).conv (t := 21) rfl (cond_t hp)).sub (ts := [19, 21]) rfl) rfl rfl rfl rfl (fun hp => (have hq := c_ref06_SameOps (gif_in hx1 hp) ((H).pick0 (js := [(2, true), (3, true)]) rfl rfl); plainC hq)) fun a w3 hb Z => ?_
 replace H := H.blw hb
 clear hb
 refine sO Z (vT (((a0.client == b.client) && (a0.req == b.req)) && s0)) rfl (Ob_pick rfl rfl rfl rfl (pick_and _ _)) fun a Z => ?_
 refine s_runk tOps1 Z 1 rfl rfl fun a Z => ?_
 refine s_end Z [4] rfl fun Z => ?_
 refine p_then (wp_ret ?_)
 obtain rfl := some_in hF
 exact f_ret Z (run_results1 rfl Z rfl) ⟨rfl, I, (H.sub [] rfl).eq rfl⟩

end Go.Proofs.Ythmjkcdpbbcdgaa
