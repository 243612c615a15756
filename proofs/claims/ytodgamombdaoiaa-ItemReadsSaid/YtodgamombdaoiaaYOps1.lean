/- Operations read out of bytes. -/
import Derived.Test.YtodgamombdaoiaaYOps
namespace Go.Proofs.Ytodgamombdaoiaa
open Go.RowKit
def tOps1L : TabL := ⟨[(33792, 0), (33793, 1), (33794, 2), (86016, 0), (86017, 1), (86018, 2)], [], [], [(31, (84, 3))], [(3, (1, false)), (4, (1, false)), (9, (1, false)), (31, (1, false)), (33, (3, true)), (78, (3, true)), (84, (3, true))]⟩

def tOps1 : Tab Try.prog := ⟨tOps1L, by kernel_rfl⟩

theorem fn_36_YOps1 : IsFn Try.prog 36 := ⟨_, Try.func36, by kernel_rfl, by kernel_rfl⟩

theorem fn_37_YOps1 : IsFn Try.prog 37 := ⟨_, Try.func37, by kernel_rfl, by kernel_rfl⟩

theorem fn_40_YOps1 : IsFn Try.prog 40 := ⟨_, Try.func40, by kernel_rfl, by kernel_rfl⟩

theorem fn_42_YOps1 : IsFn Try.prog 42 := ⟨_, Try.func42, by kernel_rfl, by kernel_rfl⟩

theorem fn_43_YOps1 : IsFn Try.prog 43 := ⟨_, Try.func43, by kernel_rfl, by kernel_rfl⟩

theorem fn_46_YOps1 : IsFn Try.prog 46 := ⟨_, Try.func46, by kernel_rfl, by kernel_rfl⟩

theorem fn_47_YOps1 : IsFn Try.prog 47 := ⟨_, Try.func47, by kernel_rfl, by kernel_rfl⟩

theorem fn_60_YOps1 : IsFn Try.prog 60 := ⟨_, Try.func60, by kernel_rfl, by kernel_rfl⟩

theorem fn_68_YOps1 : IsFn Try.prog 68 := ⟨_, Try.func68, by kernel_rfl, by kernel_rfl⟩

theorem fn_69_YOps1 : IsFn Try.prog 69 := ⟨_, Try.func69, by kernel_rfl, by kernel_rfl⟩

theorem fn_71_YOps1 : IsFn Try.prog 71 := ⟨_, Try.func71, by kernel_rfl, by kernel_rfl⟩

theorem fn_72_YOps1 : IsFn Try.prog 72 := ⟨_, Try.func72, by kernel_rfl, by kernel_rfl⟩

theorem E_31_YOps1 : Elem Try.prog 31 84 3 40 := ⟨Try.underlying31, by
 have h : (Try.prog.info? 84).map (fun i => (i.zero, i.size, i.bytes)) = some (some (.agg #[.string ByteArray.empty, .string ByteArray.empty, .bool false]), 3, 40) := by kernel_rfl
 obtain ⟨i, hi, h1⟩ := Option.map_eq_some_iff.1 h
 simp only [Prod.mk.injEq] at h1
 exact ⟨i, _, hi, h1.1, h1.2.1, h1.2.2, by rfl⟩, by decide⟩

theorem neq_EOp (x y : EOp) (w : World) : (binOp .neq 84 (.agg (cEOp x).toArray) (.agg (cEOp y).toArray)).run Try.prog w = .ok (.bool (!eqEOp x y)) w := by
 have h1 := run_equalIn_struct (P := Try.prog) w 9999 84 (cEOp x).toArray (cEOp y).toArray (by rw [fieldsOf_of Try.underlying84]; exact Try.underlying84) (by kernel_rfl)
 rw [run_neq_struct, h1, fieldsOf_of Try.underlying84]
 simp [Op.eqFields, part, isAgg, cEOp, beqS, eqEOp, seqB_eq, run_underlying Try.underlying9, run_equalIn_string w 9998 9 _ _ Try.underlying9, run_underlying Try.underlying4, run_equalIn_bool' w 9998 4 _ _ Try.underlying4]
 try ((repeat' split) <;> simp_all)

theorem eqg_EOp (op : BinOp) (x y : Operand) (a b : Array Value) (w : World) : (eqGuard op 84 x y (.agg a) (.agg b)).run Try.prog w = .ok () w := run_eqGuard_agg (by kernel_rfl) op x y a b w

def F_ref06_Of_l1 (n0 : Int × Eref02_Reader) (n0_2 : Int × Eref02_Reader) (n0_3 : Int × Eref02_Reader) (rc : (Int × ByteArray × Int × Int × (List EOp)) → Option (EBatch × Int)) (sg : Int × ByteArray × Int × Int × (List EOp)) : Option (EBatch × Int) := match sg with | (i, r_s, r_at_, r_e, b_ops) => if (decide (i < n0_3.1)) = true then ((F_ref02_Reader_Text ({ s := r_s, at_ := r_at_, e := r_e } : Eref02_Reader) 8).bind fun t => ((F_ref02_Reader_Flag t.2).bind fun f => ((F_ref02_Reader_Text f.2 8).bind fun t_2 => (chk (((b_ops.length + [({ key := t.1, val := t_2.1, del := f.1 } : EOp)].length : Nat) : Int) * 40 ≤ 140737488355328) (chk (inI (i + 1)) (rc (i + 1, t_2.2.s, t_2.2.at_, t_2.2.e, b_ops ++ [({ key := t.1, val := t_2.1, del := f.1 } : EOp)]))))))) else ((F_ref02_Reader_End ({ s := r_s, at_ := r_at_, e := r_e } : Eref02_Reader)).bind fun e => (if (e != 0) = true then (some ((default : EBatch), e)) else ((F_ref06_Check ({ client := n0.1, req := n0_2.1, ops := b_ops } : EBatch)).bind fun c => (if (c != 0) = true then (some ((default : EBatch), c)) else (some (({ client := n0.1, req := n0_2.1, ops := b_ops } : EBatch), 0))))))

def F_ref06_Of (s0 : ByteArray) : Option (EBatch × Int) := (F_ref02_Reader_Num ({ (default : Eref02_Reader) with s := s0 } : Eref02_Reader) 2).bind fun n0 => ((F_ref02_Reader_Num n0.2 1073741824).bind fun n0_2 => ((F_ref02_Reader_Num n0_2.2 4).bind fun n0_3 => (iter (F_ref06_Of_l1 n0 n0_2 n0_3) FU (0, n0_3.2.s, n0_3.2.at_, n0_3.2.e, ([] : List EOp)))))

set_option maxHeartbeats 1000000 in
theorem c_ref06_Of {I D : Dm} {s0 : ByteArray} {w : World} {rr : EBatch × Int} (hF : F_ref06_Of s0 = some rr) (H : St I D w []) :
  Calls Try.prog 48 #[.string s0] w (Ret fun vv w' => ∃ q1 : Value, vv = .tuple #[.agg #[.int .i64 rr.1.client, .int .i64 rr.1.req, q1], .int .i64 rr.2] ∧ ∃ I', Hf I D w I' w' [SlC NEOp q1 rr.1.ops]) := by
 replace H := H.hf
 unfold F_ref06_Of at hF
 refine f_enter 57 Try.func48 rfl rfl (Nat.le_of_ble_eq_true rfl) fun a Z => ?_
 replace Z := Z.sub (ts := [0]) rfl
 refine wp_seq (f_region Z ?_); clear Z; intro Z
 refine h_alloc Z H (cl := [.int .i64 0, .int .i64 0, .slice none 0 0]) (z := .agg #[.int .i64 0, .int .i64 0, .slice none 0 0]) rfl rfl rfl (by decide) rfl (by kernel_rfl) rfl ?_; clear Z a H; intro a w1 b1 H Z
 refine s_runk tOps1 Z 1 rfl rfl ?_; clear Z a; intro a Z
 refine s_end Z [0, 2, 3] rfl ?_; clear Z; intro Z
 refine p_then (wp_seq (f_region Z ?_)); clear Z; intro Z
 refine s_runk tOps1 Z 1 rfl rfl ?_; clear Z a; intro a Z
 refine s_ob Z (v := .agg #[.string s0, .int .i64 0, .int .i64 0]) rfl rfl (by decide) rfl (Ob_build (vs := [(0, .string s0)]) rfl rfl (by go_simp <;> rfl)) ?_; clear Z a; intro a Z
 refine h_boxv Z H (cl := [.string s0, .int .i64 0, .int .i64 0]) rfl rfl rfl (by decide) rfl rfl rfl ?_; clear Z a H; intro a w2 b2 H Z
 refine s_runk tOps1 Z 1 rfl rfl ?_; clear Z a; intro a Z
 refine s_end Z [2, 3, 4] rfl ?_; clear Z; intro Z
 refine p_then (wp_seq (f_region Z ?_)); clear Z; intro Z
 refine s_ob Z (v := .agg #[.int .i64 0, .int .i64 0, .slice none 0 0]) rfl rfl (by decide) rfl (Ob_build (vs := []) rfl rfl (by go_simp <;> rfl)) ?_; clear Z a; intro a Z
 refine h_alloc Z H (cl := [.int .i64 0, .int .i64 0, .slice none 0 0]) (z := .agg #[.int .i64 0, .int .i64 0, .slice none 0 0]) rfl rfl rfl (by decide) rfl (by kernel_rfl) rfl ?_; clear Z a H; intro a w3 b3 H Z
 refine h_store tOps1 Z H 0 rfl rfl rfl rfl rfl rfl rfl rfl rfl (one_cons rfl (one_cons rfl (one_cons (slS.one slS.nil) one_nil))) (Nat.le_of_ble_eq_true rfl) rfl ?_; clear H; intro w4 H
 dsimp only [List.eraseIdx] at H
 refine s_end Z [2, 3, 4, 5] rfl ?_; clear Z; intro Z
 refine p_then (wp_seq ?_)
 obtain ⟨n0, hx1, hF⟩ := bnd_in hF
 refine f_region Z ?_; clear Z; intro Z
 refine s_runk tOps1 Z 1 rfl rfl ?_; clear Z a; intro a Z
 refine h_call Z H (js := [(1, false)]) rfl (caps := #[]) fn_71_YOps1 rfl rfl rfl rfl rfl (by decide) rfl rfl (fun D1 hS => have hq := c_ref02_Reader_Num hx1 hS; hq) ?_; clear Z a; intro vv a w5 D2 hr hF2 Z
 obtain ⟨rfl, I1, K⟩ := hr
 have H : Hf I D w I1 w5 [BxC b2 78 [.string n0.2.s, .int .i64 n0.2.at_, .int .i64 n0.2.e], BxC b3 33 [.int .i64 0, .int .i64 0, .slice none 0 0], BxC b1 33 [.int .i64 0, .int .i64 0, .slice none 0 0]] := hF2 K
 clear hF2 K
 refine s_runk tOps1 Z 1 rfl rfl ?_; clear Z a; intro a Z
 refine h_store tOps1 Z H 1 rfl rfl rfl rfl rfl rfl rfl rfl rfl (one_cons rfl one_nil) (Nat.le_of_ble_eq_true rfl) rfl ?_; clear H; intro w6 H
 dsimp only [List.eraseIdx] at H
 refine s_end Z [2, 3, 4, 5] rfl ?_; clear Z; intro Z
 refine p_then (wp_seq ?_)
 obtain ⟨n0_2, hx2, hF⟩ := bnd_in hF
 refine f_region Z ?_; clear Z; intro Z
 refine s_runk tOps1 Z 1 rfl rfl ?_; clear Z a; intro a Z
 refine h_call Z H (js := [(1, false)]) rfl (caps := #[]) fn_71_YOps1 rfl rfl rfl rfl rfl (by decide) rfl rfl (fun D1 hS => have hq := c_ref02_Reader_Num hx2 hS; hq) ?_; clear Z a; intro vv a w7 D2 hr hF2 Z
 obtain ⟨rfl, I2, K⟩ := hr
 have H : Hf I D w I2 w7 [BxC b2 78 (cEref02_Reader n0_2.2), BxC b3 33 [.int .i64 n0.1, .int .i64 0, .slice none 0 0], BxC b1 33 [.int .i64 0, .int .i64 0, .slice none 0 0]] := hF2 K
 clear hF2 K
 refine s_runk tOps1 Z 1 rfl rfl ?_; clear Z a; intro a Z
 refine h_store tOps1 Z H 1 rfl rfl rfl rfl rfl rfl rfl rfl rfl (one_cons rfl one_nil) (Nat.le_of_ble_eq_true rfl) rfl ?_; clear H; intro w8 H
 dsimp only [List.eraseIdx] at H
 refine s_end Z [2, 3, 4, 5] rfl ?_; clear Z; intro Z
 refine p_then (wp_seq ?_)
 obtain ⟨n0_3, hx3, hF⟩ := bnd_in hF
 refine f_region Z ?_; clear Z; intro Z
 refine s_runk tOps1 Z 1 rfl rfl ?_; clear Z a; intro a Z
 refine h_call Z H (js := [(1, false)]) rfl (caps := #[]) fn_71_YOps1 rfl rfl rfl rfl rfl (by decide) rfl rfl (fun D1 hS => have hq := c_ref02_Reader_Num hx3 hS; hq) ?_; clear Z a; intro vv a w9 D2 hr hF2 Z
 obtain ⟨rfl, I3, K⟩ := hr
 have H : Hf I D w I3 w9 [BxC b2 78 (cEref02_Reader n0_3.2), BxC b3 33 [.int .i64 n0.1, .int .i64 n0_2.1, .slice none 0 0], BxC b1 33 [.int .i64 0, .int .i64 0, .slice none 0 0]] := hF2 K
 clear hF2 K
 refine s_runk tOps1 Z 1 rfl rfl ?_; clear Z a; intro a Z
 refine s_end Z [2, 3, 4, 5, 6] rfl ?_; clear Z; intro Z
 refine p_then (wp_seq ?_)
 refine wp_seq (f_region Z ?_); clear Z; intro Z
 refine s_runk tOps1 Z 1 rfl rfl ?_; clear Z a; intro a Z
 refine s_end Z [2, 3, 4, 5, 6, 7] rfl ?_; clear Z; intro Z
 refine p_then (wp_block ?_)
 replace H : Hf I D w I3 w9 [OwC NEOp 84 (.slice none 0 0) ([] : List EOp), BxC b2 78 (cEref02_Reader n0_3.2), BxC b3 33 [.int .i64 n0.1, .int .i64 n0_2.1, .slice none 0 0], BxC b1 33 [.int .i64 0, .int .i64 0, .slice none 0 0]] := H.nilow NEOp 84
 refine f_iter hF (fun sg a' w' => match sg with | (i, r_s, r_at_, r_e, b_ops) => ∃ v1 : Value, Sl 57 [(2, .pointer (some ⟨b1, 0, none⟩)), (3, .int .i64 0), (4, .pointer (some ⟨b2, 0, none⟩)), (5, .pointer (some ⟨b3, 0, none⟩)), (6, .int .i64 n0_3.1), (7, .int .i64 i)] a' ∧ ∃ I2, Hf I D w I2 w' [BxC b1 33 [.int .i64 0, .int .i64 0, .slice none 0 0], BxC b2 78 [.string r_s, .int .i64 r_at_, .int .i64 r_e], BxC b3 33 [.int .i64 n0.1, .int .i64 n0_2.1, v1], OwC NEOp 84 v1 b_ops]) ⟨.slice none 0 0, Z.sub (ts := [2, 3, 4, 5, 6, 7]) rfl, ⟨I3, (H.sub [(3, false), (1, false), (1, false), (0, false)] rfl).eq rfl⟩⟩ ?_
 clear Z H hF a
 rintro rc ⟨i, r_s, r_at_, r_e, b_ops⟩ a w10 ⟨v1, Z, I4, H⟩ hF
 unfold F_ref06_Of_l1 at hF
 try dsimp only at hF
 refine wp_seq ?_
 refine wp_seq (f_region Z ?_); clear Z; intro Z
 refine s_runk tOps1 Z 3 rfl rfl ?_; clear Z a; intro a Z
 refine s_end Z [2, 3, 4, 5, 6, 7, 23, 24, 25] rfl ?_; clear Z; intro Z
 refine p_then ?_
 refine f_cond Z rfl (fun hc1 => ?_) (fun hc1 => ?_)
 ·replace hF := ite_t hc1 hF
  refine wp_skip ?_
  refine p_then (wp_seq ?_)
  refine wp_block ?_
  refine wp_seq (f_region Z ?_); clear Z; intro Z
  refine s_ob Z (v := .agg #[.string ByteArray.empty, .string ByteArray.empty, .bool false]) rfl rfl (by decide) rfl (Ob_build (vs := []) rfl rfl (by go_simp <;> rfl)) ?_; clear Z a; intro a Z
  refine h_alloc Z H (cl := [.string ByteArray.empty, .string ByteArray.empty, .bool false]) (z := .agg #[.string ByteArray.empty, .string ByteArray.empty, .bool false]) rfl rfl rfl (by decide) rfl (by kernel_rfl) rfl ?_; clear Z a H; intro a w11 b4 H Z
  refine h_store tOps1 Z H 0 rfl rfl rfl rfl rfl rfl rfl rfl rfl (one_cons rfl (one_cons rfl (one_cons rfl one_nil))) (Nat.le_of_ble_eq_true rfl) rfl ?_; clear H; intro w12 H
  dsimp only [List.eraseIdx] at H
  refine s_end Z [2, 3, 4, 5, 6, 7, 23, 24, 25, 28, 8] rfl ?_; clear Z; intro Z
  refine p_then (wp_seq ?_)
  obtain ⟨t, hx4, hF⟩ := bnd_in hF
  refine f_region Z ?_; clear Z; intro Z
  refine s_runk tOps1 Z 1 rfl rfl ?_; clear Z a; intro a Z
  refine h_call Z H (js := [(2, false)]) rfl (caps := #[]) fn_46_YOps1 rfl rfl rfl rfl rfl (by decide) rfl rfl (fun D1 hS => have hq := c_ref02_Reader_Text hx4 hS; hq) ?_; clear Z a; intro vv a w13 D2 hr hF2 Z
  obtain ⟨rfl, I5, K⟩ := hr
  have H : Hf I D w I5 w13 [BxC b2 78 [.string t.2.s, .int .i64 t.2.at_, .int .i64 t.2.e], BxC b4 84 [.string ByteArray.empty, .string ByteArray.empty, .bool false], BxC b1 33 [.int .i64 0, .int .i64 0, .slice none 0 0], BxC b3 33 [.int .i64 n0.1, .int .i64 n0_2.1, v1], OwC NEOp 84 v1 b_ops] := hF2 K
  clear hF2 K
  refine s_runk tOps1 Z 1 rfl rfl ?_; clear Z a; intro a Z
  refine h_store tOps1 Z H 1 rfl rfl rfl rfl rfl rfl rfl rfl rfl (one_cons rfl one_nil) (Nat.le_of_ble_eq_true rfl) rfl ?_; clear H; intro w14 H
  dsimp only [List.eraseIdx] at H
  refine s_end Z [2, 3, 4, 5, 6, 7, 23, 24, 25, 28, 8, 29, 30, 31] rfl ?_; clear Z; intro Z
  refine p_then (wp_seq ?_)
  obtain ⟨f, hx5, hF⟩ := bnd_in hF
  refine f_region Z ?_; clear Z; intro Z
  refine s_runk tOps1 Z 1 rfl rfl ?_; clear Z a; intro a Z
  refine h_call Z H (js := [(1, false)]) rfl (caps := #[]) fn_72_YOps1 rfl rfl rfl rfl rfl (by decide) rfl rfl (fun D1 hS => have hq := c_ref02_Reader_Flag hx5 hS; hq) ?_; clear Z a; intro vv a w15 D2 hr hF2 Z
  obtain ⟨rfl, I6, K⟩ := hr
  have H : Hf I D w I6 w15 [BxC b2 78 [.string f.2.s, .int .i64 f.2.at_, .int .i64 f.2.e], BxC b4 84 [.string t.1, .string ByteArray.empty, .bool false], BxC b1 33 [.int .i64 0, .int .i64 0, .slice none 0 0], BxC b3 33 [.int .i64 n0.1, .int .i64 n0_2.1, v1], OwC NEOp 84 v1 b_ops] := hF2 K
  clear hF2 K
  refine s_runk tOps1 Z 1 rfl rfl ?_; clear Z a; intro a Z
  refine h_store tOps1 Z H 1 rfl rfl rfl rfl rfl rfl rfl rfl rfl (one_cons rfl one_nil) (Nat.le_of_ble_eq_true rfl) rfl ?_; clear H; intro w16 H
  dsimp only [List.eraseIdx] at H
  refine s_end Z [2, 3, 4, 5, 6, 7, 23, 24, 25, 28, 8, 29, 30, 31, 32, 33, 34] rfl ?_; clear Z; intro Z
  refine p_then (wp_seq ?_)
  obtain ⟨t_2, hx6, hF⟩ := bnd_in hF
  refine f_region Z ?_; clear Z; intro Z
  refine s_runk tOps1 Z 1 rfl rfl ?_; clear Z a; intro a Z
  refine h_call Z H (js := [(1, false)]) rfl (caps := #[]) fn_46_YOps1 rfl rfl rfl rfl rfl (by decide) rfl rfl (fun D1 hS => have hq := c_ref02_Reader_Text hx6 hS; hq) ?_; clear Z a; intro vv a w17 D2 hr hF2 Z
  obtain ⟨rfl, I7, K⟩ := hr
  have H : Hf I D w I7 w17 [BxC b2 78 [.string t_2.2.s, .int .i64 t_2.2.at_, .int .i64 t_2.2.e], BxC b4 84 [.string t.1, .string ByteArray.empty, .bool f.1], BxC b1 33 [.int .i64 0, .int .i64 0, .slice none 0 0], BxC b3 33 [.int .i64 n0.1, .int .i64 n0_2.1, v1], OwC NEOp 84 v1 b_ops] := hF2 K
  clear hF2 K
  refine s_runk tOps1 Z 1 rfl rfl ?_; clear Z a; intro a Z
  refine h_store tOps1 Z H 1 rfl rfl rfl rfl rfl rfl rfl rfl rfl (one_cons rfl one_nil) (Nat.le_of_ble_eq_true rfl) rfl ?_; clear H; intro w18 H
  dsimp only [List.eraseIdx] at H
  refine s_end Z [2, 3, 4, 5, 6, 7, 23, 24, 25, 28, 8, 29, 30, 31, 32, 33, 34, 35, 36, 37] rfl ?_; clear Z; intro Z
  refine p_then ?_
  obtain ⟨hg1, hF⟩ := chk_in hF
  refine f_region Z ?_; clear Z; intro Z
  refine s_runk tOps1 Z 1 rfl rfl ?_; clear Z a; intro a Z
  refine s_ob Z (v := v1) rfl rfl (by decide) rfl (Ob_load tOps1 rfl rfl rfl ((H.bx 3 rfl).cell 2 rfl)) ?_; clear Z a; intro a Z
  refine s_ob Z (v := .agg #[.string t.1, .string t_2.1, .bool f.1]) rfl rfl (by decide) rfl (Ob_loads tOps1 rfl rfl rfl ((H.bx 0 rfl).part 0 rfl)) ?_; clear Z a; intro a Z
  refine h_bslice Z H (vs := [(0, .agg #[.string t.1, .string t_2.1, .bool f.1])]) (cl := [.string t.1, .string t_2.1, .bool f.1]) (e := 84) rfl rfl rfl (by decide) rfl rfl (fun w => run_bslice (z := .agg #[.string ByteArray.empty, .string ByteArray.empty, .bool false]) (m := 3) Try.underlying31 (by kernel_rfl) rfl rfl (by decide) (by simp [Instr.fill, Value.cells]) w) ?_; clear Z a H; intro a w19 b5 H Z
  refine h_appO Z H 5 E_31_YOps1 [({ key := t.1, val := t_2.1, del := f.1 } : EOp)] rfl rfl rfl rfl rfl (by decide) rfl rfl rfl (slRep2.box1 (H.bx 0 rfl) ⟨rfl, trivial⟩) hg1 (by decide) ?_; clear Z a H; intro v2 a w20 H Z
  dsimp only [List.eraseIdx] at H
  replace H : Hf I D w I7 w20 [OwC NEOp 84 v2 (b_ops ++ [({ key := t.1, val := t_2.1, del := f.1 } : EOp)]), BxC b4 84 [.string t.1, .string t_2.1, .bool f.1], BxC b2 78 [.string t_2.2.s, .int .i64 t_2.2.at_, .int .i64 t_2.2.e], BxC b1 33 [.int .i64 0, .int .i64 0, .slice none 0 0], BxC b3 33 [.int .i64 n0.1, .int .i64 n0_2.1, v1]] := H.sub [(0, false), (1, false), (1, false), (1, false), (1, false)] rfl
  refine s_runk tOps1 Z 1 rfl rfl ?_; clear Z a; intro a Z
  refine h_store tOps1 Z H 4 rfl rfl rfl rfl rfl rfl (slS.cells (H.owshape 0 rfl)) rfl rfl (one_cons (slS.one (H.owshape 0 rfl)) one_nil) (Nat.le_of_ble_eq_true rfl) rfl ?_; clear H; intro w21 H
  dsimp only [List.eraseIdx] at H
  refine s_end Z [2, 3, 4, 5, 6, 7, 23, 24, 25, 28, 8, 29, 30, 31, 32, 33, 34, 35, 36, 37, 38, 39, 40, 41, 42, 43] rfl ?_; clear Z; intro Z
  refine p_blk ?_
  refine p_then ?_
  obtain ⟨hg2, hF⟩ := chk_in hF
  refine f_region Z ?_; clear Z; intro Z
  refine s_runk tOps1 Z 1 rfl rfl ?_; clear Z a; intro a Z
  refine s_ob Z (v := .int .i64 (i + 1)) rfl rfl (by decide) rfl (Ob_add rfl rfl rfl (wrI hg2)) ?_; clear Z a; intro a Z
  refine s_runk tOps1 Z 1 rfl rfl ?_; clear Z a; intro a Z
  refine s_end Z [2, 3, 4, 5, 6, 7, 23, 24, 25, 28, 8, 29, 30, 31, 32, 33, 34, 35, 36, 37, 38, 39, 40, 41, 42, 43, 26, 27] rfl ?_; clear Z; intro Z
  refine p_then ?_
  exact ⟨(i + 1, t_2.2.s, t_2.2.at_, t_2.2.e, b_ops ++ [({ key := t.1, val := t_2.1, del := f.1 } : EOp)]), ⟨v2, Z.sub (ts := [2, 3, 4, 5, 6, 7]) rfl, ⟨I7, (H.sub [(4, false), (3, false), (0, false), (0, false)] rfl).eq rfl⟩⟩, hF⟩
 ·replace hF := ite_f hc1 hF
  refine wp_exit ?_
  refine p_then_x ?_
  refine p_then_x ?_
  refine f_exit_here ?_
  refine p_then (wp_seq ?_)
  refine wp_seq ?_
  obtain ⟨e, hx7, hF⟩ := bnd_in hF
  refine f_region Z ?_; clear Z; intro Z
  refine s_runk tOps1 Z 1 rfl rfl ?_; clear Z a; intro a Z
  refine h_call Z H (js := [(1, false)]) rfl (caps := #[]) fn_47_YOps1 rfl rfl rfl rfl rfl (by decide) rfl rfl (fun D1 hS => have hq := c_ref02_Reader_End hx7 hS; hq) ?_; clear Z a; intro vv a w22 D2 hr hF2 Z
  obtain ⟨rfl, I8, K⟩ := hr
  have H : Hf I D w I8 w22 [BxC b2 78 [.string r_s, .int .i64 r_at_, .int .i64 r_e], BxC b1 33 [.int .i64 0, .int .i64 0, .slice none 0 0], BxC b3 33 [.int .i64 n0.1, .int .i64 n0_2.1, v1], OwC NEOp 84 v1 b_ops] := hF2 K
  clear hF2 K
  refine s_runk tOps1 Z 1 rfl rfl ?_; clear Z a; intro a Z
  refine s_end Z [2, 3, 5, 9] rfl ?_; clear Z; intro Z
  refine p_then (wp_seq (f_region Z ?_)); clear Z; intro Z
  refine s_runk tOps1 Z 2 rfl rfl ?_; clear Z a; intro a Z
  refine s_end Z [2, 3, 5, 9, 47] rfl ?_; clear Z; intro Z
  refine p_then ?_
  refine f_cond Z rfl (fun hc2 => ?_) (fun hc2 => ?_)
  ·replace hF := ite_t hc2 hF
   refine wp_seq (f_region Z ?_); clear Z; intro Z
   refine s_ob Z (v := .agg #[.int .i64 0, .int .i64 0, .slice none 0 0]) rfl rfl (by decide) rfl (Ob_build (vs := []) rfl rfl (by go_simp <;> rfl)) ?_; clear Z a; intro a Z
   refine s_runk tOps1 Z 1 rfl rfl ?_; clear Z a; intro a Z
   refine h_store tOps1 Z H 1 rfl rfl rfl rfl rfl rfl rfl rfl rfl (one_cons rfl (one_cons rfl (one_cons (slS.one slS.nil) one_nil))) (Nat.le_of_ble_eq_true rfl) rfl ?_; clear H; intro w23 H
   dsimp only [List.eraseIdx] at H
   refine s_runk tOps1 Z 1 rfl rfl ?_; clear Z a; intro a Z
   refine s_end Z [2, 3, 5] rfl ?_; clear Z; intro Z
   refine p_then (wp_ret ?_)
   refine p_then_r ?_
   replace H : Hf I D w I8 w23 [SlC NEOp (.slice none 0 0) ([] : List EOp), BxC b1 33 [.int .i64 0, .int .i64 0, .slice none 0 0], BxC b2 78 [.string r_s, .int .i64 r_at_, .int .i64 r_e], BxC b3 33 [.int .i64 n0.1, .int .i64 n0_2.1, v1], OwC NEOp 84 v1 b_ops] := H.slNil NEOp
   obtain rfl := some_in hF
   exact f_ret Z (run_resultsCT rfl Z rfl (run_loadVar_agg tOps1 rfl (H.bx 1 rfl).at) rfl) ⟨.slice none 0 0, rfl, I8, (H.sub [(0, true)] rfl).eq rfl⟩
  ·replace hF := ite_f hc2 hF
   refine wp_skip ?_
   refine p_then (wp_seq ?_)
   refine wp_seq ?_
   obtain ⟨c, hx8, hF⟩ := bnd_in hF
   refine f_region Z ?_; clear Z; intro Z
   refine s_ob Z (v := .agg #[.int .i64 n0.1, .int .i64 n0_2.1, v1]) rfl rfl (by decide) rfl (Ob_loads tOps1 rfl rfl rfl ((H.bx 2 rfl).part 0 rfl)) ?_; clear Z a; intro a Z
   obtain ⟨I9, _, H⟩ := H.frzow 3 rfl
   replace H : Hf I D w I9 w22 [SlC NEOp v1 b_ops, BxC b2 78 [.string r_s, .int .i64 r_at_, .int .i64 r_e], BxC b1 33 [.int .i64 0, .int .i64 0, .slice none 0 0], BxC b3 33 [.int .i64 n0.1, .int .i64 n0_2.1, v1]] := H
   refine h_call Z H (js := [(0, true)]) rfl (caps := #[]) fn_37_YOps1 rfl rfl rfl rfl rfl (by decide) rfl rfl (fun D1 hS => have hq := c_ref06_Check hx8 hS; hq) ?_; clear Z a; intro vv a w24 D2 hr hF2 Z
   obtain ⟨rfl, I10, K⟩ := hr
   have H : Hf I D w I10 w24 [SlC NEOp v1 b_ops, BxC b2 78 [.string r_s, .int .i64 r_at_, .int .i64 r_e], BxC b1 33 [.int .i64 0, .int .i64 0, .slice none 0 0], BxC b3 33 [.int .i64 n0.1, .int .i64 n0_2.1, v1]] := hF2 K
   clear hF2 K
   refine s_runk tOps1 Z 1 rfl rfl ?_; clear Z a; intro a Z
   refine s_end Z [2, 3, 5, 10] rfl ?_; clear Z; intro Z
   refine p_then (wp_seq (f_region Z ?_)); clear Z; intro Z
   refine s_runk tOps1 Z 2 rfl rfl ?_; clear Z a; intro a Z
   refine s_end Z [2, 3, 5, 10, 53] rfl ?_; clear Z; intro Z
   refine p_then ?_
   refine f_cond Z rfl (fun hc3 => ?_) (fun hc3 => ?_)
   ·replace hF := ite_t hc3 hF
    refine wp_seq (f_region Z ?_); clear Z; intro Z
    refine s_ob Z (v := .agg #[.int .i64 0, .int .i64 0, .slice none 0 0]) rfl rfl (by decide) rfl (Ob_build (vs := []) rfl rfl (by go_simp <;> rfl)) ?_; clear Z a; intro a Z
    refine s_runk tOps1 Z 1 rfl rfl ?_; clear Z a; intro a Z
    refine h_store tOps1 Z H 2 rfl rfl rfl rfl rfl rfl rfl rfl rfl (one_cons rfl (one_cons rfl (one_cons (slS.one slS.nil) one_nil))) (Nat.le_of_ble_eq_true rfl) rfl ?_; clear H; intro w25 H
    dsimp only [List.eraseIdx] at H
    refine s_runk tOps1 Z 1 rfl rfl ?_; clear Z a; intro a Z
    refine s_end Z [2, 3, 5] rfl ?_; clear Z; intro Z
    refine p_then (wp_ret ?_)
    refine p_then_r ?_
    replace H : Hf I D w I10 w25 [SlC NEOp (.slice none 0 0) ([] : List EOp), BxC b1 33 [.int .i64 0, .int .i64 0, .slice none 0 0], SlC NEOp v1 b_ops, BxC b2 78 [.string r_s, .int .i64 r_at_, .int .i64 r_e], BxC b3 33 [.int .i64 n0.1, .int .i64 n0_2.1, v1]] := H.slNil NEOp
    obtain rfl := some_in hF
    exact f_ret Z (run_resultsCT rfl Z rfl (run_loadVar_agg tOps1 rfl (H.bx 1 rfl).at) rfl) ⟨.slice none 0 0, rfl, I10, (H.sub [(0, true)] rfl).eq rfl⟩
   ·replace hF := ite_f hc3 hF
    refine wp_skip ?_
    refine p_then (wp_seq (f_region Z ?_)); clear Z; intro Z
    refine s_ob Z (v := .agg #[.int .i64 n0.1, .int .i64 n0_2.1, v1]) rfl rfl (by decide) rfl (Ob_loads tOps1 rfl rfl rfl ((H.bx 3 rfl).part 0 rfl)) ?_; clear Z a; intro a Z
    refine h_store tOps1 Z H 2 rfl rfl rfl rfl rfl rfl rfl rfl rfl (one_cons rfl (one_cons rfl (one_cons (slS.one (H.slshape 0 rfl)) one_nil))) (Nat.le_of_ble_eq_true rfl) rfl ?_; clear H; intro w26 H
    dsimp only [List.eraseIdx] at H
    refine s_runk tOps1 Z 1 rfl rfl ?_; clear Z a; intro a Z
    refine s_end Z [2, 3] rfl ?_; clear Z; intro Z
    refine p_then (wp_ret ?_)
    obtain rfl := some_in hF
    exact f_ret Z (run_resultsCT rfl Z rfl (run_loadVar_agg tOps1 rfl (H.bx 0 rfl).at) rfl) ⟨v1, rfl, I10, (H.sub [(1, true)] rfl).eq rfl⟩

def F_ops_Of_l1 (n0 : Int × Ewire_Reader) (n0_2 : Int × Ewire_Reader) (n0_3 : Int × Ewire_Reader) (rc : (Int × ByteArray × Int × Int × Bool × (List EOp)) → Option (EBatch × Int)) (sg : Int × ByteArray × Int × Int × Bool × (List EOp)) : Option (EBatch × Int) := match sg with | (x, r_s, r_at_, r_e, r_made, b_ops) => if (decide (x < n0_3.1)) = true then ((F_wire_Reader_Text ({ s := r_s, at_ := r_at_, e := r_e, made := r_made } : Ewire_Reader) 8).bind fun t => ((F_wire_Reader_Flag t.2).bind fun f => ((F_wire_Reader_Text f.2 8).bind fun t_2 => (chk (((b_ops.length + [({ key := t.1, val := t_2.1, del := f.1 } : EOp)].length : Nat) : Int) * 40 ≤ 140737488355328) (chk (inI (x + 1)) (rc (x + 1, t_2.2.s, t_2.2.at_, t_2.2.e, t_2.2.made, b_ops ++ [({ key := t.1, val := t_2.1, del := f.1 } : EOp)]))))))) else ((F_wire_Reader_End ({ s := r_s, at_ := r_at_, e := r_e, made := r_made } : Ewire_Reader)).bind fun e => (if (e != 0) = true then (some ((default : EBatch), e)) else ((F_ops_Check ({ client := n0.1, req := n0_2.1, ops := b_ops } : EBatch)).bind fun c => (if (c != 0) = true then (some ((default : EBatch), c)) else (some (({ client := n0.1, req := n0_2.1, ops := b_ops } : EBatch), 0))))))

def F_ops_Of (s0 : ByteArray) : Option (EBatch × Int) := (F_wire_Open s0).bind fun o => ((F_wire_Reader_Num o 2).bind fun n0 => ((F_wire_Reader_Num n0.2 1073741824).bind fun n0_2 => ((F_wire_Reader_Num n0_2.2 4).bind fun n0_3 => (iter (F_ops_Of_l1 n0 n0_2 n0_3) FU (0, n0_3.2.s, n0_3.2.at_, n0_3.2.e, n0_3.2.made, ([] : List EOp))))))

set_option maxHeartbeats 1000000 in
theorem c_ops_Of {I D : Dm} {s0 : ByteArray} {w : World} {rr : EBatch × Int} (hF : F_ops_Of s0 = some rr) (H : St I D w []) :
  Calls Try.prog 44 #[.string s0] w (Ret fun vv w' => ∃ q1 : Value, vv = .tuple #[.agg #[.int .i64 rr.1.client, .int .i64 rr.1.req, q1], .int .i64 rr.2] ∧ ∃ I', Hf I D w I' w' [SlC NEOp q1 rr.1.ops]) := by
 replace H := H.hf
 unfold F_ops_Of at hF
 refine f_enter 50 Try.func44 rfl rfl (Nat.le_of_ble_eq_true rfl) fun a Z => ?_
 replace Z := Z.sub (ts := [0]) rfl
 refine wp_seq (f_region Z ?_); clear Z; intro Z
 refine h_alloc Z H (cl := [.int .i64 0, .int .i64 0, .slice none 0 0]) (z := .agg #[.int .i64 0, .int .i64 0, .slice none 0 0]) rfl rfl rfl (by decide) rfl (by kernel_rfl) rfl ?_; clear Z a H; intro a w1 b1 H Z
 refine s_runk tOps1 Z 1 rfl rfl ?_; clear Z a; intro a Z
 refine s_end Z [0, 2, 3] rfl ?_; clear Z; intro Z
 refine p_then (wp_seq ?_)
 obtain ⟨o, hx1, hF⟩ := bnd_in hF
 refine f_region Z ?_; clear Z; intro Z
 refine s_runk tOps1 Z 1 rfl rfl ?_; clear Z a; intro a Z
 refine h_call Z H (js := []) rfl (caps := #[]) fn_40_YOps1 rfl rfl rfl rfl rfl (by decide) rfl rfl (fun D1 hS => have hq := c_wire_Open hx1 hS; hq) ?_; clear Z a; intro vv a w2 D2 hr hF2 Z
 obtain ⟨g1, rfl, I1, K⟩ := hr
 have H : Hf I D w I1 w2 [BxC g1 100 [.string o.s, .int .i64 o.at_, .int .i64 o.e, .bool o.made], BxC b1 33 [.int .i64 0, .int .i64 0, .slice none 0 0]] := hF2 K
 clear hF2 K
 refine s_runk tOps1 Z 1 rfl rfl ?_; clear Z a; intro a Z
 refine s_end Z [2, 3, 4] rfl ?_; clear Z; intro Z
 refine p_then (wp_seq ?_)
 obtain ⟨n0, hx2, hF⟩ := bnd_in hF
 refine f_region Z ?_; clear Z; intro Z
 refine s_runk tOps1 Z 1 rfl rfl ?_; clear Z a; intro a Z
 refine h_call Z H (js := [(0, false)]) rfl (caps := #[]) fn_68_YOps1 rfl rfl rfl rfl rfl (by decide) rfl rfl (fun D1 hS => have hq := c_wire_Reader_Num hx2 hS; hq) ?_; clear Z a; intro vv a w3 D2 hr hF2 Z
 obtain ⟨rfl, I2, K⟩ := hr
 have H : Hf I D w I2 w3 [BxC g1 100 (cEwire_Reader n0.2), BxC b1 33 [.int .i64 0, .int .i64 0, .slice none 0 0]] := hF2 K
 clear hF2 K
 refine s_ob Z (v := .agg #[.int .i64 n0.1, .int .i64 0, .slice none 0 0]) rfl rfl (by decide) rfl (Ob_build (vs := [(0, .int .i64 n0.1)]) rfl rfl (by go_simp <;> rfl)) ?_; clear Z a; intro a Z
 refine h_alloc Z H (cl := [.int .i64 0, .int .i64 0, .slice none 0 0]) (z := .agg #[.int .i64 0, .int .i64 0, .slice none 0 0]) rfl rfl rfl (by decide) rfl (by kernel_rfl) rfl ?_; clear Z a H; intro a w4 b2 H Z
 refine h_store tOps1 Z H 0 rfl rfl rfl rfl rfl rfl rfl rfl rfl (one_cons rfl (one_cons rfl (one_cons (slS.one slS.nil) one_nil))) (Nat.le_of_ble_eq_true rfl) rfl ?_; clear H; intro w5 H
 dsimp only [List.eraseIdx] at H
 refine s_end Z [2, 3, 4, 5] rfl ?_; clear Z; intro Z
 refine p_then (wp_seq ?_)
 obtain ⟨n0_2, hx3, hF⟩ := bnd_in hF
 refine f_region Z ?_; clear Z; intro Z
 refine s_runk tOps1 Z 1 rfl rfl ?_; clear Z a; intro a Z
 refine h_call Z H (js := [(1, false)]) rfl (caps := #[]) fn_68_YOps1 rfl rfl rfl rfl rfl (by decide) rfl rfl (fun D1 hS => have hq := c_wire_Reader_Num hx3 hS; hq) ?_; clear Z a; intro vv a w6 D2 hr hF2 Z
 obtain ⟨rfl, I3, K⟩ := hr
 have H : Hf I D w I3 w6 [BxC g1 100 (cEwire_Reader n0_2.2), BxC b2 33 [.int .i64 n0.1, .int .i64 0, .slice none 0 0], BxC b1 33 [.int .i64 0, .int .i64 0, .slice none 0 0]] := hF2 K
 clear hF2 K
 refine s_runk tOps1 Z 1 rfl rfl ?_; clear Z a; intro a Z
 refine h_store tOps1 Z H 1 rfl rfl rfl rfl rfl rfl rfl rfl rfl (one_cons rfl one_nil) (Nat.le_of_ble_eq_true rfl) rfl ?_; clear H; intro w7 H
 dsimp only [List.eraseIdx] at H
 refine s_end Z [2, 3, 4, 5] rfl ?_; clear Z; intro Z
 refine p_then (wp_seq ?_)
 refine wp_seq ?_
 obtain ⟨n0_3, hx4, hF⟩ := bnd_in hF
 refine f_region Z ?_; clear Z; intro Z
 refine s_runk tOps1 Z 1 rfl rfl ?_; clear Z a; intro a Z
 refine h_call Z H (js := [(1, false)]) rfl (caps := #[]) fn_68_YOps1 rfl rfl rfl rfl rfl (by decide) rfl rfl (fun D1 hS => have hq := c_wire_Reader_Num hx4 hS; hq) ?_; clear Z a; intro vv a w8 D2 hr hF2 Z
 obtain ⟨rfl, I4, K⟩ := hr
 have H : Hf I D w I4 w8 [BxC g1 100 (cEwire_Reader n0_3.2), BxC b2 33 [.int .i64 n0.1, .int .i64 n0_2.1, .slice none 0 0], BxC b1 33 [.int .i64 0, .int .i64 0, .slice none 0 0]] := hF2 K
 clear hF2 K
 refine s_runk tOps1 Z 1 rfl rfl ?_; clear Z a; intro a Z
 refine s_end Z [2, 3, 4, 5, 18, 19] rfl ?_; clear Z; intro Z
 refine p_then (wp_block ?_)
 replace H : Hf I D w I4 w8 [OwC NEOp 84 (.slice none 0 0) ([] : List EOp), BxC g1 100 (cEwire_Reader n0_3.2), BxC b2 33 [.int .i64 n0.1, .int .i64 n0_2.1, .slice none 0 0], BxC b1 33 [.int .i64 0, .int .i64 0, .slice none 0 0]] := H.nilow NEOp 84
 refine f_iter hF (fun sg a' w' => match sg with | (x, r_s, r_at_, r_e, r_made, b_ops) => ∃ v1 : Value, Sl 50 [(2, .pointer (some ⟨b1, 0, none⟩)), (3, .int .i64 0), (4, .pointer (some ⟨g1, 0, none⟩)), (5, .pointer (some ⟨b2, 0, none⟩)), (18, .int .i64 n0_3.1), (19, .int .i64 x)] a' ∧ ∃ I2, Hf I D w I2 w' [BxC b1 33 [.int .i64 0, .int .i64 0, .slice none 0 0], BxC g1 100 [.string r_s, .int .i64 r_at_, .int .i64 r_e, .bool r_made], BxC b2 33 [.int .i64 n0.1, .int .i64 n0_2.1, v1], OwC NEOp 84 v1 b_ops]) ⟨.slice none 0 0, Z.sub (ts := [2, 3, 4, 5, 18, 19]) rfl, ⟨I4, (H.sub [(3, false), (1, false), (1, false), (0, false)] rfl).eq rfl⟩⟩ ?_
 clear Z H hF a
 rintro rc ⟨x, r_s, r_at_, r_e, r_made, b_ops⟩ a w9 ⟨v1, Z, I5, H⟩ hF
 unfold F_ops_Of_l1 at hF
 try dsimp only at hF
 refine wp_seq (f_region Z ?_); clear Z; intro Z
 refine s_runk tOps1 Z 1 rfl rfl ?_; clear Z a; intro a Z
 refine s_end Z [2, 3, 4, 5, 18, 19, 20] rfl ?_; clear Z; intro Z
 refine p_then (wp_seq ?_)
 refine f_cond Z rfl (fun hc1 => ?_) (fun hc1 => ?_)
 ·replace hF := ite_t hc1 hF
  refine wp_skip ?_
  refine p_then (wp_seq ?_)
  refine wp_block ?_
  refine wp_seq ?_
  obtain ⟨t, hx5, hF⟩ := bnd_in hF
  refine f_region Z ?_; clear Z; intro Z
  refine s_runk tOps1 Z 1 rfl rfl ?_; clear Z a; intro a Z
  refine h_call Z H (js := [(1, false)]) rfl (caps := #[]) fn_42_YOps1 rfl rfl rfl rfl rfl (by decide) rfl rfl (fun D1 hS => have hq := c_wire_Reader_Text hx5 hS; hq) ?_; clear Z a; intro vv a w10 D2 hr hF2 Z
  obtain ⟨rfl, I6, K⟩ := hr
  have H : Hf I D w I6 w10 [BxC g1 100 (cEwire_Reader t.2), BxC b1 33 [.int .i64 0, .int .i64 0, .slice none 0 0], BxC b2 33 [.int .i64 n0.1, .int .i64 n0_2.1, v1], OwC NEOp 84 v1 b_ops] := hF2 K
  clear hF2 K
  refine s_ob Z (v := .agg #[.string t.1, .string ByteArray.empty, .bool false]) rfl rfl (by decide) rfl (Ob_build (vs := [(0, .string t.1)]) rfl rfl (by go_simp <;> rfl)) ?_; clear Z a; intro a Z
  refine h_alloc Z H (cl := [.string ByteArray.empty, .string ByteArray.empty, .bool false]) (z := .agg #[.string ByteArray.empty, .string ByteArray.empty, .bool false]) rfl rfl rfl (by decide) rfl (by kernel_rfl) rfl ?_; clear Z a H; intro a w11 b3 H Z
  refine h_store tOps1 Z H 0 rfl rfl rfl rfl rfl rfl rfl rfl rfl (one_cons rfl (one_cons rfl (one_cons rfl one_nil))) (Nat.le_of_ble_eq_true rfl) rfl ?_; clear H; intro w12 H
  dsimp only [List.eraseIdx] at H
  refine s_end Z [2, 3, 4, 5, 18, 19, 20, 21, 22, 23, 6] rfl ?_; clear Z; intro Z
  refine p_then (wp_seq ?_)
  obtain ⟨f, hx6, hF⟩ := bnd_in hF
  refine f_region Z ?_; clear Z; intro Z
  refine s_runk tOps1 Z 1 rfl rfl ?_; clear Z a; intro a Z
  refine h_call Z H (js := [(1, false)]) rfl (caps := #[]) fn_69_YOps1 rfl rfl rfl rfl rfl (by decide) rfl rfl (fun D1 hS => have hq := c_wire_Reader_Flag hx6 hS; hq) ?_; clear Z a; intro vv a w13 D2 hr hF2 Z
  obtain ⟨rfl, I7, K⟩ := hr
  have H : Hf I D w I7 w13 [BxC g1 100 (cEwire_Reader f.2), BxC b3 84 [.string t.1, .string ByteArray.empty, .bool false], BxC b1 33 [.int .i64 0, .int .i64 0, .slice none 0 0], BxC b2 33 [.int .i64 n0.1, .int .i64 n0_2.1, v1], OwC NEOp 84 v1 b_ops] := hF2 K
  clear hF2 K
  refine s_runk tOps1 Z 1 rfl rfl ?_; clear Z a; intro a Z
  refine h_store tOps1 Z H 1 rfl rfl rfl rfl rfl rfl rfl rfl rfl (one_cons rfl one_nil) (Nat.le_of_ble_eq_true rfl) rfl ?_; clear H; intro w14 H
  dsimp only [List.eraseIdx] at H
  refine s_end Z [2, 3, 4, 5, 18, 19, 20, 21, 22, 23, 6, 24, 25, 26] rfl ?_; clear Z; intro Z
  refine p_then (wp_seq ?_)
  obtain ⟨t_2, hx7, hF⟩ := bnd_in hF
  refine f_region Z ?_; clear Z; intro Z
  refine s_runk tOps1 Z 1 rfl rfl ?_; clear Z a; intro a Z
  refine h_call Z H (js := [(1, false)]) rfl (caps := #[]) fn_42_YOps1 rfl rfl rfl rfl rfl (by decide) rfl rfl (fun D1 hS => have hq := c_wire_Reader_Text hx7 hS; hq) ?_; clear Z a; intro vv a w15 D2 hr hF2 Z
  obtain ⟨rfl, I8, K⟩ := hr
  have H : Hf I D w I8 w15 [BxC g1 100 (cEwire_Reader t_2.2), BxC b3 84 [.string t.1, .string ByteArray.empty, .bool f.1], BxC b1 33 [.int .i64 0, .int .i64 0, .slice none 0 0], BxC b2 33 [.int .i64 n0.1, .int .i64 n0_2.1, v1], OwC NEOp 84 v1 b_ops] := hF2 K
  clear hF2 K
  refine s_runk tOps1 Z 1 rfl rfl ?_; clear Z a; intro a Z
  refine h_store tOps1 Z H 1 rfl rfl rfl rfl rfl rfl rfl rfl rfl (one_cons rfl one_nil) (Nat.le_of_ble_eq_true rfl) rfl ?_; clear H; intro w16 H
  dsimp only [List.eraseIdx] at H
  refine s_end Z [2, 3, 4, 5, 18, 19, 20, 21, 22, 23, 6, 24, 25, 26, 27, 28, 29] rfl ?_; clear Z; intro Z
  refine p_then ?_
  obtain ⟨hg1, hF⟩ := chk_in hF
  refine f_region Z ?_; clear Z; intro Z
  refine s_runk tOps1 Z 1 rfl rfl ?_; clear Z a; intro a Z
  refine s_ob Z (v := v1) rfl rfl (by decide) rfl (Ob_load tOps1 rfl rfl rfl ((H.bx 3 rfl).cell 2 rfl)) ?_; clear Z a; intro a Z
  refine s_ob Z (v := .agg #[.string t.1, .string t_2.1, .bool f.1]) rfl rfl (by decide) rfl (Ob_loads tOps1 rfl rfl rfl ((H.bx 0 rfl).part 0 rfl)) ?_; clear Z a; intro a Z
  refine h_bslice Z H (vs := [(0, .agg #[.string t.1, .string t_2.1, .bool f.1])]) (cl := [.string t.1, .string t_2.1, .bool f.1]) (e := 84) rfl rfl rfl (by decide) rfl rfl (fun w => run_bslice (z := .agg #[.string ByteArray.empty, .string ByteArray.empty, .bool false]) (m := 3) Try.underlying31 (by kernel_rfl) rfl rfl (by decide) (by simp [Instr.fill, Value.cells]) w) ?_; clear Z a H; intro a w17 b4 H Z
  refine h_appO Z H 5 E_31_YOps1 [({ key := t.1, val := t_2.1, del := f.1 } : EOp)] rfl rfl rfl rfl rfl (by decide) rfl rfl rfl (slRep2.box1 (H.bx 0 rfl) ⟨rfl, trivial⟩) hg1 (by decide) ?_; clear Z a H; intro v2 a w18 H Z
  dsimp only [List.eraseIdx] at H
  replace H : Hf I D w I8 w18 [OwC NEOp 84 v2 (b_ops ++ [({ key := t.1, val := t_2.1, del := f.1 } : EOp)]), BxC b3 84 [.string t.1, .string t_2.1, .bool f.1], BxC g1 100 (cEwire_Reader t_2.2), BxC b1 33 [.int .i64 0, .int .i64 0, .slice none 0 0], BxC b2 33 [.int .i64 n0.1, .int .i64 n0_2.1, v1]] := H.sub [(0, false), (1, false), (1, false), (1, false), (1, false)] rfl
  refine s_runk tOps1 Z 1 rfl rfl ?_; clear Z a; intro a Z
  refine h_store tOps1 Z H 4 rfl rfl rfl rfl rfl rfl (slS.cells (H.owshape 0 rfl)) rfl rfl (one_cons (slS.one (H.owshape 0 rfl)) one_nil) (Nat.le_of_ble_eq_true rfl) rfl ?_; clear H; intro w19 H
  dsimp only [List.eraseIdx] at H
  refine s_end Z [2, 3, 4, 5, 18, 19, 20, 21, 22, 23, 6, 24, 25, 26, 27, 28, 29, 30, 31, 32, 33, 34, 35] rfl ?_; clear Z; intro Z
  refine p_blk ?_
  refine p_then ?_
  obtain ⟨hg2, hF⟩ := chk_in hF
  refine f_region Z ?_; clear Z; intro Z
  refine s_ob Z (v := .int .i64 (x + 1)) rfl rfl (by decide) rfl (Ob_add rfl rfl rfl (wrI hg2)) ?_; clear Z a; intro a Z
  refine s_runk tOps1 Z 1 rfl rfl ?_; clear Z a; intro a Z
  refine s_end Z [2, 3, 4, 5, 18, 19, 20, 21, 22, 23, 6, 24, 25, 26, 27, 28, 29, 30, 31, 32, 33, 34, 35, 36] rfl ?_; clear Z; intro Z
  refine p_then ?_
  exact ⟨(x + 1, t_2.2.s, t_2.2.at_, t_2.2.e, t_2.2.made, b_ops ++ [({ key := t.1, val := t_2.1, del := f.1 } : EOp)]), ⟨v2, Z.sub (ts := [2, 3, 4, 5, 18, 19]) rfl, ⟨I8, (H.sub [(4, false), (3, false), (0, false), (0, false)] rfl).eq rfl⟩⟩, hF⟩
 ·replace hF := ite_f hc1 hF
  refine wp_exit ?_
  refine p_then_x ?_
  refine p_then_x ?_
  refine f_exit_here ?_
  refine p_then (wp_seq ?_)
  refine wp_seq ?_
  obtain ⟨e, hx8, hF⟩ := bnd_in hF
  refine f_region Z ?_; clear Z; intro Z
  refine s_runk tOps1 Z 1 rfl rfl ?_; clear Z a; intro a Z
  refine h_call Z H (js := [(1, false)]) rfl (caps := #[]) fn_43_YOps1 rfl rfl rfl rfl rfl (by decide) rfl rfl (fun D1 hS => have hq := c_wire_Reader_End hx8 hS; hq) ?_; clear Z a; intro vv a w20 D2 hr hF2 Z
  obtain ⟨rfl, I9, K⟩ := hr
  have H : Hf I D w I9 w20 [BxC g1 100 [.string r_s, .int .i64 r_at_, .int .i64 r_e, .bool r_made], BxC b1 33 [.int .i64 0, .int .i64 0, .slice none 0 0], BxC b2 33 [.int .i64 n0.1, .int .i64 n0_2.1, v1], OwC NEOp 84 v1 b_ops] := hF2 K
  clear hF2 K
  refine s_runk tOps1 Z 1 rfl rfl ?_; clear Z a; intro a Z
  refine s_end Z [2, 3, 5, 7] rfl ?_; clear Z; intro Z
  refine p_then (wp_seq (f_region Z ?_)); clear Z; intro Z
  refine s_runk tOps1 Z 2 rfl rfl ?_; clear Z a; intro a Z
  refine s_end Z [2, 3, 5, 7, 40] rfl ?_; clear Z; intro Z
  refine p_then ?_
  refine f_cond Z rfl (fun hc2 => ?_) (fun hc2 => ?_)
  ·replace hF := ite_t hc2 hF
   refine wp_seq (f_region Z ?_); clear Z; intro Z
   refine s_ob Z (v := .agg #[.int .i64 0, .int .i64 0, .slice none 0 0]) rfl rfl (by decide) rfl (Ob_build (vs := []) rfl rfl (by go_simp <;> rfl)) ?_; clear Z a; intro a Z
   refine s_runk tOps1 Z 1 rfl rfl ?_; clear Z a; intro a Z
   refine h_store tOps1 Z H 1 rfl rfl rfl rfl rfl rfl rfl rfl rfl (one_cons rfl (one_cons rfl (one_cons (slS.one slS.nil) one_nil))) (Nat.le_of_ble_eq_true rfl) rfl ?_; clear H; intro w21 H
   dsimp only [List.eraseIdx] at H
   refine s_runk tOps1 Z 1 rfl rfl ?_; clear Z a; intro a Z
   refine s_end Z [2, 3, 5] rfl ?_; clear Z; intro Z
   refine p_then (wp_ret ?_)
   refine p_then_r ?_
   replace H : Hf I D w I9 w21 [SlC NEOp (.slice none 0 0) ([] : List EOp), BxC b1 33 [.int .i64 0, .int .i64 0, .slice none 0 0], BxC g1 100 [.string r_s, .int .i64 r_at_, .int .i64 r_e, .bool r_made], BxC b2 33 [.int .i64 n0.1, .int .i64 n0_2.1, v1], OwC NEOp 84 v1 b_ops] := H.slNil NEOp
   obtain rfl := some_in hF
   exact f_ret Z (run_resultsCT rfl Z rfl (run_loadVar_agg tOps1 rfl (H.bx 1 rfl).at) rfl) ⟨.slice none 0 0, rfl, I9, (H.sub [(0, true)] rfl).eq rfl⟩
  ·replace hF := ite_f hc2 hF
   refine wp_skip ?_
   refine p_then (wp_seq ?_)
   refine wp_seq ?_
   obtain ⟨c, hx9, hF⟩ := bnd_in hF
   refine f_region Z ?_; clear Z; intro Z
   refine s_ob Z (v := .agg #[.int .i64 n0.1, .int .i64 n0_2.1, v1]) rfl rfl (by decide) rfl (Ob_loads tOps1 rfl rfl rfl ((H.bx 2 rfl).part 0 rfl)) ?_; clear Z a; intro a Z
   obtain ⟨I10, _, H⟩ := H.frzow 3 rfl
   replace H : Hf I D w I10 w20 [SlC NEOp v1 b_ops, BxC g1 100 [.string r_s, .int .i64 r_at_, .int .i64 r_e, .bool r_made], BxC b1 33 [.int .i64 0, .int .i64 0, .slice none 0 0], BxC b2 33 [.int .i64 n0.1, .int .i64 n0_2.1, v1]] := H
   refine h_call Z H (js := [(0, true)]) rfl (caps := #[]) fn_36_YOps1 rfl rfl rfl rfl rfl (by decide) rfl rfl (fun D1 hS => have hq := c_ops_Check hx9 hS; hq) ?_; clear Z a; intro vv a w22 D2 hr hF2 Z
   obtain ⟨rfl, I11, K⟩ := hr
   have H : Hf I D w I11 w22 [SlC NEOp v1 b_ops, BxC g1 100 [.string r_s, .int .i64 r_at_, .int .i64 r_e, .bool r_made], BxC b1 33 [.int .i64 0, .int .i64 0, .slice none 0 0], BxC b2 33 [.int .i64 n0.1, .int .i64 n0_2.1, v1]] := hF2 K
   clear hF2 K
   refine s_runk tOps1 Z 1 rfl rfl ?_; clear Z a; intro a Z
   refine s_end Z [2, 3, 5, 8] rfl ?_; clear Z; intro Z
   refine p_then (wp_seq (f_region Z ?_)); clear Z; intro Z
   refine s_runk tOps1 Z 2 rfl rfl ?_; clear Z a; intro a Z
   refine s_end Z [2, 3, 5, 8, 46] rfl ?_; clear Z; intro Z
   refine p_then ?_
   refine f_cond Z rfl (fun hc3 => ?_) (fun hc3 => ?_)
   ·replace hF := ite_t hc3 hF
    refine wp_seq (f_region Z ?_); clear Z; intro Z
    refine s_ob Z (v := .agg #[.int .i64 0, .int .i64 0, .slice none 0 0]) rfl rfl (by decide) rfl (Ob_build (vs := []) rfl rfl (by go_simp <;> rfl)) ?_; clear Z a; intro a Z
    refine s_runk tOps1 Z 1 rfl rfl ?_; clear Z a; intro a Z
    refine h_store tOps1 Z H 2 rfl rfl rfl rfl rfl rfl rfl rfl rfl (one_cons rfl (one_cons rfl (one_cons (slS.one slS.nil) one_nil))) (Nat.le_of_ble_eq_true rfl) rfl ?_; clear H; intro w23 H
    dsimp only [List.eraseIdx] at H
    refine s_runk tOps1 Z 1 rfl rfl ?_; clear Z a; intro a Z
    refine s_end Z [2, 3, 5] rfl ?_; clear Z; intro Z
    refine p_then (wp_ret ?_)
    refine p_then_r ?_
    replace H : Hf I D w I11 w23 [SlC NEOp (.slice none 0 0) ([] : List EOp), BxC b1 33 [.int .i64 0, .int .i64 0, .slice none 0 0], SlC NEOp v1 b_ops, BxC g1 100 [.string r_s, .int .i64 r_at_, .int .i64 r_e, .bool r_made], BxC b2 33 [.int .i64 n0.1, .int .i64 n0_2.1, v1]] := H.slNil NEOp
    obtain rfl := some_in hF
    exact f_ret Z (run_resultsCT rfl Z rfl (run_loadVar_agg tOps1 rfl (H.bx 1 rfl).at) rfl) ⟨.slice none 0 0, rfl, I11, (H.sub [(0, true)] rfl).eq rfl⟩
   ·replace hF := ite_f hc3 hF
    refine wp_skip ?_
    refine p_then (wp_seq (f_region Z ?_)); clear Z; intro Z
    refine s_ob Z (v := .agg #[.int .i64 n0.1, .int .i64 n0_2.1, v1]) rfl rfl (by decide) rfl (Ob_loads tOps1 rfl rfl rfl ((H.bx 3 rfl).part 0 rfl)) ?_; clear Z a; intro a Z
    refine h_store tOps1 Z H 2 rfl rfl rfl rfl rfl rfl rfl rfl rfl (one_cons rfl (one_cons rfl (one_cons (slS.one (H.slshape 0 rfl)) one_nil))) (Nat.le_of_ble_eq_true rfl) rfl ?_; clear H; intro w24 H
    dsimp only [List.eraseIdx] at H
    refine s_runk tOps1 Z 1 rfl rfl ?_; clear Z a; intro a Z
    refine s_end Z [2, 3] rfl ?_; clear Z; intro Z
    refine p_then (wp_ret ?_)
    obtain rfl := some_in hF
    exact f_ret Z (run_resultsCT rfl Z rfl (run_loadVar_agg tOps1 rfl (H.bx 0 rfl).at) rfl) ⟨v1, rfl, I11, (H.sub [(1, true)] rfl).eq rfl⟩

def F_ref06_SameOps_l1 (a0 : List EOp) (b : List EOp) (rc : Int → Option Bool) (sg : Int) : Option Bool := match sg with | i => if ((decide (i < (a0.length : Int))) && (decide (i < (b.length : Int)))) = true then (chk ((0 : Int) ≤ i ∧ i < (a0.length : Int)) (chk ((0 : Int) ≤ i ∧ i < (b.length : Int)) (if (!eqEOp (a0.getD (i).toNat default) (b.getD (i).toNat default)) = true then (some false) else (chk (inI (i + 1)) (rc (i + 1)))))) else (some true)

def F_ref06_SameOps (a0 : List EOp) (b : List EOp) : Option Bool := if ((a0.length : Int) != (b.length : Int)) = true then (some false) else (iter (F_ref06_SameOps_l1 a0 b) FU 0)

set_option maxHeartbeats 1000000 in
theorem c_ref06_SameOps {I D : Dm} {a0 : List EOp} {v1_a0 : Value} {b : List EOp} {v2_b : Value} {w : World} {rr : Bool} (hF : F_ref06_SameOps a0 b = some rr) (H : St I D w [SlC NEOp v1_a0 a0, SlC NEOp v2_b b]) :
  Calls Try.prog 60 #[v1_a0, v2_b] w (Ret fun vv w' => vv = .bool rr ∧ ∃ I', Hf I D w I' w' []) := by
 replace H := H.hf
 unfold F_ref06_SameOps at hF
 refine f_enter 32 Try.func60 rfl rfl (Nat.le_of_ble_eq_true rfl) fun a Z => ?_
 replace Z := Z.sub (ts := [0, 1]) rfl
 refine wp_seq (f_region Z ?_); clear Z; intro Z
 refine s_runk tOps1 Z 1 rfl rfl ?_; clear Z a; intro a Z
 refine s_end Z [0, 1, 4] rfl ?_; clear Z; intro Z
 refine p_then (wp_seq ?_)
 refine wp_seq (f_region Z ?_); clear Z; intro Z
 refine s_runk tOps1 Z 1 rfl rfl ?_; clear Z a; intro a Z
 refine s_ob Z (v := .int .i64 (a0.length : Int)) rfl rfl (by decide) rfl (Ob_slen tOps1 rfl rfl rfl (H.slshape 0 rfl)) ?_; clear Z a; intro a Z
 refine s_runk tOps1 Z 1 rfl rfl ?_; clear Z a; intro a Z
 refine s_ob Z (v := .int .i64 (b.length : Int)) rfl rfl (by decide) rfl (Ob_slen tOps1 rfl rfl rfl (H.slshape 1 rfl)) ?_; clear Z a; intro a Z
 refine s_runk tOps1 Z 1 rfl rfl ?_; clear Z a; intro a Z
 refine s_end Z [0, 1, 4, 10] rfl ?_; clear Z; intro Z
 refine p_then ?_
 refine f_cond Z rfl (fun hc1 => ?_) (fun hc1 => ?_)
 ·replace hF := ite_t hc1 hF
  refine wp_seq (f_region Z ?_); clear Z; intro Z
  refine s_runk tOps1 Z 1 rfl rfl ?_; clear Z a; intro a Z
  refine s_end Z [0, 1, 4] rfl ?_; clear Z; intro Z
  refine p_then (wp_ret ?_)
  refine p_then_r ?_
  obtain rfl := some_in hF
  exact f_ret Z (run_results1 rfl Z rfl) ⟨rfl, I, (H.sub [] rfl).eq rfl⟩
 ·replace hF := ite_f hc1 hF
  refine wp_skip ?_
  refine p_then (wp_seq ?_)
  refine wp_seq (f_region Z ?_); clear Z; intro Z
  refine s_runk tOps1 Z 1 rfl rfl ?_; clear Z a; intro a Z
  refine s_end Z [0, 1, 4, 5] rfl ?_; clear Z; intro Z
  refine p_then (wp_block ?_)
  refine f_iter hF (fun sg a' w' => match sg with | i => Sl 32 [(0, v1_a0), (1, v2_b), (4, .bool false), (5, .int .i64 i)] a' ∧ ∃ I2, Hf I D w I2 w' [SlC NEOp v1_a0 a0, SlC NEOp v2_b b]) ⟨Z.sub (ts := [0, 1, 4, 5]) rfl, ⟨I, (H.sub [(0, true), (1, true)] rfl).eq rfl⟩⟩ ?_
  clear Z H hF a
  rintro rc i a w1 ⟨Z, I1, H⟩ hF
  unfold F_ref06_SameOps_l1 at hF
  try dsimp only at hF
  refine wp_seq ?_
  refine wp_seq (f_region Z ?_); clear Z; intro Z
  refine s_runk tOps1 Z 2 rfl rfl ?_; clear Z a; intro a Z
  refine s_ob Z (v := .int .i64 (a0.length : Int)) rfl rfl (by decide) rfl (Ob_slen tOps1 rfl rfl rfl (H.slshape 0 rfl)) ?_; clear Z a; intro a Z
  refine s_runk tOps1 Z 2 rfl rfl ?_; clear Z a; intro a Z
  refine g_ob Z (p := (decide (i < (a0.length : Int)))) (v := .int .i64 i) (S' := [(5, .int .i64 i)]) rfl rfl rfl (wantB_t _) rfl (by decide) (fun hp hS => hS.sub (ts := [5]) rfl) (fun hp => Ob_c tOps1 rfl) ?_; clear Z a; intro a Z
  refine g_ob Z (p := (decide (i < (a0.length : Int)))) (v := v2_b) (S' := [(1, v2_b)]) rfl rfl rfl (wantB_t _) rfl (by decide) (fun hp hS => hS.sub (ts := [1]) rfl) (fun hp => Ob_c tOps1 rfl) ?_; clear Z a; intro a Z
  refine g_ob Z (p := (decide (i < (a0.length : Int)))) (v := .int .i64 (b.length : Int)) (S' := [(17, v2_b)]) rfl rfl rfl (wantB_t _) rfl (by decide) (fun hp hS => (hS.conv (t := 17) rfl (cond_t hp)).sub (ts := [17]) rfl) (fun hp => Ob_slen tOps1 rfl rfl rfl (H.slshape 1 rfl)) ?_; clear Z a; intro a Z
  refine g_ob Z (p := (decide (i < (a0.length : Int)))) (v := .bool (decide (i < (b.length : Int)))) (S' := [(16, .int .i64 i), (18, .int .i64 (b.length : Int))]) rfl rfl rfl (wantB_t _) rfl (by decide) (fun hp hS => ((hS.conv (t := 16) rfl (cond_t hp)).conv (t := 18) rfl (cond_t hp)).sub (ts := [16, 18]) rfl) (fun hp => Ob_c tOps1 rfl) ?_; clear Z a; intro a Z
  refine s_ob Z (v := .bool ((decide (i < (a0.length : Int))) && (decide (i < (b.length : Int))))) rfl rfl (by decide) rfl (Ob_pick rfl rfl rfl rfl (pick_and _ _)) ?_; clear Z a; intro a Z
  refine s_end Z [0, 1, 4, 5, 11, 12, 13, 14, 15, 20] rfl ?_; clear Z; intro Z
  refine p_then ?_
  refine f_cond Z rfl (fun hc2 => ?_) (fun hc2 => ?_)
  ·replace hF := ite_t hc2 hF
   refine wp_skip ?_
   refine p_then (wp_seq ?_)
   refine wp_block ?_
   refine wp_seq ?_
   obtain ⟨hg1, hF⟩ := chk_in hF
   obtain ⟨hg2, hF⟩ := chk_in hF
   refine f_quietd (by kernel_rfl) (by kernel_rfl) Z ?_; clear Z; intro Z
   refine q_runk tOps1 Z 2 rfl rfl ?_; clear Z a; intro a Z
   refine q_ob Z (v := .pointer (some ⟨blkOf v1_a0, oofOf v1_a0 + (i).toNat * 3, none⟩)) rfl rfl (by decide) rfl (fun _ hw => Ob_sidx tOps1 rfl rfl rfl rfl (slPl ((H.blw hw).sl 0 rfl) hg1) hg1) ?_; clear Z a; intro a Z
   refine q_ob Z (v := .agg #[.string ((a0.getD (i).toNat default).key), .string ((a0.getD (i).toNat default).val), .bool ((a0.getD (i).toNat default).del)]) rfl rfl (by decide) rfl (fun _ hw => Ob_loads tOps1 rfl rfl rfl ((slFl ((H.blw hw).sl 0 rfl) hg1).part 0 rfl)) ?_; clear Z a; intro a Z
   refine q_runk tOps1 Z 2 rfl rfl ?_; clear Z a; intro a Z
   refine q_ob Z (v := .pointer (some ⟨blkOf v2_b, oofOf v2_b + (i).toNat * 3, none⟩)) rfl rfl (by decide) rfl (fun _ hw => Ob_sidx tOps1 rfl rfl rfl rfl (slPl ((H.blw hw).sl 1 rfl) hg2) hg2) ?_; clear Z a; intro a Z
   refine q_ob Z (v := .agg #[.string ((b.getD (i).toNat default).key), .string ((b.getD (i).toNat default).val), .bool ((b.getD (i).toNat default).del)]) rfl rfl (by decide) rfl (fun _ hw => Ob_loads tOps1 rfl rfl rfl ((slFl ((H.blw hw).sl 1 rfl) hg2).part 0 rfl)) ?_; clear Z a; intro a Z
   refine q_ob Z (v := .bool (!eqEOp (a0.getD (i).toNat default) (b.getD (i).toNat default))) rfl rfl (by decide) rfl (fun _ hw => Ob_bin rfl rfl rfl (eqg_EOp _ _ _ _ _ _) (neq_EOp (a0.getD (i).toNat default) (b.getD (i).toNat default) _)) ?_; clear Z a; intro a Z
   refine q_end Z [0, 1, 4, 5, 11, 12, 13, 14, 15, 20, 23, 24, 25, 26, 27, 28, 29, 30, 31] rfl ?_; clear Z; intro w2 hb Z
   replace H : Hf I D w I1 w2 [SlC NEOp v1_a0 a0, SlC NEOp v2_b b] := H.blw hb
   clear hb
   refine p_then ?_
   refine f_cond Z rfl (fun hc3 => ?_) (fun hc3 => ?_)
   ·replace hF := ite_t hc3 hF
    refine wp_seq (f_region Z ?_); clear Z; intro Z
    refine s_runk tOps1 Z 1 rfl rfl ?_; clear Z a; intro a Z
    refine s_end Z [0, 1, 4, 5, 11, 12, 13, 14, 15, 20, 23, 24, 25, 26, 27, 28, 29, 30, 31] rfl ?_; clear Z; intro Z
    refine p_then (wp_ret ?_)
    refine p_blk_r ?_
    refine p_then_r ?_
    refine p_then_r ?_
    refine p_blk_r ?_
    refine p_then_r ?_
    obtain rfl := some_in hF
    exact f_ret Z (run_results1 rfl Z rfl) ⟨rfl, I1, (H.sub [] rfl).eq rfl⟩
   ·replace hF := ite_f hc3 hF
    refine wp_skip ?_
    refine p_blk ?_
    refine p_then ?_
    obtain ⟨hg3, hF⟩ := chk_in hF
    refine f_region Z ?_; clear Z; intro Z
    refine s_runk tOps1 Z 1 rfl rfl ?_; clear Z a; intro a Z
    refine s_ob Z (v := .int .i64 (i + 1)) rfl rfl (by decide) rfl (Ob_add rfl rfl rfl (wrI hg3)) ?_; clear Z a; intro a Z
    refine s_runk tOps1 Z 1 rfl rfl ?_; clear Z a; intro a Z
    refine s_end Z [0, 1, 4, 5, 11, 12, 13, 14, 15, 20, 23, 24, 25, 26, 27, 28, 29, 30, 31, 21, 22] rfl ?_; clear Z; intro Z
    refine p_then ?_
    exact ⟨(i + 1), ⟨Z.sub (ts := [0, 1, 4, 5]) rfl, ⟨I1, (H.sub [(0, true), (1, true)] rfl).eq rfl⟩⟩, hF⟩
  ·replace hF := ite_f hc2 hF
   refine wp_exit ?_
   refine p_then_x ?_
   refine p_then_x ?_
   refine f_exit_here ?_
   refine p_then (wp_seq (f_region Z ?_)); clear Z; intro Z
   refine s_runk tOps1 Z 1 rfl rfl ?_; clear Z a; intro a Z
   refine s_end Z [4] rfl ?_; clear Z; intro Z
   refine p_then (wp_ret ?_)
   obtain rfl := some_in hF
   exact f_ret Z (run_results1 rfl Z rfl) ⟨rfl, I1, (H.sub [] rfl).eq rfl⟩

def F_ref06_Same (a0 : EBatch) (b : EBatch) : Option Bool := (gif ((a0.client == b.client) && (a0.req == b.req)) (F_ref06_SameOps a0.ops b.ops) default).bind fun s0 => (some (((a0.client == b.client) && (a0.req == b.req)) && s0))

set_option maxHeartbeats 1000000 in
theorem c_ref06_Same {I D : Dm} {a0 : EBatch} {v1_a0 : Value} {b : EBatch} {v2_b : Value} {w : World} {rr : Bool} (hF : F_ref06_Same a0 b = some rr) (H : St I D w [SlC NEOp v1_a0 a0.ops, SlC NEOp v2_b b.ops]) :
  Calls Try.prog 39 #[.agg #[.int .i64 a0.client, .int .i64 a0.req, v1_a0], .agg #[.int .i64 b.client, .int .i64 b.req, v2_b]] w (Ret fun vv w' => vv = .bool rr ∧ ∃ I', Hf I D w I' w' []) := by
 replace H := H.hf
 unfold F_ref06_Same at hF
 refine f_enter 24 Try.func39 rfl rfl (Nat.le_of_ble_eq_true rfl) fun a Z => ?_
 replace Z := Z.sub (ts := [0, 1]) rfl
 refine wp_seq (f_region Z ?_); clear Z; intro Z
 refine h_boxv Z H (cl := [.int .i64 a0.client, .int .i64 a0.req, v1_a0]) rfl rfl rfl (by decide) rfl rfl rfl ?_; clear Z a H; intro a w1 b1 H Z
 refine h_boxv Z H (cl := [.int .i64 b.client, .int .i64 b.req, v2_b]) rfl rfl rfl (by decide) rfl rfl rfl ?_; clear Z a H; intro a w2 b2 H Z
 refine s_runk tOps1 Z 1 rfl rfl ?_; clear Z a; intro a Z
 refine s_end Z [2, 3, 4] rfl ?_; clear Z; intro Z
 refine p_then (wp_seq ?_)
 obtain ⟨s0, hx1, hF⟩ := bnd_in hF
 refine f_region Z ?_; clear Z; intro Z
 refine s_runk tOps1 Z 1 rfl rfl ?_; clear Z a; intro a Z
 refine s_ob Z (v := .int .i64 a0.client) rfl rfl (by decide) rfl (Ob_load tOps1 rfl rfl rfl ((H.bx 1 rfl).cell 0 rfl)) ?_; clear Z a; intro a Z
 refine s_runk tOps1 Z 1 rfl rfl ?_; clear Z a; intro a Z
 refine s_ob Z (v := .int .i64 b.client) rfl rfl (by decide) rfl (Ob_load tOps1 rfl rfl rfl ((H.bx 0 rfl).cell 0 rfl)) ?_; clear Z a; intro a Z
 refine s_runk tOps1 Z 2 rfl rfl ?_; clear Z a; intro a Z
 refine g_ob Z (p := (a0.client == b.client)) (v := .pointer (some ⟨b1, 1, none⟩)) (S' := [(2, .pointer (some ⟨b1, 0, none⟩))]) rfl rfl rfl (wantB_t _) rfl (by decide) (fun hp hS => hS.sub (ts := [2]) rfl) (fun hp => Ob_c tOps1 rfl) ?_; clear Z a; intro a Z
 refine g_ob Z (p := (a0.client == b.client)) (v := .int .i64 a0.req) (S' := [(11, .pointer (some ⟨b1, 1, none⟩))]) rfl rfl rfl (wantB_t _) rfl (by decide) (fun hp hS => (hS.conv (t := 11) rfl (cond_t hp)).sub (ts := [11]) rfl) (fun hp => Ob_load tOps1 rfl rfl rfl ((H.bx 1 rfl).cell 1 rfl)) ?_; clear Z a; intro a Z
 refine g_ob Z (p := (a0.client == b.client)) (v := .pointer (some ⟨b2, 1, none⟩)) (S' := [(3, .pointer (some ⟨b2, 0, none⟩))]) rfl rfl rfl (wantB_t _) rfl (by decide) (fun hp hS => hS.sub (ts := [3]) rfl) (fun hp => Ob_c tOps1 rfl) ?_; clear Z a; intro a Z
 refine g_ob Z (p := (a0.client == b.client)) (v := .int .i64 b.req) (S' := [(13, .pointer (some ⟨b2, 1, none⟩))]) rfl rfl rfl (wantB_t _) rfl (by decide) (fun hp hS => (hS.conv (t := 13) rfl (cond_t hp)).sub (ts := [13]) rfl) (fun hp => Ob_load tOps1 rfl rfl rfl ((H.bx 0 rfl).cell 1 rfl)) ?_; clear Z a; intro a Z
 refine g_ob Z (p := (a0.client == b.client)) (v := .bool (a0.req == b.req)) (S' := [(12, .int .i64 a0.req), (14, .int .i64 b.req)]) rfl rfl rfl (wantB_t _) rfl (by decide) (fun hp hS => ((hS.conv (t := 12) rfl (cond_t hp)).conv (t := 14) rfl (cond_t hp)).sub (ts := [12, 14]) rfl) (fun hp => Ob_c tOps1 rfl) ?_; clear Z a; intro a Z
 refine s_ob Z (v := .bool ((a0.client == b.client) && (a0.req == b.req))) rfl rfl (by decide) rfl (Ob_pick rfl rfl rfl rfl (pick_and _ _)) ?_; clear Z a; intro a Z
 refine s_runk tOps1 Z 1 rfl rfl ?_; clear Z a; intro a Z
 refine g_ob Z (p := ((a0.client == b.client) && (a0.req == b.req))) (v := .pointer (some ⟨b1, 2, none⟩)) (S' := [(2, .pointer (some ⟨b1, 0, none⟩))]) rfl rfl rfl (wantB_t _) rfl (by decide) (fun hp hS => hS.sub (ts := [2]) rfl) (fun hp => Ob_c tOps1 rfl) ?_; clear Z a; intro a Z
 refine g_ob Z (p := ((a0.client == b.client) && (a0.req == b.req))) (v := v1_a0) (S' := [(18, .pointer (some ⟨b1, 2, none⟩))]) rfl rfl rfl (wantB_t _) rfl (by decide) (fun hp hS => (hS.conv (t := 18) rfl (cond_t hp)).sub (ts := [18]) rfl) (fun hp => Ob_load tOps1 rfl rfl rfl ((H.bx 1 rfl).cell 2 rfl)) ?_; clear Z a; intro a Z
 refine g_ob Z (p := ((a0.client == b.client) && (a0.req == b.req))) (v := .pointer (some ⟨b2, 2, none⟩)) (S' := [(3, .pointer (some ⟨b2, 0, none⟩))]) rfl rfl rfl (wantB_t _) rfl (by decide) (fun hp hS => hS.sub (ts := [3]) rfl) (fun hp => Ob_c tOps1 rfl) ?_; clear Z a; intro a Z
 refine g_ob Z (p := ((a0.client == b.client) && (a0.req == b.req))) (v := v2_b) (S' := [(20, .pointer (some ⟨b2, 2, none⟩))]) rfl rfl rfl (wantB_t _) rfl (by decide) (fun hp hS => (hS.conv (t := 20) rfl (cond_t hp)).sub (ts := [20]) rfl) (fun hp => Ob_load tOps1 rfl rfl rfl ((H.bx 0 rfl).cell 2 rfl)) ?_; clear Z a; intro a Z
 refine g_call Z (p := ((a0.client == b.client) && (a0.req == b.req))) (v := .bool s0) (S' := [(19, v1_a0), (21, v2_b)]) (caps := #[]) fn_60_YOps1 rfl rfl rfl (wantB_t _) rfl (by decide) (fun hp hS => ((hS.conv (t := 19) rfl (cond_t hp)).conv (t := 21) rfl (cond_t hp)).sub (ts := [19, 21]) rfl) rfl rfl rfl rfl (fun hp => have hq := c_ref06_SameOps (gif_in hx1 hp) (H.pick0 (js := [(2, true), (3, true)]) rfl rfl); plainC hq) ?_; clear Z a; intro a w3 hb Z
 replace H : Hf I D w I w3 [BxC b2 33 [.int .i64 b.client, .int .i64 b.req, v2_b], BxC b1 33 [.int .i64 a0.client, .int .i64 a0.req, v1_a0], SlC NEOp v1_a0 a0.ops, SlC NEOp v2_b b.ops] := H.blw hb
 clear hb
 refine s_ob Z (v := .bool (((a0.client == b.client) && (a0.req == b.req)) && s0)) rfl rfl (by decide) rfl (Ob_pick rfl rfl rfl rfl (pick_and _ _)) ?_; clear Z a; intro a Z
 refine s_runk tOps1 Z 1 rfl rfl ?_; clear Z a; intro a Z
 refine s_end Z [4] rfl ?_; clear Z; intro Z
 refine p_then (wp_ret ?_)
 obtain rfl := some_in hF
 exact f_ret Z (run_results1 rfl Z rfl) ⟨rfl, I, (H.sub [] rfl).eq rfl⟩

end Go.Proofs.Ytodgamombdaoiaa
