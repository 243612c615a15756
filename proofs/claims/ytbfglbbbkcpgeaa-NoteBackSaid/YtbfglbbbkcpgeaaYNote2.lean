/- Notes: their own parts; the laws. -/
import Derived.Test.YtbfglbbbkcpgeaaYNote1
namespace Go.Proofs.Ytbfglbbbkcpgeaa
open Go.RowKit
def tN2L : TabL := ⟨[(26625, 1), (30722, 2), (32768, 0), (39936, 0), (39937, 1), (39938, 2), (39939, 3), (39940, 6), (39941, 7), (39942, 11), (39943, 14)], [9], [4], [(24, (115, 2)), (27, (3, 1)), (28, (150, 3))], [(3, (1, false)), (23, (1, false)), (24, (1, false)), (26, (3, true)), (27, (1, false)), (28, (1, false)), (32, (4, true)), (34, (3, true)), (37, (4, true)), (39, (18, true))]⟩

def tN2 : Tab Try.prog := ⟨tN2L, by kernel_rfl⟩

theorem fn_6_YNote2 : IsFn Try.prog 6 := ⟨_, Try.func6, by kernel_rfl, by kernel_rfl⟩

theorem fn_7_YNote2 : IsFn Try.prog 7 := ⟨_, Try.func7, by kernel_rfl, by kernel_rfl⟩

theorem fn_9_YNote2 : IsFn Try.prog 9 := ⟨_, Try.func9, by kernel_rfl, by kernel_rfl⟩

theorem fn_10_YNote2 : IsFn Try.prog 10 := ⟨_, Try.func10, by kernel_rfl, by kernel_rfl⟩

theorem fn_11_YNote2 : IsFn Try.prog 11 := ⟨_, Try.func11, by kernel_rfl, by kernel_rfl⟩

theorem fn_12_YNote2 : IsFn Try.prog 12 := ⟨_, Try.func12, by kernel_rfl, by kernel_rfl⟩

theorem fn_27_YNote2 : IsFn Try.prog 27 := ⟨_, Try.func27, by kernel_rfl, by kernel_rfl⟩

theorem fn_28_YNote2 : IsFn Try.prog 28 := ⟨_, Try.func28, by kernel_rfl, by kernel_rfl⟩

theorem fn_29_YNote2 : IsFn Try.prog 29 := ⟨_, Try.func29, by kernel_rfl, by kernel_rfl⟩

theorem eql_EPin (x y : EPin) (w : World) : (binOp .eql 34 (.agg (cEPin x).toArray) (.agg (cEPin y).toArray)).run Try.prog w = .ok (.bool (eqEPin x y)) w := by
 have h1 := run_equalIn_struct (P := Try.prog) w 9999 34 (cEPin x).toArray (cEPin y).toArray (by rw [fieldsOf_of Try.underlying34]; exact Try.underlying34) (by kernel_rfl)
 rw [run_eql_struct, h1, fieldsOf_of Try.underlying34]
 simp [Op.eqFields, part, isAgg, cEPin, beqS, eqEPin, seqB_eq, run_underlying Try.underlying3, run_equalIn_int w 9998 3 _ _ _ _ Try.underlying3, run_underlying Try.underlying23, run_equalIn_int w 9998 23 _ _ _ _ Try.underlying23]
 try ((repeat' split) <;> simp_all)

theorem eqg_EPin (op : BinOp) (x y : Operand) (a b : Array Value) (w : World) : (eqGuard op 34 x y (.agg a) (.agg b)).run Try.prog w = .ok () w := run_eqGuard_agg (by kernel_rfl) op x y a b w

theorem eql_EAnswer (x y : EAnswer) (w : World) : (binOp .eql 37 (.agg (cEAnswer x).toArray) (.agg (cEAnswer y).toArray)).run Try.prog w = .ok (.bool (eqEAnswer x y)) w := by
 have h1 := run_equalIn_struct (P := Try.prog) w 9999 37 (cEAnswer x).toArray (cEAnswer y).toArray (by rw [fieldsOf_of Try.underlying37]; exact Try.underlying37) (by kernel_rfl)
 rw [run_eql_struct, h1, fieldsOf_of Try.underlying37]
 simp [Op.eqFields, part, isAgg, cEAnswer, beqS, eqEAnswer, seqB_eq, run_underlying Try.underlying3, run_equalIn_int w 9998 3 _ _ _ _ Try.underlying3, run_underlying Try.underlying35, run_equalIn_int w 9998 35 _ _ _ _ Try.underlying35]
 try ((repeat' split) <;> simp_all)

theorem eqg_EAnswer (op : BinOp) (x y : Operand) (a b : Array Value) (w : World) : (eqGuard op 37 x y (.agg a) (.agg b)).run Try.prog w = .ok () w := run_eqGuard_agg (by kernel_rfl) op x y a b w

def F_ref10_Clean_k1 (x : ENote) : Option ENote := some x

def F_ref10_Clean_k3 (n0 : ENote) (x_3 : Bool) : Option ENote := if (x_3) = true then (F_ref10_Clean_k1 ({ (default : ENote) with k := n0.k, n := n0.n } : ENote)) else (if (n0.k == 6) = true then (F_ref10_Clean_k1 ({ (default : ENote) with k := n0.k, pin := n0.pin } : ENote)) else (if (n0.k == 8) = true then (F_ref10_Clean_k1 ({ (default : ENote) with k := n0.k, said := n0.said } : ENote)) else (some (default : ENote))))

def F_ref10_Clean_k2 (n0 : ENote) (x_2 : Bool) : Option ENote := if (x_2) = true then (F_ref10_Clean_k1 ({ (default : ENote) with k := n0.k, n := n0.n, at_ := n0.at_ } : ENote)) else (if (n0.k == 5) = true then (F_ref10_Clean_k3 n0 (n0.k == 5)) else (F_ref10_Clean_k3 n0 (n0.k == 7)))

def F_ref10_Clean (n0 : ENote) : Option ENote := if (n0.k == 1) = true then (F_ref10_Clean_k1 ({ (default : ENote) with k := n0.k, conf := n0.conf, legit := n0.legit } : ENote)) else (if (n0.k == 2) = true then (F_ref10_Clean_k1 ({ (default : ENote) with k := n0.k, n := n0.n, entry := n0.entry } : ENote)) else (if (n0.k == 3) = true then (F_ref10_Clean_k2 n0 (n0.k == 3)) else (F_ref10_Clean_k2 n0 (n0.k == 4))))

set_option maxHeartbeats 1000000 in
theorem c_ref10_Clean {I D : Dm} {n0 : ENote} {v1_n0 : Value} {v2_n0 : Value} {v3_n0 : Value} {w : World} {rr : ENote} (hF : F_ref10_Clean n0 = some rr) (H : St I D w [SlC NEMember v1_n0 n0.conf.members, SlC Ni64 v2_n0 n0.legit, SlC NEOp v3_n0 n0.entry.batch.ops]) :
  Calls Try.prog 12 #[.agg #[.int .i64 n0.k, .int .i64 n0.n, .int .u64 n0.at_, .int .i64 n0.conf.epoch, v1_n0, .int .u64 n0.conf.floor, v2_n0, .int .i64 n0.entry.batch.client, .int .i64 n0.entry.batch.req, v3_n0, .int .u64 n0.entry.ts, .int .i64 n0.pin.id, .int .u64 n0.pin.at_, .int .i64 n0.pin.left, .int .i64 n0.said.client, .int .i64 n0.said.req, .int .i64 n0.said.e, .int .i64 n0.said.pin]] w (Ret fun vv w' => ∃ q1 q2 q3 : Value, vv = .agg #[.int .i64 rr.k, .int .i64 rr.n, .int .u64 rr.at_, .int .i64 rr.conf.epoch, q1, .int .u64 rr.conf.floor, q2, .int .i64 rr.entry.batch.client, .int .i64 rr.entry.batch.req, q3, .int .u64 rr.entry.ts, .int .i64 rr.pin.id, .int .u64 rr.pin.at_, .int .i64 rr.pin.left, .int .i64 rr.said.client, .int .i64 rr.said.req, .int .i64 rr.said.e, .int .i64 rr.said.pin] ∧ ∃ I', Hf I D w I' w' [SlC NEMember q1 rr.conf.members, SlC Ni64 q2 rr.legit, SlC NEOp q3 rr.entry.batch.ops]) := by
 replace H := H.hf
 unfold F_ref10_Clean at hF
 refine f_enter 52 Try.func12 rfl rfl (Nat.le_of_ble_eq_true rfl) fun a Z => ?_
 replace Z := Z.sub (ts := [0]) rfl
 refine wp_seq (f_region Z ?_); clear Z; intro Z
 refine h_boxv Z H (cl := [.int .i64 n0.k, .int .i64 n0.n, .int .u64 n0.at_, .int .i64 n0.conf.epoch, v1_n0, .int .u64 n0.conf.floor, v2_n0, .int .i64 n0.entry.batch.client, .int .i64 n0.entry.batch.req, v3_n0, .int .u64 n0.entry.ts, .int .i64 n0.pin.id, .int .u64 n0.pin.at_, .int .i64 n0.pin.left, .int .i64 n0.said.client, .int .i64 n0.said.req, .int .i64 n0.said.e, .int .i64 n0.said.pin]) rfl rfl rfl (by decide) rfl rfl rfl ?_; clear Z a H; intro a w1 b1 H Z
 refine h_alloc Z H (cl := [.int .i64 0, .int .i64 0, .int .u64 0, .int .i64 0, .slice none 0 0, .int .u64 0, .slice none 0 0, .int .i64 0, .int .i64 0, .slice none 0 0, .int .u64 0, .int .i64 0, .int .u64 0, .int .i64 0, .int .i64 0, .int .i64 0, .int .i64 0, .int .i64 0]) (z := .agg #[.int .i64 0, .int .i64 0, .int .u64 0, .int .i64 0, .slice none 0 0, .int .u64 0, .slice none 0 0, .int .i64 0, .int .i64 0, .slice none 0 0, .int .u64 0, .int .i64 0, .int .u64 0, .int .i64 0, .int .i64 0, .int .i64 0, .int .i64 0, .int .i64 0]) rfl rfl rfl (by decide) rfl (by kernel_rfl) rfl ?_; clear Z a H; intro a w2 b2 H Z
 refine s_end Z [1, 2] rfl ?_; clear Z; intro Z
 refine p_then (wp_seq (f_region Z ?_)); clear Z; intro Z
 refine s_runk tN2 Z 1 rfl rfl ?_; clear Z a; intro a Z
 refine s_ob Z (v := .int .i64 n0.k) rfl rfl (by decide) rfl (Ob_load tN2 rfl rfl rfl ((H.bx 1 rfl).cell 0 rfl)) ?_; clear Z a; intro a Z
 refine s_ob Z (v := .agg #[.int .i64 n0.k, .int .i64 0, .int .u64 0, .int .i64 0, .slice none 0 0, .int .u64 0, .slice none 0 0, .int .i64 0, .int .i64 0, .slice none 0 0, .int .u64 0, .int .i64 0, .int .u64 0, .int .i64 0, .int .i64 0, .int .i64 0, .int .i64 0, .int .i64 0]) rfl rfl (by decide) rfl (Ob_build (vs := [(0, .int .i64 n0.k)]) rfl rfl (by go_simp <;> rfl)) ?_; clear Z a; intro a Z
 refine h_alloc Z H (cl := [.int .i64 0, .int .i64 0, .int .u64 0, .int .i64 0, .slice none 0 0, .int .u64 0, .slice none 0 0, .int .i64 0, .int .i64 0, .slice none 0 0, .int .u64 0, .int .i64 0, .int .u64 0, .int .i64 0, .int .i64 0, .int .i64 0, .int .i64 0, .int .i64 0]) (z := .agg #[.int .i64 0, .int .i64 0, .int .u64 0, .int .i64 0, .slice none 0 0, .int .u64 0, .slice none 0 0, .int .i64 0, .int .i64 0, .slice none 0 0, .int .u64 0, .int .i64 0, .int .u64 0, .int .i64 0, .int .i64 0, .int .i64 0, .int .i64 0, .int .i64 0]) rfl rfl rfl (by decide) rfl (by kernel_rfl) rfl ?_; clear Z a H; intro a w3 b3 H Z
 refine h_store tN2 Z H 0 rfl rfl rfl rfl rfl rfl rfl rfl rfl (one_cons rfl (one_cons rfl (one_cons rfl (one_cons rfl (one_cons (slS.one slS.nil) (one_cons rfl (one_cons (slS.one slS.nil) (one_cons rfl (one_cons rfl (one_cons (slS.one slS.nil) (one_cons rfl (one_cons rfl (one_cons rfl (one_cons rfl (one_cons rfl (one_cons rfl (one_cons rfl (one_cons rfl one_nil)))))))))))))))))) (Nat.le_of_ble_eq_true rfl) (putCells_all rfl) ?_; clear H; intro w4 H
 dsimp only [List.eraseIdx] at H
 refine s_end Z [1, 2, 3] rfl ?_; clear Z; intro Z
 refine p_then ?_
 refine f_cut (fun a' w' => ∃ (x : ENote), Sl 52 [(2, .pointer (some ⟨b2, 0, none⟩)), (3, .pointer (some ⟨b3, 0, none⟩))] a' ∧ (∃ I2, Hf I D w I2 w' [BxC b2 39 [.int .i64 0, .int .i64 0, .int .u64 0, .int .i64 0, .slice none 0 0, .int .u64 0, .slice none 0 0, .int .i64 0, .int .i64 0, .slice none 0 0, .int .u64 0, .int .i64 0, .int .u64 0, .int .i64 0, .int .i64 0, .int .i64 0, .int .i64 0, .int .i64 0], RENote b3 x]) ∧ F_ref10_Clean_k1 x = some rr) ?_ ?_
 ·rintro a w5 ⟨x, Z, ⟨I1, H⟩, hF⟩
  unfold F_ref10_Clean_k1 at hF
  try dsimp only at hF
  refine wp_seq (f_region Z ?_); clear Z; intro Z
  obtain ⟨⟨v4, v5, v6⟩, H⟩ := H.openX 1 rfl
  replace H : Hf I D w I1 w5 [BxC b3 39 (cENote x v4 v5 v6), SlC NEMember v4 x.conf.members, SlC Ni64 v5 x.legit, SlC NEOp v6 x.entry.batch.ops, BxC b2 39 [.int .i64 0, .int .i64 0, .int .u64 0, .int .i64 0, .slice none 0 0, .int .u64 0, .slice none 0 0, .int .i64 0, .int .i64 0, .slice none 0 0, .int .u64 0, .int .i64 0, .int .u64 0, .int .i64 0, .int .i64 0, .int .i64 0, .int .i64 0, .int .i64 0]] := H
  refine s_ob Z (v := .agg #[.int .i64 x.k, .int .i64 x.n, .int .u64 x.at_, .int .i64 x.conf.epoch, v4, .int .u64 x.conf.floor, v5, .int .i64 x.entry.batch.client, .int .i64 x.entry.batch.req, v6, .int .u64 x.entry.ts, .int .i64 x.pin.id, .int .u64 x.pin.at_, .int .i64 x.pin.left, .int .i64 x.said.client, .int .i64 x.said.req, .int .i64 x.said.e, .int .i64 x.said.pin]) rfl rfl (by decide) rfl (Ob_loads tN2 rfl rfl rfl ((H.bx 0 rfl).part 0 rfl)) ?_; clear Z a; intro a Z
  refine h_store tN2 Z H 4 rfl rfl rfl rfl rfl rfl rfl rfl rfl (one_cons rfl (one_cons rfl (one_cons rfl (one_cons rfl (one_cons (slS.one (H.slshape 1 rfl)) (one_cons rfl (one_cons (slS.one (H.slshape 2 rfl)) (one_cons rfl (one_cons rfl (one_cons (slS.one (H.slshape 3 rfl)) (one_cons rfl (one_cons rfl (one_cons rfl (one_cons rfl (one_cons rfl (one_cons rfl (one_cons rfl (one_cons rfl one_nil)))))))))))))))))) (Nat.le_of_ble_eq_true rfl) (putCells_all rfl) ?_; clear H; intro w6 H
  dsimp only [List.eraseIdx] at H
  refine s_end Z [2] rfl ?_; clear Z; intro Z
  refine p_then (wp_ret ?_)
  obtain rfl := some_in hF
  exact f_ret Z (run_resultsC rfl Z rfl (run_loadVar_agg tN2 rfl (H.bx 0 rfl).at)) ⟨v4, v5, v6, rfl, I1, (H.sub [(2, true), (3, true), (4, true)] rfl).eq rfl⟩
 ·skip
  refine wp_seq (f_region Z ?_); clear Z; intro Z
  refine s_runk tN2 Z 1 rfl rfl ?_; clear Z a; intro a Z
  refine s_ob Z (v := .int .i64 n0.k) rfl rfl (by decide) rfl (Ob_load tN2 rfl rfl rfl ((H.bx 2 rfl).cell 0 rfl)) ?_; clear Z a; intro a Z
  refine s_end Z [1, 2, 3, 8] rfl ?_; clear Z; intro Z
  refine p_then (wp_block ?_)
  refine wp_seq (f_region Z ?_); clear Z; intro Z
  refine s_runk tN2 Z 2 rfl rfl ?_; clear Z a; intro a Z
  refine s_end Z [1, 2, 3, 8, 10] rfl ?_; clear Z; intro Z
  refine p_then ?_
  refine f_cond Z rfl (fun hc1 => ?_) (fun hc1 => ?_)
  ·replace hF := ite_t hc1 hF
   refine wp_seq (f_region Z ?_); clear Z; intro Z
   refine s_runk tN2 Z 1 rfl rfl ?_; clear Z a; intro a Z
   refine s_ob Z (v := .agg #[.int .i64 n0.conf.epoch, v1_n0, .int .u64 n0.conf.floor]) rfl rfl (by decide) rfl (Ob_loads tN2 rfl rfl rfl ((H.bx 2 rfl).part 3 rfl)) ?_; clear Z a; intro a Z
   refine s_runk tN2 Z 1 rfl rfl ?_; clear Z a; intro a Z
   refine h_store tN2 Z H 0 rfl rfl rfl rfl rfl rfl rfl rfl rfl (one_cons rfl (one_cons (slS.one (H.slshape 3 rfl)) (one_cons rfl one_nil))) (Nat.le_of_ble_eq_true rfl) rfl ?_; clear H; intro w7 H
   dsimp only [List.eraseIdx] at H
   refine s_end Z [1, 2, 3] rfl ?_; clear Z; intro Z
   refine p_then ?_
   refine f_region Z ?_; clear Z; intro Z
   refine s_runk tN2 Z 1 rfl rfl ?_; clear Z a; intro a Z
   refine s_ob Z (v := v2_n0) rfl rfl (by decide) rfl (Ob_load tN2 rfl rfl rfl ((H.bx 2 rfl).cell 6 rfl)) ?_; clear Z a; intro a Z
   refine s_runk tN2 Z 1 rfl rfl ?_; clear Z a; intro a Z
   refine h_store tN2 Z H 0 rfl rfl rfl rfl rfl rfl (slS.cells (H.slshape 4 rfl)) rfl rfl (one_cons (slS.one (H.slshape 4 rfl)) one_nil) (Nat.le_of_ble_eq_true rfl) rfl ?_; clear H; intro w8 H
   dsimp only [List.eraseIdx] at H
   refine s_end Z [2, 3] rfl ?_; clear Z; intro Z
   refine p_blk ?_
   refine p_then ?_
   replace H : Hf I D w I w8 [SlC NEOp (.slice none 0 0) ([] : List EOp), BxC b3 39 [.int .i64 n0.k, .int .i64 0, .int .u64 0, .int .i64 n0.conf.epoch, v1_n0, .int .u64 n0.conf.floor, v2_n0, .int .i64 0, .int .i64 0, .slice none 0 0, .int .u64 0, .int .i64 0, .int .u64 0, .int .i64 0, .int .i64 0, .int .i64 0, .int .i64 0, .int .i64 0], BxC b2 39 [.int .i64 0, .int .i64 0, .int .u64 0, .int .i64 0, .slice none 0 0, .int .u64 0, .slice none 0 0, .int .i64 0, .int .i64 0, .slice none 0 0, .int .u64 0, .int .i64 0, .int .u64 0, .int .i64 0, .int .i64 0, .int .i64 0, .int .i64 0, .int .i64 0], BxC b1 39 (cENote n0 v1_n0 v2_n0 v3_n0), SlC NEMember v1_n0 n0.conf.members, SlC Ni64 v2_n0 n0.legit, SlC NEOp v3_n0 n0.entry.batch.ops] := H.slNil NEOp
   replace H : Hf I D w I w8 [RENote b3 ({ (default : ENote) with k := n0.k, conf := n0.conf, legit := n0.legit } : ENote), SlC NEOp (.slice none 0 0) ([] : List EOp), BxC b2 39 [.int .i64 0, .int .i64 0, .int .u64 0, .int .i64 0, .slice none 0 0, .int .u64 0, .slice none 0 0, .int .i64 0, .int .i64 0, .slice none 0 0, .int .u64 0, .int .i64 0, .int .u64 0, .int .i64 0, .int .i64 0, .int .i64 0, .int .i64 0, .int .i64 0], BxC b1 39 (cENote n0 v1_n0 v2_n0 v3_n0), SlC NEMember v1_n0 n0.conf.members, SlC Ni64 v2_n0 n0.legit, SlC NEOp v3_n0 n0.entry.batch.ops] := H.shutX (v1_n0, v2_n0, .slice none 0 0) [(1, false), (3, true), (4, true), (0, true)] rfl
   exact ⟨({ (default : ENote) with k := n0.k, conf := n0.conf, legit := n0.legit } : ENote), Z.sub (ts := [2, 3]) rfl, ⟨I, (H.sub [(2, false), (0, false)] rfl).eq rfl⟩, hF⟩
  ·replace hF := ite_f hc1 hF
   refine wp_seq (f_region Z ?_); clear Z; intro Z
   refine s_runk tN2 Z 2 rfl rfl ?_; clear Z a; intro a Z
   refine s_end Z [1, 2, 3, 8, 18] rfl ?_; clear Z; intro Z
   refine p_then ?_
   refine f_cond Z rfl (fun hc2 => ?_) (fun hc2 => ?_)
   ·replace hF := ite_t hc2 hF
    refine wp_seq (f_region Z ?_); clear Z; intro Z
    refine s_runk tN2 Z 1 rfl rfl ?_; clear Z a; intro a Z
    refine s_ob Z (v := .int .i64 n0.n) rfl rfl (by decide) rfl (Ob_load tN2 rfl rfl rfl ((H.bx 2 rfl).cell 1 rfl)) ?_; clear Z a; intro a Z
    refine s_runk tN2 Z 1 rfl rfl ?_; clear Z a; intro a Z
    refine h_store tN2 Z H 0 rfl rfl rfl rfl rfl rfl rfl rfl rfl (one_cons rfl one_nil) (Nat.le_of_ble_eq_true rfl) rfl ?_; clear H; intro w9 H
    dsimp only [List.eraseIdx] at H
    refine s_end Z [1, 2, 3] rfl ?_; clear Z; intro Z
    refine p_then ?_
    refine f_region Z ?_; clear Z; intro Z
    refine s_runk tN2 Z 1 rfl rfl ?_; clear Z a; intro a Z
    refine s_ob Z (v := .agg #[.int .i64 n0.entry.batch.client, .int .i64 n0.entry.batch.req, v3_n0, .int .u64 n0.entry.ts]) rfl rfl (by decide) rfl (Ob_loads tN2 rfl rfl rfl ((H.bx 2 rfl).part 7 rfl)) ?_; clear Z a; intro a Z
    refine s_runk tN2 Z 1 rfl rfl ?_; clear Z a; intro a Z
    refine h_store tN2 Z H 0 rfl rfl rfl rfl rfl rfl rfl rfl rfl (one_cons rfl (one_cons rfl (one_cons (slS.one (H.slshape 5 rfl)) (one_cons rfl one_nil)))) (Nat.le_of_ble_eq_true rfl) rfl ?_; clear H; intro w10 H
    dsimp only [List.eraseIdx] at H
    refine s_end Z [2, 3] rfl ?_; clear Z; intro Z
    refine p_blk ?_
    refine p_then ?_
    replace H : Hf I D w I w10 [SlC NEMember (.slice none 0 0) ([] : List EMember), BxC b3 39 [.int .i64 n0.k, .int .i64 n0.n, .int .u64 0, .int .i64 0, .slice none 0 0, .int .u64 0, .slice none 0 0, .int .i64 n0.entry.batch.client, .int .i64 n0.entry.batch.req, v3_n0, .int .u64 n0.entry.ts, .int .i64 0, .int .u64 0, .int .i64 0, .int .i64 0, .int .i64 0, .int .i64 0, .int .i64 0], BxC b2 39 [.int .i64 0, .int .i64 0, .int .u64 0, .int .i64 0, .slice none 0 0, .int .u64 0, .slice none 0 0, .int .i64 0, .int .i64 0, .slice none 0 0, .int .u64 0, .int .i64 0, .int .u64 0, .int .i64 0, .int .i64 0, .int .i64 0, .int .i64 0, .int .i64 0], BxC b1 39 (cENote n0 v1_n0 v2_n0 v3_n0), SlC NEMember v1_n0 n0.conf.members, SlC Ni64 v2_n0 n0.legit, SlC NEOp v3_n0 n0.entry.batch.ops] := H.slNil NEMember
    replace H : Hf I D w I w10 [SlC Ni64 (.slice none 0 0) ([] : List Int), SlC NEMember (.slice none 0 0) ([] : List EMember), BxC b3 39 [.int .i64 n0.k, .int .i64 n0.n, .int .u64 0, .int .i64 0, .slice none 0 0, .int .u64 0, .slice none 0 0, .int .i64 n0.entry.batch.client, .int .i64 n0.entry.batch.req, v3_n0, .int .u64 n0.entry.ts, .int .i64 0, .int .u64 0, .int .i64 0, .int .i64 0, .int .i64 0, .int .i64 0, .int .i64 0], BxC b2 39 [.int .i64 0, .int .i64 0, .int .u64 0, .int .i64 0, .slice none 0 0, .int .u64 0, .slice none 0 0, .int .i64 0, .int .i64 0, .slice none 0 0, .int .u64 0, .int .i64 0, .int .u64 0, .int .i64 0, .int .i64 0, .int .i64 0, .int .i64 0, .int .i64 0], BxC b1 39 (cENote n0 v1_n0 v2_n0 v3_n0), SlC NEMember v1_n0 n0.conf.members, SlC Ni64 v2_n0 n0.legit, SlC NEOp v3_n0 n0.entry.batch.ops] := H.slNil Ni64
    replace H : Hf I D w I w10 [RENote b3 ({ (default : ENote) with k := n0.k, n := n0.n, entry := n0.entry } : ENote), SlC Ni64 (.slice none 0 0) ([] : List Int), SlC NEMember (.slice none 0 0) ([] : List EMember), BxC b2 39 [.int .i64 0, .int .i64 0, .int .u64 0, .int .i64 0, .slice none 0 0, .int .u64 0, .slice none 0 0, .int .i64 0, .int .i64 0, .slice none 0 0, .int .u64 0, .int .i64 0, .int .u64 0, .int .i64 0, .int .i64 0, .int .i64 0, .int .i64 0, .int .i64 0], BxC b1 39 (cENote n0 v1_n0 v2_n0 v3_n0), SlC NEMember v1_n0 n0.conf.members, SlC Ni64 v2_n0 n0.legit, SlC NEOp v3_n0 n0.entry.batch.ops] := H.shutX (.slice none 0 0, .slice none 0 0, v3_n0) [(2, false), (1, true), (0, true), (6, true)] rfl
    exact ⟨({ (default : ENote) with k := n0.k, n := n0.n, entry := n0.entry } : ENote), Z.sub (ts := [2, 3]) rfl, ⟨I, (H.sub [(3, false), (0, false)] rfl).eq rfl⟩, hF⟩
   ·replace hF := ite_f hc2 hF
    refine f_cut (fun a' w' => ∃ (x_2 : Bool), Sl 52 [(1, .pointer (some ⟨b1, 0, none⟩)), (2, .pointer (some ⟨b2, 0, none⟩)), (3, .pointer (some ⟨b3, 0, none⟩)), (8, .int .i64 n0.k), (26, .bool x_2)] a' ∧ (∃ I2, Hf I D w I2 w' [BxC b1 39 (cENote n0 v1_n0 v2_n0 v3_n0), BxC b2 39 [.int .i64 0, .int .i64 0, .int .u64 0, .int .i64 0, .slice none 0 0, .int .u64 0, .slice none 0 0, .int .i64 0, .int .i64 0, .slice none 0 0, .int .u64 0, .int .i64 0, .int .u64 0, .int .i64 0, .int .i64 0, .int .i64 0, .int .i64 0, .int .i64 0], BxC b3 39 [.int .i64 n0.k, .int .i64 0, .int .u64 0, .int .i64 0, .slice none 0 0, .int .u64 0, .slice none 0 0, .int .i64 0, .int .i64 0, .slice none 0 0, .int .u64 0, .int .i64 0, .int .u64 0, .int .i64 0, .int .i64 0, .int .i64 0, .int .i64 0, .int .i64 0], SlC NEMember v1_n0 n0.conf.members, SlC Ni64 v2_n0 n0.legit, SlC NEOp v3_n0 n0.entry.batch.ops]) ∧ F_ref10_Clean_k2 n0 x_2 = some rr) ?_ ?_
    ·rintro a w11 ⟨x_2, Z, ⟨I2, H⟩, hF⟩
     unfold F_ref10_Clean_k2 at hF
     try dsimp only at hF
     refine f_cond Z rfl (fun hc3 => ?_) (fun hc3 => ?_)
     ·replace hF := ite_t hc3 hF
      refine wp_seq (f_region Z ?_); clear Z; intro Z
      refine s_runk tN2 Z 1 rfl rfl ?_; clear Z a; intro a Z
      refine s_ob Z (v := .int .i64 n0.n) rfl rfl (by decide) rfl (Ob_load tN2 rfl rfl rfl ((H.bx 0 rfl).cell 1 rfl)) ?_; clear Z a; intro a Z
      refine s_runk tN2 Z 1 rfl rfl ?_; clear Z a; intro a Z
      refine h_store tN2 Z H 2 rfl rfl rfl rfl rfl rfl rfl rfl rfl (one_cons rfl one_nil) (Nat.le_of_ble_eq_true rfl) rfl ?_; clear H; intro w12 H
      dsimp only [List.eraseIdx] at H
      refine s_end Z [1, 2, 3] rfl ?_; clear Z; intro Z
      refine p_then ?_
      refine f_region Z ?_; clear Z; intro Z
      refine s_runk tN2 Z 1 rfl rfl ?_; clear Z a; intro a Z
      refine s_ob Z (v := .int .u64 n0.at_) rfl rfl (by decide) rfl (Ob_load tN2 rfl rfl rfl ((H.bx 1 rfl).cell 2 rfl)) ?_; clear Z a; intro a Z
      refine s_runk tN2 Z 1 rfl rfl ?_; clear Z a; intro a Z
      refine h_store tN2 Z H 0 rfl rfl rfl rfl rfl rfl rfl rfl rfl (one_cons rfl one_nil) (Nat.le_of_ble_eq_true rfl) rfl ?_; clear H; intro w13 H
      dsimp only [List.eraseIdx] at H
      refine s_end Z [2, 3] rfl ?_; clear Z; intro Z
      refine p_blk ?_
      refine p_then ?_
      replace H : Hf I D w I2 w13 [SlC NEMember (.slice none 0 0) ([] : List EMember), BxC b3 39 [.int .i64 n0.k, .int .i64 n0.n, .int .u64 n0.at_, .int .i64 0, .slice none 0 0, .int .u64 0, .slice none 0 0, .int .i64 0, .int .i64 0, .slice none 0 0, .int .u64 0, .int .i64 0, .int .u64 0, .int .i64 0, .int .i64 0, .int .i64 0, .int .i64 0, .int .i64 0], BxC b1 39 (cENote n0 v1_n0 v2_n0 v3_n0), BxC b2 39 [.int .i64 0, .int .i64 0, .int .u64 0, .int .i64 0, .slice none 0 0, .int .u64 0, .slice none 0 0, .int .i64 0, .int .i64 0, .slice none 0 0, .int .u64 0, .int .i64 0, .int .u64 0, .int .i64 0, .int .i64 0, .int .i64 0, .int .i64 0, .int .i64 0], SlC NEMember v1_n0 n0.conf.members, SlC Ni64 v2_n0 n0.legit, SlC NEOp v3_n0 n0.entry.batch.ops] := H.slNil NEMember
      replace H : Hf I D w I2 w13 [SlC Ni64 (.slice none 0 0) ([] : List Int), SlC NEMember (.slice none 0 0) ([] : List EMember), BxC b3 39 [.int .i64 n0.k, .int .i64 n0.n, .int .u64 n0.at_, .int .i64 0, .slice none 0 0, .int .u64 0, .slice none 0 0, .int .i64 0, .int .i64 0, .slice none 0 0, .int .u64 0, .int .i64 0, .int .u64 0, .int .i64 0, .int .i64 0, .int .i64 0, .int .i64 0, .int .i64 0], BxC b1 39 (cENote n0 v1_n0 v2_n0 v3_n0), BxC b2 39 [.int .i64 0, .int .i64 0, .int .u64 0, .int .i64 0, .slice none 0 0, .int .u64 0, .slice none 0 0, .int .i64 0, .int .i64 0, .slice none 0 0, .int .u64 0, .int .i64 0, .int .u64 0, .int .i64 0, .int .i64 0, .int .i64 0, .int .i64 0, .int .i64 0], SlC NEMember v1_n0 n0.conf.members, SlC Ni64 v2_n0 n0.legit, SlC NEOp v3_n0 n0.entry.batch.ops] := H.slNil Ni64
      replace H : Hf I D w I2 w13 [SlC NEOp (.slice none 0 0) ([] : List EOp), SlC Ni64 (.slice none 0 0) ([] : List Int), SlC NEMember (.slice none 0 0) ([] : List EMember), BxC b3 39 [.int .i64 n0.k, .int .i64 n0.n, .int .u64 n0.at_, .int .i64 0, .slice none 0 0, .int .u64 0, .slice none 0 0, .int .i64 0, .int .i64 0, .slice none 0 0, .int .u64 0, .int .i64 0, .int .u64 0, .int .i64 0, .int .i64 0, .int .i64 0, .int .i64 0, .int .i64 0], BxC b1 39 (cENote n0 v1_n0 v2_n0 v3_n0), BxC b2 39 [.int .i64 0, .int .i64 0, .int .u64 0, .int .i64 0, .slice none 0 0, .int .u64 0, .slice none 0 0, .int .i64 0, .int .i64 0, .slice none 0 0, .int .u64 0, .int .i64 0, .int .u64 0, .int .i64 0, .int .i64 0, .int .i64 0, .int .i64 0, .int .i64 0], SlC NEMember v1_n0 n0.conf.members, SlC Ni64 v2_n0 n0.legit, SlC NEOp v3_n0 n0.entry.batch.ops] := H.slNil NEOp
      replace H : Hf I D w I2 w13 [RENote b3 ({ (default : ENote) with k := n0.k, n := n0.n, at_ := n0.at_ } : ENote), SlC NEOp (.slice none 0 0) ([] : List EOp), SlC Ni64 (.slice none 0 0) ([] : List Int), SlC NEMember (.slice none 0 0) ([] : List EMember), BxC b1 39 (cENote n0 v1_n0 v2_n0 v3_n0), BxC b2 39 [.int .i64 0, .int .i64 0, .int .u64 0, .int .i64 0, .slice none 0 0, .int .u64 0, .slice none 0 0, .int .i64 0, .int .i64 0, .slice none 0 0, .int .u64 0, .int .i64 0, .int .u64 0, .int .i64 0, .int .i64 0, .int .i64 0, .int .i64 0, .int .i64 0], SlC NEMember v1_n0 n0.conf.members, SlC Ni64 v2_n0 n0.legit, SlC NEOp v3_n0 n0.entry.batch.ops] := H.shutX (.slice none 0 0, .slice none 0 0, .slice none 0 0) [(3, false), (2, true), (1, true), (0, true)] rfl
      exact ⟨({ (default : ENote) with k := n0.k, n := n0.n, at_ := n0.at_ } : ENote), Z.sub (ts := [2, 3]) rfl, ⟨I2, (H.sub [(5, false), (0, false)] rfl).eq rfl⟩, hF⟩
     ·replace hF := ite_f hc3 hF
      refine f_cut (fun a' w' => ∃ (x_3 : Bool), Sl 52 [(1, .pointer (some ⟨b1, 0, none⟩)), (2, .pointer (some ⟨b2, 0, none⟩)), (3, .pointer (some ⟨b3, 0, none⟩)), (8, .int .i64 n0.k), (35, .bool x_3)] a' ∧ (∃ I2, Hf I D w I2 w' [BxC b1 39 (cENote n0 v1_n0 v2_n0 v3_n0), BxC b2 39 [.int .i64 0, .int .i64 0, .int .u64 0, .int .i64 0, .slice none 0 0, .int .u64 0, .slice none 0 0, .int .i64 0, .int .i64 0, .slice none 0 0, .int .u64 0, .int .i64 0, .int .u64 0, .int .i64 0, .int .i64 0, .int .i64 0, .int .i64 0, .int .i64 0], BxC b3 39 [.int .i64 n0.k, .int .i64 0, .int .u64 0, .int .i64 0, .slice none 0 0, .int .u64 0, .slice none 0 0, .int .i64 0, .int .i64 0, .slice none 0 0, .int .u64 0, .int .i64 0, .int .u64 0, .int .i64 0, .int .i64 0, .int .i64 0, .int .i64 0, .int .i64 0], SlC NEMember v1_n0 n0.conf.members, SlC Ni64 v2_n0 n0.legit, SlC NEOp v3_n0 n0.entry.batch.ops]) ∧ F_ref10_Clean_k3 n0 x_3 = some rr) ?_ ?_
      ·rintro a w14 ⟨x_3, Z, ⟨I3, H⟩, hF⟩
       unfold F_ref10_Clean_k3 at hF
       try dsimp only at hF
       refine f_cond Z rfl (fun hc4 => ?_) (fun hc4 => ?_)
       ·replace hF := ite_t hc4 hF
        refine f_region Z ?_; clear Z; intro Z
        refine s_runk tN2 Z 1 rfl rfl ?_; clear Z a; intro a Z
        refine s_ob Z (v := .int .i64 n0.n) rfl rfl (by decide) rfl (Ob_load tN2 rfl rfl rfl ((H.bx 0 rfl).cell 1 rfl)) ?_; clear Z a; intro a Z
        refine s_runk tN2 Z 1 rfl rfl ?_; clear Z a; intro a Z
        refine h_store tN2 Z H 2 rfl rfl rfl rfl rfl rfl rfl rfl rfl (one_cons rfl one_nil) (Nat.le_of_ble_eq_true rfl) rfl ?_; clear H; intro w15 H
        dsimp only [List.eraseIdx] at H
        refine s_end Z [2, 3] rfl ?_; clear Z; intro Z
        refine p_blk ?_
        refine p_then ?_
        replace H : Hf I D w I3 w15 [SlC NEMember (.slice none 0 0) ([] : List EMember), BxC b3 39 [.int .i64 n0.k, .int .i64 n0.n, .int .u64 0, .int .i64 0, .slice none 0 0, .int .u64 0, .slice none 0 0, .int .i64 0, .int .i64 0, .slice none 0 0, .int .u64 0, .int .i64 0, .int .u64 0, .int .i64 0, .int .i64 0, .int .i64 0, .int .i64 0, .int .i64 0], BxC b1 39 (cENote n0 v1_n0 v2_n0 v3_n0), BxC b2 39 [.int .i64 0, .int .i64 0, .int .u64 0, .int .i64 0, .slice none 0 0, .int .u64 0, .slice none 0 0, .int .i64 0, .int .i64 0, .slice none 0 0, .int .u64 0, .int .i64 0, .int .u64 0, .int .i64 0, .int .i64 0, .int .i64 0, .int .i64 0, .int .i64 0], SlC NEMember v1_n0 n0.conf.members, SlC Ni64 v2_n0 n0.legit, SlC NEOp v3_n0 n0.entry.batch.ops] := H.slNil NEMember
        replace H : Hf I D w I3 w15 [SlC Ni64 (.slice none 0 0) ([] : List Int), SlC NEMember (.slice none 0 0) ([] : List EMember), BxC b3 39 [.int .i64 n0.k, .int .i64 n0.n, .int .u64 0, .int .i64 0, .slice none 0 0, .int .u64 0, .slice none 0 0, .int .i64 0, .int .i64 0, .slice none 0 0, .int .u64 0, .int .i64 0, .int .u64 0, .int .i64 0, .int .i64 0, .int .i64 0, .int .i64 0, .int .i64 0], BxC b1 39 (cENote n0 v1_n0 v2_n0 v3_n0), BxC b2 39 [.int .i64 0, .int .i64 0, .int .u64 0, .int .i64 0, .slice none 0 0, .int .u64 0, .slice none 0 0, .int .i64 0, .int .i64 0, .slice none 0 0, .int .u64 0, .int .i64 0, .int .u64 0, .int .i64 0, .int .i64 0, .int .i64 0, .int .i64 0, .int .i64 0], SlC NEMember v1_n0 n0.conf.members, SlC Ni64 v2_n0 n0.legit, SlC NEOp v3_n0 n0.entry.batch.ops] := H.slNil Ni64
        replace H : Hf I D w I3 w15 [SlC NEOp (.slice none 0 0) ([] : List EOp), SlC Ni64 (.slice none 0 0) ([] : List Int), SlC NEMember (.slice none 0 0) ([] : List EMember), BxC b3 39 [.int .i64 n0.k, .int .i64 n0.n, .int .u64 0, .int .i64 0, .slice none 0 0, .int .u64 0, .slice none 0 0, .int .i64 0, .int .i64 0, .slice none 0 0, .int .u64 0, .int .i64 0, .int .u64 0, .int .i64 0, .int .i64 0, .int .i64 0, .int .i64 0, .int .i64 0], BxC b1 39 (cENote n0 v1_n0 v2_n0 v3_n0), BxC b2 39 [.int .i64 0, .int .i64 0, .int .u64 0, .int .i64 0, .slice none 0 0, .int .u64 0, .slice none 0 0, .int .i64 0, .int .i64 0, .slice none 0 0, .int .u64 0, .int .i64 0, .int .u64 0, .int .i64 0, .int .i64 0, .int .i64 0, .int .i64 0, .int .i64 0], SlC NEMember v1_n0 n0.conf.members, SlC Ni64 v2_n0 n0.legit, SlC NEOp v3_n0 n0.entry.batch.ops] := H.slNil NEOp
        replace H : Hf I D w I3 w15 [RENote b3 ({ (default : ENote) with k := n0.k, n := n0.n } : ENote), SlC NEOp (.slice none 0 0) ([] : List EOp), SlC Ni64 (.slice none 0 0) ([] : List Int), SlC NEMember (.slice none 0 0) ([] : List EMember), BxC b1 39 (cENote n0 v1_n0 v2_n0 v3_n0), BxC b2 39 [.int .i64 0, .int .i64 0, .int .u64 0, .int .i64 0, .slice none 0 0, .int .u64 0, .slice none 0 0, .int .i64 0, .int .i64 0, .slice none 0 0, .int .u64 0, .int .i64 0, .int .u64 0, .int .i64 0, .int .i64 0, .int .i64 0, .int .i64 0, .int .i64 0], SlC NEMember v1_n0 n0.conf.members, SlC Ni64 v2_n0 n0.legit, SlC NEOp v3_n0 n0.entry.batch.ops] := H.shutX (.slice none 0 0, .slice none 0 0, .slice none 0 0) [(3, false), (2, true), (1, true), (0, true)] rfl
        exact ⟨({ (default : ENote) with k := n0.k, n := n0.n } : ENote), Z.sub (ts := [2, 3]) rfl, ⟨I3, (H.sub [(5, false), (0, false)] rfl).eq rfl⟩, hF⟩
       ·replace hF := ite_f hc4 hF
        refine wp_seq (f_region Z ?_); clear Z; intro Z
        refine s_runk tN2 Z 2 rfl rfl ?_; clear Z a; intro a Z
        refine s_end Z [1, 2, 3, 8, 41] rfl ?_; clear Z; intro Z
        refine p_then ?_
        refine f_cond Z rfl (fun hc5 => ?_) (fun hc5 => ?_)
        ·replace hF := ite_t hc5 hF
         refine f_region Z ?_; clear Z; intro Z
         refine s_runk tN2 Z 1 rfl rfl ?_; clear Z a; intro a Z
         refine s_ob Z (v := .agg #[.int .i64 n0.pin.id, .int .u64 n0.pin.at_, .int .i64 n0.pin.left]) rfl rfl (by decide) rfl (Ob_loads tN2 rfl rfl rfl ((H.bx 0 rfl).part 11 rfl)) ?_; clear Z a; intro a Z
         refine s_runk tN2 Z 1 rfl rfl ?_; clear Z a; intro a Z
         refine h_store tN2 Z H 2 rfl rfl rfl rfl rfl rfl rfl rfl rfl (one_cons rfl (one_cons rfl (one_cons rfl one_nil))) (Nat.le_of_ble_eq_true rfl) rfl ?_; clear H; intro w16 H
         dsimp only [List.eraseIdx] at H
         refine s_end Z [2, 3] rfl ?_; clear Z; intro Z
         refine p_blk ?_
         refine p_then ?_
         replace H : Hf I D w I3 w16 [SlC NEMember (.slice none 0 0) ([] : List EMember), BxC b3 39 [.int .i64 n0.k, .int .i64 0, .int .u64 0, .int .i64 0, .slice none 0 0, .int .u64 0, .slice none 0 0, .int .i64 0, .int .i64 0, .slice none 0 0, .int .u64 0, .int .i64 n0.pin.id, .int .u64 n0.pin.at_, .int .i64 n0.pin.left, .int .i64 0, .int .i64 0, .int .i64 0, .int .i64 0], BxC b1 39 (cENote n0 v1_n0 v2_n0 v3_n0), BxC b2 39 [.int .i64 0, .int .i64 0, .int .u64 0, .int .i64 0, .slice none 0 0, .int .u64 0, .slice none 0 0, .int .i64 0, .int .i64 0, .slice none 0 0, .int .u64 0, .int .i64 0, .int .u64 0, .int .i64 0, .int .i64 0, .int .i64 0, .int .i64 0, .int .i64 0], SlC NEMember v1_n0 n0.conf.members, SlC Ni64 v2_n0 n0.legit, SlC NEOp v3_n0 n0.entry.batch.ops] := H.slNil NEMember
         replace H : Hf I D w I3 w16 [SlC Ni64 (.slice none 0 0) ([] : List Int), SlC NEMember (.slice none 0 0) ([] : List EMember), BxC b3 39 [.int .i64 n0.k, .int .i64 0, .int .u64 0, .int .i64 0, .slice none 0 0, .int .u64 0, .slice none 0 0, .int .i64 0, .int .i64 0, .slice none 0 0, .int .u64 0, .int .i64 n0.pin.id, .int .u64 n0.pin.at_, .int .i64 n0.pin.left, .int .i64 0, .int .i64 0, .int .i64 0, .int .i64 0], BxC b1 39 (cENote n0 v1_n0 v2_n0 v3_n0), BxC b2 39 [.int .i64 0, .int .i64 0, .int .u64 0, .int .i64 0, .slice none 0 0, .int .u64 0, .slice none 0 0, .int .i64 0, .int .i64 0, .slice none 0 0, .int .u64 0, .int .i64 0, .int .u64 0, .int .i64 0, .int .i64 0, .int .i64 0, .int .i64 0, .int .i64 0], SlC NEMember v1_n0 n0.conf.members, SlC Ni64 v2_n0 n0.legit, SlC NEOp v3_n0 n0.entry.batch.ops] := H.slNil Ni64
         replace H : Hf I D w I3 w16 [SlC NEOp (.slice none 0 0) ([] : List EOp), SlC Ni64 (.slice none 0 0) ([] : List Int), SlC NEMember (.slice none 0 0) ([] : List EMember), BxC b3 39 [.int .i64 n0.k, .int .i64 0, .int .u64 0, .int .i64 0, .slice none 0 0, .int .u64 0, .slice none 0 0, .int .i64 0, .int .i64 0, .slice none 0 0, .int .u64 0, .int .i64 n0.pin.id, .int .u64 n0.pin.at_, .int .i64 n0.pin.left, .int .i64 0, .int .i64 0, .int .i64 0, .int .i64 0], BxC b1 39 (cENote n0 v1_n0 v2_n0 v3_n0), BxC b2 39 [.int .i64 0, .int .i64 0, .int .u64 0, .int .i64 0, .slice none 0 0, .int .u64 0, .slice none 0 0, .int .i64 0, .int .i64 0, .slice none 0 0, .int .u64 0, .int .i64 0, .int .u64 0, .int .i64 0, .int .i64 0, .int .i64 0, .int .i64 0, .int .i64 0], SlC NEMember v1_n0 n0.conf.members, SlC Ni64 v2_n0 n0.legit, SlC NEOp v3_n0 n0.entry.batch.ops] := H.slNil NEOp
         replace H : Hf I D w I3 w16 [RENote b3 ({ (default : ENote) with k := n0.k, pin := n0.pin } : ENote), SlC NEOp (.slice none 0 0) ([] : List EOp), SlC Ni64 (.slice none 0 0) ([] : List Int), SlC NEMember (.slice none 0 0) ([] : List EMember), BxC b1 39 (cENote n0 v1_n0 v2_n0 v3_n0), BxC b2 39 [.int .i64 0, .int .i64 0, .int .u64 0, .int .i64 0, .slice none 0 0, .int .u64 0, .slice none 0 0, .int .i64 0, .int .i64 0, .slice none 0 0, .int .u64 0, .int .i64 0, .int .u64 0, .int .i64 0, .int .i64 0, .int .i64 0, .int .i64 0, .int .i64 0], SlC NEMember v1_n0 n0.conf.members, SlC Ni64 v2_n0 n0.legit, SlC NEOp v3_n0 n0.entry.batch.ops] := H.shutX (.slice none 0 0, .slice none 0 0, .slice none 0 0) [(3, false), (2, true), (1, true), (0, true)] rfl
         exact ⟨({ (default : ENote) with k := n0.k, pin := n0.pin } : ENote), Z.sub (ts := [2, 3]) rfl, ⟨I3, (H.sub [(5, false), (0, false)] rfl).eq rfl⟩, hF⟩
        ·replace hF := ite_f hc5 hF
         refine wp_seq (f_region Z ?_); clear Z; intro Z
         refine s_runk tN2 Z 2 rfl rfl ?_; clear Z a; intro a Z
         refine s_end Z [1, 2, 3, 46] rfl ?_; clear Z; intro Z
         refine p_then ?_
         refine f_cond Z rfl (fun hc6 => ?_) (fun hc6 => ?_)
         ·replace hF := ite_t hc6 hF
          refine f_region Z ?_; clear Z; intro Z
          refine s_runk tN2 Z 1 rfl rfl ?_; clear Z a; intro a Z
          refine s_ob Z (v := .agg #[.int .i64 n0.said.client, .int .i64 n0.said.req, .int .i64 n0.said.e, .int .i64 n0.said.pin]) rfl rfl (by decide) rfl (Ob_loads tN2 rfl rfl rfl ((H.bx 0 rfl).part 14 rfl)) ?_; clear Z a; intro a Z
          refine s_runk tN2 Z 1 rfl rfl ?_; clear Z a; intro a Z
          refine h_store tN2 Z H 2 rfl rfl rfl rfl rfl rfl rfl rfl rfl (one_cons rfl (one_cons rfl (one_cons rfl (one_cons rfl one_nil)))) (Nat.le_of_ble_eq_true rfl) rfl ?_; clear H; intro w17 H
          dsimp only [List.eraseIdx] at H
          refine s_end Z [2, 3] rfl ?_; clear Z; intro Z
          refine p_blk ?_
          refine p_then ?_
          replace H : Hf I D w I3 w17 [SlC NEMember (.slice none 0 0) ([] : List EMember), BxC b3 39 [.int .i64 n0.k, .int .i64 0, .int .u64 0, .int .i64 0, .slice none 0 0, .int .u64 0, .slice none 0 0, .int .i64 0, .int .i64 0, .slice none 0 0, .int .u64 0, .int .i64 0, .int .u64 0, .int .i64 0, .int .i64 n0.said.client, .int .i64 n0.said.req, .int .i64 n0.said.e, .int .i64 n0.said.pin], BxC b1 39 (cENote n0 v1_n0 v2_n0 v3_n0), BxC b2 39 [.int .i64 0, .int .i64 0, .int .u64 0, .int .i64 0, .slice none 0 0, .int .u64 0, .slice none 0 0, .int .i64 0, .int .i64 0, .slice none 0 0, .int .u64 0, .int .i64 0, .int .u64 0, .int .i64 0, .int .i64 0, .int .i64 0, .int .i64 0, .int .i64 0], SlC NEMember v1_n0 n0.conf.members, SlC Ni64 v2_n0 n0.legit, SlC NEOp v3_n0 n0.entry.batch.ops] := H.slNil NEMember
          replace H : Hf I D w I3 w17 [SlC Ni64 (.slice none 0 0) ([] : List Int), SlC NEMember (.slice none 0 0) ([] : List EMember), BxC b3 39 [.int .i64 n0.k, .int .i64 0, .int .u64 0, .int .i64 0, .slice none 0 0, .int .u64 0, .slice none 0 0, .int .i64 0, .int .i64 0, .slice none 0 0, .int .u64 0, .int .i64 0, .int .u64 0, .int .i64 0, .int .i64 n0.said.client, .int .i64 n0.said.req, .int .i64 n0.said.e, .int .i64 n0.said.pin], BxC b1 39 (cENote n0 v1_n0 v2_n0 v3_n0), BxC b2 39 [.int .i64 0, .int .i64 0, .int .u64 0, .int .i64 0, .slice none 0 0, .int .u64 0, .slice none 0 0, .int .i64 0, .int .i64 0, .slice none 0 0, .int .u64 0, .int .i64 0, .int .u64 0, .int .i64 0, .int .i64 0, .int .i64 0, .int .i64 0, .int .i64 0], SlC NEMember v1_n0 n0.conf.members, SlC Ni64 v2_n0 n0.legit, SlC NEOp v3_n0 n0.entry.batch.ops] := H.slNil Ni64
          replace H : Hf I D w I3 w17 [SlC NEOp (.slice none 0 0) ([] : List EOp), SlC Ni64 (.slice none 0 0) ([] : List Int), SlC NEMember (.slice none 0 0) ([] : List EMember), BxC b3 39 [.int .i64 n0.k, .int .i64 0, .int .u64 0, .int .i64 0, .slice none 0 0, .int .u64 0, .slice none 0 0, .int .i64 0, .int .i64 0, .slice none 0 0, .int .u64 0, .int .i64 0, .int .u64 0, .int .i64 0, .int .i64 n0.said.client, .int .i64 n0.said.req, .int .i64 n0.said.e, .int .i64 n0.said.pin], BxC b1 39 (cENote n0 v1_n0 v2_n0 v3_n0), BxC b2 39 [.int .i64 0, .int .i64 0, .int .u64 0, .int .i64 0, .slice none 0 0, .int .u64 0, .slice none 0 0, .int .i64 0, .int .i64 0, .slice none 0 0, .int .u64 0, .int .i64 0, .int .u64 0, .int .i64 0, .int .i64 0, .int .i64 0, .int .i64 0, .int .i64 0], SlC NEMember v1_n0 n0.conf.members, SlC Ni64 v2_n0 n0.legit, SlC NEOp v3_n0 n0.entry.batch.ops] := H.slNil NEOp
          replace H : Hf I D w I3 w17 [RENote b3 ({ (default : ENote) with k := n0.k, said := n0.said } : ENote), SlC NEOp (.slice none 0 0) ([] : List EOp), SlC Ni64 (.slice none 0 0) ([] : List Int), SlC NEMember (.slice none 0 0) ([] : List EMember), BxC b1 39 (cENote n0 v1_n0 v2_n0 v3_n0), BxC b2 39 [.int .i64 0, .int .i64 0, .int .u64 0, .int .i64 0, .slice none 0 0, .int .u64 0, .slice none 0 0, .int .i64 0, .int .i64 0, .slice none 0 0, .int .u64 0, .int .i64 0, .int .u64 0, .int .i64 0, .int .i64 0, .int .i64 0, .int .i64 0, .int .i64 0], SlC NEMember v1_n0 n0.conf.members, SlC Ni64 v2_n0 n0.legit, SlC NEOp v3_n0 n0.entry.batch.ops] := H.shutX (.slice none 0 0, .slice none 0 0, .slice none 0 0) [(3, false), (2, true), (1, true), (0, true)] rfl
          exact ⟨({ (default : ENote) with k := n0.k, said := n0.said } : ENote), Z.sub (ts := [2, 3]) rfl, ⟨I3, (H.sub [(5, false), (0, false)] rfl).eq rfl⟩, hF⟩
         ·replace hF := ite_f hc6 hF
          refine wp_seq (f_region Z ?_); clear Z; intro Z
          refine s_ob Z (v := .agg #[.int .i64 0, .int .i64 0, .int .u64 0, .int .i64 0, .slice none 0 0, .int .u64 0, .slice none 0 0, .int .i64 0, .int .i64 0, .slice none 0 0, .int .u64 0, .int .i64 0, .int .u64 0, .int .i64 0, .int .i64 0, .int .i64 0, .int .i64 0, .int .i64 0]) rfl rfl (by decide) rfl (Ob_build (vs := []) rfl rfl (by go_simp <;> rfl)) ?_; clear Z a; intro a Z
          refine h_store tN2 Z H 1 rfl rfl rfl rfl rfl rfl rfl rfl rfl (one_cons rfl (one_cons rfl (one_cons rfl (one_cons rfl (one_cons (slS.one slS.nil) (one_cons rfl (one_cons (slS.one slS.nil) (one_cons rfl (one_cons rfl (one_cons (slS.one slS.nil) (one_cons rfl (one_cons rfl (one_cons rfl (one_cons rfl (one_cons rfl (one_cons rfl (one_cons rfl (one_cons rfl one_nil)))))))))))))))))) (Nat.le_of_ble_eq_true rfl) (putCells_all rfl) ?_; clear H; intro w18 H
          dsimp only [List.eraseIdx] at H
          refine s_end Z [2, 3] rfl ?_; clear Z; intro Z
          refine p_then (wp_ret ?_)
          refine p_blk_r ?_
          refine p_then_r ?_
          replace H : Hf I D w I3 w18 [SlC NEMember (.slice none 0 0) ([] : List EMember), BxC b2 39 [.int .i64 0, .int .i64 0, .int .u64 0, .int .i64 0, .slice none 0 0, .int .u64 0, .slice none 0 0, .int .i64 0, .int .i64 0, .slice none 0 0, .int .u64 0, .int .i64 0, .int .u64 0, .int .i64 0, .int .i64 0, .int .i64 0, .int .i64 0, .int .i64 0], BxC b1 39 (cENote n0 v1_n0 v2_n0 v3_n0), BxC b3 39 [.int .i64 n0.k, .int .i64 0, .int .u64 0, .int .i64 0, .slice none 0 0, .int .u64 0, .slice none 0 0, .int .i64 0, .int .i64 0, .slice none 0 0, .int .u64 0, .int .i64 0, .int .u64 0, .int .i64 0, .int .i64 0, .int .i64 0, .int .i64 0, .int .i64 0], SlC NEMember v1_n0 n0.conf.members, SlC Ni64 v2_n0 n0.legit, SlC NEOp v3_n0 n0.entry.batch.ops] := H.slNil NEMember
          replace H : Hf I D w I3 w18 [SlC Ni64 (.slice none 0 0) ([] : List Int), SlC NEMember (.slice none 0 0) ([] : List EMember), BxC b2 39 [.int .i64 0, .int .i64 0, .int .u64 0, .int .i64 0, .slice none 0 0, .int .u64 0, .slice none 0 0, .int .i64 0, .int .i64 0, .slice none 0 0, .int .u64 0, .int .i64 0, .int .u64 0, .int .i64 0, .int .i64 0, .int .i64 0, .int .i64 0, .int .i64 0], BxC b1 39 (cENote n0 v1_n0 v2_n0 v3_n0), BxC b3 39 [.int .i64 n0.k, .int .i64 0, .int .u64 0, .int .i64 0, .slice none 0 0, .int .u64 0, .slice none 0 0, .int .i64 0, .int .i64 0, .slice none 0 0, .int .u64 0, .int .i64 0, .int .u64 0, .int .i64 0, .int .i64 0, .int .i64 0, .int .i64 0, .int .i64 0], SlC NEMember v1_n0 n0.conf.members, SlC Ni64 v2_n0 n0.legit, SlC NEOp v3_n0 n0.entry.batch.ops] := H.slNil Ni64
          replace H : Hf I D w I3 w18 [SlC NEOp (.slice none 0 0) ([] : List EOp), SlC Ni64 (.slice none 0 0) ([] : List Int), SlC NEMember (.slice none 0 0) ([] : List EMember), BxC b2 39 [.int .i64 0, .int .i64 0, .int .u64 0, .int .i64 0, .slice none 0 0, .int .u64 0, .slice none 0 0, .int .i64 0, .int .i64 0, .slice none 0 0, .int .u64 0, .int .i64 0, .int .u64 0, .int .i64 0, .int .i64 0, .int .i64 0, .int .i64 0, .int .i64 0], BxC b1 39 (cENote n0 v1_n0 v2_n0 v3_n0), BxC b3 39 [.int .i64 n0.k, .int .i64 0, .int .u64 0, .int .i64 0, .slice none 0 0, .int .u64 0, .slice none 0 0, .int .i64 0, .int .i64 0, .slice none 0 0, .int .u64 0, .int .i64 0, .int .u64 0, .int .i64 0, .int .i64 0, .int .i64 0, .int .i64 0, .int .i64 0], SlC NEMember v1_n0 n0.conf.members, SlC Ni64 v2_n0 n0.legit, SlC NEOp v3_n0 n0.entry.batch.ops] := H.slNil NEOp
          obtain rfl := some_in hF
          exact f_ret Z (run_resultsC rfl Z rfl (run_loadVar_agg tN2 rfl (H.bx 3 rfl).at)) ⟨.slice none 0 0, .slice none 0 0, .slice none 0 0, rfl, I3, (H.sub [(2, true), (1, true), (0, true)] rfl).eq rfl⟩
      ·skip
       refine wp_seq (f_region Z ?_); clear Z; intro Z
       refine s_runk tN2 Z 2 rfl rfl ?_; clear Z a; intro a Z
       refine s_end Z [1, 2, 3, 8, 35] rfl ?_; clear Z; intro Z
       refine p_then ?_
       refine f_cond Z rfl (fun hc7 => ?_) (fun hc7 => ?_)
       ·replace hF := ite_t hc7 hF
        refine wp_skip ?_
        refine p_then ?_
        exact ⟨n0.k == 5, Z.sub (ts := [1, 2, 3, 8, 35]) rfl, ⟨I2, (H.sub [(0, false), (0, false), (0, false), (0, true), (1, true), (2, true)] rfl).eq rfl⟩, hF⟩
       ·replace hF := ite_f hc7 hF
        refine f_region Z ?_; clear Z; intro Z
        refine s_runk tN2 Z 2 rfl rfl ?_; clear Z a; intro a Z
        refine s_end Z [1, 2, 3, 8, 35] rfl ?_; clear Z; intro Z
        refine p_then ?_
        exact ⟨n0.k == 7, Z.sub (ts := [1, 2, 3, 8, 35]) rfl, ⟨I2, (H.sub [(0, false), (0, false), (0, false), (0, true), (1, true), (2, true)] rfl).eq rfl⟩, hF⟩
    ·skip
     refine wp_seq (f_region Z ?_); clear Z; intro Z
     refine s_runk tN2 Z 2 rfl rfl ?_; clear Z a; intro a Z
     refine s_end Z [1, 2, 3, 8, 26] rfl ?_; clear Z; intro Z
     refine p_then ?_
     refine f_cond Z rfl (fun hc8 => ?_) (fun hc8 => ?_)
     ·replace hF := ite_t hc8 hF
      refine wp_skip ?_
      refine p_then ?_
      exact ⟨n0.k == 3, Z.sub (ts := [1, 2, 3, 8, 26]) rfl, ⟨I, (H.sub [(2, false), (1, false), (0, false), (0, true), (1, true), (2, true)] rfl).eq rfl⟩, hF⟩
     ·replace hF := ite_f hc8 hF
      refine f_region Z ?_; clear Z; intro Z
      refine s_runk tN2 Z 2 rfl rfl ?_; clear Z a; intro a Z
      refine s_end Z [1, 2, 3, 8, 26] rfl ?_; clear Z; intro Z
      refine p_then ?_
      exact ⟨n0.k == 4, Z.sub (ts := [1, 2, 3, 8, 26]) rfl, ⟨I, (H.sub [(2, false), (1, false), (0, false), (0, true), (1, true), (2, true)] rfl).eq rfl⟩, hF⟩

def F_ref10_SameInts_l1 (a0 : List Int) (b : List Int) (rc : Int → Option Bool) (sg : Int) : Option Bool := match sg with | i => if ((decide (i < (a0.length : Int))) && (decide (i < (b.length : Int)))) = true then (chk ((0 : Int) ≤ i ∧ i < (a0.length : Int)) (chk ((0 : Int) ≤ i ∧ i < (b.length : Int)) (if ((a0.getD (i).toNat default) != (b.getD (i).toNat default)) = true then (some false) else (chk (inI (i + 1)) (rc (i + 1)))))) else (some true)

def F_ref10_SameInts (a0 : List Int) (b : List Int) : Option Bool := if ((a0.length : Int) != (b.length : Int)) = true then (some false) else (iter (F_ref10_SameInts_l1 a0 b) FU 0)

set_option maxHeartbeats 1000000 in
theorem c_ref10_SameInts {I D : Dm} {a0 : List Int} {v1_a0 : Value} {b : List Int} {v2_b : Value} {w : World} {rr : Bool} (hF : F_ref10_SameInts a0 b = some rr) (H : St I D w [SlC Ni64 v1_a0 a0, SlC Ni64 v2_b b]) :
  Calls Try.prog 28 #[v1_a0, v2_b] w (Ret fun vv w' => vv = .bool rr ∧ ∃ I', Hf I D w I' w' []) := by
 replace H := H.hf
 unfold F_ref10_SameInts at hF
 refine f_enter 32 Try.func28 rfl rfl (Nat.le_of_ble_eq_true rfl) fun a Z => ?_
 replace Z := Z.sub (ts := [0, 1]) rfl
 refine wp_seq (f_region Z ?_); clear Z; intro Z
 refine s_runk tN2 Z 1 rfl rfl ?_; clear Z a; intro a Z
 refine s_end Z [0, 1, 4] rfl ?_; clear Z; intro Z
 refine p_then (wp_seq ?_)
 refine wp_seq (f_region Z ?_); clear Z; intro Z
 refine s_runk tN2 Z 1 rfl rfl ?_; clear Z a; intro a Z
 refine s_ob Z (v := .int .i64 (a0.length : Int)) rfl rfl (by decide) rfl (Ob_slen tN2 rfl rfl rfl (H.slshape 0 rfl)) ?_; clear Z a; intro a Z
 refine s_runk tN2 Z 1 rfl rfl ?_; clear Z a; intro a Z
 refine s_ob Z (v := .int .i64 (b.length : Int)) rfl rfl (by decide) rfl (Ob_slen tN2 rfl rfl rfl (H.slshape 1 rfl)) ?_; clear Z a; intro a Z
 refine s_runk tN2 Z 1 rfl rfl ?_; clear Z a; intro a Z
 refine s_end Z [0, 1, 4, 10] rfl ?_; clear Z; intro Z
 refine p_then ?_
 refine f_cond Z rfl (fun hc1 => ?_) (fun hc1 => ?_)
 ·replace hF := ite_t hc1 hF
  refine wp_seq (f_region Z ?_); clear Z; intro Z
  refine s_runk tN2 Z 1 rfl rfl ?_; clear Z a; intro a Z
  refine s_end Z [0, 1, 4] rfl ?_; clear Z; intro Z
  refine p_then (wp_ret ?_)
  refine p_then_r ?_
  obtain rfl := some_in hF
  exact f_ret Z (run_results1 rfl Z rfl) ⟨rfl, I, (H.sub [] rfl).eq rfl⟩
 ·replace hF := ite_f hc1 hF
  refine wp_skip ?_
  refine p_then (wp_seq ?_)
  refine wp_seq (f_region Z ?_); clear Z; intro Z
  refine s_runk tN2 Z 1 rfl rfl ?_; clear Z a; intro a Z
  refine s_end Z [0, 1, 4, 5] rfl ?_; clear Z; intro Z
  refine p_then (wp_block ?_)
  refine f_iter hF (fun sg a' w' => match sg with | i => Sl 32 [(0, v1_a0), (1, v2_b), (4, .bool false), (5, .int .i64 i)] a' ∧ ∃ I2, Hf I D w I2 w' [SlC Ni64 v1_a0 a0, SlC Ni64 v2_b b]) ⟨Z.sub (ts := [0, 1, 4, 5]) rfl, ⟨I, (H.sub [(0, true), (1, true)] rfl).eq rfl⟩⟩ ?_
  clear Z H hF a
  rintro rc i a w1 ⟨Z, I1, H⟩ hF
  unfold F_ref10_SameInts_l1 at hF
  try dsimp only at hF
  refine wp_seq ?_
  refine wp_seq (f_region Z ?_); clear Z; intro Z
  refine s_runk tN2 Z 2 rfl rfl ?_; clear Z a; intro a Z
  refine s_ob Z (v := .int .i64 (a0.length : Int)) rfl rfl (by decide) rfl (Ob_slen tN2 rfl rfl rfl (H.slshape 0 rfl)) ?_; clear Z a; intro a Z
  refine s_runk tN2 Z 2 rfl rfl ?_; clear Z a; intro a Z
  refine g_ob Z (p := (decide (i < (a0.length : Int)))) (v := .int .i64 i) (S' := [(5, .int .i64 i)]) rfl rfl rfl (wantB_t _) rfl (by decide) (fun hp hS => hS.sub (ts := [5]) rfl) (fun hp => Ob_c tN2 rfl) ?_; clear Z a; intro a Z
  refine g_ob Z (p := (decide (i < (a0.length : Int)))) (v := v2_b) (S' := [(1, v2_b)]) rfl rfl rfl (wantB_t _) rfl (by decide) (fun hp hS => hS.sub (ts := [1]) rfl) (fun hp => Ob_c tN2 rfl) ?_; clear Z a; intro a Z
  refine g_ob Z (p := (decide (i < (a0.length : Int)))) (v := .int .i64 (b.length : Int)) (S' := [(17, v2_b)]) rfl rfl rfl (wantB_t _) rfl (by decide) (fun hp hS => (hS.conv (t := 17) rfl (cond_t hp)).sub (ts := [17]) rfl) (fun hp => Ob_slen tN2 rfl rfl rfl (H.slshape 1 rfl)) ?_; clear Z a; intro a Z
  refine g_ob Z (p := (decide (i < (a0.length : Int)))) (v := .bool (decide (i < (b.length : Int)))) (S' := [(16, .int .i64 i), (18, .int .i64 (b.length : Int))]) rfl rfl rfl (wantB_t _) rfl (by decide) (fun hp hS => ((hS.conv (t := 16) rfl (cond_t hp)).conv (t := 18) rfl (cond_t hp)).sub (ts := [16, 18]) rfl) (fun hp => Ob_c tN2 rfl) ?_; clear Z a; intro a Z
  refine s_ob Z (v := .bool ((decide (i < (a0.length : Int))) && (decide (i < (b.length : Int))))) rfl rfl (by decide) rfl (Ob_pick rfl rfl rfl rfl (pick_and _ _)) ?_; clear Z a; intro a Z
  refine s_end Z [0, 1, 4, 5, 11, 12, 13, 14, 15, 20] rfl ?_; clear Z; intro Z
  refine p_then ?_
  refine f_cond Z rfl (fun hc2 => ?_) (fun hc2 => ?_)
  ·replace hF := ite_t hc2 hF
   refine wp_skip ?_
   refine p_then (wp_seq ?_)
   refine wp_block ?_
   refine wp_seq ?_
   obtain ⟨hg1, hF⟩ := chk_in hF
   obtain ⟨hg2, hF⟩ := chk_in hF
   refine f_quietd (by kernel_rfl) (by kernel_rfl) Z ?_; clear Z; intro Z
   refine q_runk tN2 Z 2 rfl rfl ?_; clear Z a; intro a Z
   refine q_ob Z (v := .pointer (some ⟨blkOf v1_a0, oofOf v1_a0 + (i).toNat * 1, none⟩)) rfl rfl (by decide) rfl (fun _ hw => Ob_sidx tN2 rfl rfl rfl rfl (slPl ((H.blw hw).sl 0 rfl) hg1) hg1) ?_; clear Z a; intro a Z
   refine q_ob Z (v := .int .i64 (a0.getD (i).toNat default)) rfl rfl (by decide) rfl (fun _ hw => Ob_load tN2 rfl rfl rfl ((slFl ((H.blw hw).sl 0 rfl) hg1) 0 _ rfl)) ?_; clear Z a; intro a Z
   refine q_runk tN2 Z 2 rfl rfl ?_; clear Z a; intro a Z
   refine q_ob Z (v := .pointer (some ⟨blkOf v2_b, oofOf v2_b + (i).toNat * 1, none⟩)) rfl rfl (by decide) rfl (fun _ hw => Ob_sidx tN2 rfl rfl rfl rfl (slPl ((H.blw hw).sl 1 rfl) hg2) hg2) ?_; clear Z a; intro a Z
   refine q_ob Z (v := .int .i64 (b.getD (i).toNat default)) rfl rfl (by decide) rfl (fun _ hw => Ob_load tN2 rfl rfl rfl ((slFl ((H.blw hw).sl 1 rfl) hg2) 0 _ rfl)) ?_; clear Z a; intro a Z
   refine q_runk tN2 Z 1 rfl rfl ?_; clear Z a; intro a Z
   refine q_end Z [0, 1, 4, 5, 11, 12, 13, 14, 15, 20, 23, 24, 25, 26, 27, 28, 29, 30, 31] rfl ?_; clear Z; intro w2 hb Z
   replace H : Hf I D w I1 w2 [SlC Ni64 v1_a0 a0, SlC Ni64 v2_b b] := H.blw hb
   clear hb
   refine p_then ?_
   refine f_cond Z rfl (fun hc3 => ?_) (fun hc3 => ?_)
   ·replace hF := ite_t hc3 hF
    refine wp_seq (f_region Z ?_); clear Z; intro Z
    refine s_runk tN2 Z 1 rfl rfl ?_; clear Z a; intro a Z
    refine s_end Z [0, 1, 4, 5, 11, 12, 13, 14, 15, 20, 23, 24, 25, 26, 27, 28, 29, 30, 31] rfl ?_; clear Z; intro Z
    refine p_then (wp_ret ?_)
    refine p_blk_r ?_
    refine p_then_r ?_
    refine p_then_r ?_
    refine p_blk_r ?_
    refine p_then_r ?_
    obtain rfl := some_in hF
    exact f_ret Z (run_results1 rfl Z rfl) ⟨rfl, I1, (H.sub [] rfl).eq rfl⟩
   ·replace hF := ite_f hc3 hF
    refine wp_skip ?_
    refine p_blk ?_
    refine p_then ?_
    obtain ⟨hg3, hF⟩ := chk_in hF
    refine f_region Z ?_; clear Z; intro Z
    refine s_runk tN2 Z 1 rfl rfl ?_; clear Z a; intro a Z
    refine s_ob Z (v := .int .i64 (i + 1)) rfl rfl (by decide) rfl (Ob_add rfl rfl rfl (wrI hg3)) ?_; clear Z a; intro a Z
    refine s_runk tN2 Z 1 rfl rfl ?_; clear Z a; intro a Z
    refine s_end Z [0, 1, 4, 5, 11, 12, 13, 14, 15, 20, 23, 24, 25, 26, 27, 28, 29, 30, 31, 21, 22] rfl ?_; clear Z; intro Z
    refine p_then ?_
    exact ⟨(i + 1), ⟨Z.sub (ts := [0, 1, 4, 5]) rfl, ⟨I1, (H.sub [(0, true), (1, true)] rfl).eq rfl⟩⟩, hF⟩
  ·replace hF := ite_f hc2 hF
   refine wp_exit ?_
   refine p_then_x ?_
   refine p_then_x ?_
   refine f_exit_here ?_
   refine p_then (wp_seq (f_region Z ?_)); clear Z; intro Z
   refine s_runk tN2 Z 1 rfl rfl ?_; clear Z a; intro a Z
   refine s_end Z [4] rfl ?_; clear Z; intro Z
   refine p_then (wp_ret ?_)
   obtain rfl := some_in hF
   exact f_ret Z (run_results1 rfl Z rfl) ⟨rfl, I1, (H.sub [] rfl).eq rfl⟩

def F_ref10_Same (a0 : ENote) (b : ENote) : Option Bool := (gif (((a0.k == b.k) && (a0.n == b.n)) && (a0.at_ == b.at_)) (F_ref07_Same a0.conf b.conf) default).bind fun s0 => ((gif ((((a0.k == b.k) && (a0.n == b.n)) && (a0.at_ == b.at_)) && s0) (F_ref10_SameInts a0.legit b.legit) default).bind fun s0_2 => ((gif (((((a0.k == b.k) && (a0.n == b.n)) && (a0.at_ == b.at_)) && s0) && s0_2) (F_ref08_Same a0.entry b.entry) default).bind fun s0_3 => (some ((((((((a0.k == b.k) && (a0.n == b.n)) && (a0.at_ == b.at_)) && s0) && s0_2) && s0_3) && (eqEPin a0.pin b.pin)) && (eqEAnswer a0.said b.said)))))

set_option maxHeartbeats 1000000 in
theorem c_ref10_Same {I D : Dm} {a0 : ENote} {v1_a0 : Value} {v2_a0 : Value} {v3_a0 : Value} {b : ENote} {v4_b : Value} {v5_b : Value} {v6_b : Value} {w : World} {rr : Bool} (hF : F_ref10_Same a0 b = some rr) (H : St I D w [SlC NEMember v1_a0 a0.conf.members, SlC Ni64 v2_a0 a0.legit, SlC NEOp v3_a0 a0.entry.batch.ops, SlC NEMember v4_b b.conf.members, SlC Ni64 v5_b b.legit, SlC NEOp v6_b b.entry.batch.ops]) :
  Calls Try.prog 9 #[.agg #[.int .i64 a0.k, .int .i64 a0.n, .int .u64 a0.at_, .int .i64 a0.conf.epoch, v1_a0, .int .u64 a0.conf.floor, v2_a0, .int .i64 a0.entry.batch.client, .int .i64 a0.entry.batch.req, v3_a0, .int .u64 a0.entry.ts, .int .i64 a0.pin.id, .int .u64 a0.pin.at_, .int .i64 a0.pin.left, .int .i64 a0.said.client, .int .i64 a0.said.req, .int .i64 a0.said.e, .int .i64 a0.said.pin], .agg #[.int .i64 b.k, .int .i64 b.n, .int .u64 b.at_, .int .i64 b.conf.epoch, v4_b, .int .u64 b.conf.floor, v5_b, .int .i64 b.entry.batch.client, .int .i64 b.entry.batch.req, v6_b, .int .u64 b.entry.ts, .int .i64 b.pin.id, .int .u64 b.pin.at_, .int .i64 b.pin.left, .int .i64 b.said.client, .int .i64 b.said.req, .int .i64 b.said.e, .int .i64 b.said.pin]] w (Ret fun vv w' => vv = .bool rr ∧ ∃ I', Hf I D w I' w' []) := by
 replace H := H.hf
 unfold F_ref10_Same at hF
 refine f_enter 59 Try.func9 rfl rfl (Nat.le_of_ble_eq_true rfl) fun a Z => ?_
 replace Z := Z.sub (ts := [0, 1]) rfl
 refine wp_seq (f_region Z ?_); clear Z; intro Z
 refine h_boxv Z H (cl := [.int .i64 a0.k, .int .i64 a0.n, .int .u64 a0.at_, .int .i64 a0.conf.epoch, v1_a0, .int .u64 a0.conf.floor, v2_a0, .int .i64 a0.entry.batch.client, .int .i64 a0.entry.batch.req, v3_a0, .int .u64 a0.entry.ts, .int .i64 a0.pin.id, .int .u64 a0.pin.at_, .int .i64 a0.pin.left, .int .i64 a0.said.client, .int .i64 a0.said.req, .int .i64 a0.said.e, .int .i64 a0.said.pin]) rfl rfl rfl (by decide) rfl rfl rfl ?_; clear Z a H; intro a w1 b1 H Z
 refine h_boxv Z H (cl := [.int .i64 b.k, .int .i64 b.n, .int .u64 b.at_, .int .i64 b.conf.epoch, v4_b, .int .u64 b.conf.floor, v5_b, .int .i64 b.entry.batch.client, .int .i64 b.entry.batch.req, v6_b, .int .u64 b.entry.ts, .int .i64 b.pin.id, .int .u64 b.pin.at_, .int .i64 b.pin.left, .int .i64 b.said.client, .int .i64 b.said.req, .int .i64 b.said.e, .int .i64 b.said.pin]) rfl rfl rfl (by decide) rfl rfl rfl ?_; clear Z a H; intro a w2 b2 H Z
 refine s_runk tN2 Z 1 rfl rfl ?_; clear Z a; intro a Z
 refine s_end Z [2, 3, 4] rfl ?_; clear Z; intro Z
 refine p_then (wp_seq ?_)
 obtain ⟨s0, hx1, hF⟩ := bnd_in hF
 obtain ⟨s0_2, hx2, hF⟩ := bnd_in hF
 obtain ⟨s0_3, hx3, hF⟩ := bnd_in hF
 refine f_region Z ?_; clear Z; intro Z
 refine s_runk tN2 Z 1 rfl rfl ?_; clear Z a; intro a Z
 refine s_ob Z (v := .int .i64 a0.k) rfl rfl (by decide) rfl (Ob_load tN2 rfl rfl rfl ((H.bx 1 rfl).cell 0 rfl)) ?_; clear Z a; intro a Z
 refine s_runk tN2 Z 1 rfl rfl ?_; clear Z a; intro a Z
 refine s_ob Z (v := .int .i64 b.k) rfl rfl (by decide) rfl (Ob_load tN2 rfl rfl rfl ((H.bx 0 rfl).cell 0 rfl)) ?_; clear Z a; intro a Z
 refine s_runk tN2 Z 2 rfl rfl ?_; clear Z a; intro a Z
 refine g_ob Z (p := (a0.k == b.k)) (v := .pointer (some ⟨b1, 1, none⟩)) (S' := [(2, .pointer (some ⟨b1, 0, none⟩))]) rfl rfl rfl (wantB_t _) rfl (by decide) (fun hp hS => hS.sub (ts := [2]) rfl) (fun hp => Ob_c tN2 rfl) ?_; clear Z a; intro a Z
 refine g_ob Z (p := (a0.k == b.k)) (v := .int .i64 a0.n) (S' := [(11, .pointer (some ⟨b1, 1, none⟩))]) rfl rfl rfl (wantB_t _) rfl (by decide) (fun hp hS => (hS.conv (t := 11) rfl (cond_t hp)).sub (ts := [11]) rfl) (fun hp => Ob_load tN2 rfl rfl rfl ((H.bx 1 rfl).cell 1 rfl)) ?_; clear Z a; intro a Z
 refine g_ob Z (p := (a0.k == b.k)) (v := .pointer (some ⟨b2, 1, none⟩)) (S' := [(3, .pointer (some ⟨b2, 0, none⟩))]) rfl rfl rfl (wantB_t _) rfl (by decide) (fun hp hS => hS.sub (ts := [3]) rfl) (fun hp => Ob_c tN2 rfl) ?_; clear Z a; intro a Z
 refine g_ob Z (p := (a0.k == b.k)) (v := .int .i64 b.n) (S' := [(13, .pointer (some ⟨b2, 1, none⟩))]) rfl rfl rfl (wantB_t _) rfl (by decide) (fun hp hS => (hS.conv (t := 13) rfl (cond_t hp)).sub (ts := [13]) rfl) (fun hp => Ob_load tN2 rfl rfl rfl ((H.bx 0 rfl).cell 1 rfl)) ?_; clear Z a; intro a Z
 refine g_ob Z (p := (a0.k == b.k)) (v := .bool (a0.n == b.n)) (S' := [(12, .int .i64 a0.n), (14, .int .i64 b.n)]) rfl rfl rfl (wantB_t _) rfl (by decide) (fun hp hS => ((hS.conv (t := 12) rfl (cond_t hp)).conv (t := 14) rfl (cond_t hp)).sub (ts := [12, 14]) rfl) (fun hp => Ob_c tN2 rfl) ?_; clear Z a; intro a Z
 refine s_ob Z (v := .bool ((a0.k == b.k) && (a0.n == b.n))) rfl rfl (by decide) rfl (Ob_pick rfl rfl rfl rfl (pick_and _ _)) ?_; clear Z a; intro a Z
 refine s_runk tN2 Z 1 rfl rfl ?_; clear Z a; intro a Z
 refine g_ob Z (p := ((a0.k == b.k) && (a0.n == b.n))) (v := .pointer (some ⟨b1, 2, none⟩)) (S' := [(2, .pointer (some ⟨b1, 0, none⟩))]) rfl rfl rfl (wantB_t _) rfl (by decide) (fun hp hS => hS.sub (ts := [2]) rfl) (fun hp => Ob_c tN2 rfl) ?_; clear Z a; intro a Z
 refine g_ob Z (p := ((a0.k == b.k) && (a0.n == b.n))) (v := .int .u64 a0.at_) (S' := [(18, .pointer (some ⟨b1, 2, none⟩))]) rfl rfl rfl (wantB_t _) rfl (by decide) (fun hp hS => (hS.conv (t := 18) rfl (cond_t hp)).sub (ts := [18]) rfl) (fun hp => Ob_load tN2 rfl rfl rfl ((H.bx 1 rfl).cell 2 rfl)) ?_; clear Z a; intro a Z
 refine g_ob Z (p := ((a0.k == b.k) && (a0.n == b.n))) (v := .pointer (some ⟨b2, 2, none⟩)) (S' := [(3, .pointer (some ⟨b2, 0, none⟩))]) rfl rfl rfl (wantB_t _) rfl (by decide) (fun hp hS => hS.sub (ts := [3]) rfl) (fun hp => Ob_c tN2 rfl) ?_; clear Z a; intro a Z
 refine g_ob Z (p := ((a0.k == b.k) && (a0.n == b.n))) (v := .int .u64 b.at_) (S' := [(20, .pointer (some ⟨b2, 2, none⟩))]) rfl rfl rfl (wantB_t _) rfl (by decide) (fun hp hS => (hS.conv (t := 20) rfl (cond_t hp)).sub (ts := [20]) rfl) (fun hp => Ob_load tN2 rfl rfl rfl ((H.bx 0 rfl).cell 2 rfl)) ?_; clear Z a; intro a Z
 refine g_ob Z (p := ((a0.k == b.k) && (a0.n == b.n))) (v := .bool (a0.at_ == b.at_)) (S' := [(19, .int .u64 a0.at_), (21, .int .u64 b.at_)]) rfl rfl rfl (wantB_t _) rfl (by decide) (fun hp hS => ((hS.conv (t := 19) rfl (cond_t hp)).conv (t := 21) rfl (cond_t hp)).sub (ts := [19, 21]) rfl) (fun hp => Ob_c tN2 rfl) ?_; clear Z a; intro a Z
 refine s_ob Z (v := .bool (((a0.k == b.k) && (a0.n == b.n)) && (a0.at_ == b.at_))) rfl rfl (by decide) rfl (Ob_pick rfl rfl rfl rfl (pick_and _ _)) ?_; clear Z a; intro a Z
 refine s_runk tN2 Z 1 rfl rfl ?_; clear Z a; intro a Z
 refine g_ob Z (p := (((a0.k == b.k) && (a0.n == b.n)) && (a0.at_ == b.at_))) (v := .pointer (some ⟨b1, 3, none⟩)) (S' := [(2, .pointer (some ⟨b1, 0, none⟩))]) rfl rfl rfl (wantB_t _) rfl (by decide) (fun hp hS => hS.sub (ts := [2]) rfl) (fun hp => Ob_c tN2 rfl) ?_; clear Z a; intro a Z
 refine g_ob Z (p := (((a0.k == b.k) && (a0.n == b.n)) && (a0.at_ == b.at_))) (v := .agg #[.int .i64 a0.conf.epoch, v1_a0, .int .u64 a0.conf.floor]) (S' := [(25, .pointer (some ⟨b1, 3, none⟩))]) rfl rfl rfl (wantB_t _) rfl (by decide) (fun hp hS => (hS.conv (t := 25) rfl (cond_t hp)).sub (ts := [25]) rfl) (fun hp => Ob_loads tN2 rfl rfl rfl ((H.bx 1 rfl).part 3 rfl)) ?_; clear Z a; intro a Z
 refine g_ob Z (p := (((a0.k == b.k) && (a0.n == b.n)) && (a0.at_ == b.at_))) (v := .pointer (some ⟨b2, 3, none⟩)) (S' := [(3, .pointer (some ⟨b2, 0, none⟩))]) rfl rfl rfl (wantB_t _) rfl (by decide) (fun hp hS => hS.sub (ts := [3]) rfl) (fun hp => Ob_c tN2 rfl) ?_; clear Z a; intro a Z
 refine g_ob Z (p := (((a0.k == b.k) && (a0.n == b.n)) && (a0.at_ == b.at_))) (v := .agg #[.int .i64 b.conf.epoch, v4_b, .int .u64 b.conf.floor]) (S' := [(27, .pointer (some ⟨b2, 3, none⟩))]) rfl rfl rfl (wantB_t _) rfl (by decide) (fun hp hS => (hS.conv (t := 27) rfl (cond_t hp)).sub (ts := [27]) rfl) (fun hp => Ob_loads tN2 rfl rfl rfl ((H.bx 0 rfl).part 3 rfl)) ?_; clear Z a; intro a Z
 refine g_call Z (p := (((a0.k == b.k) && (a0.n == b.n)) && (a0.at_ == b.at_))) (v := .bool s0) (S' := [(26, .agg #[.int .i64 a0.conf.epoch, v1_a0, .int .u64 a0.conf.floor]), (28, .agg #[.int .i64 b.conf.epoch, v4_b, .int .u64 b.conf.floor])]) (caps := #[]) fn_27_YNote2 rfl rfl rfl (wantB_t _) rfl (by decide) (fun hp hS => ((hS.conv (t := 26) rfl (cond_t hp)).conv (t := 28) rfl (cond_t hp)).sub (ts := [26, 28]) rfl) rfl rfl rfl rfl (fun hp => have hq := c_ref07_Same (gif_in hx1 hp) (H.pick0 (js := [(2, true), (5, true)]) rfl rfl); plainC hq) ?_; clear Z a; intro a w3 hb Z
 replace H : Hf I D w I w3 [BxC b2 39 (cENote b v4_b v5_b v6_b), BxC b1 39 (cENote a0 v1_a0 v2_a0 v3_a0), SlC NEMember v1_a0 a0.conf.members, SlC Ni64 v2_a0 a0.legit, SlC NEOp v3_a0 a0.entry.batch.ops, SlC NEMember v4_b b.conf.members, SlC Ni64 v5_b b.legit, SlC NEOp v6_b b.entry.batch.ops] := H.blw hb
 clear hb
 refine s_ob Z (v := .bool ((((a0.k == b.k) && (a0.n == b.n)) && (a0.at_ == b.at_)) && s0)) rfl rfl (by decide) rfl (Ob_pick rfl rfl rfl rfl (pick_and _ _)) ?_; clear Z a; intro a Z
 refine s_runk tN2 Z 1 rfl rfl ?_; clear Z a; intro a Z
 refine g_ob Z (p := ((((a0.k == b.k) && (a0.n == b.n)) && (a0.at_ == b.at_)) && s0)) (v := .pointer (some ⟨b1, 6, none⟩)) (S' := [(2, .pointer (some ⟨b1, 0, none⟩))]) rfl rfl rfl (wantB_t _) rfl (by decide) (fun hp hS => hS.sub (ts := [2]) rfl) (fun hp => Ob_c tN2 rfl) ?_; clear Z a; intro a Z
 refine g_ob Z (p := ((((a0.k == b.k) && (a0.n == b.n)) && (a0.at_ == b.at_)) && s0)) (v := v2_a0) (S' := [(32, .pointer (some ⟨b1, 6, none⟩))]) rfl rfl rfl (wantB_t _) rfl (by decide) (fun hp hS => (hS.conv (t := 32) rfl (cond_t hp)).sub (ts := [32]) rfl) (fun hp => Ob_load tN2 rfl rfl rfl ((H.bx 1 rfl).cell 6 rfl)) ?_; clear Z a; intro a Z
 refine g_ob Z (p := ((((a0.k == b.k) && (a0.n == b.n)) && (a0.at_ == b.at_)) && s0)) (v := .pointer (some ⟨b2, 6, none⟩)) (S' := [(3, .pointer (some ⟨b2, 0, none⟩))]) rfl rfl rfl (wantB_t _) rfl (by decide) (fun hp hS => hS.sub (ts := [3]) rfl) (fun hp => Ob_c tN2 rfl) ?_; clear Z a; intro a Z
 refine g_ob Z (p := ((((a0.k == b.k) && (a0.n == b.n)) && (a0.at_ == b.at_)) && s0)) (v := v5_b) (S' := [(34, .pointer (some ⟨b2, 6, none⟩))]) rfl rfl rfl (wantB_t _) rfl (by decide) (fun hp hS => (hS.conv (t := 34) rfl (cond_t hp)).sub (ts := [34]) rfl) (fun hp => Ob_load tN2 rfl rfl rfl ((H.bx 0 rfl).cell 6 rfl)) ?_; clear Z a; intro a Z
 refine g_call Z (p := ((((a0.k == b.k) && (a0.n == b.n)) && (a0.at_ == b.at_)) && s0)) (v := .bool s0_2) (S' := [(33, v2_a0), (35, v5_b)]) (caps := #[]) fn_28_YNote2 rfl rfl rfl (wantB_t _) rfl (by decide) (fun hp hS => ((hS.conv (t := 33) rfl (cond_t hp)).conv (t := 35) rfl (cond_t hp)).sub (ts := [33, 35]) rfl) rfl rfl rfl rfl (fun hp => have hq := c_ref10_SameInts (gif_in hx2 hp) (H.pick0 (js := [(3, true), (6, true)]) rfl rfl); plainC hq) ?_; clear Z a; intro a w4 hb Z
 replace H : Hf I D w I w4 [BxC b2 39 (cENote b v4_b v5_b v6_b), BxC b1 39 (cENote a0 v1_a0 v2_a0 v3_a0), SlC NEMember v1_a0 a0.conf.members, SlC Ni64 v2_a0 a0.legit, SlC NEOp v3_a0 a0.entry.batch.ops, SlC NEMember v4_b b.conf.members, SlC Ni64 v5_b b.legit, SlC NEOp v6_b b.entry.batch.ops] := H.blw hb
 clear hb
 refine s_ob Z (v := .bool (((((a0.k == b.k) && (a0.n == b.n)) && (a0.at_ == b.at_)) && s0) && s0_2)) rfl rfl (by decide) rfl (Ob_pick rfl rfl rfl rfl (pick_and _ _)) ?_; clear Z a; intro a Z
 refine s_runk tN2 Z 1 rfl rfl ?_; clear Z a; intro a Z
 refine g_ob Z (p := (((((a0.k == b.k) && (a0.n == b.n)) && (a0.at_ == b.at_)) && s0) && s0_2)) (v := .pointer (some ⟨b1, 7, none⟩)) (S' := [(2, .pointer (some ⟨b1, 0, none⟩))]) rfl rfl rfl (wantB_t _) rfl (by decide) (fun hp hS => hS.sub (ts := [2]) rfl) (fun hp => Ob_c tN2 rfl) ?_; clear Z a; intro a Z
 refine g_ob Z (p := (((((a0.k == b.k) && (a0.n == b.n)) && (a0.at_ == b.at_)) && s0) && s0_2)) (v := .agg #[.int .i64 a0.entry.batch.client, .int .i64 a0.entry.batch.req, v3_a0, .int .u64 a0.entry.ts]) (S' := [(39, .pointer (some ⟨b1, 7, none⟩))]) rfl rfl rfl (wantB_t _) rfl (by decide) (fun hp hS => (hS.conv (t := 39) rfl (cond_t hp)).sub (ts := [39]) rfl) (fun hp => Ob_loads tN2 rfl rfl rfl ((H.bx 1 rfl).part 7 rfl)) ?_; clear Z a; intro a Z
 refine g_ob Z (p := (((((a0.k == b.k) && (a0.n == b.n)) && (a0.at_ == b.at_)) && s0) && s0_2)) (v := .pointer (some ⟨b2, 7, none⟩)) (S' := [(3, .pointer (some ⟨b2, 0, none⟩))]) rfl rfl rfl (wantB_t _) rfl (by decide) (fun hp hS => hS.sub (ts := [3]) rfl) (fun hp => Ob_c tN2 rfl) ?_; clear Z a; intro a Z
 refine g_ob Z (p := (((((a0.k == b.k) && (a0.n == b.n)) && (a0.at_ == b.at_)) && s0) && s0_2)) (v := .agg #[.int .i64 b.entry.batch.client, .int .i64 b.entry.batch.req, v6_b, .int .u64 b.entry.ts]) (S' := [(41, .pointer (some ⟨b2, 7, none⟩))]) rfl rfl rfl (wantB_t _) rfl (by decide) (fun hp hS => (hS.conv (t := 41) rfl (cond_t hp)).sub (ts := [41]) rfl) (fun hp => Ob_loads tN2 rfl rfl rfl ((H.bx 0 rfl).part 7 rfl)) ?_; clear Z a; intro a Z
 refine g_call Z (p := (((((a0.k == b.k) && (a0.n == b.n)) && (a0.at_ == b.at_)) && s0) && s0_2)) (v := .bool s0_3) (S' := [(40, .agg #[.int .i64 a0.entry.batch.client, .int .i64 a0.entry.batch.req, v3_a0, .int .u64 a0.entry.ts]), (42, .agg #[.int .i64 b.entry.batch.client, .int .i64 b.entry.batch.req, v6_b, .int .u64 b.entry.ts])]) (caps := #[]) fn_29_YNote2 rfl rfl rfl (wantB_t _) rfl (by decide) (fun hp hS => ((hS.conv (t := 40) rfl (cond_t hp)).conv (t := 42) rfl (cond_t hp)).sub (ts := [40, 42]) rfl) rfl rfl rfl rfl (fun hp => have hq := c_ref08_Same (gif_in hx3 hp) (H.pick0 (js := [(4, true), (7, true)]) rfl rfl); plainC hq) ?_; clear Z a; intro a w5 hb Z
 replace H : Hf I D w I w5 [BxC b2 39 (cENote b v4_b v5_b v6_b), BxC b1 39 (cENote a0 v1_a0 v2_a0 v3_a0), SlC NEMember v1_a0 a0.conf.members, SlC Ni64 v2_a0 a0.legit, SlC NEOp v3_a0 a0.entry.batch.ops, SlC NEMember v4_b b.conf.members, SlC Ni64 v5_b b.legit, SlC NEOp v6_b b.entry.batch.ops] := H.blw hb
 clear hb
 refine s_ob Z (v := .bool ((((((a0.k == b.k) && (a0.n == b.n)) && (a0.at_ == b.at_)) && s0) && s0_2) && s0_3)) rfl rfl (by decide) rfl (Ob_pick rfl rfl rfl rfl (pick_and _ _)) ?_; clear Z a; intro a Z
 refine s_runk tN2 Z 1 rfl rfl ?_; clear Z a; intro a Z
 refine g_ob Z (p := ((((((a0.k == b.k) && (a0.n == b.n)) && (a0.at_ == b.at_)) && s0) && s0_2) && s0_3)) (v := .pointer (some ⟨b1, 11, none⟩)) (S' := [(2, .pointer (some ⟨b1, 0, none⟩))]) rfl rfl rfl (wantB_t _) rfl (by decide) (fun hp hS => hS.sub (ts := [2]) rfl) (fun hp => Ob_c tN2 rfl) ?_; clear Z a; intro a Z
 refine g_ob Z (p := ((((((a0.k == b.k) && (a0.n == b.n)) && (a0.at_ == b.at_)) && s0) && s0_2) && s0_3)) (v := .agg #[.int .i64 a0.pin.id, .int .u64 a0.pin.at_, .int .i64 a0.pin.left]) (S' := [(46, .pointer (some ⟨b1, 11, none⟩))]) rfl rfl rfl (wantB_t _) rfl (by decide) (fun hp hS => (hS.conv (t := 46) rfl (cond_t hp)).sub (ts := [46]) rfl) (fun hp => Ob_loads tN2 rfl rfl rfl ((H.bx 1 rfl).part 11 rfl)) ?_; clear Z a; intro a Z
 refine g_ob Z (p := ((((((a0.k == b.k) && (a0.n == b.n)) && (a0.at_ == b.at_)) && s0) && s0_2) && s0_3)) (v := .pointer (some ⟨b2, 11, none⟩)) (S' := [(3, .pointer (some ⟨b2, 0, none⟩))]) rfl rfl rfl (wantB_t _) rfl (by decide) (fun hp hS => hS.sub (ts := [3]) rfl) (fun hp => Ob_c tN2 rfl) ?_; clear Z a; intro a Z
 refine g_ob Z (p := ((((((a0.k == b.k) && (a0.n == b.n)) && (a0.at_ == b.at_)) && s0) && s0_2) && s0_3)) (v := .agg #[.int .i64 b.pin.id, .int .u64 b.pin.at_, .int .i64 b.pin.left]) (S' := [(48, .pointer (some ⟨b2, 11, none⟩))]) rfl rfl rfl (wantB_t _) rfl (by decide) (fun hp hS => (hS.conv (t := 48) rfl (cond_t hp)).sub (ts := [48]) rfl) (fun hp => Ob_loads tN2 rfl rfl rfl ((H.bx 0 rfl).part 11 rfl)) ?_; clear Z a; intro a Z
 refine g_ob Z (p := ((((((a0.k == b.k) && (a0.n == b.n)) && (a0.at_ == b.at_)) && s0) && s0_2) && s0_3)) (v := .bool (eqEPin a0.pin b.pin)) (S' := [(47, .agg #[.int .i64 a0.pin.id, .int .u64 a0.pin.at_, .int .i64 a0.pin.left]), (49, .agg #[.int .i64 b.pin.id, .int .u64 b.pin.at_, .int .i64 b.pin.left])]) rfl rfl rfl (wantB_t _) rfl (by decide) (fun hp hS => ((hS.conv (t := 47) rfl (cond_t hp)).conv (t := 49) rfl (cond_t hp)).sub (ts := [47, 49]) rfl) (fun hp => Ob_bin rfl rfl rfl (eqg_EPin _ _ _ _ _ _) (eql_EPin a0.pin b.pin _)) ?_; clear Z a; intro a Z
 refine s_ob Z (v := .bool (((((((a0.k == b.k) && (a0.n == b.n)) && (a0.at_ == b.at_)) && s0) && s0_2) && s0_3) && (eqEPin a0.pin b.pin))) rfl rfl (by decide) rfl (Ob_pick rfl rfl rfl rfl (pick_and _ _)) ?_; clear Z a; intro a Z
 refine s_runk tN2 Z 1 rfl rfl ?_; clear Z a; intro a Z
 refine g_ob Z (p := (((((((a0.k == b.k) && (a0.n == b.n)) && (a0.at_ == b.at_)) && s0) && s0_2) && s0_3) && (eqEPin a0.pin b.pin))) (v := .pointer (some ⟨b1, 14, none⟩)) (S' := [(2, .pointer (some ⟨b1, 0, none⟩))]) rfl rfl rfl (wantB_t _) rfl (by decide) (fun hp hS => hS.sub (ts := [2]) rfl) (fun hp => Ob_c tN2 rfl) ?_; clear Z a; intro a Z
 refine g_ob Z (p := (((((((a0.k == b.k) && (a0.n == b.n)) && (a0.at_ == b.at_)) && s0) && s0_2) && s0_3) && (eqEPin a0.pin b.pin))) (v := .agg #[.int .i64 a0.said.client, .int .i64 a0.said.req, .int .i64 a0.said.e, .int .i64 a0.said.pin]) (S' := [(53, .pointer (some ⟨b1, 14, none⟩))]) rfl rfl rfl (wantB_t _) rfl (by decide) (fun hp hS => (hS.conv (t := 53) rfl (cond_t hp)).sub (ts := [53]) rfl) (fun hp => Ob_loads tN2 rfl rfl rfl ((H.bx 1 rfl).part 14 rfl)) ?_; clear Z a; intro a Z
 refine g_ob Z (p := (((((((a0.k == b.k) && (a0.n == b.n)) && (a0.at_ == b.at_)) && s0) && s0_2) && s0_3) && (eqEPin a0.pin b.pin))) (v := .pointer (some ⟨b2, 14, none⟩)) (S' := [(3, .pointer (some ⟨b2, 0, none⟩))]) rfl rfl rfl (wantB_t _) rfl (by decide) (fun hp hS => hS.sub (ts := [3]) rfl) (fun hp => Ob_c tN2 rfl) ?_; clear Z a; intro a Z
 refine g_ob Z (p := (((((((a0.k == b.k) && (a0.n == b.n)) && (a0.at_ == b.at_)) && s0) && s0_2) && s0_3) && (eqEPin a0.pin b.pin))) (v := .agg #[.int .i64 b.said.client, .int .i64 b.said.req, .int .i64 b.said.e, .int .i64 b.said.pin]) (S' := [(55, .pointer (some ⟨b2, 14, none⟩))]) rfl rfl rfl (wantB_t _) rfl (by decide) (fun hp hS => (hS.conv (t := 55) rfl (cond_t hp)).sub (ts := [55]) rfl) (fun hp => Ob_loads tN2 rfl rfl rfl ((H.bx 0 rfl).part 14 rfl)) ?_; clear Z a; intro a Z
 refine g_ob Z (p := (((((((a0.k == b.k) && (a0.n == b.n)) && (a0.at_ == b.at_)) && s0) && s0_2) && s0_3) && (eqEPin a0.pin b.pin))) (v := .bool (eqEAnswer a0.said b.said)) (S' := [(54, .agg #[.int .i64 a0.said.client, .int .i64 a0.said.req, .int .i64 a0.said.e, .int .i64 a0.said.pin]), (56, .agg #[.int .i64 b.said.client, .int .i64 b.said.req, .int .i64 b.said.e, .int .i64 b.said.pin])]) rfl rfl rfl (wantB_t _) rfl (by decide) (fun hp hS => ((hS.conv (t := 54) rfl (cond_t hp)).conv (t := 56) rfl (cond_t hp)).sub (ts := [54, 56]) rfl) (fun hp => Ob_bin rfl rfl rfl (eqg_EAnswer _ _ _ _ _ _) (eql_EAnswer a0.said b.said _)) ?_; clear Z a; intro a Z
 refine s_ob Z (v := .bool ((((((((a0.k == b.k) && (a0.n == b.n)) && (a0.at_ == b.at_)) && s0) && s0_2) && s0_3) && (eqEPin a0.pin b.pin)) && (eqEAnswer a0.said b.said))) rfl rfl (by decide) rfl (Ob_pick rfl rfl rfl rfl (pick_and _ _)) ?_; clear Z a; intro a Z
 refine s_runk tN2 Z 1 rfl rfl ?_; clear Z a; intro a Z
 refine s_end Z [4] rfl ?_; clear Z; intro Z
 refine p_then (wp_ret ?_)
 obtain rfl := some_in hF
 exact f_ret Z (run_results1 rfl Z rfl) ⟨rfl, I, (H.sub [] rfl).eq rfl⟩

def F_law10_awake : Option Bool := (F_note_Put ({ (default : ENote) with k := 3, n := 3, at_ := 9 } : ENote)).bind fun p => ((F_note_Of p.1).bind fun o => (some (((((seqB p.1 ⟨#[3, 3, 9]⟩) && (p.2 == 0)) && (o.2 == 0)) && (o.1.n == 3)) && (o.1.at_ == 9))))

set_option maxHeartbeats 1000000 in
theorem c_law10_awake {I D : Dm} {w : World} {rr : Bool} (hF : F_law10_awake = some rr) (H : St I D w []) :
  Calls Try.prog 6 #[] w (Ret fun vv w' => vv = .bool rr ∧ ∃ I', Hf I D w I' w' []) := by
 replace H := H.hf
 unfold F_law10_awake at hF
 refine f_enter 35 Try.func6 rfl rfl (Nat.le_of_ble_eq_true rfl) fun a Z => ?_
 replace Z := Z.sub (ts := []) rfl
 refine wp_seq (f_region Z ?_); clear Z; intro Z
 refine s_runk tN2 Z 1 rfl rfl ?_; clear Z a; intro a Z
 refine s_end Z [0] rfl ?_; clear Z; intro Z
 refine p_then (wp_seq ?_)
 obtain ⟨p, hx1, hF⟩ := bnd_in hF
 refine f_region Z ?_; clear Z; intro Z
 refine s_ob Z (v := .agg #[.int .i64 3, .int .i64 3, .int .u64 9, .int .i64 0, .slice none 0 0, .int .u64 0, .slice none 0 0, .int .i64 0, .int .i64 0, .slice none 0 0, .int .u64 0, .int .i64 0, .int .u64 0, .int .i64 0, .int .i64 0, .int .i64 0, .int .i64 0, .int .i64 0]) rfl rfl (by decide) rfl (Ob_build (vs := [(0, .int .i64 3), (1, .int .i64 3), (2, .int .u64 9)]) rfl rfl (by go_simp <;> rfl)) ?_; clear Z a; intro a Z
 replace H : Hf I D w I w [SlC NEMember (.slice none 0 0) ([] : List EMember)] := H.slNil NEMember
 replace H : Hf I D w I w [SlC Ni64 (.slice none 0 0) ([] : List Int), SlC NEMember (.slice none 0 0) ([] : List EMember)] := H.slNil Ni64
 replace H : Hf I D w I w [SlC NEOp (.slice none 0 0) ([] : List EOp), SlC Ni64 (.slice none 0 0) ([] : List Int), SlC NEMember (.slice none 0 0) ([] : List EMember)] := H.slNil NEOp
 refine h_call Z H (js := [(2, true), (1, true), (0, true)]) rfl (caps := #[]) fn_11_YNote2 rfl rfl rfl rfl rfl (by decide) rfl rfl (fun D1 hS => have hq := c_note_Put hx1 hS; hq) ?_; clear Z a; intro vv a w1 D2 hr hF2 Z
 obtain ⟨rfl, I1, K⟩ := hr
 have H : Hf I D w I1 w1 [SlC NEOp (.slice none 0 0) ([] : List EOp), SlC Ni64 (.slice none 0 0) ([] : List Int), SlC NEMember (.slice none 0 0) ([] : List EMember)] := hF2 K
 clear hF2 K
 refine s_runk tN2 Z 5 rfl rfl ?_; clear Z a; intro a Z
 refine s_end Z [0, 1, 2] rfl ?_; clear Z; intro Z
 refine p_then (wp_seq ?_)
 obtain ⟨o, hx2, hF⟩ := bnd_in hF
 refine f_region Z ?_; clear Z; intro Z
 refine s_runk tN2 Z 1 rfl rfl ?_; clear Z a; intro a Z
 refine h_call Z H (js := []) rfl (caps := #[]) fn_7_YNote2 rfl rfl rfl rfl rfl (by decide) rfl rfl (fun D1 hS => have hq := c_note_Of hx2 hS; hq) ?_; clear Z a; intro vv a w2 D2 hr hF2 Z
 obtain ⟨q1, q2, q3, rfl, I2, K⟩ := hr
 have H : Hf I D w I2 w2 [SlC NEMember q1 o.1.conf.members, SlC Ni64 q2 o.1.legit, SlC NEOp q3 o.1.entry.batch.ops, SlC NEOp (.slice none 0 0) ([] : List EOp), SlC Ni64 (.slice none 0 0) ([] : List Int), SlC NEMember (.slice none 0 0) ([] : List EMember)] := hF2 K
 clear hF2 K
 refine s_runk tN2 Z 3 rfl rfl ?_; clear Z a; intro a Z
 refine h_alloc Z H (cl := [.int .i64 0, .int .i64 0, .int .u64 0, .int .i64 0, .slice none 0 0, .int .u64 0, .slice none 0 0, .int .i64 0, .int .i64 0, .slice none 0 0, .int .u64 0, .int .i64 0, .int .u64 0, .int .i64 0, .int .i64 0, .int .i64 0, .int .i64 0, .int .i64 0]) (z := .agg #[.int .i64 0, .int .i64 0, .int .u64 0, .int .i64 0, .slice none 0 0, .int .u64 0, .slice none 0 0, .int .i64 0, .int .i64 0, .slice none 0 0, .int .u64 0, .int .i64 0, .int .u64 0, .int .i64 0, .int .i64 0, .int .i64 0, .int .i64 0, .int .i64 0]) rfl rfl rfl (by decide) rfl (by kernel_rfl) rfl ?_; clear Z a H; intro a w3 b1 H Z
 refine h_store tN2 Z H 0 rfl rfl rfl rfl rfl rfl rfl rfl rfl (one_cons rfl (one_cons rfl (one_cons rfl (one_cons rfl (one_cons (slS.one (H.slshape 1 rfl)) (one_cons rfl (one_cons (slS.one (H.slshape 2 rfl)) (one_cons rfl (one_cons rfl (one_cons (slS.one (H.slshape 3 rfl)) (one_cons rfl (one_cons rfl (one_cons rfl (one_cons rfl (one_cons rfl (one_cons rfl (one_cons rfl (one_cons rfl one_nil)))))))))))))))))) (Nat.le_of_ble_eq_true rfl) (putCells_all rfl) ?_; clear H; intro w4 H
 dsimp only [List.eraseIdx] at H
 refine s_runk tN2 Z 1 rfl rfl ?_; clear Z a; intro a Z
 refine s_end Z [0, 1, 2, 3, 4] rfl ?_; clear Z; intro Z
 refine p_then (wp_seq (f_region Z ?_)); clear Z; intro Z
 refine s_runk tN2 Z 3 rfl rfl ?_; clear Z a; intro a Z
 refine g_ob Z (p := (seqB p.1 ⟨#[3, 3, 9]⟩)) (v := .int .i64 p.2) (S' := [(2, .int .i64 p.2)]) rfl rfl rfl (wantB_t _) rfl (by decide) (fun hp hS => hS.sub (ts := [2]) rfl) (fun hp => Ob_c tN2 rfl) ?_; clear Z a; intro a Z
 refine g_ob Z (p := (seqB p.1 ⟨#[3, 3, 9]⟩)) (v := .bool (p.2 == 0)) (S' := [(18, .int .i64 p.2)]) rfl rfl rfl (wantB_t _) rfl (by decide) (fun hp hS => (hS.conv (t := 18) rfl (cond_t hp)).sub (ts := [18]) rfl) (fun hp => Ob_c tN2 rfl) ?_; clear Z a; intro a Z
 refine s_ob Z (v := .bool ((seqB p.1 ⟨#[3, 3, 9]⟩) && (p.2 == 0))) rfl rfl (by decide) rfl (Ob_pick rfl rfl rfl rfl (pick_and _ _)) ?_; clear Z a; intro a Z
 refine s_runk tN2 Z 1 rfl rfl ?_; clear Z a; intro a Z
 refine g_ob Z (p := ((seqB p.1 ⟨#[3, 3, 9]⟩) && (p.2 == 0))) (v := .int .i64 o.2) (S' := [(4, .int .i64 o.2)]) rfl rfl rfl (wantB_t _) rfl (by decide) (fun hp hS => hS.sub (ts := [4]) rfl) (fun hp => Ob_c tN2 rfl) ?_; clear Z a; intro a Z
 refine g_ob Z (p := ((seqB p.1 ⟨#[3, 3, 9]⟩) && (p.2 == 0))) (v := .bool (o.2 == 0)) (S' := [(22, .int .i64 o.2)]) rfl rfl rfl (wantB_t _) rfl (by decide) (fun hp hS => (hS.conv (t := 22) rfl (cond_t hp)).sub (ts := [22]) rfl) (fun hp => Ob_c tN2 rfl) ?_; clear Z a; intro a Z
 refine s_ob Z (v := .bool (((seqB p.1 ⟨#[3, 3, 9]⟩) && (p.2 == 0)) && (o.2 == 0))) rfl rfl (by decide) rfl (Ob_pick rfl rfl rfl rfl (pick_and _ _)) ?_; clear Z a; intro a Z
 refine s_runk tN2 Z 1 rfl rfl ?_; clear Z a; intro a Z
 refine g_ob Z (p := (((seqB p.1 ⟨#[3, 3, 9]⟩) && (p.2 == 0)) && (o.2 == 0))) (v := .pointer (some ⟨b1, 1, none⟩)) (S' := [(3, .pointer (some ⟨b1, 0, none⟩))]) rfl rfl rfl (wantB_t _) rfl (by decide) (fun hp hS => hS.sub (ts := [3]) rfl) (fun hp => Ob_c tN2 rfl) ?_; clear Z a; intro a Z
 refine g_ob Z (p := (((seqB p.1 ⟨#[3, 3, 9]⟩) && (p.2 == 0)) && (o.2 == 0))) (v := .int .i64 o.1.n) (S' := [(26, .pointer (some ⟨b1, 1, none⟩))]) rfl rfl rfl (wantB_t _) rfl (by decide) (fun hp hS => (hS.conv (t := 26) rfl (cond_t hp)).sub (ts := [26]) rfl) (fun hp => Ob_load tN2 rfl rfl rfl ((H.bx 0 rfl).cell 1 rfl)) ?_; clear Z a; intro a Z
 refine g_ob Z (p := (((seqB p.1 ⟨#[3, 3, 9]⟩) && (p.2 == 0)) && (o.2 == 0))) (v := .bool (o.1.n == 3)) (S' := [(27, .int .i64 o.1.n)]) rfl rfl rfl (wantB_t _) rfl (by decide) (fun hp hS => (hS.conv (t := 27) rfl (cond_t hp)).sub (ts := [27]) rfl) (fun hp => Ob_c tN2 rfl) ?_; clear Z a; intro a Z
 refine s_ob Z (v := .bool ((((seqB p.1 ⟨#[3, 3, 9]⟩) && (p.2 == 0)) && (o.2 == 0)) && (o.1.n == 3))) rfl rfl (by decide) rfl (Ob_pick rfl rfl rfl rfl (pick_and _ _)) ?_; clear Z a; intro a Z
 refine s_runk tN2 Z 1 rfl rfl ?_; clear Z a; intro a Z
 refine g_ob Z (p := ((((seqB p.1 ⟨#[3, 3, 9]⟩) && (p.2 == 0)) && (o.2 == 0)) && (o.1.n == 3))) (v := .pointer (some ⟨b1, 2, none⟩)) (S' := [(3, .pointer (some ⟨b1, 0, none⟩))]) rfl rfl rfl (wantB_t _) rfl (by decide) (fun hp hS => hS.sub (ts := [3]) rfl) (fun hp => Ob_c tN2 rfl) ?_; clear Z a; intro a Z
 refine g_ob Z (p := ((((seqB p.1 ⟨#[3, 3, 9]⟩) && (p.2 == 0)) && (o.2 == 0)) && (o.1.n == 3))) (v := .int .u64 o.1.at_) (S' := [(31, .pointer (some ⟨b1, 2, none⟩))]) rfl rfl rfl (wantB_t _) rfl (by decide) (fun hp hS => (hS.conv (t := 31) rfl (cond_t hp)).sub (ts := [31]) rfl) (fun hp => Ob_load tN2 rfl rfl rfl ((H.bx 0 rfl).cell 2 rfl)) ?_; clear Z a; intro a Z
 refine g_ob Z (p := ((((seqB p.1 ⟨#[3, 3, 9]⟩) && (p.2 == 0)) && (o.2 == 0)) && (o.1.n == 3))) (v := .bool (o.1.at_ == 9)) (S' := [(32, .int .u64 o.1.at_)]) rfl rfl rfl (wantB_t _) rfl (by decide) (fun hp hS => (hS.conv (t := 32) rfl (cond_t hp)).sub (ts := [32]) rfl) (fun hp => Ob_c tN2 rfl) ?_; clear Z a; intro a Z
 refine s_ob Z (v := .bool (((((seqB p.1 ⟨#[3, 3, 9]⟩) && (p.2 == 0)) && (o.2 == 0)) && (o.1.n == 3)) && (o.1.at_ == 9))) rfl rfl (by decide) rfl (Ob_pick rfl rfl rfl rfl (pick_and _ _)) ?_; clear Z a; intro a Z
 refine s_runk tN2 Z 1 rfl rfl ?_; clear Z a; intro a Z
 refine s_end Z [0] rfl ?_; clear Z; intro Z
 refine p_then (wp_ret ?_)
 obtain rfl := some_in hF
 exact f_ret Z (run_results1 rfl Z rfl) ⟨rfl, I2, (H.sub [] rfl).eq rfl⟩

def F_law10_much (n0 : ENote) : Option Bool := some (((decide ((n0.conf.members.length : Int) > 20)) || (decide ((n0.legit.length : Int) > 20))) || (decide ((n0.entry.batch.ops.length : Int) > 20)))

set_option maxHeartbeats 1000000 in
theorem c_law10_much {I D : Dm} {n0 : ENote} {v1_n0 : Value} {v2_n0 : Value} {v3_n0 : Value} {w : World} {rr : Bool} (hF : F_law10_much n0 = some rr) (H : St I D w [SlC NEMember v1_n0 n0.conf.members, SlC Ni64 v2_n0 n0.legit, SlC NEOp v3_n0 n0.entry.batch.ops]) :
  Calls Try.prog 10 #[.agg #[.int .i64 n0.k, .int .i64 n0.n, .int .u64 n0.at_, .int .i64 n0.conf.epoch, v1_n0, .int .u64 n0.conf.floor, v2_n0, .int .i64 n0.entry.batch.client, .int .i64 n0.entry.batch.req, v3_n0, .int .u64 n0.entry.ts, .int .i64 n0.pin.id, .int .u64 n0.pin.at_, .int .i64 n0.pin.left, .int .i64 n0.said.client, .int .i64 n0.said.req, .int .i64 n0.said.e, .int .i64 n0.said.pin]] w (Ret fun vv w' => vv = .bool rr ∧ ∃ I', Hf I D w I' w' []) := by
 replace H := H.hf
 unfold F_law10_much at hF
 refine f_enter 22 Try.func10 rfl rfl (Nat.le_of_ble_eq_true rfl) fun a Z => ?_
 replace Z := Z.sub (ts := [0]) rfl
 refine wp_seq (f_region Z ?_); clear Z; intro Z
 refine h_boxv Z H (cl := [.int .i64 n0.k, .int .i64 n0.n, .int .u64 n0.at_, .int .i64 n0.conf.epoch, v1_n0, .int .u64 n0.conf.floor, v2_n0, .int .i64 n0.entry.batch.client, .int .i64 n0.entry.batch.req, v3_n0, .int .u64 n0.entry.ts, .int .i64 n0.pin.id, .int .u64 n0.pin.at_, .int .i64 n0.pin.left, .int .i64 n0.said.client, .int .i64 n0.said.req, .int .i64 n0.said.e, .int .i64 n0.said.pin]) rfl rfl rfl (by decide) rfl rfl rfl ?_; clear Z a H; intro a w1 b1 H Z
 refine s_runk tN2 Z 1 rfl rfl ?_; clear Z a; intro a Z
 refine s_end Z [1, 2] rfl ?_; clear Z; intro Z
 refine p_then (wp_seq (f_region Z ?_)); clear Z; intro Z
 refine s_runk tN2 Z 2 rfl rfl ?_; clear Z a; intro a Z
 refine s_ob Z (v := v1_n0) rfl rfl (by decide) rfl (Ob_load tN2 rfl rfl rfl ((H.bx 0 rfl).cell 4 rfl)) ?_; clear Z a; intro a Z
 refine s_ob Z (v := .int .i64 (n0.conf.members.length : Int)) rfl rfl (by decide) rfl (Ob_slen tN2 rfl rfl rfl (H.slshape 1 rfl)) ?_; clear Z a; intro a Z
 refine s_runk tN2 Z 2 rfl rfl ?_; clear Z a; intro a Z
 refine g_ob Z (p := (!(decide ((n0.conf.members.length : Int) > 20)))) (v := .pointer (some ⟨b1, 6, none⟩)) (S' := [(1, .pointer (some ⟨b1, 0, none⟩))]) rfl rfl rfl (wantB_f _) rfl (by decide) (fun hp hS => hS.sub (ts := [1]) rfl) (fun hp => Ob_c tN2 rfl) ?_; clear Z a; intro a Z
 refine g_ob Z (p := (!(decide ((n0.conf.members.length : Int) > 20)))) (v := v2_n0) (S' := [(9, .pointer (some ⟨b1, 6, none⟩))]) rfl rfl rfl (wantB_f _) rfl (by decide) (fun hp hS => (hS.conv (t := 9) rfl (cond_t hp)).sub (ts := [9]) rfl) (fun hp => Ob_load tN2 rfl rfl rfl ((H.bx 0 rfl).cell 6 rfl)) ?_; clear Z a; intro a Z
 refine g_ob Z (p := (!(decide ((n0.conf.members.length : Int) > 20)))) (v := .int .i64 (n0.legit.length : Int)) (S' := [(10, v2_n0)]) rfl rfl rfl (wantB_f _) rfl (by decide) (fun hp hS => (hS.conv (t := 10) rfl (cond_t hp)).sub (ts := [10]) rfl) (fun hp => Ob_slen tN2 rfl rfl rfl (H.slshape 2 rfl)) ?_; clear Z a; intro a Z
 refine g_ob Z (p := (!(decide ((n0.conf.members.length : Int) > 20)))) (v := .bool (decide ((n0.legit.length : Int) > 20))) (S' := [(11, .int .i64 (n0.legit.length : Int))]) rfl rfl rfl (wantB_f _) rfl (by decide) (fun hp hS => (hS.conv (t := 11) rfl (cond_t hp)).sub (ts := [11]) rfl) (fun hp => Ob_c tN2 rfl) ?_; clear Z a; intro a Z
 refine s_ob Z (v := .bool ((decide ((n0.conf.members.length : Int) > 20)) || (decide ((n0.legit.length : Int) > 20)))) rfl rfl (by decide) rfl (Ob_pick rfl rfl rfl rfl (pick_or _ _)) ?_; clear Z a; intro a Z
 refine s_runk tN2 Z 1 rfl rfl ?_; clear Z a; intro a Z
 refine g_ob Z (p := (!((decide ((n0.conf.members.length : Int) > 20)) || (decide ((n0.legit.length : Int) > 20))))) (v := .pointer (some ⟨b1, 7, none⟩)) (S' := [(1, .pointer (some ⟨b1, 0, none⟩))]) rfl rfl rfl (wantB_f _) rfl (by decide) (fun hp hS => hS.sub (ts := [1]) rfl) (fun hp => Ob_c tN2 rfl) ?_; clear Z a; intro a Z
 refine g_ob Z (p := (!((decide ((n0.conf.members.length : Int) > 20)) || (decide ((n0.legit.length : Int) > 20))))) (v := .pointer (some ⟨b1, 7, none⟩)) (S' := [(15, .pointer (some ⟨b1, 7, none⟩))]) rfl rfl rfl (wantB_f _) rfl (by decide) (fun hp hS => (hS.conv (t := 15) rfl (cond_t hp)).sub (ts := [15]) rfl) (fun hp => Ob_c tN2 rfl) ?_; clear Z a; intro a Z
 refine g_ob Z (p := (!((decide ((n0.conf.members.length : Int) > 20)) || (decide ((n0.legit.length : Int) > 20))))) (v := .pointer (some ⟨b1, 9, none⟩)) (S' := [(16, .pointer (some ⟨b1, 7, none⟩))]) rfl rfl rfl (wantB_f _) rfl (by decide) (fun hp hS => (hS.conv (t := 16) rfl (cond_t hp)).sub (ts := [16]) rfl) (fun hp => Ob_c tN2 rfl) ?_; clear Z a; intro a Z
 refine g_ob Z (p := (!((decide ((n0.conf.members.length : Int) > 20)) || (decide ((n0.legit.length : Int) > 20))))) (v := v3_n0) (S' := [(17, .pointer (some ⟨b1, 9, none⟩))]) rfl rfl rfl (wantB_f _) rfl (by decide) (fun hp hS => (hS.conv (t := 17) rfl (cond_t hp)).sub (ts := [17]) rfl) (fun hp => Ob_load tN2 rfl rfl rfl ((H.bx 0 rfl).cell 9 rfl)) ?_; clear Z a; intro a Z
 refine g_ob Z (p := (!((decide ((n0.conf.members.length : Int) > 20)) || (decide ((n0.legit.length : Int) > 20))))) (v := .int .i64 (n0.entry.batch.ops.length : Int)) (S' := [(18, v3_n0)]) rfl rfl rfl (wantB_f _) rfl (by decide) (fun hp hS => (hS.conv (t := 18) rfl (cond_t hp)).sub (ts := [18]) rfl) (fun hp => Ob_slen tN2 rfl rfl rfl (H.slshape 3 rfl)) ?_; clear Z a; intro a Z
 refine g_ob Z (p := (!((decide ((n0.conf.members.length : Int) > 20)) || (decide ((n0.legit.length : Int) > 20))))) (v := .bool (decide ((n0.entry.batch.ops.length : Int) > 20))) (S' := [(19, .int .i64 (n0.entry.batch.ops.length : Int))]) rfl rfl rfl (wantB_f _) rfl (by decide) (fun hp hS => (hS.conv (t := 19) rfl (cond_t hp)).sub (ts := [19]) rfl) (fun hp => Ob_c tN2 rfl) ?_; clear Z a; intro a Z
 refine s_ob Z (v := .bool (((decide ((n0.conf.members.length : Int) > 20)) || (decide ((n0.legit.length : Int) > 20))) || (decide ((n0.entry.batch.ops.length : Int) > 20)))) rfl rfl (by decide) rfl (Ob_pick rfl rfl rfl rfl (pick_or _ _)) ?_; clear Z a; intro a Z
 refine s_runk tN2 Z 1 rfl rfl ?_; clear Z a; intro a Z
 refine s_end Z [2] rfl ?_; clear Z; intro Z
 refine p_then (wp_ret ?_)
 obtain rfl := some_in hF
 exact f_ret Z (run_results1 rfl Z rfl) ⟨rfl, I, (H.sub [] rfl).eq rfl⟩

def F_law10_NoteBack_k1 (s0 : ByteArray) : Option Bool := (F_note_Of s0).bind fun o => (if (o.2 != 0) = true then ((F_ref10_Same o.1 (default : ENote)).bind fun s0_2 => ((gif s0_2 (F_law10_awake) default).bind fun a0_3 => (some (s0_2 && a0_3)))) else ((F_note_Put o.1).bind fun p_2 => ((gif ((seqB p_2.1 s0) && (p_2.2 == 0)) (F_law10_awake) default).bind fun a0_4 => (some (((seqB p_2.1 s0) && (p_2.2 == 0)) && a0_4)))))

def F_law10_NoteBack (a0 : ENote) (s0 : ByteArray) : Option Bool := (F_law10_much a0).bind fun m => (if (m || (decide ((s0.size : Int) > 3000))) = true then ((F_law10_awake).bind fun a0_2 => (some a0_2)) else ((F_note_Put a0).bind fun p => (if (p.2 == 0) = true then ((F_note_Of p.1).bind fun o_2 => ((gif (!(o_2.2 != 0)) (F_ref10_Clean a0) default).bind fun c => ((gif (!(o_2.2 != 0)) (F_ref10_Same o_2.1 c) default).bind fun s0_3 => (if ((o_2.2 != 0) || !s0_3) = true then (some false) else (F_law10_NoteBack_k1 s0))))) else (F_law10_NoteBack_k1 s0))))

set_option maxHeartbeats 1000000 in
theorem c_law10_NoteBack {I D : Dm} {a0 : ENote} {v1_a0 : Value} {v2_a0 : Value} {v3_a0 : Value} {s0 : ByteArray} {w : World} {rr : Bool} (hF : F_law10_NoteBack a0 s0 = some rr) (H : St I D w [SlC NEMember v1_a0 a0.conf.members, SlC Ni64 v2_a0 a0.legit, SlC NEOp v3_a0 a0.entry.batch.ops]) :
  Calls Try.prog 4 #[.agg #[.int .i64 a0.k, .int .i64 a0.n, .int .u64 a0.at_, .int .i64 a0.conf.epoch, v1_a0, .int .u64 a0.conf.floor, v2_a0, .int .i64 a0.entry.batch.client, .int .i64 a0.entry.batch.req, v3_a0, .int .u64 a0.entry.ts, .int .i64 a0.pin.id, .int .u64 a0.pin.at_, .int .i64 a0.pin.left, .int .i64 a0.said.client, .int .i64 a0.said.req, .int .i64 a0.said.e, .int .i64 a0.said.pin], .string s0] w (Ret fun vv w' => vv = .bool rr ∧ ∃ I', Hf I D w I' w' []) := by
 replace H := H.hf
 unfold F_law10_NoteBack at hF
 refine f_enter 70 Try.func4 rfl rfl (Nat.le_of_ble_eq_true rfl) fun a Z => ?_
 replace Z := Z.sub (ts := [0, 1]) rfl
 refine wp_seq (f_region Z ?_); clear Z; intro Z
 refine h_boxv Z H (cl := [.int .i64 a0.k, .int .i64 a0.n, .int .u64 a0.at_, .int .i64 a0.conf.epoch, v1_a0, .int .u64 a0.conf.floor, v2_a0, .int .i64 a0.entry.batch.client, .int .i64 a0.entry.batch.req, v3_a0, .int .u64 a0.entry.ts, .int .i64 a0.pin.id, .int .u64 a0.pin.at_, .int .i64 a0.pin.left, .int .i64 a0.said.client, .int .i64 a0.said.req, .int .i64 a0.said.e, .int .i64 a0.said.pin]) rfl rfl rfl (by decide) rfl rfl rfl ?_; clear Z a H; intro a w1 b1 H Z
 refine s_runk tN2 Z 1 rfl rfl ?_; clear Z a; intro a Z
 refine s_end Z [1, 2, 4] rfl ?_; clear Z; intro Z
 refine p_then (wp_seq ?_)
 refine wp_seq ?_
 obtain ⟨m, hx1, hF⟩ := bnd_in hF
 refine f_region Z ?_; clear Z; intro Z
 refine s_ob Z (v := .agg #[.int .i64 a0.k, .int .i64 a0.n, .int .u64 a0.at_, .int .i64 a0.conf.epoch, v1_a0, .int .u64 a0.conf.floor, v2_a0, .int .i64 a0.entry.batch.client, .int .i64 a0.entry.batch.req, v3_a0, .int .u64 a0.entry.ts, .int .i64 a0.pin.id, .int .u64 a0.pin.at_, .int .i64 a0.pin.left, .int .i64 a0.said.client, .int .i64 a0.said.req, .int .i64 a0.said.e, .int .i64 a0.said.pin]) rfl rfl (by decide) rfl (Ob_loads tN2 rfl rfl rfl ((H.bx 0 rfl).part 0 rfl)) ?_; clear Z a; intro a Z
 refine h_call Z H (js := [(1, true), (2, true), (3, true)]) rfl (caps := #[]) fn_10_YNote2 rfl rfl rfl rfl rfl (by decide) rfl rfl (fun D1 hS => have hq := c_law10_much hx1 hS; hq) ?_; clear Z a; intro vv a w2 D2 hr hF2 Z
 obtain ⟨rfl, I1, K⟩ := hr
 have H : Hf I D w I1 w2 [BxC b1 39 (cENote a0 v1_a0 v2_a0 v3_a0), SlC NEMember v1_a0 a0.conf.members, SlC Ni64 v2_a0 a0.legit, SlC NEOp v3_a0 a0.entry.batch.ops] := hF2 K
 clear hF2 K
 refine s_runk tN2 Z 1 rfl rfl ?_; clear Z a; intro a Z
 refine g_ob Z (p := (!m)) (v := .string s0) (S' := [(1, .string s0)]) rfl rfl rfl (wantB_f _) rfl (by decide) (fun hp hS => hS.sub (ts := [1]) rfl) (fun hp => Ob_c tN2 rfl) ?_; clear Z a; intro a Z
 refine g_ob Z (p := (!m)) (v := .int .i64 (s0.size : Int)) (S' := [(16, .string s0)]) rfl rfl rfl (wantB_f _) rfl (by decide) (fun hp hS => (hS.conv (t := 16) rfl (cond_t hp)).sub (ts := [16]) rfl) (fun hp => Ob_c tN2 rfl) ?_; clear Z a; intro a Z
 refine g_ob Z (p := (!m)) (v := .bool (decide ((s0.size : Int) > 3000))) (S' := [(17, .int .i64 (s0.size : Int))]) rfl rfl rfl (wantB_f _) rfl (by decide) (fun hp hS => (hS.conv (t := 17) rfl (cond_t hp)).sub (ts := [17]) rfl) (fun hp => Ob_c tN2 rfl) ?_; clear Z a; intro a Z
 refine s_ob Z (v := .bool (m || (decide ((s0.size : Int) > 3000)))) rfl rfl (by decide) rfl (Ob_pick rfl rfl rfl rfl (pick_or _ _)) ?_; clear Z a; intro a Z
 refine s_end Z [1, 2, 4, 19] rfl ?_; clear Z; intro Z
 refine p_then ?_
 refine f_cond Z rfl (fun hc1 => ?_) (fun hc1 => ?_)
 ·replace hF := ite_t hc1 hF
  refine wp_seq ?_
  obtain ⟨a0_2, hx2, hF⟩ := bnd_in hF
  refine f_region Z ?_; clear Z; intro Z
  refine h_call Z H (js := []) rfl (caps := #[]) fn_6_YNote2 rfl rfl rfl rfl rfl (by decide) rfl rfl (fun D1 hS => have hq := c_law10_awake hx2 hS; hq) ?_; clear Z a; intro vv a w3 D2 hr hF2 Z
  obtain ⟨rfl, I2, K⟩ := hr
  have H : Hf I D w I2 w3 [BxC b1 39 (cENote a0 v1_a0 v2_a0 v3_a0), SlC NEMember v1_a0 a0.conf.members, SlC Ni64 v2_a0 a0.legit, SlC NEOp v3_a0 a0.entry.batch.ops] := hF2 K
  clear hF2 K
  refine s_runk tN2 Z 1 rfl rfl ?_; clear Z a; intro a Z
  refine s_end Z [1, 2, 4] rfl ?_; clear Z; intro Z
  refine p_then (wp_ret ?_)
  refine p_then_r ?_
  obtain rfl := some_in hF
  exact f_ret Z (run_results1 rfl Z rfl) ⟨rfl, I2, (H.sub [] rfl).eq rfl⟩
 ·replace hF := ite_f hc1 hF
  refine wp_skip ?_
  refine p_then (wp_seq ?_)
  obtain ⟨p, hx3, hF⟩ := bnd_in hF
  refine f_region Z ?_; clear Z; intro Z
  refine s_ob Z (v := .agg #[.int .i64 a0.k, .int .i64 a0.n, .int .u64 a0.at_, .int .i64 a0.conf.epoch, v1_a0, .int .u64 a0.conf.floor, v2_a0, .int .i64 a0.entry.batch.client, .int .i64 a0.entry.batch.req, v3_a0, .int .u64 a0.entry.ts, .int .i64 a0.pin.id, .int .u64 a0.pin.at_, .int .i64 a0.pin.left, .int .i64 a0.said.client, .int .i64 a0.said.req, .int .i64 a0.said.e, .int .i64 a0.said.pin]) rfl rfl (by decide) rfl (Ob_loads tN2 rfl rfl rfl ((H.bx 0 rfl).part 0 rfl)) ?_; clear Z a; intro a Z
  refine h_call Z H (js := [(1, true), (2, true), (3, true)]) rfl (caps := #[]) fn_11_YNote2 rfl rfl rfl rfl rfl (by decide) rfl rfl (fun D1 hS => have hq := c_note_Put hx3 hS; hq) ?_; clear Z a; intro vv a w4 D2 hr hF2 Z
  obtain ⟨rfl, I3, K⟩ := hr
  have H : Hf I D w I3 w4 [BxC b1 39 (cENote a0 v1_a0 v2_a0 v3_a0), SlC NEMember v1_a0 a0.conf.members, SlC Ni64 v2_a0 a0.legit, SlC NEOp v3_a0 a0.entry.batch.ops] := hF2 K
  clear hF2 K
  refine s_runk tN2 Z 5 rfl rfl ?_; clear Z a; intro a Z
  refine s_end Z [1, 2, 4, 5, 6] rfl ?_; clear Z; intro Z
  refine p_then ?_
  refine f_cut (fun a' w' => Sl 70 [(1, .string s0), (4, .bool false)] a' ∧ (∃ I2, Hf I D w I2 w' []) ∧ F_law10_NoteBack_k1 s0 = some rr) ?_ ?_
  ·rintro a w5 ⟨Z, ⟨I4, H⟩, hF⟩
   unfold F_law10_NoteBack_k1 at hF
   try dsimp only at hF
   refine wp_seq ?_
   obtain ⟨o, hx4, hF⟩ := bnd_in hF
   refine f_region Z ?_; clear Z; intro Z
   refine s_runk tN2 Z 1 rfl rfl ?_; clear Z a; intro a Z
   refine h_call Z H (js := []) rfl (caps := #[]) fn_7_YNote2 rfl rfl rfl rfl rfl (by decide) rfl rfl (fun D1 hS => have hq := c_note_Of hx4 hS; hq) ?_; clear Z a; intro vv a w6 D2 hr hF2 Z
   obtain ⟨q1, q2, q3, rfl, I5, K⟩ := hr
   have H : Hf I D w I5 w6 [SlC NEMember q1 o.1.conf.members, SlC Ni64 q2 o.1.legit, SlC NEOp q3 o.1.entry.batch.ops] := hF2 K
   clear hF2 K
   refine s_runk tN2 Z 3 rfl rfl ?_; clear Z a; intro a Z
   refine h_alloc Z H (cl := [.int .i64 0, .int .i64 0, .int .u64 0, .int .i64 0, .slice none 0 0, .int .u64 0, .slice none 0 0, .int .i64 0, .int .i64 0, .slice none 0 0, .int .u64 0, .int .i64 0, .int .u64 0, .int .i64 0, .int .i64 0, .int .i64 0, .int .i64 0, .int .i64 0]) (z := .agg #[.int .i64 0, .int .i64 0, .int .u64 0, .int .i64 0, .slice none 0 0, .int .u64 0, .slice none 0 0, .int .i64 0, .int .i64 0, .slice none 0 0, .int .u64 0, .int .i64 0, .int .u64 0, .int .i64 0, .int .i64 0, .int .i64 0, .int .i64 0, .int .i64 0]) rfl rfl rfl (by decide) rfl (by kernel_rfl) rfl ?_; clear Z a H; intro a w7 b2 H Z
   refine h_store tN2 Z H 0 rfl rfl rfl rfl rfl rfl rfl rfl rfl (one_cons rfl (one_cons rfl (one_cons rfl (one_cons rfl (one_cons (slS.one (H.slshape 1 rfl)) (one_cons rfl (one_cons (slS.one (H.slshape 2 rfl)) (one_cons rfl (one_cons rfl (one_cons (slS.one (H.slshape 3 rfl)) (one_cons rfl (one_cons rfl (one_cons rfl (one_cons rfl (one_cons rfl (one_cons rfl (one_cons rfl (one_cons rfl one_nil)))))))))))))))))) (Nat.le_of_ble_eq_true rfl) (putCells_all rfl) ?_; clear H; intro w8 H
   dsimp only [List.eraseIdx] at H
   refine s_runk tN2 Z 1 rfl rfl ?_; clear Z a; intro a Z
   refine s_end Z [1, 4, 9, 10] rfl ?_; clear Z; intro Z
   refine p_then (wp_seq ?_)
   refine wp_seq (f_region Z ?_); clear Z; intro Z
   refine s_runk tN2 Z 2 rfl rfl ?_; clear Z a; intro a Z
   refine s_end Z [1, 4, 9, 48] rfl ?_; clear Z; intro Z
   refine p_then ?_
   refine f_cond Z rfl (fun hc2 => ?_) (fun hc2 => ?_)
   ·replace hF := ite_t hc2 hF
    refine wp_seq ?_
    obtain ⟨s0_2, hx5, hF⟩ := bnd_in hF
    obtain ⟨a0_3, hx6, hF⟩ := bnd_in hF
    refine f_region Z ?_; clear Z; intro Z
    refine s_ob Z (v := .agg #[.int .i64 o.1.k, .int .i64 o.1.n, .int .u64 o.1.at_, .int .i64 o.1.conf.epoch, q1, .int .u64 o.1.conf.floor, q2, .int .i64 o.1.entry.batch.client, .int .i64 o.1.entry.batch.req, q3, .int .u64 o.1.entry.ts, .int .i64 o.1.pin.id, .int .u64 o.1.pin.at_, .int .i64 o.1.pin.left, .int .i64 o.1.said.client, .int .i64 o.1.said.req, .int .i64 o.1.said.e, .int .i64 o.1.said.pin]) rfl rfl (by decide) rfl (Ob_loads tN2 rfl rfl rfl ((H.bx 0 rfl).part 0 rfl)) ?_; clear Z a; intro a Z
    refine s_ob Z (v := .agg #[.int .i64 0, .int .i64 0, .int .u64 0, .int .i64 0, .slice none 0 0, .int .u64 0, .slice none 0 0, .int .i64 0, .int .i64 0, .slice none 0 0, .int .u64 0, .int .i64 0, .int .u64 0, .int .i64 0, .int .i64 0, .int .i64 0, .int .i64 0, .int .i64 0]) rfl rfl (by decide) rfl (Ob_build (vs := []) rfl rfl (by go_simp <;> rfl)) ?_; clear Z a; intro a Z
    replace H : Hf I D w I5 w8 [SlC NEMember (.slice none 0 0) ([] : List EMember), BxC b2 39 (cENote o.1 q1 q2 q3), SlC NEMember q1 o.1.conf.members, SlC Ni64 q2 o.1.legit, SlC NEOp q3 o.1.entry.batch.ops] := H.slNil NEMember
    replace H : Hf I D w I5 w8 [SlC Ni64 (.slice none 0 0) ([] : List Int), SlC NEMember (.slice none 0 0) ([] : List EMember), BxC b2 39 (cENote o.1 q1 q2 q3), SlC NEMember q1 o.1.conf.members, SlC Ni64 q2 o.1.legit, SlC NEOp q3 o.1.entry.batch.ops] := H.slNil Ni64
    replace H : Hf I D w I5 w8 [SlC NEOp (.slice none 0 0) ([] : List EOp), SlC Ni64 (.slice none 0 0) ([] : List Int), SlC NEMember (.slice none 0 0) ([] : List EMember), BxC b2 39 (cENote o.1 q1 q2 q3), SlC NEMember q1 o.1.conf.members, SlC Ni64 q2 o.1.legit, SlC NEOp q3 o.1.entry.batch.ops] := H.slNil NEOp
    refine h_call Z H (js := [(4, true), (5, true), (6, true), (2, true), (1, true), (0, true)]) rfl (caps := #[]) fn_9_YNote2 rfl rfl rfl rfl rfl (by decide) rfl rfl (fun D1 hS => have hq := c_ref10_Same hx5 hS; hq) ?_; clear Z a; intro vv a w9 D2 hr hF2 Z
    obtain ⟨rfl, I6, K⟩ := hr
    have H : Hf I D w I6 w9 [SlC NEOp (.slice none 0 0) ([] : List EOp), SlC Ni64 (.slice none 0 0) ([] : List Int), SlC NEMember (.slice none 0 0) ([] : List EMember), BxC b2 39 (cENote o.1 q1 q2 q3), SlC NEMember q1 o.1.conf.members, SlC Ni64 q2 o.1.legit, SlC NEOp q3 o.1.entry.batch.ops] := hF2 K
    clear hF2 K
    refine s_runk tN2 Z 1 rfl rfl ?_; clear Z a; intro a Z
    refine g_call Z (p := s0_2) (v := .bool a0_3) (S' := []) (caps := #[]) fn_6_YNote2 rfl rfl rfl (wantB_t _) rfl (by decide) (fun hp hS => hS.sub (ts := []) rfl) rfl rfl rfl rfl (fun hp => have hq := c_law10_awake (gif_in hx6 hp) (H.pick0 (js := []) rfl rfl); plainC hq) ?_; clear Z a; intro a w10 hb Z
    replace H : Hf I D w I6 w10 [SlC NEOp (.slice none 0 0) ([] : List EOp), SlC Ni64 (.slice none 0 0) ([] : List Int), SlC NEMember (.slice none 0 0) ([] : List EMember), BxC b2 39 (cENote o.1 q1 q2 q3), SlC NEMember q1 o.1.conf.members, SlC Ni64 q2 o.1.legit, SlC NEOp q3 o.1.entry.batch.ops] := H.blw hb
    clear hb
    refine s_ob Z (v := .bool (s0_2 && a0_3)) rfl rfl (by decide) rfl (Ob_pick rfl rfl rfl rfl (pick_and _ _)) ?_; clear Z a; intro a Z
    refine s_runk tN2 Z 1 rfl rfl ?_; clear Z a; intro a Z
    refine s_end Z [1, 4, 9] rfl ?_; clear Z; intro Z
    refine p_then (wp_ret ?_)
    refine p_then_r ?_
    obtain rfl := some_in hF
    exact f_ret Z (run_results1 rfl Z rfl) ⟨rfl, I6, (H.sub [] rfl).eq rfl⟩
   ·replace hF := ite_f hc2 hF
    refine wp_skip ?_
    refine p_then (wp_seq ?_)
    obtain ⟨p_2, hx7, hF⟩ := bnd_in hF
    refine f_region Z ?_; clear Z; intro Z
    refine s_ob Z (v := .agg #[.int .i64 o.1.k, .int .i64 o.1.n, .int .u64 o.1.at_, .int .i64 o.1.conf.epoch, q1, .int .u64 o.1.conf.floor, q2, .int .i64 o.1.entry.batch.client, .int .i64 o.1.entry.batch.req, q3, .int .u64 o.1.entry.ts, .int .i64 o.1.pin.id, .int .u64 o.1.pin.at_, .int .i64 o.1.pin.left, .int .i64 o.1.said.client, .int .i64 o.1.said.req, .int .i64 o.1.said.e, .int .i64 o.1.said.pin]) rfl rfl (by decide) rfl (Ob_loads tN2 rfl rfl rfl ((H.bx 0 rfl).part 0 rfl)) ?_; clear Z a; intro a Z
    refine h_call Z H (js := [(1, true), (2, true), (3, true)]) rfl (caps := #[]) fn_11_YNote2 rfl rfl rfl rfl rfl (by decide) rfl rfl (fun D1 hS => have hq := c_note_Put hx7 hS; hq) ?_; clear Z a; intro vv a w11 D2 hr hF2 Z
    obtain ⟨rfl, I7, K⟩ := hr
    have H : Hf I D w I7 w11 [BxC b2 39 (cENote o.1 q1 q2 q3), SlC NEMember q1 o.1.conf.members, SlC Ni64 q2 o.1.legit, SlC NEOp q3 o.1.entry.batch.ops] := hF2 K
    clear hF2 K
    refine s_runk tN2 Z 5 rfl rfl ?_; clear Z a; intro a Z
    refine s_end Z [1, 4, 11, 12] rfl ?_; clear Z; intro Z
    refine p_then (wp_seq ?_)
    obtain ⟨a0_4, hx8, hF⟩ := bnd_in hF
    refine f_region Z ?_; clear Z; intro Z
    refine s_runk tN2 Z 4 rfl rfl ?_; clear Z a; intro a Z
    refine g_ob Z (p := (seqB p_2.1 s0)) (v := .int .i64 p_2.2) (S' := [(12, .int .i64 p_2.2)]) rfl rfl rfl (wantB_t _) rfl (by decide) (fun hp hS => hS.sub (ts := [12]) rfl) (fun hp => Ob_c tN2 rfl) ?_; clear Z a; intro a Z
    refine g_ob Z (p := (seqB p_2.1 s0)) (v := .bool (p_2.2 == 0)) (S' := [(64, .int .i64 p_2.2)]) rfl rfl rfl (wantB_t _) rfl (by decide) (fun hp hS => (hS.conv (t := 64) rfl (cond_t hp)).sub (ts := [64]) rfl) (fun hp => Ob_c tN2 rfl) ?_; clear Z a; intro a Z
    refine s_ob Z (v := .bool ((seqB p_2.1 s0) && (p_2.2 == 0))) rfl rfl (by decide) rfl (Ob_pick rfl rfl rfl rfl (pick_and _ _)) ?_; clear Z a; intro a Z
    refine s_runk tN2 Z 1 rfl rfl ?_; clear Z a; intro a Z
    refine g_call Z (p := ((seqB p_2.1 s0) && (p_2.2 == 0))) (v := .bool a0_4) (S' := []) (caps := #[]) fn_6_YNote2 rfl rfl rfl (wantB_t _) rfl (by decide) (fun hp hS => hS.sub (ts := []) rfl) rfl rfl rfl rfl (fun hp => have hq := c_law10_awake (gif_in hx8 hp) (H.pick0 (js := []) rfl rfl); plainC hq) ?_; clear Z a; intro a w12 hb Z
    replace H : Hf I D w I7 w12 [BxC b2 39 (cENote o.1 q1 q2 q3), SlC NEMember q1 o.1.conf.members, SlC Ni64 q2 o.1.legit, SlC NEOp q3 o.1.entry.batch.ops] := H.blw hb
    clear hb
    refine s_ob Z (v := .bool (((seqB p_2.1 s0) && (p_2.2 == 0)) && a0_4)) rfl rfl (by decide) rfl (Ob_pick rfl rfl rfl rfl (pick_and _ _)) ?_; clear Z a; intro a Z
    refine s_runk tN2 Z 1 rfl rfl ?_; clear Z a; intro a Z
    refine s_end Z [4] rfl ?_; clear Z; intro Z
    refine p_then (wp_ret ?_)
    obtain rfl := some_in hF
    exact f_ret Z (run_results1 rfl Z rfl) ⟨rfl, I7, (H.sub [] rfl).eq rfl⟩
  ·skip
   refine wp_seq (f_region Z ?_); clear Z; intro Z
   refine s_runk tN2 Z 2 rfl rfl ?_; clear Z a; intro a Z
   refine s_end Z [1, 2, 4, 5, 27] rfl ?_; clear Z; intro Z
   refine p_then ?_
   refine f_cond Z rfl (fun hc3 => ?_) (fun hc3 => ?_)
   ·replace hF := ite_t hc3 hF
    refine wp_seq ?_
    obtain ⟨o_2, hx9, hF⟩ := bnd_in hF
    refine f_region Z ?_; clear Z; intro Z
    refine s_runk tN2 Z 1 rfl rfl ?_; clear Z a; intro a Z
    refine h_call Z H (js := []) rfl (caps := #[]) fn_7_YNote2 rfl rfl rfl rfl rfl (by decide) rfl rfl (fun D1 hS => have hq := c_note_Of hx9 hS; hq) ?_; clear Z a; intro vv a w13 D2 hr hF2 Z
    obtain ⟨q4, q5, q6, rfl, I8, K⟩ := hr
    have H : Hf I D w I8 w13 [SlC NEMember q4 o_2.1.conf.members, SlC Ni64 q5 o_2.1.legit, SlC NEOp q6 o_2.1.entry.batch.ops, BxC b1 39 (cENote a0 v1_a0 v2_a0 v3_a0), SlC NEMember v1_a0 a0.conf.members, SlC Ni64 v2_a0 a0.legit, SlC NEOp v3_a0 a0.entry.batch.ops] := hF2 K
    clear hF2 K
    refine s_runk tN2 Z 3 rfl rfl ?_; clear Z a; intro a Z
    refine h_alloc Z H (cl := [.int .i64 0, .int .i64 0, .int .u64 0, .int .i64 0, .slice none 0 0, .int .u64 0, .slice none 0 0, .int .i64 0, .int .i64 0, .slice none 0 0, .int .u64 0, .int .i64 0, .int .u64 0, .int .i64 0, .int .i64 0, .int .i64 0, .int .i64 0, .int .i64 0]) (z := .agg #[.int .i64 0, .int .i64 0, .int .u64 0, .int .i64 0, .slice none 0 0, .int .u64 0, .slice none 0 0, .int .i64 0, .int .i64 0, .slice none 0 0, .int .u64 0, .int .i64 0, .int .u64 0, .int .i64 0, .int .i64 0, .int .i64 0, .int .i64 0, .int .i64 0]) rfl rfl rfl (by decide) rfl (by kernel_rfl) rfl ?_; clear Z a H; intro a w14 b3 H Z
    refine h_store tN2 Z H 0 rfl rfl rfl rfl rfl rfl rfl rfl rfl (one_cons rfl (one_cons rfl (one_cons rfl (one_cons rfl (one_cons (slS.one (H.slshape 1 rfl)) (one_cons rfl (one_cons (slS.one (H.slshape 2 rfl)) (one_cons rfl (one_cons rfl (one_cons (slS.one (H.slshape 3 rfl)) (one_cons rfl (one_cons rfl (one_cons rfl (one_cons rfl (one_cons rfl (one_cons rfl (one_cons rfl (one_cons rfl one_nil)))))))))))))))))) (Nat.le_of_ble_eq_true rfl) (putCells_all rfl) ?_; clear H; intro w15 H
    dsimp only [List.eraseIdx] at H
    refine s_runk tN2 Z 1 rfl rfl ?_; clear Z a; intro a Z
    refine s_end Z [1, 2, 4, 7, 8] rfl ?_; clear Z; intro Z
    refine p_then (wp_seq ?_)
    obtain ⟨c, hx10, hF⟩ := bnd_in hF
    obtain ⟨s0_3, hx11, hF⟩ := bnd_in hF
    refine f_regionL Z (by kernel_rfl) (by kernel_rfl) (by decide) (by decide) [5] [(0, 0, 0), (1, 0, 0), (3, 0, 0), (7, 0, 1), (7, 0, 0), (23, 0, 0), (63, 1, 1), (127, 1, 1), (255, 1, 1)] (by kernel_rfl) (fun jj vv => match jj with | 0 => vv = .int .i64 o_2.2 | 1 => vv = .bool (o_2.2 != 0) | 2 => vv = .bool (o_2.2 != 0) | 3 => vv = cond (!(o_2.2 != 0)) (.agg #[.int .i64 o_2.1.k, .int .i64 o_2.1.n, .int .u64 o_2.1.at_, .int .i64 o_2.1.conf.epoch, q4, .int .u64 o_2.1.conf.floor, q5, .int .i64 o_2.1.entry.batch.client, .int .i64 o_2.1.entry.batch.req, q6, .int .u64 o_2.1.entry.ts, .int .i64 o_2.1.pin.id, .int .u64 o_2.1.pin.at_, .int .i64 o_2.1.pin.left, .int .i64 o_2.1.said.client, .int .i64 o_2.1.said.req, .int .i64 o_2.1.said.e, .int .i64 o_2.1.said.pin]) undef | 4 => vv = cond (!(o_2.2 != 0)) (.agg #[.int .i64 a0.k, .int .i64 a0.n, .int .u64 a0.at_, .int .i64 a0.conf.epoch, v1_a0, .int .u64 a0.conf.floor, v2_a0, .int .i64 a0.entry.batch.client, .int .i64 a0.entry.batch.req, v3_a0, .int .u64 a0.entry.ts, .int .i64 a0.pin.id, .int .u64 a0.pin.at_, .int .i64 a0.pin.left, .int .i64 a0.said.client, .int .i64 a0.said.req, .int .i64 a0.said.e, .int .i64 a0.said.pin]) undef | 5 => vv = cond (!(o_2.2 != 0)) (.agg #[.int .i64 c.k, .int .i64 c.n, .int .u64 c.at_, .int .i64 c.conf.epoch, (aggSl vv 4), .int .u64 c.conf.floor, (aggSl vv 6), .int .i64 c.entry.batch.client, .int .i64 c.entry.batch.req, (aggSl vv 9), .int .u64 c.entry.ts, .int .i64 c.pin.id, .int .u64 c.pin.at_, .int .i64 c.pin.left, .int .i64 c.said.client, .int .i64 c.said.req, .int .i64 c.said.e, .int .i64 c.said.pin]) undef | 6 => vv = cond (!(o_2.2 != 0)) (.bool s0_3) undef | 7 => vv = cond (!(o_2.2 != 0)) (.bool !s0_3) undef | 8 => vv = .bool ((o_2.2 != 0) || !s0_3) | _ => True) (fun ss vals1 xw => match ss with | 0 => Gx I D w I8 w15 xw [BxC b3 39 (cENote o_2.1 q4 q5 q6), SlC NEMember q4 o_2.1.conf.members, SlC Ni64 q5 o_2.1.legit, SlC NEOp q6 o_2.1.entry.batch.ops, BxC b1 39 (cENote a0 v1_a0 v2_a0 v3_a0), SlC NEMember v1_a0 a0.conf.members, SlC Ni64 v2_a0 a0.legit, SlC NEOp v3_a0 a0.entry.batch.ops] | _ => Gx I D w I8 w15 xw [SlC NEMember (aggSl (vals1 5) 4) c.conf.members, SlC Ni64 (aggSl (vals1 5) 6) c.legit, SlC NEOp (aggSl (vals1 5) 9) c.entry.batch.ops, BxC b3 39 (cENote o_2.1 q4 q5 q6), SlC NEMember q4 o_2.1.conf.members, SlC Ni64 q5 o_2.1.legit, SlC NEOp q6 o_2.1.entry.batch.ops, BxC b1 39 (cENote a0 v1_a0 v2_a0 v3_a0), SlC NEMember v1_a0 a0.conf.members, SlC Ni64 v2_a0 a0.legit, SlC NEOp v3_a0 a0.entry.batch.ops]) (fun _ => Gx.start H) ?_ ?_
    ·intro fr hfr hfe
     refine .cons (fun ss hlo hhi vals1 xw hG hV => ?_) ?_
     ·obtain rfl : ss = 0 := Nat.le_antisymm hhi hlo
      rw [← hfe]
      have hS := (hfr vals1).sub (ts := [8]) (S' := [(8, .int .i64 o_2.2)]) rfl
      exact L_val hS rfl (Ob_c tN2 rfl) ⟨rfl, hG⟩
     refine .cons (fun ss hlo hhi vals1 xw hG hV => ?_) ?_
     ·obtain rfl : ss = 0 := Nat.le_antisymm hhi hlo
      rw [← hfe]
      have hS := (hfr vals1).sub (ts := [33]) (S' := [(33, vals1 0)]) rfl
      replace hS := hS.conv (t := 33) rfl (show (vals1 0) = .int .i64 o_2.2 from hV 0 (by decide))
      exact L_val hS rfl (Ob_c tN2 rfl) ⟨rfl, hG⟩
     refine .cons (fun ss hlo hhi vals1 xw hG hV => ?_) ?_
     ·obtain rfl : ss = 0 := Nat.le_antisymm hhi hlo
      rw [← hfe]
      have hS := (hfr vals1).sub (ts := [34]) (S' := [(34, vals1 1)]) rfl
      replace hS := hS.conv (t := 34) rfl (show (vals1 1) = .bool (o_2.2 != 0) from hV 1 (by decide))
      exact L_val hS rfl (Ob_c tN2 rfl) ⟨rfl, hG⟩
     refine .cons (fun ss hlo hhi vals1 xw hG hV => ?_) ?_
     ·obtain rfl | rfl : ss = 0 ∨ ss = 1 := st1 hlo hhi
      ·rw [← hfe]
       have hS := (hfr vals1).sub (ts := [35, 7]) (S' := [(35, vals1 2), (7, .pointer (some ⟨b3, 0, none⟩))]) rfl
       replace hS := hS.conv (t := 35) rfl (show (vals1 2) = .bool (o_2.2 != 0) from hV 2 (by decide))
       refine L_gw (p := (!(o_2.2 != 0))) hS rfl rfl rfl (wantB_f _) (fun hp => ?_) (fun hp => ⟨by rw [hp]; rfl, hG⟩)
       obtain ⟨I2, hI2, H⟩ := Gx.ex hG
       exact L_val hS rfl (Ob_loads tN2 rfl rfl rfl ((H.bx 0 rfl).part 0 rfl)) ⟨(by rw [hp]; rfl), hG⟩
      ·rw [← hfe]
       have hS := (hfr vals1).sub (ts := [35, 7]) (S' := [(35, vals1 2), (7, .pointer (some ⟨b3, 0, none⟩))]) rfl
       replace hS := hS.conv (t := 35) rfl (show (vals1 2) = .bool (o_2.2 != 0) from hV 2 (by decide))
       refine L_gw (p := (!(o_2.2 != 0))) hS rfl rfl rfl (wantB_f _) (fun hp => ?_) (fun hp => ⟨by rw [hp]; rfl, hG⟩)
       obtain ⟨I2, hI2, H⟩ := Gx.ex hG
       exact L_val hS rfl (Ob_loads tN2 rfl rfl rfl ((H.bx 3 rfl).part 0 rfl)) ⟨(by rw [hp]; rfl), hG⟩
     refine .cons (fun ss hlo hhi vals1 xw hG hV => ?_) ?_
     ·obtain rfl : ss = 0 := Nat.le_antisymm hhi hlo
      rw [← hfe]
      have hS := (hfr vals1).sub (ts := [35, 2]) (S' := [(35, vals1 2), (2, .pointer (some ⟨b1, 0, none⟩))]) rfl
      replace hS := hS.conv (t := 35) rfl (show (vals1 2) = .bool (o_2.2 != 0) from hV 2 (by decide))
      refine L_gw (p := (!(o_2.2 != 0))) hS rfl rfl rfl (wantB_f _) (fun hp => ?_) (fun hp => ⟨by rw [hp]; rfl, hG⟩)
      obtain ⟨I2, hI2, H⟩ := Gx.ex hG
      exact L_val hS rfl (Ob_loads tN2 rfl rfl rfl ((H.bx 4 rfl).part 0 rfl)) ⟨(by rw [hp]; rfl), hG⟩
     refine .cons (fun ss hlo hhi vals1 xw hG hV => ?_) ?_
     ·obtain rfl : ss = 0 := Nat.le_antisymm hhi hlo
      rw [← hfe]
      have hS := (hfr vals1).sub (ts := [37, 35]) (S' := [(37, vals1 4), (35, vals1 2)]) rfl
      replace hS := hS.conv (t := 37) rfl (show (vals1 4) = cond (!(o_2.2 != 0)) (.agg #[.int .i64 a0.k, .int .i64 a0.n, .int .u64 a0.at_, .int .i64 a0.conf.epoch, v1_a0, .int .u64 a0.conf.floor, v2_a0, .int .i64 a0.entry.batch.client, .int .i64 a0.entry.batch.req, v3_a0, .int .u64 a0.entry.ts, .int .i64 a0.pin.id, .int .u64 a0.pin.at_, .int .i64 a0.pin.left, .int .i64 a0.said.client, .int .i64 a0.said.req, .int .i64 a0.said.e, .int .i64 a0.said.pin]) undef from hV 4 (by decide))
      replace hS := hS.conv (t := 35) rfl (show (vals1 2) = .bool (o_2.2 != 0) from hV 2 (by decide))
      refine L_gw (p := (!(o_2.2 != 0))) hS rfl rfl rfl (wantB_f _) (fun hp => ?_) (fun hp => ⟨by rw [hp]; rfl, ?_⟩)
      ·obtain ⟨I2, hI2, H⟩ := Gx.ex hG
       replace hS := hS.conv (t := 37) rfl (cond_t hp)
       refine L_hcall H (js := [(5, true), (6, true), (7, true)]) rfl (caps := #[]) hS fn_12_YNote2 rfl rfl rfl rfl rfl (fun D1 hS => have hq := c_ref10_Clean (gif_in hx10 hp) hS; hq) fun _ yw D1 hr hF2 => ?_
       obtain ⟨q0_, q1_, q2_, rfl, I3, K⟩ := hr
       obtain ⟨hK, H2⟩ := hF2 K
       exact ⟨by rw [hp]; rfl, by first | (rw [hp]; exact Gx.go hG hI2 hK K.imm H2) | exact Gx.go hG hI2 hK K.imm H2⟩
      ·obtain rfl := gif_no hx10 hp; (try rw [hp]); obtain ⟨I2, hI2, H⟩ := Gx.ex hG; exact Gx.go hG hI2 (Keep.refl _ _) (fun _ h => h) (Hf.sub (Hf.slNil (Hf.slNil (Hf.slNil (H.sub [(0, false), (0, true), (1, true), (2, true), (3, false), (3, true), (4, true), (5, true)] rfl) NEMember) Ni64) NEOp) [(2, false), (1, false), (0, false), (0, false), (0, true), (1, true), (2, true), (3, false), (3, true), (4, true), (5, true)] rfl)
     refine .cons (fun ss hlo hhi vals1 xw hG hV => ?_) ?_
     ·obtain rfl : ss = 1 := Nat.le_antisymm hhi hlo
      rw [← hfe]
      have hS := (hfr vals1).sub (ts := [36, 38, 35]) (S' := [(36, vals1 3), (38, vals1 5), (35, vals1 2)]) rfl
      replace hS := hS.conv (t := 36) rfl (show (vals1 3) = cond (!(o_2.2 != 0)) (.agg #[.int .i64 o_2.1.k, .int .i64 o_2.1.n, .int .u64 o_2.1.at_, .int .i64 o_2.1.conf.epoch, q4, .int .u64 o_2.1.conf.floor, q5, .int .i64 o_2.1.entry.batch.client, .int .i64 o_2.1.entry.batch.req, q6, .int .u64 o_2.1.entry.ts, .int .i64 o_2.1.pin.id, .int .u64 o_2.1.pin.at_, .int .i64 o_2.1.pin.left, .int .i64 o_2.1.said.client, .int .i64 o_2.1.said.req, .int .i64 o_2.1.said.e, .int .i64 o_2.1.said.pin]) undef from hV 3 (by decide))
      replace hS := hS.conv (t := 38) rfl (show (vals1 5) = cond (!(o_2.2 != 0)) (.agg #[.int .i64 c.k, .int .i64 c.n, .int .u64 c.at_, .int .i64 c.conf.epoch, (aggSl (vals1 5) 4), .int .u64 c.conf.floor, (aggSl (vals1 5) 6), .int .i64 c.entry.batch.client, .int .i64 c.entry.batch.req, (aggSl (vals1 5) 9), .int .u64 c.entry.ts, .int .i64 c.pin.id, .int .u64 c.pin.at_, .int .i64 c.pin.left, .int .i64 c.said.client, .int .i64 c.said.req, .int .i64 c.said.e, .int .i64 c.said.pin]) undef from hV 5 (by decide))
      replace hS := hS.conv (t := 35) rfl (show (vals1 2) = .bool (o_2.2 != 0) from hV 2 (by decide))
      refine L_gw (p := (!(o_2.2 != 0))) hS rfl rfl rfl (wantB_f _) (fun hp => ?_) (fun hp => ⟨by rw [hp]; rfl, hG⟩)
      replace hS := hS.conv (t := 36) rfl (cond_t hp)
      replace hS := hS.conv (t := 38) rfl (cond_t hp)
      obtain ⟨I2, hI2, H⟩ := Gx.ex hG
      refine L_call (caps := #[]) hS fn_9_YNote2 rfl rfl rfl rfl rfl ((have hq := c_ref10_Same (gif_in hx11 hp) ((H).pick0 (js := [(4, true), (5, true), (6, true), (0, true), (1, true), (2, true)]) rfl rfl); plainC hq)) fun r yw hr => ?_
      obtain ⟨rfl, hb⟩ := hr
      exact ⟨(by rw [hp]; rfl), Gx.blw hG hb⟩
     refine .cons (fun ss hlo hhi vals1 xw hG hV => ?_) ?_
     ·obtain rfl : ss = 1 := Nat.le_antisymm hhi hlo
      rw [← hfe]
      have hS := (hfr vals1).sub (ts := [39, 35]) (S' := [(39, vals1 6), (35, vals1 2)]) rfl
      replace hS := hS.conv (t := 39) rfl (show (vals1 6) = cond (!(o_2.2 != 0)) (.bool s0_3) undef from hV 6 (by decide))
      replace hS := hS.conv (t := 35) rfl (show (vals1 2) = .bool (o_2.2 != 0) from hV 2 (by decide))
      refine L_gw (p := (!(o_2.2 != 0))) hS rfl rfl rfl (wantB_f _) (fun hp => ?_) (fun hp => ⟨by rw [hp]; rfl, hG⟩)
      replace hS := hS.conv (t := 39) rfl (cond_t hp)
      exact L_val hS rfl (Ob_c tN2 rfl) ⟨(by rw [hp]; rfl), hG⟩
     refine .cons (fun ss hlo hhi vals1 xw hG hV => ?_) ?_
     ·obtain rfl : ss = 1 := Nat.le_antisymm hhi hlo
      rw [← hfe]
      have hS := (hfr vals1).sub (ts := [35, 40]) (S' := [(35, vals1 2), (40, vals1 7)]) rfl
      replace hS := hS.conv (t := 35) rfl (show (vals1 2) = .bool (o_2.2 != 0) from hV 2 (by decide))
      replace hS := hS.conv (t := 40) rfl (show (vals1 7) = cond (!(o_2.2 != 0)) (.bool !s0_3) undef from hV 7 (by decide))
      exact L_val hS rfl (Ob_pick rfl rfl rfl rfl (pick_or _ _)) ⟨rfl, hG⟩
     exact .nil
    ·intro vals1 a w16 Z hG hV
     replace Z := Z.sub (ts := [1, 4, 41]) (S' := [(1, .string s0), (4, .bool false), (41, vals1 8)]) rfl
     replace Z := Z.conv (t := 41) rfl (show (vals1 8) = .bool ((o_2.2 != 0) || !s0_3) from hV 8 (by decide))
     obtain ⟨I9, _, H⟩ := Gx.ex hG
     clear hG hV
     replace Z := Z.sub (ts := [1, 4, 41]) rfl
     replace H : Hf I D w I9 w16 [SlC NEMember (aggSl (vals1 5) 4) c.conf.members, SlC Ni64 (aggSl (vals1 5) 6) c.legit, SlC NEOp (aggSl (vals1 5) 9) c.entry.batch.ops, BxC b3 39 (cENote o_2.1 q4 q5 q6), SlC NEMember q4 o_2.1.conf.members, SlC Ni64 q5 o_2.1.legit, SlC NEOp q6 o_2.1.entry.batch.ops, BxC b1 39 (cENote a0 v1_a0 v2_a0 v3_a0), SlC NEMember v1_a0 a0.conf.members, SlC Ni64 v2_a0 a0.legit, SlC NEOp v3_a0 a0.entry.batch.ops] := H
     refine p_then ?_
     refine f_cond Z rfl (fun hc4 => ?_) (fun hc4 => ?_)
     ·replace hF := ite_t hc4 hF
      refine wp_seq (f_region Z ?_); clear Z; intro Z
      refine s_runk tN2 Z 1 rfl rfl ?_; clear Z a; intro a Z
      refine s_end Z [1, 4] rfl ?_; clear Z; intro Z
      refine p_then (wp_ret ?_)
      refine p_then_r ?_
      obtain rfl := some_in hF
      exact f_ret Z (run_results1 rfl Z rfl) ⟨rfl, I9, (H.sub [] rfl).eq rfl⟩
     ·replace hF := ite_f hc4 hF
      refine wp_skip ?_
      refine p_then ?_
      exact ⟨Z.sub (ts := [1, 4]) rfl, ⟨I9, (H.sub [] rfl).eq rfl⟩, hF⟩
   ·replace hF := ite_f hc3 hF
    refine wp_skip ?_
    refine p_then ?_
    exact ⟨Z.sub (ts := [1, 4]) rfl, ⟨I3, (H.sub [] rfl).eq rfl⟩, hF⟩

end Go.Proofs.Ytbfglbbbkcpgeaa
