/- What a replica answers: the laws' small parts. -/
import Derived.Test.YtaknkbbjimielaaYSv
namespace Go.Proofs.Ytaknkbbjimielaa
open Go.RowKit
def tSvWL : TabL := ⟨[(37888, 0), (37890, 2), (37898, 10), (37905, 21), (63488, 0), (63489, 1)], [], [], [(22, (62, 2)), (30, (69, 3)), (35, (81, 2))], [(3, (1, false)), (23, (1, false)), (26, (1, false)), (30, (1, false)), (35, (1, false)), (37, (22, true)), (59, (2, true))]⟩

def tSvW : Tab Try.prog := ⟨tSvWL, by kernel_rfl⟩

theorem fn_8_YSvW : IsFn Try.prog 8 := ⟨_, Try.func8, by kernel_rfl, by kernel_rfl⟩

theorem fn_9_YSvW : IsFn Try.prog 9 := ⟨_, Try.func9, by kernel_rfl, by kernel_rfl⟩

theorem fn_18_YSvW : IsFn Try.prog 18 := ⟨_, Try.func18, by kernel_rfl, by kernel_rfl⟩

theorem fn_22_YSvW : IsFn Try.prog 22 := ⟨_, Try.func22, by kernel_rfl, by kernel_rfl⟩

theorem fn_23_YSvW : IsFn Try.prog 23 := ⟨_, Try.func23, by kernel_rfl, by kernel_rfl⟩

def F_law31_awake : Option Bool := (F_mvcc_New).bind fun n0 => ((F_mvcc_Store_Put n0 3 [({ key := ⟨#[97]⟩, val := ⟨#[49]⟩, del := false } : EOp)]).bind fun p => ((F_serve_At 4 0 1 1).bind fun a0 => ((F_serve_Answer p.2 a0 ({ (default : EMsg) with k := 8, req := 7, at_ := 4, key := ⟨#[97]⟩ } : EMsg)).bind fun a0_2 => ((F_serve_At 4 0 1 1).bind fun a0_3 => ((F_serve_Answer a0_2.2.2 a0_3 ({ (default : EMsg) with k := 8, req := 7, at_ := 5, key := ⟨#[97]⟩ } : EMsg)).bind fun a0_4 => (some ((((((a0_2.2.1 && a0_4.2.1) && (a0_2.1.k == 10)) && (a0_2.1.req == 7)) && ((a0_2.1.pairs.length : Int) == 1)) && (a0_4.1.k == 7)) && (a0_4.1.e == 12))))))))

set_option maxHeartbeats 1000000 in
theorem c_law31_awake {I D : Dm} {w : World} {rr : Bool} (hF : F_law31_awake = some rr) (H : St I D w []) :
  Calls Try.prog 6 #[] w (Ret fun vv w' => vv = vT rr ∧ ∃ I', Hf I D w I' w' []) := by
 replace H := H.hf
 unfold F_law31_awake at hF
 refine f_enter 55 Try.func6 rfl rfl (Nat.le_of_ble_eq_true rfl) fun a Z => ?_
 replace Z := Z.sub (ts := []) rfl
 refine wp_seq (f_region Z ?_); clear Z; intro Z
 refine s_runk tSvW Z 1 rfl rfl fun a Z => ?_
 refine s_end Z [] rfl fun Z => ?_
 refine p_then (wp_seq ?_)
 obtain ⟨n0, hx1, hF⟩ := bnd_in hF
 refine f_region Z fun Z => ?_
 refine hC Z H [] rfl #[] fn_22_YSvW rfl rfl (fun D h => have q := c_mvcc_New hx1 h; q) fun vv a w1 D2 hr hF2 Z => ?_
 obtain ⟨g1, rfl, I1, K⟩ := hr
 have H := (hF2 K).nf rfl
 refine s_runk tSvW Z 1 rfl rfl fun a Z => ?_
 refine s_end Z [1] rfl fun Z => ?_
 refine p_then (wp_seq ?_)
 obtain ⟨p, hx2, hF⟩ := bnd_in hF
 refine f_region Z fun Z => ?_
 refine s_runk tSvW Z 1 rfl rfl fun a Z => ?_
 refine sO Z (.agg #[vS ⟨#[97]⟩, vS ⟨#[49]⟩, vT false]) rfl (Ob_build (vs := [(0, vS ⟨#[97]⟩), (1, vS ⟨#[49]⟩)]) rfl rfl (by go_simp <;> rfl)) fun a Z => ?_
 refine h_bslice Z H (vs := [(0, .agg #[vS ⟨#[97]⟩, vS ⟨#[49]⟩, vT false])]) (cl := [vS ⟨#[97]⟩, vS ⟨#[49]⟩, vT false]) (e := 69) rfl rfl rfl (by decide) rfl rfl (fun w => run_bslice (z := .agg #[vS ByteArray.empty, vS ByteArray.empty, vT false]) (m := 3) Try.underlying30 (by kernel_rfl) rfl rfl (by decide) (by simp [Instr.fill, Value.cells]) w) fun a w2 b1 H Z => ?_
 obtain ⟨I2, _, H⟩ := H.frzlit 0 rfl (R := NEOp) [[vS ⟨#[97]⟩, vS ⟨#[49]⟩, vT false]] [({ key := ⟨#[97]⟩, val := ⟨#[49]⟩, del := false } : EOp)] rfl rfl (fun i h1 h2 => by match i, h1, h2 with | 0, _, _ => exact ⟨rfl, trivial⟩) (show 1 ≤ maxLen from by decide) (n := 1) rfl
 replace H := H.nf rfl; try dsimp only at H
 refine hC Z H [(1, false), (0, true)] rfl #[] fn_18_YSvW rfl rfl (fun D h => have q := c_mvcc_Store_Put hx2 h; q) fun vv a w3 D2 hr hF2 Z => ?_
 obtain ⟨rfl, I3, K⟩ := hr
 have H := (hF2 K).nf rfl
 refine s_end Z [1] rfl fun Z => ?_
 refine p_then (wp_seq ?_)
 obtain ⟨a0, hx3, hF⟩ := bnd_in hF
 obtain ⟨a0_2, hx4, hF⟩ := bnd_in hF
 refine f_region Z fun Z => ?_
 refine s_runk tSvW Z 1 rfl rfl fun a Z => ?_
 refine hC Z H [] rfl #[] fn_8_YSvW rfl rfl (fun D h => have q := c_serve_At hx3 h; q) fun vv a w4 D2 hr hF2 Z => ?_
 obtain ⟨rfl, I4, K⟩ := hr
 have H := (hF2 K).nf rfl
 refine sO Z (.agg #[vI 8, vI 0, vI 7, vI 0, vT false, vU 4, vU 0, vI 0, vI 0, vI 0, vI 0, vS ⟨#[97]⟩, vS ByteArray.empty, vI 0, nS, vU 0, vI 0, vI 0, nS, nS, nS, nS]) rfl (Ob_build (vs := [(0, vI 8), (2, vI 7), (11, vS ⟨#[97]⟩), (5, vU 4)]) rfl rfl (by go_simp <;> rfl)) fun a Z => ?_
 replace H := H.slNil NEMember
 replace H := H.slNil NEOp
 replace H := H.slNil NEEntry
 replace H := H.slNil Nu64
 replace H := H.slNil NEPair
 refine hC Z H [(5, false), (4, true), (3, true), (2, true), (1, true), (0, true)] rfl #[] fn_9_YSvW rfl rfl (fun D h => have q := c_serve_Answer hx4 h; q) fun vv a w5 D2 hr hF2 Z => ?_
 obtain ⟨q1, q2, q3, q4, q5, rfl, I5, K⟩ := hr
 have H := (hF2 K).nf rfl
 refine s_runk tSvW Z 3 rfl rfl fun a Z => ?_
 refine hA Z H [vI 0, vI 0, vI 0, vI 0, vT false, vU 0, vU 0, vI 0, vI 0, vI 0, vI 0, vS ByteArray.empty, vS ByteArray.empty, vI 0, nS, vU 0, vI 0, vI 0, nS, nS, nS, nS] rfl rfl (by kernel_rfl) fun a w6 b2 H Z => ?_
 refine hT tSvW Z H 0 rfl rfl rfl rfl rfl (onR 14 rfl (one_cons (slS.one (H.slshape 2 rfl)) (onR 3 rfl (one_cons (slS.one (H.slshape 3 rfl)) (one_cons (slS.one (H.slshape 4 rfl)) (one_cons (slS.one (H.slshape 5 rfl)) (one_cons (slS.one (H.slshape 6 rfl)) one_nil))))))) (Nat.le_of_ble_eq_true rfl) (putCells_all rfl) fun w7 H => ?_
 dsimp only [List.eraseIdx] at H
 refine s_runk tSvW Z 1 rfl rfl fun a Z => ?_
 refine s_end Z [1, 2, 3] rfl fun Z => ?_
 refine p_then (wp_seq ?_)
 obtain ⟨a0_3, hx5, hF⟩ := bnd_in hF
 obtain ⟨a0_4, hx6, hF⟩ := bnd_in hF
 refine f_region Z fun Z => ?_
 refine s_runk tSvW Z 1 rfl rfl fun a Z => ?_
 refine hC Z H [] rfl #[] fn_8_YSvW rfl rfl (fun D h => have q := c_serve_At hx5 h; q) fun vv a w8 D2 hr hF2 Z => ?_
 obtain ⟨rfl, I6, K⟩ := hr
 have H := (hF2 K).nf rfl
 refine sO Z (.agg #[vI 8, vI 0, vI 7, vI 0, vT false, vU 5, vU 0, vI 0, vI 0, vI 0, vI 0, vS ⟨#[97]⟩, vS ByteArray.empty, vI 0, nS, vU 0, vI 0, vI 0, nS, nS, nS, nS]) rfl (Ob_build (vs := [(0, vI 8), (2, vI 7), (11, vS ⟨#[97]⟩), (5, vU 5)]) rfl rfl (by go_simp <;> rfl)) fun a Z => ?_
 replace H := H.slNil NEMember
 replace H := H.slNil NEOp
 replace H := H.slNil NEEntry
 replace H := H.slNil Nu64
 replace H := H.slNil NEPair
 refine hC Z H [(6, false), (4, true), (3, true), (2, true), (1, true), (0, true)] rfl #[] fn_9_YSvW rfl rfl (fun D h => have q := c_serve_Answer hx6 h; q) fun vv a w9 D2 hr hF2 Z => ?_
 obtain ⟨q6, q7, q8, q9, q10, rfl, I7, K⟩ := hr
 have H := (hF2 K).nf rfl
 refine s_runk tSvW Z 3 rfl rfl fun a Z => ?_
 refine hA Z H [vI 0, vI 0, vI 0, vI 0, vT false, vU 0, vU 0, vI 0, vI 0, vI 0, vI 0, vS ByteArray.empty, vS ByteArray.empty, vI 0, nS, vU 0, vI 0, vI 0, nS, nS, nS, nS] rfl rfl (by kernel_rfl) fun a w10 b3 H Z => ?_
 refine hT tSvW Z H 0 rfl rfl rfl rfl rfl (onR 14 rfl (one_cons (slS.one (H.slshape 2 rfl)) (onR 3 rfl (one_cons (slS.one (H.slshape 3 rfl)) (one_cons (slS.one (H.slshape 4 rfl)) (one_cons (slS.one (H.slshape 5 rfl)) (one_cons (slS.one (H.slshape 6 rfl)) one_nil))))))) (Nat.le_of_ble_eq_true rfl) (putCells_all rfl) fun w11 H => ?_
 dsimp only [List.eraseIdx] at H
 refine s_runk tSvW Z 1 rfl rfl fun a Z => ?_
 refine s_end Z [2, 3, 4, 5] rfl fun Z => ?_
 refine p_then (wp_seq (f_region Z ?_)); clear Z; intro Z
 refine s_runk tSvW Z 2 rfl rfl fun a Z => ?_
 refine gO Z (vT a0_4.2.1) rfl (wantB_t _) (.n 5 rfl .z) (fun hp => Ob_c tSvW rfl) fun a Z => ?_
 refine sO Z (vT (a0_2.2.1 && a0_4.2.1)) rfl (Ob_pick rfl rfl rfl rfl (pick_and _ _)) fun a Z => ?_
 refine s_runk tSvW Z 1 rfl rfl fun a Z => ?_
 refine gO Z (pp b2 0) rfl (wantB_t _) (.n 2 rfl .z) (fun hp => Ob_c tSvW rfl) fun a Z => ?_
 refine gO Z _ rfl (wantB_t _) (.c 30 rfl id .z) (fun hp => oL tSvW rfl rfl (H.bc 12 0 rfl rfl)) fun a Z => ?_
 refine gO Z (vT (a0_2.1.k == 10)) rfl (wantB_t _) (.c 31 rfl id .z) (fun hp => Ob_c tSvW rfl) fun a Z => ?_
 refine sO Z (vT ((a0_2.2.1 && a0_4.2.1) && (a0_2.1.k == 10))) rfl (Ob_pick rfl rfl rfl rfl (pick_and _ _)) fun a Z => ?_
 refine s_runk tSvW Z 1 rfl rfl fun a Z => ?_
 refine gO Z (pp b2 2) rfl (wantB_t _) (.n 2 rfl .z) (fun hp => Ob_c tSvW rfl) fun a Z => ?_
 refine gO Z _ rfl (wantB_t _) (.c 35 rfl id .z) (fun hp => oL tSvW rfl rfl (H.bc 12 2 rfl rfl)) fun a Z => ?_
 refine gO Z (vT (a0_2.1.req == 7)) rfl (wantB_t _) (.c 36 rfl id .z) (fun hp => Ob_c tSvW rfl) fun a Z => ?_
 refine sO Z (vT (((a0_2.2.1 && a0_4.2.1) && (a0_2.1.k == 10)) && (a0_2.1.req == 7))) rfl (Ob_pick rfl rfl rfl rfl (pick_and _ _)) fun a Z => ?_
 refine s_runk tSvW Z 1 rfl rfl fun a Z => ?_
 refine gO Z (pp b2 21) rfl (wantB_t _) (.n 2 rfl .z) (fun hp => Ob_c tSvW rfl) fun a Z => ?_
 refine gO Z _ rfl (wantB_t _) (.c 40 rfl id .z) (fun hp => oL tSvW rfl rfl (H.bc 12 21 rfl rfl)) fun a Z => ?_
 refine gO Z (vI (ln a0_2.1.pairs)) rfl (wantB_t _) (.c 41 rfl id .z) (fun hp => Ob_slen tSvW rfl rfl rfl (H.slshape 17 rfl)) fun a Z => ?_
 refine gO Z (vT ((ln a0_2.1.pairs) == 1)) rfl (wantB_t _) (.c 42 rfl id .z) (fun hp => Ob_c tSvW rfl) fun a Z => ?_
 refine sO Z (vT ((((a0_2.2.1 && a0_4.2.1) && (a0_2.1.k == 10)) && (a0_2.1.req == 7)) && ((ln a0_2.1.pairs) == 1))) rfl (Ob_pick rfl rfl rfl rfl (pick_and _ _)) fun a Z => ?_
 refine s_runk tSvW Z 1 rfl rfl fun a Z => ?_
 refine gO Z (pp b3 0) rfl (wantB_t _) (.n 4 rfl .z) (fun hp => Ob_c tSvW rfl) fun a Z => ?_
 refine gO Z _ rfl (wantB_t _) (.c 46 rfl id .z) (fun hp => oL tSvW rfl rfl (H.bc 0 0 rfl rfl)) fun a Z => ?_
 refine gO Z (vT (a0_4.1.k == 7)) rfl (wantB_t _) (.c 47 rfl id .z) (fun hp => Ob_c tSvW rfl) fun a Z => ?_
 refine sO Z (vT (((((a0_2.2.1 && a0_4.2.1) && (a0_2.1.k == 10)) && (a0_2.1.req == 7)) && ((ln a0_2.1.pairs) == 1)) && (a0_4.1.k == 7))) rfl (Ob_pick rfl rfl rfl rfl (pick_and _ _)) fun a Z => ?_
 refine s_runk tSvW Z 1 rfl rfl fun a Z => ?_
 refine gO Z (pp b3 10) rfl (wantB_t _) (.n 4 rfl .z) (fun hp => Ob_c tSvW rfl) fun a Z => ?_
 refine gO Z _ rfl (wantB_t _) (.c 51 rfl id .z) (fun hp => oL tSvW rfl rfl (H.bc 0 10 rfl rfl)) fun a Z => ?_
 refine gO Z (vT (a0_4.1.e == 12)) rfl (wantB_t _) (.c 52 rfl id .z) (fun hp => Ob_c tSvW rfl) fun a Z => ?_
 refine sO Z (vT ((((((a0_2.2.1 && a0_4.2.1) && (a0_2.1.k == 10)) && (a0_2.1.req == 7)) && ((ln a0_2.1.pairs) == 1)) && (a0_4.1.k == 7)) && (a0_4.1.e == 12))) rfl (Ob_pick rfl rfl rfl rfl (pick_and _ _)) fun a Z => ?_
 refine s_runk tSvW Z 1 rfl rfl fun a Z => ?_
 refine s_end Z [0] rfl fun Z => ?_
 refine p_then (wp_ret ?_)
 obtain rfl := some_in hF
 exact f_ret Z (run_results1 rfl Z rfl) ⟨rfl, I7, (H.sub [] rfl).eq rfl⟩

def F_law31_few_l1 (l : List Elaw31_Put) (rc : Int → Option Bool) (sg : Int) : Option Bool := match sg with | i => if ((decide (i < (l.length : Int))) && (decide (i < 40))) = true then (chk ((0 : Int) ≤ i ∧ i < (l.length : Int)) (if (decide ((((l.getD (i).toNat default).ops).length : Int) > 20)) = true then (some false) else (chk (inI (i + 1)) (rc (i + 1))))) else (some true)

def F_law31_few (l : List Elaw31_Put) : Option Bool := iter (F_law31_few_l1 l) FU 0

set_option maxHeartbeats 1000000 in
theorem c_law31_few {I D : Dm} {l : List Elaw31_Put} {v1_l : Value} {w : World} {rr : Bool} (hF : F_law31_few l = some rr) (H : St I D w [SlC NElaw31_Put v1_l l]) :
  Calls Try.prog 5 #[v1_l] w (Ret fun vv w' => vv = vT rr ∧ ∃ I', Hf I D w I' w' []) := by
 replace H := H.hf
 unfold F_law31_few at hF
 refine f_enter 21 Try.func5 rfl rfl (Nat.le_of_ble_eq_true rfl) fun a Z => ?_
 replace Z := Z.sub (ts := [0]) rfl
 refine wp_seq (f_region Z ?_); clear Z; intro Z
 refine s_runk tSvW Z 1 rfl rfl fun a Z => ?_
 refine s_end Z [0] rfl fun Z => ?_
 refine p_then (wp_seq ?_)
 refine wp_seq (f_region Z ?_); clear Z; intro Z
 refine s_runk tSvW Z 1 rfl rfl fun a Z => ?_
 refine s_end Z [0, 3] rfl fun Z => ?_
 refine p_then (wp_block ?_)
 refine f_iter hF (fun sg a' w' => match sg with | i => Sl 21 [(0, v1_l), (3, vI i)] a' ∧ ∃ I2, Hf I D w I2 w' [SlC NElaw31_Put v1_l l]) ⟨Z.sub (ts := [0, 3]) rfl, ⟨I, (H.sub [(0, true)] rfl).eq rfl⟩⟩ ?_
 rintro rc i a w1 ⟨Z, I1, H⟩ hF
 unfold F_law31_few_l1 at hF
 try dsimp only at hF
 refine wp_seq ?_
 refine wp_seq (f_region Z ?_); clear Z; intro Z
 refine s_runk tSvW Z 2 rfl rfl fun a Z => ?_
 refine sO Z (vI (ln l)) rfl (Ob_slen tSvW rfl rfl rfl (H.slshape 0 rfl)) fun a Z => ?_
 refine s_runk tSvW Z 2 rfl rfl fun a Z => ?_
 refine gO Z (vI i) rfl (wantB_t _) (.n 3 rfl .z) (fun hp => Ob_c tSvW rfl) fun a Z => ?_
 refine gO Z (vT (decide (i < 40))) rfl (wantB_t _) (.c 9 rfl id .z) (fun hp => Ob_c tSvW rfl) fun a Z => ?_
 refine sO Z (vT ((decide (i < (ln l))) && (decide (i < 40)))) rfl (Ob_pick rfl rfl rfl rfl (pick_and _ _)) fun a Z => ?_
 refine s_end Z [0, 3, 11] rfl fun Z => ?_
 refine p_then ?_
 refine f_cond Z rfl (fun hc1 => ?_) (fun hc1 => ?_)
 ·replace hF := ite_t hc1 hF
  refine wp_skip ?_
  refine p_then (wp_seq ?_)
  refine wp_block ?_
  refine wp_seq ?_
  obtain ⟨hg1, hF⟩ := chk_in hF
  refine f_region Z fun Z => ?_
  refine s_runk tSvW Z 2 rfl rfl fun a Z => ?_
  refine sO Z (.pointer (some ⟨blkOf v1_l, oofOf v1_l + (i).toNat * 2, none⟩)) rfl (Ob_sidx tSvW rfl rfl rfl rfl (slPl (H.sl 0 rfl) hg1) hg1) fun a Z => ?_
  refine s_runk tSvW Z 1 rfl rfl fun a Z => ?_
  obtain ⟨_, ⟨u1, rfl, L1⟩, H⟩ := H.elG 0 rfl (i) (NElaw31_Put.dft _ _)
  replace H := H.addsl L1
  replace H : Hf I D w I1 w1 [SlC NEOp u1 ((gi l i).ops), AtG ((0 : Int) ≤ i ∧ i < (ln l)) (blkOf v1_l) (oofOf v1_l + (i).toNat * 2) [vU ((gi l i).t), u1], SlC NElaw31_Put v1_l l] := H
  refine sO Z u1 rfl (oL tSvW rfl rfl ((H.atg 1 rfl hg1) 1 _ rfl)) fun a Z => ?_
  refine sO Z (vI (((gi l i).ops).length : Int)) rfl (Ob_slen tSvW rfl rfl rfl (H.slshape 0 rfl)) fun a Z => ?_
  refine s_runk tSvW Z 1 rfl rfl fun a Z => ?_
  refine s_end Z [0, 3, 20] rfl fun Z => ?_
  refine p_then ?_
  refine f_cond Z rfl (fun hc2 => ?_) (fun hc2 => ?_)
  ·replace hF := ite_t hc2 hF
   refine wp_seq (f_region Z ?_); clear Z; intro Z
   refine s_runk tSvW Z 1 rfl rfl fun a Z => ?_
   refine s_end Z [2] rfl fun Z => ?_
   refine p_then (wp_ret ?_)
   refine p_blk_r ?_
   refine p_then_r ?_
   refine p_then_r ?_
   refine p_blk_r ?_
   refine p_then_r ?_
   obtain rfl := some_in hF
   exact f_ret Z (run_results1 rfl Z rfl) ⟨rfl, I1, (H.sub [] rfl).eq rfl⟩
  ·replace hF := ite_f hc2 hF
   refine wp_skip ?_
   refine p_blk ?_
   refine p_then ?_
   obtain ⟨hg2, hF⟩ := chk_in hF
   refine f_region Z fun Z => ?_
   refine s_runk tSvW Z 1 rfl rfl fun a Z => ?_
   refine sO Z (vI (i + 1)) rfl (Ob_add rfl rfl rfl (wrI hg2)) fun a Z => ?_
   refine s_runk tSvW Z 1 rfl rfl fun a Z => ?_
   refine s_end Z [0, 3] rfl fun Z => ?_
   refine p_then ?_
   exact ⟨(i + 1), ⟨Z.sub (ts := [0, 3]) rfl, ⟨I1, (H.sub [(2, true)] rfl).eq rfl⟩⟩, hF⟩
 ·replace hF := ite_f hc1 hF
  refine wp_exit ?_
  refine p_then_x ?_
  refine p_then_x ?_
  refine f_exit_here ?_
  refine p_then (wp_seq (f_region Z ?_)); clear Z; intro Z
  refine s_runk tSvW Z 1 rfl rfl fun a Z => ?_
  refine s_end Z [2] rfl fun Z => ?_
  refine p_then (wp_ret ?_)
  obtain rfl := some_in hF
  exact f_ret Z (run_results1 rfl Z rfl) ⟨rfl, I1, (H.sub [] rfl).eq rfl⟩

def F_law31_stores_l1 (l : List Elaw31_Put) (rc : (Int × Emvcc_Store × Eref16_Store) → Option (Emvcc_Store × Eref16_Store)) (sg : Int × Emvcc_Store × Eref16_Store) : Option (Emvcc_Store × Eref16_Store) := match sg with | (i, s0, x) => if ((decide (i < (l.length : Int))) && (decide (i < 30))) = true then (chk ((0 : Int) ≤ i ∧ i < (l.length : Int)) (chk ((0 : Int) ≤ i ∧ i < (l.length : Int)) ((F_mvcc_Store_Put s0 ((l.getD (i).toNat default).t) ((l.getD (i).toNat default).ops)).bind fun p => (chk ((0 : Int) ≤ i ∧ i < (l.length : Int)) (chk ((0 : Int) ≤ i ∧ i < (l.length : Int)) ((F_ref16_Store_Put x ((l.getD (i).toNat default).t) ((l.getD (i).toNat default).ops)).bind fun p_2 => (chk (inI (i + 1)) (rc (i + 1, p.2, p_2.2))))))))) else (some (s0, x))

def F_law31_stores (l : List Elaw31_Put) : Option (Emvcc_Store × Eref16_Store) := (F_mvcc_New).bind fun n0 => (iter (F_law31_stores_l1 l) FU (0, n0, (default : Eref16_Store)))

set_option maxHeartbeats 1000000 in
theorem c_law31_stores {I D : Dm} {l : List Elaw31_Put} {v1_l : Value} {w : World} {rr : Emvcc_Store × Eref16_Store} (hF : F_law31_stores l = some rr) (H : St I D w [SlC NElaw31_Put v1_l l]) :
  Calls Try.prog 7 #[v1_l] w (Ret fun vv w' => ∃ g1 g2 : Nat, vv = .tuple #[pp g1 0, pp g2 0] ∧ ∃ I', Hf I D w I' w' [OEmvcc_Store g1 rr.1, OEref16_Store g2 rr.2]) := by
 replace H := H.hf
 unfold F_law31_stores at hF
 refine f_enter 46 Try.func7 rfl rfl (Nat.le_of_ble_eq_true rfl) fun a Z => ?_
 replace Z := Z.sub (ts := [0]) rfl
 refine wp_seq (f_region Z ?_); clear Z; intro Z
 refine s_runk tSvW Z 2 rfl rfl fun a Z => ?_
 refine s_end Z [0] rfl fun Z => ?_
 refine p_then (wp_seq ?_)
 obtain ⟨n0, hx1, hF⟩ := bnd_in hF
 refine f_region Z fun Z => ?_
 refine hC Z H [] rfl #[] fn_22_YSvW rfl rfl (fun D h => have q := c_mvcc_New hx1 h; q) fun vv a w1 D2 hr hF2 Z => ?_
 obtain ⟨g1, rfl, I1, K⟩ := hr
 have H := (hF2 K).nf rfl
 refine s_runk tSvW Z 1 rfl rfl fun a Z => ?_
 refine s_end Z [0, 4] rfl fun Z => ?_
 refine p_then (wp_seq (f_region Z ?_)); clear Z; intro Z
 refine sO Z (.agg #[nS, vU 0]) rfl (Ob_build (vs := []) rfl rfl (by go_simp <;> rfl)) fun a Z => ?_
 refine hB Z H [nS, vU 0] rfl rfl rfl rfl fun a w2 b1 H Z => ?_
 refine s_runk tSvW Z 1 rfl rfl fun a Z => ?_
 refine s_end Z [0, 4, 5] rfl fun Z => ?_
 refine p_then (wp_seq ?_)
 refine wp_seq (f_region Z ?_); clear Z; intro Z
 refine s_runk tSvW Z 1 rfl rfl fun a Z => ?_
 refine s_end Z [0, 4, 5, 6] rfl fun Z => ?_
 refine p_then (wp_block ?_)
 replace H := H.nilow NEref16_Row 118
 replace H := H.sX (OEref16_Store b1 (default : Eref16_Store)) (nS) [(1, false), (0, false)] rfl rfl rfl
 refine f_iter hF (fun sg a' w' => match sg with | (i, s0, x) => Sl 46 [(0, v1_l), (4, pp g1 0), (5, pp b1 0), (6, vI i)] a' ∧ ∃ I2, Hf I D w I2 w' [OEmvcc_Store g1 s0, OEref16_Store b1 x, SlC NElaw31_Put v1_l l]) ⟨Z.sub (ts := [0, 4, 5, 6]) rfl, ⟨I1, (H.sub [(1, false), (0, false), (0, true)] rfl).eq rfl⟩⟩ ?_
 rintro rc ⟨i, s0, x⟩ a w3 ⟨Z, I2, H⟩ hF
 unfold F_law31_stores_l1 at hF
 try dsimp only at hF
 refine wp_seq ?_
 refine wp_seq (f_region Z ?_); clear Z; intro Z
 refine s_runk tSvW Z 2 rfl rfl fun a Z => ?_
 refine sO Z (vI (ln l)) rfl (Ob_slen tSvW rfl rfl rfl (H.slshape 2 rfl)) fun a Z => ?_
 refine s_runk tSvW Z 2 rfl rfl fun a Z => ?_
 refine gO Z (vI i) rfl (wantB_t _) (.n 6 rfl .z) (fun hp => Ob_c tSvW rfl) fun a Z => ?_
 refine gO Z (vT (decide (i < 30))) rfl (wantB_t _) (.c 15 rfl id .z) (fun hp => Ob_c tSvW rfl) fun a Z => ?_
 refine sO Z (vT ((decide (i < (ln l))) && (decide (i < 30)))) rfl (Ob_pick rfl rfl rfl rfl (pick_and _ _)) fun a Z => ?_
 refine s_end Z [0, 4, 5, 6, 17] rfl fun Z => ?_
 refine p_then ?_
 refine f_cond Z rfl (fun hc1 => ?_) (fun hc1 => ?_)
 ·replace hF := ite_t hc1 hF
  refine wp_skip ?_
  refine p_then (wp_seq ?_)
  refine wp_block ?_
  refine wp_seq ?_
  obtain ⟨hg1, hF⟩ := chk_in hF
  obtain ⟨_, ⟨u1, rfl, L1⟩, H⟩ := H.elG 2 rfl (i) (NElaw31_Put.dft _ _)
  replace H := H.addsl L1
  replace H : Hf I D w I2 w3 [SlC NEOp u1 ((gi l i).ops), AtG ((0 : Int) ≤ i ∧ i < (ln l)) (blkOf v1_l) (oofOf v1_l + (i).toNat * 2) [vU ((gi l i).t), u1], OEmvcc_Store g1 s0, OEref16_Store b1 x, SlC NElaw31_Put v1_l l] := H
  obtain ⟨hg2, hF⟩ := chk_in hF
  obtain ⟨p, hx2, hF⟩ := bnd_in hF
  refine f_quietS 11 (by kernel_rfl) (by kernel_rfl) (by kernel_rfl) (by kernel_rfl) (by kernel_rfl) Z fun Z => ?_
  refine q_runk tSvW Z 3 rfl rfl fun a Z => ?_
  refine qO Z (.pointer (some ⟨blkOf v1_l, oofOf v1_l + (i).toNat * 2, none⟩)) rfl (fun _ hw => Ob_sidx tSvW rfl rfl rfl rfl (slPl ((H.blw hw).sl 4 rfl) hg1) hg1) fun a Z => ?_
  refine q_runk tSvW Z 1 rfl rfl fun a Z => ?_
  refine qO Z (vU ((gi l i).t)) rfl (fun _ hw => oL tSvW rfl rfl (((H.blw hw).atg 1 rfl hg1) 0 _ rfl)) fun a Z => ?_
  refine q_runk tSvW Z 2 rfl rfl fun a Z => ?_
  refine qO Z (.pointer (some ⟨blkOf v1_l, oofOf v1_l + (i).toNat * 2, none⟩)) rfl (fun _ hw => Ob_sidx tSvW rfl rfl rfl rfl (slPl ((H.blw hw).sl 4 rfl) hg2) hg2) fun a Z => ?_
  refine q_runk tSvW Z 1 rfl rfl fun a Z => ?_
  refine qO Z u1 rfl (fun _ hw => oL tSvW rfl rfl (((H.blw hw).atg 1 rfl hg2) 1 _ rfl)) fun a Z => ?_
  refine q_endS Z [0, 4, 5, 6, 17, 20, 21, 22, 23, 24, 25, 26, 27, 28, 29, 30] rfl fun w4 hb Z => ?_
  replace H := H.blw hb
  clear hb
  refine hC Z H [(2, false), (0, true)] rfl #[] fn_18_YSvW rfl rfl (fun D h => have q := c_mvcc_Store_Put hx2 h; q) fun vv a w5 D2 hr hF2 Z => ?_
  obtain ⟨rfl, I3, K⟩ := hr
  have H := (hF2 K).nf rfl
  refine s_end Z [0, 4, 5, 6] rfl fun Z => ?_
  refine p_then ?_
  obtain ⟨hg3, hF⟩ := chk_in hF
  obtain ⟨hg4, hF⟩ := chk_in hF
  obtain ⟨p_2, hx3, hF⟩ := bnd_in hF
  refine f_quietS 11 (by kernel_rfl) (by kernel_rfl) (by kernel_rfl) (by kernel_rfl) (by kernel_rfl) Z fun Z => ?_
  refine q_runk tSvW Z 3 rfl rfl fun a Z => ?_
  refine qO Z (.pointer (some ⟨blkOf v1_l, oofOf v1_l + (i).toNat * 2, none⟩)) rfl (fun _ hw => Ob_sidx tSvW rfl rfl rfl rfl (slPl ((H.blw hw).sl 4 rfl) hg3) hg3) fun a Z => ?_
  refine q_runk tSvW Z 1 rfl rfl fun a Z => ?_
  refine qO Z (vU ((gi l i).t)) rfl (fun _ hw => oL tSvW rfl rfl (((H.blw hw).atg 2 rfl hg3) 0 _ rfl)) fun a Z => ?_
  refine q_runk tSvW Z 2 rfl rfl fun a Z => ?_
  refine qO Z (.pointer (some ⟨blkOf v1_l, oofOf v1_l + (i).toNat * 2, none⟩)) rfl (fun _ hw => Ob_sidx tSvW rfl rfl rfl rfl (slPl ((H.blw hw).sl 4 rfl) hg4) hg4) fun a Z => ?_
  refine q_runk tSvW Z 1 rfl rfl fun a Z => ?_
  refine qO Z u1 rfl (fun _ hw => oL tSvW rfl rfl (((H.blw hw).atg 2 rfl hg4) 1 _ rfl)) fun a Z => ?_
  refine q_endS Z [0, 4, 5, 6, 32, 33, 34, 35, 36, 37, 38, 39, 40, 41, 42] rfl fun w6 hb Z => ?_
  replace H := H.blw hb
  clear hb
  refine hC Z H [(3, false), (1, true)] rfl #[] fn_23_YSvW rfl rfl (fun D h => have q := c_ref16_Store_Put hx3 h; q) fun vv a w7 D2 hr hF2 Z => ?_
  obtain ⟨rfl, I4, K⟩ := hr
  have H := (hF2 K).nf rfl
  refine s_end Z [0, 4, 5, 6] rfl fun Z => ?_
  refine p_blk ?_
  refine p_then ?_
  obtain ⟨hg5, hF⟩ := chk_in hF
  refine f_region Z fun Z => ?_
  refine s_runk tSvW Z 1 rfl rfl fun a Z => ?_
  refine sO Z (vI (i + 1)) rfl (Ob_add rfl rfl rfl (wrI hg5)) fun a Z => ?_
  refine s_runk tSvW Z 1 rfl rfl fun a Z => ?_
  refine s_end Z [0, 4, 5, 6] rfl fun Z => ?_
  refine p_then ?_
  exact ⟨(i + 1, p.2, p_2.2), ⟨Z.sub (ts := [0, 4, 5, 6]) rfl, ⟨I4, (H.sub [(1, false), (0, false), (2, true)] rfl).eq rfl⟩⟩, hF⟩
 ·replace hF := ite_f hc1 hF
  refine wp_exit ?_
  refine p_then_x ?_
  refine p_then_x ?_
  refine f_exit_here ?_
  refine p_then (wp_seq (f_region Z ?_)); clear Z; intro Z
  refine s_runk tSvW Z 4 rfl rfl fun a Z => ?_
  refine s_end Z [2, 3] rfl fun Z => ?_
  refine p_then (wp_ret ?_)
  obtain rfl := some_in hF
  exact f_ret Z (run_results2 rfl Z rfl rfl) ⟨g1, b1, rfl, I2, (H.sub [(0, false), (0, false)] rfl).eq rfl⟩

end Go.Proofs.Ytaknkbbjimielaa
