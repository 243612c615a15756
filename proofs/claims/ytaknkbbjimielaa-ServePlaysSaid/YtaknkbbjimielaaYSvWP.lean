/- What a replica answers: the law ServePlays walked. -/
import Derived.Test.YtaknkbbjimielaaYSvW
namespace Go.Proofs.Ytaknkbbjimielaa
open Go.RowKit
def tSvWPL : TabL := ⟨[(25600, 0), (25601, 1), (25602, 2), (25603, 3), (29697, 1), (32770, 2), (37890, 2), (37898, 10), (37901, 13), (37902, 16), (37903, 19), (37904, 20), (37905, 21)], [], [4], [(27, (110, 2)), (30, (69, 3)), (33, (114, 4)), (34, (23, 1)), (35, (81, 2))], [(3, (1, false)), (23, (1, false)), (25, (4, true)), (26, (1, false)), (27, (1, false)), (30, (1, false)), (33, (1, false)), (34, (1, false)), (35, (1, false)), (37, (22, true)), (45, (4, true)), (47, (4, true))]⟩

def tSvWP : Tab Try.prog := ⟨tSvWPL, by kernel_rfl⟩

theorem fn_5_YSvWP : IsFn Try.prog 5 := ⟨_, Try.func5, by kernel_rfl, by kernel_rfl⟩

theorem fn_6_YSvWP : IsFn Try.prog 6 := ⟨_, Try.func6, by kernel_rfl, by kernel_rfl⟩

theorem fn_7_YSvWP : IsFn Try.prog 7 := ⟨_, Try.func7, by kernel_rfl, by kernel_rfl⟩

theorem fn_8_YSvWP : IsFn Try.prog 8 := ⟨_, Try.func8, by kernel_rfl, by kernel_rfl⟩

theorem fn_9_YSvWP : IsFn Try.prog 9 := ⟨_, Try.func9, by kernel_rfl, by kernel_rfl⟩

theorem fn_10_YSvWP : IsFn Try.prog 10 := ⟨_, Try.func10, by kernel_rfl, by kernel_rfl⟩

theorem fn_11_YSvWP : IsFn Try.prog 11 := ⟨_, Try.func11, by kernel_rfl, by kernel_rfl⟩

theorem fn_12_YSvWP : IsFn Try.prog 12 := ⟨_, Try.func12, by kernel_rfl, by kernel_rfl⟩

theorem fn_13_YSvWP : IsFn Try.prog 13 := ⟨_, Try.func13, by kernel_rfl, by kernel_rfl⟩

theorem fn_14_YSvWP : IsFn Try.prog 14 := ⟨_, Try.func14, by kernel_rfl, by kernel_rfl⟩

theorem fn_15_YSvWP : IsFn Try.prog 15 := ⟨_, Try.func15, by kernel_rfl, by kernel_rfl⟩

theorem fn_16_YSvWP : IsFn Try.prog 16 := ⟨_, Try.func16, by kernel_rfl, by kernel_rfl⟩

theorem fn_17_YSvWP : IsFn Try.prog 17 := ⟨_, Try.func17, by kernel_rfl, by kernel_rfl⟩

def F_law31_ServePlays (l : List Elaw31_Put) (w0 : Elaw31_View) (x : EMsg) : Option Bool := (F_law31_few l).bind fun f => (if ((((((!f) || (decide ((x.conf.members.length : Int) > 20))) || (decide ((x.batch.ops.length : Int) > 20))) || (decide ((x.entries.length : Int) > 20))) || (decide ((x.stamps.length : Int) > 20))) || (decide ((x.pairs.length : Int) > 40))) = true then ((F_law31_awake).bind fun a0 => (some a0)) else ((F_law31_stores l).bind fun s0 => ((F_serve_At w0.mark w0.horizon w0.epoch w0.head).bind fun a0_2 => ((F_serve_Answer s0.1 a0_2 x).bind fun a0_3 => ((F_ref31_Answer s0.2 ({ mark := w0.mark, horizon := w0.horizon, epoch := w0.epoch, head := w0.head } : Eref31_View) x).bind fun a0_4 => ((F_ref09_Same a0_3.1 a0_4.1).bind fun s0_2 => (if ((!s0_2) || (!(a0_3.2.1 == a0_4.2))) = true then (some false) else ((F_serve_Get a0_3.2.2 a0_2 x).bind fun g => ((F_ref31_Get s0.2 ({ mark := w0.mark, horizon := w0.horizon, epoch := w0.epoch, head := w0.head } : Eref31_View) x).bind fun g_2 => ((F_ref09_Same g.1 g_2).bind fun s0_3 => ((gif s0_3 (F_serve_Scan g.2 a0_2 x) default).bind fun s0_4 => ((gif s0_3 (F_ref31_Scan s0.2 ({ mark := w0.mark, horizon := w0.horizon, epoch := w0.epoch, head := w0.head } : Eref31_View) x) default).bind fun s0_5 => ((gif s0_3 (F_ref09_Same s0_4.1 s0_5) default).bind fun s0_6 => ((gif (s0_3 && s0_6) (F_serve_No a0_2 x.req x.e) default).bind fun n0 => ((gif (s0_3 && s0_6) (F_ref31_No ({ mark := w0.mark, horizon := w0.horizon, epoch := w0.epoch, head := w0.head } : Eref31_View) x.req x.e) default).bind fun n0_2 => ((gif (s0_3 && s0_6) (F_ref09_Same n0 n0_2) default).bind fun s0_7 => ((gif ((s0_3 && s0_6) && s0_7) (F_law31_awake) default).bind fun a0_5 => (some (((s0_3 && s0_6) && s0_7) && a0_5)))))))))))))))))))

set_option maxHeartbeats 20000000 in
theorem c_law31_ServePlays {I D : Dm} {l : List Elaw31_Put} {v1_l : Value} {w0 : Elaw31_View} {x : EMsg} {v2_x : Value} {v3_x : Value} {v4_x : Value} {v5_x : Value} {v6_x : Value} {w : World} {rr : Bool} (hF : F_law31_ServePlays l w0 x = some rr) (H : St I D w [SlC NElaw31_Put v1_l l, SlC NEMember v2_x x.conf.members, SlC NEOp v3_x x.batch.ops, SlC NEEntry v4_x x.entries, SlC Nu64 v5_x x.stamps, SlC NEPair v6_x x.pairs]) :
  Calls Try.prog 3 #[v1_l, .agg #[vU w0.mark, vU w0.horizon, vI w0.epoch, vI w0.head], .agg (cEMsg x v2_x v3_x v4_x v5_x v6_x).toArray] w (Ret fun vv w' => vv = vT rr ∧ ∃ I', Hf I D w I' w' []) := by
 replace H := H.hf
 unfold F_law31_ServePlays at hF
 refine f_enter 135 Try.func3 rfl rfl (Nat.le_of_ble_eq_true rfl) fun a Z => ?_
 replace Z := Z.sub (ts := [0, 1, 2]) rfl
 refine wp_seq (f_region Z ?_); clear Z; intro Z
 refine hB Z H [vU w0.mark, vU w0.horizon, vI w0.epoch, vI w0.head] rfl rfl rfl rfl fun a w1 b1 H Z => ?_
 refine h_boxv Z H (cl := (cEMsg x v2_x v3_x v4_x v5_x v6_x)) rfl rfl rfl (by decide) rfl rfl rfl fun a w2 b2 H Z => ?_
 refine s_runk tSvWP Z 1 rfl rfl fun a Z => ?_
 refine s_end Z [0, 4, 5] rfl fun Z => ?_
 refine p_then (wp_seq ?_)
 refine wp_seq ?_
 obtain ⟨f, hx1, hF⟩ := bnd_in hF
 refine f_region Z fun Z => ?_
 refine s_runk tSvWP Z 1 rfl rfl fun a Z => ?_
 refine hC Z H [(2, true)] rfl #[] fn_5_YSvWP rfl rfl (fun D h => have q := c_law31_few hx1 h; q) fun vv a w3 D2 hr hF2 Z => ?_
 obtain ⟨rfl, I1, K⟩ := hr
 have H := (hF2 K).nf rfl
 refine s_runk tSvWP Z 2 rfl rfl fun a Z => ?_
 refine gO Z (pp b2 13) rfl (wantB_f _) (.n 5 rfl .z) (fun hp => Ob_c tSvWP rfl) fun a Z => ?_
 refine gO Z (pp b2 14) rfl (wantB_f _) (.c 19 rfl id .z) (fun hp => Ob_c tSvWP rfl) fun a Z => ?_
 refine gO Z _ rfl (wantB_f _) (.c 20 rfl id .z) (fun hp => oL tSvWP rfl rfl (H.bc 0 14 rfl rfl)) fun a Z => ?_
 refine gO Z (vI (ln x.conf.members)) rfl (wantB_f _) (.c 21 rfl id .z) (fun hp => Ob_slen tSvWP rfl rfl rfl (H.slshape 3 rfl)) fun a Z => ?_
 refine gO Z (vT (decide ((ln x.conf.members) > 20))) rfl (wantB_f _) (.c 22 rfl id .z) (fun hp => Ob_c tSvWP rfl) fun a Z => ?_
 refine sO Z (vT ((!f) || (decide ((ln x.conf.members) > 20)))) rfl (Ob_pick rfl rfl rfl rfl (pick_or _ _)) fun a Z => ?_
 refine s_runk tSvWP Z 1 rfl rfl fun a Z => ?_
 refine gO Z (pp b2 16) rfl (wantB_f _) (.n 5 rfl .z) (fun hp => Ob_c tSvWP rfl) fun a Z => ?_
 refine gO Z (pp b2 18) rfl (wantB_f _) (.c 26 rfl id .z) (fun hp => Ob_c tSvWP rfl) fun a Z => ?_
 refine gO Z _ rfl (wantB_f _) (.c 27 rfl id .z) (fun hp => oL tSvWP rfl rfl (H.bc 0 18 rfl rfl)) fun a Z => ?_
 refine gO Z (vI (ln x.batch.ops)) rfl (wantB_f _) (.c 28 rfl id .z) (fun hp => Ob_slen tSvWP rfl rfl rfl (H.slshape 4 rfl)) fun a Z => ?_
 refine gO Z (vT (decide ((ln x.batch.ops) > 20))) rfl (wantB_f _) (.c 29 rfl id .z) (fun hp => Ob_c tSvWP rfl) fun a Z => ?_
 refine sO Z (vT (((!f) || (decide ((ln x.conf.members) > 20))) || (decide ((ln x.batch.ops) > 20)))) rfl (Ob_pick rfl rfl rfl rfl (pick_or _ _)) fun a Z => ?_
 refine s_runk tSvWP Z 1 rfl rfl fun a Z => ?_
 refine gO Z (pp b2 19) rfl (wantB_f _) (.n 5 rfl .z) (fun hp => Ob_c tSvWP rfl) fun a Z => ?_
 refine gO Z _ rfl (wantB_f _) (.c 33 rfl id .z) (fun hp => oL tSvWP rfl rfl (H.bc 0 19 rfl rfl)) fun a Z => ?_
 refine gO Z (vI (ln x.entries)) rfl (wantB_f _) (.c 34 rfl id .z) (fun hp => Ob_slen tSvWP rfl rfl rfl (H.slshape 5 rfl)) fun a Z => ?_
 refine gO Z (vT (decide ((ln x.entries) > 20))) rfl (wantB_f _) (.c 35 rfl id .z) (fun hp => Ob_c tSvWP rfl) fun a Z => ?_
 refine sO Z (vT ((((!f) || (decide ((ln x.conf.members) > 20))) || (decide ((ln x.batch.ops) > 20))) || (decide ((ln x.entries) > 20)))) rfl (Ob_pick rfl rfl rfl rfl (pick_or _ _)) fun a Z => ?_
 refine s_runk tSvWP Z 1 rfl rfl fun a Z => ?_
 refine gO Z (pp b2 20) rfl (wantB_f _) (.n 5 rfl .z) (fun hp => Ob_c tSvWP rfl) fun a Z => ?_
 refine gO Z _ rfl (wantB_f _) (.c 39 rfl id .z) (fun hp => oL tSvWP rfl rfl (H.bc 0 20 rfl rfl)) fun a Z => ?_
 refine gO Z (vI (ln x.stamps)) rfl (wantB_f _) (.c 40 rfl id .z) (fun hp => Ob_slen tSvWP rfl rfl rfl (H.slshape 6 rfl)) fun a Z => ?_
 refine gO Z (vT (decide ((ln x.stamps) > 20))) rfl (wantB_f _) (.c 41 rfl id .z) (fun hp => Ob_c tSvWP rfl) fun a Z => ?_
 refine sO Z (vT (((((!f) || (decide ((ln x.conf.members) > 20))) || (decide ((ln x.batch.ops) > 20))) || (decide ((ln x.entries) > 20))) || (decide ((ln x.stamps) > 20)))) rfl (Ob_pick rfl rfl rfl rfl (pick_or _ _)) fun a Z => ?_
 refine s_runk tSvWP Z 1 rfl rfl fun a Z => ?_
 refine gO Z (pp b2 21) rfl (wantB_f _) (.n 5 rfl .z) (fun hp => Ob_c tSvWP rfl) fun a Z => ?_
 refine gO Z _ rfl (wantB_f _) (.c 45 rfl id .z) (fun hp => oL tSvWP rfl rfl (H.bc 0 21 rfl rfl)) fun a Z => ?_
 refine gO Z (vI (ln x.pairs)) rfl (wantB_f _) (.c 46 rfl id .z) (fun hp => Ob_slen tSvWP rfl rfl rfl (H.slshape 7 rfl)) fun a Z => ?_
 refine gO Z (vT (decide ((ln x.pairs) > 40))) rfl (wantB_f _) (.c 47 rfl id .z) (fun hp => Ob_c tSvWP rfl) fun a Z => ?_
 refine sO Z (vT ((((((!f) || (decide ((ln x.conf.members) > 20))) || (decide ((ln x.batch.ops) > 20))) || (decide ((ln x.entries) > 20))) || (decide ((ln x.stamps) > 20))) || (decide ((ln x.pairs) > 40)))) rfl (Ob_pick rfl rfl rfl rfl (pick_or _ _)) fun a Z => ?_
 refine s_end Z [0, 4, 5, 49] rfl fun Z => ?_
 refine p_then ?_
 refine f_cond Z rfl (fun hc1 => ?_) (fun hc1 => ?_)
 ·replace hF := ite_t hc1 hF
  refine wp_seq ?_
  obtain ⟨a0, hx2, hF⟩ := bnd_in hF
  refine f_region Z fun Z => ?_
  refine hC Z H [] rfl #[] fn_6_YSvWP rfl rfl (fun D h => have q := c_law31_awake hx2 h; q) fun vv a w4 D2 hr hF2 Z => ?_
  obtain ⟨rfl, I2, K⟩ := hr
  have H := (hF2 K).nf rfl
  refine s_runk tSvWP Z 1 rfl rfl fun a Z => ?_
  refine s_end Z [6] rfl fun Z => ?_
  refine p_then (wp_ret ?_)
  refine p_then_r ?_
  obtain rfl := some_in hF
  exact f_ret Z (run_results1 rfl Z rfl) ⟨rfl, I2, (H.sub [] rfl).eq rfl⟩
 ·replace hF := ite_f hc1 hF
  refine wp_skip ?_
  refine p_then (wp_seq ?_)
  obtain ⟨s0, hx3, hF⟩ := bnd_in hF
  refine f_region Z fun Z => ?_
  refine s_runk tSvWP Z 1 rfl rfl fun a Z => ?_
  refine hC Z H [(2, true)] rfl #[] fn_7_YSvWP rfl rfl (fun D h => have q := c_law31_stores hx3 h; q) fun vv a w5 D2 hr hF2 Z => ?_
  obtain ⟨g1, g2, rfl, I3, K⟩ := hr
  have H := (hF2 K).nf rfl
  refine s_runk tSvWP Z 5 rfl rfl fun a Z => ?_
  refine s_end Z [4, 5, 7, 8] rfl fun Z => ?_
  refine p_then (wp_seq ?_)
  obtain ⟨a0_2, hx4, hF⟩ := bnd_in hF
  refine f_region Z fun Z => ?_
  refine s_runk tSvWP Z 1 rfl rfl fun a Z => ?_
  refine sO Z _ rfl (oL tSvWP rfl rfl (H.bc 3 0 rfl rfl)) fun a Z => ?_
  refine s_runk tSvWP Z 1 rfl rfl fun a Z => ?_
  refine sO Z _ rfl (oL tSvWP rfl rfl (H.bc 3 1 rfl rfl)) fun a Z => ?_
  refine s_runk tSvWP Z 1 rfl rfl fun a Z => ?_
  refine sO Z _ rfl (oL tSvWP rfl rfl (H.bc 3 2 rfl rfl)) fun a Z => ?_
  refine s_runk tSvWP Z 1 rfl rfl fun a Z => ?_
  refine sO Z _ rfl (oL tSvWP rfl rfl (H.bc 3 3 rfl rfl)) fun a Z => ?_
  refine hC Z H [] rfl #[] fn_8_YSvWP rfl rfl (fun D h => have q := c_serve_At hx4 h; q) fun vv a w6 D2 hr hF2 Z => ?_
  obtain ⟨rfl, I4, K⟩ := hr
  have H := (hF2 K).nf rfl
  refine hA Z H [vU 0, vU 0, vI 0, vI 0] rfl rfl (by kernel_rfl) fun a w7 b3 H Z => ?_
  refine hT tSvWP Z H 0 rfl rfl rfl rfl rfl (onR 4 rfl one_nil) (Nat.le_of_ble_eq_true rfl) rfl fun w8 H => ?_
  dsimp only [List.eraseIdx] at H
  refine s_end Z [4, 5, 7, 8, 9] rfl fun Z => ?_
  refine p_then (wp_seq (f_region Z ?_)); clear Z; intro Z
  refine s_runk tSvWP Z 1 rfl rfl fun a Z => ?_
  refine sO Z _ rfl (oL tSvWP rfl rfl (H.bc 4 0 rfl rfl)) fun a Z => ?_
  refine s_runk tSvWP Z 1 rfl rfl fun a Z => ?_
  refine sO Z _ rfl (oL tSvWP rfl rfl (H.bc 4 1 rfl rfl)) fun a Z => ?_
  refine s_runk tSvWP Z 1 rfl rfl fun a Z => ?_
  refine sO Z _ rfl (oL tSvWP rfl rfl (H.bc 4 2 rfl rfl)) fun a Z => ?_
  refine s_runk tSvWP Z 1 rfl rfl fun a Z => ?_
  refine sO Z _ rfl (oL tSvWP rfl rfl (H.bc 4 3 rfl rfl)) fun a Z => ?_
  refine sO Z (.agg #[vU w0.mark, vU w0.horizon, vI w0.epoch, vI w0.head]) rfl (Ob_build (vs := [(0, vU w0.mark), (1, vU w0.horizon), (2, vI w0.epoch), (3, vI w0.head)]) rfl rfl (by go_simp <;> rfl)) fun a Z => ?_
  refine hA Z H [vU 0, vU 0, vI 0, vI 0] rfl rfl (by kernel_rfl) fun a w9 b4 H Z => ?_
  refine hT tSvWP Z H 0 rfl rfl rfl rfl rfl (onR 4 rfl one_nil) (Nat.le_of_ble_eq_true rfl) rfl fun w10 H => ?_
  dsimp only [List.eraseIdx] at H
  refine s_end Z [5, 7, 8, 9, 10] rfl fun Z => ?_
  refine p_then (wp_seq ?_)
  obtain ⟨a0_3, hx5, hF⟩ := bnd_in hF
  refine f_region Z fun Z => ?_
  refine s_runk tSvWP Z 1 rfl rfl fun a Z => ?_
  refine sO Z (.agg #[vU a0_2.mark, vU a0_2.horizon, vI a0_2.epoch, vI a0_2.head]) rfl (oA tSvWP rfl rfl ((H.bx 1 rfl).part 0 rfl)) fun a Z => ?_
  refine sO Z (.agg (cEMsg x v2_x v3_x v4_x v5_x v6_x).toArray) rfl (oA tSvWP rfl rfl ((H.bx 4 rfl).part 0 rfl)) fun a Z => ?_
  refine hC Z H [(2, false), (6, true), (7, true), (8, true), (9, true), (10, true)] rfl #[] fn_9_YSvWP rfl rfl (fun D h => have q := c_serve_Answer hx5 h; q) fun vv a w11 D2 hr hF2 Z => ?_
  obtain ⟨q1, q2, q3, q4, q5, rfl, I5, K⟩ := hr
  have H := (hF2 K).nf rfl
  refine s_runk tSvWP Z 3 rfl rfl fun a Z => ?_
  refine hA Z H [vI 0, vI 0, vI 0, vI 0, vT false, vU 0, vU 0, vI 0, vI 0, vI 0, vI 0, vS ByteArray.empty, vS ByteArray.empty, vI 0, nS, vU 0, vI 0, vI 0, nS, nS, nS, nS] rfl rfl (by kernel_rfl) fun a w12 b5 H Z => ?_
  refine hT tSvWP Z H 0 rfl rfl rfl rfl rfl (onR 14 rfl (one_cons (slS.one (H.slshape 2 rfl)) (onR 3 rfl (one_cons (slS.one (H.slshape 3 rfl)) (one_cons (slS.one (H.slshape 4 rfl)) (one_cons (slS.one (H.slshape 5 rfl)) (one_cons (slS.one (H.slshape 6 rfl)) one_nil))))))) (Nat.le_of_ble_eq_true rfl) (putCells_all rfl) fun w13 H => ?_
  dsimp only [List.eraseIdx] at H
  refine s_runk tSvWP Z 1 rfl rfl fun a Z => ?_
  refine s_end Z [5, 7, 8, 9, 10, 11, 12] rfl fun Z => ?_
  refine p_then (wp_seq ?_)
  obtain ⟨a0_4, hx6, hF⟩ := bnd_in hF
  refine f_region Z fun Z => ?_
  refine s_runk tSvWP Z 1 rfl rfl fun a Z => ?_
  refine sO Z (.agg #[vU w0.mark, vU w0.horizon, vI w0.epoch, vI w0.head]) rfl (oA tSvWP rfl rfl ((H.bx 7 rfl).part 0 rfl)) fun a Z => ?_
  refine sO Z (.agg (cEMsg x v2_x v3_x v4_x v5_x v6_x).toArray) rfl (oA tSvWP rfl rfl ((H.bx 10 rfl).part 0 rfl)) fun a Z => ?_
  refine hC Z H [(9, false), (12, true), (13, true), (14, true), (15, true), (16, true)] rfl #[] fn_10_YSvWP rfl rfl (fun D h => have q := c_ref31_Answer hx6 h; q) fun vv a w14 D2 hr hF2 Z => ?_
  obtain ⟨q6, q7, q8, q9, q10, rfl, I6, K⟩ := hr
  have H := (hF2 K).nf rfl
  refine s_runk tSvWP Z 3 rfl rfl fun a Z => ?_
  refine hA Z H [vI 0, vI 0, vI 0, vI 0, vT false, vU 0, vU 0, vI 0, vI 0, vI 0, vI 0, vS ByteArray.empty, vS ByteArray.empty, vI 0, nS, vU 0, vI 0, vI 0, nS, nS, nS, nS] rfl rfl (by kernel_rfl) fun a w15 b6 H Z => ?_
  refine hT tSvWP Z H 0 rfl rfl rfl rfl rfl (onR 14 rfl (one_cons (slS.one (H.slshape 2 rfl)) (onR 3 rfl (one_cons (slS.one (H.slshape 3 rfl)) (one_cons (slS.one (H.slshape 4 rfl)) (one_cons (slS.one (H.slshape 5 rfl)) (one_cons (slS.one (H.slshape 6 rfl)) one_nil))))))) (Nat.le_of_ble_eq_true rfl) (putCells_all rfl) fun w16 H => ?_
  dsimp only [List.eraseIdx] at H
  refine s_runk tSvWP Z 1 rfl rfl fun a Z => ?_
  refine s_end Z [5, 7, 8, 9, 10, 11, 12, 13, 14] rfl fun Z => ?_
  refine p_then (wp_seq ?_)
  refine wp_seq ?_
  obtain ⟨s0_2, hx7, hF⟩ := bnd_in hF
  refine f_region Z fun Z => ?_
  refine sO Z (.agg (cEMsg a0_3.1 q1 q2 q3 q4 q5).toArray) rfl (oA tSvWP rfl rfl ((H.bx 7 rfl).part 0 rfl)) fun a Z => ?_
  refine sO Z (.agg (cEMsg a0_4.1 q6 q7 q8 q9 q10).toArray) rfl (oA tSvWP rfl rfl ((H.bx 0 rfl).part 0 rfl)) fun a Z => ?_
  refine hC Z H [(9, true), (10, true), (11, true), (12, true), (13, true), (2, true), (3, true), (4, true), (5, true), (6, true)] rfl #[] fn_11_YSvWP rfl rfl (fun D h => have q := c_ref09_Same hx7 h; q) fun vv a w17 D2 hr hF2 Z => ?_
  obtain ⟨rfl, I7, K⟩ := hr
  have H := (hF2 K).nf rfl
  refine s_runk tSvWP Z 2 rfl rfl fun a Z => ?_
  refine gO Z (vT a0_3.2.1) rfl (wantB_f _) (.n 12 rfl .z) (fun hp => Ob_c tSvWP rfl) fun a Z => ?_
  refine gO Z (vT a0_4.2) rfl (wantB_f _) (.n 14 rfl .z) (fun hp => Ob_c tSvWP rfl) fun a Z => ?_
  refine gO Z (vT (!(a0_3.2.1 == a0_4.2))) rfl (wantB_f _) (.c 93 rfl id (.c 94 rfl id .z)) (fun hp => Ob_c tSvWP rfl) fun a Z => ?_
  refine sO Z (vT ((!s0_2) || (!(a0_3.2.1 == a0_4.2)))) rfl (Ob_pick rfl rfl rfl rfl (pick_or _ _)) fun a Z => ?_
  refine s_end Z [5, 7, 8, 9, 10, 96] rfl fun Z => ?_
  refine p_then ?_
  refine f_cond Z rfl (fun hc2 => ?_) (fun hc2 => ?_)
  ·replace hF := ite_t hc2 hF
   refine wp_seq (f_region Z ?_); clear Z; intro Z
   refine s_runk tSvWP Z 1 rfl rfl fun a Z => ?_
   refine s_end Z [6] rfl fun Z => ?_
   refine p_then (wp_ret ?_)
   refine p_then_r ?_
   obtain rfl := some_in hF
   exact f_ret Z (run_results1 rfl Z rfl) ⟨rfl, I7, (H.sub [] rfl).eq rfl⟩
  ·replace hF := ite_f hc2 hF
   refine wp_skip ?_
   refine p_then (wp_seq ?_)
   obtain ⟨g, hx8, hF⟩ := bnd_in hF
   obtain ⟨g_2, hx9, hF⟩ := bnd_in hF
   obtain ⟨s0_3, hx10, hF⟩ := bnd_in hF
   obtain ⟨s0_4, hx11, hF⟩ := bnd_in hF
   obtain ⟨s0_5, hx12, hF⟩ := bnd_in hF
   obtain ⟨s0_6, hx13, hF⟩ := bnd_in hF
   obtain ⟨n0, hx14, hF⟩ := bnd_in hF
   obtain ⟨n0_2, hx15, hF⟩ := bnd_in hF
   obtain ⟨s0_7, hx16, hF⟩ := bnd_in hF
   obtain ⟨a0_5, hx17, hF⟩ := bnd_in hF
   refine f_regionL Z (by kernel_rfl) (by kernel_rfl) (by decide) (by decide) [3, 7, 13, 17, 26, 32] [(0, 0, 0), (0, 0, 0), (0, 0, 0), (7, 0, 0), (0, 0, 1), (0, 0, 1), (0, 0, 1), (127, 1, 1), (255, 2, 2), (511, 2, 2), (1023, 2, 2), (1023, 2, 2), (1023, 2, 2), (8191, 2, 2), (1023, 2, 3), (1023, 2, 3), (1023, 2, 3), (131071, 3, 3), (262143, 4, 4), (524287, 4, 4), (1048575, 4, 4), (2097151, 4, 4), (2097151, 4, 4), (6291455, 4, 4), (2097151, 4, 4), (18874367, 4, 4), (67108863, 4, 4), (2097151, 4, 5), (2097151, 4, 5), (270532607, 4, 5), (2097151, 4, 5), (1075838975, 4, 5), (4294967295, 5, 5), (8589934591, 6, 6), (17179869183, 6, 6), (34359738367, 6, 6), (68719476735, 6, 6), (137438953471, 6, 6), (274877906943, 6, 6)] (by kernel_rfl) (fun jj vv => cond (Nat.blt jj 19) (cond (Nat.blt jj 9) (cond (Nat.blt jj 4) (cond (Nat.blt jj 2) (cond (Nat.blt jj 1) (vv = pp g1 0) (vv = .agg #[vU a0_2.mark, vU a0_2.horizon, vI a0_2.epoch, vI a0_2.head])) (cond (Nat.blt jj 3) (vv = .agg (cEMsg x v2_x v3_x v4_x v5_x v6_x).toArray) (vv = .agg (cEMsg g.1 (aggAt vv 14) (aggAt vv 18) (aggAt vv 19) (aggAt vv 20) (aggAt vv 21)).toArray))) (cond (Nat.blt jj 6) (cond (Nat.blt jj 5) (vv = pp g2 0) (vv = .agg #[vU w0.mark, vU w0.horizon, vI w0.epoch, vI w0.head])) (cond (Nat.blt jj 7) (vv = .agg (cEMsg x v2_x v3_x v4_x v5_x v6_x).toArray) (cond (Nat.blt jj 8) (vv = .agg (cEMsg g_2 (aggAt vv 14) (aggAt vv 18) (aggAt vv 19) (aggAt vv 20) (aggAt vv 21)).toArray) (vv = vT s0_3))))) (cond (Nat.blt jj 14) (cond (Nat.blt jj 11) (cond (Nat.blt jj 10) (vv = vT s0_3) (vv = cond s0_3 (pp g1 0) undef)) (cond (Nat.blt jj 12) (vv = cond s0_3 (.agg #[vU a0_2.mark, vU a0_2.horizon, vI a0_2.epoch, vI a0_2.head]) undef) (cond (Nat.blt jj 13) (vv = cond s0_3 (.agg (cEMsg x v2_x v3_x v4_x v5_x v6_x).toArray) undef) (vv = cond s0_3 (.agg (cEMsg s0_4.1 (aggSl vv 14) (aggSl vv 18) (aggSl vv 19) (aggSl vv 20) (aggSl vv 21)).toArray) undef)))) (cond (Nat.blt jj 16) (cond (Nat.blt jj 15) (vv = cond s0_3 (pp g2 0) undef) (vv = cond s0_3 (.agg #[vU w0.mark, vU w0.horizon, vI w0.epoch, vI w0.head]) undef)) (cond (Nat.blt jj 17) (vv = cond s0_3 (.agg (cEMsg x v2_x v3_x v4_x v5_x v6_x).toArray) undef) (cond (Nat.blt jj 18) (vv = cond s0_3 (.agg (cEMsg s0_5 (aggSl vv 14) (aggSl vv 18) (aggSl vv 19) (aggSl vv 20) (aggSl vv 21)).toArray) undef) (vv = cond s0_3 (vT s0_6) undef)))))) (cond (Nat.blt jj 29) (cond (Nat.blt jj 24) (cond (Nat.blt jj 21) (cond (Nat.blt jj 20) (vv = vT (s0_3 && s0_6)) (vv = vT (s0_3 && s0_6))) (cond (Nat.blt jj 22) (vv = cond (s0_3 && s0_6) (.agg #[vU a0_2.mark, vU a0_2.horizon, vI a0_2.epoch, vI a0_2.head]) undef) (cond (Nat.blt jj 23) (vv = cond (s0_3 && s0_6) (pp b2 2) undef) (vv = cond (s0_3 && s0_6) (vI x.req) undef)))) (cond (Nat.blt jj 26) (cond (Nat.blt jj 25) (vv = cond (s0_3 && s0_6) (pp b2 10) undef) (vv = cond (s0_3 && s0_6) (vI x.e) undef)) (cond (Nat.blt jj 27) (vv = cond (s0_3 && s0_6) (.agg (cEMsg n0 (aggSl vv 14) (aggSl vv 18) (aggSl vv 19) (aggSl vv 20) (aggSl vv 21)).toArray) undef) (cond (Nat.blt jj 28) (vv = cond (s0_3 && s0_6) (.agg #[vU w0.mark, vU w0.horizon, vI w0.epoch, vI w0.head]) undef) (vv = cond (s0_3 && s0_6) (pp b2 2) undef))))) (cond (Nat.blt jj 34) (cond (Nat.blt jj 31) (cond (Nat.blt jj 30) (vv = cond (s0_3 && s0_6) (vI x.req) undef) (vv = cond (s0_3 && s0_6) (pp b2 10) undef)) (cond (Nat.blt jj 32) (vv = cond (s0_3 && s0_6) (vI x.e) undef) (cond (Nat.blt jj 33) (vv = cond (s0_3 && s0_6) (.agg (cEMsg n0_2 (aggSl vv 14) (aggSl vv 18) (aggSl vv 19) (aggSl vv 20) (aggSl vv 21)).toArray) undef) (vv = cond (s0_3 && s0_6) (vT s0_7) undef)))) (cond (Nat.blt jj 36) (cond (Nat.blt jj 35) (vv = vT ((s0_3 && s0_6) && s0_7)) (vv = vT ((s0_3 && s0_6) && s0_7))) (cond (Nat.blt jj 37) (vv = cond ((s0_3 && s0_6) && s0_7) (vT a0_5) undef) (cond (Nat.blt jj 38) (vv = vT (((s0_3 && s0_6) && s0_7) && a0_5)) (vv = vT (((s0_3 && s0_6) && s0_7) && a0_5)))))))) (fun ss vals1 xw => match ss with | 0 => Gx I D w I7 w17 xw [BxC b6 37 (cEMsg a0_4.1 q6 q7 q8 q9 q10), OEref16_Store g2 s0.2, SlC NEMember q6 a0_4.1.conf.members, SlC NEOp q7 a0_4.1.batch.ops, SlC NEEntry q8 a0_4.1.entries, SlC Nu64 q9 a0_4.1.stamps, SlC NEPair q10 a0_4.1.pairs, BxC b5 37 (cEMsg a0_3.1 q1 q2 q3 q4 q5), OEmvcc_Store g1 a0_3.2.2, SlC NEMember q1 a0_3.1.conf.members, SlC NEOp q2 a0_3.1.batch.ops, SlC NEEntry q3 a0_3.1.entries, SlC Nu64 q4 a0_3.1.stamps, SlC NEPair q5 a0_3.1.pairs, BxC b4 47 [vU w0.mark, vU w0.horizon, vI w0.epoch, vI w0.head], BxC b3 45 (cEserve_View a0_2), BxC b2 37 (cEMsg x v2_x v3_x v4_x v5_x v6_x), BxC b1 25 (cElaw31_View w0), SlC NElaw31_Put v1_l l, SlC NEMember v2_x x.conf.members, SlC NEOp v3_x x.batch.ops, SlC NEEntry v4_x x.entries, SlC Nu64 v5_x x.stamps, SlC NEPair v6_x x.pairs] | 1 => Gx I D w I7 w17 xw [OEmvcc_Store g1 g.2, SlC NEMember (aggAt (vals1 3) 14) g.1.conf.members, SlC NEOp (aggAt (vals1 3) 18) g.1.batch.ops, SlC NEEntry (aggAt (vals1 3) 19) g.1.entries, SlC Nu64 (aggAt (vals1 3) 20) g.1.stamps, SlC NEPair (aggAt (vals1 3) 21) g.1.pairs, BxC b6 37 (cEMsg a0_4.1 q6 q7 q8 q9 q10), OEref16_Store g2 s0.2, SlC NEMember q6 a0_4.1.conf.members, SlC NEOp q7 a0_4.1.batch.ops, SlC NEEntry q8 a0_4.1.entries, SlC Nu64 q9 a0_4.1.stamps, SlC NEPair q10 a0_4.1.pairs, BxC b5 37 (cEMsg a0_3.1 q1 q2 q3 q4 q5), SlC NEMember q1 a0_3.1.conf.members, SlC NEOp q2 a0_3.1.batch.ops, SlC NEEntry q3 a0_3.1.entries, SlC Nu64 q4 a0_3.1.stamps, SlC NEPair q5 a0_3.1.pairs, BxC b4 47 [vU w0.mark, vU w0.horizon, vI w0.epoch, vI w0.head], BxC b3 45 (cEserve_View a0_2), BxC b2 37 (cEMsg x v2_x v3_x v4_x v5_x v6_x), BxC b1 25 (cElaw31_View w0), SlC NElaw31_Put v1_l l, SlC NEMember v2_x x.conf.members, SlC NEOp v3_x x.batch.ops, SlC NEEntry v4_x x.entries, SlC Nu64 v5_x x.stamps, SlC NEPair v6_x x.pairs] | 2 => Gx I D w I7 w17 xw [OEref16_Store g2 s0.2, SlC NEMember (aggAt (vals1 7) 14) g_2.conf.members, SlC NEOp (aggAt (vals1 7) 18) g_2.batch.ops, SlC NEEntry (aggAt (vals1 7) 19) g_2.entries, SlC Nu64 (aggAt (vals1 7) 20) g_2.stamps, SlC NEPair (aggAt (vals1 7) 21) g_2.pairs, OEmvcc_Store g1 g.2, SlC NEMember (aggAt (vals1 3) 14) g.1.conf.members, SlC NEOp (aggAt (vals1 3) 18) g.1.batch.ops, SlC NEEntry (aggAt (vals1 3) 19) g.1.entries, SlC Nu64 (aggAt (vals1 3) 20) g.1.stamps, SlC NEPair (aggAt (vals1 3) 21) g.1.pairs, BxC b6 37 (cEMsg a0_4.1 q6 q7 q8 q9 q10), SlC NEMember q6 a0_4.1.conf.members, SlC NEOp q7 a0_4.1.batch.ops, SlC NEEntry q8 a0_4.1.entries, SlC Nu64 q9 a0_4.1.stamps, SlC NEPair q10 a0_4.1.pairs, BxC b5 37 (cEMsg a0_3.1 q1 q2 q3 q4 q5), SlC NEMember q1 a0_3.1.conf.members, SlC NEOp q2 a0_3.1.batch.ops, SlC NEEntry q3 a0_3.1.entries, SlC Nu64 q4 a0_3.1.stamps, SlC NEPair q5 a0_3.1.pairs, BxC b4 47 [vU w0.mark, vU w0.horizon, vI w0.epoch, vI w0.head], BxC b3 45 (cEserve_View a0_2), BxC b2 37 (cEMsg x v2_x v3_x v4_x v5_x v6_x), BxC b1 25 (cElaw31_View w0), SlC NElaw31_Put v1_l l, SlC NEMember v2_x x.conf.members, SlC NEOp v3_x x.batch.ops, SlC NEEntry v4_x x.entries, SlC Nu64 v5_x x.stamps, SlC NEPair v6_x x.pairs] | 3 => Gx I D w I7 w17 xw [OEmvcc_Store g1 (cond s0_3 s0_4.2 g.2), SlC NEMember (aggSl (vals1 13) 14) s0_4.1.conf.members, SlC NEOp (aggSl (vals1 13) 18) s0_4.1.batch.ops, SlC NEEntry (aggSl (vals1 13) 19) s0_4.1.entries, SlC Nu64 (aggSl (vals1 13) 20) s0_4.1.stamps, SlC NEPair (aggSl (vals1 13) 21) s0_4.1.pairs, OEref16_Store g2 s0.2, SlC NEMember (aggAt (vals1 7) 14) g_2.conf.members, SlC NEOp (aggAt (vals1 7) 18) g_2.batch.ops, SlC NEEntry (aggAt (vals1 7) 19) g_2.entries, SlC Nu64 (aggAt (vals1 7) 20) g_2.stamps, SlC NEPair (aggAt (vals1 7) 21) g_2.pairs, SlC NEMember (aggAt (vals1 3) 14) g.1.conf.members, SlC NEOp (aggAt (vals1 3) 18) g.1.batch.ops, SlC NEEntry (aggAt (vals1 3) 19) g.1.entries, SlC Nu64 (aggAt (vals1 3) 20) g.1.stamps, SlC NEPair (aggAt (vals1 3) 21) g.1.pairs, BxC b6 37 (cEMsg a0_4.1 q6 q7 q8 q9 q10), SlC NEMember q6 a0_4.1.conf.members, SlC NEOp q7 a0_4.1.batch.ops, SlC NEEntry q8 a0_4.1.entries, SlC Nu64 q9 a0_4.1.stamps, SlC NEPair q10 a0_4.1.pairs, BxC b5 37 (cEMsg a0_3.1 q1 q2 q3 q4 q5), SlC NEMember q1 a0_3.1.conf.members, SlC NEOp q2 a0_3.1.batch.ops, SlC NEEntry q3 a0_3.1.entries, SlC Nu64 q4 a0_3.1.stamps, SlC NEPair q5 a0_3.1.pairs, BxC b4 47 [vU w0.mark, vU w0.horizon, vI w0.epoch, vI w0.head], BxC b3 45 (cEserve_View a0_2), BxC b2 37 (cEMsg x v2_x v3_x v4_x v5_x v6_x), BxC b1 25 (cElaw31_View w0), SlC NElaw31_Put v1_l l, SlC NEMember v2_x x.conf.members, SlC NEOp v3_x x.batch.ops, SlC NEEntry v4_x x.entries, SlC Nu64 v5_x x.stamps, SlC NEPair v6_x x.pairs] | 4 => Gx I D w I7 w17 xw [OEref16_Store g2 s0.2, SlC NEMember (aggSl (vals1 17) 14) s0_5.conf.members, SlC NEOp (aggSl (vals1 17) 18) s0_5.batch.ops, SlC NEEntry (aggSl (vals1 17) 19) s0_5.entries, SlC Nu64 (aggSl (vals1 17) 20) s0_5.stamps, SlC NEPair (aggSl (vals1 17) 21) s0_5.pairs, OEmvcc_Store g1 (cond s0_3 s0_4.2 g.2), SlC NEMember (aggSl (vals1 13) 14) s0_4.1.conf.members, SlC NEOp (aggSl (vals1 13) 18) s0_4.1.batch.ops, SlC NEEntry (aggSl (vals1 13) 19) s0_4.1.entries, SlC Nu64 (aggSl (vals1 13) 20) s0_4.1.stamps, SlC NEPair (aggSl (vals1 13) 21) s0_4.1.pairs, SlC NEMember (aggAt (vals1 7) 14) g_2.conf.members, SlC NEOp (aggAt (vals1 7) 18) g_2.batch.ops, SlC NEEntry (aggAt (vals1 7) 19) g_2.entries, SlC Nu64 (aggAt (vals1 7) 20) g_2.stamps, SlC NEPair (aggAt (vals1 7) 21) g_2.pairs, SlC NEMember (aggAt (vals1 3) 14) g.1.conf.members, SlC NEOp (aggAt (vals1 3) 18) g.1.batch.ops, SlC NEEntry (aggAt (vals1 3) 19) g.1.entries, SlC Nu64 (aggAt (vals1 3) 20) g.1.stamps, SlC NEPair (aggAt (vals1 3) 21) g.1.pairs, BxC b6 37 (cEMsg a0_4.1 q6 q7 q8 q9 q10), SlC NEMember q6 a0_4.1.conf.members, SlC NEOp q7 a0_4.1.batch.ops, SlC NEEntry q8 a0_4.1.entries, SlC Nu64 q9 a0_4.1.stamps, SlC NEPair q10 a0_4.1.pairs, BxC b5 37 (cEMsg a0_3.1 q1 q2 q3 q4 q5), SlC NEMember q1 a0_3.1.conf.members, SlC NEOp q2 a0_3.1.batch.ops, SlC NEEntry q3 a0_3.1.entries, SlC Nu64 q4 a0_3.1.stamps, SlC NEPair q5 a0_3.1.pairs, BxC b4 47 [vU w0.mark, vU w0.horizon, vI w0.epoch, vI w0.head], BxC b3 45 (cEserve_View a0_2), BxC b2 37 (cEMsg x v2_x v3_x v4_x v5_x v6_x), BxC b1 25 (cElaw31_View w0), SlC NElaw31_Put v1_l l, SlC NEMember v2_x x.conf.members, SlC NEOp v3_x x.batch.ops, SlC NEEntry v4_x x.entries, SlC Nu64 v5_x x.stamps, SlC NEPair v6_x x.pairs] | 5 => Gx I D w I7 w17 xw [SlC NEMember (aggSl (vals1 26) 14) n0.conf.members, SlC NEOp (aggSl (vals1 26) 18) n0.batch.ops, SlC NEEntry (aggSl (vals1 26) 19) n0.entries, SlC Nu64 (aggSl (vals1 26) 20) n0.stamps, SlC NEPair (aggSl (vals1 26) 21) n0.pairs, OEref16_Store g2 s0.2, SlC NEMember (aggSl (vals1 17) 14) s0_5.conf.members, SlC NEOp (aggSl (vals1 17) 18) s0_5.batch.ops, SlC NEEntry (aggSl (vals1 17) 19) s0_5.entries, SlC Nu64 (aggSl (vals1 17) 20) s0_5.stamps, SlC NEPair (aggSl (vals1 17) 21) s0_5.pairs, OEmvcc_Store g1 (cond s0_3 s0_4.2 g.2), SlC NEMember (aggSl (vals1 13) 14) s0_4.1.conf.members, SlC NEOp (aggSl (vals1 13) 18) s0_4.1.batch.ops, SlC NEEntry (aggSl (vals1 13) 19) s0_4.1.entries, SlC Nu64 (aggSl (vals1 13) 20) s0_4.1.stamps, SlC NEPair (aggSl (vals1 13) 21) s0_4.1.pairs, SlC NEMember (aggAt (vals1 7) 14) g_2.conf.members, SlC NEOp (aggAt (vals1 7) 18) g_2.batch.ops, SlC NEEntry (aggAt (vals1 7) 19) g_2.entries, SlC Nu64 (aggAt (vals1 7) 20) g_2.stamps, SlC NEPair (aggAt (vals1 7) 21) g_2.pairs, SlC NEMember (aggAt (vals1 3) 14) g.1.conf.members, SlC NEOp (aggAt (vals1 3) 18) g.1.batch.ops, SlC NEEntry (aggAt (vals1 3) 19) g.1.entries, SlC Nu64 (aggAt (vals1 3) 20) g.1.stamps, SlC NEPair (aggAt (vals1 3) 21) g.1.pairs, BxC b6 37 (cEMsg a0_4.1 q6 q7 q8 q9 q10), SlC NEMember q6 a0_4.1.conf.members, SlC NEOp q7 a0_4.1.batch.ops, SlC NEEntry q8 a0_4.1.entries, SlC Nu64 q9 a0_4.1.stamps, SlC NEPair q10 a0_4.1.pairs, BxC b5 37 (cEMsg a0_3.1 q1 q2 q3 q4 q5), SlC NEMember q1 a0_3.1.conf.members, SlC NEOp q2 a0_3.1.batch.ops, SlC NEEntry q3 a0_3.1.entries, SlC Nu64 q4 a0_3.1.stamps, SlC NEPair q5 a0_3.1.pairs, BxC b4 47 [vU w0.mark, vU w0.horizon, vI w0.epoch, vI w0.head], BxC b3 45 (cEserve_View a0_2), BxC b2 37 (cEMsg x v2_x v3_x v4_x v5_x v6_x), BxC b1 25 (cElaw31_View w0), SlC NElaw31_Put v1_l l, SlC NEMember v2_x x.conf.members, SlC NEOp v3_x x.batch.ops, SlC NEEntry v4_x x.entries, SlC Nu64 v5_x x.stamps, SlC NEPair v6_x x.pairs] | _ => Gx I D w I7 w17 xw [SlC NEMember (aggSl (vals1 32) 14) n0_2.conf.members, SlC NEOp (aggSl (vals1 32) 18) n0_2.batch.ops, SlC NEEntry (aggSl (vals1 32) 19) n0_2.entries, SlC Nu64 (aggSl (vals1 32) 20) n0_2.stamps, SlC NEPair (aggSl (vals1 32) 21) n0_2.pairs, SlC NEMember (aggSl (vals1 26) 14) n0.conf.members, SlC NEOp (aggSl (vals1 26) 18) n0.batch.ops, SlC NEEntry (aggSl (vals1 26) 19) n0.entries, SlC Nu64 (aggSl (vals1 26) 20) n0.stamps, SlC NEPair (aggSl (vals1 26) 21) n0.pairs, OEref16_Store g2 s0.2, SlC NEMember (aggSl (vals1 17) 14) s0_5.conf.members, SlC NEOp (aggSl (vals1 17) 18) s0_5.batch.ops, SlC NEEntry (aggSl (vals1 17) 19) s0_5.entries, SlC Nu64 (aggSl (vals1 17) 20) s0_5.stamps, SlC NEPair (aggSl (vals1 17) 21) s0_5.pairs, OEmvcc_Store g1 (cond s0_3 s0_4.2 g.2), SlC NEMember (aggSl (vals1 13) 14) s0_4.1.conf.members, SlC NEOp (aggSl (vals1 13) 18) s0_4.1.batch.ops, SlC NEEntry (aggSl (vals1 13) 19) s0_4.1.entries, SlC Nu64 (aggSl (vals1 13) 20) s0_4.1.stamps, SlC NEPair (aggSl (vals1 13) 21) s0_4.1.pairs, SlC NEMember (aggAt (vals1 7) 14) g_2.conf.members, SlC NEOp (aggAt (vals1 7) 18) g_2.batch.ops, SlC NEEntry (aggAt (vals1 7) 19) g_2.entries, SlC Nu64 (aggAt (vals1 7) 20) g_2.stamps, SlC NEPair (aggAt (vals1 7) 21) g_2.pairs, SlC NEMember (aggAt (vals1 3) 14) g.1.conf.members, SlC NEOp (aggAt (vals1 3) 18) g.1.batch.ops, SlC NEEntry (aggAt (vals1 3) 19) g.1.entries, SlC Nu64 (aggAt (vals1 3) 20) g.1.stamps, SlC NEPair (aggAt (vals1 3) 21) g.1.pairs, BxC b6 37 (cEMsg a0_4.1 q6 q7 q8 q9 q10), SlC NEMember q6 a0_4.1.conf.members, SlC NEOp q7 a0_4.1.batch.ops, SlC NEEntry q8 a0_4.1.entries, SlC Nu64 q9 a0_4.1.stamps, SlC NEPair q10 a0_4.1.pairs, BxC b5 37 (cEMsg a0_3.1 q1 q2 q3 q4 q5), SlC NEMember q1 a0_3.1.conf.members, SlC NEOp q2 a0_3.1.batch.ops, SlC NEEntry q3 a0_3.1.entries, SlC Nu64 q4 a0_3.1.stamps, SlC NEPair q5 a0_3.1.pairs, BxC b4 47 [vU w0.mark, vU w0.horizon, vI w0.epoch, vI w0.head], BxC b3 45 (cEserve_View a0_2), BxC b2 37 (cEMsg x v2_x v3_x v4_x v5_x v6_x), BxC b1 25 (cElaw31_View w0), SlC NElaw31_Put v1_l l, SlC NEMember v2_x x.conf.members, SlC NEOp v3_x x.batch.ops, SlC NEEntry v4_x x.entries, SlC Nu64 v5_x x.stamps, SlC NEPair v6_x x.pairs]) (fun _ => Gx.start H) ?_ ?_
   ·intro fr hfr hfe
    refine .cons (fun ss hlo hhi vals1 xw hG hV => ?_) ?_
    ·obtain rfl : ss = 0 := Nat.le_antisymm hhi hlo
     rw [← hfe]
     have hS := (hfr vals1).sub (ts := [7]) rfl
     exact L_val hS rfl (Ob_c tSvWP rfl) ⟨rfl, hG⟩
    refine .cons (fun ss hlo hhi vals1 xw hG hV => ?_) ?_
    ·obtain rfl : ss = 0 := Nat.le_antisymm hhi hlo
     rw [← hfe]
     have hS := (hfr vals1).sub (ts := [9]) rfl
     obtain ⟨I2, hI2, H⟩ := Gx.ex hG
     exact L_val hS rfl (oA tSvWP rfl rfl ((H.bx 15 rfl).part 0 rfl)) ⟨rfl, hG⟩
    refine .cons (fun ss hlo hhi vals1 xw hG hV => ?_) ?_
    ·obtain rfl : ss = 0 := Nat.le_antisymm hhi hlo
     rw [← hfe]
     have hS := (hfr vals1).sub (ts := [5]) rfl
     obtain ⟨I2, hI2, H⟩ := Gx.ex hG
     exact L_val hS rfl (oA tSvWP rfl rfl ((H.bx 16 rfl).part 0 rfl)) ⟨rfl, hG⟩
    refine .cons (fun ss hlo hhi vals1 xw hG hV => ?_) ?_
    ·obtain rfl : ss = 0 := Nat.le_antisymm hhi hlo
     rw [← hfe]
     have hS := (hfr vals1).sub (ts := [97, 98, 99]) rfl
     replace hS := hS.conv (t := 97) rfl (show (vals1 0) = pp g1 0 from hV 0 (by decide))
     replace hS := hS.conv (t := 98) rfl (show (vals1 1) = .agg #[vU a0_2.mark, vU a0_2.horizon, vI a0_2.epoch, vI a0_2.head] from hV 1 (by decide))
     replace hS := hS.conv (t := 99) rfl (show (vals1 2) = .agg (cEMsg x v2_x v3_x v4_x v5_x v6_x).toArray from hV 2 (by decide))
     obtain ⟨I2, hI2, H⟩ := Gx.ex hG
     refine L_hcall H (js := [(8, false), (18, true), (19, true), (20, true), (21, true), (22, true)]) rfl (caps := #[]) hS fn_12_YSvWP rfl rfl rfl rfl rfl (fun D1 hS => have hq := c_serve_Get hx8 hS; hq) fun _ yw D1 hr hF2 => ?_
     obtain ⟨q0_, q1_, q2_, q3_, q4_, rfl, I3, K⟩ := hr
     obtain ⟨hK, H2⟩ := hF2 K
     exact ⟨rfl, Gx.go hG hI2 hK K.imm H2⟩
    refine .cons (fun ss hlo hhi vals1 xw hG hV => ?_) ?_
    ·obtain rfl | rfl : ss = 0 ∨ ss = 1 := st1 hlo hhi
     all_goals
     ·rw [← hfe]
      have hS := (hfr vals1).sub (ts := [8]) rfl
      exact L_val hS rfl (Ob_c tSvWP rfl) ⟨rfl, hG⟩
    refine .cons (fun ss hlo hhi vals1 xw hG hV => ?_) ?_
    ·obtain rfl | rfl : ss = 0 ∨ ss = 1 := st1 hlo hhi
     ·rw [← hfe]
      have hS := (hfr vals1).sub (ts := [10]) rfl
      obtain ⟨I2, hI2, H⟩ := Gx.ex hG
      exact L_val hS rfl (oA tSvWP rfl rfl ((H.bx 14 rfl).part 0 rfl)) ⟨rfl, hG⟩
     ·rw [← hfe]
      have hS := (hfr vals1).sub (ts := [10]) rfl
      obtain ⟨I2, hI2, H⟩ := Gx.ex hG
      exact L_val hS rfl (oA tSvWP rfl rfl ((H.bx 19 rfl).part 0 rfl)) ⟨rfl, hG⟩
    refine .cons (fun ss hlo hhi vals1 xw hG hV => ?_) ?_
    ·obtain rfl | rfl : ss = 0 ∨ ss = 1 := st1 hlo hhi
     ·rw [← hfe]
      have hS := (hfr vals1).sub (ts := [5]) rfl
      obtain ⟨I2, hI2, H⟩ := Gx.ex hG
      exact L_val hS rfl (oA tSvWP rfl rfl ((H.bx 16 rfl).part 0 rfl)) ⟨rfl, hG⟩
     ·rw [← hfe]
      have hS := (hfr vals1).sub (ts := [5]) rfl
      obtain ⟨I2, hI2, H⟩ := Gx.ex hG
      exact L_val hS rfl (oA tSvWP rfl rfl ((H.bx 21 rfl).part 0 rfl)) ⟨rfl, hG⟩
    refine .cons (fun ss hlo hhi vals1 xw hG hV => ?_) ?_
    ·obtain rfl : ss = 1 := Nat.le_antisymm hhi hlo
     rw [← hfe]
     have hS := (hfr vals1).sub (ts := [101, 102, 103]) rfl
     replace hS := hS.conv (t := 101) rfl (show (vals1 4) = pp g2 0 from hV 4 (by decide))
     replace hS := hS.conv (t := 102) rfl (show (vals1 5) = .agg #[vU w0.mark, vU w0.horizon, vI w0.epoch, vI w0.head] from hV 5 (by decide))
     replace hS := hS.conv (t := 103) rfl (show (vals1 6) = .agg (cEMsg x v2_x v3_x v4_x v5_x v6_x).toArray from hV 6 (by decide))
     obtain ⟨I2, hI2, H⟩ := Gx.ex hG
     refine L_hcall H (js := [(7, false), (23, true), (24, true), (25, true), (26, true), (27, true)]) rfl (caps := #[]) hS fn_13_YSvWP rfl rfl rfl rfl rfl (fun D1 hS => have hq := c_ref31_Get hx9 hS; hq) fun _ yw D1 hr hF2 => ?_
     obtain ⟨q0_, q1_, q2_, q3_, q4_, rfl, I3, K⟩ := hr
     obtain ⟨hK, H2⟩ := hF2 K
     exact ⟨rfl, Gx.go hG hI2 hK K.imm H2⟩
    refine .cons (fun ss hlo hhi vals1 xw hG hV => ?_) ?_
    ·obtain rfl : ss = 2 := Nat.le_antisymm hhi hlo
     rw [← hfe]
     have hS := (hfr vals1).sub (ts := [100, 104]) rfl
     replace hS := hS.conv (t := 100) rfl (show (vals1 3) = .agg (cEMsg g.1 (aggAt (vals1 3) 14) (aggAt (vals1 3) 18) (aggAt (vals1 3) 19) (aggAt (vals1 3) 20) (aggAt (vals1 3) 21)).toArray from hV 3 (by decide))
     replace hS := hS.conv (t := 104) rfl (show (vals1 7) = .agg (cEMsg g_2 (aggAt (vals1 7) 14) (aggAt (vals1 7) 18) (aggAt (vals1 7) 19) (aggAt (vals1 7) 20) (aggAt (vals1 7) 21)).toArray from hV 7 (by decide))
     obtain ⟨I2, hI2, H⟩ := Gx.ex hG
     refine L_call (caps := #[]) hS fn_11_YSvWP rfl rfl rfl rfl rfl ((have hq := c_ref09_Same hx10 ((H).pick0 (js := [(7, true), (8, true), (9, true), (10, true), (11, true), (1, true), (2, true), (3, true), (4, true), (5, true)]) rfl rfl); plainC hq)) fun r yw hr => ?_
     obtain ⟨rfl, hb⟩ := hr
     exact ⟨rfl, Gx.blw hG hb⟩
    refine .cons (fun ss hlo hhi vals1 xw hG hV => ?_) ?_
    ·obtain rfl : ss = 2 := Nat.le_antisymm hhi hlo
     rw [← hfe]
     have hS := (hfr vals1).sub (ts := [105]) rfl
     replace hS := hS.conv (t := 105) rfl (show (vals1 8) = vT s0_3 from hV 8 (by decide))
     exact L_val hS rfl (Ob_c tSvWP rfl) ⟨rfl, hG⟩
    refine .cons (fun ss hlo hhi vals1 xw hG hV => ?_) ?_
    ·obtain rfl : ss = 2 := Nat.le_antisymm hhi hlo
     rw [← hfe]
     have hS := (hfr vals1).sub (ts := [106, 7]) rfl
     replace hS := hS.conv (t := 106) rfl (show (vals1 9) = vT s0_3 from hV 9 (by decide))
     refine L_gw (p := s0_3) hS rfl rfl rfl (wantB_t _) (fun hp => ?_) (fun hp => ⟨by rw [hp]; rfl, hG⟩)
     exact L_val hS rfl (Ob_c tSvWP rfl) ⟨(by rw [hp]; rfl), hG⟩
    refine .cons (fun ss hlo hhi vals1 xw hG hV => ?_) ?_
    ·obtain rfl : ss = 2 := Nat.le_antisymm hhi hlo
     rw [← hfe]
     have hS := (hfr vals1).sub (ts := [106, 9]) rfl
     replace hS := hS.conv (t := 106) rfl (show (vals1 9) = vT s0_3 from hV 9 (by decide))
     refine L_gw (p := s0_3) hS rfl rfl rfl (wantB_t _) (fun hp => ?_) (fun hp => ⟨by rw [hp]; rfl, hG⟩)
     obtain ⟨I2, hI2, H⟩ := Gx.ex hG
     exact L_val hS rfl (oA tSvWP rfl rfl ((H.bx 25 rfl).part 0 rfl)) ⟨(by rw [hp]; rfl), hG⟩
    refine .cons (fun ss hlo hhi vals1 xw hG hV => ?_) ?_
    ·obtain rfl : ss = 2 := Nat.le_antisymm hhi hlo
     rw [← hfe]
     have hS := (hfr vals1).sub (ts := [106, 5]) rfl
     replace hS := hS.conv (t := 106) rfl (show (vals1 9) = vT s0_3 from hV 9 (by decide))
     refine L_gw (p := s0_3) hS rfl rfl rfl (wantB_t _) (fun hp => ?_) (fun hp => ⟨by rw [hp]; rfl, hG⟩)
     obtain ⟨I2, hI2, H⟩ := Gx.ex hG
     exact L_val hS rfl (oA tSvWP rfl rfl ((H.bx 26 rfl).part 0 rfl)) ⟨(by rw [hp]; rfl), hG⟩
    refine .cons (fun ss hlo hhi vals1 xw hG hV => ?_) ?_
    ·obtain rfl : ss = 2 := Nat.le_antisymm hhi hlo
     rw [← hfe]
     have hS := (hfr vals1).sub (ts := [107, 108, 109, 106]) rfl
     replace hS := hS.conv (t := 107) rfl (show (vals1 10) = cond s0_3 (pp g1 0) undef from hV 10 (by decide))
     replace hS := hS.conv (t := 108) rfl (show (vals1 11) = cond s0_3 (.agg #[vU a0_2.mark, vU a0_2.horizon, vI a0_2.epoch, vI a0_2.head]) undef from hV 11 (by decide))
     replace hS := hS.conv (t := 109) rfl (show (vals1 12) = cond s0_3 (.agg (cEMsg x v2_x v3_x v4_x v5_x v6_x).toArray) undef from hV 12 (by decide))
     replace hS := hS.conv (t := 106) rfl (show (vals1 9) = vT s0_3 from hV 9 (by decide))
     refine L_gw (p := s0_3) hS rfl rfl rfl (wantB_t _) (fun hp => ?_) (fun hp => ⟨by rw [hp]; rfl, ?_⟩)
     ·obtain ⟨I2, hI2, H⟩ := Gx.ex hG
      replace hS := hS.conv (t := 107) rfl (cond_t hp)
      replace hS := hS.conv (t := 108) rfl (cond_t hp)
      replace hS := hS.conv (t := 109) rfl (cond_t hp)
      refine L_hcall H (js := [(6, false), (28, true), (29, true), (30, true), (31, true), (32, true)]) rfl (caps := #[]) hS fn_14_YSvWP rfl rfl rfl rfl rfl (fun D1 hS => have hq := c_serve_Scan (gif_in hx11 hp) hS; hq) fun _ yw D1 hr hF2 => ?_
      obtain ⟨q0_, q1_, q2_, q3_, q4_, rfl, I3, K⟩ := hr
      obtain ⟨hK, H2⟩ := hF2 K
      exact ⟨by rw [hp]; rfl, by first | (rw [hp] at H2 ⊢; exact Gx.go hG hI2 hK K.imm H2) | (rw [hp]; exact Gx.go hG hI2 hK K.imm H2) | exact Gx.go hG hI2 hK K.imm H2⟩
     ·obtain rfl := gif_no hx11 hp; (try rw [hp]); obtain ⟨I2, hI2, H⟩ := Gx.ex hG; (try rw [hp] at H); exact Gx.go hG hI2 (Keep.refl _ _) (fun _ h => h) (Hf.sub (Hf.slNil (Hf.slNil (Hf.slNil (Hf.slNil (Hf.slNil (H.sub [(6, false), (0, false), (0, true), (1, true), (2, true), (3, true), (4, true), (5, true), (6, true), (7, true), (8, true), (9, true), (10, false), (10, true), (11, true), (12, true), (13, true), (14, true), (15, false), (15, true), (16, true), (17, true), (18, true), (19, true), (20, false), (20, false), (20, false), (20, false), (20, true), (21, true), (22, true), (23, true), (24, true), (25, true)] rfl) NEMember) NEOp) NEEntry) Nu64) NEPair) [(5, false), (4, false), (3, false), (2, false), (1, false), (0, false), (0, false), (0, true), (1, true), (2, true), (3, true), (4, true), (5, true), (6, true), (7, true), (8, true), (9, true), (10, false), (10, true), (11, true), (12, true), (13, true), (14, true), (15, false), (15, true), (16, true), (17, true), (18, true), (19, true), (20, false), (20, false), (20, false), (20, false), (20, true), (21, true), (22, true), (23, true), (24, true), (25, true)] rfl)
    refine .cons (fun ss hlo hhi vals1 xw hG hV => ?_) ?_
    ·obtain rfl | rfl : ss = 2 ∨ ss = 3 := st1 hlo hhi
     all_goals
     ·rw [← hfe]
      have hS := (hfr vals1).sub (ts := [106, 8]) rfl
      replace hS := hS.conv (t := 106) rfl (show (vals1 9) = vT s0_3 from hV 9 (by decide))
      refine L_gw (p := s0_3) hS rfl rfl rfl (wantB_t _) (fun hp => ?_) (fun hp => ⟨by rw [hp]; rfl, hG⟩)
      exact L_val hS rfl (Ob_c tSvWP rfl) ⟨(by rw [hp]; rfl), hG⟩
    refine .cons (fun ss hlo hhi vals1 xw hG hV => ?_) ?_
    ·obtain rfl | rfl : ss = 2 ∨ ss = 3 := st1 hlo hhi
     ·rw [← hfe]
      have hS := (hfr vals1).sub (ts := [106, 10]) rfl
      replace hS := hS.conv (t := 106) rfl (show (vals1 9) = vT s0_3 from hV 9 (by decide))
      refine L_gw (p := s0_3) hS rfl rfl rfl (wantB_t _) (fun hp => ?_) (fun hp => ⟨by rw [hp]; rfl, hG⟩)
      obtain ⟨I2, hI2, H⟩ := Gx.ex hG
      exact L_val hS rfl (oA tSvWP rfl rfl ((H.bx 24 rfl).part 0 rfl)) ⟨(by rw [hp]; rfl), hG⟩
     ·rw [← hfe]
      have hS := (hfr vals1).sub (ts := [106, 10]) rfl
      replace hS := hS.conv (t := 106) rfl (show (vals1 9) = vT s0_3 from hV 9 (by decide))
      refine L_gw (p := s0_3) hS rfl rfl rfl (wantB_t _) (fun hp => ?_) (fun hp => ⟨by rw [hp]; rfl, hG⟩)
      obtain ⟨I2, hI2, H⟩ := Gx.ex hG
      exact L_val hS rfl (oA tSvWP rfl rfl ((H.bx 29 rfl).part 0 rfl)) ⟨(by rw [hp]; rfl), hG⟩
    refine .cons (fun ss hlo hhi vals1 xw hG hV => ?_) ?_
    ·obtain rfl | rfl : ss = 2 ∨ ss = 3 := st1 hlo hhi
     ·rw [← hfe]
      have hS := (hfr vals1).sub (ts := [106, 5]) rfl
      replace hS := hS.conv (t := 106) rfl (show (vals1 9) = vT s0_3 from hV 9 (by decide))
      refine L_gw (p := s0_3) hS rfl rfl rfl (wantB_t _) (fun hp => ?_) (fun hp => ⟨by rw [hp]; rfl, hG⟩)
      obtain ⟨I2, hI2, H⟩ := Gx.ex hG
      exact L_val hS rfl (oA tSvWP rfl rfl ((H.bx 26 rfl).part 0 rfl)) ⟨(by rw [hp]; rfl), hG⟩
     ·rw [← hfe]
      have hS := (hfr vals1).sub (ts := [106, 5]) rfl
      replace hS := hS.conv (t := 106) rfl (show (vals1 9) = vT s0_3 from hV 9 (by decide))
      refine L_gw (p := s0_3) hS rfl rfl rfl (wantB_t _) (fun hp => ?_) (fun hp => ⟨by rw [hp]; rfl, hG⟩)
      obtain ⟨I2, hI2, H⟩ := Gx.ex hG
      exact L_val hS rfl (oA tSvWP rfl rfl ((H.bx 31 rfl).part 0 rfl)) ⟨(by rw [hp]; rfl), hG⟩
    refine .cons (fun ss hlo hhi vals1 xw hG hV => ?_) ?_
    ·obtain rfl : ss = 3 := Nat.le_antisymm hhi hlo
     rw [← hfe]
     have hS := (hfr vals1).sub (ts := [111, 112, 113, 106]) rfl
     replace hS := hS.conv (t := 111) rfl (show (vals1 14) = cond s0_3 (pp g2 0) undef from hV 14 (by decide))
     replace hS := hS.conv (t := 112) rfl (show (vals1 15) = cond s0_3 (.agg #[vU w0.mark, vU w0.horizon, vI w0.epoch, vI w0.head]) undef from hV 15 (by decide))
     replace hS := hS.conv (t := 113) rfl (show (vals1 16) = cond s0_3 (.agg (cEMsg x v2_x v3_x v4_x v5_x v6_x).toArray) undef from hV 16 (by decide))
     replace hS := hS.conv (t := 106) rfl (show (vals1 9) = vT s0_3 from hV 9 (by decide))
     refine L_gw (p := s0_3) hS rfl rfl rfl (wantB_t _) (fun hp => ?_) (fun hp => ⟨by rw [hp]; rfl, ?_⟩)
     ·obtain ⟨I2, hI2, H⟩ := Gx.ex hG
      replace hS := hS.conv (t := 111) rfl (cond_t hp)
      replace hS := hS.conv (t := 112) rfl (cond_t hp)
      replace hS := hS.conv (t := 113) rfl (cond_t hp)
      refine L_hcall H (js := [(6, false), (33, true), (34, true), (35, true), (36, true), (37, true)]) rfl (caps := #[]) hS fn_15_YSvWP rfl rfl rfl rfl rfl (fun D1 hS => have hq := c_ref31_Scan (gif_in hx12 hp) hS; hq) fun _ yw D1 hr hF2 => ?_
      obtain ⟨q0_, q1_, q2_, q3_, q4_, rfl, I3, K⟩ := hr
      obtain ⟨hK, H2⟩ := hF2 K
      exact ⟨by rw [hp]; rfl, by first | (rw [hp] at H2 ⊢; exact Gx.go hG hI2 hK K.imm H2) | (rw [hp]; exact Gx.go hG hI2 hK K.imm H2) | exact Gx.go hG hI2 hK K.imm H2⟩
     ·obtain rfl := gif_no hx12 hp; (try rw [hp]); obtain ⟨I2, hI2, H⟩ := Gx.ex hG; (try rw [hp] at H); exact Gx.go hG hI2 (Keep.refl _ _) (fun _ h => h) (Hf.sub (Hf.slNil (Hf.slNil (Hf.slNil (Hf.slNil (Hf.slNil (H.sub [(6, false), (0, false), (0, true), (1, true), (2, true), (3, true), (4, true), (5, true), (6, true), (7, true), (8, true), (9, true), (10, true), (11, true), (12, true), (13, true), (14, true), (15, false), (15, true), (16, true), (17, true), (18, true), (19, true), (20, false), (20, true), (21, true), (22, true), (23, true), (24, true), (25, false), (25, false), (25, false), (25, false), (25, true), (26, true), (27, true), (28, true), (29, true), (30, true)] rfl) NEMember) NEOp) NEEntry) Nu64) NEPair) [(5, false), (4, false), (3, false), (2, false), (1, false), (0, false), (0, false), (0, true), (1, true), (2, true), (3, true), (4, true), (5, true), (6, true), (7, true), (8, true), (9, true), (10, true), (11, true), (12, true), (13, true), (14, true), (15, false), (15, true), (16, true), (17, true), (18, true), (19, true), (20, false), (20, true), (21, true), (22, true), (23, true), (24, true), (25, false), (25, false), (25, false), (25, false), (25, true), (26, true), (27, true), (28, true), (29, true), (30, true)] rfl)
    refine .cons (fun ss hlo hhi vals1 xw hG hV => ?_) ?_
    ·obtain rfl : ss = 4 := Nat.le_antisymm hhi hlo
     rw [← hfe]
     have hS := (hfr vals1).sub (ts := [110, 114, 106]) rfl
     replace hS := hS.conv (t := 110) rfl (show (vals1 13) = cond s0_3 (.agg (cEMsg s0_4.1 (aggSl (vals1 13) 14) (aggSl (vals1 13) 18) (aggSl (vals1 13) 19) (aggSl (vals1 13) 20) (aggSl (vals1 13) 21)).toArray) undef from hV 13 (by decide))
     replace hS := hS.conv (t := 114) rfl (show (vals1 17) = cond s0_3 (.agg (cEMsg s0_5 (aggSl (vals1 17) 14) (aggSl (vals1 17) 18) (aggSl (vals1 17) 19) (aggSl (vals1 17) 20) (aggSl (vals1 17) 21)).toArray) undef from hV 17 (by decide))
     replace hS := hS.conv (t := 106) rfl (show (vals1 9) = vT s0_3 from hV 9 (by decide))
     refine L_gw (p := s0_3) hS rfl rfl rfl (wantB_t _) (fun hp => ?_) (fun hp => ⟨by rw [hp]; rfl, hG⟩)
     replace hS := hS.conv (t := 110) rfl (cond_t hp)
     replace hS := hS.conv (t := 114) rfl (cond_t hp)
     obtain ⟨I2, hI2, H⟩ := Gx.ex hG
     refine L_call (caps := #[]) hS fn_11_YSvWP rfl rfl rfl rfl rfl ((have hq := c_ref09_Same (gif_in hx13 hp) ((H).pick0 (js := [(7, true), (8, true), (9, true), (10, true), (11, true), (1, true), (2, true), (3, true), (4, true), (5, true)]) rfl rfl); plainC hq)) fun r yw hr => ?_
     obtain ⟨rfl, hb⟩ := hr
     exact ⟨(by rw [hp]; rfl), Gx.blw hG hb⟩
    refine .cons (fun ss hlo hhi vals1 xw hG hV => ?_) ?_
    ·obtain rfl : ss = 4 := Nat.le_antisymm hhi hlo
     rw [← hfe]
     have hS := (hfr vals1).sub (ts := [106, 115]) rfl
     replace hS := hS.conv (t := 106) rfl (show (vals1 9) = vT s0_3 from hV 9 (by decide))
     replace hS := hS.conv (t := 115) rfl (show (vals1 18) = cond s0_3 (vT s0_6) undef from hV 18 (by decide))
     exact L_val hS rfl (Ob_pick rfl rfl rfl rfl (pick_and _ _)) ⟨rfl, hG⟩
    refine .cons (fun ss hlo hhi vals1 xw hG hV => ?_) ?_
    ·obtain rfl : ss = 4 := Nat.le_antisymm hhi hlo
     rw [← hfe]
     have hS := (hfr vals1).sub (ts := [116]) rfl
     replace hS := hS.conv (t := 116) rfl (show (vals1 19) = vT (s0_3 && s0_6) from hV 19 (by decide))
     exact L_val hS rfl (Ob_c tSvWP rfl) ⟨rfl, hG⟩
    refine .cons (fun ss hlo hhi vals1 xw hG hV => ?_) ?_
    ·obtain rfl : ss = 4 := Nat.le_antisymm hhi hlo
     rw [← hfe]
     have hS := (hfr vals1).sub (ts := [117, 9]) rfl
     replace hS := hS.conv (t := 117) rfl (show (vals1 20) = vT (s0_3 && s0_6) from hV 20 (by decide))
     refine L_gw (p := (s0_3 && s0_6)) hS rfl rfl rfl (wantB_t _) (fun hp => ?_) (fun hp => ⟨by rw [hp]; rfl, hG⟩)
     obtain ⟨I2, hI2, H⟩ := Gx.ex hG
     exact L_val hS rfl (oA tSvWP rfl rfl ((H.bx 35 rfl).part 0 rfl)) ⟨(by rw [hp]; rfl), hG⟩
    refine .cons (fun ss hlo hhi vals1 xw hG hV => ?_) ?_
    ·obtain rfl : ss = 4 := Nat.le_antisymm hhi hlo
     rw [← hfe]
     have hS := (hfr vals1).sub (ts := [117, 5]) rfl
     replace hS := hS.conv (t := 117) rfl (show (vals1 20) = vT (s0_3 && s0_6) from hV 20 (by decide))
     refine L_gw (p := (s0_3 && s0_6)) hS rfl rfl rfl (wantB_t _) (fun hp => ?_) (fun hp => ⟨by rw [hp]; rfl, hG⟩)
     exact L_val hS rfl (Ob_c tSvWP rfl) ⟨(by rw [hp]; rfl), hG⟩
    refine .cons (fun ss hlo hhi vals1 xw hG hV => ?_) ?_
    ·obtain rfl : ss = 4 := Nat.le_antisymm hhi hlo
     rw [← hfe]
     have hS := (hfr vals1).sub (ts := [119, 117]) rfl
     replace hS := hS.conv (t := 119) rfl (show (vals1 22) = cond (s0_3 && s0_6) (pp b2 2) undef from hV 22 (by decide))
     replace hS := hS.conv (t := 117) rfl (show (vals1 20) = vT (s0_3 && s0_6) from hV 20 (by decide))
     refine L_gw (p := (s0_3 && s0_6)) hS rfl rfl rfl (wantB_t _) (fun hp => ?_) (fun hp => ⟨by rw [hp]; rfl, hG⟩)
     replace hS := hS.conv (t := 119) rfl (cond_t hp)
     obtain ⟨I2, hI2, H⟩ := Gx.ex hG
     exact L_val hS rfl (oL tSvWP rfl rfl (H.bc 36 2 rfl rfl)) ⟨(by rw [hp]; rfl), hG⟩
    refine .cons (fun ss hlo hhi vals1 xw hG hV => ?_) ?_
    ·obtain rfl : ss = 4 := Nat.le_antisymm hhi hlo
     rw [← hfe]
     have hS := (hfr vals1).sub (ts := [117, 5]) rfl
     replace hS := hS.conv (t := 117) rfl (show (vals1 20) = vT (s0_3 && s0_6) from hV 20 (by decide))
     refine L_gw (p := (s0_3 && s0_6)) hS rfl rfl rfl (wantB_t _) (fun hp => ?_) (fun hp => ⟨by rw [hp]; rfl, hG⟩)
     exact L_val hS rfl (Ob_c tSvWP rfl) ⟨(by rw [hp]; rfl), hG⟩
    refine .cons (fun ss hlo hhi vals1 xw hG hV => ?_) ?_
    ·obtain rfl : ss = 4 := Nat.le_antisymm hhi hlo
     rw [← hfe]
     have hS := (hfr vals1).sub (ts := [121, 117]) rfl
     replace hS := hS.conv (t := 121) rfl (show (vals1 24) = cond (s0_3 && s0_6) (pp b2 10) undef from hV 24 (by decide))
     replace hS := hS.conv (t := 117) rfl (show (vals1 20) = vT (s0_3 && s0_6) from hV 20 (by decide))
     refine L_gw (p := (s0_3 && s0_6)) hS rfl rfl rfl (wantB_t _) (fun hp => ?_) (fun hp => ⟨by rw [hp]; rfl, hG⟩)
     replace hS := hS.conv (t := 121) rfl (cond_t hp)
     obtain ⟨I2, hI2, H⟩ := Gx.ex hG
     exact L_val hS rfl (oL tSvWP rfl rfl (H.bc 36 10 rfl rfl)) ⟨(by rw [hp]; rfl), hG⟩
    refine .cons (fun ss hlo hhi vals1 xw hG hV => ?_) ?_
    ·obtain rfl : ss = 4 := Nat.le_antisymm hhi hlo
     rw [← hfe]
     have hS := (hfr vals1).sub (ts := [118, 120, 122, 117]) rfl
     replace hS := hS.conv (t := 118) rfl (show (vals1 21) = cond (s0_3 && s0_6) (.agg #[vU a0_2.mark, vU a0_2.horizon, vI a0_2.epoch, vI a0_2.head]) undef from hV 21 (by decide))
     replace hS := hS.conv (t := 120) rfl (show (vals1 23) = cond (s0_3 && s0_6) (vI x.req) undef from hV 23 (by decide))
     replace hS := hS.conv (t := 122) rfl (show (vals1 25) = cond (s0_3 && s0_6) (vI x.e) undef from hV 25 (by decide))
     replace hS := hS.conv (t := 117) rfl (show (vals1 20) = vT (s0_3 && s0_6) from hV 20 (by decide))
     refine L_gw (p := (s0_3 && s0_6)) hS rfl rfl rfl (wantB_t _) (fun hp => ?_) (fun hp => ⟨by rw [hp]; rfl, ?_⟩)
     ·obtain ⟨I2, hI2, H⟩ := Gx.ex hG
      replace hS := hS.conv (t := 118) rfl (cond_t hp)
      replace hS := hS.conv (t := 120) rfl (cond_t hp)
      replace hS := hS.conv (t := 122) rfl (cond_t hp)
      refine L_hcall H (js := []) rfl (caps := #[]) hS fn_16_YSvWP rfl rfl rfl rfl rfl (fun D1 hS => have hq := c_serve_No (gif_in hx14 hp) hS; hq) fun _ yw D1 hr hF2 => ?_
      obtain ⟨q0_, q1_, q2_, q3_, q4_, rfl, I3, K⟩ := hr
      obtain ⟨hK, H2⟩ := hF2 K
      exact ⟨by rw [hp]; rfl, by first | (rw [hp] at H2 ⊢; exact Gx.go hG hI2 hK K.imm H2) | (rw [hp]; exact Gx.go hG hI2 hK K.imm H2) | exact Gx.go hG hI2 hK K.imm H2⟩
     ·obtain rfl := gif_no hx14 hp; (try rw [hp]); obtain ⟨I2, hI2, H⟩ := Gx.ex hG; (try rw [hp] at H); exact Gx.go hG hI2 (Keep.refl _ _) (fun _ h => h) (Hf.sub (Hf.slNil (Hf.slNil (Hf.slNil (Hf.slNil (Hf.slNil (H.sub [(0, false), (0, true), (1, true), (2, true), (3, true), (4, true), (5, false), (5, true), (6, true), (7, true), (8, true), (9, true), (10, true), (11, true), (12, true), (13, true), (14, true), (15, true), (16, true), (17, true), (18, true), (19, true), (20, false), (20, true), (21, true), (22, true), (23, true), (24, true), (25, false), (25, true), (26, true), (27, true), (28, true), (29, true), (30, false), (30, false), (30, false), (30, false), (30, true), (31, true), (32, true), (33, true), (34, true), (35, true)] rfl) NEMember) NEOp) NEEntry) Nu64) NEPair) [(4, false), (3, false), (2, false), (1, false), (0, false), (0, false), (0, true), (1, true), (2, true), (3, true), (4, true), (5, false), (5, true), (6, true), (7, true), (8, true), (9, true), (10, true), (11, true), (12, true), (13, true), (14, true), (15, true), (16, true), (17, true), (18, true), (19, true), (20, false), (20, true), (21, true), (22, true), (23, true), (24, true), (25, false), (25, true), (26, true), (27, true), (28, true), (29, true), (30, false), (30, false), (30, false), (30, false), (30, true), (31, true), (32, true), (33, true), (34, true), (35, true)] rfl)
    refine .cons (fun ss hlo hhi vals1 xw hG hV => ?_) ?_
    ·obtain rfl | rfl : ss = 4 ∨ ss = 5 := st1 hlo hhi
     ·rw [← hfe]
      have hS := (hfr vals1).sub (ts := [117, 10]) rfl
      replace hS := hS.conv (t := 117) rfl (show (vals1 20) = vT (s0_3 && s0_6) from hV 20 (by decide))
      refine L_gw (p := (s0_3 && s0_6)) hS rfl rfl rfl (wantB_t _) (fun hp => ?_) (fun hp => ⟨by rw [hp]; rfl, hG⟩)
      obtain ⟨I2, hI2, H⟩ := Gx.ex hG
      exact L_val hS rfl (oA tSvWP rfl rfl ((H.bx 34 rfl).part 0 rfl)) ⟨(by rw [hp]; rfl), hG⟩
     ·rw [← hfe]
      have hS := (hfr vals1).sub (ts := [117, 10]) rfl
      replace hS := hS.conv (t := 117) rfl (show (vals1 20) = vT (s0_3 && s0_6) from hV 20 (by decide))
      refine L_gw (p := (s0_3 && s0_6)) hS rfl rfl rfl (wantB_t _) (fun hp => ?_) (fun hp => ⟨by rw [hp]; rfl, hG⟩)
      obtain ⟨I2, hI2, H⟩ := Gx.ex hG
      exact L_val hS rfl (oA tSvWP rfl rfl ((H.bx 39 rfl).part 0 rfl)) ⟨(by rw [hp]; rfl), hG⟩
    refine .cons (fun ss hlo hhi vals1 xw hG hV => ?_) ?_
    ·obtain rfl | rfl : ss = 4 ∨ ss = 5 := st1 hlo hhi
     all_goals
     ·rw [← hfe]
      have hS := (hfr vals1).sub (ts := [117, 5]) rfl
      replace hS := hS.conv (t := 117) rfl (show (vals1 20) = vT (s0_3 && s0_6) from hV 20 (by decide))
      refine L_gw (p := (s0_3 && s0_6)) hS rfl rfl rfl (wantB_t _) (fun hp => ?_) (fun hp => ⟨by rw [hp]; rfl, hG⟩)
      exact L_val hS rfl (Ob_c tSvWP rfl) ⟨(by rw [hp]; rfl), hG⟩
    refine .cons (fun ss hlo hhi vals1 xw hG hV => ?_) ?_
    ·obtain rfl | rfl : ss = 4 ∨ ss = 5 := st1 hlo hhi
     ·rw [← hfe]
      have hS := (hfr vals1).sub (ts := [125, 117]) rfl
      replace hS := hS.conv (t := 125) rfl (show (vals1 28) = cond (s0_3 && s0_6) (pp b2 2) undef from hV 28 (by decide))
      replace hS := hS.conv (t := 117) rfl (show (vals1 20) = vT (s0_3 && s0_6) from hV 20 (by decide))
      refine L_gw (p := (s0_3 && s0_6)) hS rfl rfl rfl (wantB_t _) (fun hp => ?_) (fun hp => ⟨by rw [hp]; rfl, hG⟩)
      replace hS := hS.conv (t := 125) rfl (cond_t hp)
      obtain ⟨I2, hI2, H⟩ := Gx.ex hG
      exact L_val hS rfl (oL tSvWP rfl rfl (H.bc 36 2 rfl rfl)) ⟨(by rw [hp]; rfl), hG⟩
     ·rw [← hfe]
      have hS := (hfr vals1).sub (ts := [125, 117]) rfl
      replace hS := hS.conv (t := 125) rfl (show (vals1 28) = cond (s0_3 && s0_6) (pp b2 2) undef from hV 28 (by decide))
      replace hS := hS.conv (t := 117) rfl (show (vals1 20) = vT (s0_3 && s0_6) from hV 20 (by decide))
      refine L_gw (p := (s0_3 && s0_6)) hS rfl rfl rfl (wantB_t _) (fun hp => ?_) (fun hp => ⟨by rw [hp]; rfl, hG⟩)
      replace hS := hS.conv (t := 125) rfl (cond_t hp)
      obtain ⟨I2, hI2, H⟩ := Gx.ex hG
      exact L_val hS rfl (oL tSvWP rfl rfl (H.bc 41 2 rfl rfl)) ⟨(by rw [hp]; rfl), hG⟩
    refine .cons (fun ss hlo hhi vals1 xw hG hV => ?_) ?_
    ·obtain rfl | rfl : ss = 4 ∨ ss = 5 := st1 hlo hhi
     all_goals
     ·rw [← hfe]
      have hS := (hfr vals1).sub (ts := [117, 5]) rfl
      replace hS := hS.conv (t := 117) rfl (show (vals1 20) = vT (s0_3 && s0_6) from hV 20 (by decide))
      refine L_gw (p := (s0_3 && s0_6)) hS rfl rfl rfl (wantB_t _) (fun hp => ?_) (fun hp => ⟨by rw [hp]; rfl, hG⟩)
      exact L_val hS rfl (Ob_c tSvWP rfl) ⟨(by rw [hp]; rfl), hG⟩
    refine .cons (fun ss hlo hhi vals1 xw hG hV => ?_) ?_
    ·obtain rfl | rfl : ss = 4 ∨ ss = 5 := st1 hlo hhi
     ·rw [← hfe]
      have hS := (hfr vals1).sub (ts := [127, 117]) rfl
      replace hS := hS.conv (t := 127) rfl (show (vals1 30) = cond (s0_3 && s0_6) (pp b2 10) undef from hV 30 (by decide))
      replace hS := hS.conv (t := 117) rfl (show (vals1 20) = vT (s0_3 && s0_6) from hV 20 (by decide))
      refine L_gw (p := (s0_3 && s0_6)) hS rfl rfl rfl (wantB_t _) (fun hp => ?_) (fun hp => ⟨by rw [hp]; rfl, hG⟩)
      replace hS := hS.conv (t := 127) rfl (cond_t hp)
      obtain ⟨I2, hI2, H⟩ := Gx.ex hG
      exact L_val hS rfl (oL tSvWP rfl rfl (H.bc 36 10 rfl rfl)) ⟨(by rw [hp]; rfl), hG⟩
     ·rw [← hfe]
      have hS := (hfr vals1).sub (ts := [127, 117]) rfl
      replace hS := hS.conv (t := 127) rfl (show (vals1 30) = cond (s0_3 && s0_6) (pp b2 10) undef from hV 30 (by decide))
      replace hS := hS.conv (t := 117) rfl (show (vals1 20) = vT (s0_3 && s0_6) from hV 20 (by decide))
      refine L_gw (p := (s0_3 && s0_6)) hS rfl rfl rfl (wantB_t _) (fun hp => ?_) (fun hp => ⟨by rw [hp]; rfl, hG⟩)
      replace hS := hS.conv (t := 127) rfl (cond_t hp)
      obtain ⟨I2, hI2, H⟩ := Gx.ex hG
      exact L_val hS rfl (oL tSvWP rfl rfl (H.bc 41 10 rfl rfl)) ⟨(by rw [hp]; rfl), hG⟩
    refine .cons (fun ss hlo hhi vals1 xw hG hV => ?_) ?_
    ·obtain rfl : ss = 5 := Nat.le_antisymm hhi hlo
     rw [← hfe]
     have hS := (hfr vals1).sub (ts := [124, 126, 128, 117]) rfl
     replace hS := hS.conv (t := 124) rfl (show (vals1 27) = cond (s0_3 && s0_6) (.agg #[vU w0.mark, vU w0.horizon, vI w0.epoch, vI w0.head]) undef from hV 27 (by decide))
     replace hS := hS.conv (t := 126) rfl (show (vals1 29) = cond (s0_3 && s0_6) (vI x.req) undef from hV 29 (by decide))
     replace hS := hS.conv (t := 128) rfl (show (vals1 31) = cond (s0_3 && s0_6) (vI x.e) undef from hV 31 (by decide))
     replace hS := hS.conv (t := 117) rfl (show (vals1 20) = vT (s0_3 && s0_6) from hV 20 (by decide))
     refine L_gw (p := (s0_3 && s0_6)) hS rfl rfl rfl (wantB_t _) (fun hp => ?_) (fun hp => ⟨by rw [hp]; rfl, ?_⟩)
     ·obtain ⟨I2, hI2, H⟩ := Gx.ex hG
      replace hS := hS.conv (t := 124) rfl (cond_t hp)
      replace hS := hS.conv (t := 126) rfl (cond_t hp)
      replace hS := hS.conv (t := 128) rfl (cond_t hp)
      refine L_hcall H (js := []) rfl (caps := #[]) hS fn_17_YSvWP rfl rfl rfl rfl rfl (fun D1 hS => have hq := c_ref31_No (gif_in hx15 hp) hS; hq) fun _ yw D1 hr hF2 => ?_
      obtain ⟨q0_, q1_, q2_, q3_, q4_, rfl, I3, K⟩ := hr
      obtain ⟨hK, H2⟩ := hF2 K
      exact ⟨by rw [hp]; rfl, by first | (rw [hp] at H2 ⊢; exact Gx.go hG hI2 hK K.imm H2) | (rw [hp]; exact Gx.go hG hI2 hK K.imm H2) | exact Gx.go hG hI2 hK K.imm H2⟩
     ·obtain rfl := gif_no hx15 hp; (try rw [hp]); obtain ⟨I2, hI2, H⟩ := Gx.ex hG; (try rw [hp] at H); exact Gx.go hG hI2 (Keep.refl _ _) (fun _ h => h) (Hf.sub (Hf.slNil (Hf.slNil (Hf.slNil (Hf.slNil (Hf.slNil (H.sub [(0, true), (1, true), (2, true), (3, true), (4, true), (5, false), (5, true), (6, true), (7, true), (8, true), (9, true), (10, false), (10, true), (11, true), (12, true), (13, true), (14, true), (15, true), (16, true), (17, true), (18, true), (19, true), (20, true), (21, true), (22, true), (23, true), (24, true), (25, false), (25, true), (26, true), (27, true), (28, true), (29, true), (30, false), (30, true), (31, true), (32, true), (33, true), (34, true), (35, false), (35, false), (35, false), (35, false), (35, true), (36, true), (37, true), (38, true), (39, true), (40, true)] rfl) NEMember) NEOp) NEEntry) Nu64) NEPair) [(4, false), (3, false), (2, false), (1, false), (0, false), (0, true), (1, true), (2, true), (3, true), (4, true), (5, false), (5, true), (6, true), (7, true), (8, true), (9, true), (10, false), (10, true), (11, true), (12, true), (13, true), (14, true), (15, true), (16, true), (17, true), (18, true), (19, true), (20, true), (21, true), (22, true), (23, true), (24, true), (25, false), (25, true), (26, true), (27, true), (28, true), (29, true), (30, false), (30, true), (31, true), (32, true), (33, true), (34, true), (35, false), (35, false), (35, false), (35, false), (35, true), (36, true), (37, true), (38, true), (39, true), (40, true)] rfl)
    refine .cons (fun ss hlo hhi vals1 xw hG hV => ?_) ?_
    ·obtain rfl : ss = 6 := Nat.le_antisymm hhi hlo
     rw [← hfe]
     have hS := (hfr vals1).sub (ts := [123, 129, 117]) rfl
     replace hS := hS.conv (t := 123) rfl (show (vals1 26) = cond (s0_3 && s0_6) (.agg (cEMsg n0 (aggSl (vals1 26) 14) (aggSl (vals1 26) 18) (aggSl (vals1 26) 19) (aggSl (vals1 26) 20) (aggSl (vals1 26) 21)).toArray) undef from hV 26 (by decide))
     replace hS := hS.conv (t := 129) rfl (show (vals1 32) = cond (s0_3 && s0_6) (.agg (cEMsg n0_2 (aggSl (vals1 32) 14) (aggSl (vals1 32) 18) (aggSl (vals1 32) 19) (aggSl (vals1 32) 20) (aggSl (vals1 32) 21)).toArray) undef from hV 32 (by decide))
     replace hS := hS.conv (t := 117) rfl (show (vals1 20) = vT (s0_3 && s0_6) from hV 20 (by decide))
     refine L_gw (p := (s0_3 && s0_6)) hS rfl rfl rfl (wantB_t _) (fun hp => ?_) (fun hp => ⟨by rw [hp]; rfl, hG⟩)
     replace hS := hS.conv (t := 123) rfl (cond_t hp)
     replace hS := hS.conv (t := 129) rfl (cond_t hp)
     obtain ⟨I2, hI2, H⟩ := Gx.ex hG
     refine L_call (caps := #[]) hS fn_11_YSvWP rfl rfl rfl rfl rfl ((have hq := c_ref09_Same (gif_in hx16 hp) ((H).pick0 (js := [(5, true), (6, true), (7, true), (8, true), (9, true), (0, true), (1, true), (2, true), (3, true), (4, true)]) rfl rfl); plainC hq)) fun r yw hr => ?_
     obtain ⟨rfl, hb⟩ := hr
     exact ⟨(by rw [hp]; rfl), Gx.blw hG hb⟩
    refine .cons (fun ss hlo hhi vals1 xw hG hV => ?_) ?_
    ·obtain rfl : ss = 6 := Nat.le_antisymm hhi hlo
     rw [← hfe]
     have hS := (hfr vals1).sub (ts := [117, 130]) rfl
     replace hS := hS.conv (t := 117) rfl (show (vals1 20) = vT (s0_3 && s0_6) from hV 20 (by decide))
     replace hS := hS.conv (t := 130) rfl (show (vals1 33) = cond (s0_3 && s0_6) (vT s0_7) undef from hV 33 (by decide))
     exact L_val hS rfl (Ob_pick rfl rfl rfl rfl (pick_and _ _)) ⟨rfl, hG⟩
    refine .cons (fun ss hlo hhi vals1 xw hG hV => ?_) ?_
    ·obtain rfl : ss = 6 := Nat.le_antisymm hhi hlo
     rw [← hfe]
     have hS := (hfr vals1).sub (ts := [131]) rfl
     replace hS := hS.conv (t := 131) rfl (show (vals1 34) = vT ((s0_3 && s0_6) && s0_7) from hV 34 (by decide))
     exact L_val hS rfl (Ob_c tSvWP rfl) ⟨rfl, hG⟩
    refine .cons (fun ss hlo hhi vals1 xw hG hV => ?_) ?_
    ·obtain rfl : ss = 6 := Nat.le_antisymm hhi hlo
     rw [← hfe]
     have hS := (hfr vals1).sub (ts := [132]) rfl
     replace hS := hS.conv (t := 132) rfl (show (vals1 35) = vT ((s0_3 && s0_6) && s0_7) from hV 35 (by decide))
     refine L_gw (p := ((s0_3 && s0_6) && s0_7)) hS rfl rfl rfl (wantB_t _) (fun hp => ?_) (fun hp => ⟨by rw [hp]; rfl, hG⟩)
     obtain ⟨I2, hI2, H⟩ := Gx.ex hG
     refine L_call (caps := #[]) hS fn_6_YSvWP rfl rfl rfl rfl rfl ((have hq := c_law31_awake (gif_in hx17 hp) ((H).pick0 (js := []) rfl rfl); plainC hq)) fun r yw hr => ?_
     obtain ⟨rfl, hb⟩ := hr
     exact ⟨(by rw [hp]; rfl), Gx.blw hG hb⟩
    refine .cons (fun ss hlo hhi vals1 xw hG hV => ?_) ?_
    ·obtain rfl : ss = 6 := Nat.le_antisymm hhi hlo
     rw [← hfe]
     have hS := (hfr vals1).sub (ts := [132, 133]) rfl
     replace hS := hS.conv (t := 132) rfl (show (vals1 35) = vT ((s0_3 && s0_6) && s0_7) from hV 35 (by decide))
     replace hS := hS.conv (t := 133) rfl (show (vals1 36) = cond ((s0_3 && s0_6) && s0_7) (vT a0_5) undef from hV 36 (by decide))
     exact L_val hS rfl (Ob_pick rfl rfl rfl rfl (pick_and _ _)) ⟨rfl, hG⟩
    refine .cons (fun ss hlo hhi vals1 xw hG hV => ?_) ?_
    ·obtain rfl : ss = 6 := Nat.le_antisymm hhi hlo
     rw [← hfe]
     have hS := (hfr vals1).sub (ts := [134]) rfl
     replace hS := hS.conv (t := 134) rfl (show (vals1 37) = vT (((s0_3 && s0_6) && s0_7) && a0_5) from hV 37 (by decide))
     exact L_val hS rfl (Ob_c tSvWP rfl) ⟨rfl, hG⟩
    exact .nil
   ·intro vals1 a w18 Z hG hV
    replace Z := Z.sub (ts := [6]) (S' := [(6, vals1 38)]) rfl
    replace Z := Z.conv (t := 6) rfl (show (vals1 38) = vT (((s0_3 && s0_6) && s0_7) && a0_5) from hV 38 (by decide))
    obtain ⟨I8, _, H⟩ := Gx.ex hG
    clear hG hV
    replace Z := Z.sub (ts := [6]) rfl
    replace H := H.nf rfl; try dsimp only at H
    refine p_then (wp_ret ?_)
    obtain rfl := some_in hF
    exact f_ret Z (run_results1 rfl Z rfl) ⟨rfl, I8, (H.sub [] rfl).eq rfl⟩

theorem awakeV : F_law31_awake = some true := by kernel_rfl

end Go.Proofs.Ytaknkbbjimielaa
