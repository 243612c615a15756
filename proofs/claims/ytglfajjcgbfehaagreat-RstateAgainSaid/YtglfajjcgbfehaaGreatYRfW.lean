/- What a replica knows: the laws' small parts. -/
import Derived.Test.YtglfajjcgbfehaaGreatYRf
namespace Go.Proofs.YtglfajjcgbfehaaGreat
open Go.RowKit
def tRfWL : TabL := ⟨[(31745, 1), (43010, 2), (45056, 0), (51203, 3), (51204, 6), (51205, 7)], [], [], [(22, (50, 18)), (28, (109, 2)), (39, (3, 1)), (40, (58, 3))], [(28, (1, false)), (39, (1, false)), (40, (1, false))]⟩

def tRfW : Tab Tryz.prog := ⟨tRfWL, by kernel_rfl⟩

theorem fn_7_YRfW : IsFn Tryz.prog 7 := ⟨_, Tryz.func7, by kernel_rfl, by kernel_rfl⟩

theorem fn_8_YRfW : IsFn Tryz.prog 8 := ⟨_, Tryz.func8, by kernel_rfl, by kernel_rfl⟩

theorem fn_14_YRfW : IsFn Tryz.prog 14 := ⟨_, Tryz.func14, by kernel_rfl, by kernel_rfl⟩

theorem fn_15_YRfW : IsFn Tryz.prog 15 := ⟨_, Tryz.func15, by kernel_rfl, by kernel_rfl⟩

theorem fn_16_YRfW : IsFn Tryz.prog 16 := ⟨_, Tryz.func16, by kernel_rfl, by kernel_rfl⟩

theorem fn_17_YRfW : IsFn Tryz.prog 17 := ⟨_, Tryz.func17, by kernel_rfl, by kernel_rfl⟩

def F_law28_Parts_l1 (l : List ENote) (rc : (Int × Int) → Option Int) (sg : Int × Int) : Option Int := match sg with | (n0, i) => if ((decide (i < (l.length : Int))) && (decide (i < 60))) = true then (chk ((0 : Int) ≤ i ∧ i < (l.length : Int)) (chk ((0 : Int) ≤ i ∧ i < (l.length : Int)) (chk ((0 : Int) ≤ i ∧ i < (l.length : Int)) (chk (inI (i + 1)) (rc ([((((l.getD (i).toNat default).conf).members).length : Int), (((l.getD (i).toNat default).legit).length : Int), (((((l.getD (i).toNat default).entry).batch).ops).length : Int)].foldl max n0, i + 1)))))) else (some n0)

def F_law28_Parts (l : List ENote) : Option Int := iter (F_law28_Parts_l1 l) FU (0, 0)

set_option maxHeartbeats 1000000 in
theorem c_law28_Parts {I D : Dm} {l : List ENote} {v1_l : Value} {w : World} {rr : Int} (hF : F_law28_Parts l = some rr) (H : St I D w [SlC NENote v1_l l]) :
  Calls Tryz.prog 5 #[v1_l] w (Ret fun vv w' => vv = vI rr ∧ ∃ I', Hf I D w I' w' []) := by
 replace H := H.hf
 unfold F_law28_Parts at hF
 refine f_enter 39 Tryz.func5 rfl rfl (Nat.le_of_ble_eq_true rfl) fun a Z => ?_
 replace Z := Z.sub (ts := [0]) rfl
 refine sR Z fun Z => ?_
 refine s_runk tRfW Z 1 rfl rfl fun a Z => ?_
 refine s_end Z [0] rfl fun Z => ?_
 refine pR Z fun Z => ?_
 refine s_runk tRfW Z 1 rfl rfl fun a Z => ?_
 refine s_end Z [0, 3] rfl fun Z => ?_
 refine p_then (wp_seq ?_)
 refine sR Z fun Z => ?_
 refine s_runk tRfW Z 1 rfl rfl fun a Z => ?_
 refine s_end Z [0, 3, 4] rfl fun Z => ?_
 refine p_then (wp_block ?_)
 refine f_iter hF (fun sg a' w' => match sg with | (n0, i) => Sl 39 [(0, v1_l), (3, vI n0), (4, vI i)] a' ∧ ∃ I2, Hf I D w I2 w' [SlC NENote v1_l l]) ⟨Z.sub (ts := [0, 3, 4]) rfl, ⟨I, (H.sub [(0, true)] rfl).eq rfl⟩⟩ ?_
 rintro rc ⟨n0, i⟩ a w1 ⟨Z, I1, H⟩ hF
 unfold F_law28_Parts_l1 at hF
 try dsimp only at hF
 refine wp_seq ?_
 refine sR Z fun Z => ?_
 refine s_runk tRfW Z 2 rfl rfl fun a Z => ?_
 refine sO Z (vI (ln l)) rfl (Ob_slen tRfW rfl rfl rfl (H.slshape 0 rfl)) fun a Z => ?_
 refine s_runk tRfW Z 2 rfl rfl fun a Z => ?_
 refine gO Z (vI i) rfl (wantB_t _) (.n 4 rfl .z) (fun hp => Ob_c tRfW rfl) fun a Z => ?_
 refine gO Z (vT (decide (i < 60))) rfl (wantB_t _) (.c 10 rfl id .z) (fun hp => Ob_c tRfW rfl) fun a Z => ?_
 refine sO Z (vT ((decide (i < (ln l))) && (decide (i < 60)))) rfl (Ob_pick rfl rfl rfl rfl (pick_and _ _)) fun a Z => ?_
 refine s_end Z [0, 3, 4, 12] rfl fun Z => ?_
 refine p_then ?_
 refine f_cond Z rfl (fun hc1 => ?_) (fun hc1 => ?_)
 ·replace hF := ite_t hc1 hF
  refine wp_skip ?_
  refine p_then (wp_seq ?_)
  refine wp_block ?_
  obtain ⟨hg1, hF⟩ := chk_in hF
  obtain ⟨_, ⟨u1, u2, u3, rfl, L1, L2, L3⟩, H⟩ := H.elG 0 rfl (i) (NENote.dft _ _)
  replace H := H.addsl L1
  replace H := H.addsl L2
  replace H := H.addsl L3
  replace H : Hf I D w I1 w1 [SlC NEOp u3 ((((gi l i).entry).batch).ops), SlC Ni64 u2 ((gi l i).legit), SlC NEMember u1 (((gi l i).conf).members), AtG ((0 : Int) ≤ i ∧ i < (ln l)) (blkOf v1_l) (oofOf v1_l + (i).toNat * 18) (cENote (gi l i) u1 u2 u3), SlC NENote v1_l l] := H
  obtain ⟨hg2, hF⟩ := chk_in hF
  obtain ⟨hg3, hF⟩ := chk_in hF
  refine f_quietd (by kernel_rfl) (by kernel_rfl) Z fun Z => ?_
  refine q_runk tRfW Z 3 rfl rfl fun a Z => ?_
  refine qO Z (.pointer (some ⟨blkOf v1_l, oofOf v1_l + (i).toNat * 18, none⟩)) rfl (fun _ hw => Ob_sidx tRfW rfl rfl rfl rfl (slPl ((H.blw hw).sl 4 rfl) hg1) hg1) fun a Z => ?_
  refine q_runk tRfW Z 2 rfl rfl fun a Z => ?_
  refine qO Z u1 rfl (fun _ hw => oL tRfW rfl rfl (((H.blw hw).atg 3 rfl hg1) 4 _ rfl)) fun a Z => ?_
  refine qO Z (vI ((((gi l i).conf).members).length : Int)) rfl (fun _ hw => Ob_slen tRfW rfl rfl rfl ((H.blw hw).slshape 2 rfl)) fun a Z => ?_
  refine q_runk tRfW Z 2 rfl rfl fun a Z => ?_
  refine qO Z (.pointer (some ⟨blkOf v1_l, oofOf v1_l + (i).toNat * 18, none⟩)) rfl (fun _ hw => Ob_sidx tRfW rfl rfl rfl rfl (slPl ((H.blw hw).sl 4 rfl) hg2) hg2) fun a Z => ?_
  refine q_runk tRfW Z 1 rfl rfl fun a Z => ?_
  refine qO Z u2 rfl (fun _ hw => oL tRfW rfl rfl (((H.blw hw).atg 3 rfl hg2) 6 _ rfl)) fun a Z => ?_
  refine qO Z (vI (((gi l i).legit).length : Int)) rfl (fun _ hw => Ob_slen tRfW rfl rfl rfl ((H.blw hw).slshape 1 rfl)) fun a Z => ?_
  refine q_runk tRfW Z 2 rfl rfl fun a Z => ?_
  refine qO Z (.pointer (some ⟨blkOf v1_l, oofOf v1_l + (i).toNat * 18, none⟩)) rfl (fun _ hw => Ob_sidx tRfW rfl rfl rfl rfl (slPl ((H.blw hw).sl 4 rfl) hg3) hg3) fun a Z => ?_
  refine q_runk tRfW Z 3 rfl rfl fun a Z => ?_
  refine qO Z u3 rfl (fun _ hw => oL tRfW rfl rfl (((H.blw hw).atg 3 rfl hg3) 9 _ rfl)) fun a Z => ?_
  refine qO Z (vI (((((gi l i).entry).batch).ops).length : Int)) rfl (fun _ hw => Ob_slen tRfW rfl rfl rfl ((H.blw hw).slshape 0 rfl)) fun a Z => ?_
  refine qO Z (vI ([((((gi l i).conf).members).length : Int), (((gi l i).legit).length : Int), (((((gi l i).entry).batch).ops).length : Int)].foldl max n0)) rfl (fun _ hw => Ob_maxN (n0) [((((gi l i).conf).members).length : Int), (((gi l i).legit).length : Int), (((((gi l i).entry).batch).ops).length : Int)] rfl rfl rfl) fun a Z => ?_
  refine q_runk tRfW Z 1 rfl rfl fun a Z => ?_
  refine q_end Z [0, 3, 4] rfl fun w2 hb Z => ?_
  replace H := H.blw hb
  clear hb
  refine p_blk ?_
  refine p_then ?_
  obtain ⟨hg4, hF⟩ := chk_in hF
  refine f_region Z fun Z => ?_
  refine s_runk tRfW Z 1 rfl rfl fun a Z => ?_
  refine sO Z (vI (i + 1)) rfl (Ob_add rfl rfl rfl (wrI hg4)) fun a Z => ?_
  refine s_runk tRfW Z 1 rfl rfl fun a Z => ?_
  refine s_end Z [0, 3, 4] rfl fun Z => ?_
  refine p_then ?_
  exact ⟨([((((gi l i).conf).members).length : Int), (((gi l i).legit).length : Int), (((((gi l i).entry).batch).ops).length : Int)].foldl max n0, i + 1), ⟨Z.sub (ts := [0, 3, 4]) rfl, ⟨I1, (H.sub [(4, true)] rfl).eq rfl⟩⟩, hF⟩
 ·replace hF := ite_f hc1 hF
  refine wp_exit ?_
  refine p_then_x ?_
  refine p_then_x ?_
  refine f_exit_here ?_
  refine pR Z fun Z => ?_
  refine s_runk tRfW Z 2 rfl rfl fun a Z => ?_
  refine s_end Z [2] rfl fun Z => ?_
  refine p_then (wp_ret ?_)
  obtain rfl := some_in hF
  exact f_ret Z (run_results1 rfl Z rfl) ⟨rfl, I1, (H.sub [] rfl).eq rfl⟩

def F_law30_awake : Option Bool := (F_rstate_New).bind fun n0 => ((F_rstate_State_Apply n0 ({ (default : ENote) with k := 2, entry := ({ batch := ({ client := 0, req := 1, ops := [({ key := ⟨#[97]⟩, val := ⟨#[49]⟩, del := false } : EOp)] } : EBatch), ts := 0 } : EEntry) } : ENote)).bind fun a0 => ((F_rstate_State_Apply a0.2 ({ (default : ENote) with k := 3, at_ := 5 } : ENote)).bind fun a0_2 => ((F_mvcc_New).bind fun n0_2 => ((F_rstate_State_Feed a0_2.2 n0_2 0 9).bind fun f => ((F_mvcc_Store_Get f.2.2 ⟨#[97]⟩ 5).bind fun g => ((gif ((a0.1 == 0) && (a0_2.1 == 0)) (F_rstate_State_Stamped f.2.1) default).bind fun s0 => ((gif ((((((a0.1 == 0) && (a0_2.1 == 0)) && (s0.1 == 1)) && (f.1 == 1)) && (seqB g.1 ⟨#[49]⟩)) && g.2.1) (F_rstate_State_Apply (cond ((a0.1 == 0) && (a0_2.1 == 0)) s0.2 f.2.1) ({ (default : ENote) with k := 5 } : ENote)) default).bind fun a0_3 => (some (((((((a0.1 == 0) && (a0_2.1 == 0)) && (s0.1 == 1)) && (f.1 == 1)) && (seqB g.1 ⟨#[49]⟩)) && g.2.1) && (a0_3.1 == 11))))))))))

set_option maxHeartbeats 1000000 in
theorem c_law30_awake {I D : Dm} {w : World} {rr : Bool} (hF : F_law30_awake = some rr) (H : St I D w []) :
  Calls Tryz.prog 6 #[] w (Ret fun vv w' => vv = vT rr ∧ ∃ I', Hf I D w I' w' []) := by
 replace H := H.hf
 unfold F_law30_awake at hF
 refine f_enter 56 Tryz.func6 rfl rfl (Nat.le_of_ble_eq_true rfl) fun a Z => ?_
 replace Z := Z.sub (ts := []) rfl
 refine sR Z fun Z => ?_
 refine s_runk tRfW Z 1 rfl rfl fun a Z => ?_
 refine s_end Z [] rfl fun Z => ?_
 refine p_then (wp_seq ?_)
 obtain ⟨n0, hx1, hF⟩ := bnd_in hF
 refine f_region Z fun Z => ?_
 refine hC Z H [] rfl #[] fn_7_YRfW rfl rfl (fun D h => have q := c_rstate_New hx1 h; q) fun vv a w1 D2 hr hF2 Z => ?_
 obtain ⟨g1, rfl, I1, K⟩ := hr
 have H := (hF2 K).nf rfl
 refine s_runk tRfW Z 1 rfl rfl fun a Z => ?_
 refine s_end Z [1] rfl fun Z => ?_
 refine p_then (wp_seq ?_)
 obtain ⟨a0, hx2, hF⟩ := bnd_in hF
 refine f_region Z fun Z => ?_
 refine s_runk tRfW Z 1 rfl rfl fun a Z => ?_
 refine sO Z (.agg #[vS ⟨#[97]⟩, vS ⟨#[49]⟩, vT false]) rfl (Ob_build (vs := [(0, vS ⟨#[97]⟩), (1, vS ⟨#[49]⟩)]) rfl rfl (by go_simp <;> rfl)) fun a Z => ?_
 refine h_bslice Z H (vs := [(0, .agg #[vS ⟨#[97]⟩, vS ⟨#[49]⟩, vT false])]) (cl := [vS ⟨#[97]⟩, vS ⟨#[49]⟩, vT false]) (e := 58) rfl rfl rfl (by decide) rfl rfl (fun w => run_bslice (z := .agg #[vS ByteArray.empty, vS ByteArray.empty, vT false]) (m := 3) Tryz.underlying40 (by kernel_rfl) rfl rfl (by decide) (by simp [Instr.fill, Value.cells]) w) fun a w2 b1 H Z => ?_
 refine sO Z (.agg #[vI 0, vI 1, .slice (some ⟨b1, 0, none⟩) 1 1]) rfl (Ob_build (vs := [(1, vI 1), (2, .slice (some ⟨b1, 0, none⟩) 1 1)]) rfl rfl (by go_simp <;> rfl)) fun a Z => ?_
 refine sO Z (.agg #[vI 0, vI 1, .slice (some ⟨b1, 0, none⟩) 1 1, vU 0]) rfl (Ob_build (vs := [(0, .agg #[vI 0, vI 1, .slice (some ⟨b1, 0, none⟩) 1 1])]) rfl rfl (by go_simp <;> rfl)) fun a Z => ?_
 refine sO Z (.agg #[vI 2, vI 0, vU 0, vI 0, nS, vU 0, nS, vI 0, vI 1, .slice (some ⟨b1, 0, none⟩) 1 1, vU 0, vI 0, vU 0, vI 0, vI 0, vI 0, vI 0, vI 0]) rfl (Ob_build (vs := [(0, vI 2), (5, .agg #[vI 0, vI 1, .slice (some ⟨b1, 0, none⟩) 1 1, vU 0])]) rfl rfl (by go_simp <;> rfl)) fun a Z => ?_
 replace H := H.slNil NEMember
 replace H := H.slNil Ni64
 obtain ⟨I2, _, H⟩ := H.frzlit 2 rfl (R := NEOp) [[vS ⟨#[97]⟩, vS ⟨#[49]⟩, vT false]] [({ key := ⟨#[97]⟩, val := ⟨#[49]⟩, del := false } : EOp)] rfl rfl (fun i h1 h2 => by match i, h1, h2 with | 0, _, _ => exact ⟨rfl, trivial⟩) (show 1 ≤ maxLen from by decide) (n := 1) rfl
 replace H := H.nf rfl; try dsimp only at H
 refine hC Z H [(3, false), (2, true), (1, true), (0, true)] rfl #[] fn_8_YRfW rfl rfl (fun D h => have q := c_rstate_State_Apply hx2 h; q) fun vv a w3 D2 hr hF2 Z => ?_
 obtain ⟨rfl, I3, K⟩ := hr
 have H := (hF2 K).nf rfl
 refine s_runk tRfW Z 1 rfl rfl fun a Z => ?_
 refine s_end Z [1, 2] rfl fun Z => ?_
 refine p_then (wp_seq ?_)
 obtain ⟨a0_2, hx3, hF⟩ := bnd_in hF
 refine f_region Z fun Z => ?_
 refine s_runk tRfW Z 1 rfl rfl fun a Z => ?_
 refine sO Z (.agg #[vI 3, vI 0, vU 5, vI 0, nS, vU 0, nS, vI 0, vI 0, nS, vU 0, vI 0, vU 0, vI 0, vI 0, vI 0, vI 0, vI 0]) rfl (Ob_build (vs := [(0, vI 3), (2, vU 5)]) rfl rfl (by go_simp <;> rfl)) fun a Z => ?_
 replace H := H.slNil NEMember
 replace H := H.slNil Ni64
 replace H := H.slNil NEOp
 refine hC Z H [(3, false), (2, true), (1, true), (0, true)] rfl #[] fn_8_YRfW rfl rfl (fun D h => have q := c_rstate_State_Apply hx3 h; q) fun vv a w4 D2 hr hF2 Z => ?_
 obtain ⟨rfl, I4, K⟩ := hr
 have H := (hF2 K).nf rfl
 refine s_runk tRfW Z 1 rfl rfl fun a Z => ?_
 refine s_end Z [1, 2, 3] rfl fun Z => ?_
 refine p_then (wp_seq ?_)
 obtain ⟨n0_2, hx4, hF⟩ := bnd_in hF
 refine f_region Z fun Z => ?_
 refine hC Z H [] rfl #[] fn_14_YRfW rfl rfl (fun D h => have q := c_mvcc_New hx4 h; q) fun vv a w5 D2 hr hF2 Z => ?_
 obtain ⟨g2, rfl, I5, K⟩ := hr
 have H := (hF2 K).nf rfl
 refine s_runk tRfW Z 1 rfl rfl fun a Z => ?_
 refine s_end Z [1, 2, 3, 4] rfl fun Z => ?_
 refine p_then (wp_seq ?_)
 obtain ⟨f, hx5, hF⟩ := bnd_in hF
 refine f_region Z fun Z => ?_
 refine s_runk tRfW Z 2 rfl rfl fun a Z => ?_
 refine hC Z H [(1, false), (0, false)] rfl #[] fn_15_YRfW rfl rfl (fun D h => have q := c_rstate_State_Feed hx5 h; q) fun vv a w6 D2 hr hF2 Z => ?_
 obtain ⟨rfl, I6, K⟩ := hr
 have H := (hF2 K).nf rfl
 refine s_runk tRfW Z 1 rfl rfl fun a Z => ?_
 refine s_end Z [1, 2, 3, 4, 5] rfl fun Z => ?_
 refine p_then (wp_seq ?_)
 obtain ⟨g, hx6, hF⟩ := bnd_in hF
 refine f_region Z fun Z => ?_
 refine s_runk tRfW Z 1 rfl rfl fun a Z => ?_
 refine hC Z H [(1, false)] rfl #[] fn_16_YRfW rfl rfl (fun D h => have q := c_mvcc_Store_Get hx6 h; q) fun vv a w7 D2 hr hF2 Z => ?_
 obtain ⟨rfl, I7, K⟩ := hr
 have H := (hF2 K).nf rfl
 refine s_runk tRfW Z 5 rfl rfl fun a Z => ?_
 refine s_end Z [1, 2, 3, 5, 6, 7] rfl fun Z => ?_
 refine p_then (wp_seq ?_)
 obtain ⟨s0, hx7, hF⟩ := bnd_in hF
 obtain ⟨a0_3, hx8, hF⟩ := bnd_in hF
 refine f_region Z fun Z => ?_
 refine s_runk tRfW Z 3 rfl rfl fun a Z => ?_
 refine gO Z (vI a0_2.1) rfl (wantB_t _) (.n 3 rfl .z) (fun hp => Ob_c tRfW rfl) fun a Z => ?_
 refine gO Z (vT (a0_2.1 == 0)) rfl (wantB_t _) (.c 31 rfl id .z) (fun hp => Ob_c tRfW rfl) fun a Z => ?_
 refine sO Z (vT ((a0.1 == 0) && (a0_2.1 == 0))) rfl (Ob_pick rfl rfl rfl rfl (pick_and _ _)) fun a Z => ?_
 refine s_runk tRfW Z 1 rfl rfl fun a Z => ?_
 refine gO Z (pp g1 0) rfl (wantB_t _) (.n 1 rfl .z) (fun hp => Ob_c tRfW rfl) fun a Z => ?_
 refine h_gcall Z H (js := [(1, false)]) rfl (p := ((a0.1 == 0) && (a0_2.1 == 0))) (v := vI s0.1) (S' := [(35, pp g1 0)]) (caps := #[]) (fun qq => [OErstate_State g1 (cond qq s0.2 f.2.1)]) fn_17_YRfW rfl rfl rfl (wantB_t _) rfl (by decide) (fun hp hS => (hS.conv (t := 35) rfl (cond_t hp)).sub (ts := [35]) rfl) rfl rfl rfl rfl (fun hp D1 hS => have hq := c_rstate_State_Stamped (gif_in hx7 hp) hS; hq) (fun hp => H.sub [(1, false), (0, false), (0, true), (1, true), (2, true), (3, true), (4, true), (5, true)] rfl) fun a w8 I8 H Z => ?_
 replace H := H.nf rfl; try dsimp only at H
 refine gO Z (vT (s0.1 == 1)) rfl (wantB_t _) (.c 36 rfl id .z) (fun hp => Ob_c tRfW rfl) fun a Z => ?_
 refine sO Z (vT (((a0.1 == 0) && (a0_2.1 == 0)) && (s0.1 == 1))) rfl (Ob_pick rfl rfl rfl rfl (pick_and _ _)) fun a Z => ?_
 refine s_runk tRfW Z 1 rfl rfl fun a Z => ?_
 refine gO Z (vI f.1) rfl (wantB_t _) (.n 5 rfl .z) (fun hp => Ob_c tRfW rfl) fun a Z => ?_
 refine gO Z (vT (f.1 == 1)) rfl (wantB_t _) (.c 40 rfl id .z) (fun hp => Ob_c tRfW rfl) fun a Z => ?_
 refine sO Z (vT ((((a0.1 == 0) && (a0_2.1 == 0)) && (s0.1 == 1)) && (f.1 == 1))) rfl (Ob_pick rfl rfl rfl rfl (pick_and _ _)) fun a Z => ?_
 refine s_runk tRfW Z 1 rfl rfl fun a Z => ?_
 refine gO Z (vS g.1) rfl (wantB_t _) (.n 6 rfl .z) (fun hp => Ob_c tRfW rfl) fun a Z => ?_
 refine gO Z (vT (seqB g.1 ⟨#[49]⟩)) rfl (wantB_t _) (.c 44 rfl id .z) (fun hp => Ob_c tRfW rfl) fun a Z => ?_
 refine sO Z (vT (((((a0.1 == 0) && (a0_2.1 == 0)) && (s0.1 == 1)) && (f.1 == 1)) && (seqB g.1 ⟨#[49]⟩))) rfl (Ob_pick rfl rfl rfl rfl (pick_and _ _)) fun a Z => ?_
 refine s_runk tRfW Z 1 rfl rfl fun a Z => ?_
 refine gO Z (vT g.2.1) rfl (wantB_t _) (.n 7 rfl .z) (fun hp => Ob_c tRfW rfl) fun a Z => ?_
 refine sO Z (vT ((((((a0.1 == 0) && (a0_2.1 == 0)) && (s0.1 == 1)) && (f.1 == 1)) && (seqB g.1 ⟨#[49]⟩)) && g.2.1)) rfl (Ob_pick rfl rfl rfl rfl (pick_and _ _)) fun a Z => ?_
 refine s_runk tRfW Z 1 rfl rfl fun a Z => ?_
 refine gO Z (pp g1 0) rfl (wantB_t _) (.n 1 rfl .z) (fun hp => Ob_c tRfW rfl) fun a Z => ?_
 refine gO Z (.agg #[vI 5, vI 0, vU 0, vI 0, nS, vU 0, nS, vI 0, vI 0, nS, vU 0, vI 0, vU 0, vI 0, vI 0, vI 0, vI 0, vI 0]) rfl (wantB_t _) (.z) (fun hp => Ob_build (vs := [(0, vI 5)]) rfl rfl (by go_simp <;> rfl)) fun a Z => ?_
 replace H := H.slNil NEMember
 replace H := H.slNil Ni64
 replace H := H.slNil NEOp
 refine h_gcall Z H (js := [(3, false), (2, true), (1, true), (0, true)]) rfl (p := ((((((a0.1 == 0) && (a0_2.1 == 0)) && (s0.1 == 1)) && (f.1 == 1)) && (seqB g.1 ⟨#[49]⟩)) && g.2.1)) (v := vI a0_3.1) (S' := [(51, pp g1 0), (52, .agg #[vI 5, vI 0, vU 0, vI 0, nS, vU 0, nS, vI 0, vI 0, nS, vU 0, vI 0, vU 0, vI 0, vI 0, vI 0, vI 0, vI 0])]) (caps := #[]) (fun qq => [OErstate_State g1 (cond qq a0_3.2 (cond ((a0.1 == 0) && (a0_2.1 == 0)) s0.2 f.2.1))]) fn_8_YRfW rfl rfl rfl (wantB_t _) rfl (by decide) (fun hp hS => ((hS.conv (t := 51) rfl (cond_t hp)).conv (t := 52) rfl (cond_t hp)).sub (ts := [51, 52]) rfl) rfl rfl rfl rfl (fun hp D1 hS => have hq := c_rstate_State_Apply (gif_in hx8 hp) hS; hq) (fun hp => H.sub [(3, false), (0, true), (1, true), (2, true), (3, false), (3, true), (4, true), (5, true), (6, true), (7, true), (8, true)] rfl) fun a w9 I9 H Z => ?_
 replace H := H.nf rfl; try dsimp only at H
 refine gO Z (vT (a0_3.1 == 11)) rfl (wantB_t _) (.c 53 rfl id .z) (fun hp => Ob_c tRfW rfl) fun a Z => ?_
 refine sO Z (vT (((((((a0.1 == 0) && (a0_2.1 == 0)) && (s0.1 == 1)) && (f.1 == 1)) && (seqB g.1 ⟨#[49]⟩)) && g.2.1) && (a0_3.1 == 11))) rfl (Ob_pick rfl rfl rfl rfl (pick_and _ _)) fun a Z => ?_
 refine s_runk tRfW Z 1 rfl rfl fun a Z => ?_
 refine s_end Z [0] rfl fun Z => ?_
 refine p_then (wp_ret ?_)
 obtain rfl := some_in hF
 exact f_ret Z (run_results1 rfl Z rfl) ⟨rfl, I9, (H.sub [] rfl).eq rfl⟩

end Go.Proofs.YtglfajjcgbfehaaGreat
