/- What a replica knows: the law RstateZero walked. -/
import Derived.Test.YtglfajjcgbfehaaYRs
namespace Go.Proofs.Ytglfajjcgbfehaa
open Go.RowKit
def tRsWZL : TabL := ⟨[(31744, 0), (31745, 1), (38914, 2), (40960, 0), (47104, 0), (47105, 1), (47106, 2), (47107, 3), (47108, 6), (47109, 7)], [], [], [(22, (46, 18)), (29, (115, 2)), (35, (3, 1)), (36, (74, 3)), (48, (40, 4))], [(3, (1, false)), (22, (1, false)), (27, (1, false)), (29, (1, false)), (31, (3, true)), (35, (1, false)), (36, (1, false)), (46, (18, true)), (68, (5, true))]⟩

def tRsWZ : Tab Try.prog := ⟨tRsWZL, by kernel_rfl⟩

theorem fn_6_YRsWZ : IsFn Try.prog 6 := ⟨_, Try.func6, by kernel_rfl, by kernel_rfl⟩

theorem fn_7_YRsWZ : IsFn Try.prog 7 := ⟨_, Try.func7, by kernel_rfl, by kernel_rfl⟩

theorem fn_8_YRsWZ : IsFn Try.prog 8 := ⟨_, Try.func8, by kernel_rfl, by kernel_rfl⟩

theorem fn_9_YRsWZ : IsFn Try.prog 9 := ⟨_, Try.func9, by kernel_rfl, by kernel_rfl⟩

theorem fn_10_YRsWZ : IsFn Try.prog 10 := ⟨_, Try.func10, by kernel_rfl, by kernel_rfl⟩

theorem fn_11_YRsWZ : IsFn Try.prog 11 := ⟨_, Try.func11, by kernel_rfl, by kernel_rfl⟩

theorem fn_13_YRsWZ : IsFn Try.prog 13 := ⟨_, Try.func13, by kernel_rfl, by kernel_rfl⟩

theorem fn_14_YRsWZ : IsFn Try.prog 14 := ⟨_, Try.func14, by kernel_rfl, by kernel_rfl⟩

theorem fn_15_YRsWZ : IsFn Try.prog 15 := ⟨_, Try.func15, by kernel_rfl, by kernel_rfl⟩

theorem fn_19_YRsWZ : IsFn Try.prog 19 := ⟨_, Try.func19, by kernel_rfl, by kernel_rfl⟩

theorem fn_24_YRsWZ : IsFn Try.prog 24 := ⟨_, Try.func24, by kernel_rfl, by kernel_rfl⟩

theorem fn_25_YRsWZ : IsFn Try.prog 25 := ⟨_, Try.func25, by kernel_rfl, by kernel_rfl⟩

theorem fn_26_YRsWZ : IsFn Try.prog 26 := ⟨_, Try.func26, by kernel_rfl, by kernel_rfl⟩

theorem fn_27_YRsWZ : IsFn Try.prog 27 := ⟨_, Try.func27, by kernel_rfl, by kernel_rfl⟩

theorem fn_28_YRsWZ : IsFn Try.prog 28 := ⟨_, Try.func28, by kernel_rfl, by kernel_rfl⟩

theorem fn_30_YRsWZ : IsFn Try.prog 30 := ⟨_, Try.func30, by kernel_rfl, by kernel_rfl⟩

theorem fn_32_YRsWZ : IsFn Try.prog 32 := ⟨_, Try.func32, by kernel_rfl, by kernel_rfl⟩

def F_rstate_State_Feed_nil1_l1 (s0 : Erstate_State) (from_ : Int) (to_ : Int) (rc : Unit → Option (Int × Erstate_State)) (sg : Unit) : Option (Int × Erstate_State) := match sg with | _ => (F_rstate_State_Stamped s0).bind fun s0_2 => (if (decide (max from_ 0 < min to_ s0_2.1)) = true then (none) else (some (max from_ (max from_ 0), s0_2.2)))

def F_rstate_State_Feed_nil1 (s0 : Erstate_State) (from_ : Int) (to_ : Int) : Option (Int × Erstate_State) := (F_rstate_State_none s0).bind fun n0 => (if (n0) = true then (some (0, s0)) else (iter (F_rstate_State_Feed_nil1_l1 s0 from_ to_) FU ()))

set_option maxHeartbeats 1000000 in
theorem c_rstate_State_Feed_nil1 {I D : Dm} {b_s0 : Nat} {s0 : Erstate_State} {from_ : Int} {to_ : Int} {w : World} {rr : Int × Erstate_State} (hF : F_rstate_State_Feed_nil1 s0 from_ to_ = some rr) (H : St I D w [OErstate_State b_s0 s0]) :
  Calls Try.prog 15 #[pp b_s0 0, nP, vI from_, vI to_] w (Ret fun vv w' => vv = vI rr.1 ∧ ∃ I', Hf I D w I' w' [OErstate_State b_s0 rr.2]) := by
 replace H := H.hf
 unfold F_rstate_State_Feed_nil1 at hF
 refine f_enter 43 Try.func15 rfl rfl (Nat.le_of_ble_eq_true rfl) fun a Z => ?_
 replace Z := Z.sub (ts := [0, 1, 2, 3]) rfl
 refine wp_seq (f_region Z ?_); clear Z; intro Z
 refine s_runk tRsWZ Z 1 rfl rfl fun a Z => ?_
 refine s_end Z [0, 1, 2, 3] rfl fun Z => ?_
 refine p_then (wp_seq ?_)
 refine wp_seq ?_
 obtain ⟨n0, hx1, hF⟩ := bnd_in hF
 refine f_region Z fun Z => ?_
 refine s_runk tRsWZ Z 1 rfl rfl fun a Z => ?_
 refine hC Z H [(0, false)] rfl #[] fn_30_YRsWZ rfl rfl (fun D h => have q := c_rstate_State_none hx1 h; q) fun vv a w1 D2 hr hF2 Z => ?_
 obtain ⟨rfl, I1, K⟩ := hr
 have H := (hF2 K).nf rfl
 refine s_end Z [0, 1, 2, 3, 13] rfl fun Z => ?_
 refine p_then ?_
 refine f_cond Z rfl (fun hc1 => ?_) (fun hc1 => ?_)
 ·replace hF := ite_t hc1 hF
  refine wp_seq (f_region Z ?_); clear Z; intro Z
  refine s_runk tRsWZ Z 1 rfl rfl fun a Z => ?_
  refine s_end Z [8] rfl fun Z => ?_
  refine p_then (wp_ret ?_)
  refine p_then_r ?_
  obtain rfl := some_in hF
  exact f_ret Z (run_results1 rfl Z rfl) ⟨rfl, I1, (H.sub [(0, false)] rfl).eq rfl⟩
 ·replace hF := ite_f hc1 hF
  refine wp_skip ?_
  refine p_then (wp_seq (f_region Z ?_)); clear Z; intro Z
  refine s_runk tRsWZ Z 3 rfl rfl fun a Z => ?_
  refine s_end Z [0, 1, 2, 3, 9] rfl fun Z => ?_
  refine p_then (wp_seq ?_)
  refine wp_block ?_
  refine f_iter hF (fun sg a' w' => match sg with | _ => Sl 43 [(0, pp b_s0 0), (1, nP), (2, vI from_), (3, vI to_), (9, vI (max from_ 0))] a' ∧ ∃ I2, Hf I D w I2 w' [OErstate_State b_s0 s0]) ⟨Z.sub (ts := [0, 1, 2, 3, 9]) rfl, ⟨I1, (H.sub [(0, false)] rfl).eq rfl⟩⟩ ?_
  rintro rc _ a w2 ⟨Z, I2, H⟩ hF
  unfold F_rstate_State_Feed_nil1_l1 at hF
  try dsimp only at hF
  refine wp_seq ?_
  refine wp_seq ?_
  obtain ⟨s0_2, hx2, hF⟩ := bnd_in hF
  refine f_region Z fun Z => ?_
  refine s_runk tRsWZ Z 3 rfl rfl fun a Z => ?_
  refine hC Z H [(0, false)] rfl #[] fn_19_YRsWZ rfl rfl (fun D h => have q := c_rstate_State_Stamped hx2 h; q) fun vv a w3 D2 hr hF2 Z => ?_
  obtain ⟨rfl, I3, K⟩ := hr
  have H := (hF2 K).nf rfl
  refine s_runk tRsWZ Z 2 rfl rfl fun a Z => ?_
  refine s_end Z [0, 1, 2, 3, 9, 21] rfl fun Z => ?_
  refine p_then ?_
  refine f_cond Z rfl (fun hc2 => ?_) (fun hc2 => ?_)
  ·replace hF := ite_t hc2 hF
   refine wp_skip ?_
   refine p_then (wp_seq ?_)
   refine wp_block ?_
   refine wp_seq ?_
   cases hF
  ·replace hF := ite_f hc2 hF
   refine wp_exit ?_
   refine p_then_x ?_
   refine p_then_x ?_
   refine f_exit_here ?_
   refine p_then (wp_seq (f_region Z ?_)); clear Z; intro Z
   refine s_runk tRsWZ Z 4 rfl rfl fun a Z => ?_
   refine s_end Z [8] rfl fun Z => ?_
   refine p_then (wp_ret ?_)
   obtain rfl := some_in hF
   exact f_ret Z (run_results1 rfl Z rfl) ⟨rfl, I3, (H.sub [(0, false)] rfl).eq rfl⟩

def F_law28_Parts_l1 (l : List ENote) (rc : (Int × Int) → Option Int) (sg : Int × Int) : Option Int := match sg with | (n0, i) => if ((decide (i < (l.length : Int))) && (decide (i < 60))) = true then (chk ((0 : Int) ≤ i ∧ i < (l.length : Int)) (chk ((0 : Int) ≤ i ∧ i < (l.length : Int)) (chk ((0 : Int) ≤ i ∧ i < (l.length : Int)) (chk (inI (i + 1)) (rc ([((((l.getD (i).toNat default).conf).members).length : Int), (((l.getD (i).toNat default).legit).length : Int), (((((l.getD (i).toNat default).entry).batch).ops).length : Int)].foldl max n0, i + 1)))))) else (some n0)

def F_law28_Parts (l : List ENote) : Option Int := iter (F_law28_Parts_l1 l) FU (0, 0)

set_option maxHeartbeats 1000000 in
theorem c_law28_Parts {I D : Dm} {l : List ENote} {v1_l : Value} {w : World} {rr : Int} (hF : F_law28_Parts l = some rr) (H : St I D w [SlC NENote v1_l l]) :
  Calls Try.prog 6 #[v1_l] w (Ret fun vv w' => vv = vI rr ∧ ∃ I', Hf I D w I' w' []) := by
 replace H := H.hf
 unfold F_law28_Parts at hF
 refine f_enter 39 Try.func6 rfl rfl (Nat.le_of_ble_eq_true rfl) fun a Z => ?_
 replace Z := Z.sub (ts := [0]) rfl
 refine wp_seq (f_region Z ?_); clear Z; intro Z
 refine s_runk tRsWZ Z 1 rfl rfl fun a Z => ?_
 refine s_end Z [0] rfl fun Z => ?_
 refine p_then (wp_seq (f_region Z ?_)); clear Z; intro Z
 refine s_runk tRsWZ Z 1 rfl rfl fun a Z => ?_
 refine s_end Z [0, 3] rfl fun Z => ?_
 refine p_then (wp_seq ?_)
 refine wp_seq (f_region Z ?_); clear Z; intro Z
 refine s_runk tRsWZ Z 1 rfl rfl fun a Z => ?_
 refine s_end Z [0, 3, 4] rfl fun Z => ?_
 refine p_then (wp_block ?_)
 refine f_iter hF (fun sg a' w' => match sg with | (n0, i) => Sl 39 [(0, v1_l), (3, vI n0), (4, vI i)] a' ∧ ∃ I2, Hf I D w I2 w' [SlC NENote v1_l l]) ⟨Z.sub (ts := [0, 3, 4]) rfl, ⟨I, (H.sub [(0, true)] rfl).eq rfl⟩⟩ ?_
 rintro rc ⟨n0, i⟩ a w1 ⟨Z, I1, H⟩ hF
 unfold F_law28_Parts_l1 at hF
 try dsimp only at hF
 refine wp_seq ?_
 refine wp_seq (f_region Z ?_); clear Z; intro Z
 refine s_runk tRsWZ Z 2 rfl rfl fun a Z => ?_
 refine sO Z (vI (ln l)) rfl (Ob_slen tRsWZ rfl rfl rfl (H.slshape 0 rfl)) fun a Z => ?_
 refine s_runk tRsWZ Z 2 rfl rfl fun a Z => ?_
 refine gO Z (vI i) rfl (wantB_t _) (.n 4 rfl .z) (fun hp => Ob_c tRsWZ rfl) fun a Z => ?_
 refine gO Z (vT (decide (i < 60))) rfl (wantB_t _) (.c 10 rfl id .z) (fun hp => Ob_c tRsWZ rfl) fun a Z => ?_
 refine sO Z (vT ((decide (i < (ln l))) && (decide (i < 60)))) rfl (Ob_pick rfl rfl rfl rfl (pick_and _ _)) fun a Z => ?_
 refine s_end Z [0, 3, 4, 12] rfl fun Z => ?_
 refine p_then ?_
 refine f_cond Z rfl (fun hc1 => ?_) (fun hc1 => ?_)
 ·replace hF := ite_t hc1 hF
  refine wp_skip ?_
  refine p_then (wp_seq ?_)
  refine wp_block ?_
  obtain ⟨hg1, hF⟩ := chk_in hF
  obtain ⟨_, ⟨u1, u2, u3, rfl, L1, L2, L3⟩, H⟩ := H.elG 0 rfl (i) (NENote.dft _ _)
  replace H := H.addsl L1
  replace H := H.addsl L2
  replace H := H.addsl L3
  replace H : Hf I D w I1 w1 [SlC NEOp u3 ((((gi l i).entry).batch).ops), SlC Ni64 u2 ((gi l i).legit), SlC NEMember u1 (((gi l i).conf).members), AtG ((0 : Int) ≤ i ∧ i < (ln l)) (blkOf v1_l) (oofOf v1_l + (i).toNat * 18) (cENote (gi l i) u1 u2 u3), SlC NENote v1_l l] := H
  obtain ⟨hg2, hF⟩ := chk_in hF
  obtain ⟨hg3, hF⟩ := chk_in hF
  refine f_quietd (by kernel_rfl) (by kernel_rfl) Z fun Z => ?_
  refine q_runk tRsWZ Z 3 rfl rfl fun a Z => ?_
  refine qO Z (.pointer (some ⟨blkOf v1_l, oofOf v1_l + (i).toNat * 18, none⟩)) rfl (fun _ hw => Ob_sidx tRsWZ rfl rfl rfl rfl (slPl ((H.blw hw).sl 4 rfl) hg1) hg1) fun a Z => ?_
  refine q_runk tRsWZ Z 2 rfl rfl fun a Z => ?_
  refine qO Z u1 rfl (fun _ hw => oL tRsWZ rfl rfl (((H.blw hw).atg 3 rfl hg1) 4 _ rfl)) fun a Z => ?_
  refine qO Z (vI ((((gi l i).conf).members).length : Int)) rfl (fun _ hw => Ob_slen tRsWZ rfl rfl rfl ((H.blw hw).slshape 2 rfl)) fun a Z => ?_
  refine q_runk tRsWZ Z 2 rfl rfl fun a Z => ?_
  refine qO Z (.pointer (some ⟨blkOf v1_l, oofOf v1_l + (i).toNat * 18, none⟩)) rfl (fun _ hw => Ob_sidx tRsWZ rfl rfl rfl rfl (slPl ((H.blw hw).sl 4 rfl) hg2) hg2) fun a Z => ?_
  refine q_runk tRsWZ Z 1 rfl rfl fun a Z => ?_
  refine qO Z u2 rfl (fun _ hw => oL tRsWZ rfl rfl (((H.blw hw).atg 3 rfl hg2) 6 _ rfl)) fun a Z => ?_
  refine qO Z (vI (((gi l i).legit).length : Int)) rfl (fun _ hw => Ob_slen tRsWZ rfl rfl rfl ((H.blw hw).slshape 1 rfl)) fun a Z => ?_
  refine q_runk tRsWZ Z 2 rfl rfl fun a Z => ?_
  refine qO Z (.pointer (some ⟨blkOf v1_l, oofOf v1_l + (i).toNat * 18, none⟩)) rfl (fun _ hw => Ob_sidx tRsWZ rfl rfl rfl rfl (slPl ((H.blw hw).sl 4 rfl) hg3) hg3) fun a Z => ?_
  refine q_runk tRsWZ Z 3 rfl rfl fun a Z => ?_
  refine qO Z u3 rfl (fun _ hw => oL tRsWZ rfl rfl (((H.blw hw).atg 3 rfl hg3) 9 _ rfl)) fun a Z => ?_
  refine qO Z (vI (((((gi l i).entry).batch).ops).length : Int)) rfl (fun _ hw => Ob_slen tRsWZ rfl rfl rfl ((H.blw hw).slshape 0 rfl)) fun a Z => ?_
  refine qO Z (vI ([((((gi l i).conf).members).length : Int), (((gi l i).legit).length : Int), (((((gi l i).entry).batch).ops).length : Int)].foldl max n0)) rfl (fun _ hw => Ob_maxN (n0) [((((gi l i).conf).members).length : Int), (((gi l i).legit).length : Int), (((((gi l i).entry).batch).ops).length : Int)] rfl rfl rfl) fun a Z => ?_
  refine q_runk tRsWZ Z 1 rfl rfl fun a Z => ?_
  refine q_end Z [0, 3, 4] rfl fun w2 hb Z => ?_
  replace H := H.blw hb
  clear hb
  refine p_blk ?_
  refine p_then ?_
  obtain ⟨hg4, hF⟩ := chk_in hF
  refine f_region Z fun Z => ?_
  refine s_runk tRsWZ Z 1 rfl rfl fun a Z => ?_
  refine sO Z (vI (i + 1)) rfl (Ob_add rfl rfl rfl (wrI hg4)) fun a Z => ?_
  refine s_runk tRsWZ Z 1 rfl rfl fun a Z => ?_
  refine s_end Z [0, 3, 4] rfl fun Z => ?_
  refine p_then ?_
  exact ⟨([((((gi l i).conf).members).length : Int), (((gi l i).legit).length : Int), (((((gi l i).entry).batch).ops).length : Int)].foldl max n0, i + 1), ⟨Z.sub (ts := [0, 3, 4]) rfl, ⟨I1, (H.sub [(4, true)] rfl).eq rfl⟩⟩, hF⟩
 ·replace hF := ite_f hc1 hF
  refine wp_exit ?_
  refine p_then_x ?_
  refine p_then_x ?_
  refine f_exit_here ?_
  refine p_then (wp_seq (f_region Z ?_)); clear Z; intro Z
  refine s_runk tRsWZ Z 2 rfl rfl fun a Z => ?_
  refine s_end Z [2] rfl fun Z => ?_
  refine p_then (wp_ret ?_)
  obtain rfl := some_in hF
  exact f_ret Z (run_results1 rfl Z rfl) ⟨rfl, I1, (H.sub [] rfl).eq rfl⟩

def F_law30_awake : Option Bool := (F_rstate_New).bind fun n0 => ((F_rstate_State_Apply n0 ({ (default : ENote) with k := 2, entry := ({ batch := ({ client := 0, req := 1, ops := [({ key := ⟨#[97]⟩, val := ⟨#[49]⟩, del := false } : EOp)] } : EBatch), ts := 0 } : EEntry) } : ENote)).bind fun a0 => ((F_rstate_State_Apply a0.2 ({ (default : ENote) with k := 3, at_ := 5 } : ENote)).bind fun a0_2 => ((F_mvcc_New).bind fun n0_2 => ((F_rstate_State_Feed a0_2.2 n0_2 0 9).bind fun f => ((F_mvcc_Store_Get f.2.2 ⟨#[97]⟩ 5).bind fun g => ((gif ((a0.1 == 0) && (a0_2.1 == 0)) (F_rstate_State_Stamped f.2.1) default).bind fun s0 => ((gif ((((((a0.1 == 0) && (a0_2.1 == 0)) && (s0.1 == 1)) && (f.1 == 1)) && (seqB g.1 ⟨#[49]⟩)) && g.2.1) (F_rstate_State_Apply (cond ((a0.1 == 0) && (a0_2.1 == 0)) s0.2 f.2.1) ({ (default : ENote) with k := 5 } : ENote)) default).bind fun a0_3 => (some (((((((a0.1 == 0) && (a0_2.1 == 0)) && (s0.1 == 1)) && (f.1 == 1)) && (seqB g.1 ⟨#[49]⟩)) && g.2.1) && (a0_3.1 == 11))))))))))

set_option maxHeartbeats 1000000 in
theorem c_law30_awake {I D : Dm} {w : World} {rr : Bool} (hF : F_law30_awake = some rr) (H : St I D w []) :
  Calls Try.prog 7 #[] w (Ret fun vv w' => vv = vT rr ∧ ∃ I', Hf I D w I' w' []) := by
 replace H := H.hf
 unfold F_law30_awake at hF
 refine f_enter 56 Try.func7 rfl rfl (Nat.le_of_ble_eq_true rfl) fun a Z => ?_
 replace Z := Z.sub (ts := []) rfl
 refine wp_seq (f_region Z ?_); clear Z; intro Z
 refine s_runk tRsWZ Z 1 rfl rfl fun a Z => ?_
 refine s_end Z [] rfl fun Z => ?_
 refine p_then (wp_seq ?_)
 obtain ⟨n0, hx1, hF⟩ := bnd_in hF
 refine f_region Z fun Z => ?_
 refine hC Z H [] rfl #[] fn_8_YRsWZ rfl rfl (fun D h => have q := c_rstate_New hx1 h; q) fun vv a w1 D2 hr hF2 Z => ?_
 obtain ⟨g1, rfl, I1, K⟩ := hr
 have H := (hF2 K).nf rfl
 refine s_runk tRsWZ Z 1 rfl rfl fun a Z => ?_
 refine s_end Z [1] rfl fun Z => ?_
 refine p_then (wp_seq ?_)
 obtain ⟨a0, hx2, hF⟩ := bnd_in hF
 refine f_region Z fun Z => ?_
 refine s_runk tRsWZ Z 1 rfl rfl fun a Z => ?_
 refine sO Z (.agg #[vS ⟨#[97]⟩, vS ⟨#[49]⟩, vT false]) rfl (Ob_build (vs := [(0, vS ⟨#[97]⟩), (1, vS ⟨#[49]⟩)]) rfl rfl (by go_simp <;> rfl)) fun a Z => ?_
 refine h_bslice Z H (vs := [(0, .agg #[vS ⟨#[97]⟩, vS ⟨#[49]⟩, vT false])]) (cl := [vS ⟨#[97]⟩, vS ⟨#[49]⟩, vT false]) (e := 74) rfl rfl rfl (by decide) rfl rfl (fun w => run_bslice (z := .agg #[vS ByteArray.empty, vS ByteArray.empty, vT false]) (m := 3) Try.underlying36 (by kernel_rfl) rfl rfl (by decide) (by simp [Instr.fill, Value.cells]) w) fun a w2 b1 H Z => ?_
 refine sO Z (.agg #[vI 0, vI 1, .slice (some ⟨b1, 0, none⟩) 1 1]) rfl (Ob_build (vs := [(1, vI 1), (2, .slice (some ⟨b1, 0, none⟩) 1 1)]) rfl rfl (by go_simp <;> rfl)) fun a Z => ?_
 refine sO Z (.agg #[vI 0, vI 1, .slice (some ⟨b1, 0, none⟩) 1 1, vU 0]) rfl (Ob_build (vs := [(0, .agg #[vI 0, vI 1, .slice (some ⟨b1, 0, none⟩) 1 1])]) rfl rfl (by go_simp <;> rfl)) fun a Z => ?_
 refine sO Z (.agg #[vI 2, vI 0, vU 0, vI 0, nS, vU 0, nS, vI 0, vI 1, .slice (some ⟨b1, 0, none⟩) 1 1, vU 0, vI 0, vU 0, vI 0, vI 0, vI 0, vI 0, vI 0]) rfl (Ob_build (vs := [(0, vI 2), (5, .agg #[vI 0, vI 1, .slice (some ⟨b1, 0, none⟩) 1 1, vU 0])]) rfl rfl (by go_simp <;> rfl)) fun a Z => ?_
 replace H := H.slNil NEMember
 replace H := H.slNil Ni64
 obtain ⟨I2, _, H⟩ := H.frzlit 2 rfl (R := NEOp) [[vS ⟨#[97]⟩, vS ⟨#[49]⟩, vT false]] [({ key := ⟨#[97]⟩, val := ⟨#[49]⟩, del := false } : EOp)] rfl rfl (fun i h1 h2 => by match i, h1, h2 with | 0, _, _ => exact ⟨rfl, trivial⟩) (show 1 ≤ maxLen from by decide) (n := 1) rfl
 replace H := H.nf rfl; try dsimp only at H
 refine hC Z H [(3, false), (2, true), (1, true), (0, true)] rfl #[] fn_11_YRsWZ rfl rfl (fun D h => have q := c_rstate_State_Apply hx2 h; q) fun vv a w3 D2 hr hF2 Z => ?_
 obtain ⟨rfl, I3, K⟩ := hr
 have H := (hF2 K).nf rfl
 refine s_runk tRsWZ Z 1 rfl rfl fun a Z => ?_
 refine s_end Z [1, 2] rfl fun Z => ?_
 refine p_then (wp_seq ?_)
 obtain ⟨a0_2, hx3, hF⟩ := bnd_in hF
 refine f_region Z fun Z => ?_
 refine s_runk tRsWZ Z 1 rfl rfl fun a Z => ?_
 refine sO Z (.agg #[vI 3, vI 0, vU 5, vI 0, nS, vU 0, nS, vI 0, vI 0, nS, vU 0, vI 0, vU 0, vI 0, vI 0, vI 0, vI 0, vI 0]) rfl (Ob_build (vs := [(0, vI 3), (2, vU 5)]) rfl rfl (by go_simp <;> rfl)) fun a Z => ?_
 replace H := H.slNil NEMember
 replace H := H.slNil Ni64
 replace H := H.slNil NEOp
 refine hC Z H [(3, false), (2, true), (1, true), (0, true)] rfl #[] fn_11_YRsWZ rfl rfl (fun D h => have q := c_rstate_State_Apply hx3 h; q) fun vv a w4 D2 hr hF2 Z => ?_
 obtain ⟨rfl, I4, K⟩ := hr
 have H := (hF2 K).nf rfl
 refine s_runk tRsWZ Z 1 rfl rfl fun a Z => ?_
 refine s_end Z [1, 2, 3] rfl fun Z => ?_
 refine p_then (wp_seq ?_)
 obtain ⟨n0_2, hx4, hF⟩ := bnd_in hF
 refine f_region Z fun Z => ?_
 refine hC Z H [] rfl #[] fn_14_YRsWZ rfl rfl (fun D h => have q := c_mvcc_New hx4 h; q) fun vv a w5 D2 hr hF2 Z => ?_
 obtain ⟨g2, rfl, I5, K⟩ := hr
 have H := (hF2 K).nf rfl
 refine s_runk tRsWZ Z 1 rfl rfl fun a Z => ?_
 refine s_end Z [1, 2, 3, 4] rfl fun Z => ?_
 refine p_then (wp_seq ?_)
 obtain ⟨f, hx5, hF⟩ := bnd_in hF
 refine f_region Z fun Z => ?_
 refine s_runk tRsWZ Z 2 rfl rfl fun a Z => ?_
 refine hC Z H [(1, false), (0, false)] rfl #[] fn_15_YRsWZ rfl rfl (fun D h => have q := c_rstate_State_Feed hx5 h; q) fun vv a w6 D2 hr hF2 Z => ?_
 obtain ⟨rfl, I6, K⟩ := hr
 have H := (hF2 K).nf rfl
 refine s_runk tRsWZ Z 1 rfl rfl fun a Z => ?_
 refine s_end Z [1, 2, 3, 4, 5] rfl fun Z => ?_
 refine p_then (wp_seq ?_)
 obtain ⟨g, hx6, hF⟩ := bnd_in hF
 refine f_region Z fun Z => ?_
 refine s_runk tRsWZ Z 1 rfl rfl fun a Z => ?_
 refine hC Z H [(1, false)] rfl #[] fn_28_YRsWZ rfl rfl (fun D h => have q := c_mvcc_Store_Get hx6 h; q) fun vv a w7 D2 hr hF2 Z => ?_
 obtain ⟨rfl, I7, K⟩ := hr
 have H := (hF2 K).nf rfl
 refine s_runk tRsWZ Z 5 rfl rfl fun a Z => ?_
 refine s_end Z [1, 2, 3, 5, 6, 7] rfl fun Z => ?_
 refine p_then (wp_seq ?_)
 obtain ⟨s0, hx7, hF⟩ := bnd_in hF
 obtain ⟨a0_3, hx8, hF⟩ := bnd_in hF
 refine f_region Z fun Z => ?_
 refine s_runk tRsWZ Z 3 rfl rfl fun a Z => ?_
 refine gO Z (vI a0_2.1) rfl (wantB_t _) (.n 3 rfl .z) (fun hp => Ob_c tRsWZ rfl) fun a Z => ?_
 refine gO Z (vT (a0_2.1 == 0)) rfl (wantB_t _) (.c 31 rfl id .z) (fun hp => Ob_c tRsWZ rfl) fun a Z => ?_
 refine sO Z (vT ((a0.1 == 0) && (a0_2.1 == 0))) rfl (Ob_pick rfl rfl rfl rfl (pick_and _ _)) fun a Z => ?_
 refine s_runk tRsWZ Z 1 rfl rfl fun a Z => ?_
 refine gO Z (pp g1 0) rfl (wantB_t _) (.n 1 rfl .z) (fun hp => Ob_c tRsWZ rfl) fun a Z => ?_
 refine h_gcall Z H (js := [(1, false)]) rfl (p := ((a0.1 == 0) && (a0_2.1 == 0))) (v := vI s0.1) (S' := [(35, pp g1 0)]) (caps := #[]) (fun qq => [OErstate_State g1 (cond qq s0.2 f.2.1)]) fn_19_YRsWZ rfl rfl rfl (wantB_t _) rfl (by decide) (fun hp hS => (hS.conv (t := 35) rfl (cond_t hp)).sub (ts := [35]) rfl) rfl rfl rfl rfl (fun hp D1 hS => have hq := c_rstate_State_Stamped (gif_in hx7 hp) hS; hq) (fun hp => H.sub [(1, false), (0, false), (0, true), (1, true), (2, true), (3, true), (4, true), (5, true)] rfl) fun a w8 I8 H Z => ?_
 replace H := H.nf rfl; try dsimp only at H
 refine gO Z (vT (s0.1 == 1)) rfl (wantB_t _) (.c 36 rfl id .z) (fun hp => Ob_c tRsWZ rfl) fun a Z => ?_
 refine sO Z (vT (((a0.1 == 0) && (a0_2.1 == 0)) && (s0.1 == 1))) rfl (Ob_pick rfl rfl rfl rfl (pick_and _ _)) fun a Z => ?_
 refine s_runk tRsWZ Z 1 rfl rfl fun a Z => ?_
 refine gO Z (vI f.1) rfl (wantB_t _) (.n 5 rfl .z) (fun hp => Ob_c tRsWZ rfl) fun a Z => ?_
 refine gO Z (vT (f.1 == 1)) rfl (wantB_t _) (.c 40 rfl id .z) (fun hp => Ob_c tRsWZ rfl) fun a Z => ?_
 refine sO Z (vT ((((a0.1 == 0) && (a0_2.1 == 0)) && (s0.1 == 1)) && (f.1 == 1))) rfl (Ob_pick rfl rfl rfl rfl (pick_and _ _)) fun a Z => ?_
 refine s_runk tRsWZ Z 1 rfl rfl fun a Z => ?_
 refine gO Z (vS g.1) rfl (wantB_t _) (.n 6 rfl .z) (fun hp => Ob_c tRsWZ rfl) fun a Z => ?_
 refine gO Z (vT (seqB g.1 ⟨#[49]⟩)) rfl (wantB_t _) (.c 44 rfl id .z) (fun hp => Ob_c tRsWZ rfl) fun a Z => ?_
 refine sO Z (vT (((((a0.1 == 0) && (a0_2.1 == 0)) && (s0.1 == 1)) && (f.1 == 1)) && (seqB g.1 ⟨#[49]⟩))) rfl (Ob_pick rfl rfl rfl rfl (pick_and _ _)) fun a Z => ?_
 refine s_runk tRsWZ Z 1 rfl rfl fun a Z => ?_
 refine gO Z (vT g.2.1) rfl (wantB_t _) (.n 7 rfl .z) (fun hp => Ob_c tRsWZ rfl) fun a Z => ?_
 refine sO Z (vT ((((((a0.1 == 0) && (a0_2.1 == 0)) && (s0.1 == 1)) && (f.1 == 1)) && (seqB g.1 ⟨#[49]⟩)) && g.2.1)) rfl (Ob_pick rfl rfl rfl rfl (pick_and _ _)) fun a Z => ?_
 refine s_runk tRsWZ Z 1 rfl rfl fun a Z => ?_
 refine gO Z (pp g1 0) rfl (wantB_t _) (.n 1 rfl .z) (fun hp => Ob_c tRsWZ rfl) fun a Z => ?_
 refine gO Z (.agg #[vI 5, vI 0, vU 0, vI 0, nS, vU 0, nS, vI 0, vI 0, nS, vU 0, vI 0, vU 0, vI 0, vI 0, vI 0, vI 0, vI 0]) rfl (wantB_t _) (.z) (fun hp => Ob_build (vs := [(0, vI 5)]) rfl rfl (by go_simp <;> rfl)) fun a Z => ?_
 replace H := H.slNil NEMember
 replace H := H.slNil Ni64
 replace H := H.slNil NEOp
 refine h_gcall Z H (js := [(3, false), (2, true), (1, true), (0, true)]) rfl (p := ((((((a0.1 == 0) && (a0_2.1 == 0)) && (s0.1 == 1)) && (f.1 == 1)) && (seqB g.1 ⟨#[49]⟩)) && g.2.1)) (v := vI a0_3.1) (S' := [(51, pp g1 0), (52, .agg #[vI 5, vI 0, vU 0, vI 0, nS, vU 0, nS, vI 0, vI 0, nS, vU 0, vI 0, vU 0, vI 0, vI 0, vI 0, vI 0, vI 0])]) (caps := #[]) (fun qq => [OErstate_State g1 (cond qq a0_3.2 (cond ((a0.1 == 0) && (a0_2.1 == 0)) s0.2 f.2.1))]) fn_11_YRsWZ rfl rfl rfl (wantB_t _) rfl (by decide) (fun hp hS => ((hS.conv (t := 51) rfl (cond_t hp)).conv (t := 52) rfl (cond_t hp)).sub (ts := [51, 52]) rfl) rfl rfl rfl rfl (fun hp D1 hS => have hq := c_rstate_State_Apply (gif_in hx8 hp) hS; hq) (fun hp => H.sub [(3, false), (0, true), (1, true), (2, true), (3, false), (3, true), (4, true), (5, true), (6, true), (7, true), (8, true)] rfl) fun a w9 I9 H Z => ?_
 replace H := H.nf rfl; try dsimp only at H
 refine gO Z (vT (a0_3.1 == 11)) rfl (wantB_t _) (.c 53 rfl id .z) (fun hp => Ob_c tRsWZ rfl) fun a Z => ?_
 refine sO Z (vT (((((((a0.1 == 0) && (a0_2.1 == 0)) && (s0.1 == 1)) && (f.1 == 1)) && (seqB g.1 ⟨#[49]⟩)) && g.2.1) && (a0_3.1 == 11))) rfl (Ob_pick rfl rfl rfl rfl (pick_and _ _)) fun a Z => ?_
 refine s_runk tRsWZ Z 1 rfl rfl fun a Z => ?_
 refine s_end Z [0] rfl fun Z => ?_
 refine p_then (wp_ret ?_)
 obtain rfl := some_in hF
 exact f_ret Z (run_results1 rfl Z rfl) ⟨rfl, I9, (H.sub [] rfl).eq rfl⟩

def F_rstate_State_none_nil : Option Bool := some true

set_option maxHeartbeats 1000000 in
theorem c_rstate_State_none_nil {I D : Dm} {w : World} {rr : Bool} (hF : F_rstate_State_none_nil = some rr) (H : St I D w []) :
  Calls Try.prog 30 #[nP] w (Ret fun vv w' => vv = vT rr ∧ ∃ I', Hf I D w I' w' []) := by
 replace H := H.hf
 unfold F_rstate_State_none_nil at hF
 refine f_enter 12 Try.func30 rfl rfl (Nat.le_of_ble_eq_true rfl) fun a Z => ?_
 replace Z := Z.sub (ts := [0]) rfl
 refine wp_seq (f_region Z ?_); clear Z; intro Z
 refine s_runk tRsWZ Z 1 rfl rfl fun a Z => ?_
 refine s_end Z [0] rfl fun Z => ?_
 refine p_then (wp_seq (f_region Z ?_)); clear Z; intro Z
 refine s_runk tRsWZ Z 1 rfl rfl fun a Z => ?_
 refine sO Z (vT true) rfl (Ob_pnil rfl rfl rfl Try.underlying25 (.inl ⟨rfl, rfl⟩)) fun a Z => ?_
 refine s_runk tRsWZ Z 1 rfl rfl fun a Z => ?_
 refine g_if Z rfl rfl rfl (p := false) rfl rfl (by decide) (fun h => by cases h) fun _ a Z => ?_
 refine g_if Z rfl rfl rfl (p := false) rfl rfl (by decide) (fun h => by cases h) fun _ a Z => ?_
 refine g_if Z rfl rfl rfl (p := false) rfl rfl (by decide) (fun h => by cases h) fun _ a Z => ?_
 refine g_if Z rfl rfl rfl (p := false) rfl rfl (by decide) (fun h => by cases h) fun _ a Z => ?_
 refine g_if Z rfl rfl rfl (p := false) rfl rfl (by decide) (fun h => by cases h) fun _ a Z => ?_
 refine sO Z (vT true) rfl (Ob_pick rfl rfl rfl rfl rfl) fun a Z => ?_
 refine s_runk tRsWZ Z 1 rfl rfl fun a Z => ?_
 refine s_end Z [2] rfl fun Z => ?_
 refine p_then (wp_ret ?_)
 obtain rfl := some_in hF
 exact f_ret Z (run_results1 rfl Z rfl) ⟨rfl, I, (H.sub [] rfl).eq rfl⟩

def F_rstate_State_Apply_nil (n0 : ENote) : Option Int := (F_rstate_State_none_nil).bind fun n0_2 => (if (n0_2) = true then (some 8) else ((F_note_Check n0).bind fun c => (if (c != 0) = true then (some c) else (if (n0.k == 1) = true then (none) else (if (n0.k == 2) = true then (none) else (if (n0.k == 3) = true then (none) else (if (n0.k == 4) = true then (none) else (some 11))))))))

set_option maxHeartbeats 1000000 in
theorem c_rstate_State_Apply_nil {I D : Dm} {n0 : ENote} {v1_n0 : Value} {v2_n0 : Value} {v3_n0 : Value} {w : World} {rr : Int} (hF : F_rstate_State_Apply_nil n0 = some rr) (H : St I D w [SlC NEMember v1_n0 n0.conf.members, SlC Ni64 v2_n0 n0.legit, SlC NEOp v3_n0 n0.entry.batch.ops]) :
  Calls Try.prog 11 #[nP, .agg (cENote n0 v1_n0 v2_n0 v3_n0).toArray] w (Ret fun vv w' => vv = vI rr ∧ ∃ I', Hf I D w I' w' []) := by
 replace H := H.hf
 unfold F_rstate_State_Apply_nil at hF
 refine f_enter 77 Try.func11 rfl rfl (Nat.le_of_ble_eq_true rfl) fun a Z => ?_
 replace Z := Z.sub (ts := [0, 1]) rfl
 refine wp_seq (f_region Z ?_); clear Z; intro Z
 refine h_boxv Z H (cl := (cENote n0 v1_n0 v2_n0 v3_n0)) rfl rfl rfl (by decide) rfl rfl rfl fun a w1 b1 H Z => ?_
 refine s_runk tRsWZ Z 1 rfl rfl fun a Z => ?_
 refine s_end Z [0, 3] rfl fun Z => ?_
 refine p_then (wp_seq ?_)
 refine wp_seq ?_
 obtain ⟨n0_2, hx1, hF⟩ := bnd_in hF
 refine f_region Z fun Z => ?_
 refine s_runk tRsWZ Z 1 rfl rfl fun a Z => ?_
 refine hC Z H [] rfl #[] fn_30_YRsWZ rfl rfl (fun D h => have q := c_rstate_State_none_nil hx1 h; q) fun vv a w2 D2 hr hF2 Z => ?_
 obtain ⟨rfl, I1, K⟩ := hr
 have H := (hF2 K).nf rfl
 refine s_end Z [0, 3, 7] rfl fun Z => ?_
 refine p_then ?_
 refine f_cond Z rfl (fun hc1 => ?_) (fun hc1 => ?_)
 ·replace hF := ite_t hc1 hF
  refine wp_seq (f_region Z ?_); clear Z; intro Z
  refine s_runk tRsWZ Z 1 rfl rfl fun a Z => ?_
  refine s_end Z [4] rfl fun Z => ?_
  refine p_then (wp_ret ?_)
  refine p_then_r ?_
  obtain rfl := some_in hF
  exact f_ret Z (run_results1 rfl Z rfl) ⟨rfl, I1, (H.sub [] rfl).eq rfl⟩
 ·replace hF := ite_f hc1 hF
  refine wp_skip ?_
  refine p_then (wp_seq ?_)
  refine wp_seq ?_
  obtain ⟨c, hx2, hF⟩ := bnd_in hF
  refine f_region Z fun Z => ?_
  refine sO Z (.agg (cENote n0 v1_n0 v2_n0 v3_n0).toArray) rfl (oA tRsWZ rfl rfl ((H.bx 0 rfl).part 0 rfl)) fun a Z => ?_
  refine hC Z H [(1, true), (2, true), (3, true)] rfl #[] fn_32_YRsWZ rfl rfl (fun D h => have q := c_note_Check hx2 h; q) fun vv a w3 D2 hr hF2 Z => ?_
  obtain ⟨rfl, I2, K⟩ := hr
  have H := (hF2 K).nf rfl
  refine s_runk tRsWZ Z 1 rfl rfl fun a Z => ?_
  refine s_end Z [0, 3, 5] rfl fun Z => ?_
  refine p_then (wp_seq (f_region Z ?_)); clear Z; intro Z
  refine s_runk tRsWZ Z 2 rfl rfl fun a Z => ?_
  refine s_end Z [0, 3, 5, 11] rfl fun Z => ?_
  refine p_then ?_
  refine f_cond Z rfl (fun hc2 => ?_) (fun hc2 => ?_)
  ·replace hF := ite_t hc2 hF
   refine wp_seq (f_region Z ?_); clear Z; intro Z
   refine s_runk tRsWZ Z 2 rfl rfl fun a Z => ?_
   refine s_end Z [4] rfl fun Z => ?_
   refine p_then (wp_ret ?_)
   refine p_then_r ?_
   obtain rfl := some_in hF
   exact f_ret Z (run_results1 rfl Z rfl) ⟨rfl, I2, (H.sub [] rfl).eq rfl⟩
  ·replace hF := ite_f hc2 hF
   refine wp_skip ?_
   refine p_then (wp_seq ?_)
   refine wp_seq (f_region Z ?_); clear Z; intro Z
   refine s_runk tRsWZ Z 1 rfl rfl fun a Z => ?_
   refine sO Z _ rfl (oL tRsWZ rfl rfl (H.bc 0 0 rfl rfl)) fun a Z => ?_
   refine s_end Z [0, 3, 14] rfl fun Z => ?_
   refine p_then (wp_block ?_)
   refine wp_seq (f_region Z ?_); clear Z; intro Z
   refine s_runk tRsWZ Z 2 rfl rfl fun a Z => ?_
   refine s_end Z [0, 3, 14, 15] rfl fun Z => ?_
   refine p_then ?_
   refine f_cond Z rfl (fun hc3 => ?_) (fun hc3 => ?_)
   ·replace hF := ite_t hc3 hF
    refine wp_seq ?_
    refine wp_seq ?_
    cases hF
   ·replace hF := ite_f hc3 hF
    refine wp_seq (f_region Z ?_); clear Z; intro Z
    refine s_runk tRsWZ Z 2 rfl rfl fun a Z => ?_
    refine s_end Z [0, 3, 14, 32] rfl fun Z => ?_
    refine p_then ?_
    refine f_cond Z rfl (fun hc4 => ?_) (fun hc4 => ?_)
    ·replace hF := ite_t hc4 hF
     refine wp_seq ?_
     cases hF
    ·replace hF := ite_f hc4 hF
     refine wp_seq (f_region Z ?_); clear Z; intro Z
     refine s_runk tRsWZ Z 2 rfl rfl fun a Z => ?_
     refine s_end Z [0, 3, 14, 43] rfl fun Z => ?_
     refine p_then ?_
     refine f_cond Z rfl (fun hc5 => ?_) (fun hc5 => ?_)
     ·replace hF := ite_t hc5 hF
      refine wp_seq ?_
      cases hF
     ·replace hF := ite_f hc5 hF
      refine wp_seq (f_region Z ?_); clear Z; intro Z
      refine s_runk tRsWZ Z 2 rfl rfl fun a Z => ?_
      refine s_end Z [0, 3, 54] rfl fun Z => ?_
      refine p_then ?_
      refine f_cond Z rfl (fun hc6 => ?_) (fun hc6 => ?_)
      ·replace hF := ite_t hc6 hF
       refine wp_seq ?_
       refine wp_seq ?_
       cases hF
      ·replace hF := ite_f hc6 hF
       refine wp_seq (f_region Z ?_); clear Z; intro Z
       refine s_runk tRsWZ Z 1 rfl rfl fun a Z => ?_
       refine s_end Z [4] rfl fun Z => ?_
       refine p_then (wp_ret ?_)
       refine p_blk_r ?_
       refine p_then_r ?_
       obtain rfl := some_in hF
       exact f_ret Z (run_results1 rfl Z rfl) ⟨rfl, I2, (H.sub [] rfl).eq rfl⟩

def F_rstate_State_Notes_nil : Option (List ENote) := (F_rstate_State_none_nil).bind fun n0 => (if (n0) = true then (some ([] : List ENote)) else (none))

set_option maxHeartbeats 1000000 in
theorem c_rstate_State_Notes_nil {I D : Dm} {w : World} {rr : List ENote} (hF : F_rstate_State_Notes_nil = some rr) (H : St I D w []) :
  Calls Try.prog 24 #[nP] w (Ret fun vv w' => ∃ q1 : Value, vv = q1 ∧ ∃ I', Hf I D w I' w' [SlC NENote q1 rr]) := by
 replace H := H.hf
 unfold F_rstate_State_Notes_nil at hF
 refine f_enterM 15 Try.func24 rfl rfl (Nat.le_of_ble_eq_true rfl) fun a Z => ?_
 replace Z := Z.sub (ts := [0]) rfl
 refine wp_seq (f_region Z ?_); clear Z; intro Z
 refine s_runk tRsWZ Z 1 rfl rfl fun a Z => ?_
 refine s_end Z [0, 2] rfl fun Z => ?_
 refine p_then (wp_seq ?_)
 refine wp_seq ?_
 obtain ⟨n0, hx1, hF⟩ := bnd_in hF
 refine f_region Z fun Z => ?_
 refine s_runk tRsWZ Z 1 rfl rfl fun a Z => ?_
 refine hC Z H [] rfl #[] fn_30_YRsWZ rfl rfl (fun D h => have q := c_rstate_State_none_nil hx1 h; q) fun vv a w1 D2 hr hF2 Z => ?_
 obtain ⟨rfl, I1, K⟩ := hr
 have H := (hF2 K).nf rfl
 refine s_end Z [0, 2, 6] rfl fun Z => ?_
 refine p_then ?_
 refine f_cond Z rfl (fun hc1 => ?_) (fun hc1 => ?_)
 ·replace hF := ite_t hc1 hF
  refine wp_seq (f_region Z ?_); clear Z; intro Z
  refine s_runk tRsWZ Z 1 rfl rfl fun a Z => ?_
  refine s_end Z [2] rfl fun Z => ?_
  refine p_then (wp_ret ?_)
  refine p_then_r ?_
  replace H := H.slNil NENote
  obtain rfl := some_in hF
  exact f_retM0 Z (run_results1 rfl Z rfl) ⟨nS, rfl, I1, (H.sub [(0, true)] rfl).eq rfl⟩
 ·replace hF := ite_f hc1 hF
  refine wp_skip ?_
  refine p_then (wp_seq (f_region Z ?_)); clear Z; intro Z
  refine hA1 Z H (nS) rfl rfl (by kernel_rfl) rfl fun a w2 b1 H Z => ?_
  refine s_end Z [0, 2, 3] rfl fun Z => ?_
  refine p_then (wp_seq ?_)
  refine wp_seq ?_
  cases hF

def F_rstate_State_All_nil : Option (List EEntry) := (F_rstate_State_none_nil).bind fun n0 => (if (n0) = true then (some ([] : List EEntry)) else (none))

set_option maxHeartbeats 1000000 in
theorem c_rstate_State_All_nil {I D : Dm} {w : World} {rr : List EEntry} (hF : F_rstate_State_All_nil = some rr) (H : St I D w []) :
  Calls Try.prog 13 #[nP] w (Ret fun vv w' => ∃ q1 : Value, vv = q1 ∧ ∃ I', Hf I D w I' w' [SlC NEEntry q1 rr]) := by
 replace H := H.hf
 unfold F_rstate_State_All_nil at hF
 refine f_enter 10 Try.func13 rfl rfl (Nat.le_of_ble_eq_true rfl) fun a Z => ?_
 replace Z := Z.sub (ts := [0]) rfl
 refine wp_seq (f_region Z ?_); clear Z; intro Z
 refine s_runk tRsWZ Z 1 rfl rfl fun a Z => ?_
 refine s_end Z [0] rfl fun Z => ?_
 refine p_then (wp_seq ?_)
 refine wp_seq ?_
 obtain ⟨n0, hx1, hF⟩ := bnd_in hF
 refine f_region Z fun Z => ?_
 refine s_runk tRsWZ Z 1 rfl rfl fun a Z => ?_
 refine hC Z H [] rfl #[] fn_30_YRsWZ rfl rfl (fun D h => have q := c_rstate_State_none_nil hx1 h; q) fun vv a w1 D2 hr hF2 Z => ?_
 obtain ⟨rfl, I1, K⟩ := hr
 have H := (hF2 K).nf rfl
 refine s_end Z [0, 4] rfl fun Z => ?_
 refine p_then ?_
 refine f_cond Z rfl (fun hc1 => ?_) (fun hc1 => ?_)
 ·replace hF := ite_t hc1 hF
  refine wp_seq (f_region Z ?_); clear Z; intro Z
  refine s_runk tRsWZ Z 1 rfl rfl fun a Z => ?_
  refine s_end Z [2] rfl fun Z => ?_
  refine p_then (wp_ret ?_)
  refine p_then_r ?_
  replace H := H.slNil NEEntry
  obtain rfl := some_in hF
  exact f_ret Z (run_results1 rfl Z rfl) ⟨nS, rfl, I1, (H.sub [(0, true)] rfl).eq rfl⟩
 ·replace hF := ite_f hc1 hF
  refine wp_skip ?_
  refine p_then (wp_seq ?_)
  cases hF

def F_rstate_State_Len_nil : Option Int := (F_rstate_State_none_nil).bind fun n0 => (if (n0) = true then (some 0) else (none))

set_option maxHeartbeats 1000000 in
theorem c_rstate_State_Len_nil {I D : Dm} {w : World} {rr : Int} (hF : F_rstate_State_Len_nil = some rr) (H : St I D w []) :
  Calls Try.prog 25 #[nP] w (Ret fun vv w' => vv = vI rr ∧ ∃ I', Hf I D w I' w' []) := by
 replace H := H.hf
 unfold F_rstate_State_Len_nil at hF
 refine f_enter 10 Try.func25 rfl rfl (Nat.le_of_ble_eq_true rfl) fun a Z => ?_
 replace Z := Z.sub (ts := [0]) rfl
 refine wp_seq (f_region Z ?_); clear Z; intro Z
 refine s_runk tRsWZ Z 1 rfl rfl fun a Z => ?_
 refine s_end Z [0] rfl fun Z => ?_
 refine p_then (wp_seq ?_)
 refine wp_seq ?_
 obtain ⟨n0, hx1, hF⟩ := bnd_in hF
 refine f_region Z fun Z => ?_
 refine s_runk tRsWZ Z 1 rfl rfl fun a Z => ?_
 refine hC Z H [] rfl #[] fn_30_YRsWZ rfl rfl (fun D h => have q := c_rstate_State_none_nil hx1 h; q) fun vv a w1 D2 hr hF2 Z => ?_
 obtain ⟨rfl, I1, K⟩ := hr
 have H := (hF2 K).nf rfl
 refine s_end Z [0, 4] rfl fun Z => ?_
 refine p_then ?_
 refine f_cond Z rfl (fun hc1 => ?_) (fun hc1 => ?_)
 ·replace hF := ite_t hc1 hF
  refine wp_seq (f_region Z ?_); clear Z; intro Z
  refine s_runk tRsWZ Z 1 rfl rfl fun a Z => ?_
  refine s_end Z [2] rfl fun Z => ?_
  refine p_then (wp_ret ?_)
  refine p_then_r ?_
  obtain rfl := some_in hF
  exact f_ret Z (run_results1 rfl Z rfl) ⟨rfl, I1, (H.sub [] rfl).eq rfl⟩
 ·replace hF := ite_f hc1 hF
  refine wp_skip ?_
  refine p_then (wp_seq ?_)
  cases hF

def F_rstate_State_Stamped_nil : Option Int := (F_rstate_State_none_nil).bind fun n0 => (if (n0) = true then (some 0) else (none))

set_option maxHeartbeats 1000000 in
theorem c_rstate_State_Stamped_nil {I D : Dm} {w : World} {rr : Int} (hF : F_rstate_State_Stamped_nil = some rr) (H : St I D w []) :
  Calls Try.prog 19 #[nP] w (Ret fun vv w' => vv = vI rr ∧ ∃ I', Hf I D w I' w' []) := by
 replace H := H.hf
 unfold F_rstate_State_Stamped_nil at hF
 refine f_enter 10 Try.func19 rfl rfl (Nat.le_of_ble_eq_true rfl) fun a Z => ?_
 replace Z := Z.sub (ts := [0]) rfl
 refine wp_seq (f_region Z ?_); clear Z; intro Z
 refine s_runk tRsWZ Z 1 rfl rfl fun a Z => ?_
 refine s_end Z [0] rfl fun Z => ?_
 refine p_then (wp_seq ?_)
 refine wp_seq ?_
 obtain ⟨n0, hx1, hF⟩ := bnd_in hF
 refine f_region Z fun Z => ?_
 refine s_runk tRsWZ Z 1 rfl rfl fun a Z => ?_
 refine hC Z H [] rfl #[] fn_30_YRsWZ rfl rfl (fun D h => have q := c_rstate_State_none_nil hx1 h; q) fun vv a w1 D2 hr hF2 Z => ?_
 obtain ⟨rfl, I1, K⟩ := hr
 have H := (hF2 K).nf rfl
 refine s_end Z [0, 4] rfl fun Z => ?_
 refine p_then ?_
 refine f_cond Z rfl (fun hc1 => ?_) (fun hc1 => ?_)
 ·replace hF := ite_t hc1 hF
  refine wp_seq (f_region Z ?_); clear Z; intro Z
  refine s_runk tRsWZ Z 1 rfl rfl fun a Z => ?_
  refine s_end Z [2] rfl fun Z => ?_
  refine p_then (wp_ret ?_)
  refine p_then_r ?_
  obtain rfl := some_in hF
  exact f_ret Z (run_results1 rfl Z rfl) ⟨rfl, I1, (H.sub [] rfl).eq rfl⟩
 ·replace hF := ite_f hc1 hF
  refine wp_skip ?_
  refine p_then (wp_seq ?_)
  cases hF

def F_rstate_State_Top_nil (client : Int) : Option Int := (F_rstate_State_none_nil).bind fun n0 => (if (n0) = true then (some 0) else (none))

set_option maxHeartbeats 1000000 in
theorem c_rstate_State_Top_nil {I D : Dm} {client : Int} {w : World} {rr : Int} (hF : F_rstate_State_Top_nil client = some rr) (H : St I D w []) :
  Calls Try.prog 26 #[nP, vI client] w (Ret fun vv w' => vv = vI rr ∧ ∃ I', Hf I D w I' w' []) := by
 replace H := H.hf
 unfold F_rstate_State_Top_nil at hF
 refine f_enter 13 Try.func26 rfl rfl (Nat.le_of_ble_eq_true rfl) fun a Z => ?_
 replace Z := Z.sub (ts := [0, 1]) rfl
 refine wp_seq (f_region Z ?_); clear Z; intro Z
 refine s_runk tRsWZ Z 1 rfl rfl fun a Z => ?_
 refine s_end Z [0, 1] rfl fun Z => ?_
 refine p_then (wp_seq ?_)
 refine wp_seq ?_
 obtain ⟨n0, hx1, hF⟩ := bnd_in hF
 refine f_region Z fun Z => ?_
 refine s_runk tRsWZ Z 1 rfl rfl fun a Z => ?_
 refine hC Z H [] rfl #[] fn_30_YRsWZ rfl rfl (fun D h => have q := c_rstate_State_none_nil hx1 h; q) fun vv a w1 D2 hr hF2 Z => ?_
 obtain ⟨rfl, I1, K⟩ := hr
 have H := (hF2 K).nf rfl
 refine s_end Z [0, 1, 6] rfl fun Z => ?_
 refine p_then ?_
 refine f_cond Z rfl (fun hc1 => ?_) (fun hc1 => ?_)
 ·replace hF := ite_t hc1 hF
  refine wp_seq (f_region Z ?_); clear Z; intro Z
  refine s_runk tRsWZ Z 1 rfl rfl fun a Z => ?_
  refine s_end Z [4] rfl fun Z => ?_
  refine p_then (wp_ret ?_)
  refine p_then_r ?_
  obtain rfl := some_in hF
  exact f_ret Z (run_results1 rfl Z rfl) ⟨rfl, I1, (H.sub [] rfl).eq rfl⟩
 ·replace hF := ite_f hc1 hF
  refine wp_skip ?_
  refine p_then (wp_seq ?_)
  cases hF

def F_rstate_State_Conf_nil : Option EConf := (F_rstate_State_none_nil).bind fun n0 => (if (n0) = true then (some (default : EConf)) else (none))

set_option maxHeartbeats 1000000 in
theorem c_rstate_State_Conf_nil {I D : Dm} {w : World} {rr : EConf} (hF : F_rstate_State_Conf_nil = some rr) (H : St I D w []) :
  Calls Try.prog 10 #[nP] w (Ret fun vv w' => ∃ q1 : Value, vv = .agg #[vI rr.epoch, q1, vU rr.floor] ∧ ∃ I', Hf I D w I' w' [SlC NEMember q1 rr.members]) := by
 replace H := H.hf
 unfold F_rstate_State_Conf_nil at hF
 refine f_enter 11 Try.func10 rfl rfl (Nat.le_of_ble_eq_true rfl) fun a Z => ?_
 replace Z := Z.sub (ts := [0]) rfl
 refine wp_seq (f_region Z ?_); clear Z; intro Z
 refine hA Z H [vI 0, nS, vU 0] rfl rfl (by kernel_rfl) fun a w1 b1 H Z => ?_
 refine s_end Z [0, 2] rfl fun Z => ?_
 refine p_then (wp_seq ?_)
 refine wp_seq ?_
 obtain ⟨n0, hx1, hF⟩ := bnd_in hF
 refine f_region Z fun Z => ?_
 refine s_runk tRsWZ Z 1 rfl rfl fun a Z => ?_
 refine hC Z H [] rfl #[] fn_30_YRsWZ rfl rfl (fun D h => have q := c_rstate_State_none_nil hx1 h; q) fun vv a w2 D2 hr hF2 Z => ?_
 obtain ⟨rfl, I1, K⟩ := hr
 have H := (hF2 K).nf rfl
 refine s_end Z [0, 2, 4] rfl fun Z => ?_
 refine p_then ?_
 refine f_cond Z rfl (fun hc1 => ?_) (fun hc1 => ?_)
 ·replace hF := ite_t hc1 hF
  refine wp_seq (f_region Z ?_); clear Z; intro Z
  refine sO Z (.agg #[vI 0, nS, vU 0]) rfl (Ob_build (vs := []) rfl rfl (by go_simp <;> rfl)) fun a Z => ?_
  refine hT tRsWZ Z H 0 rfl rfl rfl rfl rfl (one_cons rfl (one_cons (slS.one slS.nil) (one_cons rfl one_nil))) (Nat.le_of_ble_eq_true rfl) rfl fun w3 H => ?_
  dsimp only [List.eraseIdx] at H
  refine s_end Z [2] rfl fun Z => ?_
  refine p_then (wp_ret ?_)
  refine p_then_r ?_
  replace H := H.slNil NEMember
  obtain rfl := some_in hF
  exact f_ret Z (run_resultsC rfl Z rfl (run_loadVar_agg tRsWZ rfl (H.bx 1 rfl).at)) ⟨nS, rfl, I1, (H.sub [(0, true)] rfl).eq rfl⟩
 ·replace hF := ite_f hc1 hF
  refine wp_skip ?_
  refine p_then (wp_seq ?_)
  cases hF

def F_rstate_State_Feed_nil_l1 (from_ : Int) (to_ : Int) (rc : Unit → Option Int) (sg : Unit) : Option Int := match sg with | _ => (F_rstate_State_Stamped_nil).bind fun n0_2 => (if (decide (max from_ 0 < min to_ n0_2)) = true then (none) else (some (max from_ (max from_ 0))))

def F_rstate_State_Feed_nil (m : Emvcc_Store) (from_ : Int) (to_ : Int) : Option Int := (F_rstate_State_none_nil).bind fun n0 => (if (n0) = true then (some 0) else (iter (F_rstate_State_Feed_nil_l1 from_ to_) FU ()))

set_option maxHeartbeats 1000000 in
theorem c_rstate_State_Feed_nil {I D : Dm} {b_m : Nat} {m : Emvcc_Store} {from_ : Int} {to_ : Int} {w : World} {rr : Int} (hF : F_rstate_State_Feed_nil m from_ to_ = some rr) (H : St I D w [OEmvcc_Store b_m m]) :
  Calls Try.prog 15 #[nP, pp b_m 0, vI from_, vI to_] w (Ret fun vv w' => vv = vI rr ∧ ∃ I', Hf I D w I' w' [OEmvcc_Store b_m m]) := by
 replace H := H.hf
 unfold F_rstate_State_Feed_nil at hF
 refine f_enter 43 Try.func15 rfl rfl (Nat.le_of_ble_eq_true rfl) fun a Z => ?_
 replace Z := Z.sub (ts := [0, 1, 2, 3]) rfl
 refine wp_seq (f_region Z ?_); clear Z; intro Z
 refine s_runk tRsWZ Z 1 rfl rfl fun a Z => ?_
 refine s_end Z [0, 1, 2, 3] rfl fun Z => ?_
 refine p_then (wp_seq ?_)
 refine wp_seq ?_
 obtain ⟨n0, hx1, hF⟩ := bnd_in hF
 refine f_region Z fun Z => ?_
 refine s_runk tRsWZ Z 1 rfl rfl fun a Z => ?_
 refine hC Z H [] rfl #[] fn_30_YRsWZ rfl rfl (fun D h => have q := c_rstate_State_none_nil hx1 h; q) fun vv a w1 D2 hr hF2 Z => ?_
 obtain ⟨rfl, I1, K⟩ := hr
 have H := (hF2 K).nf rfl
 refine s_end Z [0, 1, 2, 3, 13] rfl fun Z => ?_
 refine p_then ?_
 refine f_cond Z rfl (fun hc1 => ?_) (fun hc1 => ?_)
 ·replace hF := ite_t hc1 hF
  refine wp_seq (f_region Z ?_); clear Z; intro Z
  refine s_runk tRsWZ Z 1 rfl rfl fun a Z => ?_
  refine s_end Z [8] rfl fun Z => ?_
  refine p_then (wp_ret ?_)
  refine p_then_r ?_
  obtain rfl := some_in hF
  exact f_ret Z (run_results1 rfl Z rfl) ⟨rfl, I1, (H.sub [(0, false)] rfl).eq rfl⟩
 ·replace hF := ite_f hc1 hF
  refine wp_skip ?_
  refine p_then (wp_seq (f_region Z ?_)); clear Z; intro Z
  refine s_runk tRsWZ Z 3 rfl rfl fun a Z => ?_
  refine s_end Z [0, 1, 2, 3, 9] rfl fun Z => ?_
  refine p_then (wp_seq ?_)
  refine wp_block ?_
  refine f_iter hF (fun sg a' w' => match sg with | _ => Sl 43 [(0, nP), (1, pp b_m 0), (2, vI from_), (3, vI to_), (9, vI (max from_ 0))] a' ∧ ∃ I2, Hf I D w I2 w' [OEmvcc_Store b_m m]) ⟨Z.sub (ts := [0, 1, 2, 3, 9]) rfl, ⟨I1, (H.sub [(0, false)] rfl).eq rfl⟩⟩ ?_
  rintro rc _ a w2 ⟨Z, I2, H⟩ hF
  unfold F_rstate_State_Feed_nil_l1 at hF
  try dsimp only at hF
  refine wp_seq ?_
  refine wp_seq ?_
  obtain ⟨n0_2, hx2, hF⟩ := bnd_in hF
  refine f_region Z fun Z => ?_
  refine s_runk tRsWZ Z 3 rfl rfl fun a Z => ?_
  refine hC Z H [] rfl #[] fn_19_YRsWZ rfl rfl (fun D h => have q := c_rstate_State_Stamped_nil hx2 h; q) fun vv a w3 D2 hr hF2 Z => ?_
  obtain ⟨rfl, I3, K⟩ := hr
  have H := (hF2 K).nf rfl
  refine s_runk tRsWZ Z 2 rfl rfl fun a Z => ?_
  refine s_end Z [0, 1, 2, 3, 9, 21] rfl fun Z => ?_
  refine p_then ?_
  refine f_cond Z rfl (fun hc2 => ?_) (fun hc2 => ?_)
  ·replace hF := ite_t hc2 hF
   refine wp_skip ?_
   refine p_then (wp_seq ?_)
   refine wp_block ?_
   refine wp_seq ?_
   cases hF
  ·replace hF := ite_f hc2 hF
   refine wp_exit ?_
   refine p_then_x ?_
   refine p_then_x ?_
   refine f_exit_here ?_
   refine p_then (wp_seq (f_region Z ?_)); clear Z; intro Z
   refine s_runk tRsWZ Z 4 rfl rfl fun a Z => ?_
   refine s_end Z [8] rfl fun Z => ?_
   refine p_then (wp_ret ?_)
   obtain rfl := some_in hF
   exact f_ret Z (run_results1 rfl Z rfl) ⟨rfl, I3, (H.sub [(0, false)] rfl).eq rfl⟩

def F_rstate_State_Horizon_nil : Option Int := (F_rstate_State_none_nil).bind fun n0 => (if (n0) = true then (some 0) else (none))

set_option maxHeartbeats 1000000 in
theorem c_rstate_State_Horizon_nil {I D : Dm} {w : World} {rr : Int} (hF : F_rstate_State_Horizon_nil = some rr) (H : St I D w []) :
  Calls Try.prog 9 #[nP] w (Ret fun vv w' => vv = vU rr ∧ ∃ I', Hf I D w I' w' []) := by
 replace H := H.hf
 unfold F_rstate_State_Horizon_nil at hF
 refine f_enter 9 Try.func9 rfl rfl (Nat.le_of_ble_eq_true rfl) fun a Z => ?_
 replace Z := Z.sub (ts := [0]) rfl
 refine wp_seq (f_region Z ?_); clear Z; intro Z
 refine s_runk tRsWZ Z 1 rfl rfl fun a Z => ?_
 refine s_end Z [0] rfl fun Z => ?_
 refine p_then (wp_seq ?_)
 refine wp_seq ?_
 obtain ⟨n0, hx1, hF⟩ := bnd_in hF
 refine f_region Z fun Z => ?_
 refine s_runk tRsWZ Z 1 rfl rfl fun a Z => ?_
 refine hC Z H [] rfl #[] fn_30_YRsWZ rfl rfl (fun D h => have q := c_rstate_State_none_nil hx1 h; q) fun vv a w1 D2 hr hF2 Z => ?_
 obtain ⟨rfl, I1, K⟩ := hr
 have H := (hF2 K).nf rfl
 refine s_end Z [0, 4] rfl fun Z => ?_
 refine p_then ?_
 refine f_cond Z rfl (fun hc1 => ?_) (fun hc1 => ?_)
 ·replace hF := ite_t hc1 hF
  refine wp_seq (f_region Z ?_); clear Z; intro Z
  refine s_runk tRsWZ Z 1 rfl rfl fun a Z => ?_
  refine s_end Z [2] rfl fun Z => ?_
  refine p_then (wp_ret ?_)
  refine p_then_r ?_
  obtain rfl := some_in hF
  exact f_ret Z (run_results1 rfl Z rfl) ⟨rfl, I1, (H.sub [] rfl).eq rfl⟩
 ·replace hF := ite_f hc1 hF
  refine wp_skip ?_
  refine p_then (wp_seq ?_)
  cases hF

def F_rstate_State_Find_nil (client : Int) (req : Int) : Option Int := (F_rstate_State_none_nil).bind fun n0 => (if (n0) = true then (some (-1)) else (none))

set_option maxHeartbeats 1000000 in
theorem c_rstate_State_Find_nil {I D : Dm} {client : Int} {req : Int} {w : World} {rr : Int} (hF : F_rstate_State_Find_nil client req = some rr) (H : St I D w []) :
  Calls Try.prog 27 #[nP, vI client, vI req] w (Ret fun vv w' => vv = vI rr ∧ ∃ I', Hf I D w I' w' []) := by
 replace H := H.hf
 unfold F_rstate_State_Find_nil at hF
 refine f_enter 16 Try.func27 rfl rfl (Nat.le_of_ble_eq_true rfl) fun a Z => ?_
 replace Z := Z.sub (ts := [0, 1, 2]) rfl
 refine wp_seq (f_region Z ?_); clear Z; intro Z
 refine s_runk tRsWZ Z 1 rfl rfl fun a Z => ?_
 refine s_end Z [0, 1, 2] rfl fun Z => ?_
 refine p_then (wp_seq ?_)
 refine wp_seq ?_
 obtain ⟨n0, hx1, hF⟩ := bnd_in hF
 refine f_region Z fun Z => ?_
 refine s_runk tRsWZ Z 1 rfl rfl fun a Z => ?_
 refine hC Z H [] rfl #[] fn_30_YRsWZ rfl rfl (fun D h => have q := c_rstate_State_none_nil hx1 h; q) fun vv a w1 D2 hr hF2 Z => ?_
 obtain ⟨rfl, I1, K⟩ := hr
 have H := (hF2 K).nf rfl
 refine s_end Z [0, 1, 2, 8] rfl fun Z => ?_
 refine p_then ?_
 refine f_cond Z rfl (fun hc1 => ?_) (fun hc1 => ?_)
 ·replace hF := ite_t hc1 hF
  refine wp_seq (f_region Z ?_); clear Z; intro Z
  refine s_runk tRsWZ Z 1 rfl rfl fun a Z => ?_
  refine s_end Z [6] rfl fun Z => ?_
  refine p_then (wp_ret ?_)
  refine p_then_r ?_
  obtain rfl := some_in hF
  exact f_ret Z (run_results1 rfl Z rfl) ⟨rfl, I1, (H.sub [] rfl).eq rfl⟩
 ·replace hF := ite_f hc1 hF
  refine wp_skip ?_
  refine p_then (wp_seq ?_)
  cases hF

def F_law30_RstateZero (n0 : ENote) : Option Bool := (F_law28_Parts [n0]).bind fun p => (if (decide (p > 20)) = true then ((F_law30_awake).bind fun a0 => (some a0)) else ((F_rstate_State_Notes_nil).bind fun n0_2 => ((F_rstate_State_Notes (default : Erstate_State)).bind fun n0_3 => (chk (inI ((n0_2.length : Int) + (n0_3.length : Int))) ((F_rstate_State_All_nil).bind fun n0_4 => (chk (inI ((n0_2.length : Int) + (n0_3.length : Int) + (n0_4.length : Int))) ((F_rstate_State_All (default : Erstate_State)).bind fun a0_2 => (chk (inI ((n0_2.length : Int) + (n0_3.length : Int) + (n0_4.length : Int) + (a0_2.length : Int))) ((F_rstate_State_Len_nil).bind fun n0_5 => (chk (inI ((n0_2.length : Int) + (n0_3.length : Int) + (n0_4.length : Int) + (a0_2.length : Int) + n0_5)) ((F_rstate_State_Len (default : Erstate_State)).bind fun l => (chk (inI ((n0_2.length : Int) + (n0_3.length : Int) + (n0_4.length : Int) + (a0_2.length : Int) + n0_5 + l)) ((F_rstate_State_Stamped_nil).bind fun n0_6 => (chk (inI ((n0_2.length : Int) + (n0_3.length : Int) + (n0_4.length : Int) + (a0_2.length : Int) + n0_5 + l + n0_6)) ((F_rstate_State_Stamped (default : Erstate_State)).bind fun s0 => (chk (inI ((n0_2.length : Int) + (n0_3.length : Int) + (n0_4.length : Int) + (a0_2.length : Int) + n0_5 + l + n0_6 + s0.1)) ((F_rstate_State_Top_nil n0.n).bind fun n0_7 => (chk (inI ((n0_2.length : Int) + (n0_3.length : Int) + (n0_4.length : Int) + (a0_2.length : Int) + n0_5 + l + n0_6 + s0.1 + n0_7)) ((F_rstate_State_Top s0.2 n0.n).bind fun t => (chk (inI ((n0_2.length : Int) + (n0_3.length : Int) + (n0_4.length : Int) + (a0_2.length : Int) + n0_5 + l + n0_6 + s0.1 + n0_7 + t)) ((F_rstate_State_Conf_nil).bind fun n0_8 => (chk (inI ((n0_2.length : Int) + (n0_3.length : Int) + (n0_4.length : Int) + (a0_2.length : Int) + n0_5 + l + n0_6 + s0.1 + n0_7 + t + n0_8.epoch)) ((F_rstate_State_Conf s0.2).bind fun c => (chk (inI ((n0_2.length : Int) + (n0_3.length : Int) + (n0_4.length : Int) + (a0_2.length : Int) + n0_5 + l + n0_6 + s0.1 + n0_7 + t + n0_8.epoch + c.epoch)) ((F_mvcc_New).bind fun n0_9 => ((F_rstate_State_Feed_nil n0_9 0 9).bind fun n0_10 => (chk (inI ((n0_2.length : Int) + (n0_3.length : Int) + (n0_4.length : Int) + (a0_2.length : Int) + n0_5 + l + n0_6 + s0.1 + n0_7 + t + n0_8.epoch + c.epoch + n0_10)) ((F_rstate_State_Feed_nil1 s0.2 0 9).bind fun n0_11 => (chk (inI ((n0_2.length : Int) + (n0_3.length : Int) + (n0_4.length : Int) + (a0_2.length : Int) + n0_5 + l + n0_6 + s0.1 + n0_7 + t + n0_8.epoch + c.epoch + n0_10 + n0_11.1)) ((gif (((n0_2.length : Int) + (n0_3.length : Int) + (n0_4.length : Int) + (a0_2.length : Int) + n0_5 + l + n0_6 + s0.1 + n0_7 + t + n0_8.epoch + c.epoch + n0_10 + n0_11.1) == 0) (F_rstate_State_Horizon_nil) default).bind fun n0_12 => ((gif (((n0_2.length : Int) + (n0_3.length : Int) + (n0_4.length : Int) + (a0_2.length : Int) + n0_5 + l + n0_6 + s0.1 + n0_7 + t + n0_8.epoch + c.epoch + n0_10 + n0_11.1) == 0) (F_rstate_State_Horizon n0_11.2) default).bind fun h => (chk ((((n0_2.length : Int) + (n0_3.length : Int) + (n0_4.length : Int) + (a0_2.length : Int) + n0_5 + l + n0_6 + s0.1 + n0_7 + t + n0_8.epoch + c.epoch + n0_10 + n0_11.1) == 0) = true → inU (n0_12 + h)) ((gif ((((n0_2.length : Int) + (n0_3.length : Int) + (n0_4.length : Int) + (a0_2.length : Int) + n0_5 + l + n0_6 + s0.1 + n0_7 + t + n0_8.epoch + c.epoch + n0_10 + n0_11.1) == 0) && ((n0_12 + h) == 0)) (F_rstate_State_Find_nil 1 1) default).bind fun n0_13 => ((gif ((((n0_2.length : Int) + (n0_3.length : Int) + (n0_4.length : Int) + (a0_2.length : Int) + n0_5 + l + n0_6 + s0.1 + n0_7 + t + n0_8.epoch + c.epoch + n0_10 + n0_11.1) == 0) && ((n0_12 + h) == 0)) (F_rstate_State_Find n0_11.2 1 1) default).bind fun f => (chk (((((n0_2.length : Int) + (n0_3.length : Int) + (n0_4.length : Int) + (a0_2.length : Int) + n0_5 + l + n0_6 + s0.1 + n0_7 + t + n0_8.epoch + c.epoch + n0_10 + n0_11.1) == 0) && ((n0_12 + h) == 0)) = true → inI (n0_13 + f)) ((gif (((((n0_2.length : Int) + (n0_3.length : Int) + (n0_4.length : Int) + (a0_2.length : Int) + n0_5 + l + n0_6 + s0.1 + n0_7 + t + n0_8.epoch + c.epoch + n0_10 + n0_11.1) == 0) && ((n0_12 + h) == 0)) && ((n0_13 + f) == (-2))) (F_law30_awake) default).bind fun a0_3 => (some ((((((n0_2.length : Int) + (n0_3.length : Int) + (n0_4.length : Int) + (a0_2.length : Int) + n0_5 + l + n0_6 + s0.1 + n0_7 + t + n0_8.epoch + c.epoch + n0_10 + n0_11.1) == 0) && ((n0_12 + h) == 0)) && ((n0_13 + f) == (-2))) && a0_3))))))))))))))))))))))))))))))))))))))

set_option maxHeartbeats 8000000 in
theorem c_law30_RstateZero {I D : Dm} {n0 : ENote} {v1_n0 : Value} {v2_n0 : Value} {v3_n0 : Value} {w : World} {rr : Bool} (hF : F_law30_RstateZero n0 = some rr) (H : St I D w [SlC NEMember v1_n0 n0.conf.members, SlC Ni64 v2_n0 n0.legit, SlC NEOp v3_n0 n0.entry.batch.ops]) :
  Calls Try.prog 5 #[.agg (cENote n0 v1_n0 v2_n0 v3_n0).toArray] w (Ret fun vv w' => vv = vT rr ∧ ∃ I', Hf I D w I' w' []) := by
 replace H := H.hf
 unfold F_law30_RstateZero at hF
 refine f_enter 84 Try.func5 rfl rfl (Nat.le_of_ble_eq_true rfl) fun a Z => ?_
 replace Z := Z.sub (ts := [0]) rfl
 refine wp_seq (f_region Z ?_); clear Z; intro Z
 refine h_boxv Z H (cl := (cENote n0 v1_n0 v2_n0 v3_n0)) rfl rfl rfl (by decide) rfl rfl rfl fun a w1 b1 H Z => ?_
 refine s_runk tRsWZ Z 1 rfl rfl fun a Z => ?_
 refine s_end Z [1] rfl fun Z => ?_
 refine p_then (wp_seq ?_)
 refine wp_seq ?_
 obtain ⟨p, hx1, hF⟩ := bnd_in hF
 refine f_region Z fun Z => ?_
 refine sO Z (.agg (cENote n0 v1_n0 v2_n0 v3_n0).toArray) rfl (oA tRsWZ rfl rfl ((H.bx 0 rfl).part 0 rfl)) fun a Z => ?_
 refine h_bslice Z H (vs := [(0, .agg #[vI n0.k, vI n0.n, vU n0.at_, vI n0.conf.epoch, v1_n0, vU n0.conf.floor, v2_n0, vI n0.entry.batch.client, vI n0.entry.batch.req, v3_n0, vU n0.entry.ts, vI n0.pin.id, vU n0.pin.at_, vI n0.pin.left, vI n0.said.client, vI n0.said.req, vI n0.said.e, vI n0.said.pin])]) (cl := [vI n0.k, vI n0.n, vU n0.at_, vI n0.conf.epoch, v1_n0, vU n0.conf.floor, v2_n0, vI n0.entry.batch.client, vI n0.entry.batch.req, v3_n0, vU n0.entry.ts, vI n0.pin.id, vU n0.pin.at_, vI n0.pin.left, vI n0.said.client, vI n0.said.req, vI n0.said.e, vI n0.said.pin]) (e := 46) rfl rfl rfl (by decide) rfl rfl (fun w => run_bslice (z := .agg #[vI 0, vI 0, vU 0, vI 0, nS, vU 0, nS, vI 0, vI 0, nS, vU 0, vI 0, vU 0, vI 0, vI 0, vI 0, vI 0, vI 0]) (m := 18) Try.underlying22 (by kernel_rfl) rfl rfl (by decide) (by simp [Instr.fill, Value.cells]) w) fun a w2 b2 H Z => ?_
 obtain ⟨I1, _, H⟩ := H.frzlit 0 rfl (R := NENote) [(cENote n0 v1_n0 v2_n0 v3_n0)] [n0] rfl rfl (fun i h1 h2 => by match i, h1, h2 with | 0, _, _ => exact ⟨_, _, _, rfl, (H.sl 2 rfl), (H.sl 3 rfl), (H.sl 4 rfl)⟩) (show 1 ≤ maxLen from by decide) (n := 1) rfl
 replace H := H.nf rfl; try dsimp only at H
 refine hC Z H [(0, true)] rfl #[] fn_6_YRsWZ rfl rfl (fun D h => have q := c_law28_Parts hx1 h; q) fun vv a w3 D2 hr hF2 Z => ?_
 obtain ⟨rfl, I2, K⟩ := hr
 have H := (hF2 K).nf rfl
 refine s_runk tRsWZ Z 1 rfl rfl fun a Z => ?_
 refine s_end Z [1, 8] rfl fun Z => ?_
 refine p_then ?_
 refine f_cond Z rfl (fun hc1 => ?_) (fun hc1 => ?_)
 ·replace hF := ite_t hc1 hF
  refine wp_seq ?_
  obtain ⟨a0, hx2, hF⟩ := bnd_in hF
  refine f_region Z fun Z => ?_
  refine hC Z H [] rfl #[] fn_7_YRsWZ rfl rfl (fun D h => have q := c_law30_awake hx2 h; q) fun vv a w4 D2 hr hF2 Z => ?_
  obtain ⟨rfl, I3, K⟩ := hr
  have H := (hF2 K).nf rfl
  refine s_runk tRsWZ Z 1 rfl rfl fun a Z => ?_
  refine s_end Z [2] rfl fun Z => ?_
  refine p_then (wp_ret ?_)
  refine p_then_r ?_
  obtain rfl := some_in hF
  exact f_ret Z (run_results1 rfl Z rfl) ⟨rfl, I3, (H.sub [] rfl).eq rfl⟩
 ·replace hF := ite_f hc1 hF
  refine wp_skip ?_
  refine p_then (wp_seq (f_region Z ?_)); clear Z; intro Z
  refine s_runk tRsWZ Z 1 rfl rfl fun a Z => ?_
  refine s_end Z [1, 3] rfl fun Z => ?_
  refine p_then (wp_seq (f_region Z ?_)); clear Z; intro Z
  refine hA Z H [nP, vI 0, nS, vU 0, vU 0] rfl rfl (by kernel_rfl) fun a w5 b3 H Z => ?_
  refine s_end Z [1, 3, 4] rfl fun Z => ?_
  refine p_then (wp_seq ?_)
  replace H := H.mkN OErlog_Log
  replace H := H.nilow NEMember 115
  replace H := H.sX (OErstate_State b3 (default : Erstate_State)) (nP, nS) [(2, false), (1, false), (0, false)] rfl rfl rfl
  obtain ⟨n0_2, hx3, hF⟩ := bnd_in hF
  obtain ⟨n0_3, hx4, hF⟩ := bnd_in hF
  obtain ⟨hg1, hF⟩ := chk_in hF
  obtain ⟨n0_4, hx5, hF⟩ := bnd_in hF
  obtain ⟨hg2, hF⟩ := chk_in hF
  obtain ⟨a0_2, hx6, hF⟩ := bnd_in hF
  obtain ⟨hg3, hF⟩ := chk_in hF
  obtain ⟨n0_5, hx7, hF⟩ := bnd_in hF
  obtain ⟨hg4, hF⟩ := chk_in hF
  obtain ⟨l, hx8, hF⟩ := bnd_in hF
  obtain ⟨hg5, hF⟩ := chk_in hF
  obtain ⟨n0_6, hx9, hF⟩ := bnd_in hF
  obtain ⟨hg6, hF⟩ := chk_in hF
  obtain ⟨s0, hx10, hF⟩ := bnd_in hF
  obtain ⟨hg7, hF⟩ := chk_in hF
  obtain ⟨n0_7, hx11, hF⟩ := bnd_in hF
  obtain ⟨hg8, hF⟩ := chk_in hF
  obtain ⟨t, hx12, hF⟩ := bnd_in hF
  obtain ⟨hg9, hF⟩ := chk_in hF
  obtain ⟨n0_8, hx13, hF⟩ := bnd_in hF
  obtain ⟨hg10, hF⟩ := chk_in hF
  obtain ⟨c, hx14, hF⟩ := bnd_in hF
  obtain ⟨hg11, hF⟩ := chk_in hF
  obtain ⟨n0_9, hx15, hF⟩ := bnd_in hF
  obtain ⟨n0_10, hx16, hF⟩ := bnd_in hF
  obtain ⟨hg12, hF⟩ := chk_in hF
  obtain ⟨n0_11, hx17, hF⟩ := bnd_in hF
  obtain ⟨hg13, hF⟩ := chk_in hF
  obtain ⟨n0_12, hx18, hF⟩ := bnd_in hF
  obtain ⟨h, hx19, hF⟩ := bnd_in hF
  obtain ⟨hg14, hF⟩ := chk_in hF
  obtain ⟨n0_13, hx20, hF⟩ := bnd_in hF
  obtain ⟨f, hx21, hF⟩ := bnd_in hF
  obtain ⟨hg15, hF⟩ := chk_in hF
  obtain ⟨a0_3, hx22, hF⟩ := bnd_in hF
  refine f_regionL Z (by kernel_rfl) (by kernel_rfl) (by decide) (by decide) [6, 11, 13, 17, 20, 26, 31, 40, 43, 46, 50, 51, 53, 60, 67] [(0, 0, 0), (0, 0, 0), (3, 0, 0), (7, 0, 0), (15, 0, 0), (31, 0, 0), (63, 0, 0), (127, 1, 1), (255, 1, 1), (511, 1, 1), (1023, 1, 1), (2047, 1, 1), (4095, 2, 13), (4095, 2, 2), (12287, 3, 13), (32767, 3, 13), (1023, 1, 3), (77823, 3, 3), (208895, 4, 13), (524287, 4, 13), (208895, 4, 4), (1257471, 5, 13), (4194303, 5, 13), (1023, 1, 5), (9646079, 5, 5), (33554431, 5, 13), (26423295, 5, 5), (134217727, 6, 13), (1023, 1, 6), (361967615, 6, 6), (1073741823, 6, 13), (898838527, 6, 6), (4294967295, 7, 13), (1023, 1, 7), (1023, 1, 7), (17179870207, 1, 7), (63175864319, 7, 7), (137438953471, 7, 13), (1023, 1, 7), (274877907967, 1, 7), (956529061887, 7, 7), (2199023255551, 8, 13), (1023, 1, 8), (6454087200767, 8, 8), (15250180222975, 9, 13), (35184372088831, 9, 13), (15250180222975, 9, 9), (85618924400639, 10, 13), (281474976710655, 10, 13), (1023, 1, 11), (85618924400639, 10, 10), (1774468784664575, 11, 11), (4503599627370495, 12, 13), (4026268598349823, 12, 12), (18014398509481983, 13, 13), (36028797018963967, 13, 13), (72057594037927935, 13, 13), (144115188075855871, 13, 13), (288230376151711743, 13, 13), (576460752303423487, 13, 13), (1152921504606846975, 13, 13), (2305843009213693951, 14, 14), (4611686018427387903, 14, 14), (9223372036854775807, 14, 14), (18446744073709551615, 14, 14), (36893488147419103231, 14, 14), (73786976294838206463, 14, 14), (147573952589676412927, 14, 14), (295147905179352825855, 15, 15), (590295810358705651711, 15, 15), (1180591620717411303423, 15, 15), (2361183241434822606847, 15, 15), (4722366482869645213695, 15, 15), (9444732965739290427391, 15, 15), (18889465931478580854783, 15, 15)] (by kernel_rfl) (fun jj vv => cond (Nat.blt jj 37) (cond (Nat.blt jj 18) (cond (Nat.blt jj 9) (cond (Nat.blt jj 4) (cond (Nat.blt jj 2) (cond (Nat.blt jj 1) (vv = nP) (vv = .agg (cENote n0 v1_n0 v2_n0 v3_n0).toArray)) (cond (Nat.blt jj 3) (vv = vI 8) (vv = vT true))) (cond (Nat.blt jj 6) (cond (Nat.blt jj 5) (vv = vT true) (vv = .agg (cENote n0 v1_n0 v2_n0 v3_n0).toArray)) (cond (Nat.blt jj 7) (vv = vI 8) (cond (Nat.blt jj 8) (vv = vT true) (vv = vT true))))) (cond (Nat.blt jj 13) (cond (Nat.blt jj 11) (cond (Nat.blt jj 10) (vv = vT true) (vv = nP)) (cond (Nat.blt jj 12) (True) (vv = vI (ln n0_2)))) (cond (Nat.blt jj 15) (cond (Nat.blt jj 14) (True) (vv = vI (ln n0_3))) (cond (Nat.blt jj 16) (vv = vI ((ln n0_2) + (ln n0_3))) (cond (Nat.blt jj 17) (vv = nP) (True)))))) (cond (Nat.blt jj 27) (cond (Nat.blt jj 22) (cond (Nat.blt jj 20) (cond (Nat.blt jj 19) (vv = vI (ln n0_4)) (vv = vI ((ln n0_2) + (ln n0_3) + (ln n0_4)))) (cond (Nat.blt jj 21) (True) (vv = vI (ln a0_2)))) (cond (Nat.blt jj 24) (cond (Nat.blt jj 23) (vv = vI ((ln n0_2) + (ln n0_3) + (ln n0_4) + (ln a0_2))) (vv = nP)) (cond (Nat.blt jj 25) (vv = vI n0_5) (cond (Nat.blt jj 26) (vv = vI ((ln n0_2) + (ln n0_3) + (ln n0_4) + (ln a0_2) + n0_5)) (vv = vI l))))) (cond (Nat.blt jj 32) (cond (Nat.blt jj 29) (cond (Nat.blt jj 28) (vv = vI ((ln n0_2) + (ln n0_3) + (ln n0_4) + (ln a0_2) + n0_5 + l)) (vv = nP)) (cond (Nat.blt jj 30) (vv = vI n0_6) (cond (Nat.blt jj 31) (vv = vI ((ln n0_2) + (ln n0_3) + (ln n0_4) + (ln a0_2) + n0_5 + l + n0_6)) (vv = vI s0.1)))) (cond (Nat.blt jj 34) (cond (Nat.blt jj 33) (vv = vI ((ln n0_2) + (ln n0_3) + (ln n0_4) + (ln a0_2) + n0_5 + l + n0_6 + s0.1)) (vv = nP)) (cond (Nat.blt jj 35) (vv = pp b1 1) (cond (Nat.blt jj 36) (vv = vI n0.n) (vv = vI n0_7))))))) (cond (Nat.blt jj 56) (cond (Nat.blt jj 46) (cond (Nat.blt jj 41) (cond (Nat.blt jj 39) (cond (Nat.blt jj 38) (vv = vI ((ln n0_2) + (ln n0_3) + (ln n0_4) + (ln a0_2) + n0_5 + l + n0_6 + s0.1 + n0_7)) (vv = pp b1 1)) (cond (Nat.blt jj 40) (vv = vI n0.n) (vv = vI t))) (cond (Nat.blt jj 43) (cond (Nat.blt jj 42) (vv = vI ((ln n0_2) + (ln n0_3) + (ln n0_4) + (ln a0_2) + n0_5 + l + n0_6 + s0.1 + n0_7 + t)) (vv = nP)) (cond (Nat.blt jj 44) (vv = .agg #[vI n0_8.epoch, (aggAt vv 1), vU n0_8.floor]) (cond (Nat.blt jj 45) (vv = vI n0_8.epoch) (vv = vI ((ln n0_2) + (ln n0_3) + (ln n0_4) + (ln a0_2) + n0_5 + l + n0_6 + s0.1 + n0_7 + t + n0_8.epoch)))))) (cond (Nat.blt jj 51) (cond (Nat.blt jj 48) (cond (Nat.blt jj 47) (vv = .agg #[vI c.epoch, (aggAt vv 1), vU c.floor]) (vv = vI c.epoch)) (cond (Nat.blt jj 49) (vv = vI ((ln n0_2) + (ln n0_3) + (ln n0_4) + (ln a0_2) + n0_5 + l + n0_6 + s0.1 + n0_7 + t + n0_8.epoch + c.epoch)) (cond (Nat.blt jj 50) (vv = nP) (vv = .pointer (some ⟨(blkOf vv), 0, none⟩))))) (cond (Nat.blt jj 53) (cond (Nat.blt jj 52) (vv = vI n0_10) (vv = vI ((ln n0_2) + (ln n0_3) + (ln n0_4) + (ln a0_2) + n0_5 + l + n0_6 + s0.1 + n0_7 + t + n0_8.epoch + c.epoch + n0_10))) (cond (Nat.blt jj 54) (vv = vI n0_11.1) (cond (Nat.blt jj 55) (vv = vI ((ln n0_2) + (ln n0_3) + (ln n0_4) + (ln a0_2) + n0_5 + l + n0_6 + s0.1 + n0_7 + t + n0_8.epoch + c.epoch + n0_10 + n0_11.1)) (vv = vT (((ln n0_2) + (ln n0_3) + (ln n0_4) + (ln a0_2) + n0_5 + l + n0_6 + s0.1 + n0_7 + t + n0_8.epoch + c.epoch + n0_10 + n0_11.1) == 0))))))) (cond (Nat.blt jj 65) (cond (Nat.blt jj 60) (cond (Nat.blt jj 58) (cond (Nat.blt jj 57) (vv = vT (((ln n0_2) + (ln n0_3) + (ln n0_4) + (ln a0_2) + n0_5 + l + n0_6 + s0.1 + n0_7 + t + n0_8.epoch + c.epoch + n0_10 + n0_11.1) == 0)) (vv = vT (((ln n0_2) + (ln n0_3) + (ln n0_4) + (ln a0_2) + n0_5 + l + n0_6 + s0.1 + n0_7 + t + n0_8.epoch + c.epoch + n0_10 + n0_11.1) == 0))) (cond (Nat.blt jj 59) (vv = cond (((ln n0_2) + (ln n0_3) + (ln n0_4) + (ln a0_2) + n0_5 + l + n0_6 + s0.1 + n0_7 + t + n0_8.epoch + c.epoch + n0_10 + n0_11.1) == 0) (nP) undef) (vv = cond (((ln n0_2) + (ln n0_3) + (ln n0_4) + (ln a0_2) + n0_5 + l + n0_6 + s0.1 + n0_7 + t + n0_8.epoch + c.epoch + n0_10 + n0_11.1) == 0) (vU n0_12) undef))) (cond (Nat.blt jj 62) (cond (Nat.blt jj 61) (vv = cond (((ln n0_2) + (ln n0_3) + (ln n0_4) + (ln a0_2) + n0_5 + l + n0_6 + s0.1 + n0_7 + t + n0_8.epoch + c.epoch + n0_10 + n0_11.1) == 0) (vU h) undef) (vv = cond (((ln n0_2) + (ln n0_3) + (ln n0_4) + (ln a0_2) + n0_5 + l + n0_6 + s0.1 + n0_7 + t + n0_8.epoch + c.epoch + n0_10 + n0_11.1) == 0) (vU (n0_12 + h)) undef)) (cond (Nat.blt jj 63) (vv = cond (((ln n0_2) + (ln n0_3) + (ln n0_4) + (ln a0_2) + n0_5 + l + n0_6 + s0.1 + n0_7 + t + n0_8.epoch + c.epoch + n0_10 + n0_11.1) == 0) (vT ((n0_12 + h) == 0)) undef) (cond (Nat.blt jj 64) (vv = vT ((((ln n0_2) + (ln n0_3) + (ln n0_4) + (ln a0_2) + n0_5 + l + n0_6 + s0.1 + n0_7 + t + n0_8.epoch + c.epoch + n0_10 + n0_11.1) == 0) && ((n0_12 + h) == 0))) (vv = vT ((((ln n0_2) + (ln n0_3) + (ln n0_4) + (ln a0_2) + n0_5 + l + n0_6 + s0.1 + n0_7 + t + n0_8.epoch + c.epoch + n0_10 + n0_11.1) == 0) && ((n0_12 + h) == 0))))))) (cond (Nat.blt jj 70) (cond (Nat.blt jj 67) (cond (Nat.blt jj 66) (vv = cond ((((ln n0_2) + (ln n0_3) + (ln n0_4) + (ln a0_2) + n0_5 + l + n0_6 + s0.1 + n0_7 + t + n0_8.epoch + c.epoch + n0_10 + n0_11.1) == 0) && ((n0_12 + h) == 0)) (nP) undef) (vv = cond ((((ln n0_2) + (ln n0_3) + (ln n0_4) + (ln a0_2) + n0_5 + l + n0_6 + s0.1 + n0_7 + t + n0_8.epoch + c.epoch + n0_10 + n0_11.1) == 0) && ((n0_12 + h) == 0)) (vI n0_13) undef)) (cond (Nat.blt jj 68) (vv = cond ((((ln n0_2) + (ln n0_3) + (ln n0_4) + (ln a0_2) + n0_5 + l + n0_6 + s0.1 + n0_7 + t + n0_8.epoch + c.epoch + n0_10 + n0_11.1) == 0) && ((n0_12 + h) == 0)) (vI f) undef) (cond (Nat.blt jj 69) (vv = cond ((((ln n0_2) + (ln n0_3) + (ln n0_4) + (ln a0_2) + n0_5 + l + n0_6 + s0.1 + n0_7 + t + n0_8.epoch + c.epoch + n0_10 + n0_11.1) == 0) && ((n0_12 + h) == 0)) (vI (n0_13 + f)) undef) (vv = cond ((((ln n0_2) + (ln n0_3) + (ln n0_4) + (ln a0_2) + n0_5 + l + n0_6 + s0.1 + n0_7 + t + n0_8.epoch + c.epoch + n0_10 + n0_11.1) == 0) && ((n0_12 + h) == 0)) (vT ((n0_13 + f) == (-2))) undef)))) (cond (Nat.blt jj 72) (cond (Nat.blt jj 71) (vv = vT (((((ln n0_2) + (ln n0_3) + (ln n0_4) + (ln a0_2) + n0_5 + l + n0_6 + s0.1 + n0_7 + t + n0_8.epoch + c.epoch + n0_10 + n0_11.1) == 0) && ((n0_12 + h) == 0)) && ((n0_13 + f) == (-2)))) (vv = vT (((((ln n0_2) + (ln n0_3) + (ln n0_4) + (ln a0_2) + n0_5 + l + n0_6 + s0.1 + n0_7 + t + n0_8.epoch + c.epoch + n0_10 + n0_11.1) == 0) && ((n0_12 + h) == 0)) && ((n0_13 + f) == (-2))))) (cond (Nat.blt jj 73) (vv = cond (((((ln n0_2) + (ln n0_3) + (ln n0_4) + (ln a0_2) + n0_5 + l + n0_6 + s0.1 + n0_7 + t + n0_8.epoch + c.epoch + n0_10 + n0_11.1) == 0) && ((n0_12 + h) == 0)) && ((n0_13 + f) == (-2))) (vT a0_3) undef) (cond (Nat.blt jj 74) (vv = vT ((((((ln n0_2) + (ln n0_3) + (ln n0_4) + (ln a0_2) + n0_5 + l + n0_6 + s0.1 + n0_7 + t + n0_8.epoch + c.epoch + n0_10 + n0_11.1) == 0) && ((n0_12 + h) == 0)) && ((n0_13 + f) == (-2))) && a0_3)) (vv = vT ((((((ln n0_2) + (ln n0_3) + (ln n0_4) + (ln a0_2) + n0_5 + l + n0_6 + s0.1 + n0_7 + t + n0_8.epoch + c.epoch + n0_10 + n0_11.1) == 0) && ((n0_12 + h) == 0)) && ((n0_13 + f) == (-2))) && a0_3))))))))) (fun ss vals1 xw => match ss with | 0 => Gx I D w I2 w5 xw [OErstate_State b3 (default : Erstate_State), SlC NENote (.slice (some ⟨b2, 0, none⟩) 1 1) [n0], BxC b1 46 (cENote n0 v1_n0 v2_n0 v3_n0), SlC NEMember v1_n0 n0.conf.members, SlC Ni64 v2_n0 n0.legit, SlC NEOp v3_n0 n0.entry.batch.ops] | 1 => Gx I D w I2 w5 xw [OErstate_State b3 (default : Erstate_State), SlC NENote (.slice (some ⟨b2, 0, none⟩) 1 1) [n0], BxC b1 46 (cENote n0 v1_n0 v2_n0 v3_n0), SlC NEMember v1_n0 n0.conf.members, SlC Ni64 v2_n0 n0.legit, SlC NEOp v3_n0 n0.entry.batch.ops] | 2 => Gx I D w I2 w5 xw [SlC NENote (vals1 11) n0_2, OErstate_State b3 (default : Erstate_State), SlC NENote (.slice (some ⟨b2, 0, none⟩) 1 1) [n0], BxC b1 46 (cENote n0 v1_n0 v2_n0 v3_n0), SlC NEMember v1_n0 n0.conf.members, SlC Ni64 v2_n0 n0.legit, SlC NEOp v3_n0 n0.entry.batch.ops] | 3 => Gx I D w I2 w5 xw [OErstate_State b3 (default : Erstate_State), SlC NENote (vals1 13) n0_3, SlC NENote (vals1 11) n0_2, SlC NENote (.slice (some ⟨b2, 0, none⟩) 1 1) [n0], BxC b1 46 (cENote n0 v1_n0 v2_n0 v3_n0), SlC NEMember v1_n0 n0.conf.members, SlC Ni64 v2_n0 n0.legit, SlC NEOp v3_n0 n0.entry.batch.ops] | 4 => Gx I D w I2 w5 xw [SlC NEEntry (vals1 17) n0_4, OErstate_State b3 (default : Erstate_State), SlC NENote (vals1 13) n0_3, SlC NENote (vals1 11) n0_2, SlC NENote (.slice (some ⟨b2, 0, none⟩) 1 1) [n0], BxC b1 46 (cENote n0 v1_n0 v2_n0 v3_n0), SlC NEMember v1_n0 n0.conf.members, SlC Ni64 v2_n0 n0.legit, SlC NEOp v3_n0 n0.entry.batch.ops] | 5 => Gx I D w I2 w5 xw [OErstate_State b3 (default : Erstate_State), SlC NEEntry (vals1 20) a0_2, SlC NEEntry (vals1 17) n0_4, SlC NENote (vals1 13) n0_3, SlC NENote (vals1 11) n0_2, SlC NENote (.slice (some ⟨b2, 0, none⟩) 1 1) [n0], BxC b1 46 (cENote n0 v1_n0 v2_n0 v3_n0), SlC NEMember v1_n0 n0.conf.members, SlC Ni64 v2_n0 n0.legit, SlC NEOp v3_n0 n0.entry.batch.ops] | 6 => Gx I D w I2 w5 xw [OErstate_State b3 (default : Erstate_State), SlC NEEntry (vals1 20) a0_2, SlC NEEntry (vals1 17) n0_4, SlC NENote (vals1 13) n0_3, SlC NENote (vals1 11) n0_2, SlC NENote (.slice (some ⟨b2, 0, none⟩) 1 1) [n0], BxC b1 46 (cENote n0 v1_n0 v2_n0 v3_n0), SlC NEMember v1_n0 n0.conf.members, SlC Ni64 v2_n0 n0.legit, SlC NEOp v3_n0 n0.entry.batch.ops] | 7 => Gx I D w I2 w5 xw [OErstate_State b3 s0.2, SlC NEEntry (vals1 20) a0_2, SlC NEEntry (vals1 17) n0_4, SlC NENote (vals1 13) n0_3, SlC NENote (vals1 11) n0_2, SlC NENote (.slice (some ⟨b2, 0, none⟩) 1 1) [n0], BxC b1 46 (cENote n0 v1_n0 v2_n0 v3_n0), SlC NEMember v1_n0 n0.conf.members, SlC Ni64 v2_n0 n0.legit, SlC NEOp v3_n0 n0.entry.batch.ops] | 8 => Gx I D w I2 w5 xw [OErstate_State b3 s0.2, SlC NEEntry (vals1 20) a0_2, SlC NEEntry (vals1 17) n0_4, SlC NENote (vals1 13) n0_3, SlC NENote (vals1 11) n0_2, SlC NENote (.slice (some ⟨b2, 0, none⟩) 1 1) [n0], BxC b1 46 (cENote n0 v1_n0 v2_n0 v3_n0), SlC NEMember v1_n0 n0.conf.members, SlC Ni64 v2_n0 n0.legit, SlC NEOp v3_n0 n0.entry.batch.ops] | 9 => Gx I D w I2 w5 xw [SlC NEMember (aggAt (vals1 43) 1) n0_8.members, OErstate_State b3 s0.2, SlC NEEntry (vals1 20) a0_2, SlC NEEntry (vals1 17) n0_4, SlC NENote (vals1 13) n0_3, SlC NENote (vals1 11) n0_2, SlC NENote (.slice (some ⟨b2, 0, none⟩) 1 1) [n0], BxC b1 46 (cENote n0 v1_n0 v2_n0 v3_n0), SlC NEMember v1_n0 n0.conf.members, SlC Ni64 v2_n0 n0.legit, SlC NEOp v3_n0 n0.entry.batch.ops] | 10 => Gx I D w I2 w5 xw [OErstate_State b3 s0.2, SlC NEMember (aggAt (vals1 46) 1) c.members, SlC NEMember (aggAt (vals1 43) 1) n0_8.members, SlC NEEntry (vals1 20) a0_2, SlC NEEntry (vals1 17) n0_4, SlC NENote (vals1 13) n0_3, SlC NENote (vals1 11) n0_2, SlC NENote (.slice (some ⟨b2, 0, none⟩) 1 1) [n0], BxC b1 46 (cENote n0 v1_n0 v2_n0 v3_n0), SlC NEMember v1_n0 n0.conf.members, SlC Ni64 v2_n0 n0.legit, SlC NEOp v3_n0 n0.entry.batch.ops] | 11 => Gx I D w I2 w5 xw [OEmvcc_Store (blkOf (vals1 50)) n0_9, OErstate_State b3 s0.2, SlC NEMember (aggAt (vals1 46) 1) c.members, SlC NEMember (aggAt (vals1 43) 1) n0_8.members, SlC NEEntry (vals1 20) a0_2, SlC NEEntry (vals1 17) n0_4, SlC NENote (vals1 13) n0_3, SlC NENote (vals1 11) n0_2, SlC NENote (.slice (some ⟨b2, 0, none⟩) 1 1) [n0], BxC b1 46 (cENote n0 v1_n0 v2_n0 v3_n0), SlC NEMember v1_n0 n0.conf.members, SlC Ni64 v2_n0 n0.legit, SlC NEOp v3_n0 n0.entry.batch.ops] | 12 => Gx I D w I2 w5 xw [OEmvcc_Store (blkOf (vals1 50)) n0_9, OErstate_State b3 s0.2, SlC NEMember (aggAt (vals1 46) 1) c.members, SlC NEMember (aggAt (vals1 43) 1) n0_8.members, SlC NEEntry (vals1 20) a0_2, SlC NEEntry (vals1 17) n0_4, SlC NENote (vals1 13) n0_3, SlC NENote (vals1 11) n0_2, SlC NENote (.slice (some ⟨b2, 0, none⟩) 1 1) [n0], BxC b1 46 (cENote n0 v1_n0 v2_n0 v3_n0), SlC NEMember v1_n0 n0.conf.members, SlC Ni64 v2_n0 n0.legit, SlC NEOp v3_n0 n0.entry.batch.ops] | 13 => Gx I D w I2 w5 xw [OErstate_State b3 n0_11.2, OEmvcc_Store (blkOf (vals1 50)) n0_9, SlC NEMember (aggAt (vals1 46) 1) c.members, SlC NEMember (aggAt (vals1 43) 1) n0_8.members, SlC NEEntry (vals1 20) a0_2, SlC NEEntry (vals1 17) n0_4, SlC NENote (vals1 13) n0_3, SlC NENote (vals1 11) n0_2, SlC NENote (.slice (some ⟨b2, 0, none⟩) 1 1) [n0], BxC b1 46 (cENote n0 v1_n0 v2_n0 v3_n0), SlC NEMember v1_n0 n0.conf.members, SlC Ni64 v2_n0 n0.legit, SlC NEOp v3_n0 n0.entry.batch.ops] | 14 => Gx I D w I2 w5 xw [OErstate_State b3 n0_11.2, OEmvcc_Store (blkOf (vals1 50)) n0_9, SlC NEMember (aggAt (vals1 46) 1) c.members, SlC NEMember (aggAt (vals1 43) 1) n0_8.members, SlC NEEntry (vals1 20) a0_2, SlC NEEntry (vals1 17) n0_4, SlC NENote (vals1 13) n0_3, SlC NENote (vals1 11) n0_2, SlC NENote (.slice (some ⟨b2, 0, none⟩) 1 1) [n0], BxC b1 46 (cENote n0 v1_n0 v2_n0 v3_n0), SlC NEMember v1_n0 n0.conf.members, SlC Ni64 v2_n0 n0.legit, SlC NEOp v3_n0 n0.entry.batch.ops] | _ => Gx I D w I2 w5 xw [OErstate_State b3 n0_11.2, OEmvcc_Store (blkOf (vals1 50)) n0_9, SlC NEMember (aggAt (vals1 46) 1) c.members, SlC NEMember (aggAt (vals1 43) 1) n0_8.members, SlC NEEntry (vals1 20) a0_2, SlC NEEntry (vals1 17) n0_4, SlC NENote (vals1 13) n0_3, SlC NENote (vals1 11) n0_2, SlC NENote (.slice (some ⟨b2, 0, none⟩) 1 1) [n0], BxC b1 46 (cENote n0 v1_n0 v2_n0 v3_n0), SlC NEMember v1_n0 n0.conf.members, SlC Ni64 v2_n0 n0.legit, SlC NEOp v3_n0 n0.entry.batch.ops]) (fun _ => Gx.start H) ?_ ?_
  ·intro fr hfr hfe
   refine .cons (fun ss hlo hhi vals1 xw hG hV => ?_) ?_
   ·obtain rfl : ss = 0 := Nat.le_antisymm hhi hlo
    rw [← hfe]
    have hS := (hfr vals1).sub (ts := [3]) rfl
    exact L_val hS rfl (Ob_c tRsWZ rfl) ⟨rfl, hG⟩
   refine .cons (fun ss hlo hhi vals1 xw hG hV => ?_) ?_
   ·obtain rfl : ss = 0 := Nat.le_antisymm hhi hlo
    rw [← hfe]
    have hS := (hfr vals1).sub (ts := [1]) rfl
    obtain ⟨I2, hI2, H⟩ := Gx.ex hG
    exact L_val hS rfl (oA tRsWZ rfl rfl ((H.bx 2 rfl).part 0 rfl)) ⟨rfl, hG⟩
   refine .cons (fun ss hlo hhi vals1 xw hG hV => ?_) ?_
   ·obtain rfl : ss = 0 := Nat.le_antisymm hhi hlo
    rw [← hfe]
    have hS := (hfr vals1).sub (ts := [10, 11]) rfl
    replace hS := hS.conv (t := 10) rfl (show (vals1 0) = nP from hV 0 (by decide))
    replace hS := hS.conv (t := 11) rfl (show (vals1 1) = .agg (cENote n0 v1_n0 v2_n0 v3_n0).toArray from hV 1 (by decide))
    obtain ⟨I2, hI2, H⟩ := Gx.ex hG
    refine L_call (caps := #[]) hS fn_11_YRsWZ rfl rfl rfl rfl rfl ((have hq := c_rstate_State_Apply_nil (show F_rstate_State_Apply_nil n0 = some 8 from rfl) ((H).pick0 (js := [(3, true), (4, true), (5, true)]) rfl rfl); plainC hq)) fun r yw hr => ?_
    obtain ⟨rfl, hb⟩ := hr
    exact ⟨rfl, Gx.blw hG hb⟩
   refine .cons (fun ss hlo hhi vals1 xw hG hV => ?_) ?_
   ·obtain rfl : ss = 0 := Nat.le_antisymm hhi hlo
    rw [← hfe]
    have hS := (hfr vals1).sub (ts := [12]) rfl
    replace hS := hS.conv (t := 12) rfl (show (vals1 2) = vI 8 from hV 2 (by decide))
    exact L_val hS rfl (Ob_c tRsWZ rfl) ⟨rfl, hG⟩
   refine .cons (fun ss hlo hhi vals1 xw hG hV => ?_) ?_
   ·obtain rfl : ss = 0 := Nat.le_antisymm hhi hlo
    rw [← hfe]
    have hS := (hfr vals1).sub (ts := [13]) rfl
    replace hS := hS.conv (t := 13) rfl (show (vals1 3) = vT true from hV 3 (by decide))
    exact L_val hS rfl (Ob_c tRsWZ rfl) ⟨rfl, hG⟩
   refine .cons (fun ss hlo hhi vals1 xw hG hV => ?_) ?_
   ·obtain rfl : ss = 0 := Nat.le_antisymm hhi hlo
    rw [← hfe]
    have hS := (hfr vals1).sub (ts := [14, 1]) rfl
    replace hS := hS.conv (t := 14) rfl (show (vals1 4) = vT true from hV 4 (by decide))
    refine L_gw (p := true) hS rfl rfl rfl rfl (fun _ => ?_) (fun h => by cases h)
    obtain ⟨I2, hI2, H⟩ := Gx.ex hG
    exact L_val hS rfl (oA tRsWZ rfl rfl ((H.bx 2 rfl).part 0 rfl)) ⟨rfl, hG⟩
   refine .cons (fun ss hlo hhi vals1 xw hG hV => ?_) ?_
   ·obtain rfl : ss = 0 := Nat.le_antisymm hhi hlo
    rw [← hfe]
    have hS := (hfr vals1).sub (ts := [15, 14, 4]) rfl
    replace hS := hS.conv (t := 15) rfl (show (vals1 5) = .agg (cENote n0 v1_n0 v2_n0 v3_n0).toArray from hV 5 (by decide))
    replace hS := hS.conv (t := 14) rfl (show (vals1 4) = vT true from hV 4 (by decide))
    refine L_gw (p := true) hS rfl rfl rfl rfl (fun _ => ?_) (fun h => by cases h)
    obtain ⟨I2, hI2, H⟩ := Gx.ex hG
    refine L_hcall H (js := [(0, false), (2, true), (3, true), (4, true)]) rfl (caps := #[]) hS fn_11_YRsWZ rfl rfl rfl rfl rfl (fun D1 hS => have hq := c_rstate_State_Apply (show F_rstate_State_Apply (default : Erstate_State) n0 = some (8, (default : Erstate_State)) from rfl) hS; hq) fun _ yw D1 hr hF2 => ?_
    obtain ⟨rfl, I3, K⟩ := hr
    obtain ⟨hK, H2⟩ := hF2 K
    exact ⟨rfl, Gx.go hG hI2 hK K.imm H2⟩
   refine .cons (fun ss hlo hhi vals1 xw hG hV => ?_) ?_
   ·obtain rfl : ss = 1 := Nat.le_antisymm hhi hlo
    rw [← hfe]
    have hS := (hfr vals1).sub (ts := [16, 14]) rfl
    replace hS := hS.conv (t := 16) rfl (show (vals1 6) = vI 8 from hV 6 (by decide))
    replace hS := hS.conv (t := 14) rfl (show (vals1 4) = vT true from hV 4 (by decide))
    refine L_gw (p := true) hS rfl rfl rfl rfl (fun _ => ?_) (fun h => by cases h)
    exact L_val hS rfl (Ob_c tRsWZ rfl) ⟨rfl, hG⟩
   refine .cons (fun ss hlo hhi vals1 xw hG hV => ?_) ?_
   ·obtain rfl : ss = 1 := Nat.le_antisymm hhi hlo
    rw [← hfe]
    have hS := (hfr vals1).sub (ts := [14, 17]) rfl
    replace hS := hS.conv (t := 14) rfl (show (vals1 4) = vT true from hV 4 (by decide))
    replace hS := hS.conv (t := 17) rfl (show (vals1 7) = vT true from hV 7 (by decide))
    exact L_val hS rfl (Ob_pick rfl rfl rfl rfl rfl) ⟨rfl, hG⟩
   refine .cons (fun ss hlo hhi vals1 xw hG hV => ?_) ?_
   ·obtain rfl : ss = 1 := Nat.le_antisymm hhi hlo
    rw [← hfe]
    have hS := (hfr vals1).sub (ts := [18]) rfl
    replace hS := hS.conv (t := 18) rfl (show (vals1 8) = vT true from hV 8 (by decide))
    exact L_val hS rfl (Ob_c tRsWZ rfl) ⟨rfl, hG⟩
   refine .cons (fun ss hlo hhi vals1 xw hG hV => ?_) ?_
   ·obtain rfl : ss = 1 := Nat.le_antisymm hhi hlo
    rw [← hfe]
    have hS := (hfr vals1).sub (ts := [19, 3]) rfl
    replace hS := hS.conv (t := 19) rfl (show (vals1 9) = vT true from hV 9 (by decide))
    refine L_gw (p := true) hS rfl rfl rfl rfl (fun _ => ?_) (fun h => by cases h)
    exact L_val hS rfl (Ob_c tRsWZ rfl) ⟨rfl, hG⟩
   refine .cons (fun ss hlo hhi vals1 xw hG hV => ?_) ?_
   ·obtain rfl : ss = 1 := Nat.le_antisymm hhi hlo
    rw [← hfe]
    have hS := (hfr vals1).sub (ts := [20, 19]) rfl
    replace hS := hS.conv (t := 20) rfl (show (vals1 10) = nP from hV 10 (by decide))
    replace hS := hS.conv (t := 19) rfl (show (vals1 9) = vT true from hV 9 (by decide))
    refine L_gw (p := true) hS rfl rfl rfl rfl (fun _ => ?_) (fun h => by cases h)
    obtain ⟨I2, hI2, H⟩ := Gx.ex hG
    refine L_hcall H (js := []) rfl (caps := #[]) hS fn_24_YRsWZ rfl rfl rfl rfl rfl (fun D1 hS => have hq := c_rstate_State_Notes_nil hx3 hS; hq) fun _ yw D1 hr hF2 => ?_
    obtain ⟨q0_, rfl, I3, K⟩ := hr
    obtain ⟨hK, H2⟩ := hF2 K
    exact ⟨trivial, Gx.go hG hI2 hK K.imm H2⟩
   refine .cons (fun ss hlo hhi vals1 xw hG hV => ?_) ?_
   ·obtain rfl | rfl | rfl | rfl | rfl | rfl | rfl | rfl | rfl | rfl | rfl | rfl : ss = 2 ∨ ss = 3 ∨ ss = 4 ∨ ss = 5 ∨ ss = 6 ∨ ss = 7 ∨ ss = 8 ∨ ss = 9 ∨ ss = 10 ∨ ss = 11 ∨ ss = 12 ∨ ss = 13 := st11 hlo hhi
    ·rw [← hfe]
     have hS := (hfr vals1).sub (ts := [21, 19]) rfl
     replace hS := hS.conv (t := 19) rfl (show (vals1 9) = vT true from hV 9 (by decide))
     refine L_gw (p := true) hS rfl rfl rfl rfl (fun _ => ?_) (fun h => by cases h)
     obtain ⟨I2, hI2, H⟩ := Gx.ex hG
     exact L_val hS rfl (Ob_slen tRsWZ rfl rfl rfl (H.slshape 0 rfl)) ⟨rfl, hG⟩
    ·rw [← hfe]
     have hS := (hfr vals1).sub (ts := [21, 19]) rfl
     replace hS := hS.conv (t := 19) rfl (show (vals1 9) = vT true from hV 9 (by decide))
     refine L_gw (p := true) hS rfl rfl rfl rfl (fun _ => ?_) (fun h => by cases h)
     obtain ⟨I2, hI2, H⟩ := Gx.ex hG
     exact L_val hS rfl (Ob_slen tRsWZ rfl rfl rfl (H.slshape 2 rfl)) ⟨rfl, hG⟩
    ·rw [← hfe]
     have hS := (hfr vals1).sub (ts := [21, 19]) rfl
     replace hS := hS.conv (t := 19) rfl (show (vals1 9) = vT true from hV 9 (by decide))
     refine L_gw (p := true) hS rfl rfl rfl rfl (fun _ => ?_) (fun h => by cases h)
     obtain ⟨I2, hI2, H⟩ := Gx.ex hG
     exact L_val hS rfl (Ob_slen tRsWZ rfl rfl rfl (H.slshape 3 rfl)) ⟨rfl, hG⟩
    ·rw [← hfe]
     have hS := (hfr vals1).sub (ts := [21, 19]) rfl
     replace hS := hS.conv (t := 19) rfl (show (vals1 9) = vT true from hV 9 (by decide))
     refine L_gw (p := true) hS rfl rfl rfl rfl (fun _ => ?_) (fun h => by cases h)
     obtain ⟨I2, hI2, H⟩ := Gx.ex hG
     exact L_val hS rfl (Ob_slen tRsWZ rfl rfl rfl (H.slshape 4 rfl)) ⟨rfl, hG⟩
    ·rw [← hfe]
     have hS := (hfr vals1).sub (ts := [21, 19]) rfl
     replace hS := hS.conv (t := 19) rfl (show (vals1 9) = vT true from hV 9 (by decide))
     refine L_gw (p := true) hS rfl rfl rfl rfl (fun _ => ?_) (fun h => by cases h)
     obtain ⟨I2, hI2, H⟩ := Gx.ex hG
     exact L_val hS rfl (Ob_slen tRsWZ rfl rfl rfl (H.slshape 4 rfl)) ⟨rfl, hG⟩
    ·rw [← hfe]
     have hS := (hfr vals1).sub (ts := [21, 19]) rfl
     replace hS := hS.conv (t := 19) rfl (show (vals1 9) = vT true from hV 9 (by decide))
     refine L_gw (p := true) hS rfl rfl rfl rfl (fun _ => ?_) (fun h => by cases h)
     obtain ⟨I2, hI2, H⟩ := Gx.ex hG
     exact L_val hS rfl (Ob_slen tRsWZ rfl rfl rfl (H.slshape 4 rfl)) ⟨rfl, hG⟩
    ·rw [← hfe]
     have hS := (hfr vals1).sub (ts := [21, 19]) rfl
     replace hS := hS.conv (t := 19) rfl (show (vals1 9) = vT true from hV 9 (by decide))
     refine L_gw (p := true) hS rfl rfl rfl rfl (fun _ => ?_) (fun h => by cases h)
     obtain ⟨I2, hI2, H⟩ := Gx.ex hG
     exact L_val hS rfl (Ob_slen tRsWZ rfl rfl rfl (H.slshape 4 rfl)) ⟨rfl, hG⟩
    ·rw [← hfe]
     have hS := (hfr vals1).sub (ts := [21, 19]) rfl
     replace hS := hS.conv (t := 19) rfl (show (vals1 9) = vT true from hV 9 (by decide))
     refine L_gw (p := true) hS rfl rfl rfl rfl (fun _ => ?_) (fun h => by cases h)
     obtain ⟨I2, hI2, H⟩ := Gx.ex hG
     exact L_val hS rfl (Ob_slen tRsWZ rfl rfl rfl (H.slshape 5 rfl)) ⟨rfl, hG⟩
    ·rw [← hfe]
     have hS := (hfr vals1).sub (ts := [21, 19]) rfl
     replace hS := hS.conv (t := 19) rfl (show (vals1 9) = vT true from hV 9 (by decide))
     refine L_gw (p := true) hS rfl rfl rfl rfl (fun _ => ?_) (fun h => by cases h)
     obtain ⟨I2, hI2, H⟩ := Gx.ex hG
     exact L_val hS rfl (Ob_slen tRsWZ rfl rfl rfl (H.slshape 6 rfl)) ⟨rfl, hG⟩
    ·rw [← hfe]
     have hS := (hfr vals1).sub (ts := [21, 19]) rfl
     replace hS := hS.conv (t := 19) rfl (show (vals1 9) = vT true from hV 9 (by decide))
     refine L_gw (p := true) hS rfl rfl rfl rfl (fun _ => ?_) (fun h => by cases h)
     obtain ⟨I2, hI2, H⟩ := Gx.ex hG
     exact L_val hS rfl (Ob_slen tRsWZ rfl rfl rfl (H.slshape 7 rfl)) ⟨rfl, hG⟩
    ·rw [← hfe]
     have hS := (hfr vals1).sub (ts := [21, 19]) rfl
     replace hS := hS.conv (t := 19) rfl (show (vals1 9) = vT true from hV 9 (by decide))
     refine L_gw (p := true) hS rfl rfl rfl rfl (fun _ => ?_) (fun h => by cases h)
     obtain ⟨I2, hI2, H⟩ := Gx.ex hG
     exact L_val hS rfl (Ob_slen tRsWZ rfl rfl rfl (H.slshape 7 rfl)) ⟨rfl, hG⟩
    ·rw [← hfe]
     have hS := (hfr vals1).sub (ts := [21, 19]) rfl
     replace hS := hS.conv (t := 19) rfl (show (vals1 9) = vT true from hV 9 (by decide))
     refine L_gw (p := true) hS rfl rfl rfl rfl (fun _ => ?_) (fun h => by cases h)
     obtain ⟨I2, hI2, H⟩ := Gx.ex hG
     exact L_val hS rfl (Ob_slen tRsWZ rfl rfl rfl (H.slshape 7 rfl)) ⟨rfl, hG⟩
   refine .cons (fun ss hlo hhi vals1 xw hG hV => ?_) ?_
   ·obtain rfl : ss = 2 := Nat.le_antisymm hhi hlo
    rw [← hfe]
    have hS := (hfr vals1).sub (ts := [19, 4]) rfl
    replace hS := hS.conv (t := 19) rfl (show (vals1 9) = vT true from hV 9 (by decide))
    refine L_gw (p := true) hS rfl rfl rfl rfl (fun _ => ?_) (fun h => by cases h)
    obtain ⟨I2, hI2, H⟩ := Gx.ex hG
    refine L_hcall H (js := [(1, false)]) rfl (caps := #[]) hS fn_24_YRsWZ rfl rfl rfl rfl rfl (fun D1 hS => have hq := c_rstate_State_Notes hx4 hS; hq) fun _ yw D1 hr hF2 => ?_
    obtain ⟨q0_, rfl, I3, K⟩ := hr
    obtain ⟨hK, H2⟩ := hF2 K
    exact ⟨trivial, Gx.go hG hI2 hK K.imm H2⟩
   refine .cons (fun ss hlo hhi vals1 xw hG hV => ?_) ?_
   ·obtain rfl | rfl | rfl | rfl | rfl | rfl | rfl | rfl | rfl | rfl | rfl : ss = 3 ∨ ss = 4 ∨ ss = 5 ∨ ss = 6 ∨ ss = 7 ∨ ss = 8 ∨ ss = 9 ∨ ss = 10 ∨ ss = 11 ∨ ss = 12 ∨ ss = 13 := st10 hlo hhi
    ·rw [← hfe]
     have hS := (hfr vals1).sub (ts := [23, 19]) rfl
     replace hS := hS.conv (t := 19) rfl (show (vals1 9) = vT true from hV 9 (by decide))
     refine L_gw (p := true) hS rfl rfl rfl rfl (fun _ => ?_) (fun h => by cases h)
     obtain ⟨I2, hI2, H⟩ := Gx.ex hG
     exact L_val hS rfl (Ob_slen tRsWZ rfl rfl rfl (H.slshape 1 rfl)) ⟨rfl, hG⟩
    ·rw [← hfe]
     have hS := (hfr vals1).sub (ts := [23, 19]) rfl
     replace hS := hS.conv (t := 19) rfl (show (vals1 9) = vT true from hV 9 (by decide))
     refine L_gw (p := true) hS rfl rfl rfl rfl (fun _ => ?_) (fun h => by cases h)
     obtain ⟨I2, hI2, H⟩ := Gx.ex hG
     exact L_val hS rfl (Ob_slen tRsWZ rfl rfl rfl (H.slshape 2 rfl)) ⟨rfl, hG⟩
    ·rw [← hfe]
     have hS := (hfr vals1).sub (ts := [23, 19]) rfl
     replace hS := hS.conv (t := 19) rfl (show (vals1 9) = vT true from hV 9 (by decide))
     refine L_gw (p := true) hS rfl rfl rfl rfl (fun _ => ?_) (fun h => by cases h)
     obtain ⟨I2, hI2, H⟩ := Gx.ex hG
     exact L_val hS rfl (Ob_slen tRsWZ rfl rfl rfl (H.slshape 3 rfl)) ⟨rfl, hG⟩
    ·rw [← hfe]
     have hS := (hfr vals1).sub (ts := [23, 19]) rfl
     replace hS := hS.conv (t := 19) rfl (show (vals1 9) = vT true from hV 9 (by decide))
     refine L_gw (p := true) hS rfl rfl rfl rfl (fun _ => ?_) (fun h => by cases h)
     obtain ⟨I2, hI2, H⟩ := Gx.ex hG
     exact L_val hS rfl (Ob_slen tRsWZ rfl rfl rfl (H.slshape 3 rfl)) ⟨rfl, hG⟩
    ·rw [← hfe]
     have hS := (hfr vals1).sub (ts := [23, 19]) rfl
     replace hS := hS.conv (t := 19) rfl (show (vals1 9) = vT true from hV 9 (by decide))
     refine L_gw (p := true) hS rfl rfl rfl rfl (fun _ => ?_) (fun h => by cases h)
     obtain ⟨I2, hI2, H⟩ := Gx.ex hG
     exact L_val hS rfl (Ob_slen tRsWZ rfl rfl rfl (H.slshape 3 rfl)) ⟨rfl, hG⟩
    ·rw [← hfe]
     have hS := (hfr vals1).sub (ts := [23, 19]) rfl
     replace hS := hS.conv (t := 19) rfl (show (vals1 9) = vT true from hV 9 (by decide))
     refine L_gw (p := true) hS rfl rfl rfl rfl (fun _ => ?_) (fun h => by cases h)
     obtain ⟨I2, hI2, H⟩ := Gx.ex hG
     exact L_val hS rfl (Ob_slen tRsWZ rfl rfl rfl (H.slshape 3 rfl)) ⟨rfl, hG⟩
    ·rw [← hfe]
     have hS := (hfr vals1).sub (ts := [23, 19]) rfl
     replace hS := hS.conv (t := 19) rfl (show (vals1 9) = vT true from hV 9 (by decide))
     refine L_gw (p := true) hS rfl rfl rfl rfl (fun _ => ?_) (fun h => by cases h)
     obtain ⟨I2, hI2, H⟩ := Gx.ex hG
     exact L_val hS rfl (Ob_slen tRsWZ rfl rfl rfl (H.slshape 4 rfl)) ⟨rfl, hG⟩
    ·rw [← hfe]
     have hS := (hfr vals1).sub (ts := [23, 19]) rfl
     replace hS := hS.conv (t := 19) rfl (show (vals1 9) = vT true from hV 9 (by decide))
     refine L_gw (p := true) hS rfl rfl rfl rfl (fun _ => ?_) (fun h => by cases h)
     obtain ⟨I2, hI2, H⟩ := Gx.ex hG
     exact L_val hS rfl (Ob_slen tRsWZ rfl rfl rfl (H.slshape 5 rfl)) ⟨rfl, hG⟩
    ·rw [← hfe]
     have hS := (hfr vals1).sub (ts := [23, 19]) rfl
     replace hS := hS.conv (t := 19) rfl (show (vals1 9) = vT true from hV 9 (by decide))
     refine L_gw (p := true) hS rfl rfl rfl rfl (fun _ => ?_) (fun h => by cases h)
     obtain ⟨I2, hI2, H⟩ := Gx.ex hG
     exact L_val hS rfl (Ob_slen tRsWZ rfl rfl rfl (H.slshape 6 rfl)) ⟨rfl, hG⟩
    ·rw [← hfe]
     have hS := (hfr vals1).sub (ts := [23, 19]) rfl
     replace hS := hS.conv (t := 19) rfl (show (vals1 9) = vT true from hV 9 (by decide))
     refine L_gw (p := true) hS rfl rfl rfl rfl (fun _ => ?_) (fun h => by cases h)
     obtain ⟨I2, hI2, H⟩ := Gx.ex hG
     exact L_val hS rfl (Ob_slen tRsWZ rfl rfl rfl (H.slshape 6 rfl)) ⟨rfl, hG⟩
    ·rw [← hfe]
     have hS := (hfr vals1).sub (ts := [23, 19]) rfl
     replace hS := hS.conv (t := 19) rfl (show (vals1 9) = vT true from hV 9 (by decide))
     refine L_gw (p := true) hS rfl rfl rfl rfl (fun _ => ?_) (fun h => by cases h)
     obtain ⟨I2, hI2, H⟩ := Gx.ex hG
     exact L_val hS rfl (Ob_slen tRsWZ rfl rfl rfl (H.slshape 6 rfl)) ⟨rfl, hG⟩
   refine .cons (fun ss hlo hhi vals1 xw hG hV => ?_) ?_
   ·obtain rfl | rfl | rfl | rfl | rfl | rfl | rfl | rfl | rfl | rfl | rfl : ss = 3 ∨ ss = 4 ∨ ss = 5 ∨ ss = 6 ∨ ss = 7 ∨ ss = 8 ∨ ss = 9 ∨ ss = 10 ∨ ss = 11 ∨ ss = 12 ∨ ss = 13 := st10 hlo hhi
    all_goals
    ·rw [← hfe]
     have hS := (hfr vals1).sub (ts := [22, 24, 19]) rfl
     replace hS := hS.conv (t := 22) rfl (show (vals1 12) = vI (ln n0_2) from hV 12 (by decide))
     replace hS := hS.conv (t := 24) rfl (show (vals1 14) = vI (ln n0_3) from hV 14 (by decide))
     replace hS := hS.conv (t := 19) rfl (show (vals1 9) = vT true from hV 9 (by decide))
     refine L_gw (p := true) hS rfl rfl rfl rfl (fun _ => ?_) (fun h => by cases h)
     exact L_val hS rfl (Ob_add rfl rfl rfl (wrI hg1)) ⟨rfl, hG⟩
   refine .cons (fun ss hlo hhi vals1 xw hG hV => ?_) ?_
   ·obtain rfl | rfl | rfl : ss = 1 ∨ ss = 2 ∨ ss = 3 := st2 hlo hhi
    all_goals
    ·rw [← hfe]
     have hS := (hfr vals1).sub (ts := [19, 3]) rfl
     replace hS := hS.conv (t := 19) rfl (show (vals1 9) = vT true from hV 9 (by decide))
     refine L_gw (p := true) hS rfl rfl rfl rfl (fun _ => ?_) (fun h => by cases h)
     exact L_val hS rfl (Ob_c tRsWZ rfl) ⟨rfl, hG⟩
   refine .cons (fun ss hlo hhi vals1 xw hG hV => ?_) ?_
   ·obtain rfl : ss = 3 := Nat.le_antisymm hhi hlo
    rw [← hfe]
    have hS := (hfr vals1).sub (ts := [26, 19]) rfl
    replace hS := hS.conv (t := 26) rfl (show (vals1 16) = nP from hV 16 (by decide))
    replace hS := hS.conv (t := 19) rfl (show (vals1 9) = vT true from hV 9 (by decide))
    refine L_gw (p := true) hS rfl rfl rfl rfl (fun _ => ?_) (fun h => by cases h)
    obtain ⟨I2, hI2, H⟩ := Gx.ex hG
    refine L_hcall H (js := []) rfl (caps := #[]) hS fn_13_YRsWZ rfl rfl rfl rfl rfl (fun D1 hS => have hq := c_rstate_State_All_nil hx5 hS; hq) fun _ yw D1 hr hF2 => ?_
    obtain ⟨q0_, rfl, I3, K⟩ := hr
    obtain ⟨hK, H2⟩ := hF2 K
    exact ⟨trivial, Gx.go hG hI2 hK K.imm H2⟩
   refine .cons (fun ss hlo hhi vals1 xw hG hV => ?_) ?_
   ·obtain rfl | rfl | rfl | rfl | rfl | rfl | rfl | rfl | rfl | rfl : ss = 4 ∨ ss = 5 ∨ ss = 6 ∨ ss = 7 ∨ ss = 8 ∨ ss = 9 ∨ ss = 10 ∨ ss = 11 ∨ ss = 12 ∨ ss = 13 := st9 hlo hhi
    ·rw [← hfe]
     have hS := (hfr vals1).sub (ts := [27, 19]) rfl
     replace hS := hS.conv (t := 19) rfl (show (vals1 9) = vT true from hV 9 (by decide))
     refine L_gw (p := true) hS rfl rfl rfl rfl (fun _ => ?_) (fun h => by cases h)
     obtain ⟨I2, hI2, H⟩ := Gx.ex hG
     exact L_val hS rfl (Ob_slen tRsWZ rfl rfl rfl (H.slshape 0 rfl)) ⟨rfl, hG⟩
    ·rw [← hfe]
     have hS := (hfr vals1).sub (ts := [27, 19]) rfl
     replace hS := hS.conv (t := 19) rfl (show (vals1 9) = vT true from hV 9 (by decide))
     refine L_gw (p := true) hS rfl rfl rfl rfl (fun _ => ?_) (fun h => by cases h)
     obtain ⟨I2, hI2, H⟩ := Gx.ex hG
     exact L_val hS rfl (Ob_slen tRsWZ rfl rfl rfl (H.slshape 2 rfl)) ⟨rfl, hG⟩
    ·rw [← hfe]
     have hS := (hfr vals1).sub (ts := [27, 19]) rfl
     replace hS := hS.conv (t := 19) rfl (show (vals1 9) = vT true from hV 9 (by decide))
     refine L_gw (p := true) hS rfl rfl rfl rfl (fun _ => ?_) (fun h => by cases h)
     obtain ⟨I2, hI2, H⟩ := Gx.ex hG
     exact L_val hS rfl (Ob_slen tRsWZ rfl rfl rfl (H.slshape 2 rfl)) ⟨rfl, hG⟩
    ·rw [← hfe]
     have hS := (hfr vals1).sub (ts := [27, 19]) rfl
     replace hS := hS.conv (t := 19) rfl (show (vals1 9) = vT true from hV 9 (by decide))
     refine L_gw (p := true) hS rfl rfl rfl rfl (fun _ => ?_) (fun h => by cases h)
     obtain ⟨I2, hI2, H⟩ := Gx.ex hG
     exact L_val hS rfl (Ob_slen tRsWZ rfl rfl rfl (H.slshape 2 rfl)) ⟨rfl, hG⟩
    ·rw [← hfe]
     have hS := (hfr vals1).sub (ts := [27, 19]) rfl
     replace hS := hS.conv (t := 19) rfl (show (vals1 9) = vT true from hV 9 (by decide))
     refine L_gw (p := true) hS rfl rfl rfl rfl (fun _ => ?_) (fun h => by cases h)
     obtain ⟨I2, hI2, H⟩ := Gx.ex hG
     exact L_val hS rfl (Ob_slen tRsWZ rfl rfl rfl (H.slshape 2 rfl)) ⟨rfl, hG⟩
    ·rw [← hfe]
     have hS := (hfr vals1).sub (ts := [27, 19]) rfl
     replace hS := hS.conv (t := 19) rfl (show (vals1 9) = vT true from hV 9 (by decide))
     refine L_gw (p := true) hS rfl rfl rfl rfl (fun _ => ?_) (fun h => by cases h)
     obtain ⟨I2, hI2, H⟩ := Gx.ex hG
     exact L_val hS rfl (Ob_slen tRsWZ rfl rfl rfl (H.slshape 3 rfl)) ⟨rfl, hG⟩
    ·rw [← hfe]
     have hS := (hfr vals1).sub (ts := [27, 19]) rfl
     replace hS := hS.conv (t := 19) rfl (show (vals1 9) = vT true from hV 9 (by decide))
     refine L_gw (p := true) hS rfl rfl rfl rfl (fun _ => ?_) (fun h => by cases h)
     obtain ⟨I2, hI2, H⟩ := Gx.ex hG
     exact L_val hS rfl (Ob_slen tRsWZ rfl rfl rfl (H.slshape 4 rfl)) ⟨rfl, hG⟩
    ·rw [← hfe]
     have hS := (hfr vals1).sub (ts := [27, 19]) rfl
     replace hS := hS.conv (t := 19) rfl (show (vals1 9) = vT true from hV 9 (by decide))
     refine L_gw (p := true) hS rfl rfl rfl rfl (fun _ => ?_) (fun h => by cases h)
     obtain ⟨I2, hI2, H⟩ := Gx.ex hG
     exact L_val hS rfl (Ob_slen tRsWZ rfl rfl rfl (H.slshape 5 rfl)) ⟨rfl, hG⟩
    ·rw [← hfe]
     have hS := (hfr vals1).sub (ts := [27, 19]) rfl
     replace hS := hS.conv (t := 19) rfl (show (vals1 9) = vT true from hV 9 (by decide))
     refine L_gw (p := true) hS rfl rfl rfl rfl (fun _ => ?_) (fun h => by cases h)
     obtain ⟨I2, hI2, H⟩ := Gx.ex hG
     exact L_val hS rfl (Ob_slen tRsWZ rfl rfl rfl (H.slshape 5 rfl)) ⟨rfl, hG⟩
    ·rw [← hfe]
     have hS := (hfr vals1).sub (ts := [27, 19]) rfl
     replace hS := hS.conv (t := 19) rfl (show (vals1 9) = vT true from hV 9 (by decide))
     refine L_gw (p := true) hS rfl rfl rfl rfl (fun _ => ?_) (fun h => by cases h)
     obtain ⟨I2, hI2, H⟩ := Gx.ex hG
     exact L_val hS rfl (Ob_slen tRsWZ rfl rfl rfl (H.slshape 5 rfl)) ⟨rfl, hG⟩
   refine .cons (fun ss hlo hhi vals1 xw hG hV => ?_) ?_
   ·obtain rfl | rfl | rfl | rfl | rfl | rfl | rfl | rfl | rfl | rfl : ss = 4 ∨ ss = 5 ∨ ss = 6 ∨ ss = 7 ∨ ss = 8 ∨ ss = 9 ∨ ss = 10 ∨ ss = 11 ∨ ss = 12 ∨ ss = 13 := st9 hlo hhi
    all_goals
    ·rw [← hfe]
     have hS := (hfr vals1).sub (ts := [25, 28, 19]) rfl
     replace hS := hS.conv (t := 25) rfl (show (vals1 15) = vI ((ln n0_2) + (ln n0_3)) from hV 15 (by decide))
     replace hS := hS.conv (t := 28) rfl (show (vals1 18) = vI (ln n0_4) from hV 18 (by decide))
     replace hS := hS.conv (t := 19) rfl (show (vals1 9) = vT true from hV 9 (by decide))
     refine L_gw (p := true) hS rfl rfl rfl rfl (fun _ => ?_) (fun h => by cases h)
     exact L_val hS rfl (Ob_add rfl rfl rfl (wrI hg2)) ⟨rfl, hG⟩
   refine .cons (fun ss hlo hhi vals1 xw hG hV => ?_) ?_
   ·obtain rfl : ss = 4 := Nat.le_antisymm hhi hlo
    rw [← hfe]
    have hS := (hfr vals1).sub (ts := [19, 4]) rfl
    replace hS := hS.conv (t := 19) rfl (show (vals1 9) = vT true from hV 9 (by decide))
    refine L_gw (p := true) hS rfl rfl rfl rfl (fun _ => ?_) (fun h => by cases h)
    obtain ⟨I2, hI2, H⟩ := Gx.ex hG
    refine L_hcall H (js := [(1, false)]) rfl (caps := #[]) hS fn_13_YRsWZ rfl rfl rfl rfl rfl (fun D1 hS => have hq := c_rstate_State_All hx6 hS; hq) fun _ yw D1 hr hF2 => ?_
    obtain ⟨q0_, rfl, I3, K⟩ := hr
    obtain ⟨hK, H2⟩ := hF2 K
    exact ⟨trivial, Gx.go hG hI2 hK K.imm H2⟩
   refine .cons (fun ss hlo hhi vals1 xw hG hV => ?_) ?_
   ·obtain rfl | rfl | rfl | rfl | rfl | rfl | rfl | rfl | rfl : ss = 5 ∨ ss = 6 ∨ ss = 7 ∨ ss = 8 ∨ ss = 9 ∨ ss = 10 ∨ ss = 11 ∨ ss = 12 ∨ ss = 13 := st8 hlo hhi
    ·rw [← hfe]
     have hS := (hfr vals1).sub (ts := [30, 19]) rfl
     replace hS := hS.conv (t := 19) rfl (show (vals1 9) = vT true from hV 9 (by decide))
     refine L_gw (p := true) hS rfl rfl rfl rfl (fun _ => ?_) (fun h => by cases h)
     obtain ⟨I2, hI2, H⟩ := Gx.ex hG
     exact L_val hS rfl (Ob_slen tRsWZ rfl rfl rfl (H.slshape 1 rfl)) ⟨rfl, hG⟩
    ·rw [← hfe]
     have hS := (hfr vals1).sub (ts := [30, 19]) rfl
     replace hS := hS.conv (t := 19) rfl (show (vals1 9) = vT true from hV 9 (by decide))
     refine L_gw (p := true) hS rfl rfl rfl rfl (fun _ => ?_) (fun h => by cases h)
     obtain ⟨I2, hI2, H⟩ := Gx.ex hG
     exact L_val hS rfl (Ob_slen tRsWZ rfl rfl rfl (H.slshape 1 rfl)) ⟨rfl, hG⟩
    ·rw [← hfe]
     have hS := (hfr vals1).sub (ts := [30, 19]) rfl
     replace hS := hS.conv (t := 19) rfl (show (vals1 9) = vT true from hV 9 (by decide))
     refine L_gw (p := true) hS rfl rfl rfl rfl (fun _ => ?_) (fun h => by cases h)
     obtain ⟨I2, hI2, H⟩ := Gx.ex hG
     exact L_val hS rfl (Ob_slen tRsWZ rfl rfl rfl (H.slshape 1 rfl)) ⟨rfl, hG⟩
    ·rw [← hfe]
     have hS := (hfr vals1).sub (ts := [30, 19]) rfl
     replace hS := hS.conv (t := 19) rfl (show (vals1 9) = vT true from hV 9 (by decide))
     refine L_gw (p := true) hS rfl rfl rfl rfl (fun _ => ?_) (fun h => by cases h)
     obtain ⟨I2, hI2, H⟩ := Gx.ex hG
     exact L_val hS rfl (Ob_slen tRsWZ rfl rfl rfl (H.slshape 1 rfl)) ⟨rfl, hG⟩
    ·rw [← hfe]
     have hS := (hfr vals1).sub (ts := [30, 19]) rfl
     replace hS := hS.conv (t := 19) rfl (show (vals1 9) = vT true from hV 9 (by decide))
     refine L_gw (p := true) hS rfl rfl rfl rfl (fun _ => ?_) (fun h => by cases h)
     obtain ⟨I2, hI2, H⟩ := Gx.ex hG
     exact L_val hS rfl (Ob_slen tRsWZ rfl rfl rfl (H.slshape 2 rfl)) ⟨rfl, hG⟩
    ·rw [← hfe]
     have hS := (hfr vals1).sub (ts := [30, 19]) rfl
     replace hS := hS.conv (t := 19) rfl (show (vals1 9) = vT true from hV 9 (by decide))
     refine L_gw (p := true) hS rfl rfl rfl rfl (fun _ => ?_) (fun h => by cases h)
     obtain ⟨I2, hI2, H⟩ := Gx.ex hG
     exact L_val hS rfl (Ob_slen tRsWZ rfl rfl rfl (H.slshape 3 rfl)) ⟨rfl, hG⟩
    ·rw [← hfe]
     have hS := (hfr vals1).sub (ts := [30, 19]) rfl
     replace hS := hS.conv (t := 19) rfl (show (vals1 9) = vT true from hV 9 (by decide))
     refine L_gw (p := true) hS rfl rfl rfl rfl (fun _ => ?_) (fun h => by cases h)
     obtain ⟨I2, hI2, H⟩ := Gx.ex hG
     exact L_val hS rfl (Ob_slen tRsWZ rfl rfl rfl (H.slshape 4 rfl)) ⟨rfl, hG⟩
    ·rw [← hfe]
     have hS := (hfr vals1).sub (ts := [30, 19]) rfl
     replace hS := hS.conv (t := 19) rfl (show (vals1 9) = vT true from hV 9 (by decide))
     refine L_gw (p := true) hS rfl rfl rfl rfl (fun _ => ?_) (fun h => by cases h)
     obtain ⟨I2, hI2, H⟩ := Gx.ex hG
     exact L_val hS rfl (Ob_slen tRsWZ rfl rfl rfl (H.slshape 4 rfl)) ⟨rfl, hG⟩
    ·rw [← hfe]
     have hS := (hfr vals1).sub (ts := [30, 19]) rfl
     replace hS := hS.conv (t := 19) rfl (show (vals1 9) = vT true from hV 9 (by decide))
     refine L_gw (p := true) hS rfl rfl rfl rfl (fun _ => ?_) (fun h => by cases h)
     obtain ⟨I2, hI2, H⟩ := Gx.ex hG
     exact L_val hS rfl (Ob_slen tRsWZ rfl rfl rfl (H.slshape 4 rfl)) ⟨rfl, hG⟩
   refine .cons (fun ss hlo hhi vals1 xw hG hV => ?_) ?_
   ·obtain rfl | rfl | rfl | rfl | rfl | rfl | rfl | rfl | rfl : ss = 5 ∨ ss = 6 ∨ ss = 7 ∨ ss = 8 ∨ ss = 9 ∨ ss = 10 ∨ ss = 11 ∨ ss = 12 ∨ ss = 13 := st8 hlo hhi
    all_goals
    ·rw [← hfe]
     have hS := (hfr vals1).sub (ts := [29, 31, 19]) rfl
     replace hS := hS.conv (t := 29) rfl (show (vals1 19) = vI ((ln n0_2) + (ln n0_3) + (ln n0_4)) from hV 19 (by decide))
     replace hS := hS.conv (t := 31) rfl (show (vals1 21) = vI (ln a0_2) from hV 21 (by decide))
     replace hS := hS.conv (t := 19) rfl (show (vals1 9) = vT true from hV 9 (by decide))
     refine L_gw (p := true) hS rfl rfl rfl rfl (fun _ => ?_) (fun h => by cases h)
     exact L_val hS rfl (Ob_add rfl rfl rfl (wrI hg3)) ⟨rfl, hG⟩
   refine .cons (fun ss hlo hhi vals1 xw hG hV => ?_) ?_
   ·obtain rfl | rfl | rfl | rfl | rfl : ss = 1 ∨ ss = 2 ∨ ss = 3 ∨ ss = 4 ∨ ss = 5 := st4 hlo hhi
    all_goals
    ·rw [← hfe]
     have hS := (hfr vals1).sub (ts := [19, 3]) rfl
     replace hS := hS.conv (t := 19) rfl (show (vals1 9) = vT true from hV 9 (by decide))
     refine L_gw (p := true) hS rfl rfl rfl rfl (fun _ => ?_) (fun h => by cases h)
     exact L_val hS rfl (Ob_c tRsWZ rfl) ⟨rfl, hG⟩
   refine .cons (fun ss hlo hhi vals1 xw hG hV => ?_) ?_
   ·obtain rfl : ss = 5 := Nat.le_antisymm hhi hlo
    rw [← hfe]
    have hS := (hfr vals1).sub (ts := [33, 19]) rfl
    replace hS := hS.conv (t := 33) rfl (show (vals1 23) = nP from hV 23 (by decide))
    replace hS := hS.conv (t := 19) rfl (show (vals1 9) = vT true from hV 9 (by decide))
    refine L_gw (p := true) hS rfl rfl rfl rfl (fun _ => ?_) (fun h => by cases h)
    obtain ⟨I2, hI2, H⟩ := Gx.ex hG
    refine L_call (caps := #[]) hS fn_25_YRsWZ rfl rfl rfl rfl rfl ((have hq := c_rstate_State_Len_nil hx7 ((H).pick0 (js := []) rfl rfl); plainC hq)) fun r yw hr => ?_
    obtain ⟨rfl, hb⟩ := hr
    exact ⟨rfl, Gx.blw hG hb⟩
   refine .cons (fun ss hlo hhi vals1 xw hG hV => ?_) ?_
   ·obtain rfl | rfl | rfl | rfl | rfl | rfl | rfl | rfl | rfl : ss = 5 ∨ ss = 6 ∨ ss = 7 ∨ ss = 8 ∨ ss = 9 ∨ ss = 10 ∨ ss = 11 ∨ ss = 12 ∨ ss = 13 := st8 hlo hhi
    all_goals
    ·rw [← hfe]
     have hS := (hfr vals1).sub (ts := [32, 34, 19]) rfl
     replace hS := hS.conv (t := 32) rfl (show (vals1 22) = vI ((ln n0_2) + (ln n0_3) + (ln n0_4) + (ln a0_2)) from hV 22 (by decide))
     replace hS := hS.conv (t := 34) rfl (show (vals1 24) = vI n0_5 from hV 24 (by decide))
     replace hS := hS.conv (t := 19) rfl (show (vals1 9) = vT true from hV 9 (by decide))
     refine L_gw (p := true) hS rfl rfl rfl rfl (fun _ => ?_) (fun h => by cases h)
     exact L_val hS rfl (Ob_add rfl rfl rfl (wrI hg4)) ⟨rfl, hG⟩
   refine .cons (fun ss hlo hhi vals1 xw hG hV => ?_) ?_
   ·obtain rfl : ss = 5 := Nat.le_antisymm hhi hlo
    rw [← hfe]
    have hS := (hfr vals1).sub (ts := [19, 4]) rfl
    replace hS := hS.conv (t := 19) rfl (show (vals1 9) = vT true from hV 9 (by decide))
    refine L_gw (p := true) hS rfl rfl rfl rfl (fun _ => ?_) (fun h => by cases h)
    obtain ⟨I2, hI2, H⟩ := Gx.ex hG
    refine L_hcall H (js := [(0, false)]) rfl (caps := #[]) hS fn_25_YRsWZ rfl rfl rfl rfl rfl (fun D1 hS => have hq := c_rstate_State_Len hx8 hS; hq) fun _ yw D1 hr hF2 => ?_
    obtain ⟨rfl, I3, K⟩ := hr
    obtain ⟨hK, H2⟩ := hF2 K
    exact ⟨rfl, Gx.go hG hI2 hK K.imm H2⟩
   refine .cons (fun ss hlo hhi vals1 xw hG hV => ?_) ?_
   ·obtain rfl | rfl | rfl | rfl | rfl | rfl | rfl | rfl : ss = 6 ∨ ss = 7 ∨ ss = 8 ∨ ss = 9 ∨ ss = 10 ∨ ss = 11 ∨ ss = 12 ∨ ss = 13 := st7 hlo hhi
    all_goals
    ·rw [← hfe]
     have hS := (hfr vals1).sub (ts := [35, 36, 19]) rfl
     replace hS := hS.conv (t := 35) rfl (show (vals1 25) = vI ((ln n0_2) + (ln n0_3) + (ln n0_4) + (ln a0_2) + n0_5) from hV 25 (by decide))
     replace hS := hS.conv (t := 36) rfl (show (vals1 26) = vI l from hV 26 (by decide))
     replace hS := hS.conv (t := 19) rfl (show (vals1 9) = vT true from hV 9 (by decide))
     refine L_gw (p := true) hS rfl rfl rfl rfl (fun _ => ?_) (fun h => by cases h)
     exact L_val hS rfl (Ob_add rfl rfl rfl (wrI hg5)) ⟨rfl, hG⟩
   refine .cons (fun ss hlo hhi vals1 xw hG hV => ?_) ?_
   ·obtain rfl | rfl | rfl | rfl | rfl | rfl : ss = 1 ∨ ss = 2 ∨ ss = 3 ∨ ss = 4 ∨ ss = 5 ∨ ss = 6 := st5 hlo hhi
    all_goals
    ·rw [← hfe]
     have hS := (hfr vals1).sub (ts := [19, 3]) rfl
     replace hS := hS.conv (t := 19) rfl (show (vals1 9) = vT true from hV 9 (by decide))
     refine L_gw (p := true) hS rfl rfl rfl rfl (fun _ => ?_) (fun h => by cases h)
     exact L_val hS rfl (Ob_c tRsWZ rfl) ⟨rfl, hG⟩
   refine .cons (fun ss hlo hhi vals1 xw hG hV => ?_) ?_
   ·obtain rfl : ss = 6 := Nat.le_antisymm hhi hlo
    rw [← hfe]
    have hS := (hfr vals1).sub (ts := [38, 19]) rfl
    replace hS := hS.conv (t := 38) rfl (show (vals1 28) = nP from hV 28 (by decide))
    replace hS := hS.conv (t := 19) rfl (show (vals1 9) = vT true from hV 9 (by decide))
    refine L_gw (p := true) hS rfl rfl rfl rfl (fun _ => ?_) (fun h => by cases h)
    obtain ⟨I2, hI2, H⟩ := Gx.ex hG
    refine L_call (caps := #[]) hS fn_19_YRsWZ rfl rfl rfl rfl rfl ((have hq := c_rstate_State_Stamped_nil hx9 ((H).pick0 (js := []) rfl rfl); plainC hq)) fun r yw hr => ?_
    obtain ⟨rfl, hb⟩ := hr
    exact ⟨rfl, Gx.blw hG hb⟩
   refine .cons (fun ss hlo hhi vals1 xw hG hV => ?_) ?_
   ·obtain rfl | rfl | rfl | rfl | rfl | rfl | rfl | rfl : ss = 6 ∨ ss = 7 ∨ ss = 8 ∨ ss = 9 ∨ ss = 10 ∨ ss = 11 ∨ ss = 12 ∨ ss = 13 := st7 hlo hhi
    all_goals
    ·rw [← hfe]
     have hS := (hfr vals1).sub (ts := [37, 39, 19]) rfl
     replace hS := hS.conv (t := 37) rfl (show (vals1 27) = vI ((ln n0_2) + (ln n0_3) + (ln n0_4) + (ln a0_2) + n0_5 + l) from hV 27 (by decide))
     replace hS := hS.conv (t := 39) rfl (show (vals1 29) = vI n0_6 from hV 29 (by decide))
     replace hS := hS.conv (t := 19) rfl (show (vals1 9) = vT true from hV 9 (by decide))
     refine L_gw (p := true) hS rfl rfl rfl rfl (fun _ => ?_) (fun h => by cases h)
     exact L_val hS rfl (Ob_add rfl rfl rfl (wrI hg6)) ⟨rfl, hG⟩
   refine .cons (fun ss hlo hhi vals1 xw hG hV => ?_) ?_
   ·obtain rfl : ss = 6 := Nat.le_antisymm hhi hlo
    rw [← hfe]
    have hS := (hfr vals1).sub (ts := [19, 4]) rfl
    replace hS := hS.conv (t := 19) rfl (show (vals1 9) = vT true from hV 9 (by decide))
    refine L_gw (p := true) hS rfl rfl rfl rfl (fun _ => ?_) (fun h => by cases h)
    obtain ⟨I2, hI2, H⟩ := Gx.ex hG
    refine L_hcall H (js := [(0, false)]) rfl (caps := #[]) hS fn_19_YRsWZ rfl rfl rfl rfl rfl (fun D1 hS => have hq := c_rstate_State_Stamped hx10 hS; hq) fun _ yw D1 hr hF2 => ?_
    obtain ⟨rfl, I3, K⟩ := hr
    obtain ⟨hK, H2⟩ := hF2 K
    exact ⟨rfl, Gx.go hG hI2 hK K.imm H2⟩
   refine .cons (fun ss hlo hhi vals1 xw hG hV => ?_) ?_
   ·obtain rfl | rfl | rfl | rfl | rfl | rfl | rfl : ss = 7 ∨ ss = 8 ∨ ss = 9 ∨ ss = 10 ∨ ss = 11 ∨ ss = 12 ∨ ss = 13 := st6 hlo hhi
    all_goals
    ·rw [← hfe]
     have hS := (hfr vals1).sub (ts := [40, 41, 19]) rfl
     replace hS := hS.conv (t := 40) rfl (show (vals1 30) = vI ((ln n0_2) + (ln n0_3) + (ln n0_4) + (ln a0_2) + n0_5 + l + n0_6) from hV 30 (by decide))
     replace hS := hS.conv (t := 41) rfl (show (vals1 31) = vI s0.1 from hV 31 (by decide))
     replace hS := hS.conv (t := 19) rfl (show (vals1 9) = vT true from hV 9 (by decide))
     refine L_gw (p := true) hS rfl rfl rfl rfl (fun _ => ?_) (fun h => by cases h)
     exact L_val hS rfl (Ob_add rfl rfl rfl (wrI hg7)) ⟨rfl, hG⟩
   refine .cons (fun ss hlo hhi vals1 xw hG hV => ?_) ?_
   ·obtain rfl | rfl | rfl | rfl | rfl | rfl | rfl : ss = 1 ∨ ss = 2 ∨ ss = 3 ∨ ss = 4 ∨ ss = 5 ∨ ss = 6 ∨ ss = 7 := st6 hlo hhi
    all_goals
    ·rw [← hfe]
     have hS := (hfr vals1).sub (ts := [19, 3]) rfl
     replace hS := hS.conv (t := 19) rfl (show (vals1 9) = vT true from hV 9 (by decide))
     refine L_gw (p := true) hS rfl rfl rfl rfl (fun _ => ?_) (fun h => by cases h)
     exact L_val hS rfl (Ob_c tRsWZ rfl) ⟨rfl, hG⟩
   refine .cons (fun ss hlo hhi vals1 xw hG hV => ?_) ?_
   ·obtain rfl | rfl | rfl | rfl | rfl | rfl | rfl : ss = 1 ∨ ss = 2 ∨ ss = 3 ∨ ss = 4 ∨ ss = 5 ∨ ss = 6 ∨ ss = 7 := st6 hlo hhi
    all_goals
    ·rw [← hfe]
     have hS := (hfr vals1).sub (ts := [19, 1]) rfl
     replace hS := hS.conv (t := 19) rfl (show (vals1 9) = vT true from hV 9 (by decide))
     refine L_gw (p := true) hS rfl rfl rfl rfl (fun _ => ?_) (fun h => by cases h)
     exact L_val hS rfl (Ob_c tRsWZ rfl) ⟨rfl, hG⟩
   refine .cons (fun ss hlo hhi vals1 xw hG hV => ?_) ?_
   ·obtain rfl | rfl | rfl | rfl | rfl | rfl | rfl : ss = 1 ∨ ss = 2 ∨ ss = 3 ∨ ss = 4 ∨ ss = 5 ∨ ss = 6 ∨ ss = 7 := st6 hlo hhi
    ·rw [← hfe]
     have hS := (hfr vals1).sub (ts := [44, 19]) rfl
     replace hS := hS.conv (t := 44) rfl (show (vals1 34) = pp b1 1 from hV 34 (by decide))
     replace hS := hS.conv (t := 19) rfl (show (vals1 9) = vT true from hV 9 (by decide))
     refine L_gw (p := true) hS rfl rfl rfl rfl (fun _ => ?_) (fun h => by cases h)
     obtain ⟨I2, hI2, H⟩ := Gx.ex hG
     exact L_val hS rfl (oL tRsWZ rfl rfl (H.bc 2 1 rfl rfl)) ⟨rfl, hG⟩
    ·rw [← hfe]
     have hS := (hfr vals1).sub (ts := [44, 19]) rfl
     replace hS := hS.conv (t := 44) rfl (show (vals1 34) = pp b1 1 from hV 34 (by decide))
     replace hS := hS.conv (t := 19) rfl (show (vals1 9) = vT true from hV 9 (by decide))
     refine L_gw (p := true) hS rfl rfl rfl rfl (fun _ => ?_) (fun h => by cases h)
     obtain ⟨I2, hI2, H⟩ := Gx.ex hG
     exact L_val hS rfl (oL tRsWZ rfl rfl (H.bc 3 1 rfl rfl)) ⟨rfl, hG⟩
    ·rw [← hfe]
     have hS := (hfr vals1).sub (ts := [44, 19]) rfl
     replace hS := hS.conv (t := 44) rfl (show (vals1 34) = pp b1 1 from hV 34 (by decide))
     replace hS := hS.conv (t := 19) rfl (show (vals1 9) = vT true from hV 9 (by decide))
     refine L_gw (p := true) hS rfl rfl rfl rfl (fun _ => ?_) (fun h => by cases h)
     obtain ⟨I2, hI2, H⟩ := Gx.ex hG
     exact L_val hS rfl (oL tRsWZ rfl rfl (H.bc 4 1 rfl rfl)) ⟨rfl, hG⟩
    ·rw [← hfe]
     have hS := (hfr vals1).sub (ts := [44, 19]) rfl
     replace hS := hS.conv (t := 44) rfl (show (vals1 34) = pp b1 1 from hV 34 (by decide))
     replace hS := hS.conv (t := 19) rfl (show (vals1 9) = vT true from hV 9 (by decide))
     refine L_gw (p := true) hS rfl rfl rfl rfl (fun _ => ?_) (fun h => by cases h)
     obtain ⟨I2, hI2, H⟩ := Gx.ex hG
     exact L_val hS rfl (oL tRsWZ rfl rfl (H.bc 5 1 rfl rfl)) ⟨rfl, hG⟩
    ·rw [← hfe]
     have hS := (hfr vals1).sub (ts := [44, 19]) rfl
     replace hS := hS.conv (t := 44) rfl (show (vals1 34) = pp b1 1 from hV 34 (by decide))
     replace hS := hS.conv (t := 19) rfl (show (vals1 9) = vT true from hV 9 (by decide))
     refine L_gw (p := true) hS rfl rfl rfl rfl (fun _ => ?_) (fun h => by cases h)
     obtain ⟨I2, hI2, H⟩ := Gx.ex hG
     exact L_val hS rfl (oL tRsWZ rfl rfl (H.bc 6 1 rfl rfl)) ⟨rfl, hG⟩
    ·rw [← hfe]
     have hS := (hfr vals1).sub (ts := [44, 19]) rfl
     replace hS := hS.conv (t := 44) rfl (show (vals1 34) = pp b1 1 from hV 34 (by decide))
     replace hS := hS.conv (t := 19) rfl (show (vals1 9) = vT true from hV 9 (by decide))
     refine L_gw (p := true) hS rfl rfl rfl rfl (fun _ => ?_) (fun h => by cases h)
     obtain ⟨I2, hI2, H⟩ := Gx.ex hG
     exact L_val hS rfl (oL tRsWZ rfl rfl (H.bc 6 1 rfl rfl)) ⟨rfl, hG⟩
    ·rw [← hfe]
     have hS := (hfr vals1).sub (ts := [44, 19]) rfl
     replace hS := hS.conv (t := 44) rfl (show (vals1 34) = pp b1 1 from hV 34 (by decide))
     replace hS := hS.conv (t := 19) rfl (show (vals1 9) = vT true from hV 9 (by decide))
     refine L_gw (p := true) hS rfl rfl rfl rfl (fun _ => ?_) (fun h => by cases h)
     obtain ⟨I2, hI2, H⟩ := Gx.ex hG
     exact L_val hS rfl (oL tRsWZ rfl rfl (H.bc 6 1 rfl rfl)) ⟨rfl, hG⟩
   refine .cons (fun ss hlo hhi vals1 xw hG hV => ?_) ?_
   ·obtain rfl : ss = 7 := Nat.le_antisymm hhi hlo
    rw [← hfe]
    have hS := (hfr vals1).sub (ts := [43, 45, 19]) rfl
    replace hS := hS.conv (t := 43) rfl (show (vals1 33) = nP from hV 33 (by decide))
    replace hS := hS.conv (t := 45) rfl (show (vals1 35) = vI n0.n from hV 35 (by decide))
    replace hS := hS.conv (t := 19) rfl (show (vals1 9) = vT true from hV 9 (by decide))
    refine L_gw (p := true) hS rfl rfl rfl rfl (fun _ => ?_) (fun h => by cases h)
    obtain ⟨I2, hI2, H⟩ := Gx.ex hG
    refine L_call (caps := #[]) hS fn_26_YRsWZ rfl rfl rfl rfl rfl ((have hq := c_rstate_State_Top_nil hx11 ((H).pick0 (js := []) rfl rfl); plainC hq)) fun r yw hr => ?_
    obtain ⟨rfl, hb⟩ := hr
    exact ⟨rfl, Gx.blw hG hb⟩
   refine .cons (fun ss hlo hhi vals1 xw hG hV => ?_) ?_
   ·obtain rfl | rfl | rfl | rfl | rfl | rfl | rfl : ss = 7 ∨ ss = 8 ∨ ss = 9 ∨ ss = 10 ∨ ss = 11 ∨ ss = 12 ∨ ss = 13 := st6 hlo hhi
    all_goals
    ·rw [← hfe]
     have hS := (hfr vals1).sub (ts := [42, 46, 19]) rfl
     replace hS := hS.conv (t := 42) rfl (show (vals1 32) = vI ((ln n0_2) + (ln n0_3) + (ln n0_4) + (ln a0_2) + n0_5 + l + n0_6 + s0.1) from hV 32 (by decide))
     replace hS := hS.conv (t := 46) rfl (show (vals1 36) = vI n0_7 from hV 36 (by decide))
     replace hS := hS.conv (t := 19) rfl (show (vals1 9) = vT true from hV 9 (by decide))
     refine L_gw (p := true) hS rfl rfl rfl rfl (fun _ => ?_) (fun h => by cases h)
     exact L_val hS rfl (Ob_add rfl rfl rfl (wrI hg8)) ⟨rfl, hG⟩
   refine .cons (fun ss hlo hhi vals1 xw hG hV => ?_) ?_
   ·obtain rfl | rfl | rfl | rfl | rfl | rfl | rfl : ss = 1 ∨ ss = 2 ∨ ss = 3 ∨ ss = 4 ∨ ss = 5 ∨ ss = 6 ∨ ss = 7 := st6 hlo hhi
    all_goals
    ·rw [← hfe]
     have hS := (hfr vals1).sub (ts := [19, 1]) rfl
     replace hS := hS.conv (t := 19) rfl (show (vals1 9) = vT true from hV 9 (by decide))
     refine L_gw (p := true) hS rfl rfl rfl rfl (fun _ => ?_) (fun h => by cases h)
     exact L_val hS rfl (Ob_c tRsWZ rfl) ⟨rfl, hG⟩
   refine .cons (fun ss hlo hhi vals1 xw hG hV => ?_) ?_
   ·obtain rfl | rfl | rfl | rfl | rfl | rfl | rfl : ss = 1 ∨ ss = 2 ∨ ss = 3 ∨ ss = 4 ∨ ss = 5 ∨ ss = 6 ∨ ss = 7 := st6 hlo hhi
    ·rw [← hfe]
     have hS := (hfr vals1).sub (ts := [48, 19]) rfl
     replace hS := hS.conv (t := 48) rfl (show (vals1 38) = pp b1 1 from hV 38 (by decide))
     replace hS := hS.conv (t := 19) rfl (show (vals1 9) = vT true from hV 9 (by decide))
     refine L_gw (p := true) hS rfl rfl rfl rfl (fun _ => ?_) (fun h => by cases h)
     obtain ⟨I2, hI2, H⟩ := Gx.ex hG
     exact L_val hS rfl (oL tRsWZ rfl rfl (H.bc 2 1 rfl rfl)) ⟨rfl, hG⟩
    ·rw [← hfe]
     have hS := (hfr vals1).sub (ts := [48, 19]) rfl
     replace hS := hS.conv (t := 48) rfl (show (vals1 38) = pp b1 1 from hV 38 (by decide))
     replace hS := hS.conv (t := 19) rfl (show (vals1 9) = vT true from hV 9 (by decide))
     refine L_gw (p := true) hS rfl rfl rfl rfl (fun _ => ?_) (fun h => by cases h)
     obtain ⟨I2, hI2, H⟩ := Gx.ex hG
     exact L_val hS rfl (oL tRsWZ rfl rfl (H.bc 3 1 rfl rfl)) ⟨rfl, hG⟩
    ·rw [← hfe]
     have hS := (hfr vals1).sub (ts := [48, 19]) rfl
     replace hS := hS.conv (t := 48) rfl (show (vals1 38) = pp b1 1 from hV 38 (by decide))
     replace hS := hS.conv (t := 19) rfl (show (vals1 9) = vT true from hV 9 (by decide))
     refine L_gw (p := true) hS rfl rfl rfl rfl (fun _ => ?_) (fun h => by cases h)
     obtain ⟨I2, hI2, H⟩ := Gx.ex hG
     exact L_val hS rfl (oL tRsWZ rfl rfl (H.bc 4 1 rfl rfl)) ⟨rfl, hG⟩
    ·rw [← hfe]
     have hS := (hfr vals1).sub (ts := [48, 19]) rfl
     replace hS := hS.conv (t := 48) rfl (show (vals1 38) = pp b1 1 from hV 38 (by decide))
     replace hS := hS.conv (t := 19) rfl (show (vals1 9) = vT true from hV 9 (by decide))
     refine L_gw (p := true) hS rfl rfl rfl rfl (fun _ => ?_) (fun h => by cases h)
     obtain ⟨I2, hI2, H⟩ := Gx.ex hG
     exact L_val hS rfl (oL tRsWZ rfl rfl (H.bc 5 1 rfl rfl)) ⟨rfl, hG⟩
    ·rw [← hfe]
     have hS := (hfr vals1).sub (ts := [48, 19]) rfl
     replace hS := hS.conv (t := 48) rfl (show (vals1 38) = pp b1 1 from hV 38 (by decide))
     replace hS := hS.conv (t := 19) rfl (show (vals1 9) = vT true from hV 9 (by decide))
     refine L_gw (p := true) hS rfl rfl rfl rfl (fun _ => ?_) (fun h => by cases h)
     obtain ⟨I2, hI2, H⟩ := Gx.ex hG
     exact L_val hS rfl (oL tRsWZ rfl rfl (H.bc 6 1 rfl rfl)) ⟨rfl, hG⟩
    ·rw [← hfe]
     have hS := (hfr vals1).sub (ts := [48, 19]) rfl
     replace hS := hS.conv (t := 48) rfl (show (vals1 38) = pp b1 1 from hV 38 (by decide))
     replace hS := hS.conv (t := 19) rfl (show (vals1 9) = vT true from hV 9 (by decide))
     refine L_gw (p := true) hS rfl rfl rfl rfl (fun _ => ?_) (fun h => by cases h)
     obtain ⟨I2, hI2, H⟩ := Gx.ex hG
     exact L_val hS rfl (oL tRsWZ rfl rfl (H.bc 6 1 rfl rfl)) ⟨rfl, hG⟩
    ·rw [← hfe]
     have hS := (hfr vals1).sub (ts := [48, 19]) rfl
     replace hS := hS.conv (t := 48) rfl (show (vals1 38) = pp b1 1 from hV 38 (by decide))
     replace hS := hS.conv (t := 19) rfl (show (vals1 9) = vT true from hV 9 (by decide))
     refine L_gw (p := true) hS rfl rfl rfl rfl (fun _ => ?_) (fun h => by cases h)
     obtain ⟨I2, hI2, H⟩ := Gx.ex hG
     exact L_val hS rfl (oL tRsWZ rfl rfl (H.bc 6 1 rfl rfl)) ⟨rfl, hG⟩
   refine .cons (fun ss hlo hhi vals1 xw hG hV => ?_) ?_
   ·obtain rfl : ss = 7 := Nat.le_antisymm hhi hlo
    rw [← hfe]
    have hS := (hfr vals1).sub (ts := [49, 19, 4]) rfl
    replace hS := hS.conv (t := 49) rfl (show (vals1 39) = vI n0.n from hV 39 (by decide))
    replace hS := hS.conv (t := 19) rfl (show (vals1 9) = vT true from hV 9 (by decide))
    refine L_gw (p := true) hS rfl rfl rfl rfl (fun _ => ?_) (fun h => by cases h)
    obtain ⟨I2, hI2, H⟩ := Gx.ex hG
    refine L_hcall H (js := [(0, false)]) rfl (caps := #[]) hS fn_26_YRsWZ rfl rfl rfl rfl rfl (fun D1 hS => have hq := c_rstate_State_Top hx12 hS; hq) fun _ yw D1 hr hF2 => ?_
    obtain ⟨rfl, I3, K⟩ := hr
    obtain ⟨hK, H2⟩ := hF2 K
    exact ⟨rfl, Gx.go hG hI2 hK K.imm H2⟩
   refine .cons (fun ss hlo hhi vals1 xw hG hV => ?_) ?_
   ·obtain rfl | rfl | rfl | rfl | rfl | rfl : ss = 8 ∨ ss = 9 ∨ ss = 10 ∨ ss = 11 ∨ ss = 12 ∨ ss = 13 := st5 hlo hhi
    all_goals
    ·rw [← hfe]
     have hS := (hfr vals1).sub (ts := [47, 50, 19]) rfl
     replace hS := hS.conv (t := 47) rfl (show (vals1 37) = vI ((ln n0_2) + (ln n0_3) + (ln n0_4) + (ln a0_2) + n0_5 + l + n0_6 + s0.1 + n0_7) from hV 37 (by decide))
     replace hS := hS.conv (t := 50) rfl (show (vals1 40) = vI t from hV 40 (by decide))
     replace hS := hS.conv (t := 19) rfl (show (vals1 9) = vT true from hV 9 (by decide))
     refine L_gw (p := true) hS rfl rfl rfl rfl (fun _ => ?_) (fun h => by cases h)
     exact L_val hS rfl (Ob_add rfl rfl rfl (wrI hg9)) ⟨rfl, hG⟩
   refine .cons (fun ss hlo hhi vals1 xw hG hV => ?_) ?_
   ·obtain rfl | rfl | rfl | rfl | rfl | rfl | rfl | rfl : ss = 1 ∨ ss = 2 ∨ ss = 3 ∨ ss = 4 ∨ ss = 5 ∨ ss = 6 ∨ ss = 7 ∨ ss = 8 := st7 hlo hhi
    all_goals
    ·rw [← hfe]
     have hS := (hfr vals1).sub (ts := [19, 3]) rfl
     replace hS := hS.conv (t := 19) rfl (show (vals1 9) = vT true from hV 9 (by decide))
     refine L_gw (p := true) hS rfl rfl rfl rfl (fun _ => ?_) (fun h => by cases h)
     exact L_val hS rfl (Ob_c tRsWZ rfl) ⟨rfl, hG⟩
   refine .cons (fun ss hlo hhi vals1 xw hG hV => ?_) ?_
   ·obtain rfl : ss = 8 := Nat.le_antisymm hhi hlo
    rw [← hfe]
    have hS := (hfr vals1).sub (ts := [52, 19]) rfl
    replace hS := hS.conv (t := 52) rfl (show (vals1 42) = nP from hV 42 (by decide))
    replace hS := hS.conv (t := 19) rfl (show (vals1 9) = vT true from hV 9 (by decide))
    refine L_gw (p := true) hS rfl rfl rfl rfl (fun _ => ?_) (fun h => by cases h)
    obtain ⟨I2, hI2, H⟩ := Gx.ex hG
    refine L_hcall H (js := []) rfl (caps := #[]) hS fn_10_YRsWZ rfl rfl rfl rfl rfl (fun D1 hS => have hq := c_rstate_State_Conf_nil hx13 hS; hq) fun _ yw D1 hr hF2 => ?_
    obtain ⟨q0_, rfl, I3, K⟩ := hr
    obtain ⟨hK, H2⟩ := hF2 K
    exact ⟨rfl, Gx.go hG hI2 hK K.imm H2⟩
   refine .cons (fun ss hlo hhi vals1 xw hG hV => ?_) ?_
   ·obtain rfl | rfl | rfl | rfl | rfl : ss = 9 ∨ ss = 10 ∨ ss = 11 ∨ ss = 12 ∨ ss = 13 := st4 hlo hhi
    all_goals
    ·rw [← hfe]
     have hS := (hfr vals1).sub (ts := [53, 19]) rfl
     replace hS := hS.conv (t := 53) rfl (show (vals1 43) = .agg #[vI n0_8.epoch, (aggAt (vals1 43) 1), vU n0_8.floor] from hV 43 (by decide))
     replace hS := hS.conv (t := 19) rfl (show (vals1 9) = vT true from hV 9 (by decide))
     refine L_gw (p := true) hS rfl rfl rfl rfl (fun _ => ?_) (fun h => by cases h)
     exact L_val hS rfl (Ob_field1 tRsWZ rfl rfl Try.underlying31 rfl rfl rfl) ⟨rfl, hG⟩
   refine .cons (fun ss hlo hhi vals1 xw hG hV => ?_) ?_
   ·obtain rfl | rfl | rfl | rfl | rfl : ss = 9 ∨ ss = 10 ∨ ss = 11 ∨ ss = 12 ∨ ss = 13 := st4 hlo hhi
    all_goals
    ·rw [← hfe]
     have hS := (hfr vals1).sub (ts := [51, 54, 19]) rfl
     replace hS := hS.conv (t := 51) rfl (show (vals1 41) = vI ((ln n0_2) + (ln n0_3) + (ln n0_4) + (ln a0_2) + n0_5 + l + n0_6 + s0.1 + n0_7 + t) from hV 41 (by decide))
     replace hS := hS.conv (t := 54) rfl (show (vals1 44) = vI n0_8.epoch from hV 44 (by decide))
     replace hS := hS.conv (t := 19) rfl (show (vals1 9) = vT true from hV 9 (by decide))
     refine L_gw (p := true) hS rfl rfl rfl rfl (fun _ => ?_) (fun h => by cases h)
     exact L_val hS rfl (Ob_add rfl rfl rfl (wrI hg10)) ⟨rfl, hG⟩
   refine .cons (fun ss hlo hhi vals1 xw hG hV => ?_) ?_
   ·obtain rfl : ss = 9 := Nat.le_antisymm hhi hlo
    rw [← hfe]
    have hS := (hfr vals1).sub (ts := [19, 4]) rfl
    replace hS := hS.conv (t := 19) rfl (show (vals1 9) = vT true from hV 9 (by decide))
    refine L_gw (p := true) hS rfl rfl rfl rfl (fun _ => ?_) (fun h => by cases h)
    obtain ⟨I2, hI2, H⟩ := Gx.ex hG
    refine L_hcall H (js := [(1, false)]) rfl (caps := #[]) hS fn_10_YRsWZ rfl rfl rfl rfl rfl (fun D1 hS => have hq := c_rstate_State_Conf hx14 hS; hq) fun _ yw D1 hr hF2 => ?_
    obtain ⟨q0_, rfl, I3, K⟩ := hr
    obtain ⟨hK, H2⟩ := hF2 K
    exact ⟨rfl, Gx.go hG hI2 hK K.imm H2⟩
   refine .cons (fun ss hlo hhi vals1 xw hG hV => ?_) ?_
   ·obtain rfl | rfl | rfl | rfl : ss = 10 ∨ ss = 11 ∨ ss = 12 ∨ ss = 13 := st3 hlo hhi
    all_goals
    ·rw [← hfe]
     have hS := (hfr vals1).sub (ts := [56, 19]) rfl
     replace hS := hS.conv (t := 56) rfl (show (vals1 46) = .agg #[vI c.epoch, (aggAt (vals1 46) 1), vU c.floor] from hV 46 (by decide))
     replace hS := hS.conv (t := 19) rfl (show (vals1 9) = vT true from hV 9 (by decide))
     refine L_gw (p := true) hS rfl rfl rfl rfl (fun _ => ?_) (fun h => by cases h)
     exact L_val hS rfl (Ob_field1 tRsWZ rfl rfl Try.underlying31 rfl rfl rfl) ⟨rfl, hG⟩
   refine .cons (fun ss hlo hhi vals1 xw hG hV => ?_) ?_
   ·obtain rfl | rfl | rfl | rfl : ss = 10 ∨ ss = 11 ∨ ss = 12 ∨ ss = 13 := st3 hlo hhi
    all_goals
    ·rw [← hfe]
     have hS := (hfr vals1).sub (ts := [55, 57, 19]) rfl
     replace hS := hS.conv (t := 55) rfl (show (vals1 45) = vI ((ln n0_2) + (ln n0_3) + (ln n0_4) + (ln a0_2) + n0_5 + l + n0_6 + s0.1 + n0_7 + t + n0_8.epoch) from hV 45 (by decide))
     replace hS := hS.conv (t := 57) rfl (show (vals1 47) = vI c.epoch from hV 47 (by decide))
     replace hS := hS.conv (t := 19) rfl (show (vals1 9) = vT true from hV 9 (by decide))
     refine L_gw (p := true) hS rfl rfl rfl rfl (fun _ => ?_) (fun h => by cases h)
     exact L_val hS rfl (Ob_add rfl rfl rfl (wrI hg11)) ⟨rfl, hG⟩
   refine .cons (fun ss hlo hhi vals1 xw hG hV => ?_) ?_
   ·obtain rfl | rfl | rfl | rfl | rfl | rfl | rfl | rfl | rfl | rfl | rfl : ss = 1 ∨ ss = 2 ∨ ss = 3 ∨ ss = 4 ∨ ss = 5 ∨ ss = 6 ∨ ss = 7 ∨ ss = 8 ∨ ss = 9 ∨ ss = 10 ∨ ss = 11 := st10 hlo hhi
    all_goals
    ·rw [← hfe]
     have hS := (hfr vals1).sub (ts := [19, 3]) rfl
     replace hS := hS.conv (t := 19) rfl (show (vals1 9) = vT true from hV 9 (by decide))
     refine L_gw (p := true) hS rfl rfl rfl rfl (fun _ => ?_) (fun h => by cases h)
     exact L_val hS rfl (Ob_c tRsWZ rfl) ⟨rfl, hG⟩
   refine .cons (fun ss hlo hhi vals1 xw hG hV => ?_) ?_
   ·obtain rfl : ss = 10 := Nat.le_antisymm hhi hlo
    rw [← hfe]
    have hS := (hfr vals1).sub (ts := [19]) rfl
    replace hS := hS.conv (t := 19) rfl (show (vals1 9) = vT true from hV 9 (by decide))
    refine L_gw (p := true) hS rfl rfl rfl rfl (fun _ => ?_) (fun h => by cases h)
    obtain ⟨I2, hI2, H⟩ := Gx.ex hG
    refine L_hcall H (js := []) rfl (caps := #[]) hS fn_14_YRsWZ rfl rfl rfl rfl rfl (fun D1 hS => have hq := c_mvcc_New hx15 hS; hq) fun _ yw D1 hr hF2 => ?_
    obtain ⟨g0_, rfl, I3, K⟩ := hr
    obtain ⟨hK, H2⟩ := hF2 K
    exact ⟨rfl, Gx.go hG hI2 hK K.imm H2⟩
   refine .cons (fun ss hlo hhi vals1 xw hG hV => ?_) ?_
   ·obtain rfl : ss = 11 := Nat.le_antisymm hhi hlo
    rw [← hfe]
    have hS := (hfr vals1).sub (ts := [59, 60, 19]) rfl
    replace hS := hS.conv (t := 59) rfl (show (vals1 49) = nP from hV 49 (by decide))
    replace hS := hS.conv (t := 60) rfl (show (vals1 50) = .pointer (some ⟨(blkOf (vals1 50)), 0, none⟩) from hV 50 (by decide))
    replace hS := hS.conv (t := 19) rfl (show (vals1 9) = vT true from hV 9 (by decide))
    refine L_gw (p := true) hS rfl rfl rfl rfl (fun _ => ?_) (fun h => by cases h)
    obtain ⟨I2, hI2, H⟩ := Gx.ex hG
    refine L_hcall H (js := [(0, false)]) rfl (caps := #[]) hS fn_15_YRsWZ rfl rfl rfl rfl rfl (fun D1 hS => have hq := c_rstate_State_Feed_nil hx16 hS; hq) fun _ yw D1 hr hF2 => ?_
    obtain ⟨rfl, I3, K⟩ := hr
    obtain ⟨hK, H2⟩ := hF2 K
    exact ⟨rfl, Gx.go hG hI2 hK K.imm H2⟩
   refine .cons (fun ss hlo hhi vals1 xw hG hV => ?_) ?_
   ·obtain rfl | rfl : ss = 12 ∨ ss = 13 := st1 hlo hhi
    all_goals
    ·rw [← hfe]
     have hS := (hfr vals1).sub (ts := [58, 61, 19]) rfl
     replace hS := hS.conv (t := 58) rfl (show (vals1 48) = vI ((ln n0_2) + (ln n0_3) + (ln n0_4) + (ln a0_2) + n0_5 + l + n0_6 + s0.1 + n0_7 + t + n0_8.epoch + c.epoch) from hV 48 (by decide))
     replace hS := hS.conv (t := 61) rfl (show (vals1 51) = vI n0_10 from hV 51 (by decide))
     replace hS := hS.conv (t := 19) rfl (show (vals1 9) = vT true from hV 9 (by decide))
     refine L_gw (p := true) hS rfl rfl rfl rfl (fun _ => ?_) (fun h => by cases h)
     exact L_val hS rfl (Ob_add rfl rfl rfl (wrI hg12)) ⟨rfl, hG⟩
   refine .cons (fun ss hlo hhi vals1 xw hG hV => ?_) ?_
   ·obtain rfl : ss = 12 := Nat.le_antisymm hhi hlo
    rw [← hfe]
    have hS := (hfr vals1).sub (ts := [19, 4]) rfl
    replace hS := hS.conv (t := 19) rfl (show (vals1 9) = vT true from hV 9 (by decide))
    refine L_gw (p := true) hS rfl rfl rfl rfl (fun _ => ?_) (fun h => by cases h)
    obtain ⟨I2, hI2, H⟩ := Gx.ex hG
    refine L_hcall H (js := [(1, false)]) rfl (caps := #[]) hS fn_15_YRsWZ rfl rfl rfl rfl rfl (fun D1 hS => have hq := c_rstate_State_Feed_nil1 hx17 hS; hq) fun _ yw D1 hr hF2 => ?_
    obtain ⟨rfl, I3, K⟩ := hr
    obtain ⟨hK, H2⟩ := hF2 K
    exact ⟨rfl, Gx.go hG hI2 hK K.imm H2⟩
   refine .cons (fun ss hlo hhi vals1 xw hG hV => ?_) ?_
   ·obtain rfl : ss = 13 := Nat.le_antisymm hhi hlo
    rw [← hfe]
    have hS := (hfr vals1).sub (ts := [62, 63, 19]) rfl
    replace hS := hS.conv (t := 62) rfl (show (vals1 52) = vI ((ln n0_2) + (ln n0_3) + (ln n0_4) + (ln a0_2) + n0_5 + l + n0_6 + s0.1 + n0_7 + t + n0_8.epoch + c.epoch + n0_10) from hV 52 (by decide))
    replace hS := hS.conv (t := 63) rfl (show (vals1 53) = vI n0_11.1 from hV 53 (by decide))
    replace hS := hS.conv (t := 19) rfl (show (vals1 9) = vT true from hV 9 (by decide))
    refine L_gw (p := true) hS rfl rfl rfl rfl (fun _ => ?_) (fun h => by cases h)
    exact L_val hS rfl (Ob_add rfl rfl rfl (wrI hg13)) ⟨rfl, hG⟩
   refine .cons (fun ss hlo hhi vals1 xw hG hV => ?_) ?_
   ·obtain rfl : ss = 13 := Nat.le_antisymm hhi hlo
    rw [← hfe]
    have hS := (hfr vals1).sub (ts := [64, 19]) rfl
    replace hS := hS.conv (t := 64) rfl (show (vals1 54) = vI ((ln n0_2) + (ln n0_3) + (ln n0_4) + (ln a0_2) + n0_5 + l + n0_6 + s0.1 + n0_7 + t + n0_8.epoch + c.epoch + n0_10 + n0_11.1) from hV 54 (by decide))
    replace hS := hS.conv (t := 19) rfl (show (vals1 9) = vT true from hV 9 (by decide))
    refine L_gw (p := true) hS rfl rfl rfl rfl (fun _ => ?_) (fun h => by cases h)
    exact L_val hS rfl (Ob_c tRsWZ rfl) ⟨rfl, hG⟩
   refine .cons (fun ss hlo hhi vals1 xw hG hV => ?_) ?_
   ·obtain rfl : ss = 13 := Nat.le_antisymm hhi hlo
    rw [← hfe]
    have hS := (hfr vals1).sub (ts := [19, 65]) rfl
    replace hS := hS.conv (t := 19) rfl (show (vals1 9) = vT true from hV 9 (by decide))
    replace hS := hS.conv (t := 65) rfl (show (vals1 55) = vT (((ln n0_2) + (ln n0_3) + (ln n0_4) + (ln a0_2) + n0_5 + l + n0_6 + s0.1 + n0_7 + t + n0_8.epoch + c.epoch + n0_10 + n0_11.1) == 0) from hV 55 (by decide))
    exact L_val hS rfl (Ob_pick rfl rfl rfl rfl rfl) ⟨rfl, hG⟩
   refine .cons (fun ss hlo hhi vals1 xw hG hV => ?_) ?_
   ·obtain rfl : ss = 13 := Nat.le_antisymm hhi hlo
    rw [← hfe]
    have hS := (hfr vals1).sub (ts := [66]) rfl
    replace hS := hS.conv (t := 66) rfl (show (vals1 56) = vT (((ln n0_2) + (ln n0_3) + (ln n0_4) + (ln a0_2) + n0_5 + l + n0_6 + s0.1 + n0_7 + t + n0_8.epoch + c.epoch + n0_10 + n0_11.1) == 0) from hV 56 (by decide))
    exact L_val hS rfl (Ob_c tRsWZ rfl) ⟨rfl, hG⟩
   refine .cons (fun ss hlo hhi vals1 xw hG hV => ?_) ?_
   ·obtain rfl : ss = 13 := Nat.le_antisymm hhi hlo
    rw [← hfe]
    have hS := (hfr vals1).sub (ts := [67, 3]) rfl
    replace hS := hS.conv (t := 67) rfl (show (vals1 57) = vT (((ln n0_2) + (ln n0_3) + (ln n0_4) + (ln a0_2) + n0_5 + l + n0_6 + s0.1 + n0_7 + t + n0_8.epoch + c.epoch + n0_10 + n0_11.1) == 0) from hV 57 (by decide))
    refine L_gw (p := (((ln n0_2) + (ln n0_3) + (ln n0_4) + (ln a0_2) + n0_5 + l + n0_6 + s0.1 + n0_7 + t + n0_8.epoch + c.epoch + n0_10 + n0_11.1) == 0)) hS rfl rfl rfl (wantB_t _) (fun hp => ?_) (fun hp => ⟨by rw [hp]; rfl, hG⟩)
    exact L_val hS rfl (Ob_c tRsWZ rfl) ⟨(by rw [hp]; rfl), hG⟩
   refine .cons (fun ss hlo hhi vals1 xw hG hV => ?_) ?_
   ·obtain rfl : ss = 13 := Nat.le_antisymm hhi hlo
    rw [← hfe]
    have hS := (hfr vals1).sub (ts := [68, 67]) rfl
    replace hS := hS.conv (t := 68) rfl (show (vals1 58) = cond (((ln n0_2) + (ln n0_3) + (ln n0_4) + (ln a0_2) + n0_5 + l + n0_6 + s0.1 + n0_7 + t + n0_8.epoch + c.epoch + n0_10 + n0_11.1) == 0) (nP) undef from hV 58 (by decide))
    replace hS := hS.conv (t := 67) rfl (show (vals1 57) = vT (((ln n0_2) + (ln n0_3) + (ln n0_4) + (ln a0_2) + n0_5 + l + n0_6 + s0.1 + n0_7 + t + n0_8.epoch + c.epoch + n0_10 + n0_11.1) == 0) from hV 57 (by decide))
    refine L_gw (p := (((ln n0_2) + (ln n0_3) + (ln n0_4) + (ln a0_2) + n0_5 + l + n0_6 + s0.1 + n0_7 + t + n0_8.epoch + c.epoch + n0_10 + n0_11.1) == 0)) hS rfl rfl rfl (wantB_t _) (fun hp => ?_) (fun hp => ⟨by rw [hp]; rfl, hG⟩)
    replace hS := hS.conv (t := 68) rfl (cond_t hp)
    obtain ⟨I2, hI2, H⟩ := Gx.ex hG
    refine L_call (caps := #[]) hS fn_9_YRsWZ rfl rfl rfl rfl rfl ((have hq := c_rstate_State_Horizon_nil (gif_in hx18 hp) ((H).pick0 (js := []) rfl rfl); plainC hq)) fun r yw hr => ?_
    obtain ⟨rfl, hb⟩ := hr
    exact ⟨(by rw [hp]; rfl), Gx.blw hG hb⟩
   refine .cons (fun ss hlo hhi vals1 xw hG hV => ?_) ?_
   ·obtain rfl : ss = 13 := Nat.le_antisymm hhi hlo
    rw [← hfe]
    have hS := (hfr vals1).sub (ts := [67, 4]) rfl
    replace hS := hS.conv (t := 67) rfl (show (vals1 57) = vT (((ln n0_2) + (ln n0_3) + (ln n0_4) + (ln a0_2) + n0_5 + l + n0_6 + s0.1 + n0_7 + t + n0_8.epoch + c.epoch + n0_10 + n0_11.1) == 0) from hV 57 (by decide))
    refine L_gw (p := (((ln n0_2) + (ln n0_3) + (ln n0_4) + (ln a0_2) + n0_5 + l + n0_6 + s0.1 + n0_7 + t + n0_8.epoch + c.epoch + n0_10 + n0_11.1) == 0)) hS rfl rfl rfl (wantB_t _) (fun hp => ?_) (fun hp => ⟨by rw [hp]; rfl, ?_⟩)
    ·obtain ⟨I2, hI2, H⟩ := Gx.ex hG
     refine L_hcall H (js := [(0, false)]) rfl (caps := #[]) hS fn_9_YRsWZ rfl rfl rfl rfl rfl (fun D1 hS => have hq := c_rstate_State_Horizon (gif_in hx19 hp) hS; hq) fun _ yw D1 hr hF2 => ?_
     obtain ⟨rfl, I3, K⟩ := hr
     obtain ⟨hK, H2⟩ := hF2 K
     exact ⟨by rw [hp]; rfl, by first | (rw [hp] at H2 ⊢; exact Gx.go hG hI2 hK K.imm H2) | (rw [hp]; exact Gx.go hG hI2 hK K.imm H2) | exact Gx.go hG hI2 hK K.imm H2⟩
    ·(try rw [hp]); obtain ⟨I2, hI2, H⟩ := Gx.ex hG; (try rw [hp] at H); exact Gx.go hG hI2 (Keep.refl _ _) (fun _ h => h) (H.sub [(0, false), (0, false), (0, true), (1, true), (2, true), (3, true), (4, true), (5, true), (6, true), (7, false), (7, true), (8, true), (9, true)] rfl)
   refine .cons (fun ss hlo hhi vals1 xw hG hV => ?_) ?_
   ·obtain rfl : ss = 14 := Nat.le_antisymm hhi hlo
    rw [← hfe]
    have hS := (hfr vals1).sub (ts := [69, 70, 67]) rfl
    replace hS := hS.conv (t := 69) rfl (show (vals1 59) = cond (((ln n0_2) + (ln n0_3) + (ln n0_4) + (ln a0_2) + n0_5 + l + n0_6 + s0.1 + n0_7 + t + n0_8.epoch + c.epoch + n0_10 + n0_11.1) == 0) (vU n0_12) undef from hV 59 (by decide))
    replace hS := hS.conv (t := 70) rfl (show (vals1 60) = cond (((ln n0_2) + (ln n0_3) + (ln n0_4) + (ln a0_2) + n0_5 + l + n0_6 + s0.1 + n0_7 + t + n0_8.epoch + c.epoch + n0_10 + n0_11.1) == 0) (vU h) undef from hV 60 (by decide))
    replace hS := hS.conv (t := 67) rfl (show (vals1 57) = vT (((ln n0_2) + (ln n0_3) + (ln n0_4) + (ln a0_2) + n0_5 + l + n0_6 + s0.1 + n0_7 + t + n0_8.epoch + c.epoch + n0_10 + n0_11.1) == 0) from hV 57 (by decide))
    refine L_gw (p := (((ln n0_2) + (ln n0_3) + (ln n0_4) + (ln a0_2) + n0_5 + l + n0_6 + s0.1 + n0_7 + t + n0_8.epoch + c.epoch + n0_10 + n0_11.1) == 0)) hS rfl rfl rfl (wantB_t _) (fun hp => ?_) (fun hp => ⟨by rw [hp]; rfl, hG⟩)
    replace hS := hS.conv (t := 69) rfl (cond_t hp)
    replace hS := hS.conv (t := 70) rfl (cond_t hp)
    exact L_val hS rfl (Ob_add rfl rfl rfl (wrU (hg14 hp))) ⟨(by rw [hp]; rfl), hG⟩
   refine .cons (fun ss hlo hhi vals1 xw hG hV => ?_) ?_
   ·obtain rfl : ss = 14 := Nat.le_antisymm hhi hlo
    rw [← hfe]
    have hS := (hfr vals1).sub (ts := [71, 67]) rfl
    replace hS := hS.conv (t := 71) rfl (show (vals1 61) = cond (((ln n0_2) + (ln n0_3) + (ln n0_4) + (ln a0_2) + n0_5 + l + n0_6 + s0.1 + n0_7 + t + n0_8.epoch + c.epoch + n0_10 + n0_11.1) == 0) (vU (n0_12 + h)) undef from hV 61 (by decide))
    replace hS := hS.conv (t := 67) rfl (show (vals1 57) = vT (((ln n0_2) + (ln n0_3) + (ln n0_4) + (ln a0_2) + n0_5 + l + n0_6 + s0.1 + n0_7 + t + n0_8.epoch + c.epoch + n0_10 + n0_11.1) == 0) from hV 57 (by decide))
    refine L_gw (p := (((ln n0_2) + (ln n0_3) + (ln n0_4) + (ln a0_2) + n0_5 + l + n0_6 + s0.1 + n0_7 + t + n0_8.epoch + c.epoch + n0_10 + n0_11.1) == 0)) hS rfl rfl rfl (wantB_t _) (fun hp => ?_) (fun hp => ⟨by rw [hp]; rfl, hG⟩)
    replace hS := hS.conv (t := 71) rfl (cond_t hp)
    exact L_val hS rfl (Ob_c tRsWZ rfl) ⟨(by rw [hp]; rfl), hG⟩
   refine .cons (fun ss hlo hhi vals1 xw hG hV => ?_) ?_
   ·obtain rfl : ss = 14 := Nat.le_antisymm hhi hlo
    rw [← hfe]
    have hS := (hfr vals1).sub (ts := [67, 72]) rfl
    replace hS := hS.conv (t := 67) rfl (show (vals1 57) = vT (((ln n0_2) + (ln n0_3) + (ln n0_4) + (ln a0_2) + n0_5 + l + n0_6 + s0.1 + n0_7 + t + n0_8.epoch + c.epoch + n0_10 + n0_11.1) == 0) from hV 57 (by decide))
    replace hS := hS.conv (t := 72) rfl (show (vals1 62) = cond (((ln n0_2) + (ln n0_3) + (ln n0_4) + (ln a0_2) + n0_5 + l + n0_6 + s0.1 + n0_7 + t + n0_8.epoch + c.epoch + n0_10 + n0_11.1) == 0) (vT ((n0_12 + h) == 0)) undef from hV 62 (by decide))
    exact L_val hS rfl (Ob_pick rfl rfl rfl rfl (pick_and _ _)) ⟨rfl, hG⟩
   refine .cons (fun ss hlo hhi vals1 xw hG hV => ?_) ?_
   ·obtain rfl : ss = 14 := Nat.le_antisymm hhi hlo
    rw [← hfe]
    have hS := (hfr vals1).sub (ts := [73]) rfl
    replace hS := hS.conv (t := 73) rfl (show (vals1 63) = vT ((((ln n0_2) + (ln n0_3) + (ln n0_4) + (ln a0_2) + n0_5 + l + n0_6 + s0.1 + n0_7 + t + n0_8.epoch + c.epoch + n0_10 + n0_11.1) == 0) && ((n0_12 + h) == 0)) from hV 63 (by decide))
    exact L_val hS rfl (Ob_c tRsWZ rfl) ⟨rfl, hG⟩
   refine .cons (fun ss hlo hhi vals1 xw hG hV => ?_) ?_
   ·obtain rfl : ss = 14 := Nat.le_antisymm hhi hlo
    rw [← hfe]
    have hS := (hfr vals1).sub (ts := [74, 3]) rfl
    replace hS := hS.conv (t := 74) rfl (show (vals1 64) = vT ((((ln n0_2) + (ln n0_3) + (ln n0_4) + (ln a0_2) + n0_5 + l + n0_6 + s0.1 + n0_7 + t + n0_8.epoch + c.epoch + n0_10 + n0_11.1) == 0) && ((n0_12 + h) == 0)) from hV 64 (by decide))
    refine L_gw (p := ((((ln n0_2) + (ln n0_3) + (ln n0_4) + (ln a0_2) + n0_5 + l + n0_6 + s0.1 + n0_7 + t + n0_8.epoch + c.epoch + n0_10 + n0_11.1) == 0) && ((n0_12 + h) == 0))) hS rfl rfl rfl (wantB_t _) (fun hp => ?_) (fun hp => ⟨by rw [hp]; rfl, hG⟩)
    exact L_val hS rfl (Ob_c tRsWZ rfl) ⟨(by rw [hp]; rfl), hG⟩
   refine .cons (fun ss hlo hhi vals1 xw hG hV => ?_) ?_
   ·obtain rfl : ss = 14 := Nat.le_antisymm hhi hlo
    rw [← hfe]
    have hS := (hfr vals1).sub (ts := [75, 74]) rfl
    replace hS := hS.conv (t := 75) rfl (show (vals1 65) = cond ((((ln n0_2) + (ln n0_3) + (ln n0_4) + (ln a0_2) + n0_5 + l + n0_6 + s0.1 + n0_7 + t + n0_8.epoch + c.epoch + n0_10 + n0_11.1) == 0) && ((n0_12 + h) == 0)) (nP) undef from hV 65 (by decide))
    replace hS := hS.conv (t := 74) rfl (show (vals1 64) = vT ((((ln n0_2) + (ln n0_3) + (ln n0_4) + (ln a0_2) + n0_5 + l + n0_6 + s0.1 + n0_7 + t + n0_8.epoch + c.epoch + n0_10 + n0_11.1) == 0) && ((n0_12 + h) == 0)) from hV 64 (by decide))
    refine L_gw (p := ((((ln n0_2) + (ln n0_3) + (ln n0_4) + (ln a0_2) + n0_5 + l + n0_6 + s0.1 + n0_7 + t + n0_8.epoch + c.epoch + n0_10 + n0_11.1) == 0) && ((n0_12 + h) == 0))) hS rfl rfl rfl (wantB_t _) (fun hp => ?_) (fun hp => ⟨by rw [hp]; rfl, hG⟩)
    replace hS := hS.conv (t := 75) rfl (cond_t hp)
    obtain ⟨I2, hI2, H⟩ := Gx.ex hG
    refine L_call (caps := #[]) hS fn_27_YRsWZ rfl rfl rfl rfl rfl ((have hq := c_rstate_State_Find_nil (gif_in hx20 hp) ((H).pick0 (js := []) rfl rfl); plainC hq)) fun r yw hr => ?_
    obtain ⟨rfl, hb⟩ := hr
    exact ⟨(by rw [hp]; rfl), Gx.blw hG hb⟩
   refine .cons (fun ss hlo hhi vals1 xw hG hV => ?_) ?_
   ·obtain rfl : ss = 14 := Nat.le_antisymm hhi hlo
    rw [← hfe]
    have hS := (hfr vals1).sub (ts := [74, 4]) rfl
    replace hS := hS.conv (t := 74) rfl (show (vals1 64) = vT ((((ln n0_2) + (ln n0_3) + (ln n0_4) + (ln a0_2) + n0_5 + l + n0_6 + s0.1 + n0_7 + t + n0_8.epoch + c.epoch + n0_10 + n0_11.1) == 0) && ((n0_12 + h) == 0)) from hV 64 (by decide))
    refine L_gw (p := ((((ln n0_2) + (ln n0_3) + (ln n0_4) + (ln a0_2) + n0_5 + l + n0_6 + s0.1 + n0_7 + t + n0_8.epoch + c.epoch + n0_10 + n0_11.1) == 0) && ((n0_12 + h) == 0))) hS rfl rfl rfl (wantB_t _) (fun hp => ?_) (fun hp => ⟨by rw [hp]; rfl, ?_⟩)
    ·obtain ⟨I2, hI2, H⟩ := Gx.ex hG
     refine L_hcall H (js := [(0, false)]) rfl (caps := #[]) hS fn_27_YRsWZ rfl rfl rfl rfl rfl (fun D1 hS => have hq := c_rstate_State_Find (gif_in hx21 hp) hS; hq) fun _ yw D1 hr hF2 => ?_
     obtain ⟨rfl, I3, K⟩ := hr
     obtain ⟨hK, H2⟩ := hF2 K
     exact ⟨by rw [hp]; rfl, by first | (rw [hp] at H2 ⊢; exact Gx.go hG hI2 hK K.imm H2) | (rw [hp]; exact Gx.go hG hI2 hK K.imm H2) | exact Gx.go hG hI2 hK K.imm H2⟩
    ·(try rw [hp]); obtain ⟨I2, hI2, H⟩ := Gx.ex hG; (try rw [hp] at H); exact Gx.go hG hI2 (Keep.refl _ _) (fun _ h => h) (H.sub [(0, false), (0, false), (0, true), (1, true), (2, true), (3, true), (4, true), (5, true), (6, true), (7, false), (7, true), (8, true), (9, true)] rfl)
   refine .cons (fun ss hlo hhi vals1 xw hG hV => ?_) ?_
   ·obtain rfl : ss = 15 := Nat.le_antisymm hhi hlo
    rw [← hfe]
    have hS := (hfr vals1).sub (ts := [76, 77, 74]) rfl
    replace hS := hS.conv (t := 76) rfl (show (vals1 66) = cond ((((ln n0_2) + (ln n0_3) + (ln n0_4) + (ln a0_2) + n0_5 + l + n0_6 + s0.1 + n0_7 + t + n0_8.epoch + c.epoch + n0_10 + n0_11.1) == 0) && ((n0_12 + h) == 0)) (vI n0_13) undef from hV 66 (by decide))
    replace hS := hS.conv (t := 77) rfl (show (vals1 67) = cond ((((ln n0_2) + (ln n0_3) + (ln n0_4) + (ln a0_2) + n0_5 + l + n0_6 + s0.1 + n0_7 + t + n0_8.epoch + c.epoch + n0_10 + n0_11.1) == 0) && ((n0_12 + h) == 0)) (vI f) undef from hV 67 (by decide))
    replace hS := hS.conv (t := 74) rfl (show (vals1 64) = vT ((((ln n0_2) + (ln n0_3) + (ln n0_4) + (ln a0_2) + n0_5 + l + n0_6 + s0.1 + n0_7 + t + n0_8.epoch + c.epoch + n0_10 + n0_11.1) == 0) && ((n0_12 + h) == 0)) from hV 64 (by decide))
    refine L_gw (p := ((((ln n0_2) + (ln n0_3) + (ln n0_4) + (ln a0_2) + n0_5 + l + n0_6 + s0.1 + n0_7 + t + n0_8.epoch + c.epoch + n0_10 + n0_11.1) == 0) && ((n0_12 + h) == 0))) hS rfl rfl rfl (wantB_t _) (fun hp => ?_) (fun hp => ⟨by rw [hp]; rfl, hG⟩)
    replace hS := hS.conv (t := 76) rfl (cond_t hp)
    replace hS := hS.conv (t := 77) rfl (cond_t hp)
    exact L_val hS rfl (Ob_add rfl rfl rfl (wrI (hg15 hp))) ⟨(by rw [hp]; rfl), hG⟩
   refine .cons (fun ss hlo hhi vals1 xw hG hV => ?_) ?_
   ·obtain rfl : ss = 15 := Nat.le_antisymm hhi hlo
    rw [← hfe]
    have hS := (hfr vals1).sub (ts := [78, 74]) rfl
    replace hS := hS.conv (t := 78) rfl (show (vals1 68) = cond ((((ln n0_2) + (ln n0_3) + (ln n0_4) + (ln a0_2) + n0_5 + l + n0_6 + s0.1 + n0_7 + t + n0_8.epoch + c.epoch + n0_10 + n0_11.1) == 0) && ((n0_12 + h) == 0)) (vI (n0_13 + f)) undef from hV 68 (by decide))
    replace hS := hS.conv (t := 74) rfl (show (vals1 64) = vT ((((ln n0_2) + (ln n0_3) + (ln n0_4) + (ln a0_2) + n0_5 + l + n0_6 + s0.1 + n0_7 + t + n0_8.epoch + c.epoch + n0_10 + n0_11.1) == 0) && ((n0_12 + h) == 0)) from hV 64 (by decide))
    refine L_gw (p := ((((ln n0_2) + (ln n0_3) + (ln n0_4) + (ln a0_2) + n0_5 + l + n0_6 + s0.1 + n0_7 + t + n0_8.epoch + c.epoch + n0_10 + n0_11.1) == 0) && ((n0_12 + h) == 0))) hS rfl rfl rfl (wantB_t _) (fun hp => ?_) (fun hp => ⟨by rw [hp]; rfl, hG⟩)
    replace hS := hS.conv (t := 78) rfl (cond_t hp)
    exact L_val hS rfl (Ob_c tRsWZ rfl) ⟨(by rw [hp]; rfl), hG⟩
   refine .cons (fun ss hlo hhi vals1 xw hG hV => ?_) ?_
   ·obtain rfl : ss = 15 := Nat.le_antisymm hhi hlo
    rw [← hfe]
    have hS := (hfr vals1).sub (ts := [74, 79]) rfl
    replace hS := hS.conv (t := 74) rfl (show (vals1 64) = vT ((((ln n0_2) + (ln n0_3) + (ln n0_4) + (ln a0_2) + n0_5 + l + n0_6 + s0.1 + n0_7 + t + n0_8.epoch + c.epoch + n0_10 + n0_11.1) == 0) && ((n0_12 + h) == 0)) from hV 64 (by decide))
    replace hS := hS.conv (t := 79) rfl (show (vals1 69) = cond ((((ln n0_2) + (ln n0_3) + (ln n0_4) + (ln a0_2) + n0_5 + l + n0_6 + s0.1 + n0_7 + t + n0_8.epoch + c.epoch + n0_10 + n0_11.1) == 0) && ((n0_12 + h) == 0)) (vT ((n0_13 + f) == (-2))) undef from hV 69 (by decide))
    exact L_val hS rfl (Ob_pick rfl rfl rfl rfl (pick_and _ _)) ⟨rfl, hG⟩
   refine .cons (fun ss hlo hhi vals1 xw hG hV => ?_) ?_
   ·obtain rfl : ss = 15 := Nat.le_antisymm hhi hlo
    rw [← hfe]
    have hS := (hfr vals1).sub (ts := [80]) rfl
    replace hS := hS.conv (t := 80) rfl (show (vals1 70) = vT (((((ln n0_2) + (ln n0_3) + (ln n0_4) + (ln a0_2) + n0_5 + l + n0_6 + s0.1 + n0_7 + t + n0_8.epoch + c.epoch + n0_10 + n0_11.1) == 0) && ((n0_12 + h) == 0)) && ((n0_13 + f) == (-2))) from hV 70 (by decide))
    exact L_val hS rfl (Ob_c tRsWZ rfl) ⟨rfl, hG⟩
   refine .cons (fun ss hlo hhi vals1 xw hG hV => ?_) ?_
   ·obtain rfl : ss = 15 := Nat.le_antisymm hhi hlo
    rw [← hfe]
    have hS := (hfr vals1).sub (ts := [81]) rfl
    replace hS := hS.conv (t := 81) rfl (show (vals1 71) = vT (((((ln n0_2) + (ln n0_3) + (ln n0_4) + (ln a0_2) + n0_5 + l + n0_6 + s0.1 + n0_7 + t + n0_8.epoch + c.epoch + n0_10 + n0_11.1) == 0) && ((n0_12 + h) == 0)) && ((n0_13 + f) == (-2))) from hV 71 (by decide))
    refine L_gw (p := (((((ln n0_2) + (ln n0_3) + (ln n0_4) + (ln a0_2) + n0_5 + l + n0_6 + s0.1 + n0_7 + t + n0_8.epoch + c.epoch + n0_10 + n0_11.1) == 0) && ((n0_12 + h) == 0)) && ((n0_13 + f) == (-2)))) hS rfl rfl rfl (wantB_t _) (fun hp => ?_) (fun hp => ⟨by rw [hp]; rfl, hG⟩)
    obtain ⟨I2, hI2, H⟩ := Gx.ex hG
    refine L_call (caps := #[]) hS fn_7_YRsWZ rfl rfl rfl rfl rfl ((have hq := c_law30_awake (gif_in hx22 hp) ((H).pick0 (js := []) rfl rfl); plainC hq)) fun r yw hr => ?_
    obtain ⟨rfl, hb⟩ := hr
    exact ⟨(by rw [hp]; rfl), Gx.blw hG hb⟩
   refine .cons (fun ss hlo hhi vals1 xw hG hV => ?_) ?_
   ·obtain rfl : ss = 15 := Nat.le_antisymm hhi hlo
    rw [← hfe]
    have hS := (hfr vals1).sub (ts := [81, 82]) rfl
    replace hS := hS.conv (t := 81) rfl (show (vals1 71) = vT (((((ln n0_2) + (ln n0_3) + (ln n0_4) + (ln a0_2) + n0_5 + l + n0_6 + s0.1 + n0_7 + t + n0_8.epoch + c.epoch + n0_10 + n0_11.1) == 0) && ((n0_12 + h) == 0)) && ((n0_13 + f) == (-2))) from hV 71 (by decide))
    replace hS := hS.conv (t := 82) rfl (show (vals1 72) = cond (((((ln n0_2) + (ln n0_3) + (ln n0_4) + (ln a0_2) + n0_5 + l + n0_6 + s0.1 + n0_7 + t + n0_8.epoch + c.epoch + n0_10 + n0_11.1) == 0) && ((n0_12 + h) == 0)) && ((n0_13 + f) == (-2))) (vT a0_3) undef from hV 72 (by decide))
    exact L_val hS rfl (Ob_pick rfl rfl rfl rfl (pick_and _ _)) ⟨rfl, hG⟩
   refine .cons (fun ss hlo hhi vals1 xw hG hV => ?_) ?_
   ·obtain rfl : ss = 15 := Nat.le_antisymm hhi hlo
    rw [← hfe]
    have hS := (hfr vals1).sub (ts := [83]) rfl
    replace hS := hS.conv (t := 83) rfl (show (vals1 73) = vT ((((((ln n0_2) + (ln n0_3) + (ln n0_4) + (ln a0_2) + n0_5 + l + n0_6 + s0.1 + n0_7 + t + n0_8.epoch + c.epoch + n0_10 + n0_11.1) == 0) && ((n0_12 + h) == 0)) && ((n0_13 + f) == (-2))) && a0_3) from hV 73 (by decide))
    exact L_val hS rfl (Ob_c tRsWZ rfl) ⟨rfl, hG⟩
   exact .nil
  ·intro vals1 a w6 Z hG hV
   replace Z := Z.sub (ts := [2]) (S' := [(2, vals1 74)]) rfl
   replace Z := Z.conv (t := 2) rfl (show (vals1 74) = vT ((((((ln n0_2) + (ln n0_3) + (ln n0_4) + (ln a0_2) + n0_5 + l + n0_6 + s0.1 + n0_7 + t + n0_8.epoch + c.epoch + n0_10 + n0_11.1) == 0) && ((n0_12 + h) == 0)) && ((n0_13 + f) == (-2))) && a0_3) from hV 74 (by decide))
   obtain ⟨I4, _, H⟩ := Gx.ex hG
   clear hG hV
   replace Z := Z.sub (ts := [2]) rfl
   replace H := H.nf rfl; try dsimp only at H
   refine p_then (wp_ret ?_)
   obtain rfl := some_in hF
   exact f_ret Z (run_results1 rfl Z rfl) ⟨rfl, I4, (H.sub [] rfl).eq rfl⟩

end Go.Proofs.Ytglfajjcgbfehaa
