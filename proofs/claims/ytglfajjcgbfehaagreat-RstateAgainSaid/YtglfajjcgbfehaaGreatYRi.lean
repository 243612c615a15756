/- What a replica knows: the document's state; comparisons. -/
import Derived.Test.YtglfajjcgbfehaaGreatYRh
import Derived.Test.YtglfajjcgbfehaaGreatYRfW
namespace Go.Proofs.YtglfajjcgbfehaaGreat
open Go.RowKit
def tRiL : TabL := ⟨[(31744, 0), (31745, 1), (34816, 0), (36864, 0), (36865, 3), (36866, 4), (51200, 0), (51201, 1), (51202, 2), (51203, 3), (51204, 6), (51205, 7), (51206, 11), (51207, 14)], [], [], [(22, (50, 18)), (28, (109, 2)), (32, (44, 4)), (39, (3, 1))], [(3, (1, false)), (28, (1, false)), (29, (1, false)), (31, (3, true)), (32, (1, false)), (39, (1, false)), (44, (4, true)), (46, (3, true)), (48, (4, true)), (50, (18, true))]⟩

def tRi : Tab Tryz.prog := ⟨tRiL, by kernel_rfl⟩

theorem fn_17_YRi : IsFn Tryz.prog 17 := ⟨_, Tryz.func17, by kernel_rfl, by kernel_rfl⟩

theorem fn_25_YRi : IsFn Tryz.prog 25 := ⟨_, Tryz.func25, by kernel_rfl, by kernel_rfl⟩

theorem fn_26_YRi : IsFn Tryz.prog 26 := ⟨_, Tryz.func26, by kernel_rfl, by kernel_rfl⟩

theorem fn_27_YRi : IsFn Tryz.prog 27 := ⟨_, Tryz.func27, by kernel_rfl, by kernel_rfl⟩

theorem fn_28_YRi : IsFn Tryz.prog 28 := ⟨_, Tryz.func28, by kernel_rfl, by kernel_rfl⟩

theorem fn_29_YRi : IsFn Tryz.prog 29 := ⟨_, Tryz.func29, by kernel_rfl, by kernel_rfl⟩

theorem fn_30_YRi : IsFn Tryz.prog 30 := ⟨_, Tryz.func30, by kernel_rfl, by kernel_rfl⟩

theorem fn_31_YRi : IsFn Tryz.prog 31 := ⟨_, Tryz.func31, by kernel_rfl, by kernel_rfl⟩

theorem fn_32_YRi : IsFn Tryz.prog 32 := ⟨_, Tryz.func32, by kernel_rfl, by kernel_rfl⟩

theorem fn_33_YRi : IsFn Tryz.prog 33 := ⟨_, Tryz.func33, by kernel_rfl, by kernel_rfl⟩

theorem fn_34_YRi : IsFn Tryz.prog 34 := ⟨_, Tryz.func34, by kernel_rfl, by kernel_rfl⟩

theorem fn_35_YRi : IsFn Tryz.prog 35 := ⟨_, Tryz.func35, by kernel_rfl, by kernel_rfl⟩

theorem fn_36_YRi : IsFn Tryz.prog 36 := ⟨_, Tryz.func36, by kernel_rfl, by kernel_rfl⟩

theorem fn_37_YRi : IsFn Tryz.prog 37 := ⟨_, Tryz.func37, by kernel_rfl, by kernel_rfl⟩

theorem fn_38_YRi : IsFn Tryz.prog 38 := ⟨_, Tryz.func38, by kernel_rfl, by kernel_rfl⟩

theorem fn_39_YRi : IsFn Tryz.prog 39 := ⟨_, Tryz.func39, by kernel_rfl, by kernel_rfl⟩

theorem fn_42_YRi : IsFn Tryz.prog 42 := ⟨_, Tryz.func42, by kernel_rfl, by kernel_rfl⟩

theorem E_28_YRi : Elem Tryz.prog 28 109 2 16 := ⟨Tryz.underlying28, by
 have h : (Tryz.prog.info? 109).map (fun i => (i.zero, i.size, i.bytes)) = some (some (.agg #[.int .i64 0, .int .i64 0]), 2, 16) := by kernel_rfl
 obtain ⟨i, hi, h1⟩ := Option.map_eq_some_iff.1 h
 simp only [Prod.mk.injEq] at h1
 exact ⟨i, _, hi, h1.1, h1.2.1, h1.2.2, by rfl⟩, by decide⟩

def F_ref30_State_Apply (s0 : Eref30_State) (n0 : ENote) : Option (Int × Eref30_State) := (F_ref10_Check n0).bind fun c => (if (c != 0) = true then (some (c, s0)) else (if (n0.k == 1) = true then (if (decide (n0.conf.epoch ≤ s0.conf.epoch)) = true then (some (18, s0)) else (chk (((([] : List EMember).length + n0.conf.members.length : Nat) : Int) * 16 ≤ 140737488355328) (some (0, ({ s0 with conf := ({ n0.conf with members := [] ++ n0.conf.members } : EConf) } : Eref30_State))))) else (if (n0.k == 2) = true then ((F_ref17_Log_Set s0 n0.n n0.entry).bind fun s0_2 => (some (s0_2.1, s0_2.2))) else (if (n0.k == 3) = true then ((F_ref17_Log_Stamp s0 n0.n n0.at_).bind fun s0_3 => (some (s0_3.1, s0_3.2))) else (if (n0.k == 4) = true then (if (decide (n0.at_ < s0.horizon)) = true then (some (18, s0)) else ((F_ref17_Log_Thin ({ s0 with horizon := n0.at_ } : Eref30_State) n0.at_ n0.n).bind fun t => (some (0, t.2)))) else (some (11, s0)))))))

set_option maxHeartbeats 1000000 in
theorem c_ref30_State_Apply {I D : Dm} {b_s0 : Nat} {s0 : Eref30_State} {n0 : ENote} {v1_n0 : Value} {v2_n0 : Value} {v3_n0 : Value} {w : World} {rr : Int × Eref30_State} (hF : F_ref30_State_Apply s0 n0 = some rr) (H : St I D w [OEref30_State b_s0 s0, SlC NEMember v1_n0 n0.conf.members, SlC Ni64 v2_n0 n0.legit, SlC NEOp v3_n0 n0.entry.batch.ops]) :
  Calls Tryz.prog 9 #[pp b_s0 0, .agg (cENote n0 v1_n0 v2_n0 v3_n0).toArray] w (Ret fun vv w' => vv = vI rr.1 ∧ ∃ I', Hf I D w I' w' [OEref30_State b_s0 rr.2]) := by
 replace H := H.hf
 unfold F_ref30_State_Apply at hF
 refine f_enter 79 Tryz.func9 rfl rfl (Nat.le_of_ble_eq_true rfl) fun a Z => ?_
 replace Z := Z.sub (ts := [0, 1]) rfl
 refine sR Z fun Z => ?_
 refine h_boxv Z H (cl := (cENote n0 v1_n0 v2_n0 v3_n0)) rfl rfl rfl (by decide) rfl rfl rfl fun a w1 b1 H Z => ?_
 refine s_runk tRi Z 1 rfl rfl fun a Z => ?_
 refine s_end Z [0, 3] rfl fun Z => ?_
 refine p_then (wp_seq ?_)
 refine wp_seq ?_
 obtain ⟨c, hx1, hF⟩ := bnd_in hF
 refine f_region Z fun Z => ?_
 refine sO Z (.agg (cENote n0 v1_n0 v2_n0 v3_n0).toArray) rfl (oA tRi rfl rfl ((H.bx 0 rfl).part 0 rfl)) fun a Z => ?_
 refine hC Z H [(2, true), (3, true), (4, true)] rfl #[] fn_25_YRi rfl rfl (fun D h => have q := c_ref10_Check hx1 h; q) fun vv a w2 D2 hr hF2 Z => ?_
 obtain ⟨rfl, I1, K⟩ := hr
 have H := (hF2 K).nf rfl
 refine s_runk tRi Z 1 rfl rfl fun a Z => ?_
 refine s_end Z [0, 3, 5] rfl fun Z => ?_
 refine pR Z fun Z => ?_
 refine s_runk tRi Z 2 rfl rfl fun a Z => ?_
 refine s_end Z [0, 3, 5, 10] rfl fun Z => ?_
 refine p_then ?_
 refine f_cond Z rfl (fun hc1 => ?_) (fun hc1 => ?_)
 ·replace hF := ite_t hc1 hF
  refine sR Z fun Z => ?_
  refine s_runk tRi Z 2 rfl rfl fun a Z => ?_
  refine s_end Z [4] rfl fun Z => ?_
  refine p_then (wp_ret ?_)
  refine p_then_r ?_
  obtain rfl := some_in hF
  exact f_ret Z (run_results1 rfl Z rfl) ⟨rfl, I1, (H.sub [(1, false)] rfl).eq rfl⟩
 ·replace hF := ite_f hc1 hF
  refine wp_skip ?_
  refine p_then (wp_seq ?_)
  refine sR Z fun Z => ?_
  refine s_runk tRi Z 1 rfl rfl fun a Z => ?_
  refine sO Z _ rfl (oL tRi rfl rfl (H.bc 0 0 rfl rfl)) fun a Z => ?_
  refine s_end Z [0, 3, 13] rfl fun Z => ?_
  refine p_then (wp_block ?_)
  refine sR Z fun Z => ?_
  refine s_runk tRi Z 2 rfl rfl fun a Z => ?_
  refine s_end Z [0, 3, 13, 14] rfl fun Z => ?_
  refine p_then ?_
  refine f_cond Z rfl (fun hc2 => ?_) (fun hc2 => ?_)
  ·replace hF := ite_t hc2 hF
   refine wp_seq ?_
   refine wp_seq ?_
   obtain ⟨⟨v4, v5⟩, H⟩ := H.openX 1 rfl
   replace H := H.nf rfl; try dsimp only at H
   refine f_quietd (by kernel_rfl) (by kernel_rfl) Z fun Z => ?_
   refine q_runk tRi Z 2 rfl rfl fun a Z => ?_
   refine qO Z _ rfl (fun _ hw => oL tRi rfl rfl ((H.blw hw).bc 3 3 rfl rfl)) fun a Z => ?_
   refine q_runk tRi Z 4 rfl rfl fun a Z => ?_
   refine qO Z _ rfl (fun _ hw => oL tRi rfl rfl ((H.blw hw).bc 0 0 rfl rfl)) fun a Z => ?_
   refine q_runk tRi Z 1 rfl rfl fun a Z => ?_
   refine q_end Z [0, 3, 24] rfl fun w3 hb Z => ?_
   replace H := H.blw hb
   clear hb
   refine p_then ?_
   refine f_cond Z rfl (fun hc3 => ?_) (fun hc3 => ?_)
   ·replace hF := ite_t hc3 hF
    refine sR Z fun Z => ?_
    refine s_runk tRi Z 1 rfl rfl fun a Z => ?_
    refine s_end Z [4] rfl fun Z => ?_
    refine p_then (wp_ret ?_)
    refine p_then_r ?_
    refine p_blk_r ?_
    refine p_then_r ?_
    replace H := H.sX (OEref30_State b_s0 s0) (v4, v5) [(0, false), (0, true), (1, true)] rfl rfl rfl
    obtain rfl := some_in hF
    exact f_ret Z (run_results1 rfl Z rfl) ⟨rfl, I1, (H.sub [(0, false)] rfl).eq rfl⟩
   ·replace hF := ite_f hc3 hF
    refine wp_skip ?_
    refine pR Z fun Z => ?_
    refine s_runk tRi Z 1 rfl rfl fun a Z => ?_
    refine sO Z (.agg #[vI n0.conf.epoch, v1_n0, vU n0.conf.floor]) rfl (oA tRi rfl rfl ((H.bx 3 rfl).part 3 rfl)) fun a Z => ?_
    refine hA Z H [vI 0, nS, vU 0] rfl rfl (by kernel_rfl) fun a w4 b2 H Z => ?_
    refine hT tRi Z H 0 rfl rfl rfl rfl rfl (one_cons rfl (one_cons (slS.one (H.slshape 5 rfl)) (one_cons rfl one_nil))) (Nat.le_of_ble_eq_true rfl) rfl fun w5 H => ?_
    dsimp only [List.eraseIdx] at H
    refine s_end Z [0, 3, 6] rfl fun Z => ?_
    refine p_then (wp_seq ?_)
    obtain ⟨hg1, hF⟩ := chk_in hF
    refine f_region Z fun Z => ?_
    refine h_bslice Z H (vs := []) (cl := []) (e := 109) rfl rfl rfl (by decide) rfl rfl (fun w => run_bslice (z := .agg #[vI 0, vI 0]) (m := 2) Tryz.underlying28 (by kernel_rfl) rfl rfl (by decide) (by simp [Instr.fill, Value.cells]) w) fun a w6 b3 H Z => ?_
    refine s_runk tRi Z 2 rfl rfl fun a Z => ?_
    refine sO Z _ rfl (oL tRi rfl rfl (H.bc 5 4 rfl rfl)) fun a Z => ?_
    replace H : Hf I D w I1 w6 [OwC NEMember 109 (.slice (some ⟨b3, 0, none⟩) 0 0) [], BxC b2 31 [vI n0.conf.epoch, v1_n0, vU n0.conf.floor], BxC b_s0 36 (cEref30_State s0 v4 v5), SlC NEMember v4 s0.conf.members, SlC NEEntry v5 s0.log.l, BxC b1 50 (cENote n0 v1_n0 v2_n0 v3_n0), SlC NEMember v1_n0 n0.conf.members, SlC Ni64 v2_n0 n0.legit, SlC NEOp v3_n0 n0.entry.batch.ops] := H.emptyow 0 rfl NEMember
    refine h_appO Z H 0 E_28_YRi n0.conf.members rfl rfl rfl rfl rfl (by decide) rfl rfl rfl (H.sl2 6 rfl) hg1 (by decide) fun v6 a w7 H Z => ?_
    dsimp only [List.eraseIdx] at H
    refine s_runk tRi Z 1 rfl rfl fun a Z => ?_
    refine hT tRi Z H 1 rfl rfl (slS.cells (H.owshape 0 rfl)) rfl rfl (one_cons (slS.one (H.owshape 0 rfl)) one_nil) (Nat.le_of_ble_eq_true rfl) rfl fun w8 H => ?_
    dsimp only [List.eraseIdx] at H
    refine s_end Z [0, 6] rfl fun Z => ?_
    refine pR Z fun Z => ?_
    refine s_runk tRi Z 1 rfl rfl fun a Z => ?_
    refine sO Z (.agg #[vI n0.conf.epoch, v6, vU n0.conf.floor]) rfl (oA tRi rfl rfl ((H.bx 0 rfl).part 0 rfl)) fun a Z => ?_
    refine s_runk tRi Z 2 rfl rfl fun a Z => ?_
    refine hT tRi Z H 2 rfl rfl rfl rfl rfl (one_cons rfl (one_cons (slS.one (H.owshape 1 rfl)) (one_cons rfl one_nil))) (Nat.le_of_ble_eq_true rfl) rfl fun w9 H => ?_
    dsimp only [List.eraseIdx] at H
    refine s_end Z [] rfl fun Z => ?_
    refine pR Z fun Z => ?_
    refine s_runk tRi Z 1 rfl rfl fun a Z => ?_
    refine s_end Z [4] rfl fun Z => ?_
    refine p_then (wp_ret ?_)
    refine p_blk_r ?_
    refine p_then_r ?_
    obtain ⟨I2, _, H⟩ := H.frzow 2 rfl
    replace H := H.nf rfl; try dsimp only at H
    replace H := H.sX (OEref30_State b_s0 ({ s0 with conf := ({ n0.conf with members := [] ++ n0.conf.members } : EConf) } : Eref30_State)) (v6, v5) [(1, false), (0, true), (3, true)] rfl rfl rfl
    obtain rfl := some_in hF
    exact f_ret Z (run_results1 rfl Z rfl) ⟨rfl, I2, (H.sub [(0, false)] rfl).eq rfl⟩
  ·replace hF := ite_f hc2 hF
   refine sR Z fun Z => ?_
   refine s_runk tRi Z 2 rfl rfl fun a Z => ?_
   refine s_end Z [0, 3, 13, 37] rfl fun Z => ?_
   refine p_then ?_
   refine f_cond Z rfl (fun hc4 => ?_) (fun hc4 => ?_)
   ·replace hF := ite_t hc4 hF
    refine wp_seq ?_
    obtain ⟨s0_2, hx2, hF⟩ := bnd_in hF
    refine f_quietS 7 (by kernel_rfl) (by kernel_rfl) (by kernel_rfl) (by kernel_rfl) (by kernel_rfl) Z fun Z => ?_
    refine q_runk tRi Z 4 rfl rfl fun a Z => ?_
    refine qO Z _ rfl (fun _ hw => oL tRi rfl rfl ((H.blw hw).bc 0 1 rfl rfl)) fun a Z => ?_
    refine q_runk tRi Z 1 rfl rfl fun a Z => ?_
    refine qO Z (.agg (cEEntry n0.entry v3_n0).toArray) rfl (fun _ hw => oA tRi rfl rfl (((H.blw hw).bx 0 rfl).part 7 rfl)) fun a Z => ?_
    refine q_endS Z [0, 3, 13, 37, 39, 40, 41, 42, 43, 44, 45] rfl fun w10 hb Z => ?_
    replace H := H.blw hb
    clear hb
    refine hC Z H [(1, false), (3, true)] rfl #[] fn_26_YRi rfl rfl (fun D h => have q := c_ref17_Log_Set hx2 h; q) fun vv a w11 D2 hr hF2 Z => ?_
    obtain ⟨rfl, I3, K⟩ := hr
    have H := (hF2 K).nf rfl
    refine s_runk tRi Z 1 rfl rfl fun a Z => ?_
    refine s_end Z [4] rfl fun Z => ?_
    refine p_then (wp_ret ?_)
    refine p_blk_r ?_
    refine p_then_r ?_
    obtain rfl := some_in hF
    exact f_ret Z (run_results1 rfl Z rfl) ⟨rfl, I3, (H.sub [(0, false)] rfl).eq rfl⟩
   ·replace hF := ite_f hc4 hF
    refine sR Z fun Z => ?_
    refine s_runk tRi Z 2 rfl rfl fun a Z => ?_
    refine s_end Z [0, 3, 13, 47] rfl fun Z => ?_
    refine p_then ?_
    refine f_cond Z rfl (fun hc5 => ?_) (fun hc5 => ?_)
    ·replace hF := ite_t hc5 hF
     refine wp_seq ?_
     obtain ⟨s0_3, hx3, hF⟩ := bnd_in hF
     refine f_quietS 7 (by kernel_rfl) (by kernel_rfl) (by kernel_rfl) (by kernel_rfl) (by kernel_rfl) Z fun Z => ?_
     refine q_runk tRi Z 4 rfl rfl fun a Z => ?_
     refine qO Z _ rfl (fun _ hw => oL tRi rfl rfl ((H.blw hw).bc 0 1 rfl rfl)) fun a Z => ?_
     refine q_runk tRi Z 1 rfl rfl fun a Z => ?_
     refine qO Z _ rfl (fun _ hw => oL tRi rfl rfl ((H.blw hw).bc 0 2 rfl rfl)) fun a Z => ?_
     refine q_endS Z [0, 3, 13, 47, 49, 50, 51, 52, 53, 54, 55] rfl fun w12 hb Z => ?_
     replace H := H.blw hb
     clear hb
     refine hC Z H [(1, false)] rfl #[] fn_27_YRi rfl rfl (fun D h => have q := c_ref17_Log_Stamp hx3 h; q) fun vv a w13 D2 hr hF2 Z => ?_
     obtain ⟨rfl, I4, K⟩ := hr
     have H := (hF2 K).nf rfl
     refine s_runk tRi Z 1 rfl rfl fun a Z => ?_
     refine s_end Z [4] rfl fun Z => ?_
     refine p_then (wp_ret ?_)
     refine p_blk_r ?_
     refine p_then_r ?_
     obtain rfl := some_in hF
     exact f_ret Z (run_results1 rfl Z rfl) ⟨rfl, I4, (H.sub [(0, false)] rfl).eq rfl⟩
    ·replace hF := ite_f hc5 hF
     refine sR Z fun Z => ?_
     refine s_runk tRi Z 2 rfl rfl fun a Z => ?_
     refine s_end Z [0, 3, 57] rfl fun Z => ?_
     refine p_then ?_
     refine f_cond Z rfl (fun hc6 => ?_) (fun hc6 => ?_)
     ·replace hF := ite_t hc6 hF
      refine wp_seq ?_
      refine wp_seq ?_
      obtain ⟨⟨v7, v8⟩, H⟩ := H.openX 1 rfl
      replace H := H.nf rfl; try dsimp only at H
      refine f_quietd (by kernel_rfl) (by kernel_rfl) Z fun Z => ?_
      refine q_runk tRi Z 1 rfl rfl fun a Z => ?_
      refine qO Z _ rfl (fun _ hw => oL tRi rfl rfl ((H.blw hw).bc 3 2 rfl rfl)) fun a Z => ?_
      refine q_runk tRi Z 3 rfl rfl fun a Z => ?_
      refine qO Z _ rfl (fun _ hw => oL tRi rfl rfl ((H.blw hw).bc 0 3 rfl rfl)) fun a Z => ?_
      refine q_runk tRi Z 1 rfl rfl fun a Z => ?_
      refine q_end Z [0, 3, 65] rfl fun w14 hb Z => ?_
      replace H := H.blw hb
      clear hb
      refine p_then ?_
      refine f_cond Z rfl (fun hc7 => ?_) (fun hc7 => ?_)
      ·replace hF := ite_t hc7 hF
       refine sR Z fun Z => ?_
       refine s_runk tRi Z 1 rfl rfl fun a Z => ?_
       refine s_end Z [4] rfl fun Z => ?_
       refine p_then (wp_ret ?_)
       refine p_then_r ?_
       refine p_blk_r ?_
       refine p_then_r ?_
       replace H := H.sX (OEref30_State b_s0 s0) (v7, v8) [(0, false), (0, true), (1, true)] rfl rfl rfl
       obtain rfl := some_in hF
       exact f_ret Z (run_results1 rfl Z rfl) ⟨rfl, I1, (H.sub [(0, false)] rfl).eq rfl⟩
      ·replace hF := ite_f hc7 hF
       refine wp_skip ?_
       refine pR Z fun Z => ?_
       refine s_runk tRi Z 2 rfl rfl fun a Z => ?_
       refine sO Z _ rfl (oL tRi rfl rfl (H.bc 3 2 rfl rfl)) fun a Z => ?_
       refine s_runk tRi Z 2 rfl rfl fun a Z => ?_
       refine hT tRi Z H 0 rfl rfl rfl rfl rfl (one_cons rfl one_nil) (Nat.le_of_ble_eq_true rfl) rfl fun w15 H => ?_
       dsimp only [List.eraseIdx] at H
       refine s_end Z [0, 3] rfl fun Z => ?_
       refine p_then (wp_seq ?_)
       obtain ⟨t, hx4, hF⟩ := bnd_in hF
       refine f_quietS 7 (by kernel_rfl) (by kernel_rfl) (by kernel_rfl) (by kernel_rfl) (by kernel_rfl) Z fun Z => ?_
       refine q_runk tRi Z 4 rfl rfl fun a Z => ?_
       refine qO Z _ rfl (fun _ hw => oL tRi rfl rfl ((H.blw hw).bc 3 2 rfl rfl)) fun a Z => ?_
       refine q_runk tRi Z 1 rfl rfl fun a Z => ?_
       refine qO Z _ rfl (fun _ hw => oL tRi rfl rfl ((H.blw hw).bc 3 1 rfl rfl)) fun a Z => ?_
       refine q_endS Z [0, 3, 71, 72, 73, 74, 75, 76, 77] rfl fun w16 hb Z => ?_
       replace H := H.blw hb
       clear hb
       replace H := H.sX (OEref30_State b_s0 ({ s0 with horizon := n0.at_ } : Eref30_State)) (v7, v8) [(0, false), (0, true), (1, true)] rfl rfl rfl
       refine hC Z H [(0, false)] rfl #[] fn_28_YRi rfl rfl (fun D h => have q := c_ref17_Log_Thin hx4 h; q) fun vv a w17 D2 hr hF2 Z => ?_
       obtain ⟨rfl, I5, K⟩ := hr
       have H := (hF2 K).nf rfl
       refine s_end Z [] rfl fun Z => ?_
       refine pR Z fun Z => ?_
       refine s_runk tRi Z 1 rfl rfl fun a Z => ?_
       refine s_end Z [4] rfl fun Z => ?_
       refine p_then (wp_ret ?_)
       refine p_blk_r ?_
       refine p_then_r ?_
       obtain rfl := some_in hF
       exact f_ret Z (run_results1 rfl Z rfl) ⟨rfl, I5, (H.sub [(0, false)] rfl).eq rfl⟩
     ·replace hF := ite_f hc6 hF
      refine wp_skip ?_
      refine p_blk ?_
      refine pR Z fun Z => ?_
      refine s_runk tRi Z 1 rfl rfl fun a Z => ?_
      refine s_end Z [4] rfl fun Z => ?_
      refine p_then (wp_ret ?_)
      obtain rfl := some_in hF
      exact f_ret Z (run_results1 rfl Z rfl) ⟨rfl, I1, (H.sub [(1, false)] rfl).eq rfl⟩

def F_ref08_SameAll_l1 (a0 : List EEntry) (b : List EEntry) (rc : Int → Option Bool) (sg : Int) : Option Bool := match sg with | i => if ((decide (i < (a0.length : Int))) && (decide (i < (b.length : Int)))) = true then (chk ((0 : Int) ≤ i ∧ i < (a0.length : Int)) (chk ((0 : Int) ≤ i ∧ i < (b.length : Int)) ((F_ref08_Same ({ (a0.getD (i).toNat default) with batch := ({ client := ((a0.getD (i).toNat default).batch).client, req := ((a0.getD (i).toNat default).batch).req, ops := ((a0.getD (i).toNat default).batch).ops } : EBatch) } : EEntry) ({ (b.getD (i).toNat default) with batch := ({ client := ((b.getD (i).toNat default).batch).client, req := ((b.getD (i).toNat default).batch).req, ops := ((b.getD (i).toNat default).batch).ops } : EBatch) } : EEntry)).bind fun s0 => (if (!s0) = true then (some false) else (chk (inI (i + 1)) (rc (i + 1))))))) else (some true)

def F_ref08_SameAll (a0 : List EEntry) (b : List EEntry) : Option Bool := if ((a0.length : Int) != (b.length : Int)) = true then (some false) else (iter (F_ref08_SameAll_l1 a0 b) FU 0)

set_option maxHeartbeats 1000000 in
theorem c_ref08_SameAll {I D : Dm} {a0 : List EEntry} {v1_a0 : Value} {b : List EEntry} {v2_b : Value} {w : World} {rr : Bool} (hF : F_ref08_SameAll a0 b = some rr) (H : St I D w [SlC NEEntry v1_a0 a0, SlC NEEntry v2_b b]) :
  Calls Tryz.prog 32 #[v1_a0, v2_b] w (Ret fun vv w' => vv = vT rr ∧ ∃ I', Hf I D w I' w' []) := by
 replace H := H.hf
 unfold F_ref08_SameAll at hF
 refine f_enter 33 Tryz.func32 rfl rfl (Nat.le_of_ble_eq_true rfl) fun a Z => ?_
 replace Z := Z.sub (ts := [0, 1]) rfl
 refine sR Z fun Z => ?_
 refine s_runk tRi Z 1 rfl rfl fun a Z => ?_
 refine s_end Z [0, 1] rfl fun Z => ?_
 refine p_then (wp_seq ?_)
 refine sR Z fun Z => ?_
 refine s_runk tRi Z 1 rfl rfl fun a Z => ?_
 refine sO Z (vI (ln a0)) rfl (Ob_slen tRi rfl rfl rfl (H.slshape 0 rfl)) fun a Z => ?_
 refine s_runk tRi Z 1 rfl rfl fun a Z => ?_
 refine sO Z (vI (ln b)) rfl (Ob_slen tRi rfl rfl rfl (H.slshape 1 rfl)) fun a Z => ?_
 refine s_runk tRi Z 1 rfl rfl fun a Z => ?_
 refine s_end Z [0, 1, 10] rfl fun Z => ?_
 refine p_then ?_
 refine f_cond Z rfl (fun hc1 => ?_) (fun hc1 => ?_)
 ·replace hF := ite_t hc1 hF
  refine sR Z fun Z => ?_
  refine s_runk tRi Z 1 rfl rfl fun a Z => ?_
  refine s_end Z [4] rfl fun Z => ?_
  refine p_then (wp_ret ?_)
  refine p_then_r ?_
  obtain rfl := some_in hF
  exact f_ret Z (run_results1 rfl Z rfl) ⟨rfl, I, (H.sub [] rfl).eq rfl⟩
 ·replace hF := ite_f hc1 hF
  refine wp_skip ?_
  refine p_then (wp_seq ?_)
  refine sR Z fun Z => ?_
  refine s_runk tRi Z 1 rfl rfl fun a Z => ?_
  refine s_end Z [0, 1, 5] rfl fun Z => ?_
  refine p_then (wp_block ?_)
  refine f_iter hF (fun sg a' w' => match sg with | i => Sl 33 [(0, v1_a0), (1, v2_b), (5, vI i)] a' ∧ ∃ I2, Hf I D w I2 w' [SlC NEEntry v1_a0 a0, SlC NEEntry v2_b b]) ⟨Z.sub (ts := [0, 1, 5]) rfl, ⟨I, (H.sub [(0, true), (1, true)] rfl).eq rfl⟩⟩ ?_
  rintro rc i a w1 ⟨Z, I1, H⟩ hF
  unfold F_ref08_SameAll_l1 at hF
  try dsimp only at hF
  refine wp_seq ?_
  refine sR Z fun Z => ?_
  refine s_runk tRi Z 2 rfl rfl fun a Z => ?_
  refine sO Z (vI (ln a0)) rfl (Ob_slen tRi rfl rfl rfl (H.slshape 0 rfl)) fun a Z => ?_
  refine s_runk tRi Z 2 rfl rfl fun a Z => ?_
  refine gO Z (vI i) rfl (wantB_t _) (.n 5 rfl .z) (fun hp => Ob_c tRi rfl) fun a Z => ?_
  refine gO Z v2_b rfl (wantB_t _) (.n 1 rfl .z) (fun hp => Ob_c tRi rfl) fun a Z => ?_
  refine gO Z (vI (ln b)) rfl (wantB_t _) (.c 17 rfl id .z) (fun hp => Ob_slen tRi rfl rfl rfl (H.slshape 1 rfl)) fun a Z => ?_
  refine gO Z (vT (decide (i < (ln b)))) rfl (wantB_t _) (.c 16 rfl id (.c 18 rfl id .z)) (fun hp => Ob_c tRi rfl) fun a Z => ?_
  refine sO Z (vT ((decide (i < (ln a0))) && (decide (i < (ln b))))) rfl (Ob_pick rfl rfl rfl rfl (pick_and _ _)) fun a Z => ?_
  refine s_end Z [0, 1, 5, 20] rfl fun Z => ?_
  refine p_then ?_
  refine f_cond Z rfl (fun hc2 => ?_) (fun hc2 => ?_)
  ·replace hF := ite_t hc2 hF
   refine wp_skip ?_
   refine p_then (wp_seq ?_)
   refine wp_block ?_
   refine wp_seq ?_
   obtain ⟨hg1, hF⟩ := chk_in hF
   obtain ⟨_, ⟨u1, rfl, L1⟩, H⟩ := H.elG 0 rfl (i) (NEEntry.dft _ _)
   replace H := H.addsl L1
   replace H : Hf I D w I1 w1 [SlC NEOp u1 (((gi a0 i).batch).ops), AtG ((0 : Int) ≤ i ∧ i < (ln a0)) (blkOf v1_a0) (oofOf v1_a0 + (i).toNat * 4) (cEEntry (gi a0 i) u1), SlC NEEntry v1_a0 a0, SlC NEEntry v2_b b] := H
   obtain ⟨hg2, hF⟩ := chk_in hF
   obtain ⟨_, ⟨u2, rfl, L2⟩, H⟩ := H.elG 3 rfl (i) (NEEntry.dft _ _)
   replace H := H.addsl L2
   replace H : Hf I D w I1 w1 [SlC NEOp u2 (((gi b i).batch).ops), AtG ((0 : Int) ≤ i ∧ i < (ln b)) (blkOf v2_b) (oofOf v2_b + (i).toNat * 4) (cEEntry (gi b i) u2), SlC NEOp u1 (((gi a0 i).batch).ops), AtG ((0 : Int) ≤ i ∧ i < (ln a0)) (blkOf v1_a0) (oofOf v1_a0 + (i).toNat * 4) (cEEntry (gi a0 i) u1), SlC NEEntry v1_a0 a0, SlC NEEntry v2_b b] := H
   obtain ⟨s0, hx1, hF⟩ := bnd_in hF
   refine f_quietd (by kernel_rfl) (by kernel_rfl) Z fun Z => ?_
   refine q_runk tRi Z 2 rfl rfl fun a Z => ?_
   refine qO Z (.pointer (some ⟨blkOf v1_a0, oofOf v1_a0 + (i).toNat * 4, none⟩)) rfl (fun _ hw => Ob_sidx tRi rfl rfl rfl rfl (slPl ((H.blw hw).sl 4 rfl) hg1) hg1) fun a Z => ?_
   refine qO Z (.agg (cEEntry (gi a0 i) u1).toArray) rfl (fun _ hw => oA tRi rfl rfl (((H.blw hw).atg 3 rfl hg1).part 0 rfl)) fun a Z => ?_
   refine q_runk tRi Z 2 rfl rfl fun a Z => ?_
   refine qO Z (.pointer (some ⟨blkOf v2_b, oofOf v2_b + (i).toNat * 4, none⟩)) rfl (fun _ hw => Ob_sidx tRi rfl rfl rfl rfl (slPl ((H.blw hw).sl 5 rfl) hg2) hg2) fun a Z => ?_
   refine qO Z (.agg (cEEntry (gi b i) u2).toArray) rfl (fun _ hw => oA tRi rfl rfl (((H.blw hw).atg 1 rfl hg2).part 0 rfl)) fun a Z => ?_
   refine q_call Z (caps := #[]) fn_42_YRi rfl rfl rfl rfl rfl (by decide) rfl rfl (fun _ hw => (have hq := c_ref08_Same hx1 (((H.blw hw)).pick0 (js := [(2, true), (0, true)]) rfl rfl); plainC hq)) fun a Z => ?_
   refine q_runk tRi Z 1 rfl rfl fun a Z => ?_
   refine q_end Z [0, 1, 5, 32] rfl fun w2 hb Z => ?_
   replace H := H.blw hb
   clear hb
   refine p_then ?_
   refine f_cond Z rfl (fun hc3 => ?_) (fun hc3 => ?_)
   ·replace hF := ite_t hc3 hF
    refine sR Z fun Z => ?_
    refine s_runk tRi Z 1 rfl rfl fun a Z => ?_
    refine s_end Z [4] rfl fun Z => ?_
    refine p_then (wp_ret ?_)
    refine p_blk_r ?_
    refine p_then_r ?_
    refine p_then_r ?_
    refine p_blk_r ?_
    refine p_then_r ?_
    obtain rfl := some_in hF
    exact f_ret Z (run_results1 rfl Z rfl) ⟨rfl, I1, (H.sub [] rfl).eq rfl⟩
   ·replace hF := ite_f hc3 hF
    refine wp_skip ?_
    refine p_blk ?_
    refine p_then ?_
    obtain ⟨hg3, hF⟩ := chk_in hF
    refine f_region Z fun Z => ?_
    refine s_runk tRi Z 1 rfl rfl fun a Z => ?_
    refine sO Z (vI (i + 1)) rfl (Ob_add rfl rfl rfl (wrI hg3)) fun a Z => ?_
    refine s_runk tRi Z 1 rfl rfl fun a Z => ?_
    refine s_end Z [0, 1, 5] rfl fun Z => ?_
    refine p_then ?_
    exact ⟨(i + 1), ⟨Z.sub (ts := [0, 1, 5]) rfl, ⟨I1, (H.sub [(4, true), (5, true)] rfl).eq rfl⟩⟩, hF⟩
  ·replace hF := ite_f hc2 hF
   refine wp_exit ?_
   refine p_then_x ?_
   refine p_then_x ?_
   refine f_exit_here ?_
   refine pR Z fun Z => ?_
   refine s_runk tRi Z 1 rfl rfl fun a Z => ?_
   refine s_end Z [4] rfl fun Z => ?_
   refine p_then (wp_ret ?_)
   obtain rfl := some_in hF
   exact f_ret Z (run_results1 rfl Z rfl) ⟨rfl, I1, (H.sub [] rfl).eq rfl⟩

def F_law30_Same_l1 (x : Eref30_State) (rc : (Int × Erstate_State) → Option (Int × Erstate_State)) (sg : Int × Erstate_State) : Option (Int × Erstate_State) := match sg with | (i, s0_6) => if (decide (i < 3)) = true then ((F_rstate_State_Top s0_6 i).bind fun t => ((F_ref17_Log_Top x i).bind fun t_2 => ((gif (!(t.1 != t_2)) (F_rstate_State_Find t.2 i t.1) default).bind fun f => ((gif (!(t.1 != t_2)) (F_ref17_Log_Find x i t.1) default).bind fun f_2 => (if ((t.1 != t_2) || (f.1 != f_2)) = true then (some (0, (cond (!(t.1 != t_2)) f.2 t.2))) else (chk (inI (i + 1)) (rc (i + 1, (cond (!(t.1 != t_2)) f.2 t.2))))))))) else (some (1, s0_6))

def F_law30_Same (s0 : Erstate_State) (x : Eref30_State) : Option (Int × Erstate_State) := (F_rstate_State_Conf s0).bind fun c => ((F_ref07_Same c x.conf).bind fun s0_2 => ((gif (!(!s0_2)) (F_rstate_State_Horizon s0) default).bind fun h => ((gif (!((!s0_2) || (h != x.horizon))) (F_rstate_State_All s0) default).bind fun a0 => ((gif (!((!s0_2) || (h != x.horizon))) (F_ref08_SameAll a0.1 x.log.l) default).bind fun s0_3 => ((gif (!(((!s0_2) || (h != x.horizon)) || (!s0_3))) (F_rstate_State_Len (cond (!((!s0_2) || (h != x.horizon))) a0.2 s0)) default).bind fun l => ((gif (!((((!s0_2) || (h != x.horizon)) || (!s0_3)) || (l.1 != (x.log.l.length : Int)))) (F_rstate_State_Stamped (cond (!(((!s0_2) || (h != x.horizon)) || (!s0_3))) l.2 (cond (!((!s0_2) || (h != x.horizon))) a0.2 s0))) default).bind fun s0_4 => ((gif (!((((!s0_2) || (h != x.horizon)) || (!s0_3)) || (l.1 != (x.log.l.length : Int)))) (F_ref08_Stamped x.log.l) default).bind fun s0_5 => (if (((((!s0_2) || (h != x.horizon)) || (!s0_3)) || (l.1 != (x.log.l.length : Int))) || (s0_4.1 != s0_5)) = true then (some (0, (cond (!((((!s0_2) || (h != x.horizon)) || (!s0_3)) || (l.1 != (x.log.l.length : Int)))) s0_4.2 (cond (!(((!s0_2) || (h != x.horizon)) || (!s0_3))) l.2 (cond (!((!s0_2) || (h != x.horizon))) a0.2 s0))))) else (iter (F_law30_Same_l1 x) FU (0, (cond (!((((!s0_2) || (h != x.horizon)) || (!s0_3)) || (l.1 != (x.log.l.length : Int)))) s0_4.2 (cond (!(((!s0_2) || (h != x.horizon)) || (!s0_3))) l.2 (cond (!((!s0_2) || (h != x.horizon))) a0.2 s0)))))))))))))

set_option maxHeartbeats 1000000 in
theorem c_law30_Same {I D : Dm} {b_s0 : Nat} {s0 : Erstate_State} {b_x : Nat} {x : Eref30_State} {w : World} {rr : Int × Erstate_State} (hF : F_law30_Same s0 x = some rr) (H : St I D w [OErstate_State b_s0 s0, OEref30_State b_x x]) :
  Calls Tryz.prog 10 #[pp b_s0 0, pp b_x 0] w (Ret fun vv w' => vv = vI rr.1 ∧ ∃ I', Hf I D w I' w' [OErstate_State b_s0 rr.2, OEref30_State b_x x]) := by
 replace H := H.hf
 unfold F_law30_Same at hF
 refine f_enter 84 Tryz.func10 rfl rfl (Nat.le_of_ble_eq_true rfl) fun a Z => ?_
 replace Z := Z.sub (ts := [0, 1]) rfl
 refine sR Z fun Z => ?_
 refine s_runk tRi Z 1 rfl rfl fun a Z => ?_
 refine s_end Z [0, 1] rfl fun Z => ?_
 refine p_then (wp_seq ?_)
 refine wp_seq ?_
 obtain ⟨⟨v1, v2⟩, H⟩ := H.openX 1 rfl
 replace H := H.nf rfl; try dsimp only at H
 obtain ⟨c, hx1, hF⟩ := bnd_in hF
 obtain ⟨s0_2, hx2, hF⟩ := bnd_in hF
 obtain ⟨h, hx3, hF⟩ := bnd_in hF
 obtain ⟨a0, hx4, hF⟩ := bnd_in hF
 obtain ⟨s0_3, hx5, hF⟩ := bnd_in hF
 obtain ⟨l, hx6, hF⟩ := bnd_in hF
 obtain ⟨s0_4, hx7, hF⟩ := bnd_in hF
 obtain ⟨s0_5, hx8, hF⟩ := bnd_in hF
 refine f_regionL Z (by kernel_rfl) (by kernel_rfl) (by decide) (by decide) [1, 10, 19, 30, 41] [(0, 0, 0), (1, 0, 0), (0, 0, 1), (4, 0, 1), (12, 0, 1), (28, 0, 1), (63, 1, 1), (127, 1, 1), (255, 1, 1), (511, 1, 1), (1023, 1, 1), (511, 1, 2), (2559, 1, 2), (6655, 1, 2), (14847, 1, 2), (32767, 2, 2), (65535, 2, 2), (131071, 2, 2), (262143, 2, 2), (524287, 2, 2), (262143, 2, 3), (1310719, 2, 3), (3407871, 2, 3), (7602175, 2, 3), (15990783, 2, 3), (33554431, 3, 3), (67108863, 3, 3), (134217727, 3, 3), (268435455, 3, 3), (536870911, 3, 3), (1073741823, 3, 3), (536870911, 3, 4), (2684354559, 3, 4), (6979321855, 3, 4), (15569256447, 3, 4), (32749125631, 3, 4), (67108863999, 3, 4), (137438953471, 4, 4), (274877906943, 4, 4), (549755813887, 4, 4), (1099511627775, 4, 4), (2199023255551, 4, 4), (1099511627775, 4, 5), (5497558138879, 4, 5), (14293651161087, 4, 5), (31885837205503, 4, 5), (67070209294335, 4, 5), (140737488355327, 5, 5), (281474976710655, 5, 5), (562949953421311, 5, 5)] (by kernel_rfl) (fun jj vv => cond (Nat.blt jj 25) (cond (Nat.blt jj 12) (cond (Nat.blt jj 6) (cond (Nat.blt jj 3) (cond (Nat.blt jj 1) (vv = pp b_s0 0) (cond (Nat.blt jj 2) (vv = .agg #[vI c.epoch, (aggAt vv 1), vU c.floor]) (vv = pp b_x 0))) (cond (Nat.blt jj 4) (vv = pp b_x 0) (cond (Nat.blt jj 5) (vv = pp b_x 0) (vv = .agg #[vI x.conf.epoch, v1, vU x.conf.floor])))) (cond (Nat.blt jj 9) (cond (Nat.blt jj 7) (vv = vT s0_2) (cond (Nat.blt jj 8) (vv = vT (!s0_2)) (vv = vT (!s0_2)))) (cond (Nat.blt jj 10) (vv = cond (!(!s0_2)) (pp b_s0 0) undef) (cond (Nat.blt jj 11) (vv = cond (!(!s0_2)) (vU h) undef) (vv = cond (!(!s0_2)) (pp b_x 0) undef))))) (cond (Nat.blt jj 18) (cond (Nat.blt jj 15) (cond (Nat.blt jj 13) (vv = cond (!(!s0_2)) (pp b_x 0) undef) (cond (Nat.blt jj 14) (vv = cond (!(!s0_2)) (pp b_x 3) undef) (vv = cond (!(!s0_2)) (vU x.horizon) undef))) (cond (Nat.blt jj 16) (vv = cond (!(!s0_2)) (vT (h != x.horizon)) undef) (cond (Nat.blt jj 17) (vv = vT ((!s0_2) || (h != x.horizon))) (vv = vT ((!s0_2) || (h != x.horizon)))))) (cond (Nat.blt jj 21) (cond (Nat.blt jj 19) (vv = cond (!((!s0_2) || (h != x.horizon))) (pp b_s0 0) undef) (cond (Nat.blt jj 20) (vv = cond (!((!s0_2) || (h != x.horizon))) ((slG vv)) undef) (vv = cond (!((!s0_2) || (h != x.horizon))) (pp b_x 0) undef))) (cond (Nat.blt jj 23) (cond (Nat.blt jj 22) (vv = cond (!((!s0_2) || (h != x.horizon))) (pp b_x 0) undef) (vv = cond (!((!s0_2) || (h != x.horizon))) (pp b_x 4) undef)) (cond (Nat.blt jj 24) (vv = cond (!((!s0_2) || (h != x.horizon))) (pp b_x 4) undef) (vv = cond (!((!s0_2) || (h != x.horizon))) (v2) undef)))))) (cond (Nat.blt jj 37) (cond (Nat.blt jj 31) (cond (Nat.blt jj 28) (cond (Nat.blt jj 26) (vv = cond (!((!s0_2) || (h != x.horizon))) (vT s0_3) undef) (cond (Nat.blt jj 27) (vv = cond (!((!s0_2) || (h != x.horizon))) (vT (!s0_3)) undef) (vv = vT (((!s0_2) || (h != x.horizon)) || (!s0_3))))) (cond (Nat.blt jj 29) (vv = vT (((!s0_2) || (h != x.horizon)) || (!s0_3))) (cond (Nat.blt jj 30) (vv = cond (!(((!s0_2) || (h != x.horizon)) || (!s0_3))) (pp b_s0 0) undef) (vv = cond (!(((!s0_2) || (h != x.horizon)) || (!s0_3))) (vI l.1) undef)))) (cond (Nat.blt jj 34) (cond (Nat.blt jj 32) (vv = cond (!(((!s0_2) || (h != x.horizon)) || (!s0_3))) (pp b_x 0) undef) (cond (Nat.blt jj 33) (vv = cond (!(((!s0_2) || (h != x.horizon)) || (!s0_3))) (pp b_x 0) undef) (vv = cond (!(((!s0_2) || (h != x.horizon)) || (!s0_3))) (pp b_x 4) undef))) (cond (Nat.blt jj 35) (vv = cond (!(((!s0_2) || (h != x.horizon)) || (!s0_3))) (pp b_x 4) undef) (cond (Nat.blt jj 36) (vv = cond (!(((!s0_2) || (h != x.horizon)) || (!s0_3))) (v2) undef) (vv = cond (!(((!s0_2) || (h != x.horizon)) || (!s0_3))) (vI (ln x.log.l)) undef))))) (cond (Nat.blt jj 43) (cond (Nat.blt jj 40) (cond (Nat.blt jj 38) (vv = cond (!(((!s0_2) || (h != x.horizon)) || (!s0_3))) (vT (l.1 != (ln x.log.l))) undef) (cond (Nat.blt jj 39) (vv = vT ((((!s0_2) || (h != x.horizon)) || (!s0_3)) || (l.1 != (ln x.log.l)))) (vv = vT ((((!s0_2) || (h != x.horizon)) || (!s0_3)) || (l.1 != (ln x.log.l)))))) (cond (Nat.blt jj 41) (vv = cond (!((((!s0_2) || (h != x.horizon)) || (!s0_3)) || (l.1 != (ln x.log.l)))) (pp b_s0 0) undef) (cond (Nat.blt jj 42) (vv = cond (!((((!s0_2) || (h != x.horizon)) || (!s0_3)) || (l.1 != (ln x.log.l)))) (vI s0_4.1) undef) (vv = cond (!((((!s0_2) || (h != x.horizon)) || (!s0_3)) || (l.1 != (ln x.log.l)))) (pp b_x 0) undef)))) (cond (Nat.blt jj 46) (cond (Nat.blt jj 44) (vv = cond (!((((!s0_2) || (h != x.horizon)) || (!s0_3)) || (l.1 != (ln x.log.l)))) (pp b_x 0) undef) (cond (Nat.blt jj 45) (vv = cond (!((((!s0_2) || (h != x.horizon)) || (!s0_3)) || (l.1 != (ln x.log.l)))) (pp b_x 4) undef) (vv = cond (!((((!s0_2) || (h != x.horizon)) || (!s0_3)) || (l.1 != (ln x.log.l)))) (pp b_x 4) undef))) (cond (Nat.blt jj 48) (cond (Nat.blt jj 47) (vv = cond (!((((!s0_2) || (h != x.horizon)) || (!s0_3)) || (l.1 != (ln x.log.l)))) (v2) undef) (vv = cond (!((((!s0_2) || (h != x.horizon)) || (!s0_3)) || (l.1 != (ln x.log.l)))) (vI s0_5) undef)) (cond (Nat.blt jj 49) (vv = cond (!((((!s0_2) || (h != x.horizon)) || (!s0_3)) || (l.1 != (ln x.log.l)))) (vT (s0_4.1 != s0_5)) undef) (vv = vT (((((!s0_2) || (h != x.horizon)) || (!s0_3)) || (l.1 != (ln x.log.l))) || (s0_4.1 != s0_5))))))))) (fun ss vals1 xw => match ss with | 0 => Gx I D w I w xw [BxC b_x 36 (cEref30_State x v1 v2), SlC NEMember v1 x.conf.members, SlC NEEntry v2 x.log.l, OErstate_State b_s0 s0] | 1 => Gx I D w I w xw [OErstate_State b_s0 s0, SlC NEMember (aggAt (vals1 1) 1) c.members, BxC b_x 36 (cEref30_State x v1 v2), SlC NEMember v1 x.conf.members, SlC NEEntry v2 x.log.l] | 2 => Gx I D w I w xw [OErstate_State b_s0 s0, SlC NEMember (aggAt (vals1 1) 1) c.members, BxC b_x 36 (cEref30_State x v1 v2), SlC NEMember v1 x.conf.members, SlC NEEntry v2 x.log.l] | 3 => Gx I D w I w xw [OErstate_State b_s0 (cond (!((!s0_2) || (h != x.horizon))) a0.2 s0), SlC NEEntry (slG (vals1 19)) a0.1, SlC NEMember (aggAt (vals1 1) 1) c.members, BxC b_x 36 (cEref30_State x v1 v2), SlC NEMember v1 x.conf.members, SlC NEEntry v2 x.log.l] | 4 => Gx I D w I w xw [OErstate_State b_s0 (cond (!(((!s0_2) || (h != x.horizon)) || (!s0_3))) l.2 (cond (!((!s0_2) || (h != x.horizon))) a0.2 s0)), SlC NEEntry (slG (vals1 19)) a0.1, SlC NEMember (aggAt (vals1 1) 1) c.members, BxC b_x 36 (cEref30_State x v1 v2), SlC NEMember v1 x.conf.members, SlC NEEntry v2 x.log.l] | _ => Gx I D w I w xw [OErstate_State b_s0 (cond (!((((!s0_2) || (h != x.horizon)) || (!s0_3)) || (l.1 != (ln x.log.l)))) s0_4.2 (cond (!(((!s0_2) || (h != x.horizon)) || (!s0_3))) l.2 (cond (!((!s0_2) || (h != x.horizon))) a0.2 s0))), SlC NEEntry (slG (vals1 19)) a0.1, SlC NEMember (aggAt (vals1 1) 1) c.members, BxC b_x 36 (cEref30_State x v1 v2), SlC NEMember v1 x.conf.members, SlC NEEntry v2 x.log.l]) (fun _ => Gx.start H) ?_ ?_
 ·intro fr hfr hfe
  refine .cons (fun ss hlo hhi vals1 xw hG hV => ?_) ?_
  ·obtain rfl : ss = 0 := Nat.le_antisymm hhi hlo
   rw [← hfe]
   have hS := (hfr vals1).sub (ts := [0]) rfl
   exact L_val hS rfl (Ob_c tRi rfl) ⟨rfl, hG⟩
  refine .cons (fun ss hlo hhi vals1 xw hG hV => ?_) ?_
  ·obtain rfl : ss = 0 := Nat.le_antisymm hhi hlo
   rw [← hfe]
   have hS := (hfr vals1).sub (ts := [7]) rfl
   replace hS := hS.conv (t := 7) rfl (show (vals1 0) = pp b_s0 0 from hV 0 (by decide))
   obtain ⟨I2, hI2, H⟩ := Gx.ex hG
   refine L_hcall H (js := [(3, false)]) rfl (caps := #[]) hS fn_30_YRi rfl rfl rfl rfl rfl (fun D1 hS => have hq := c_rstate_State_Conf hx1 hS; hq) fun _ yw D1 hr hF2 => ?_
   obtain ⟨q0_, rfl, I3, K⟩ := hr
   obtain ⟨hK, H2⟩ := hF2 K
   exact ⟨rfl, Gx.go hG hI2 hK K.imm H2⟩
  refine .cons (fun ss hlo hhi vals1 xw hG hV => ?_) ?_
  ·obtain rfl | rfl : ss = 0 ∨ ss = 1 := st1 hlo hhi
   all_goals
   ·rw [← hfe]
    have hS := (hfr vals1).sub (ts := [1]) rfl
    exact L_val hS rfl (Ob_c tRi rfl) ⟨rfl, hG⟩
  refine .cons (fun ss hlo hhi vals1 xw hG hV => ?_) ?_
  ·obtain rfl | rfl : ss = 0 ∨ ss = 1 := st1 hlo hhi
   all_goals
   ·rw [← hfe]
    have hS := (hfr vals1).sub (ts := [9]) rfl
    replace hS := hS.conv (t := 9) rfl (show (vals1 2) = pp b_x 0 from hV 2 (by decide))
    exact L_val hS rfl (Ob_c tRi rfl) ⟨rfl, hG⟩
  refine .cons (fun ss hlo hhi vals1 xw hG hV => ?_) ?_
  ·obtain rfl | rfl : ss = 0 ∨ ss = 1 := st1 hlo hhi
   all_goals
   ·rw [← hfe]
    have hS := (hfr vals1).sub (ts := [10]) rfl
    replace hS := hS.conv (t := 10) rfl (show (vals1 3) = pp b_x 0 from hV 3 (by decide))
    exact L_val hS rfl (Ob_c tRi rfl) ⟨rfl, hG⟩
  refine .cons (fun ss hlo hhi vals1 xw hG hV => ?_) ?_
  ·obtain rfl | rfl : ss = 0 ∨ ss = 1 := st1 hlo hhi
   ·rw [← hfe]
    have hS := (hfr vals1).sub (ts := [11]) rfl
    replace hS := hS.conv (t := 11) rfl (show (vals1 4) = pp b_x 0 from hV 4 (by decide))
    obtain ⟨I2, hI2, H⟩ := Gx.ex hG
    exact L_val hS rfl (oA tRi rfl rfl ((H.bx 0 rfl).part 0 rfl)) ⟨rfl, hG⟩
   ·rw [← hfe]
    have hS := (hfr vals1).sub (ts := [11]) rfl
    replace hS := hS.conv (t := 11) rfl (show (vals1 4) = pp b_x 0 from hV 4 (by decide))
    obtain ⟨I2, hI2, H⟩ := Gx.ex hG
    exact L_val hS rfl (oA tRi rfl rfl ((H.bx 2 rfl).part 0 rfl)) ⟨rfl, hG⟩
  refine .cons (fun ss hlo hhi vals1 xw hG hV => ?_) ?_
  ·obtain rfl : ss = 1 := Nat.le_antisymm hhi hlo
   rw [← hfe]
   have hS := (hfr vals1).sub (ts := [8, 12]) rfl
   replace hS := hS.conv (t := 8) rfl (show (vals1 1) = .agg #[vI c.epoch, (aggAt (vals1 1) 1), vU c.floor] from hV 1 (by decide))
   replace hS := hS.conv (t := 12) rfl (show (vals1 5) = .agg #[vI x.conf.epoch, v1, vU x.conf.floor] from hV 5 (by decide))
   obtain ⟨I2, hI2, H⟩ := Gx.ex hG
   refine L_call (caps := #[]) hS fn_29_YRi rfl rfl rfl rfl rfl ((have hq := c_ref07_Same hx2 ((H).pick0 (js := [(1, true), (3, true)]) rfl rfl); plainC hq)) fun r yw hr => ?_
   obtain ⟨rfl, hb⟩ := hr
   exact ⟨rfl, Gx.blw hG hb⟩
  refine .cons (fun ss hlo hhi vals1 xw hG hV => ?_) ?_
  ·obtain rfl : ss = 1 := Nat.le_antisymm hhi hlo
   rw [← hfe]
   have hS := (hfr vals1).sub (ts := [13]) rfl
   replace hS := hS.conv (t := 13) rfl (show (vals1 6) = vT s0_2 from hV 6 (by decide))
   exact L_val hS rfl (Ob_c tRi rfl) ⟨rfl, hG⟩
  refine .cons (fun ss hlo hhi vals1 xw hG hV => ?_) ?_
  ·obtain rfl : ss = 1 := Nat.le_antisymm hhi hlo
   rw [← hfe]
   have hS := (hfr vals1).sub (ts := [14]) rfl
   replace hS := hS.conv (t := 14) rfl (show (vals1 7) = vT (!s0_2) from hV 7 (by decide))
   exact L_val hS rfl (Ob_c tRi rfl) ⟨rfl, hG⟩
  refine .cons (fun ss hlo hhi vals1 xw hG hV => ?_) ?_
  ·obtain rfl : ss = 1 := Nat.le_antisymm hhi hlo
   rw [← hfe]
   have hS := (hfr vals1).sub (ts := [15, 0]) rfl
   replace hS := hS.conv (t := 15) rfl (show (vals1 8) = vT (!s0_2) from hV 8 (by decide))
   refine L_gw (p := (!(!s0_2))) hS rfl rfl rfl (wantB_f _) (fun hp => ?_) (fun hp => ⟨by rw [hp]; rfl, hG⟩)
   exact L_val hS rfl (Ob_c tRi rfl) ⟨(by rw [hp]; rfl), hG⟩
  refine .cons (fun ss hlo hhi vals1 xw hG hV => ?_) ?_
  ·obtain rfl : ss = 1 := Nat.le_antisymm hhi hlo
   rw [← hfe]
   have hS := (hfr vals1).sub (ts := [16, 15]) rfl
   replace hS := hS.conv (t := 16) rfl (show (vals1 9) = cond (!(!s0_2)) (pp b_s0 0) undef from hV 9 (by decide))
   replace hS := hS.conv (t := 15) rfl (show (vals1 8) = vT (!s0_2) from hV 8 (by decide))
   refine L_gw (p := (!(!s0_2))) hS rfl rfl rfl (wantB_f _) (fun hp => ?_) (fun hp => ⟨by rw [hp]; rfl, ?_⟩)
   ·obtain ⟨I2, hI2, H⟩ := Gx.ex hG
    replace hS := hS.conv (t := 16) rfl (cond_t hp)
    refine L_hcall H (js := [(0, false)]) rfl (caps := #[]) hS fn_31_YRi rfl rfl rfl rfl rfl (fun D1 hS => have hq := c_rstate_State_Horizon (gif_in hx3 hp) hS; hq) fun _ yw D1 hr hF2 => ?_
    obtain ⟨rfl, I3, K⟩ := hr
    obtain ⟨hK, H2⟩ := hF2 K
    exact ⟨by rw [hp]; rfl, by first | (rw [hp] at H2 ⊢; exact Gx.go hG hI2 hK K.imm H2) | (rw [hp]; exact Gx.go hG hI2 hK K.imm H2) | exact Gx.go hG hI2 hK K.imm H2⟩
   ·(try rw [hp]); obtain ⟨I2, hI2, H⟩ := Gx.ex hG; (try rw [hp] at H); exact Gx.go hG hI2 (Keep.refl _ _) (fun _ h => h) (H.sub [(0, false), (0, true), (1, false), (1, true), (2, true)] rfl)
  refine .cons (fun ss hlo hhi vals1 xw hG hV => ?_) ?_
  ·obtain rfl | rfl : ss = 1 ∨ ss = 2 := st1 hlo hhi
   all_goals
   ·rw [← hfe]
    have hS := (hfr vals1).sub (ts := [15, 1]) rfl
    replace hS := hS.conv (t := 15) rfl (show (vals1 8) = vT (!s0_2) from hV 8 (by decide))
    refine L_gw (p := (!(!s0_2))) hS rfl rfl rfl (wantB_f _) (fun hp => ?_) (fun hp => ⟨by rw [hp]; rfl, hG⟩)
    exact L_val hS rfl (Ob_c tRi rfl) ⟨(by rw [hp]; rfl), hG⟩
  refine .cons (fun ss hlo hhi vals1 xw hG hV => ?_) ?_
  ·obtain rfl | rfl : ss = 1 ∨ ss = 2 := st1 hlo hhi
   all_goals
   ·rw [← hfe]
    have hS := (hfr vals1).sub (ts := [18, 15]) rfl
    replace hS := hS.conv (t := 18) rfl (show (vals1 11) = cond (!(!s0_2)) (pp b_x 0) undef from hV 11 (by decide))
    replace hS := hS.conv (t := 15) rfl (show (vals1 8) = vT (!s0_2) from hV 8 (by decide))
    refine L_gw (p := (!(!s0_2))) hS rfl rfl rfl (wantB_f _) (fun hp => ?_) (fun hp => ⟨by rw [hp]; rfl, hG⟩)
    replace hS := hS.conv (t := 18) rfl (cond_t hp)
    exact L_val hS rfl (Ob_c tRi rfl) ⟨(by rw [hp]; rfl), hG⟩
  refine .cons (fun ss hlo hhi vals1 xw hG hV => ?_) ?_
  ·obtain rfl | rfl : ss = 1 ∨ ss = 2 := st1 hlo hhi
   all_goals
   ·rw [← hfe]
    have hS := (hfr vals1).sub (ts := [19, 15]) rfl
    replace hS := hS.conv (t := 19) rfl (show (vals1 12) = cond (!(!s0_2)) (pp b_x 0) undef from hV 12 (by decide))
    replace hS := hS.conv (t := 15) rfl (show (vals1 8) = vT (!s0_2) from hV 8 (by decide))
    refine L_gw (p := (!(!s0_2))) hS rfl rfl rfl (wantB_f _) (fun hp => ?_) (fun hp => ⟨by rw [hp]; rfl, hG⟩)
    replace hS := hS.conv (t := 19) rfl (cond_t hp)
    exact L_val hS rfl (Ob_c tRi rfl) ⟨(by rw [hp]; rfl), hG⟩
  refine .cons (fun ss hlo hhi vals1 xw hG hV => ?_) ?_
  ·obtain rfl | rfl : ss = 1 ∨ ss = 2 := st1 hlo hhi
   all_goals
   ·rw [← hfe]
    have hS := (hfr vals1).sub (ts := [20, 15]) rfl
    replace hS := hS.conv (t := 20) rfl (show (vals1 13) = cond (!(!s0_2)) (pp b_x 3) undef from hV 13 (by decide))
    replace hS := hS.conv (t := 15) rfl (show (vals1 8) = vT (!s0_2) from hV 8 (by decide))
    refine L_gw (p := (!(!s0_2))) hS rfl rfl rfl (wantB_f _) (fun hp => ?_) (fun hp => ⟨by rw [hp]; rfl, hG⟩)
    replace hS := hS.conv (t := 20) rfl (cond_t hp)
    obtain ⟨I2, hI2, H⟩ := Gx.ex hG
    exact L_val hS rfl (oL tRi rfl rfl (H.bc 2 3 rfl rfl)) ⟨(by rw [hp]; rfl), hG⟩
  refine .cons (fun ss hlo hhi vals1 xw hG hV => ?_) ?_
  ·obtain rfl : ss = 2 := Nat.le_antisymm hhi hlo
   rw [← hfe]
   have hS := (hfr vals1).sub (ts := [17, 21, 15]) rfl
   replace hS := hS.conv (t := 17) rfl (show (vals1 10) = cond (!(!s0_2)) (vU h) undef from hV 10 (by decide))
   replace hS := hS.conv (t := 21) rfl (show (vals1 14) = cond (!(!s0_2)) (vU x.horizon) undef from hV 14 (by decide))
   replace hS := hS.conv (t := 15) rfl (show (vals1 8) = vT (!s0_2) from hV 8 (by decide))
   refine L_gw (p := (!(!s0_2))) hS rfl rfl rfl (wantB_f _) (fun hp => ?_) (fun hp => ⟨by rw [hp]; rfl, hG⟩)
   replace hS := hS.conv (t := 17) rfl (cond_t hp)
   replace hS := hS.conv (t := 21) rfl (cond_t hp)
   exact L_val hS rfl (Ob_c tRi rfl) ⟨(by rw [hp]; rfl), hG⟩
  refine .cons (fun ss hlo hhi vals1 xw hG hV => ?_) ?_
  ·obtain rfl : ss = 2 := Nat.le_antisymm hhi hlo
   rw [← hfe]
   have hS := (hfr vals1).sub (ts := [15, 22]) rfl
   replace hS := hS.conv (t := 15) rfl (show (vals1 8) = vT (!s0_2) from hV 8 (by decide))
   replace hS := hS.conv (t := 22) rfl (show (vals1 15) = cond (!(!s0_2)) (vT (h != x.horizon)) undef from hV 15 (by decide))
   exact L_val hS rfl (Ob_pick rfl rfl rfl rfl (pick_or _ _)) ⟨rfl, hG⟩
  refine .cons (fun ss hlo hhi vals1 xw hG hV => ?_) ?_
  ·obtain rfl : ss = 2 := Nat.le_antisymm hhi hlo
   rw [← hfe]
   have hS := (hfr vals1).sub (ts := [23]) rfl
   replace hS := hS.conv (t := 23) rfl (show (vals1 16) = vT ((!s0_2) || (h != x.horizon)) from hV 16 (by decide))
   exact L_val hS rfl (Ob_c tRi rfl) ⟨rfl, hG⟩
  refine .cons (fun ss hlo hhi vals1 xw hG hV => ?_) ?_
  ·obtain rfl : ss = 2 := Nat.le_antisymm hhi hlo
   rw [← hfe]
   have hS := (hfr vals1).sub (ts := [24, 0]) rfl
   replace hS := hS.conv (t := 24) rfl (show (vals1 17) = vT ((!s0_2) || (h != x.horizon)) from hV 17 (by decide))
   refine L_gw (p := (!((!s0_2) || (h != x.horizon)))) hS rfl rfl rfl (wantB_f _) (fun hp => ?_) (fun hp => ⟨by rw [hp]; rfl, hG⟩)
   exact L_val hS rfl (Ob_c tRi rfl) ⟨(by rw [hp]; rfl), hG⟩
  refine .cons (fun ss hlo hhi vals1 xw hG hV => ?_) ?_
  ·obtain rfl : ss = 2 := Nat.le_antisymm hhi hlo
   rw [← hfe]
   have hS := (hfr vals1).sub (ts := [25, 24]) rfl
   replace hS := hS.conv (t := 25) rfl (show (vals1 18) = cond (!((!s0_2) || (h != x.horizon))) (pp b_s0 0) undef from hV 18 (by decide))
   replace hS := hS.conv (t := 24) rfl (show (vals1 17) = vT ((!s0_2) || (h != x.horizon)) from hV 17 (by decide))
   refine L_gw (p := (!((!s0_2) || (h != x.horizon)))) hS rfl rfl rfl (wantB_f _) (fun hp => ?_) (fun hp => ⟨by rw [hp]; rfl, ?_⟩)
   ·obtain ⟨I2, hI2, H⟩ := Gx.ex hG
    replace hS := hS.conv (t := 25) rfl (cond_t hp)
    refine L_hcall H (js := [(0, false)]) rfl (caps := #[]) hS fn_33_YRi rfl rfl rfl rfl rfl (fun D1 hS => have hq := c_rstate_State_All (gif_in hx4 hp) hS; hq) fun _ yw D1 hr hF2 => ?_
    obtain ⟨q0_, rfl, I3, K⟩ := hr
    obtain ⟨hK, H2⟩ := hF2 K
    obtain ⟨_, _, rfl, _, _⟩ := H2.slshape 1 rfl
    exact ⟨by rw [hp]; rfl, by first | (rw [hp] at H2 ⊢; exact Gx.go hG hI2 hK K.imm H2) | (rw [hp]; exact Gx.go hG hI2 hK K.imm H2) | exact Gx.go hG hI2 hK K.imm H2⟩
   ·obtain rfl := gif_no hx4 hp; (try rw [hp]); obtain ⟨I2, hI2, H⟩ := Gx.ex hG; (try rw [hp] at H); exact Gx.go hG hI2 (Keep.refl _ _) (fun _ h => h) (Hf.sub (Hf.slNil (H.sub [(0, false), (0, true), (1, false), (1, true), (2, true)] rfl) NEEntry) [(1, false), (0, false), (0, true), (1, false), (1, true), (2, true)] rfl)
  refine .cons (fun ss hlo hhi vals1 xw hG hV => ?_) ?_
  ·obtain rfl | rfl : ss = 2 ∨ ss = 3 := st1 hlo hhi
   all_goals
   ·rw [← hfe]
    have hS := (hfr vals1).sub (ts := [24, 1]) rfl
    replace hS := hS.conv (t := 24) rfl (show (vals1 17) = vT ((!s0_2) || (h != x.horizon)) from hV 17 (by decide))
    refine L_gw (p := (!((!s0_2) || (h != x.horizon)))) hS rfl rfl rfl (wantB_f _) (fun hp => ?_) (fun hp => ⟨by rw [hp]; rfl, hG⟩)
    exact L_val hS rfl (Ob_c tRi rfl) ⟨(by rw [hp]; rfl), hG⟩
  refine .cons (fun ss hlo hhi vals1 xw hG hV => ?_) ?_
  ·obtain rfl | rfl : ss = 2 ∨ ss = 3 := st1 hlo hhi
   all_goals
   ·rw [← hfe]
    have hS := (hfr vals1).sub (ts := [27, 24]) rfl
    replace hS := hS.conv (t := 27) rfl (show (vals1 20) = cond (!((!s0_2) || (h != x.horizon))) (pp b_x 0) undef from hV 20 (by decide))
    replace hS := hS.conv (t := 24) rfl (show (vals1 17) = vT ((!s0_2) || (h != x.horizon)) from hV 17 (by decide))
    refine L_gw (p := (!((!s0_2) || (h != x.horizon)))) hS rfl rfl rfl (wantB_f _) (fun hp => ?_) (fun hp => ⟨by rw [hp]; rfl, hG⟩)
    replace hS := hS.conv (t := 27) rfl (cond_t hp)
    exact L_val hS rfl (Ob_c tRi rfl) ⟨(by rw [hp]; rfl), hG⟩
  refine .cons (fun ss hlo hhi vals1 xw hG hV => ?_) ?_
  ·obtain rfl | rfl : ss = 2 ∨ ss = 3 := st1 hlo hhi
   all_goals
   ·rw [← hfe]
    have hS := (hfr vals1).sub (ts := [28, 24]) rfl
    replace hS := hS.conv (t := 28) rfl (show (vals1 21) = cond (!((!s0_2) || (h != x.horizon))) (pp b_x 0) undef from hV 21 (by decide))
    replace hS := hS.conv (t := 24) rfl (show (vals1 17) = vT ((!s0_2) || (h != x.horizon)) from hV 17 (by decide))
    refine L_gw (p := (!((!s0_2) || (h != x.horizon)))) hS rfl rfl rfl (wantB_f _) (fun hp => ?_) (fun hp => ⟨by rw [hp]; rfl, hG⟩)
    replace hS := hS.conv (t := 28) rfl (cond_t hp)
    exact L_val hS rfl (Ob_c tRi rfl) ⟨(by rw [hp]; rfl), hG⟩
  refine .cons (fun ss hlo hhi vals1 xw hG hV => ?_) ?_
  ·obtain rfl | rfl : ss = 2 ∨ ss = 3 := st1 hlo hhi
   all_goals
   ·rw [← hfe]
    have hS := (hfr vals1).sub (ts := [29, 24]) rfl
    replace hS := hS.conv (t := 29) rfl (show (vals1 22) = cond (!((!s0_2) || (h != x.horizon))) (pp b_x 4) undef from hV 22 (by decide))
    replace hS := hS.conv (t := 24) rfl (show (vals1 17) = vT ((!s0_2) || (h != x.horizon)) from hV 17 (by decide))
    refine L_gw (p := (!((!s0_2) || (h != x.horizon)))) hS rfl rfl rfl (wantB_f _) (fun hp => ?_) (fun hp => ⟨by rw [hp]; rfl, hG⟩)
    replace hS := hS.conv (t := 29) rfl (cond_t hp)
    exact L_val hS rfl (Ob_c tRi rfl) ⟨(by rw [hp]; rfl), hG⟩
  refine .cons (fun ss hlo hhi vals1 xw hG hV => ?_) ?_
  ·obtain rfl | rfl : ss = 2 ∨ ss = 3 := st1 hlo hhi
   ·rw [← hfe]
    have hS := (hfr vals1).sub (ts := [30, 24]) rfl
    replace hS := hS.conv (t := 30) rfl (show (vals1 23) = cond (!((!s0_2) || (h != x.horizon))) (pp b_x 4) undef from hV 23 (by decide))
    replace hS := hS.conv (t := 24) rfl (show (vals1 17) = vT ((!s0_2) || (h != x.horizon)) from hV 17 (by decide))
    refine L_gw (p := (!((!s0_2) || (h != x.horizon)))) hS rfl rfl rfl (wantB_f _) (fun hp => ?_) (fun hp => ⟨by rw [hp]; rfl, hG⟩)
    replace hS := hS.conv (t := 30) rfl (cond_t hp)
    obtain ⟨I2, hI2, H⟩ := Gx.ex hG
    exact L_val hS rfl (oL tRi rfl rfl (H.bc 2 4 rfl rfl)) ⟨(by rw [hp]; rfl), hG⟩
   ·rw [← hfe]
    have hS := (hfr vals1).sub (ts := [30, 24]) rfl
    replace hS := hS.conv (t := 30) rfl (show (vals1 23) = cond (!((!s0_2) || (h != x.horizon))) (pp b_x 4) undef from hV 23 (by decide))
    replace hS := hS.conv (t := 24) rfl (show (vals1 17) = vT ((!s0_2) || (h != x.horizon)) from hV 17 (by decide))
    refine L_gw (p := (!((!s0_2) || (h != x.horizon)))) hS rfl rfl rfl (wantB_f _) (fun hp => ?_) (fun hp => ⟨by rw [hp]; rfl, hG⟩)
    replace hS := hS.conv (t := 30) rfl (cond_t hp)
    obtain ⟨I2, hI2, H⟩ := Gx.ex hG
    exact L_val hS rfl (oL tRi rfl rfl (H.bc 3 4 rfl rfl)) ⟨(by rw [hp]; rfl), hG⟩
  refine .cons (fun ss hlo hhi vals1 xw hG hV => ?_) ?_
  ·obtain rfl : ss = 3 := Nat.le_antisymm hhi hlo
   rw [← hfe]
   have hS := (hfr vals1).sub (ts := [26, 31, 24]) rfl
   replace hS := hS.conv (t := 26) rfl (show (vals1 19) = cond (!((!s0_2) || (h != x.horizon))) ((slG (vals1 19))) undef from hV 19 (by decide))
   replace hS := hS.conv (t := 31) rfl (show (vals1 24) = cond (!((!s0_2) || (h != x.horizon))) (v2) undef from hV 24 (by decide))
   replace hS := hS.conv (t := 24) rfl (show (vals1 17) = vT ((!s0_2) || (h != x.horizon)) from hV 17 (by decide))
   refine L_gw (p := (!((!s0_2) || (h != x.horizon)))) hS rfl rfl rfl (wantB_f _) (fun hp => ?_) (fun hp => ⟨by rw [hp]; rfl, hG⟩)
   replace hS := hS.conv (t := 26) rfl (cond_t hp)
   replace hS := hS.conv (t := 31) rfl (cond_t hp)
   obtain ⟨I2, hI2, H⟩ := Gx.ex hG
   refine L_call (caps := #[]) hS fn_32_YRi rfl rfl rfl rfl rfl ((have hq := c_ref08_SameAll (gif_in hx5 hp) ((H).pick0 (js := [(1, true), (5, true)]) rfl rfl); plainC hq)) fun r yw hr => ?_
   obtain ⟨rfl, hb⟩ := hr
   exact ⟨(by rw [hp]; rfl), Gx.blw hG hb⟩
  refine .cons (fun ss hlo hhi vals1 xw hG hV => ?_) ?_
  ·obtain rfl : ss = 3 := Nat.le_antisymm hhi hlo
   rw [← hfe]
   have hS := (hfr vals1).sub (ts := [32, 24]) rfl
   replace hS := hS.conv (t := 32) rfl (show (vals1 25) = cond (!((!s0_2) || (h != x.horizon))) (vT s0_3) undef from hV 25 (by decide))
   replace hS := hS.conv (t := 24) rfl (show (vals1 17) = vT ((!s0_2) || (h != x.horizon)) from hV 17 (by decide))
   refine L_gw (p := (!((!s0_2) || (h != x.horizon)))) hS rfl rfl rfl (wantB_f _) (fun hp => ?_) (fun hp => ⟨by rw [hp]; rfl, hG⟩)
   replace hS := hS.conv (t := 32) rfl (cond_t hp)
   exact L_val hS rfl (Ob_c tRi rfl) ⟨(by rw [hp]; rfl), hG⟩
  refine .cons (fun ss hlo hhi vals1 xw hG hV => ?_) ?_
  ·obtain rfl : ss = 3 := Nat.le_antisymm hhi hlo
   rw [← hfe]
   have hS := (hfr vals1).sub (ts := [24, 33]) rfl
   replace hS := hS.conv (t := 24) rfl (show (vals1 17) = vT ((!s0_2) || (h != x.horizon)) from hV 17 (by decide))
   replace hS := hS.conv (t := 33) rfl (show (vals1 26) = cond (!((!s0_2) || (h != x.horizon))) (vT (!s0_3)) undef from hV 26 (by decide))
   exact L_val hS rfl (Ob_pick rfl rfl rfl rfl (pick_or _ _)) ⟨rfl, hG⟩
  refine .cons (fun ss hlo hhi vals1 xw hG hV => ?_) ?_
  ·obtain rfl : ss = 3 := Nat.le_antisymm hhi hlo
   rw [← hfe]
   have hS := (hfr vals1).sub (ts := [34]) rfl
   replace hS := hS.conv (t := 34) rfl (show (vals1 27) = vT (((!s0_2) || (h != x.horizon)) || (!s0_3)) from hV 27 (by decide))
   exact L_val hS rfl (Ob_c tRi rfl) ⟨rfl, hG⟩
  refine .cons (fun ss hlo hhi vals1 xw hG hV => ?_) ?_
  ·obtain rfl : ss = 3 := Nat.le_antisymm hhi hlo
   rw [← hfe]
   have hS := (hfr vals1).sub (ts := [35, 0]) rfl
   replace hS := hS.conv (t := 35) rfl (show (vals1 28) = vT (((!s0_2) || (h != x.horizon)) || (!s0_3)) from hV 28 (by decide))
   refine L_gw (p := (!(((!s0_2) || (h != x.horizon)) || (!s0_3)))) hS rfl rfl rfl (wantB_f _) (fun hp => ?_) (fun hp => ⟨by rw [hp]; rfl, hG⟩)
   exact L_val hS rfl (Ob_c tRi rfl) ⟨(by rw [hp]; rfl), hG⟩
  refine .cons (fun ss hlo hhi vals1 xw hG hV => ?_) ?_
  ·obtain rfl : ss = 3 := Nat.le_antisymm hhi hlo
   rw [← hfe]
   have hS := (hfr vals1).sub (ts := [36, 35]) rfl
   replace hS := hS.conv (t := 36) rfl (show (vals1 29) = cond (!(((!s0_2) || (h != x.horizon)) || (!s0_3))) (pp b_s0 0) undef from hV 29 (by decide))
   replace hS := hS.conv (t := 35) rfl (show (vals1 28) = vT (((!s0_2) || (h != x.horizon)) || (!s0_3)) from hV 28 (by decide))
   refine L_gw (p := (!(((!s0_2) || (h != x.horizon)) || (!s0_3)))) hS rfl rfl rfl (wantB_f _) (fun hp => ?_) (fun hp => ⟨by rw [hp]; rfl, ?_⟩)
   ·obtain ⟨I2, hI2, H⟩ := Gx.ex hG
    replace hS := hS.conv (t := 36) rfl (cond_t hp)
    refine L_hcall H (js := [(0, false)]) rfl (caps := #[]) hS fn_34_YRi rfl rfl rfl rfl rfl (fun D1 hS => have hq := c_rstate_State_Len (gif_in hx6 hp) hS; hq) fun _ yw D1 hr hF2 => ?_
    obtain ⟨rfl, I3, K⟩ := hr
    obtain ⟨hK, H2⟩ := hF2 K
    exact ⟨by rw [hp]; rfl, by first | (rw [hp] at H2 ⊢; exact Gx.go hG hI2 hK K.imm H2) | (rw [hp]; exact Gx.go hG hI2 hK K.imm H2) | exact Gx.go hG hI2 hK K.imm H2⟩
   ·(try rw [hp]); obtain ⟨I2, hI2, H⟩ := Gx.ex hG; (try rw [hp] at H); exact Gx.go hG hI2 (Keep.refl _ _) (fun _ h => h) (H.sub [(0, false), (0, true), (1, true), (2, false), (2, true), (3, true)] rfl)
  refine .cons (fun ss hlo hhi vals1 xw hG hV => ?_) ?_
  ·obtain rfl | rfl : ss = 3 ∨ ss = 4 := st1 hlo hhi
   all_goals
   ·rw [← hfe]
    have hS := (hfr vals1).sub (ts := [35, 1]) rfl
    replace hS := hS.conv (t := 35) rfl (show (vals1 28) = vT (((!s0_2) || (h != x.horizon)) || (!s0_3)) from hV 28 (by decide))
    refine L_gw (p := (!(((!s0_2) || (h != x.horizon)) || (!s0_3)))) hS rfl rfl rfl (wantB_f _) (fun hp => ?_) (fun hp => ⟨by rw [hp]; rfl, hG⟩)
    exact L_val hS rfl (Ob_c tRi rfl) ⟨(by rw [hp]; rfl), hG⟩
  refine .cons (fun ss hlo hhi vals1 xw hG hV => ?_) ?_
  ·obtain rfl | rfl : ss = 3 ∨ ss = 4 := st1 hlo hhi
   all_goals
   ·rw [← hfe]
    have hS := (hfr vals1).sub (ts := [38, 35]) rfl
    replace hS := hS.conv (t := 38) rfl (show (vals1 31) = cond (!(((!s0_2) || (h != x.horizon)) || (!s0_3))) (pp b_x 0) undef from hV 31 (by decide))
    replace hS := hS.conv (t := 35) rfl (show (vals1 28) = vT (((!s0_2) || (h != x.horizon)) || (!s0_3)) from hV 28 (by decide))
    refine L_gw (p := (!(((!s0_2) || (h != x.horizon)) || (!s0_3)))) hS rfl rfl rfl (wantB_f _) (fun hp => ?_) (fun hp => ⟨by rw [hp]; rfl, hG⟩)
    replace hS := hS.conv (t := 38) rfl (cond_t hp)
    exact L_val hS rfl (Ob_c tRi rfl) ⟨(by rw [hp]; rfl), hG⟩
  refine .cons (fun ss hlo hhi vals1 xw hG hV => ?_) ?_
  ·obtain rfl | rfl : ss = 3 ∨ ss = 4 := st1 hlo hhi
   all_goals
   ·rw [← hfe]
    have hS := (hfr vals1).sub (ts := [39, 35]) rfl
    replace hS := hS.conv (t := 39) rfl (show (vals1 32) = cond (!(((!s0_2) || (h != x.horizon)) || (!s0_3))) (pp b_x 0) undef from hV 32 (by decide))
    replace hS := hS.conv (t := 35) rfl (show (vals1 28) = vT (((!s0_2) || (h != x.horizon)) || (!s0_3)) from hV 28 (by decide))
    refine L_gw (p := (!(((!s0_2) || (h != x.horizon)) || (!s0_3)))) hS rfl rfl rfl (wantB_f _) (fun hp => ?_) (fun hp => ⟨by rw [hp]; rfl, hG⟩)
    replace hS := hS.conv (t := 39) rfl (cond_t hp)
    exact L_val hS rfl (Ob_c tRi rfl) ⟨(by rw [hp]; rfl), hG⟩
  refine .cons (fun ss hlo hhi vals1 xw hG hV => ?_) ?_
  ·obtain rfl | rfl : ss = 3 ∨ ss = 4 := st1 hlo hhi
   all_goals
   ·rw [← hfe]
    have hS := (hfr vals1).sub (ts := [40, 35]) rfl
    replace hS := hS.conv (t := 40) rfl (show (vals1 33) = cond (!(((!s0_2) || (h != x.horizon)) || (!s0_3))) (pp b_x 4) undef from hV 33 (by decide))
    replace hS := hS.conv (t := 35) rfl (show (vals1 28) = vT (((!s0_2) || (h != x.horizon)) || (!s0_3)) from hV 28 (by decide))
    refine L_gw (p := (!(((!s0_2) || (h != x.horizon)) || (!s0_3)))) hS rfl rfl rfl (wantB_f _) (fun hp => ?_) (fun hp => ⟨by rw [hp]; rfl, hG⟩)
    replace hS := hS.conv (t := 40) rfl (cond_t hp)
    exact L_val hS rfl (Ob_c tRi rfl) ⟨(by rw [hp]; rfl), hG⟩
  refine .cons (fun ss hlo hhi vals1 xw hG hV => ?_) ?_
  ·obtain rfl | rfl : ss = 3 ∨ ss = 4 := st1 hlo hhi
   all_goals
   ·rw [← hfe]
    have hS := (hfr vals1).sub (ts := [41, 35]) rfl
    replace hS := hS.conv (t := 41) rfl (show (vals1 34) = cond (!(((!s0_2) || (h != x.horizon)) || (!s0_3))) (pp b_x 4) undef from hV 34 (by decide))
    replace hS := hS.conv (t := 35) rfl (show (vals1 28) = vT (((!s0_2) || (h != x.horizon)) || (!s0_3)) from hV 28 (by decide))
    refine L_gw (p := (!(((!s0_2) || (h != x.horizon)) || (!s0_3)))) hS rfl rfl rfl (wantB_f _) (fun hp => ?_) (fun hp => ⟨by rw [hp]; rfl, hG⟩)
    replace hS := hS.conv (t := 41) rfl (cond_t hp)
    obtain ⟨I2, hI2, H⟩ := Gx.ex hG
    exact L_val hS rfl (oL tRi rfl rfl (H.bc 3 4 rfl rfl)) ⟨(by rw [hp]; rfl), hG⟩
  refine .cons (fun ss hlo hhi vals1 xw hG hV => ?_) ?_
  ·obtain rfl | rfl : ss = 3 ∨ ss = 4 := st1 hlo hhi
   all_goals
   ·rw [← hfe]
    have hS := (hfr vals1).sub (ts := [42, 35]) rfl
    replace hS := hS.conv (t := 42) rfl (show (vals1 35) = cond (!(((!s0_2) || (h != x.horizon)) || (!s0_3))) (v2) undef from hV 35 (by decide))
    replace hS := hS.conv (t := 35) rfl (show (vals1 28) = vT (((!s0_2) || (h != x.horizon)) || (!s0_3)) from hV 28 (by decide))
    refine L_gw (p := (!(((!s0_2) || (h != x.horizon)) || (!s0_3)))) hS rfl rfl rfl (wantB_f _) (fun hp => ?_) (fun hp => ⟨by rw [hp]; rfl, hG⟩)
    replace hS := hS.conv (t := 42) rfl (cond_t hp)
    obtain ⟨I2, hI2, H⟩ := Gx.ex hG
    exact L_val hS rfl (Ob_slen tRi rfl rfl rfl (H.slshape 5 rfl)) ⟨(by rw [hp]; rfl), hG⟩
  refine .cons (fun ss hlo hhi vals1 xw hG hV => ?_) ?_
  ·obtain rfl : ss = 4 := Nat.le_antisymm hhi hlo
   rw [← hfe]
   have hS := (hfr vals1).sub (ts := [37, 43, 35]) rfl
   replace hS := hS.conv (t := 37) rfl (show (vals1 30) = cond (!(((!s0_2) || (h != x.horizon)) || (!s0_3))) (vI l.1) undef from hV 30 (by decide))
   replace hS := hS.conv (t := 43) rfl (show (vals1 36) = cond (!(((!s0_2) || (h != x.horizon)) || (!s0_3))) (vI (ln x.log.l)) undef from hV 36 (by decide))
   replace hS := hS.conv (t := 35) rfl (show (vals1 28) = vT (((!s0_2) || (h != x.horizon)) || (!s0_3)) from hV 28 (by decide))
   refine L_gw (p := (!(((!s0_2) || (h != x.horizon)) || (!s0_3)))) hS rfl rfl rfl (wantB_f _) (fun hp => ?_) (fun hp => ⟨by rw [hp]; rfl, hG⟩)
   replace hS := hS.conv (t := 37) rfl (cond_t hp)
   replace hS := hS.conv (t := 43) rfl (cond_t hp)
   exact L_val hS rfl (Ob_c tRi rfl) ⟨(by rw [hp]; rfl), hG⟩
  refine .cons (fun ss hlo hhi vals1 xw hG hV => ?_) ?_
  ·obtain rfl : ss = 4 := Nat.le_antisymm hhi hlo
   rw [← hfe]
   have hS := (hfr vals1).sub (ts := [35, 44]) rfl
   replace hS := hS.conv (t := 35) rfl (show (vals1 28) = vT (((!s0_2) || (h != x.horizon)) || (!s0_3)) from hV 28 (by decide))
   replace hS := hS.conv (t := 44) rfl (show (vals1 37) = cond (!(((!s0_2) || (h != x.horizon)) || (!s0_3))) (vT (l.1 != (ln x.log.l))) undef from hV 37 (by decide))
   exact L_val hS rfl (Ob_pick rfl rfl rfl rfl (pick_or _ _)) ⟨rfl, hG⟩
  refine .cons (fun ss hlo hhi vals1 xw hG hV => ?_) ?_
  ·obtain rfl : ss = 4 := Nat.le_antisymm hhi hlo
   rw [← hfe]
   have hS := (hfr vals1).sub (ts := [45]) rfl
   replace hS := hS.conv (t := 45) rfl (show (vals1 38) = vT ((((!s0_2) || (h != x.horizon)) || (!s0_3)) || (l.1 != (ln x.log.l))) from hV 38 (by decide))
   exact L_val hS rfl (Ob_c tRi rfl) ⟨rfl, hG⟩
  refine .cons (fun ss hlo hhi vals1 xw hG hV => ?_) ?_
  ·obtain rfl : ss = 4 := Nat.le_antisymm hhi hlo
   rw [← hfe]
   have hS := (hfr vals1).sub (ts := [46, 0]) rfl
   replace hS := hS.conv (t := 46) rfl (show (vals1 39) = vT ((((!s0_2) || (h != x.horizon)) || (!s0_3)) || (l.1 != (ln x.log.l))) from hV 39 (by decide))
   refine L_gw (p := (!((((!s0_2) || (h != x.horizon)) || (!s0_3)) || (l.1 != (ln x.log.l))))) hS rfl rfl rfl (wantB_f _) (fun hp => ?_) (fun hp => ⟨by rw [hp]; rfl, hG⟩)
   exact L_val hS rfl (Ob_c tRi rfl) ⟨(by rw [hp]; rfl), hG⟩
  refine .cons (fun ss hlo hhi vals1 xw hG hV => ?_) ?_
  ·obtain rfl : ss = 4 := Nat.le_antisymm hhi hlo
   rw [← hfe]
   have hS := (hfr vals1).sub (ts := [47, 46]) rfl
   replace hS := hS.conv (t := 47) rfl (show (vals1 40) = cond (!((((!s0_2) || (h != x.horizon)) || (!s0_3)) || (l.1 != (ln x.log.l)))) (pp b_s0 0) undef from hV 40 (by decide))
   replace hS := hS.conv (t := 46) rfl (show (vals1 39) = vT ((((!s0_2) || (h != x.horizon)) || (!s0_3)) || (l.1 != (ln x.log.l))) from hV 39 (by decide))
   refine L_gw (p := (!((((!s0_2) || (h != x.horizon)) || (!s0_3)) || (l.1 != (ln x.log.l))))) hS rfl rfl rfl (wantB_f _) (fun hp => ?_) (fun hp => ⟨by rw [hp]; rfl, ?_⟩)
   ·obtain ⟨I2, hI2, H⟩ := Gx.ex hG
    replace hS := hS.conv (t := 47) rfl (cond_t hp)
    refine L_hcall H (js := [(0, false)]) rfl (caps := #[]) hS fn_17_YRi rfl rfl rfl rfl rfl (fun D1 hS => have hq := c_rstate_State_Stamped (gif_in hx7 hp) hS; hq) fun _ yw D1 hr hF2 => ?_
    obtain ⟨rfl, I3, K⟩ := hr
    obtain ⟨hK, H2⟩ := hF2 K
    exact ⟨by rw [hp]; rfl, by first | (rw [hp] at H2 ⊢; exact Gx.go hG hI2 hK K.imm H2) | (rw [hp]; exact Gx.go hG hI2 hK K.imm H2) | exact Gx.go hG hI2 hK K.imm H2⟩
   ·(try rw [hp]); obtain ⟨I2, hI2, H⟩ := Gx.ex hG; (try rw [hp] at H); exact Gx.go hG hI2 (Keep.refl _ _) (fun _ h => h) (H.sub [(0, false), (0, true), (1, true), (2, false), (2, true), (3, true)] rfl)
  refine .cons (fun ss hlo hhi vals1 xw hG hV => ?_) ?_
  ·obtain rfl | rfl : ss = 4 ∨ ss = 5 := st1 hlo hhi
   all_goals
   ·rw [← hfe]
    have hS := (hfr vals1).sub (ts := [46, 1]) rfl
    replace hS := hS.conv (t := 46) rfl (show (vals1 39) = vT ((((!s0_2) || (h != x.horizon)) || (!s0_3)) || (l.1 != (ln x.log.l))) from hV 39 (by decide))
    refine L_gw (p := (!((((!s0_2) || (h != x.horizon)) || (!s0_3)) || (l.1 != (ln x.log.l))))) hS rfl rfl rfl (wantB_f _) (fun hp => ?_) (fun hp => ⟨by rw [hp]; rfl, hG⟩)
    exact L_val hS rfl (Ob_c tRi rfl) ⟨(by rw [hp]; rfl), hG⟩
  refine .cons (fun ss hlo hhi vals1 xw hG hV => ?_) ?_
  ·obtain rfl | rfl : ss = 4 ∨ ss = 5 := st1 hlo hhi
   all_goals
   ·rw [← hfe]
    have hS := (hfr vals1).sub (ts := [49, 46]) rfl
    replace hS := hS.conv (t := 49) rfl (show (vals1 42) = cond (!((((!s0_2) || (h != x.horizon)) || (!s0_3)) || (l.1 != (ln x.log.l)))) (pp b_x 0) undef from hV 42 (by decide))
    replace hS := hS.conv (t := 46) rfl (show (vals1 39) = vT ((((!s0_2) || (h != x.horizon)) || (!s0_3)) || (l.1 != (ln x.log.l))) from hV 39 (by decide))
    refine L_gw (p := (!((((!s0_2) || (h != x.horizon)) || (!s0_3)) || (l.1 != (ln x.log.l))))) hS rfl rfl rfl (wantB_f _) (fun hp => ?_) (fun hp => ⟨by rw [hp]; rfl, hG⟩)
    replace hS := hS.conv (t := 49) rfl (cond_t hp)
    exact L_val hS rfl (Ob_c tRi rfl) ⟨(by rw [hp]; rfl), hG⟩
  refine .cons (fun ss hlo hhi vals1 xw hG hV => ?_) ?_
  ·obtain rfl | rfl : ss = 4 ∨ ss = 5 := st1 hlo hhi
   all_goals
   ·rw [← hfe]
    have hS := (hfr vals1).sub (ts := [50, 46]) rfl
    replace hS := hS.conv (t := 50) rfl (show (vals1 43) = cond (!((((!s0_2) || (h != x.horizon)) || (!s0_3)) || (l.1 != (ln x.log.l)))) (pp b_x 0) undef from hV 43 (by decide))
    replace hS := hS.conv (t := 46) rfl (show (vals1 39) = vT ((((!s0_2) || (h != x.horizon)) || (!s0_3)) || (l.1 != (ln x.log.l))) from hV 39 (by decide))
    refine L_gw (p := (!((((!s0_2) || (h != x.horizon)) || (!s0_3)) || (l.1 != (ln x.log.l))))) hS rfl rfl rfl (wantB_f _) (fun hp => ?_) (fun hp => ⟨by rw [hp]; rfl, hG⟩)
    replace hS := hS.conv (t := 50) rfl (cond_t hp)
    exact L_val hS rfl (Ob_c tRi rfl) ⟨(by rw [hp]; rfl), hG⟩
  refine .cons (fun ss hlo hhi vals1 xw hG hV => ?_) ?_
  ·obtain rfl | rfl : ss = 4 ∨ ss = 5 := st1 hlo hhi
   all_goals
   ·rw [← hfe]
    have hS := (hfr vals1).sub (ts := [51, 46]) rfl
    replace hS := hS.conv (t := 51) rfl (show (vals1 44) = cond (!((((!s0_2) || (h != x.horizon)) || (!s0_3)) || (l.1 != (ln x.log.l)))) (pp b_x 4) undef from hV 44 (by decide))
    replace hS := hS.conv (t := 46) rfl (show (vals1 39) = vT ((((!s0_2) || (h != x.horizon)) || (!s0_3)) || (l.1 != (ln x.log.l))) from hV 39 (by decide))
    refine L_gw (p := (!((((!s0_2) || (h != x.horizon)) || (!s0_3)) || (l.1 != (ln x.log.l))))) hS rfl rfl rfl (wantB_f _) (fun hp => ?_) (fun hp => ⟨by rw [hp]; rfl, hG⟩)
    replace hS := hS.conv (t := 51) rfl (cond_t hp)
    exact L_val hS rfl (Ob_c tRi rfl) ⟨(by rw [hp]; rfl), hG⟩
  refine .cons (fun ss hlo hhi vals1 xw hG hV => ?_) ?_
  ·obtain rfl | rfl : ss = 4 ∨ ss = 5 := st1 hlo hhi
   all_goals
   ·rw [← hfe]
    have hS := (hfr vals1).sub (ts := [52, 46]) rfl
    replace hS := hS.conv (t := 52) rfl (show (vals1 45) = cond (!((((!s0_2) || (h != x.horizon)) || (!s0_3)) || (l.1 != (ln x.log.l)))) (pp b_x 4) undef from hV 45 (by decide))
    replace hS := hS.conv (t := 46) rfl (show (vals1 39) = vT ((((!s0_2) || (h != x.horizon)) || (!s0_3)) || (l.1 != (ln x.log.l))) from hV 39 (by decide))
    refine L_gw (p := (!((((!s0_2) || (h != x.horizon)) || (!s0_3)) || (l.1 != (ln x.log.l))))) hS rfl rfl rfl (wantB_f _) (fun hp => ?_) (fun hp => ⟨by rw [hp]; rfl, hG⟩)
    replace hS := hS.conv (t := 52) rfl (cond_t hp)
    obtain ⟨I2, hI2, H⟩ := Gx.ex hG
    exact L_val hS rfl (oL tRi rfl rfl (H.bc 3 4 rfl rfl)) ⟨(by rw [hp]; rfl), hG⟩
  refine .cons (fun ss hlo hhi vals1 xw hG hV => ?_) ?_
  ·obtain rfl : ss = 5 := Nat.le_antisymm hhi hlo
   rw [← hfe]
   have hS := (hfr vals1).sub (ts := [53, 46]) rfl
   replace hS := hS.conv (t := 53) rfl (show (vals1 46) = cond (!((((!s0_2) || (h != x.horizon)) || (!s0_3)) || (l.1 != (ln x.log.l)))) (v2) undef from hV 46 (by decide))
   replace hS := hS.conv (t := 46) rfl (show (vals1 39) = vT ((((!s0_2) || (h != x.horizon)) || (!s0_3)) || (l.1 != (ln x.log.l))) from hV 39 (by decide))
   refine L_gw (p := (!((((!s0_2) || (h != x.horizon)) || (!s0_3)) || (l.1 != (ln x.log.l))))) hS rfl rfl rfl (wantB_f _) (fun hp => ?_) (fun hp => ⟨by rw [hp]; rfl, hG⟩)
   replace hS := hS.conv (t := 53) rfl (cond_t hp)
   obtain ⟨I2, hI2, H⟩ := Gx.ex hG
   refine L_call (caps := #[]) hS fn_35_YRi rfl rfl rfl rfl rfl ((have hq := c_ref08_Stamped (gif_in hx8 hp) ((H).pick0 (js := [(5, true)]) rfl rfl); plainC hq)) fun r yw hr => ?_
   obtain ⟨rfl, hb⟩ := hr
   exact ⟨(by rw [hp]; rfl), Gx.blw hG hb⟩
  refine .cons (fun ss hlo hhi vals1 xw hG hV => ?_) ?_
  ·obtain rfl : ss = 5 := Nat.le_antisymm hhi hlo
   rw [← hfe]
   have hS := (hfr vals1).sub (ts := [48, 54, 46]) rfl
   replace hS := hS.conv (t := 48) rfl (show (vals1 41) = cond (!((((!s0_2) || (h != x.horizon)) || (!s0_3)) || (l.1 != (ln x.log.l)))) (vI s0_4.1) undef from hV 41 (by decide))
   replace hS := hS.conv (t := 54) rfl (show (vals1 47) = cond (!((((!s0_2) || (h != x.horizon)) || (!s0_3)) || (l.1 != (ln x.log.l)))) (vI s0_5) undef from hV 47 (by decide))
   replace hS := hS.conv (t := 46) rfl (show (vals1 39) = vT ((((!s0_2) || (h != x.horizon)) || (!s0_3)) || (l.1 != (ln x.log.l))) from hV 39 (by decide))
   refine L_gw (p := (!((((!s0_2) || (h != x.horizon)) || (!s0_3)) || (l.1 != (ln x.log.l))))) hS rfl rfl rfl (wantB_f _) (fun hp => ?_) (fun hp => ⟨by rw [hp]; rfl, hG⟩)
   replace hS := hS.conv (t := 48) rfl (cond_t hp)
   replace hS := hS.conv (t := 54) rfl (cond_t hp)
   exact L_val hS rfl (Ob_c tRi rfl) ⟨(by rw [hp]; rfl), hG⟩
  refine .cons (fun ss hlo hhi vals1 xw hG hV => ?_) ?_
  ·obtain rfl : ss = 5 := Nat.le_antisymm hhi hlo
   rw [← hfe]
   have hS := (hfr vals1).sub (ts := [46, 55]) rfl
   replace hS := hS.conv (t := 46) rfl (show (vals1 39) = vT ((((!s0_2) || (h != x.horizon)) || (!s0_3)) || (l.1 != (ln x.log.l))) from hV 39 (by decide))
   replace hS := hS.conv (t := 55) rfl (show (vals1 48) = cond (!((((!s0_2) || (h != x.horizon)) || (!s0_3)) || (l.1 != (ln x.log.l)))) (vT (s0_4.1 != s0_5)) undef from hV 48 (by decide))
   exact L_val hS rfl (Ob_pick rfl rfl rfl rfl (pick_or _ _)) ⟨rfl, hG⟩
  exact .nil
 ·intro vals1 a w1 Z hG hV
  replace Z := Z.sub (ts := [0, 1, 56]) (S' := [(0, pp b_s0 0), (1, pp b_x 0), (56, vals1 49)]) rfl
  replace Z := Z.conv (t := 56) rfl (show (vals1 49) = vT (((((!s0_2) || (h != x.horizon)) || (!s0_3)) || (l.1 != (ln x.log.l))) || (s0_4.1 != s0_5)) from hV 49 (by decide))
  obtain ⟨I1, _, H⟩ := Gx.ex hG
  clear hG hV
  replace Z := Z.sub (ts := [0, 1, 56]) rfl
  replace H := H.nf rfl; try dsimp only at H
  refine p_then ?_
  refine f_cond Z rfl (fun hc1 => ?_) (fun hc1 => ?_)
  ·replace hF := ite_t hc1 hF
   refine sR Z fun Z => ?_
   refine s_runk tRi Z 1 rfl rfl fun a Z => ?_
   refine s_end Z [4] rfl fun Z => ?_
   refine p_then (wp_ret ?_)
   refine p_then_r ?_
   replace H := H.sX (OEref30_State b_x x) (v1, v2) [(3, false), (3, true), (4, true)] rfl rfl rfl
   obtain rfl := some_in hF
   exact f_ret Z (run_results1 rfl Z rfl) ⟨rfl, I1, (H.sub [(1, false), (0, false)] rfl).eq rfl⟩
  ·replace hF := ite_f hc1 hF
   refine wp_skip ?_
   refine p_then (wp_seq ?_)
   refine sR Z fun Z => ?_
   refine s_runk tRi Z 1 rfl rfl fun a Z => ?_
   refine s_end Z [0, 1, 5] rfl fun Z => ?_
   refine p_then (wp_block ?_)
   replace H := H.sX (OEref30_State b_x x) (v1, v2) [(3, false), (3, true), (4, true)] rfl rfl rfl
   refine f_iter hF (fun sg a' w' => match sg with | (i, s0_6) => Sl 84 [(0, pp b_s0 0), (1, pp b_x 0), (5, vI i)] a' ∧ ∃ I2, Hf I D w I2 w' [OErstate_State b_s0 s0_6, OEref30_State b_x x]) ⟨Z.sub (ts := [0, 1, 5]) rfl, ⟨I1, (H.sub [(1, false), (0, false)] rfl).eq rfl⟩⟩ ?_
   rintro rc ⟨i, s0_6⟩ a w2 ⟨Z, I2, H⟩ hF
   unfold F_law30_Same_l1 at hF
   try dsimp only at hF
   refine wp_seq ?_
   refine sR Z fun Z => ?_
   refine s_runk tRi Z 2 rfl rfl fun a Z => ?_
   refine s_end Z [0, 1, 5, 58] rfl fun Z => ?_
   refine p_then ?_
   refine f_cond Z rfl (fun hc2 => ?_) (fun hc2 => ?_)
   ·replace hF := ite_t hc2 hF
    refine wp_skip ?_
    refine p_then (wp_seq ?_)
    refine wp_block ?_
    refine wp_seq ?_
    obtain ⟨t, hx9, hF⟩ := bnd_in hF
    refine f_region Z fun Z => ?_
    refine s_runk tRi Z 2 rfl rfl fun a Z => ?_
    refine hC Z H [(0, false)] rfl #[] fn_36_YRi rfl rfl (fun D h => have q := c_rstate_State_Top hx9 h; q) fun vv a w3 D2 hr hF2 Z => ?_
    obtain ⟨rfl, I3, K⟩ := hr
    have H := (hF2 K).nf rfl
    refine s_runk tRi Z 1 rfl rfl fun a Z => ?_
    refine s_end Z [0, 1, 5, 6] rfl fun Z => ?_
    refine p_then (wp_seq ?_)
    obtain ⟨t_2, hx10, hF⟩ := bnd_in hF
    obtain ⟨f, hx11, hF⟩ := bnd_in hF
    obtain ⟨f_2, hx12, hF⟩ := bnd_in hF
    refine f_regionL Z (by kernel_rfl) (by kernel_rfl) (by decide) (by decide) [5, 11, 17] [(0, 0, 1), (0, 0, 0), (2, 0, 0), (6, 0, 0), (0, 0, 0), (30, 0, 0), (63, 1, 1), (127, 1, 1), (255, 1, 1), (255, 1, 1), (255, 1, 1), (2047, 1, 1), (255, 1, 2), (4351, 1, 2), (12543, 1, 2), (255, 1, 2), (255, 1, 2), (131071, 2, 2), (262143, 3, 3), (524287, 3, 3)] (by kernel_rfl) (fun jj vv => cond (Nat.blt jj 10) (cond (Nat.blt jj 5) (cond (Nat.blt jj 2) (cond (Nat.blt jj 1) (vv = vI t.1) (vv = pp b_x 0)) (cond (Nat.blt jj 3) (vv = pp b_x 0) (cond (Nat.blt jj 4) (vv = pp b_x 4) (vv = vI i)))) (cond (Nat.blt jj 7) (cond (Nat.blt jj 6) (vv = vI t_2) (vv = vT (t.1 != t_2))) (cond (Nat.blt jj 8) (vv = vT (t.1 != t_2)) (cond (Nat.blt jj 9) (vv = cond (!(t.1 != t_2)) (pp b_s0 0) undef) (vv = cond (!(t.1 != t_2)) (vI i) undef))))) (cond (Nat.blt jj 15) (cond (Nat.blt jj 12) (cond (Nat.blt jj 11) (vv = cond (!(t.1 != t_2)) (vI t.1) undef) (vv = cond (!(t.1 != t_2)) (vI f.1) undef)) (cond (Nat.blt jj 13) (vv = cond (!(t.1 != t_2)) (pp b_x 0) undef) (cond (Nat.blt jj 14) (vv = cond (!(t.1 != t_2)) (pp b_x 0) undef) (vv = cond (!(t.1 != t_2)) (pp b_x 4) undef)))) (cond (Nat.blt jj 17) (cond (Nat.blt jj 16) (vv = cond (!(t.1 != t_2)) (vI i) undef) (vv = cond (!(t.1 != t_2)) (vI t.1) undef)) (cond (Nat.blt jj 18) (vv = cond (!(t.1 != t_2)) (vI f_2) undef) (cond (Nat.blt jj 19) (vv = cond (!(t.1 != t_2)) (vT (f.1 != f_2)) undef) (vv = vT ((t.1 != t_2) || (f.1 != f_2)))))))) (fun ss vals2 xw => match ss with | 0 => Gx I D w I3 w3 xw [OErstate_State b_s0 t.2, OEref30_State b_x x] | 1 => Gx I D w I3 w3 xw [OEref30_State b_x x, OErstate_State b_s0 t.2] | 2 => Gx I D w I3 w3 xw [OErstate_State b_s0 (cond (!(t.1 != t_2)) f.2 t.2), OEref30_State b_x x] | _ => Gx I D w I3 w3 xw [OEref30_State b_x x, OErstate_State b_s0 (cond (!(t.1 != t_2)) f.2 t.2)]) (fun _ => Gx.start H) ?_ ?_
    ·intro fr hfr hfe
     refine .cons (fun ss hlo hhi vals2 xw hG hV => ?_) ?_
     ·obtain rfl | rfl : ss = 0 ∨ ss = 1 := st1 hlo hhi
      all_goals
      ·rw [← hfe]
       have hS := (hfr vals2).sub (ts := [6]) rfl
       exact L_val hS rfl (Ob_c tRi rfl) ⟨rfl, hG⟩
     refine .cons (fun ss hlo hhi vals2 xw hG hV => ?_) ?_
     ·obtain rfl : ss = 0 := Nat.le_antisymm hhi hlo
      rw [← hfe]
      have hS := (hfr vals2).sub (ts := [1]) rfl
      exact L_val hS rfl (Ob_c tRi rfl) ⟨rfl, hG⟩
     refine .cons (fun ss hlo hhi vals2 xw hG hV => ?_) ?_
     ·obtain rfl : ss = 0 := Nat.le_antisymm hhi hlo
      rw [← hfe]
      have hS := (hfr vals2).sub (ts := [65]) rfl
      replace hS := hS.conv (t := 65) rfl (show (vals2 1) = pp b_x 0 from hV 1 (by decide))
      exact L_val hS rfl (Ob_c tRi rfl) ⟨rfl, hG⟩
     refine .cons (fun ss hlo hhi vals2 xw hG hV => ?_) ?_
     ·obtain rfl : ss = 0 := Nat.le_antisymm hhi hlo
      rw [← hfe]
      have hS := (hfr vals2).sub (ts := [66]) rfl
      replace hS := hS.conv (t := 66) rfl (show (vals2 2) = pp b_x 0 from hV 2 (by decide))
      exact L_val hS rfl (Ob_c tRi rfl) ⟨rfl, hG⟩
     refine .cons (fun ss hlo hhi vals2 xw hG hV => ?_) ?_
     ·obtain rfl : ss = 0 := Nat.le_antisymm hhi hlo
      rw [← hfe]
      have hS := (hfr vals2).sub (ts := [5]) rfl
      exact L_val hS rfl (Ob_c tRi rfl) ⟨rfl, hG⟩
     refine .cons (fun ss hlo hhi vals2 xw hG hV => ?_) ?_
     ·obtain rfl : ss = 0 := Nat.le_antisymm hhi hlo
      rw [← hfe]
      have hS := (hfr vals2).sub (ts := [67, 68]) rfl
      replace hS := hS.conv (t := 67) rfl (show (vals2 3) = pp b_x 4 from hV 3 (by decide))
      replace hS := hS.conv (t := 68) rfl (show (vals2 4) = vI i from hV 4 (by decide))
      obtain ⟨I2, hI2, H⟩ := Gx.ex hG
      refine L_hcall H (js := [(1, false)]) rfl (caps := #[]) hS fn_37_YRi rfl rfl rfl rfl rfl (fun D1 hS => have hq := c_ref17_Log_Top hx10 hS; hq) fun _ yw D1 hr hF2 => ?_
      obtain ⟨rfl, I3, K⟩ := hr
      obtain ⟨hK, H2⟩ := hF2 K
      exact ⟨rfl, Gx.go hG hI2 hK K.imm H2⟩
     refine .cons (fun ss hlo hhi vals2 xw hG hV => ?_) ?_
     ·obtain rfl : ss = 1 := Nat.le_antisymm hhi hlo
      rw [← hfe]
      have hS := (hfr vals2).sub (ts := [64, 69]) rfl
      replace hS := hS.conv (t := 64) rfl (show (vals2 0) = vI t.1 from hV 0 (by decide))
      replace hS := hS.conv (t := 69) rfl (show (vals2 5) = vI t_2 from hV 5 (by decide))
      exact L_val hS rfl (Ob_c tRi rfl) ⟨rfl, hG⟩
     refine .cons (fun ss hlo hhi vals2 xw hG hV => ?_) ?_
     ·obtain rfl : ss = 1 := Nat.le_antisymm hhi hlo
      rw [← hfe]
      have hS := (hfr vals2).sub (ts := [70]) rfl
      replace hS := hS.conv (t := 70) rfl (show (vals2 6) = vT (t.1 != t_2) from hV 6 (by decide))
      exact L_val hS rfl (Ob_c tRi rfl) ⟨rfl, hG⟩
     refine .cons (fun ss hlo hhi vals2 xw hG hV => ?_) ?_
     ·obtain rfl : ss = 1 := Nat.le_antisymm hhi hlo
      rw [← hfe]
      have hS := (hfr vals2).sub (ts := [71, 0]) rfl
      replace hS := hS.conv (t := 71) rfl (show (vals2 7) = vT (t.1 != t_2) from hV 7 (by decide))
      refine L_gw (p := (!(t.1 != t_2))) hS rfl rfl rfl (wantB_f _) (fun hp => ?_) (fun hp => ⟨by rw [hp]; rfl, hG⟩)
      exact L_val hS rfl (Ob_c tRi rfl) ⟨(by rw [hp]; rfl), hG⟩
     refine .cons (fun ss hlo hhi vals2 xw hG hV => ?_) ?_
     ·obtain rfl : ss = 1 := Nat.le_antisymm hhi hlo
      rw [← hfe]
      have hS := (hfr vals2).sub (ts := [71, 5]) rfl
      replace hS := hS.conv (t := 71) rfl (show (vals2 7) = vT (t.1 != t_2) from hV 7 (by decide))
      refine L_gw (p := (!(t.1 != t_2))) hS rfl rfl rfl (wantB_f _) (fun hp => ?_) (fun hp => ⟨by rw [hp]; rfl, hG⟩)
      exact L_val hS rfl (Ob_c tRi rfl) ⟨(by rw [hp]; rfl), hG⟩
     refine .cons (fun ss hlo hhi vals2 xw hG hV => ?_) ?_
     ·obtain rfl : ss = 1 := Nat.le_antisymm hhi hlo
      rw [← hfe]
      have hS := (hfr vals2).sub (ts := [71, 6]) rfl
      replace hS := hS.conv (t := 71) rfl (show (vals2 7) = vT (t.1 != t_2) from hV 7 (by decide))
      refine L_gw (p := (!(t.1 != t_2))) hS rfl rfl rfl (wantB_f _) (fun hp => ?_) (fun hp => ⟨by rw [hp]; rfl, hG⟩)
      exact L_val hS rfl (Ob_c tRi rfl) ⟨(by rw [hp]; rfl), hG⟩
     refine .cons (fun ss hlo hhi vals2 xw hG hV => ?_) ?_
     ·obtain rfl : ss = 1 := Nat.le_antisymm hhi hlo
      rw [← hfe]
      have hS := (hfr vals2).sub (ts := [72, 73, 74, 71]) rfl
      replace hS := hS.conv (t := 72) rfl (show (vals2 8) = cond (!(t.1 != t_2)) (pp b_s0 0) undef from hV 8 (by decide))
      replace hS := hS.conv (t := 73) rfl (show (vals2 9) = cond (!(t.1 != t_2)) (vI i) undef from hV 9 (by decide))
      replace hS := hS.conv (t := 74) rfl (show (vals2 10) = cond (!(t.1 != t_2)) (vI t.1) undef from hV 10 (by decide))
      replace hS := hS.conv (t := 71) rfl (show (vals2 7) = vT (t.1 != t_2) from hV 7 (by decide))
      refine L_gw (p := (!(t.1 != t_2))) hS rfl rfl rfl (wantB_f _) (fun hp => ?_) (fun hp => ⟨by rw [hp]; rfl, ?_⟩)
      ·obtain ⟨I2, hI2, H⟩ := Gx.ex hG
       replace hS := hS.conv (t := 72) rfl (cond_t hp)
       replace hS := hS.conv (t := 73) rfl (cond_t hp)
       replace hS := hS.conv (t := 74) rfl (cond_t hp)
       refine L_hcall H (js := [(1, false)]) rfl (caps := #[]) hS fn_38_YRi rfl rfl rfl rfl rfl (fun D1 hS => have hq := c_rstate_State_Find (gif_in hx11 hp) hS; hq) fun _ yw D1 hr hF2 => ?_
       obtain ⟨rfl, I3, K⟩ := hr
       obtain ⟨hK, H2⟩ := hF2 K
       exact ⟨by rw [hp]; rfl, by first | (rw [hp] at H2 ⊢; exact Gx.go hG hI2 hK K.imm H2) | (rw [hp]; exact Gx.go hG hI2 hK K.imm H2) | exact Gx.go hG hI2 hK K.imm H2⟩
      ·(try rw [hp]); obtain ⟨I2, hI2, H⟩ := Gx.ex hG; (try rw [hp] at H); exact Gx.go hG hI2 (Keep.refl _ _) (fun _ h => h) (H.sub [(1, false), (0, false)] rfl)
     refine .cons (fun ss hlo hhi vals2 xw hG hV => ?_) ?_
     ·obtain rfl | rfl : ss = 1 ∨ ss = 2 := st1 hlo hhi
      all_goals
      ·rw [← hfe]
       have hS := (hfr vals2).sub (ts := [71, 1]) rfl
       replace hS := hS.conv (t := 71) rfl (show (vals2 7) = vT (t.1 != t_2) from hV 7 (by decide))
       refine L_gw (p := (!(t.1 != t_2))) hS rfl rfl rfl (wantB_f _) (fun hp => ?_) (fun hp => ⟨by rw [hp]; rfl, hG⟩)
       exact L_val hS rfl (Ob_c tRi rfl) ⟨(by rw [hp]; rfl), hG⟩
     refine .cons (fun ss hlo hhi vals2 xw hG hV => ?_) ?_
     ·obtain rfl | rfl : ss = 1 ∨ ss = 2 := st1 hlo hhi
      all_goals
      ·rw [← hfe]
       have hS := (hfr vals2).sub (ts := [76, 71]) rfl
       replace hS := hS.conv (t := 76) rfl (show (vals2 12) = cond (!(t.1 != t_2)) (pp b_x 0) undef from hV 12 (by decide))
       replace hS := hS.conv (t := 71) rfl (show (vals2 7) = vT (t.1 != t_2) from hV 7 (by decide))
       refine L_gw (p := (!(t.1 != t_2))) hS rfl rfl rfl (wantB_f _) (fun hp => ?_) (fun hp => ⟨by rw [hp]; rfl, hG⟩)
       replace hS := hS.conv (t := 76) rfl (cond_t hp)
       exact L_val hS rfl (Ob_c tRi rfl) ⟨(by rw [hp]; rfl), hG⟩
     refine .cons (fun ss hlo hhi vals2 xw hG hV => ?_) ?_
     ·obtain rfl | rfl : ss = 1 ∨ ss = 2 := st1 hlo hhi
      all_goals
      ·rw [← hfe]
       have hS := (hfr vals2).sub (ts := [77, 71]) rfl
       replace hS := hS.conv (t := 77) rfl (show (vals2 13) = cond (!(t.1 != t_2)) (pp b_x 0) undef from hV 13 (by decide))
       replace hS := hS.conv (t := 71) rfl (show (vals2 7) = vT (t.1 != t_2) from hV 7 (by decide))
       refine L_gw (p := (!(t.1 != t_2))) hS rfl rfl rfl (wantB_f _) (fun hp => ?_) (fun hp => ⟨by rw [hp]; rfl, hG⟩)
       replace hS := hS.conv (t := 77) rfl (cond_t hp)
       exact L_val hS rfl (Ob_c tRi rfl) ⟨(by rw [hp]; rfl), hG⟩
     refine .cons (fun ss hlo hhi vals2 xw hG hV => ?_) ?_
     ·obtain rfl | rfl : ss = 1 ∨ ss = 2 := st1 hlo hhi
      all_goals
      ·rw [← hfe]
       have hS := (hfr vals2).sub (ts := [71, 5]) rfl
       replace hS := hS.conv (t := 71) rfl (show (vals2 7) = vT (t.1 != t_2) from hV 7 (by decide))
       refine L_gw (p := (!(t.1 != t_2))) hS rfl rfl rfl (wantB_f _) (fun hp => ?_) (fun hp => ⟨by rw [hp]; rfl, hG⟩)
       exact L_val hS rfl (Ob_c tRi rfl) ⟨(by rw [hp]; rfl), hG⟩
     refine .cons (fun ss hlo hhi vals2 xw hG hV => ?_) ?_
     ·obtain rfl | rfl : ss = 1 ∨ ss = 2 := st1 hlo hhi
      all_goals
      ·rw [← hfe]
       have hS := (hfr vals2).sub (ts := [71, 6]) rfl
       replace hS := hS.conv (t := 71) rfl (show (vals2 7) = vT (t.1 != t_2) from hV 7 (by decide))
       refine L_gw (p := (!(t.1 != t_2))) hS rfl rfl rfl (wantB_f _) (fun hp => ?_) (fun hp => ⟨by rw [hp]; rfl, hG⟩)
       exact L_val hS rfl (Ob_c tRi rfl) ⟨(by rw [hp]; rfl), hG⟩
     refine .cons (fun ss hlo hhi vals2 xw hG hV => ?_) ?_
     ·obtain rfl : ss = 2 := Nat.le_antisymm hhi hlo
      rw [← hfe]
      have hS := (hfr vals2).sub (ts := [78, 79, 80, 71]) rfl
      replace hS := hS.conv (t := 78) rfl (show (vals2 14) = cond (!(t.1 != t_2)) (pp b_x 4) undef from hV 14 (by decide))
      replace hS := hS.conv (t := 79) rfl (show (vals2 15) = cond (!(t.1 != t_2)) (vI i) undef from hV 15 (by decide))
      replace hS := hS.conv (t := 80) rfl (show (vals2 16) = cond (!(t.1 != t_2)) (vI t.1) undef from hV 16 (by decide))
      replace hS := hS.conv (t := 71) rfl (show (vals2 7) = vT (t.1 != t_2) from hV 7 (by decide))
      refine L_gw (p := (!(t.1 != t_2))) hS rfl rfl rfl (wantB_f _) (fun hp => ?_) (fun hp => ⟨by rw [hp]; rfl, ?_⟩)
      ·obtain ⟨I2, hI2, H⟩ := Gx.ex hG
       replace hS := hS.conv (t := 78) rfl (cond_t hp)
       replace hS := hS.conv (t := 79) rfl (cond_t hp)
       replace hS := hS.conv (t := 80) rfl (cond_t hp)
       refine L_hcall H (js := [(1, false)]) rfl (caps := #[]) hS fn_39_YRi rfl rfl rfl rfl rfl (fun D1 hS => have hq := c_ref17_Log_Find (gif_in hx12 hp) hS; hq) fun _ yw D1 hr hF2 => ?_
       obtain ⟨rfl, I3, K⟩ := hr
       obtain ⟨hK, H2⟩ := hF2 K
       exact ⟨by rw [hp]; rfl, by first | (rw [hp] at H2 ⊢; exact Gx.go hG hI2 hK K.imm H2) | (rw [hp]; exact Gx.go hG hI2 hK K.imm H2) | exact Gx.go hG hI2 hK K.imm H2⟩
      ·(try rw [hp]); obtain ⟨I2, hI2, H⟩ := Gx.ex hG; (try rw [hp] at H); exact Gx.go hG hI2 (Keep.refl _ _) (fun _ h => h) (H.sub [(1, false), (0, false)] rfl)
     refine .cons (fun ss hlo hhi vals2 xw hG hV => ?_) ?_
     ·obtain rfl : ss = 3 := Nat.le_antisymm hhi hlo
      rw [← hfe]
      have hS := (hfr vals2).sub (ts := [75, 81, 71]) rfl
      replace hS := hS.conv (t := 75) rfl (show (vals2 11) = cond (!(t.1 != t_2)) (vI f.1) undef from hV 11 (by decide))
      replace hS := hS.conv (t := 81) rfl (show (vals2 17) = cond (!(t.1 != t_2)) (vI f_2) undef from hV 17 (by decide))
      replace hS := hS.conv (t := 71) rfl (show (vals2 7) = vT (t.1 != t_2) from hV 7 (by decide))
      refine L_gw (p := (!(t.1 != t_2))) hS rfl rfl rfl (wantB_f _) (fun hp => ?_) (fun hp => ⟨by rw [hp]; rfl, hG⟩)
      replace hS := hS.conv (t := 75) rfl (cond_t hp)
      replace hS := hS.conv (t := 81) rfl (cond_t hp)
      exact L_val hS rfl (Ob_c tRi rfl) ⟨(by rw [hp]; rfl), hG⟩
     refine .cons (fun ss hlo hhi vals2 xw hG hV => ?_) ?_
     ·obtain rfl : ss = 3 := Nat.le_antisymm hhi hlo
      rw [← hfe]
      have hS := (hfr vals2).sub (ts := [71, 82]) rfl
      replace hS := hS.conv (t := 71) rfl (show (vals2 7) = vT (t.1 != t_2) from hV 7 (by decide))
      replace hS := hS.conv (t := 82) rfl (show (vals2 18) = cond (!(t.1 != t_2)) (vT (f.1 != f_2)) undef from hV 18 (by decide))
      exact L_val hS rfl (Ob_pick rfl rfl rfl rfl (pick_or _ _)) ⟨rfl, hG⟩
     exact .nil
    ·intro vals2 a w4 Z hG hV
     replace Z := Z.sub (ts := [0, 1, 5, 83]) (S' := [(0, pp b_s0 0), (1, pp b_x 0), (5, vI i), (83, vals2 19)]) rfl
     replace Z := Z.conv (t := 83) rfl (show (vals2 19) = vT ((t.1 != t_2) || (f.1 != f_2)) from hV 19 (by decide))
     obtain ⟨I4, _, H⟩ := Gx.ex hG
     clear hG hV
     replace Z := Z.sub (ts := [0, 1, 5, 83]) rfl
     replace H := H.nf rfl; try dsimp only at H
     refine p_then ?_
     refine f_cond Z rfl (fun hc3 => ?_) (fun hc3 => ?_)
     ·replace hF := ite_t hc3 hF
      refine sR Z fun Z => ?_
      refine s_runk tRi Z 1 rfl rfl fun a Z => ?_
      refine s_end Z [4] rfl fun Z => ?_
      refine p_then (wp_ret ?_)
      refine p_blk_r ?_
      refine p_then_r ?_
      refine p_then_r ?_
      refine p_blk_r ?_
      refine p_then_r ?_
      obtain rfl := some_in hF
      exact f_ret Z (run_results1 rfl Z rfl) ⟨rfl, I4, (H.sub [(1, false), (0, false)] rfl).eq rfl⟩
     ·replace hF := ite_f hc3 hF
      refine wp_skip ?_
      refine p_blk ?_
      refine p_then ?_
      obtain ⟨hg1, hF⟩ := chk_in hF
      refine f_region Z fun Z => ?_
      refine s_runk tRi Z 1 rfl rfl fun a Z => ?_
      refine sO Z (vI (i + 1)) rfl (Ob_add rfl rfl rfl (wrI hg1)) fun a Z => ?_
      refine s_runk tRi Z 1 rfl rfl fun a Z => ?_
      refine s_end Z [0, 1, 5] rfl fun Z => ?_
      refine p_then ?_
      exact ⟨(i + 1, (cond (!(t.1 != t_2)) f.2 t.2)), ⟨Z.sub (ts := [0, 1, 5]) rfl, ⟨I4, (H.sub [(1, false), (0, false)] rfl).eq rfl⟩⟩, hF⟩
   ·replace hF := ite_f hc2 hF
    refine wp_exit ?_
    refine p_then_x ?_
    refine p_then_x ?_
    refine f_exit_here ?_
    refine pR Z fun Z => ?_
    refine s_runk tRi Z 1 rfl rfl fun a Z => ?_
    refine s_end Z [4] rfl fun Z => ?_
    refine p_then (wp_ret ?_)
    obtain rfl := some_in hF
    exact f_ret Z (run_results1 rfl Z rfl) ⟨rfl, I2, (H.sub [(0, false), (0, false)] rfl).eq rfl⟩

end Go.Proofs.YtglfajjcgbfehaaGreat
