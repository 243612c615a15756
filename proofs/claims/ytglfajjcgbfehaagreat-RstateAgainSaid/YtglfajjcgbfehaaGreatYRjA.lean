/- What a replica knows: the law RstateAgain walked. -/
import Derived.Test.YtglfajjcgbfehaaGreatYRi
namespace Go.Proofs.YtglfajjcgbfehaaGreat
open Go.RowKit
def tRjAL : TabL := ⟨[], [], [], [(22, (50, 18))], [(36, (5, true)), (50, (18, true))]⟩

def tRjA : Tab Tryz.prog := ⟨tRjAL, by kernel_rfl⟩

theorem fn_5_YRjA : IsFn Tryz.prog 5 := ⟨_, Tryz.func5, by kernel_rfl, by kernel_rfl⟩

theorem fn_6_YRjA : IsFn Tryz.prog 6 := ⟨_, Tryz.func6, by kernel_rfl, by kernel_rfl⟩

theorem fn_7_YRjA : IsFn Tryz.prog 7 := ⟨_, Tryz.func7, by kernel_rfl, by kernel_rfl⟩

theorem fn_8_YRjA : IsFn Tryz.prog 8 := ⟨_, Tryz.func8, by kernel_rfl, by kernel_rfl⟩

theorem fn_9_YRjA : IsFn Tryz.prog 9 := ⟨_, Tryz.func9, by kernel_rfl, by kernel_rfl⟩

theorem fn_10_YRjA : IsFn Tryz.prog 10 := ⟨_, Tryz.func10, by kernel_rfl, by kernel_rfl⟩

theorem fn_11_YRjA : IsFn Tryz.prog 11 := ⟨_, Tryz.func11, by kernel_rfl, by kernel_rfl⟩

def F_law30_RstateAgain_l3 (then0 : List ENote) (rc_3 : (Int × Erstate_State × Erstate_State × Eref30_State) → Option Bool) (sg : Int × Erstate_State × Erstate_State × Eref30_State) : Option Bool := match sg with | (i_3, s0_2, t_2, x_2) => if ((decide (i_3 < (then0.length : Int))) && (decide (i_3 < 20))) = true then (chk ((0 : Int) ≤ i_3 ∧ i_3 < (then0.length : Int)) ((F_rstate_State_Apply s0_2 ({ (then0.getD (i_3).toNat default) with conf := ({ epoch := ((then0.getD (i_3).toNat default).conf).epoch, members := ((then0.getD (i_3).toNat default).conf).members, floor := ((then0.getD (i_3).toNat default).conf).floor } : EConf), entry := ({ batch := ({ client := (((then0.getD (i_3).toNat default).entry).batch).client, req := (((then0.getD (i_3).toNat default).entry).batch).req, ops := (((then0.getD (i_3).toNat default).entry).batch).ops } : EBatch), ts := ((then0.getD (i_3).toNat default).entry).ts } : EEntry), pin := ({ id := ((then0.getD (i_3).toNat default).pin).id, at_ := ((then0.getD (i_3).toNat default).pin).at_, left := ((then0.getD (i_3).toNat default).pin).left } : EPin), said := ({ client := ((then0.getD (i_3).toNat default).said).client, req := ((then0.getD (i_3).toNat default).said).req, e := ((then0.getD (i_3).toNat default).said).e, pin := ((then0.getD (i_3).toNat default).said).pin } : EAnswer) } : ENote)).bind fun a0_5 => (chk ((0 : Int) ≤ i_3 ∧ i_3 < (then0.length : Int)) ((F_rstate_State_Apply t_2 ({ (then0.getD (i_3).toNat default) with conf := ({ epoch := ((then0.getD (i_3).toNat default).conf).epoch, members := ((then0.getD (i_3).toNat default).conf).members, floor := ((then0.getD (i_3).toNat default).conf).floor } : EConf), entry := ({ batch := ({ client := (((then0.getD (i_3).toNat default).entry).batch).client, req := (((then0.getD (i_3).toNat default).entry).batch).req, ops := (((then0.getD (i_3).toNat default).entry).batch).ops } : EBatch), ts := ((then0.getD (i_3).toNat default).entry).ts } : EEntry), pin := ({ id := ((then0.getD (i_3).toNat default).pin).id, at_ := ((then0.getD (i_3).toNat default).pin).at_, left := ((then0.getD (i_3).toNat default).pin).left } : EPin), said := ({ client := ((then0.getD (i_3).toNat default).said).client, req := ((then0.getD (i_3).toNat default).said).req, e := ((then0.getD (i_3).toNat default).said).e, pin := ((then0.getD (i_3).toNat default).said).pin } : EAnswer) } : ENote)).bind fun a0_6 => (if (a0_5.1 != a0_6.1) = true then (some false) else (chk ((0 : Int) ≤ i_3 ∧ i_3 < (then0.length : Int)) ((F_ref30_State_Apply x_2 ({ (then0.getD (i_3).toNat default) with conf := ({ epoch := ((then0.getD (i_3).toNat default).conf).epoch, members := ((then0.getD (i_3).toNat default).conf).members, floor := ((then0.getD (i_3).toNat default).conf).floor } : EConf), entry := ({ batch := ({ client := (((then0.getD (i_3).toNat default).entry).batch).client, req := (((then0.getD (i_3).toNat default).entry).batch).req, ops := (((then0.getD (i_3).toNat default).entry).batch).ops } : EBatch), ts := ((then0.getD (i_3).toNat default).entry).ts } : EEntry), pin := ({ id := ((then0.getD (i_3).toNat default).pin).id, at_ := ((then0.getD (i_3).toNat default).pin).at_, left := ((then0.getD (i_3).toNat default).pin).left } : EPin), said := ({ client := ((then0.getD (i_3).toNat default).said).client, req := ((then0.getD (i_3).toNat default).said).req, e := ((then0.getD (i_3).toNat default).said).e, pin := ((then0.getD (i_3).toNat default).said).pin } : EAnswer) } : ENote)).bind fun a0_7 => (chk (inI (i_3 + 1)) (rc_3 (i_3 + 1, a0_5.2, a0_6.2, a0_7.2)))))))))) else ((F_law30_Same s0_2 x_2).bind fun s0_3 => ((gif (s0_3.1 != 0) (F_law30_Same t_2 x_2) default).bind fun s0_4 => ((gif ((s0_3.1 != 0) && (s0_4.1 != 0)) (F_law30_awake) default).bind fun a0_8 => (some (((s0_3.1 != 0) && (s0_4.1 != 0)) && a0_8)))))

def F_law30_RstateAgain_l2 (then0 : List ENote) (n0_2 : (List ENote) × Erstate_State) (rc_2 : (Int × Erstate_State × Eref30_State) → Option Bool) (sg : Int × Erstate_State × Eref30_State) : Option Bool := match sg with | (i_2, t, x) => if (decide (i_2 < (n0_2.1.length : Int))) = true then (chk ((0 : Int) ≤ i_2 ∧ i_2 < (n0_2.1.length : Int)) ((F_rstate_State_Apply t ({ (n0_2.1.getD (i_2).toNat default) with conf := ({ epoch := ((n0_2.1.getD (i_2).toNat default).conf).epoch, members := ((n0_2.1.getD (i_2).toNat default).conf).members, floor := ((n0_2.1.getD (i_2).toNat default).conf).floor } : EConf), entry := ({ batch := ({ client := (((n0_2.1.getD (i_2).toNat default).entry).batch).client, req := (((n0_2.1.getD (i_2).toNat default).entry).batch).req, ops := (((n0_2.1.getD (i_2).toNat default).entry).batch).ops } : EBatch), ts := ((n0_2.1.getD (i_2).toNat default).entry).ts } : EEntry), pin := ({ id := ((n0_2.1.getD (i_2).toNat default).pin).id, at_ := ((n0_2.1.getD (i_2).toNat default).pin).at_, left := ((n0_2.1.getD (i_2).toNat default).pin).left } : EPin), said := ({ client := ((n0_2.1.getD (i_2).toNat default).said).client, req := ((n0_2.1.getD (i_2).toNat default).said).req, e := ((n0_2.1.getD (i_2).toNat default).said).e, pin := ((n0_2.1.getD (i_2).toNat default).said).pin } : EAnswer) } : ENote)).bind fun a0_3 => (chk ((!(a0_3.1 != 0)) = true → (0 : Int) ≤ i_2 ∧ i_2 < (n0_2.1.length : Int)) ((gif (!(a0_3.1 != 0)) (F_ref30_State_Apply x ({ (n0_2.1.getD (i_2).toNat default) with conf := ({ epoch := ((n0_2.1.getD (i_2).toNat default).conf).epoch, members := ((n0_2.1.getD (i_2).toNat default).conf).members, floor := ((n0_2.1.getD (i_2).toNat default).conf).floor } : EConf), entry := ({ batch := ({ client := (((n0_2.1.getD (i_2).toNat default).entry).batch).client, req := (((n0_2.1.getD (i_2).toNat default).entry).batch).req, ops := (((n0_2.1.getD (i_2).toNat default).entry).batch).ops } : EBatch), ts := ((n0_2.1.getD (i_2).toNat default).entry).ts } : EEntry), pin := ({ id := ((n0_2.1.getD (i_2).toNat default).pin).id, at_ := ((n0_2.1.getD (i_2).toNat default).pin).at_, left := ((n0_2.1.getD (i_2).toNat default).pin).left } : EPin), said := ({ client := ((n0_2.1.getD (i_2).toNat default).said).client, req := ((n0_2.1.getD (i_2).toNat default).said).req, e := ((n0_2.1.getD (i_2).toNat default).said).e, pin := ((n0_2.1.getD (i_2).toNat default).said).pin } : EAnswer) } : ENote)) default).bind fun a0_4 => (if ((a0_3.1 != 0) || (a0_4.1 != 0)) = true then (some false) else (chk (inI (i_2 + 1)) (rc_2 (i_2 + 1, a0_3.2, (cond (!(a0_3.1 != 0)) a0_4.2 x))))))))) else (iter (F_law30_RstateAgain_l3 then0) FU (0, n0_2.2, t, x))

def F_law30_RstateAgain_l1 (l : List ENote) (then0 : List ENote) (rc : (Int × Erstate_State) → Option Bool) (sg : Int × Erstate_State) : Option Bool := match sg with | (i, s0) => if ((decide (i < (l.length : Int))) && (decide (i < 40))) = true then (chk ((0 : Int) ≤ i ∧ i < (l.length : Int)) ((F_rstate_State_Apply s0 ({ (l.getD (i).toNat default) with conf := ({ epoch := ((l.getD (i).toNat default).conf).epoch, members := ((l.getD (i).toNat default).conf).members, floor := ((l.getD (i).toNat default).conf).floor } : EConf), entry := ({ batch := ({ client := (((l.getD (i).toNat default).entry).batch).client, req := (((l.getD (i).toNat default).entry).batch).req, ops := (((l.getD (i).toNat default).entry).batch).ops } : EBatch), ts := ((l.getD (i).toNat default).entry).ts } : EEntry), pin := ({ id := ((l.getD (i).toNat default).pin).id, at_ := ((l.getD (i).toNat default).pin).at_, left := ((l.getD (i).toNat default).pin).left } : EPin), said := ({ client := ((l.getD (i).toNat default).said).client, req := ((l.getD (i).toNat default).said).req, e := ((l.getD (i).toNat default).said).e, pin := ((l.getD (i).toNat default).said).pin } : EAnswer) } : ENote)).bind fun a0_2 => (chk (inI (i + 1)) (rc (i + 1, a0_2.2))))) else ((F_rstate_State_Notes s0).bind fun n0_2 => ((F_rstate_New).bind fun n0_3 => (iter (F_law30_RstateAgain_l2 then0 n0_2) FU (0, n0_3, (default : Eref30_State)))))

def F_law30_RstateAgain (l : List ENote) (then0 : List ENote) : Option Bool := (F_law28_Parts l).bind fun p => ((gif (!(decide (p > 20))) (F_law28_Parts then0) default).bind fun p_2 => (if ((decide (p > 20)) || (decide (p_2 > 20))) = true then ((F_law30_awake).bind fun a0 => (some a0)) else ((F_rstate_New).bind fun n0 => (iter (F_law30_RstateAgain_l1 l then0) FU (0, n0)))))

set_option maxHeartbeats 8000000 in
theorem c_law30_RstateAgain {I D : Dm} {l : List ENote} {v1_l : Value} {then0 : List ENote} {v2_then0 : Value} {w : World} {rr : Bool} (hF : F_law30_RstateAgain l then0 = some rr) (H : St I D w [SlC NENote v1_l l, SlC NENote v2_then0 then0]) :
  Calls Tryz.prog 4 #[v1_l, v2_then0] w (Ret fun vv w' => vv = vT rr ∧ ∃ I', Hf I D w I' w' []) := by
 replace H := H.hf
 unfold F_law30_RstateAgain at hF
 refine f_enter 107 Tryz.func4 rfl rfl (Nat.le_of_ble_eq_true rfl) fun a Z => ?_
 replace Z := Z.sub (ts := [0, 1]) rfl
 refine sR Z fun Z => ?_
 refine s_runk tRjA Z 1 rfl rfl fun a Z => ?_
 refine s_end Z [0, 1] rfl fun Z => ?_
 refine p_then (wp_seq ?_)
 refine wp_seq ?_
 obtain ⟨p, hx1, hF⟩ := bnd_in hF
 obtain ⟨p_2, hx2, hF⟩ := bnd_in hF
 refine f_region Z fun Z => ?_
 refine s_runk tRjA Z 1 rfl rfl fun a Z => ?_
 refine hC Z H [(0, true)] rfl #[] fn_5_YRjA rfl rfl (fun D h => have q := c_law28_Parts hx1 h; q) fun vv a w1 D2 hr hF2 Z => ?_
 obtain ⟨rfl, I1, K⟩ := hr
 have H := (hF2 K).nf rfl
 refine s_runk tRjA Z 2 rfl rfl fun a Z => ?_
 refine gO Z v2_then0 rfl (wantB_f _) (.n 1 rfl .z) (fun hp => Ob_c tRjA rfl) fun a Z => ?_
 refine g_call Z (p := (!(decide (p > 20)))) (v := vI p_2) (S' := [(16, v2_then0)]) (caps := #[]) fn_5_YRjA rfl rfl rfl (wantB_f _) rfl (by decide) (fun hp hS => (hS.conv (t := 16) rfl (cond_t hp)).sub (ts := [16]) rfl) rfl rfl rfl rfl (fun hp => (have hq := c_law28_Parts (gif_in hx2 hp) ((H).pick0 (js := [(1, true)]) rfl rfl); plainC hq)) fun a w2 hb Z => ?_
 replace H := H.blw hb
 clear hb
 refine gO Z (vT (decide (p_2 > 20))) rfl (wantB_f _) (.c 17 rfl id .z) (fun hp => Ob_c tRjA rfl) fun a Z => ?_
 refine sO Z (vT ((decide (p > 20)) || (decide (p_2 > 20)))) rfl (Ob_pick rfl rfl rfl rfl (pick_or _ _)) fun a Z => ?_
 refine s_end Z [0, 1, 19] rfl fun Z => ?_
 refine p_then ?_
 refine f_cond Z rfl (fun hc1 => ?_) (fun hc1 => ?_)
 ·replace hF := ite_t hc1 hF
  refine wp_seq ?_
  obtain ⟨a0, hx3, hF⟩ := bnd_in hF
  refine f_region Z fun Z => ?_
  refine hC Z H [] rfl #[] fn_6_YRjA rfl rfl (fun D h => have q := c_law30_awake hx3 h; q) fun vv a w3 D2 hr hF2 Z => ?_
  obtain ⟨rfl, I2, K⟩ := hr
  have H := (hF2 K).nf rfl
  refine s_runk tRjA Z 1 rfl rfl fun a Z => ?_
  refine s_end Z [4] rfl fun Z => ?_
  refine p_then (wp_ret ?_)
  refine p_then_r ?_
  obtain rfl := some_in hF
  exact f_ret Z (run_results1 rfl Z rfl) ⟨rfl, I2, (H.sub [] rfl).eq rfl⟩
 ·replace hF := ite_f hc1 hF
  refine wp_skip ?_
  refine p_then (wp_seq ?_)
  obtain ⟨n0, hx4, hF⟩ := bnd_in hF
  refine f_region Z fun Z => ?_
  refine hC Z H [] rfl #[] fn_7_YRjA rfl rfl (fun D h => have q := c_rstate_New hx4 h; q) fun vv a w4 D2 hr hF2 Z => ?_
  obtain ⟨g1, rfl, I3, K⟩ := hr
  have H := (hF2 K).nf rfl
  refine s_runk tRjA Z 1 rfl rfl fun a Z => ?_
  refine s_end Z [0, 1, 5] rfl fun Z => ?_
  refine p_then (wp_seq ?_)
  refine sR Z fun Z => ?_
  refine s_runk tRjA Z 1 rfl rfl fun a Z => ?_
  refine s_end Z [0, 1, 5, 6] rfl fun Z => ?_
  refine p_then (wp_block ?_)
  refine f_iter hF (fun sg a' w' => match sg with | (i, s0) => Sl 107 [(0, v1_l), (1, v2_then0), (5, pp g1 0), (6, vI i)] a' ∧ ∃ I2, Hf I D w I2 w' [OErstate_State g1 s0, SlC NENote v1_l l, SlC NENote v2_then0 then0]) ⟨Z.sub (ts := [0, 1, 5, 6]) rfl, ⟨I3, (H.sub [(0, false), (0, true), (1, true)] rfl).eq rfl⟩⟩ ?_
  rintro rc ⟨i, s0⟩ a w5 ⟨Z, I4, H⟩ hF
  unfold F_law30_RstateAgain_l1 at hF
  try dsimp only at hF
  refine wp_seq ?_
  refine sR Z fun Z => ?_
  refine s_runk tRjA Z 2 rfl rfl fun a Z => ?_
  refine sO Z (vI (ln l)) rfl (Ob_slen tRjA rfl rfl rfl (H.slshape 1 rfl)) fun a Z => ?_
  refine s_runk tRjA Z 2 rfl rfl fun a Z => ?_
  refine gO Z (vI i) rfl (wantB_t _) (.n 6 rfl .z) (fun hp => Ob_c tRjA rfl) fun a Z => ?_
  refine gO Z (vT (decide (i < 40))) rfl (wantB_t _) (.c 27 rfl id .z) (fun hp => Ob_c tRjA rfl) fun a Z => ?_
  refine sO Z (vT ((decide (i < (ln l))) && (decide (i < 40)))) rfl (Ob_pick rfl rfl rfl rfl (pick_and _ _)) fun a Z => ?_
  refine s_end Z [0, 1, 5, 6, 29] rfl fun Z => ?_
  refine p_then ?_
  refine f_cond Z rfl (fun hc2 => ?_) (fun hc2 => ?_)
  ·replace hF := ite_t hc2 hF
   refine wp_skip ?_
   refine p_then (wp_seq ?_)
   refine wp_block ?_
   obtain ⟨hg1, hF⟩ := chk_in hF
   obtain ⟨a0_2, hx5, hF⟩ := bnd_in hF
   refine f_region Z fun Z => ?_
   refine s_runk tRjA Z 3 rfl rfl fun a Z => ?_
   refine sO Z (.pointer (some ⟨blkOf v1_l, oofOf v1_l + (i).toNat * 18, none⟩)) rfl (Ob_sidx tRjA rfl rfl rfl rfl (slPl (H.sl 1 rfl) hg1) hg1) fun a Z => ?_
   obtain ⟨_, ⟨u1, u2, u3, rfl, L1, L2, L3⟩, H⟩ := H.elG 1 rfl (i) (NENote.dft _ _)
   replace H := H.addsl L1
   replace H := H.addsl L2
   replace H := H.addsl L3
   replace H : Hf I D w I4 w5 [SlC NEOp u3 ((((gi l i).entry).batch).ops), SlC Ni64 u2 ((gi l i).legit), SlC NEMember u1 (((gi l i).conf).members), AtG ((0 : Int) ≤ i ∧ i < (ln l)) (blkOf v1_l) (oofOf v1_l + (i).toNat * 18) (cENote (gi l i) u1 u2 u3), OErstate_State g1 s0, SlC NENote v1_l l, SlC NENote v2_then0 then0] := H
   refine sO Z (.agg (cENote (gi l i) u1 u2 u3).toArray) rfl (oA tRjA rfl rfl ((H.atg 3 rfl hg1).part 0 rfl)) fun a Z => ?_
   refine hC Z H [(4, false), (2, true), (1, true), (0, true)] rfl #[] fn_8_YRjA rfl rfl (fun D h => have q := c_rstate_State_Apply hx5 h; q) fun vv a w6 D2 hr hF2 Z => ?_
   obtain ⟨rfl, I5, K⟩ := hr
   have H := (hF2 K).nf rfl
   refine s_end Z [0, 1, 5, 6] rfl fun Z => ?_
   refine p_blk ?_
   refine p_then ?_
   obtain ⟨hg2, hF⟩ := chk_in hF
   refine f_region Z fun Z => ?_
   refine s_runk tRjA Z 1 rfl rfl fun a Z => ?_
   refine sO Z (vI (i + 1)) rfl (Ob_add rfl rfl rfl (wrI hg2)) fun a Z => ?_
   refine s_runk tRjA Z 1 rfl rfl fun a Z => ?_
   refine s_end Z [0, 1, 5, 6] rfl fun Z => ?_
   refine p_then ?_
   exact ⟨(i + 1, a0_2.2), ⟨Z.sub (ts := [0, 1, 5, 6]) rfl, ⟨I5, (H.sub [(0, false), (4, true), (5, true)] rfl).eq rfl⟩⟩, hF⟩
  ·replace hF := ite_f hc2 hF
   refine wp_exit ?_
   refine p_then_x ?_
   refine p_then_x ?_
   refine f_exit_here ?_
   refine p_then (wp_seq ?_)
   obtain ⟨n0_2, hx6, hF⟩ := bnd_in hF
   refine f_region Z fun Z => ?_
   refine s_runk tRjA Z 1 rfl rfl fun a Z => ?_
   refine hC Z H [(0, false)] rfl #[] fn_11_YRjA rfl rfl (fun D h => have q := c_rstate_State_Notes hx6 h; q) fun vv a w7 D2 hr hF2 Z => ?_
   obtain ⟨q1, hvv, I6, K⟩ := hr; obtain rfl := hvv.symm
   have H := (hF2 K).nf rfl
   refine s_runk tRjA Z 1 rfl rfl fun a Z => ?_
   refine s_end Z [1, 5, 7] rfl fun Z => ?_
   refine p_then (wp_seq ?_)
   obtain ⟨n0_3, hx7, hF⟩ := bnd_in hF
   refine f_region Z fun Z => ?_
   refine hC Z H [] rfl #[] fn_7_YRjA rfl rfl (fun D h => have q := c_rstate_New hx7 h; q) fun vv a w8 D2 hr hF2 Z => ?_
   obtain ⟨g2, rfl, I7, K⟩ := hr
   have H := (hF2 K).nf rfl
   refine s_runk tRjA Z 1 rfl rfl fun a Z => ?_
   refine s_end Z [1, 5, 7, 8] rfl fun Z => ?_
   refine pR Z fun Z => ?_
   refine sO Z (.agg #[vI 0, nS, vU 0, vU 0, nS]) rfl (Ob_build (vs := []) rfl rfl (by go_simp <;> rfl)) fun a Z => ?_
   refine hB Z H [vI 0, nS, vU 0, vU 0, nS] rfl rfl rfl rfl fun a w9 b1 H Z => ?_
   refine s_runk tRjA Z 1 rfl rfl fun a Z => ?_
   refine s_end Z [1, 5, 7, 8, 9] rfl fun Z => ?_
   refine p_then (wp_seq ?_)
   refine sR Z fun Z => ?_
   refine s_runk tRjA Z 1 rfl rfl fun a Z => ?_
   refine s_end Z [1, 5, 7, 8, 9, 10] rfl fun Z => ?_
   refine p_then (wp_block ?_)
   replace H := H.slNil NEMember
   replace H := H.slNil NEEntry
   replace H := H.sX (OEref30_State b1 (default : Eref30_State)) (nS, nS) [(2, false), (1, true), (0, true)] rfl rfl rfl
   refine f_iter hF (fun sg a' w' => match sg with | (i_2, t, x) => Sl 107 [(1, v2_then0), (5, pp g1 0), (7, q1), (8, pp g2 0), (9, pp b1 0), (10, vI i_2)] a' ∧ ∃ I2, Hf I D w I2 w' [OErstate_State g1 n0_2.2, OErstate_State g2 t, OEref30_State b1 x, OwC NENote 50 q1 n0_2.1, SlC NENote v2_then0 then0]) ⟨Z.sub (ts := [1, 5, 7, 8, 9, 10]) rfl, ⟨I7, (H.sub [(4, false), (3, false), (0, false), (2, false), (3, true)] rfl).eq rfl⟩⟩ ?_
   rintro rc_2 ⟨i_2, t, x⟩ a w10 ⟨Z, I8, H⟩ hF
   unfold F_law30_RstateAgain_l2 at hF
   try dsimp only at hF
   refine wp_seq ?_
   refine sR Z fun Z => ?_
   refine s_runk tRjA Z 2 rfl rfl fun a Z => ?_
   refine sO Z (vI (ln n0_2.1)) rfl (Ob_slen tRjA rfl rfl rfl (H.owshape 3 rfl)) fun a Z => ?_
   refine s_runk tRjA Z 1 rfl rfl fun a Z => ?_
   refine s_end Z [1, 5, 7, 8, 9, 10, 46] rfl fun Z => ?_
   refine p_then ?_
   refine f_cond Z rfl (fun hc3 => ?_) (fun hc3 => ?_)
   ·replace hF := ite_t hc3 hF
    refine wp_skip ?_
    refine p_then (wp_seq ?_)
    refine wp_block ?_
    refine wp_seq ?_
    obtain ⟨hg3, hF⟩ := chk_in hF
    obtain ⟨a0_3, hx8, hF⟩ := bnd_in hF
    obtain ⟨hg4, hF⟩ := chk_in hF
    obtain ⟨a0_4, hx9, hF⟩ := bnd_in hF
    refine f_region Z fun Z => ?_
    refine s_runk tRjA Z 3 rfl rfl fun a Z => ?_
    refine sO Z (.pointer (some ⟨blkOf q1, oofOf q1 + (i_2).toNat * 18, none⟩)) rfl (Ob_sidx tRjA rfl rfl rfl rfl (slPl (H.owA 3 rfl) hg3) hg3) fun a Z => ?_
    obtain ⟨_, ⟨u4, u5, u6, rfl, L4, L5, L6⟩, hat1⟩ := H.owEl 3 rfl hg3
    replace H : Hf I D w I8 w10 [SlC NEMember u4 (((gi n0_2.1 i_2).conf).members), OErstate_State g1 n0_2.2, OErstate_State g2 t, OEref30_State b1 x, OwC NENote 50 q1 n0_2.1, SlC NENote v2_then0 then0] := H.addsl L4
    replace H : Hf I D w I8 w10 [SlC Ni64 u5 ((gi n0_2.1 i_2).legit), SlC NEMember u4 (((gi n0_2.1 i_2).conf).members), OErstate_State g1 n0_2.2, OErstate_State g2 t, OEref30_State b1 x, OwC NENote 50 q1 n0_2.1, SlC NENote v2_then0 then0] := H.addsl L5
    replace H : Hf I D w I8 w10 [SlC NEOp u6 ((((gi n0_2.1 i_2).entry).batch).ops), SlC Ni64 u5 ((gi n0_2.1 i_2).legit), SlC NEMember u4 (((gi n0_2.1 i_2).conf).members), OErstate_State g1 n0_2.2, OErstate_State g2 t, OEref30_State b1 x, OwC NENote 50 q1 n0_2.1, SlC NENote v2_then0 then0] := H.addsl L6
    refine sO Z (.agg (cENote (gi n0_2.1 i_2) u4 u5 u6).toArray) rfl (oA tRjA rfl rfl (hat1.part 0 rfl)) fun a Z => ?_
    refine hC Z H [(4, false), (2, true), (1, true), (0, true)] rfl #[] fn_8_YRjA rfl rfl (fun D h => have q := c_rstate_State_Apply hx8 h; q) fun vv a w11 D2 hr hF2 Z => ?_
    obtain ⟨rfl, I9, K⟩ := hr
    have H := (hF2 K).nf rfl
    refine s_runk tRjA Z 2 rfl rfl fun a Z => ?_
    refine gO Z (pp b1 0) rfl (wantB_f _) (.n 9 rfl .z) (fun hp => Ob_c tRjA rfl) fun a Z => ?_
    refine gO Z q1 rfl (wantB_f _) (.n 7 rfl .z) (fun hp => Ob_c tRjA rfl) fun a Z => ?_
    refine gO Z (vI i_2) rfl (wantB_f _) (.n 10 rfl .z) (fun hp => Ob_c tRjA rfl) fun a Z => ?_
    refine gO Z (.pointer (some ⟨blkOf q1, oofOf q1 + (i_2).toNat * 18, none⟩)) rfl (wantB_f _) (.c 58 rfl id (.c 59 rfl id .z)) (fun hp => Ob_sidx tRjA rfl rfl rfl rfl (slPl (H.owA 6 rfl) (hg4 hp)) (hg4 hp)) fun a Z => ?_
    obtain ⟨_, ⟨u7, u8, u9, rfl, L7, L8, L9⟩, hat2⟩ := H.owElG 6 rfl (i_2) (NENote.dft _ _)
    replace H : Hf I D w I9 w11 [SlC NEMember u7 (((gi n0_2.1 i_2).conf).members), OErstate_State g2 a0_3.2, SlC NEOp u6 ((((gi n0_2.1 i_2).entry).batch).ops), SlC Ni64 u5 ((gi n0_2.1 i_2).legit), SlC NEMember u4 (((gi n0_2.1 i_2).conf).members), OErstate_State g1 n0_2.2, OEref30_State b1 x, OwC NENote 50 q1 n0_2.1, SlC NENote v2_then0 then0] := H.addsl L7
    replace H : Hf I D w I9 w11 [SlC Ni64 u8 ((gi n0_2.1 i_2).legit), SlC NEMember u7 (((gi n0_2.1 i_2).conf).members), OErstate_State g2 a0_3.2, SlC NEOp u6 ((((gi n0_2.1 i_2).entry).batch).ops), SlC Ni64 u5 ((gi n0_2.1 i_2).legit), SlC NEMember u4 (((gi n0_2.1 i_2).conf).members), OErstate_State g1 n0_2.2, OEref30_State b1 x, OwC NENote 50 q1 n0_2.1, SlC NENote v2_then0 then0] := H.addsl L8
    replace H : Hf I D w I9 w11 [SlC NEOp u9 ((((gi n0_2.1 i_2).entry).batch).ops), SlC Ni64 u8 ((gi n0_2.1 i_2).legit), SlC NEMember u7 (((gi n0_2.1 i_2).conf).members), OErstate_State g2 a0_3.2, SlC NEOp u6 ((((gi n0_2.1 i_2).entry).batch).ops), SlC Ni64 u5 ((gi n0_2.1 i_2).legit), SlC NEMember u4 (((gi n0_2.1 i_2).conf).members), OErstate_State g1 n0_2.2, OEref30_State b1 x, OwC NENote 50 q1 n0_2.1, SlC NENote v2_then0 then0] := H.addsl L9
    refine gO Z (.agg (cENote (gi n0_2.1 i_2) u7 u8 u9).toArray) rfl (wantB_f _) (.c 60 rfl id .z) (fun hp => oA tRjA rfl rfl ((hat2 (hg4 hp)).part 0 rfl)) fun a Z => ?_
    refine h_gcall Z H (js := [(8, false), (2, true), (1, true), (0, true)]) rfl (p := (!(a0_3.1 != 0))) (v := vI a0_4.1) (S' := [(57, pp b1 0), (61, .agg (cENote (gi n0_2.1 i_2) u7 u8 u9).toArray)]) (caps := #[]) (fun qq => [OEref30_State b1 (cond qq a0_4.2 x)]) fn_9_YRjA rfl rfl rfl (wantB_f _) rfl (by decide) (fun hp hS => ((hS.conv (t := 57) rfl (cond_t hp)).conv (t := 61) rfl (cond_t hp)).sub (ts := [57, 61]) rfl) rfl rfl rfl rfl (fun hp D1 hS => have hq := c_ref30_State_Apply (gif_in hx9 hp) hS; hq) (fun hp => H.sub [(8, false), (0, true), (1, true), (2, true), (3, false), (3, true), (4, true), (5, true), (6, false), (6, false), (6, true)] rfl) fun a w12 I10 H Z => ?_
    replace H := H.nf rfl; try dsimp only at H
    refine gO Z (vT (a0_4.1 != 0)) rfl (wantB_f _) (.c 62 rfl id .z) (fun hp => Ob_c tRjA rfl) fun a Z => ?_
    refine sO Z (vT ((a0_3.1 != 0) || (a0_4.1 != 0))) rfl (Ob_pick rfl rfl rfl rfl (pick_or _ _)) fun a Z => ?_
    refine s_end Z [1, 5, 7, 8, 9, 10, 64] rfl fun Z => ?_
    refine p_then ?_
    refine f_cond Z rfl (fun hc4 => ?_) (fun hc4 => ?_)
    ·replace hF := ite_t hc4 hF
     refine sR Z fun Z => ?_
     refine s_runk tRjA Z 1 rfl rfl fun a Z => ?_
     refine s_end Z [4] rfl fun Z => ?_
     refine p_then (wp_ret ?_)
     refine p_blk_r ?_
     refine p_then_r ?_
     refine p_then_r ?_
     refine p_blk_r ?_
     refine p_then_r ?_
     obtain rfl := some_in hF
     exact f_ret Z (run_results1 rfl Z rfl) ⟨rfl, I10, (H.sub [] rfl).eq rfl⟩
    ·replace hF := ite_f hc4 hF
     refine wp_skip ?_
     refine p_blk ?_
     refine p_then ?_
     obtain ⟨hg5, hF⟩ := chk_in hF
     refine f_region Z fun Z => ?_
     refine s_runk tRjA Z 1 rfl rfl fun a Z => ?_
     refine sO Z (vI (i_2 + 1)) rfl (Ob_add rfl rfl rfl (wrI hg5)) fun a Z => ?_
     refine s_runk tRjA Z 1 rfl rfl fun a Z => ?_
     refine s_end Z [1, 5, 7, 8, 9, 10] rfl fun Z => ?_
     refine p_then ?_
     exact ⟨(i_2 + 1, a0_3.2, (cond (!(a0_3.1 != 0)) a0_4.2 x)), ⟨Z.sub (ts := [1, 5, 7, 8, 9, 10]) rfl, ⟨I10, (H.sub [(8, false), (4, false), (0, false), (6, false), (6, true)] rfl).eq rfl⟩⟩, hF⟩
   ·replace hF := ite_f hc3 hF
    refine wp_exit ?_
    refine p_then_x ?_
    refine p_then_x ?_
    refine f_exit_here ?_
    refine p_then (wp_seq ?_)
    refine sR Z fun Z => ?_
    refine s_runk tRjA Z 1 rfl rfl fun a Z => ?_
    refine s_end Z [1, 5, 8, 9, 11] rfl fun Z => ?_
    refine p_then (wp_block ?_)
    refine f_iter hF (fun sg a' w' => match sg with | (i_3, s0_2, t_2, x_2) => Sl 107 [(1, v2_then0), (5, pp g1 0), (8, pp g2 0), (9, pp b1 0), (11, vI i_3)] a' ∧ ∃ I2, Hf I D w I2 w' [OErstate_State g1 s0_2, OErstate_State g2 t_2, OEref30_State b1 x_2, SlC NENote v2_then0 then0]) ⟨Z.sub (ts := [1, 5, 8, 9, 11]) rfl, ⟨I8, (H.sub [(0, false), (0, false), (0, false), (1, true)] rfl).eq rfl⟩⟩ ?_
    rintro rc_3 ⟨i_3, s0_2, t_2, x_2⟩ a w13 ⟨Z, I11, H⟩ hF
    unfold F_law30_RstateAgain_l3 at hF
    try dsimp only at hF
    refine wp_seq ?_
    refine sR Z fun Z => ?_
    refine s_runk tRjA Z 2 rfl rfl fun a Z => ?_
    refine sO Z (vI (ln then0)) rfl (Ob_slen tRjA rfl rfl rfl (H.slshape 3 rfl)) fun a Z => ?_
    refine s_runk tRjA Z 2 rfl rfl fun a Z => ?_
    refine gO Z (vI i_3) rfl (wantB_t _) (.n 11 rfl .z) (fun hp => Ob_c tRjA rfl) fun a Z => ?_
    refine gO Z (vT (decide (i_3 < 20))) rfl (wantB_t _) (.c 70 rfl id .z) (fun hp => Ob_c tRjA rfl) fun a Z => ?_
    refine sO Z (vT ((decide (i_3 < (ln then0))) && (decide (i_3 < 20)))) rfl (Ob_pick rfl rfl rfl rfl (pick_and _ _)) fun a Z => ?_
    refine s_end Z [1, 5, 8, 9, 11, 72] rfl fun Z => ?_
    refine p_then ?_
    refine f_cond Z rfl (fun hc5 => ?_) (fun hc5 => ?_)
    ·replace hF := ite_t hc5 hF
     refine wp_skip ?_
     refine p_then (wp_seq ?_)
     refine wp_block ?_
     refine wp_seq ?_
     refine wp_seq ?_
     obtain ⟨hg6, hF⟩ := chk_in hF
     obtain ⟨_, ⟨u10, u11, u12, rfl, L10, L11, L12⟩, H⟩ := H.elG 3 rfl (i_3) (NENote.dft _ _)
     replace H := H.addsl L10
     replace H := H.addsl L11
     replace H := H.addsl L12
     replace H : Hf I D w I11 w13 [SlC NEOp u12 ((((gi then0 i_3).entry).batch).ops), SlC Ni64 u11 ((gi then0 i_3).legit), SlC NEMember u10 (((gi then0 i_3).conf).members), AtG ((0 : Int) ≤ i_3 ∧ i_3 < (ln then0)) (blkOf v2_then0) (oofOf v2_then0 + (i_3).toNat * 18) (cENote (gi then0 i_3) u10 u11 u12), OErstate_State g1 s0_2, OErstate_State g2 t_2, OEref30_State b1 x_2, SlC NENote v2_then0 then0] := H
     obtain ⟨a0_5, hx10, hF⟩ := bnd_in hF
     obtain ⟨hg7, hF⟩ := chk_in hF
     obtain ⟨a0_6, hx11, hF⟩ := bnd_in hF
     refine f_regionL Z (by kernel_rfl) (by kernel_rfl) (by decide) (by decide) [5, 11] [(0, 0, 0), (0, 0, 0), (0, 0, 0), (6, 0, 0), (14, 0, 0), (31, 0, 0), (0, 0, 1), (0, 0, 1), (0, 0, 1), (384, 0, 1), (896, 0, 1), (2047, 1, 1), (4095, 2, 2)] (by kernel_rfl) (fun jj vv => cond (Nat.blt jj 6) (cond (Nat.blt jj 3) (cond (Nat.blt jj 1) (vv = pp g1 0) (cond (Nat.blt jj 2) (vv = v2_then0) (vv = vI i_3))) (cond (Nat.blt jj 4) (vv = .pointer (some ⟨blkOf v2_then0, oofOf v2_then0 + (i_3).toNat * 18, none⟩)) (cond (Nat.blt jj 5) (vv = .agg (cENote (gi then0 i_3) u10 u11 u12).toArray) (vv = vI a0_5.1)))) (cond (Nat.blt jj 9) (cond (Nat.blt jj 7) (vv = pp g2 0) (cond (Nat.blt jj 8) (vv = v2_then0) (vv = vI i_3))) (cond (Nat.blt jj 11) (cond (Nat.blt jj 10) (vv = .pointer (some ⟨blkOf v2_then0, oofOf v2_then0 + (i_3).toNat * 18, none⟩)) (vv = .agg (cENote (gi then0 i_3) u10 u11 u12).toArray)) (cond (Nat.blt jj 12) (vv = vI a0_6.1) (vv = vT (a0_5.1 != a0_6.1)))))) (fun ss vals1 xw => match ss with | 0 => Gx I D w I11 w13 xw [SlC NEOp u12 ((((gi then0 i_3).entry).batch).ops), SlC Ni64 u11 ((gi then0 i_3).legit), SlC NEMember u10 (((gi then0 i_3).conf).members), AtG ((0 : Int) ≤ i_3 ∧ i_3 < (ln then0)) (blkOf v2_then0) (oofOf v2_then0 + (i_3).toNat * 18) (cENote (gi then0 i_3) u10 u11 u12), OErstate_State g1 s0_2, OErstate_State g2 t_2, OEref30_State b1 x_2, SlC NENote v2_then0 then0] | 1 => Gx I D w I11 w13 xw [OErstate_State g1 a0_5.2, SlC NEOp u12 ((((gi then0 i_3).entry).batch).ops), SlC Ni64 u11 ((gi then0 i_3).legit), SlC NEMember u10 (((gi then0 i_3).conf).members), AtG ((0 : Int) ≤ i_3 ∧ i_3 < (ln then0)) (blkOf v2_then0) (oofOf v2_then0 + (i_3).toNat * 18) (cENote (gi then0 i_3) u10 u11 u12), OErstate_State g2 t_2, OEref30_State b1 x_2, SlC NENote v2_then0 then0] | _ => Gx I D w I11 w13 xw [OErstate_State g2 a0_6.2, OErstate_State g1 a0_5.2, SlC NEOp u12 ((((gi then0 i_3).entry).batch).ops), SlC Ni64 u11 ((gi then0 i_3).legit), SlC NEMember u10 (((gi then0 i_3).conf).members), AtG ((0 : Int) ≤ i_3 ∧ i_3 < (ln then0)) (blkOf v2_then0) (oofOf v2_then0 + (i_3).toNat * 18) (cENote (gi then0 i_3) u10 u11 u12), OEref30_State b1 x_2, SlC NENote v2_then0 then0]) (fun _ => Gx.start H) ?_ ?_
     ·intro fr hfr hfe
      refine .cons (fun ss hlo hhi vals1 xw hG hV => ?_) ?_
      ·obtain rfl : ss = 0 := Nat.le_antisymm hhi hlo
       rw [← hfe]
       have hS := (hfr vals1).sub (ts := [5]) rfl
       exact L_val hS rfl (Ob_c tRjA rfl) ⟨rfl, hG⟩
      refine .cons (fun ss hlo hhi vals1 xw hG hV => ?_) ?_
      ·obtain rfl : ss = 0 := Nat.le_antisymm hhi hlo
       rw [← hfe]
       have hS := (hfr vals1).sub (ts := [1]) rfl
       exact L_val hS rfl (Ob_c tRjA rfl) ⟨rfl, hG⟩
      refine .cons (fun ss hlo hhi vals1 xw hG hV => ?_) ?_
      ·obtain rfl : ss = 0 := Nat.le_antisymm hhi hlo
       rw [← hfe]
       have hS := (hfr vals1).sub (ts := [11]) rfl
       exact L_val hS rfl (Ob_c tRjA rfl) ⟨rfl, hG⟩
      refine .cons (fun ss hlo hhi vals1 xw hG hV => ?_) ?_
      ·obtain rfl : ss = 0 := Nat.le_antisymm hhi hlo
       rw [← hfe]
       have hS := (hfr vals1).sub (ts := [76, 77]) rfl
       replace hS := hS.conv (t := 76) rfl (show (vals1 1) = v2_then0 from hV 1 (by decide))
       replace hS := hS.conv (t := 77) rfl (show (vals1 2) = vI i_3 from hV 2 (by decide))
       obtain ⟨I2, hI2, H⟩ := Gx.ex hG
       exact L_val hS rfl (Ob_sidx tRjA rfl rfl rfl rfl (slPl (H.sl 7 rfl) hg6) hg6) ⟨rfl, hG⟩
      refine .cons (fun ss hlo hhi vals1 xw hG hV => ?_) ?_
      ·obtain rfl : ss = 0 := Nat.le_antisymm hhi hlo
       rw [← hfe]
       have hS := (hfr vals1).sub (ts := [78]) rfl
       replace hS := hS.conv (t := 78) rfl (show (vals1 3) = .pointer (some ⟨blkOf v2_then0, oofOf v2_then0 + (i_3).toNat * 18, none⟩) from hV 3 (by decide))
       obtain ⟨I2, hI2, H⟩ := Gx.ex hG
       exact L_val hS rfl (oA tRjA rfl rfl ((H.atg 3 rfl hg6).part 0 rfl)) ⟨rfl, hG⟩
      refine .cons (fun ss hlo hhi vals1 xw hG hV => ?_) ?_
      ·obtain rfl : ss = 0 := Nat.le_antisymm hhi hlo
       rw [← hfe]
       have hS := (hfr vals1).sub (ts := [75, 79]) rfl
       replace hS := hS.conv (t := 75) rfl (show (vals1 0) = pp g1 0 from hV 0 (by decide))
       replace hS := hS.conv (t := 79) rfl (show (vals1 4) = .agg (cENote (gi then0 i_3) u10 u11 u12).toArray from hV 4 (by decide))
       obtain ⟨I2, hI2, H⟩ := Gx.ex hG
       refine L_hcall H (js := [(4, false), (2, true), (1, true), (0, true)]) rfl (caps := #[]) hS fn_8_YRjA rfl rfl rfl rfl rfl (fun D1 hS => have hq := c_rstate_State_Apply hx10 hS; hq) fun _ yw D1 hr hF2 => ?_
       obtain ⟨rfl, I3, K⟩ := hr
       obtain ⟨hK, H2⟩ := hF2 K
       exact ⟨rfl, Gx.go hG hI2 hK K.imm H2⟩
      refine .cons (fun ss hlo hhi vals1 xw hG hV => ?_) ?_
      ·obtain rfl | rfl : ss = 0 ∨ ss = 1 := st1 hlo hhi
       all_goals
       ·rw [← hfe]
        have hS := (hfr vals1).sub (ts := [8]) rfl
        exact L_val hS rfl (Ob_c tRjA rfl) ⟨rfl, hG⟩
      refine .cons (fun ss hlo hhi vals1 xw hG hV => ?_) ?_
      ·obtain rfl | rfl : ss = 0 ∨ ss = 1 := st1 hlo hhi
       all_goals
       ·rw [← hfe]
        have hS := (hfr vals1).sub (ts := [1]) rfl
        exact L_val hS rfl (Ob_c tRjA rfl) ⟨rfl, hG⟩
      refine .cons (fun ss hlo hhi vals1 xw hG hV => ?_) ?_
      ·obtain rfl | rfl : ss = 0 ∨ ss = 1 := st1 hlo hhi
       all_goals
       ·rw [← hfe]
        have hS := (hfr vals1).sub (ts := [11]) rfl
        exact L_val hS rfl (Ob_c tRjA rfl) ⟨rfl, hG⟩
      refine .cons (fun ss hlo hhi vals1 xw hG hV => ?_) ?_
      ·obtain rfl | rfl : ss = 0 ∨ ss = 1 := st1 hlo hhi
       all_goals
       ·rw [← hfe]
        have hS := (hfr vals1).sub (ts := [82, 83]) rfl
        replace hS := hS.conv (t := 82) rfl (show (vals1 7) = v2_then0 from hV 7 (by decide))
        replace hS := hS.conv (t := 83) rfl (show (vals1 8) = vI i_3 from hV 8 (by decide))
        obtain ⟨I2, hI2, H⟩ := Gx.ex hG
        exact L_val hS rfl (Ob_sidx tRjA rfl rfl rfl rfl (slPl (H.sl 7 rfl) hg7) hg7) ⟨rfl, hG⟩
      refine .cons (fun ss hlo hhi vals1 xw hG hV => ?_) ?_
      ·obtain rfl | rfl : ss = 0 ∨ ss = 1 := st1 hlo hhi
       ·rw [← hfe]
        have hS := (hfr vals1).sub (ts := [84]) rfl
        replace hS := hS.conv (t := 84) rfl (show (vals1 9) = .pointer (some ⟨blkOf v2_then0, oofOf v2_then0 + (i_3).toNat * 18, none⟩) from hV 9 (by decide))
        obtain ⟨I2, hI2, H⟩ := Gx.ex hG
        exact L_val hS rfl (oA tRjA rfl rfl ((H.atg 3 rfl hg7).part 0 rfl)) ⟨rfl, hG⟩
       ·rw [← hfe]
        have hS := (hfr vals1).sub (ts := [84]) rfl
        replace hS := hS.conv (t := 84) rfl (show (vals1 9) = .pointer (some ⟨blkOf v2_then0, oofOf v2_then0 + (i_3).toNat * 18, none⟩) from hV 9 (by decide))
        obtain ⟨I2, hI2, H⟩ := Gx.ex hG
        exact L_val hS rfl (oA tRjA rfl rfl ((H.atg 4 rfl hg7).part 0 rfl)) ⟨rfl, hG⟩
      refine .cons (fun ss hlo hhi vals1 xw hG hV => ?_) ?_
      ·obtain rfl : ss = 1 := Nat.le_antisymm hhi hlo
       rw [← hfe]
       have hS := (hfr vals1).sub (ts := [81, 85]) rfl
       replace hS := hS.conv (t := 81) rfl (show (vals1 6) = pp g2 0 from hV 6 (by decide))
       replace hS := hS.conv (t := 85) rfl (show (vals1 10) = .agg (cENote (gi then0 i_3) u10 u11 u12).toArray from hV 10 (by decide))
       obtain ⟨I2, hI2, H⟩ := Gx.ex hG
       refine L_hcall H (js := [(5, false), (3, true), (2, true), (1, true)]) rfl (caps := #[]) hS fn_8_YRjA rfl rfl rfl rfl rfl (fun D1 hS => have hq := c_rstate_State_Apply hx11 hS; hq) fun _ yw D1 hr hF2 => ?_
       obtain ⟨rfl, I3, K⟩ := hr
       obtain ⟨hK, H2⟩ := hF2 K
       exact ⟨rfl, Gx.go hG hI2 hK K.imm H2⟩
      refine .cons (fun ss hlo hhi vals1 xw hG hV => ?_) ?_
      ·obtain rfl : ss = 2 := Nat.le_antisymm hhi hlo
       rw [← hfe]
       have hS := (hfr vals1).sub (ts := [80, 86]) rfl
       replace hS := hS.conv (t := 80) rfl (show (vals1 5) = vI a0_5.1 from hV 5 (by decide))
       replace hS := hS.conv (t := 86) rfl (show (vals1 11) = vI a0_6.1 from hV 11 (by decide))
       exact L_val hS rfl (Ob_c tRjA rfl) ⟨rfl, hG⟩
      exact .nil
     ·intro vals1 a w14 Z hG hV
      replace Z := Z.sub (ts := [1, 5, 8, 9, 11, 87]) (S' := [(1, v2_then0), (5, pp g1 0), (8, pp g2 0), (9, pp b1 0), (11, vI i_3), (87, vals1 12)]) rfl
      replace Z := Z.conv (t := 87) rfl (show (vals1 12) = vT (a0_5.1 != a0_6.1) from hV 12 (by decide))
      obtain ⟨I12, _, H⟩ := Gx.ex hG
      clear hG hV
      replace Z := Z.sub (ts := [1, 5, 8, 9, 11, 87]) rfl
      replace H : Hf I D w I12 w14 [OErstate_State g2 a0_6.2, OErstate_State g1 a0_5.2, SlC NEOp u12 ((((gi then0 i_3).entry).batch).ops), SlC Ni64 u11 ((gi then0 i_3).legit), SlC NEMember u10 (((gi then0 i_3).conf).members), AtG ((0 : Int) ≤ i_3 ∧ i_3 < (ln then0)) (blkOf v2_then0) (oofOf v2_then0 + (i_3).toNat * 18) (cENote (gi then0 i_3) u10 u11 u12), OEref30_State b1 x_2, SlC NENote v2_then0 then0] := H
      refine p_then ?_
      refine f_cond Z rfl (fun hc6 => ?_) (fun hc6 => ?_)
      ·replace hF := ite_t hc6 hF
       refine sR Z fun Z => ?_
       refine s_runk tRjA Z 1 rfl rfl fun a Z => ?_
       refine s_end Z [4] rfl fun Z => ?_
       refine p_then (wp_ret ?_)
       refine p_then_r ?_
       refine p_blk_r ?_
       refine p_then_r ?_
       refine p_then_r ?_
       refine p_blk_r ?_
       refine p_then_r ?_
       obtain rfl := some_in hF
       exact f_ret Z (run_results1 rfl Z rfl) ⟨rfl, I12, (H.sub [] rfl).eq rfl⟩
      ·replace hF := ite_f hc6 hF
       refine wp_skip ?_
       refine p_then ?_
       obtain ⟨hg8, hF⟩ := chk_in hF
       obtain ⟨a0_7, hx12, hF⟩ := bnd_in hF
       refine f_region Z fun Z => ?_
       refine s_runk tRjA Z 3 rfl rfl fun a Z => ?_
       refine sO Z (.pointer (some ⟨blkOf v2_then0, oofOf v2_then0 + (i_3).toNat * 18, none⟩)) rfl (Ob_sidx tRjA rfl rfl rfl rfl (slPl (H.sl 7 rfl) hg8) hg8) fun a Z => ?_
       obtain ⟨_, ⟨u13, u14, u15, rfl, L13, L14, L15⟩, H⟩ := H.elG 7 rfl (i_3) (NENote.dft _ _)
       replace H := H.addsl L13
       replace H := H.addsl L14
       replace H := H.addsl L15
       replace H : Hf I D w I12 w14 [SlC NEOp u15 ((((gi then0 i_3).entry).batch).ops), SlC Ni64 u14 ((gi then0 i_3).legit), SlC NEMember u13 (((gi then0 i_3).conf).members), AtG ((0 : Int) ≤ i_3 ∧ i_3 < (ln then0)) (blkOf v2_then0) (oofOf v2_then0 + (i_3).toNat * 18) (cENote (gi then0 i_3) u13 u14 u15), OErstate_State g2 a0_6.2, OErstate_State g1 a0_5.2, SlC NEOp u12 ((((gi then0 i_3).entry).batch).ops), SlC Ni64 u11 ((gi then0 i_3).legit), SlC NEMember u10 (((gi then0 i_3).conf).members), AtG ((0 : Int) ≤ i_3 ∧ i_3 < (ln then0)) (blkOf v2_then0) (oofOf v2_then0 + (i_3).toNat * 18) (cENote (gi then0 i_3) u10 u11 u12), OEref30_State b1 x_2, SlC NENote v2_then0 then0] := H
       refine sO Z (.agg (cENote (gi then0 i_3) u13 u14 u15).toArray) rfl (oA tRjA rfl rfl ((H.atg 3 rfl hg8).part 0 rfl)) fun a Z => ?_
       refine hC Z H [(10, false), (2, true), (1, true), (0, true)] rfl #[] fn_9_YRjA rfl rfl (fun D h => have q := c_ref30_State_Apply hx12 h; q) fun vv a w15 D2 hr hF2 Z => ?_
       obtain ⟨rfl, I13, K⟩ := hr
       have H := (hF2 K).nf rfl
       refine s_end Z [1, 5, 8, 9, 11] rfl fun Z => ?_
       refine p_blk ?_
       refine p_then ?_
       obtain ⟨hg9, hF⟩ := chk_in hF
       refine f_region Z fun Z => ?_
       refine s_runk tRjA Z 1 rfl rfl fun a Z => ?_
       refine sO Z (vI (i_3 + 1)) rfl (Ob_add rfl rfl rfl (wrI hg9)) fun a Z => ?_
       refine s_runk tRjA Z 1 rfl rfl fun a Z => ?_
       refine s_end Z [1, 5, 8, 9, 11] rfl fun Z => ?_
       refine p_then ?_
       exact ⟨(i_3 + 1, a0_5.2, a0_6.2, a0_7.2), ⟨Z.sub (ts := [1, 5, 8, 9, 11]) rfl, ⟨I13, (H.sub [(6, false), (5, false), (0, false), (8, true)] rfl).eq rfl⟩⟩, hF⟩
    ·replace hF := ite_f hc5 hF
     refine wp_exit ?_
     refine p_then_x ?_
     refine p_then_x ?_
     refine f_exit_here ?_
     refine p_then (wp_seq ?_)
     obtain ⟨s0_3, hx13, hF⟩ := bnd_in hF
     obtain ⟨s0_4, hx14, hF⟩ := bnd_in hF
     obtain ⟨a0_8, hx15, hF⟩ := bnd_in hF
     refine f_region Z fun Z => ?_
     refine s_runk tRjA Z 2 rfl rfl fun a Z => ?_
     refine hC Z H [(0, false), (1, false)] rfl #[] fn_10_YRjA rfl rfl (fun D h => have q := c_law30_Same hx13 h; q) fun vv a w16 D2 hr hF2 Z => ?_
     obtain ⟨rfl, I14, K⟩ := hr
     have H := (hF2 K).nf rfl
     refine s_runk tRjA Z 2 rfl rfl fun a Z => ?_
     refine gO Z (pp g2 0) rfl (wantB_t _) (.n 8 rfl .z) (fun hp => Ob_c tRjA rfl) fun a Z => ?_
     refine gO Z (pp b1 0) rfl (wantB_t _) (.n 9 rfl .z) (fun hp => Ob_c tRjA rfl) fun a Z => ?_
     refine h_gcall Z H (js := [(2, false), (1, false)]) rfl (p := (s0_3.1 != 0)) (v := vI s0_4.1) (S' := [(99, pp g2 0), (100, pp b1 0)]) (caps := #[]) (fun qq => [OErstate_State g2 (cond qq s0_4.2 t_2), OEref30_State b1 x_2]) fn_10_YRjA rfl rfl rfl (wantB_t _) rfl (by decide) (fun hp hS => ((hS.conv (t := 99) rfl (cond_t hp)).conv (t := 100) rfl (cond_t hp)).sub (ts := [99, 100]) rfl) rfl rfl rfl rfl (fun hp D1 hS => have hq := c_law30_Same (gif_in hx14 hp) hS; hq) (fun hp => H.sub [(2, false), (1, false), (0, false), (0, true)] rfl) fun a w17 I15 H Z => ?_
     replace H := H.nf rfl; try dsimp only at H
     refine gO Z (vT (s0_4.1 != 0)) rfl (wantB_t _) (.c 101 rfl id .z) (fun hp => Ob_c tRjA rfl) fun a Z => ?_
     refine sO Z (vT ((s0_3.1 != 0) && (s0_4.1 != 0))) rfl (Ob_pick rfl rfl rfl rfl (pick_and _ _)) fun a Z => ?_
     refine s_runk tRjA Z 1 rfl rfl fun a Z => ?_
     refine g_call Z (p := ((s0_3.1 != 0) && (s0_4.1 != 0))) (v := vT a0_8) (S' := []) (caps := #[]) fn_6_YRjA rfl rfl rfl (wantB_t _) rfl (by decide) (fun hp hS => hS.sub (ts := []) rfl) rfl rfl rfl rfl (fun hp => (have hq := c_law30_awake (gif_in hx15 hp) ((H).pick0 (js := []) rfl rfl); plainC hq)) fun a w18 hb Z => ?_
     replace H := H.blw hb
     clear hb
     refine sO Z (vT (((s0_3.1 != 0) && (s0_4.1 != 0)) && a0_8)) rfl (Ob_pick rfl rfl rfl rfl (pick_and _ _)) fun a Z => ?_
     refine s_runk tRjA Z 1 rfl rfl fun a Z => ?_
     refine s_end Z [4] rfl fun Z => ?_
     refine p_then (wp_ret ?_)
     obtain rfl := some_in hF
     exact f_ret Z (run_results1 rfl Z rfl) ⟨rfl, I15, (H.sub [] rfl).eq rfl⟩

theorem awakeA : F_law30_awake = some true := by kernel_rfl

end Go.Proofs.YtglfajjcgbfehaaGreat
