/- What a replica knows: the law RstatePlays walked. -/
import Derived.Test.YtglfajjcgbfehaaGreatYRi
namespace Go.Proofs.YtglfajjcgbfehaaGreat
open Go.RowKit
def tRjPL : TabL := ⟨[], [], [], [(22, (50, 18))], [(36, (5, true)), (50, (18, true))]⟩

def tRjP : Tab Tryz.prog := ⟨tRjPL, by kernel_rfl⟩

theorem fn_5_YRjP : IsFn Tryz.prog 5 := ⟨_, Tryz.func5, by kernel_rfl, by kernel_rfl⟩

theorem fn_6_YRjP : IsFn Tryz.prog 6 := ⟨_, Tryz.func6, by kernel_rfl, by kernel_rfl⟩

theorem fn_7_YRjP : IsFn Tryz.prog 7 := ⟨_, Tryz.func7, by kernel_rfl, by kernel_rfl⟩

theorem fn_8_YRjP : IsFn Tryz.prog 8 := ⟨_, Tryz.func8, by kernel_rfl, by kernel_rfl⟩

theorem fn_9_YRjP : IsFn Tryz.prog 9 := ⟨_, Tryz.func9, by kernel_rfl, by kernel_rfl⟩

theorem fn_10_YRjP : IsFn Tryz.prog 10 := ⟨_, Tryz.func10, by kernel_rfl, by kernel_rfl⟩

theorem fn_11_YRjP : IsFn Tryz.prog 11 := ⟨_, Tryz.func11, by kernel_rfl, by kernel_rfl⟩

theorem fn_12_YRjP : IsFn Tryz.prog 12 := ⟨_, Tryz.func12, by kernel_rfl, by kernel_rfl⟩

theorem fn_13_YRjP : IsFn Tryz.prog 13 := ⟨_, Tryz.func13, by kernel_rfl, by kernel_rfl⟩

def F_law30_RstatePlays_l2 (n0_2 : (List ENote) × Erstate_State) (n0_3 : (List ENote) × Eref30_State) (rc_2 : Int → Option Bool) (sg : Int) : Option Bool := match sg with | i_2 => if ((decide (i_2 < (n0_2.1.length : Int))) && (decide (i_2 < (n0_3.1.length : Int)))) = true then (chk ((0 : Int) ≤ i_2 ∧ i_2 < (n0_2.1.length : Int)) (chk ((0 : Int) ≤ i_2 ∧ i_2 < (n0_3.1.length : Int)) ((F_ref10_Same ({ (n0_2.1.getD (i_2).toNat default) with conf := ({ epoch := ((n0_2.1.getD (i_2).toNat default).conf).epoch, members := ((n0_2.1.getD (i_2).toNat default).conf).members, floor := ((n0_2.1.getD (i_2).toNat default).conf).floor } : EConf), entry := ({ batch := ({ client := (((n0_2.1.getD (i_2).toNat default).entry).batch).client, req := (((n0_2.1.getD (i_2).toNat default).entry).batch).req, ops := (((n0_2.1.getD (i_2).toNat default).entry).batch).ops } : EBatch), ts := ((n0_2.1.getD (i_2).toNat default).entry).ts } : EEntry), pin := ({ id := ((n0_2.1.getD (i_2).toNat default).pin).id, at_ := ((n0_2.1.getD (i_2).toNat default).pin).at_, left := ((n0_2.1.getD (i_2).toNat default).pin).left } : EPin), said := ({ client := ((n0_2.1.getD (i_2).toNat default).said).client, req := ((n0_2.1.getD (i_2).toNat default).said).req, e := ((n0_2.1.getD (i_2).toNat default).said).e, pin := ((n0_2.1.getD (i_2).toNat default).said).pin } : EAnswer) } : ENote) ({ (n0_3.1.getD (i_2).toNat default) with conf := ({ epoch := ((n0_3.1.getD (i_2).toNat default).conf).epoch, members := ((n0_3.1.getD (i_2).toNat default).conf).members, floor := ((n0_3.1.getD (i_2).toNat default).conf).floor } : EConf), entry := ({ batch := ({ client := (((n0_3.1.getD (i_2).toNat default).entry).batch).client, req := (((n0_3.1.getD (i_2).toNat default).entry).batch).req, ops := (((n0_3.1.getD (i_2).toNat default).entry).batch).ops } : EBatch), ts := ((n0_3.1.getD (i_2).toNat default).entry).ts } : EEntry), pin := ({ id := ((n0_3.1.getD (i_2).toNat default).pin).id, at_ := ((n0_3.1.getD (i_2).toNat default).pin).at_, left := ((n0_3.1.getD (i_2).toNat default).pin).left } : EPin), said := ({ client := ((n0_3.1.getD (i_2).toNat default).said).client, req := ((n0_3.1.getD (i_2).toNat default).said).req, e := ((n0_3.1.getD (i_2).toNat default).said).e, pin := ((n0_3.1.getD (i_2).toNat default).said).pin } : EAnswer) } : ENote)).bind fun s0_3 => (if (!s0_3) = true then (some false) else (chk (inI (i_2 + 1)) (rc_2 (i_2 + 1))))))) else ((F_law30_awake).bind fun a0_4 => (some a0_4))

def F_law30_RstatePlays_l1 (l : List ENote) (rc : (Int × Erstate_State × Eref30_State) → Option Bool) (sg : Int × Erstate_State × Eref30_State) : Option Bool := match sg with | (i, s0, x) => if ((decide (i < (l.length : Int))) && (decide (i < 40))) = true then (chk ((0 : Int) ≤ i ∧ i < (l.length : Int)) ((F_rstate_State_Apply s0 ({ (l.getD (i).toNat default) with conf := ({ epoch := ((l.getD (i).toNat default).conf).epoch, members := ((l.getD (i).toNat default).conf).members, floor := ((l.getD (i).toNat default).conf).floor } : EConf), entry := ({ batch := ({ client := (((l.getD (i).toNat default).entry).batch).client, req := (((l.getD (i).toNat default).entry).batch).req, ops := (((l.getD (i).toNat default).entry).batch).ops } : EBatch), ts := ((l.getD (i).toNat default).entry).ts } : EEntry), pin := ({ id := ((l.getD (i).toNat default).pin).id, at_ := ((l.getD (i).toNat default).pin).at_, left := ((l.getD (i).toNat default).pin).left } : EPin), said := ({ client := ((l.getD (i).toNat default).said).client, req := ((l.getD (i).toNat default).said).req, e := ((l.getD (i).toNat default).said).e, pin := ((l.getD (i).toNat default).said).pin } : EAnswer) } : ENote)).bind fun a0_2 => (chk ((0 : Int) ≤ i ∧ i < (l.length : Int)) ((F_ref30_State_Apply x ({ (l.getD (i).toNat default) with conf := ({ epoch := ((l.getD (i).toNat default).conf).epoch, members := ((l.getD (i).toNat default).conf).members, floor := ((l.getD (i).toNat default).conf).floor } : EConf), entry := ({ batch := ({ client := (((l.getD (i).toNat default).entry).batch).client, req := (((l.getD (i).toNat default).entry).batch).req, ops := (((l.getD (i).toNat default).entry).batch).ops } : EBatch), ts := ((l.getD (i).toNat default).entry).ts } : EEntry), pin := ({ id := ((l.getD (i).toNat default).pin).id, at_ := ((l.getD (i).toNat default).pin).at_, left := ((l.getD (i).toNat default).pin).left } : EPin), said := ({ client := ((l.getD (i).toNat default).said).client, req := ((l.getD (i).toNat default).said).req, e := ((l.getD (i).toNat default).said).e, pin := ((l.getD (i).toNat default).said).pin } : EAnswer) } : ENote)).bind fun a0_3 => ((gif (!(a0_2.1 != a0_3.1)) (F_law30_Same a0_2.2 a0_3.2) default).bind fun s0_2 => (if ((a0_2.1 != a0_3.1) || (s0_2.1 == 0)) = true then (some false) else (chk (inI (i + 1)) (rc (i + 1, (cond (!(a0_2.1 != a0_3.1)) s0_2.2 a0_2.2), a0_3.2))))))))) else ((F_rstate_State_Notes s0).bind fun n0_2 => ((F_ref30_State_Notes x).bind fun n0_3 => (if ((n0_2.1.length : Int) != (n0_3.1.length : Int)) = true then (some false) else (iter (F_law30_RstatePlays_l2 n0_2 n0_3) FU 0))))

def F_law30_RstatePlays (l : List ENote) : Option Bool := (F_law28_Parts l).bind fun p => (if (decide (p > 20)) = true then ((F_law30_awake).bind fun a0 => (some a0)) else ((F_rstate_New).bind fun n0 => (iter (F_law30_RstatePlays_l1 l) FU (0, n0, (default : Eref30_State)))))

set_option maxHeartbeats 8000000 in
theorem c_law30_RstatePlays {I D : Dm} {l : List ENote} {v1_l : Value} {w : World} {rr : Bool} (hF : F_law30_RstatePlays l = some rr) (H : St I D w [SlC NENote v1_l l]) :
  Calls Tryz.prog 3 #[v1_l] w (Ret fun vv w' => vv = vT rr ∧ ∃ I', Hf I D w I' w' []) := by
 replace H := H.hf
 unfold F_law30_RstatePlays at hF
 refine f_enter 77 Tryz.func3 rfl rfl (Nat.le_of_ble_eq_true rfl) fun a Z => ?_
 replace Z := Z.sub (ts := [0]) rfl
 refine sR Z fun Z => ?_
 refine s_runk tRjP Z 1 rfl rfl fun a Z => ?_
 refine s_end Z [0] rfl fun Z => ?_
 refine p_then (wp_seq ?_)
 refine wp_seq ?_
 obtain ⟨p, hx1, hF⟩ := bnd_in hF
 refine f_region Z fun Z => ?_
 refine s_runk tRjP Z 1 rfl rfl fun a Z => ?_
 refine hC Z H [(0, true)] rfl #[] fn_5_YRjP rfl rfl (fun D h => have q := c_law28_Parts hx1 h; q) fun vv a w1 D2 hr hF2 Z => ?_
 obtain ⟨rfl, I1, K⟩ := hr
 have H := (hF2 K).nf rfl
 refine s_runk tRjP Z 1 rfl rfl fun a Z => ?_
 refine s_end Z [0, 11] rfl fun Z => ?_
 refine p_then ?_
 refine f_cond Z rfl (fun hc1 => ?_) (fun hc1 => ?_)
 ·replace hF := ite_t hc1 hF
  refine wp_seq ?_
  obtain ⟨a0, hx2, hF⟩ := bnd_in hF
  refine f_region Z fun Z => ?_
  refine hC Z H [] rfl #[] fn_6_YRjP rfl rfl (fun D h => have q := c_law30_awake hx2 h; q) fun vv a w2 D2 hr hF2 Z => ?_
  obtain ⟨rfl, I2, K⟩ := hr
  have H := (hF2 K).nf rfl
  refine s_runk tRjP Z 1 rfl rfl fun a Z => ?_
  refine s_end Z [2] rfl fun Z => ?_
  refine p_then (wp_ret ?_)
  refine p_then_r ?_
  obtain rfl := some_in hF
  exact f_ret Z (run_results1 rfl Z rfl) ⟨rfl, I2, (H.sub [] rfl).eq rfl⟩
 ·replace hF := ite_f hc1 hF
  refine wp_skip ?_
  refine p_then (wp_seq ?_)
  obtain ⟨n0, hx3, hF⟩ := bnd_in hF
  refine f_region Z fun Z => ?_
  refine hC Z H [] rfl #[] fn_7_YRjP rfl rfl (fun D h => have q := c_rstate_New hx3 h; q) fun vv a w3 D2 hr hF2 Z => ?_
  obtain ⟨g1, rfl, I3, K⟩ := hr
  have H := (hF2 K).nf rfl
  refine s_runk tRjP Z 1 rfl rfl fun a Z => ?_
  refine s_end Z [0, 3] rfl fun Z => ?_
  refine pR Z fun Z => ?_
  refine sO Z (.agg #[vI 0, nS, vU 0, vU 0, nS]) rfl (Ob_build (vs := []) rfl rfl (by go_simp <;> rfl)) fun a Z => ?_
  refine hB Z H [vI 0, nS, vU 0, vU 0, nS] rfl rfl rfl rfl fun a w4 b1 H Z => ?_
  refine s_runk tRjP Z 1 rfl rfl fun a Z => ?_
  refine s_end Z [0, 3, 4] rfl fun Z => ?_
  refine p_then (wp_seq ?_)
  refine sR Z fun Z => ?_
  refine s_runk tRjP Z 1 rfl rfl fun a Z => ?_
  refine s_end Z [0, 3, 4, 5] rfl fun Z => ?_
  refine p_then (wp_block ?_)
  replace H := H.slNil NEMember
  replace H := H.slNil NEEntry
  replace H := H.sX (OEref30_State b1 (default : Eref30_State)) (nS, nS) [(2, false), (1, true), (0, true)] rfl rfl rfl
  refine f_iter hF (fun sg a' w' => match sg with | (i, s0, x) => Sl 77 [(0, v1_l), (3, pp g1 0), (4, pp b1 0), (5, vI i)] a' ∧ ∃ I2, Hf I D w I2 w' [OErstate_State g1 s0, OEref30_State b1 x, SlC NENote v1_l l]) ⟨Z.sub (ts := [0, 3, 4, 5]) rfl, ⟨I3, (H.sub [(3, false), (0, false), (2, true)] rfl).eq rfl⟩⟩ ?_
  rintro rc ⟨i, s0, x⟩ a w5 ⟨Z, I4, H⟩ hF
  unfold F_law30_RstatePlays_l1 at hF
  try dsimp only at hF
  refine wp_seq ?_
  refine sR Z fun Z => ?_
  refine s_runk tRjP Z 2 rfl rfl fun a Z => ?_
  refine sO Z (vI (ln l)) rfl (Ob_slen tRjP rfl rfl rfl (H.slshape 2 rfl)) fun a Z => ?_
  refine s_runk tRjP Z 2 rfl rfl fun a Z => ?_
  refine gO Z (vI i) rfl (wantB_t _) (.n 5 rfl .z) (fun hp => Ob_c tRjP rfl) fun a Z => ?_
  refine gO Z (vT (decide (i < 40))) rfl (wantB_t _) (.c 21 rfl id .z) (fun hp => Ob_c tRjP rfl) fun a Z => ?_
  refine sO Z (vT ((decide (i < (ln l))) && (decide (i < 40)))) rfl (Ob_pick rfl rfl rfl rfl (pick_and _ _)) fun a Z => ?_
  refine s_end Z [0, 3, 4, 5, 23] rfl fun Z => ?_
  refine p_then ?_
  refine f_cond Z rfl (fun hc2 => ?_) (fun hc2 => ?_)
  ·replace hF := ite_t hc2 hF
   refine wp_skip ?_
   refine p_then (wp_seq ?_)
   refine wp_block ?_
   refine wp_seq ?_
   obtain ⟨hg1, hF⟩ := chk_in hF
   obtain ⟨_, ⟨u1, u2, u3, rfl, L1, L2, L3⟩, H⟩ := H.elG 2 rfl (i) (NENote.dft _ _)
   replace H := H.addsl L1
   replace H := H.addsl L2
   replace H := H.addsl L3
   replace H : Hf I D w I4 w5 [SlC NEOp u3 ((((gi l i).entry).batch).ops), SlC Ni64 u2 ((gi l i).legit), SlC NEMember u1 (((gi l i).conf).members), AtG ((0 : Int) ≤ i ∧ i < (ln l)) (blkOf v1_l) (oofOf v1_l + (i).toNat * 18) (cENote (gi l i) u1 u2 u3), OErstate_State g1 s0, OEref30_State b1 x, SlC NENote v1_l l] := H
   obtain ⟨a0_2, hx4, hF⟩ := bnd_in hF
   obtain ⟨hg2, hF⟩ := chk_in hF
   obtain ⟨a0_3, hx5, hF⟩ := bnd_in hF
   obtain ⟨s0_2, hx6, hF⟩ := bnd_in hF
   refine f_regionL Z (by kernel_rfl) (by kernel_rfl) (by decide) (by decide) [5, 11, 16] [(0, 0, 0), (0, 0, 0), (0, 0, 0), (6, 0, 0), (14, 0, 0), (31, 0, 0), (0, 0, 1), (0, 0, 1), (0, 0, 1), (384, 0, 1), (896, 0, 1), (2047, 1, 1), (4095, 2, 2), (8191, 2, 2), (16383, 2, 2), (16383, 2, 2), (65535, 2, 2), (131071, 3, 3), (262143, 3, 3)] (by kernel_rfl) (fun jj vv => cond (Nat.blt jj 9) (cond (Nat.blt jj 4) (cond (Nat.blt jj 2) (cond (Nat.blt jj 1) (vv = pp g1 0) (vv = v1_l)) (cond (Nat.blt jj 3) (vv = vI i) (vv = .pointer (some ⟨blkOf v1_l, oofOf v1_l + (i).toNat * 18, none⟩)))) (cond (Nat.blt jj 6) (cond (Nat.blt jj 5) (vv = .agg (cENote (gi l i) u1 u2 u3).toArray) (vv = vI a0_2.1)) (cond (Nat.blt jj 7) (vv = pp b1 0) (cond (Nat.blt jj 8) (vv = v1_l) (vv = vI i))))) (cond (Nat.blt jj 14) (cond (Nat.blt jj 11) (cond (Nat.blt jj 10) (vv = .pointer (some ⟨blkOf v1_l, oofOf v1_l + (i).toNat * 18, none⟩)) (vv = .agg (cENote (gi l i) u1 u2 u3).toArray)) (cond (Nat.blt jj 12) (vv = vI a0_3.1) (cond (Nat.blt jj 13) (vv = vT (a0_2.1 != a0_3.1)) (vv = vT (a0_2.1 != a0_3.1))))) (cond (Nat.blt jj 16) (cond (Nat.blt jj 15) (vv = cond (!(a0_2.1 != a0_3.1)) (pp g1 0) undef) (vv = cond (!(a0_2.1 != a0_3.1)) (pp b1 0) undef)) (cond (Nat.blt jj 17) (vv = cond (!(a0_2.1 != a0_3.1)) (vI s0_2.1) undef) (cond (Nat.blt jj 18) (vv = cond (!(a0_2.1 != a0_3.1)) (vT (s0_2.1 == 0)) undef) (vv = vT ((a0_2.1 != a0_3.1) || (s0_2.1 == 0)))))))) (fun ss vals1 xw => match ss with | 0 => Gx I D w I4 w5 xw [SlC NEOp u3 ((((gi l i).entry).batch).ops), SlC Ni64 u2 ((gi l i).legit), SlC NEMember u1 (((gi l i).conf).members), AtG ((0 : Int) ≤ i ∧ i < (ln l)) (blkOf v1_l) (oofOf v1_l + (i).toNat * 18) (cENote (gi l i) u1 u2 u3), OErstate_State g1 s0, OEref30_State b1 x, SlC NENote v1_l l] | 1 => Gx I D w I4 w5 xw [OErstate_State g1 a0_2.2, SlC NEOp u3 ((((gi l i).entry).batch).ops), SlC Ni64 u2 ((gi l i).legit), SlC NEMember u1 (((gi l i).conf).members), AtG ((0 : Int) ≤ i ∧ i < (ln l)) (blkOf v1_l) (oofOf v1_l + (i).toNat * 18) (cENote (gi l i) u1 u2 u3), OEref30_State b1 x, SlC NENote v1_l l] | 2 => Gx I D w I4 w5 xw [OEref30_State b1 a0_3.2, OErstate_State g1 a0_2.2, SlC NEOp u3 ((((gi l i).entry).batch).ops), SlC Ni64 u2 ((gi l i).legit), SlC NEMember u1 (((gi l i).conf).members), AtG ((0 : Int) ≤ i ∧ i < (ln l)) (blkOf v1_l) (oofOf v1_l + (i).toNat * 18) (cENote (gi l i) u1 u2 u3), SlC NENote v1_l l] | _ => Gx I D w I4 w5 xw [OErstate_State g1 (cond (!(a0_2.1 != a0_3.1)) s0_2.2 a0_2.2), OEref30_State b1 a0_3.2, SlC NEOp u3 ((((gi l i).entry).batch).ops), SlC Ni64 u2 ((gi l i).legit), SlC NEMember u1 (((gi l i).conf).members), AtG ((0 : Int) ≤ i ∧ i < (ln l)) (blkOf v1_l) (oofOf v1_l + (i).toNat * 18) (cENote (gi l i) u1 u2 u3), SlC NENote v1_l l]) (fun _ => Gx.start H) ?_ ?_
   ·intro fr hfr hfe
    refine .cons (fun ss hlo hhi vals1 xw hG hV => ?_) ?_
    ·obtain rfl : ss = 0 := Nat.le_antisymm hhi hlo
     rw [← hfe]
     have hS := (hfr vals1).sub (ts := [3]) rfl
     exact L_val hS rfl (Ob_c tRjP rfl) ⟨rfl, hG⟩
    refine .cons (fun ss hlo hhi vals1 xw hG hV => ?_) ?_
    ·obtain rfl : ss = 0 := Nat.le_antisymm hhi hlo
     rw [← hfe]
     have hS := (hfr vals1).sub (ts := [0]) rfl
     exact L_val hS rfl (Ob_c tRjP rfl) ⟨rfl, hG⟩
    refine .cons (fun ss hlo hhi vals1 xw hG hV => ?_) ?_
    ·obtain rfl : ss = 0 := Nat.le_antisymm hhi hlo
     rw [← hfe]
     have hS := (hfr vals1).sub (ts := [5]) rfl
     exact L_val hS rfl (Ob_c tRjP rfl) ⟨rfl, hG⟩
    refine .cons (fun ss hlo hhi vals1 xw hG hV => ?_) ?_
    ·obtain rfl : ss = 0 := Nat.le_antisymm hhi hlo
     rw [← hfe]
     have hS := (hfr vals1).sub (ts := [27, 28]) rfl
     replace hS := hS.conv (t := 27) rfl (show (vals1 1) = v1_l from hV 1 (by decide))
     replace hS := hS.conv (t := 28) rfl (show (vals1 2) = vI i from hV 2 (by decide))
     obtain ⟨I2, hI2, H⟩ := Gx.ex hG
     exact L_val hS rfl (Ob_sidx tRjP rfl rfl rfl rfl (slPl (H.sl 6 rfl) hg1) hg1) ⟨rfl, hG⟩
    refine .cons (fun ss hlo hhi vals1 xw hG hV => ?_) ?_
    ·obtain rfl : ss = 0 := Nat.le_antisymm hhi hlo
     rw [← hfe]
     have hS := (hfr vals1).sub (ts := [29]) rfl
     replace hS := hS.conv (t := 29) rfl (show (vals1 3) = .pointer (some ⟨blkOf v1_l, oofOf v1_l + (i).toNat * 18, none⟩) from hV 3 (by decide))
     obtain ⟨I2, hI2, H⟩ := Gx.ex hG
     exact L_val hS rfl (oA tRjP rfl rfl ((H.atg 3 rfl hg1).part 0 rfl)) ⟨rfl, hG⟩
    refine .cons (fun ss hlo hhi vals1 xw hG hV => ?_) ?_
    ·obtain rfl : ss = 0 := Nat.le_antisymm hhi hlo
     rw [← hfe]
     have hS := (hfr vals1).sub (ts := [26, 30]) rfl
     replace hS := hS.conv (t := 26) rfl (show (vals1 0) = pp g1 0 from hV 0 (by decide))
     replace hS := hS.conv (t := 30) rfl (show (vals1 4) = .agg (cENote (gi l i) u1 u2 u3).toArray from hV 4 (by decide))
     obtain ⟨I2, hI2, H⟩ := Gx.ex hG
     refine L_hcall H (js := [(4, false), (2, true), (1, true), (0, true)]) rfl (caps := #[]) hS fn_8_YRjP rfl rfl rfl rfl rfl (fun D1 hS => have hq := c_rstate_State_Apply hx4 hS; hq) fun _ yw D1 hr hF2 => ?_
     obtain ⟨rfl, I3, K⟩ := hr
     obtain ⟨hK, H2⟩ := hF2 K
     exact ⟨rfl, Gx.go hG hI2 hK K.imm H2⟩
    refine .cons (fun ss hlo hhi vals1 xw hG hV => ?_) ?_
    ·obtain rfl | rfl : ss = 0 ∨ ss = 1 := st1 hlo hhi
     all_goals
     ·rw [← hfe]
      have hS := (hfr vals1).sub (ts := [4]) rfl
      exact L_val hS rfl (Ob_c tRjP rfl) ⟨rfl, hG⟩
    refine .cons (fun ss hlo hhi vals1 xw hG hV => ?_) ?_
    ·obtain rfl | rfl : ss = 0 ∨ ss = 1 := st1 hlo hhi
     all_goals
     ·rw [← hfe]
      have hS := (hfr vals1).sub (ts := [0]) rfl
      exact L_val hS rfl (Ob_c tRjP rfl) ⟨rfl, hG⟩
    refine .cons (fun ss hlo hhi vals1 xw hG hV => ?_) ?_
    ·obtain rfl | rfl : ss = 0 ∨ ss = 1 := st1 hlo hhi
     all_goals
     ·rw [← hfe]
      have hS := (hfr vals1).sub (ts := [5]) rfl
      exact L_val hS rfl (Ob_c tRjP rfl) ⟨rfl, hG⟩
    refine .cons (fun ss hlo hhi vals1 xw hG hV => ?_) ?_
    ·obtain rfl | rfl : ss = 0 ∨ ss = 1 := st1 hlo hhi
     all_goals
     ·rw [← hfe]
      have hS := (hfr vals1).sub (ts := [33, 34]) rfl
      replace hS := hS.conv (t := 33) rfl (show (vals1 7) = v1_l from hV 7 (by decide))
      replace hS := hS.conv (t := 34) rfl (show (vals1 8) = vI i from hV 8 (by decide))
      obtain ⟨I2, hI2, H⟩ := Gx.ex hG
      exact L_val hS rfl (Ob_sidx tRjP rfl rfl rfl rfl (slPl (H.sl 6 rfl) hg2) hg2) ⟨rfl, hG⟩
    refine .cons (fun ss hlo hhi vals1 xw hG hV => ?_) ?_
    ·obtain rfl | rfl : ss = 0 ∨ ss = 1 := st1 hlo hhi
     ·rw [← hfe]
      have hS := (hfr vals1).sub (ts := [35]) rfl
      replace hS := hS.conv (t := 35) rfl (show (vals1 9) = .pointer (some ⟨blkOf v1_l, oofOf v1_l + (i).toNat * 18, none⟩) from hV 9 (by decide))
      obtain ⟨I2, hI2, H⟩ := Gx.ex hG
      exact L_val hS rfl (oA tRjP rfl rfl ((H.atg 3 rfl hg2).part 0 rfl)) ⟨rfl, hG⟩
     ·rw [← hfe]
      have hS := (hfr vals1).sub (ts := [35]) rfl
      replace hS := hS.conv (t := 35) rfl (show (vals1 9) = .pointer (some ⟨blkOf v1_l, oofOf v1_l + (i).toNat * 18, none⟩) from hV 9 (by decide))
      obtain ⟨I2, hI2, H⟩ := Gx.ex hG
      exact L_val hS rfl (oA tRjP rfl rfl ((H.atg 4 rfl hg2).part 0 rfl)) ⟨rfl, hG⟩
    refine .cons (fun ss hlo hhi vals1 xw hG hV => ?_) ?_
    ·obtain rfl : ss = 1 := Nat.le_antisymm hhi hlo
     rw [← hfe]
     have hS := (hfr vals1).sub (ts := [32, 36]) rfl
     replace hS := hS.conv (t := 32) rfl (show (vals1 6) = pp b1 0 from hV 6 (by decide))
     replace hS := hS.conv (t := 36) rfl (show (vals1 10) = .agg (cENote (gi l i) u1 u2 u3).toArray from hV 10 (by decide))
     obtain ⟨I2, hI2, H⟩ := Gx.ex hG
     refine L_hcall H (js := [(5, false), (3, true), (2, true), (1, true)]) rfl (caps := #[]) hS fn_9_YRjP rfl rfl rfl rfl rfl (fun D1 hS => have hq := c_ref30_State_Apply hx5 hS; hq) fun _ yw D1 hr hF2 => ?_
     obtain ⟨rfl, I3, K⟩ := hr
     obtain ⟨hK, H2⟩ := hF2 K
     exact ⟨rfl, Gx.go hG hI2 hK K.imm H2⟩
    refine .cons (fun ss hlo hhi vals1 xw hG hV => ?_) ?_
    ·obtain rfl : ss = 2 := Nat.le_antisymm hhi hlo
     rw [← hfe]
     have hS := (hfr vals1).sub (ts := [31, 37]) rfl
     replace hS := hS.conv (t := 31) rfl (show (vals1 5) = vI a0_2.1 from hV 5 (by decide))
     replace hS := hS.conv (t := 37) rfl (show (vals1 11) = vI a0_3.1 from hV 11 (by decide))
     exact L_val hS rfl (Ob_c tRjP rfl) ⟨rfl, hG⟩
    refine .cons (fun ss hlo hhi vals1 xw hG hV => ?_) ?_
    ·obtain rfl : ss = 2 := Nat.le_antisymm hhi hlo
     rw [← hfe]
     have hS := (hfr vals1).sub (ts := [38]) rfl
     replace hS := hS.conv (t := 38) rfl (show (vals1 12) = vT (a0_2.1 != a0_3.1) from hV 12 (by decide))
     exact L_val hS rfl (Ob_c tRjP rfl) ⟨rfl, hG⟩
    refine .cons (fun ss hlo hhi vals1 xw hG hV => ?_) ?_
    ·obtain rfl : ss = 2 := Nat.le_antisymm hhi hlo
     rw [← hfe]
     have hS := (hfr vals1).sub (ts := [39, 3]) rfl
     replace hS := hS.conv (t := 39) rfl (show (vals1 13) = vT (a0_2.1 != a0_3.1) from hV 13 (by decide))
     refine L_gw (p := (!(a0_2.1 != a0_3.1))) hS rfl rfl rfl (wantB_f _) (fun hp => ?_) (fun hp => ⟨by rw [hp]; rfl, hG⟩)
     exact L_val hS rfl (Ob_c tRjP rfl) ⟨(by rw [hp]; rfl), hG⟩
    refine .cons (fun ss hlo hhi vals1 xw hG hV => ?_) ?_
    ·obtain rfl : ss = 2 := Nat.le_antisymm hhi hlo
     rw [← hfe]
     have hS := (hfr vals1).sub (ts := [39, 4]) rfl
     replace hS := hS.conv (t := 39) rfl (show (vals1 13) = vT (a0_2.1 != a0_3.1) from hV 13 (by decide))
     refine L_gw (p := (!(a0_2.1 != a0_3.1))) hS rfl rfl rfl (wantB_f _) (fun hp => ?_) (fun hp => ⟨by rw [hp]; rfl, hG⟩)
     exact L_val hS rfl (Ob_c tRjP rfl) ⟨(by rw [hp]; rfl), hG⟩
    refine .cons (fun ss hlo hhi vals1 xw hG hV => ?_) ?_
    ·obtain rfl : ss = 2 := Nat.le_antisymm hhi hlo
     rw [← hfe]
     have hS := (hfr vals1).sub (ts := [40, 41, 39]) rfl
     replace hS := hS.conv (t := 40) rfl (show (vals1 14) = cond (!(a0_2.1 != a0_3.1)) (pp g1 0) undef from hV 14 (by decide))
     replace hS := hS.conv (t := 41) rfl (show (vals1 15) = cond (!(a0_2.1 != a0_3.1)) (pp b1 0) undef from hV 15 (by decide))
     replace hS := hS.conv (t := 39) rfl (show (vals1 13) = vT (a0_2.1 != a0_3.1) from hV 13 (by decide))
     refine L_gw (p := (!(a0_2.1 != a0_3.1))) hS rfl rfl rfl (wantB_f _) (fun hp => ?_) (fun hp => ⟨by rw [hp]; rfl, ?_⟩)
     ·obtain ⟨I2, hI2, H⟩ := Gx.ex hG
      replace hS := hS.conv (t := 40) rfl (cond_t hp)
      replace hS := hS.conv (t := 41) rfl (cond_t hp)
      refine L_hcall H (js := [(1, false), (0, false)]) rfl (caps := #[]) hS fn_10_YRjP rfl rfl rfl rfl rfl (fun D1 hS => have hq := c_law30_Same (gif_in hx6 hp) hS; hq) fun _ yw D1 hr hF2 => ?_
      obtain ⟨rfl, I3, K⟩ := hr
      obtain ⟨hK, H2⟩ := hF2 K
      exact ⟨by rw [hp]; rfl, by first | (rw [hp] at H2 ⊢; exact Gx.go hG hI2 hK K.imm H2) | (rw [hp]; exact Gx.go hG hI2 hK K.imm H2) | exact Gx.go hG hI2 hK K.imm H2⟩
     ·(try rw [hp]); obtain ⟨I2, hI2, H⟩ := Gx.ex hG; (try rw [hp] at H); exact Gx.go hG hI2 (Keep.refl _ _) (fun _ h => h) (H.sub [(1, false), (0, false), (0, true), (1, true), (2, true), (3, true), (4, true)] rfl)
    refine .cons (fun ss hlo hhi vals1 xw hG hV => ?_) ?_
    ·obtain rfl : ss = 3 := Nat.le_antisymm hhi hlo
     rw [← hfe]
     have hS := (hfr vals1).sub (ts := [42, 39]) rfl
     replace hS := hS.conv (t := 42) rfl (show (vals1 16) = cond (!(a0_2.1 != a0_3.1)) (vI s0_2.1) undef from hV 16 (by decide))
     replace hS := hS.conv (t := 39) rfl (show (vals1 13) = vT (a0_2.1 != a0_3.1) from hV 13 (by decide))
     refine L_gw (p := (!(a0_2.1 != a0_3.1))) hS rfl rfl rfl (wantB_f _) (fun hp => ?_) (fun hp => ⟨by rw [hp]; rfl, hG⟩)
     replace hS := hS.conv (t := 42) rfl (cond_t hp)
     exact L_val hS rfl (Ob_c tRjP rfl) ⟨(by rw [hp]; rfl), hG⟩
    refine .cons (fun ss hlo hhi vals1 xw hG hV => ?_) ?_
    ·obtain rfl : ss = 3 := Nat.le_antisymm hhi hlo
     rw [← hfe]
     have hS := (hfr vals1).sub (ts := [39, 43]) rfl
     replace hS := hS.conv (t := 39) rfl (show (vals1 13) = vT (a0_2.1 != a0_3.1) from hV 13 (by decide))
     replace hS := hS.conv (t := 43) rfl (show (vals1 17) = cond (!(a0_2.1 != a0_3.1)) (vT (s0_2.1 == 0)) undef from hV 17 (by decide))
     exact L_val hS rfl (Ob_pick rfl rfl rfl rfl (pick_or _ _)) ⟨rfl, hG⟩
    exact .nil
   ·intro vals1 a w6 Z hG hV
    replace Z := Z.sub (ts := [0, 3, 4, 5, 44]) (S' := [(0, v1_l), (3, pp g1 0), (4, pp b1 0), (5, vI i), (44, vals1 18)]) rfl
    replace Z := Z.conv (t := 44) rfl (show (vals1 18) = vT ((a0_2.1 != a0_3.1) || (s0_2.1 == 0)) from hV 18 (by decide))
    obtain ⟨I5, _, H⟩ := Gx.ex hG
    clear hG hV
    replace Z := Z.sub (ts := [0, 3, 4, 5, 44]) rfl
    replace H : Hf I D w I5 w6 [OErstate_State g1 (cond (!(a0_2.1 != a0_3.1)) s0_2.2 a0_2.2), OEref30_State b1 a0_3.2, SlC NEOp u3 ((((gi l i).entry).batch).ops), SlC Ni64 u2 ((gi l i).legit), SlC NEMember u1 (((gi l i).conf).members), AtG ((0 : Int) ≤ i ∧ i < (ln l)) (blkOf v1_l) (oofOf v1_l + (i).toNat * 18) (cENote (gi l i) u1 u2 u3), SlC NENote v1_l l] := H
    refine p_then ?_
    refine f_cond Z rfl (fun hc3 => ?_) (fun hc3 => ?_)
    ·replace hF := ite_t hc3 hF
     refine sR Z fun Z => ?_
     refine s_runk tRjP Z 1 rfl rfl fun a Z => ?_
     refine s_end Z [2] rfl fun Z => ?_
     refine p_then (wp_ret ?_)
     refine p_blk_r ?_
     refine p_then_r ?_
     refine p_then_r ?_
     refine p_blk_r ?_
     refine p_then_r ?_
     obtain rfl := some_in hF
     exact f_ret Z (run_results1 rfl Z rfl) ⟨rfl, I5, (H.sub [] rfl).eq rfl⟩
    ·replace hF := ite_f hc3 hF
     refine wp_skip ?_
     refine p_blk ?_
     refine p_then ?_
     obtain ⟨hg3, hF⟩ := chk_in hF
     refine f_region Z fun Z => ?_
     refine s_runk tRjP Z 1 rfl rfl fun a Z => ?_
     refine sO Z (vI (i + 1)) rfl (Ob_add rfl rfl rfl (wrI hg3)) fun a Z => ?_
     refine s_runk tRjP Z 1 rfl rfl fun a Z => ?_
     refine s_end Z [0, 3, 4, 5] rfl fun Z => ?_
     refine p_then ?_
     exact ⟨(i + 1, (cond (!(a0_2.1 != a0_3.1)) s0_2.2 a0_2.2), a0_3.2), ⟨Z.sub (ts := [0, 3, 4, 5]) rfl, ⟨I5, (H.sub [(0, false), (0, false), (4, true)] rfl).eq rfl⟩⟩, hF⟩
  ·replace hF := ite_f hc2 hF
   refine wp_exit ?_
   refine p_then_x ?_
   refine p_then_x ?_
   refine f_exit_here ?_
   refine p_then (wp_seq ?_)
   obtain ⟨n0_2, hx7, hF⟩ := bnd_in hF
   refine f_region Z fun Z => ?_
   refine s_runk tRjP Z 1 rfl rfl fun a Z => ?_
   refine hC Z H [(0, false)] rfl #[] fn_11_YRjP rfl rfl (fun D h => have q := c_rstate_State_Notes hx7 h; q) fun vv a w7 D2 hr hF2 Z => ?_
   obtain ⟨q1, hvv, I6, K⟩ := hr; obtain rfl := hvv.symm
   have H := (hF2 K).nf rfl
   refine s_runk tRjP Z 1 rfl rfl fun a Z => ?_
   refine s_end Z [4, 6] rfl fun Z => ?_
   refine p_then (wp_seq ?_)
   obtain ⟨n0_3, hx8, hF⟩ := bnd_in hF
   refine f_region Z fun Z => ?_
   refine s_runk tRjP Z 1 rfl rfl fun a Z => ?_
   refine hC Z H [(2, false)] rfl #[] fn_12_YRjP rfl rfl (fun D h => have q := c_ref30_State_Notes hx8 h; q) fun vv a w8 D2 hr hF2 Z => ?_
   obtain ⟨q2, hvv, I7, K⟩ := hr; obtain rfl := hvv.symm
   have H := (hF2 K).nf rfl
   refine s_runk tRjP Z 1 rfl rfl fun a Z => ?_
   refine s_end Z [6, 7] rfl fun Z => ?_
   refine p_then (wp_seq ?_)
   refine sR Z fun Z => ?_
   refine s_runk tRjP Z 1 rfl rfl fun a Z => ?_
   refine sO Z (vI (ln n0_2.1)) rfl (Ob_slen tRjP rfl rfl rfl (H.owshape 3 rfl)) fun a Z => ?_
   refine s_runk tRjP Z 1 rfl rfl fun a Z => ?_
   refine sO Z (vI (ln n0_3.1)) rfl (Ob_slen tRjP rfl rfl rfl (H.slshape 1 rfl)) fun a Z => ?_
   refine s_runk tRjP Z 1 rfl rfl fun a Z => ?_
   refine s_end Z [6, 7, 53] rfl fun Z => ?_
   refine p_then ?_
   refine f_cond Z rfl (fun hc4 => ?_) (fun hc4 => ?_)
   ·replace hF := ite_t hc4 hF
    refine sR Z fun Z => ?_
    refine s_runk tRjP Z 1 rfl rfl fun a Z => ?_
    refine s_end Z [2] rfl fun Z => ?_
    refine p_then (wp_ret ?_)
    refine p_then_r ?_
    obtain rfl := some_in hF
    exact f_ret Z (run_results1 rfl Z rfl) ⟨rfl, I7, (H.sub [] rfl).eq rfl⟩
   ·replace hF := ite_f hc4 hF
    refine wp_skip ?_
    refine p_then (wp_seq ?_)
    refine sR Z fun Z => ?_
    refine s_runk tRjP Z 1 rfl rfl fun a Z => ?_
    refine s_end Z [6, 7, 8] rfl fun Z => ?_
    refine p_then (wp_block ?_)
    refine f_iter hF (fun sg a' w' => match sg with | i_2 => Sl 77 [(6, q1), (7, q2), (8, vI i_2)] a' ∧ ∃ I2, Hf I D w I2 w' [SlC NENote q2 n0_3.1, OwC NENote 50 q1 n0_2.1]) ⟨Z.sub (ts := [6, 7, 8]) rfl, ⟨I7, (H.sub [(1, true), (3, false)] rfl).eq rfl⟩⟩ ?_
    rintro rc_2 i_2 a w9 ⟨Z, I8, H⟩ hF
    unfold F_law30_RstatePlays_l2 at hF
    try dsimp only at hF
    refine wp_seq ?_
    refine sR Z fun Z => ?_
    refine s_runk tRjP Z 2 rfl rfl fun a Z => ?_
    refine sO Z (vI (ln n0_2.1)) rfl (Ob_slen tRjP rfl rfl rfl (H.owshape 1 rfl)) fun a Z => ?_
    refine s_runk tRjP Z 2 rfl rfl fun a Z => ?_
    refine gO Z (vI i_2) rfl (wantB_t _) (.n 8 rfl .z) (fun hp => Ob_c tRjP rfl) fun a Z => ?_
    refine gO Z q2 rfl (wantB_t _) (.n 7 rfl .z) (fun hp => Ob_c tRjP rfl) fun a Z => ?_
    refine gO Z (vI (ln n0_3.1)) rfl (wantB_t _) (.c 60 rfl id .z) (fun hp => Ob_slen tRjP rfl rfl rfl (H.slshape 0 rfl)) fun a Z => ?_
    refine gO Z (vT (decide (i_2 < (ln n0_3.1)))) rfl (wantB_t _) (.c 59 rfl id (.c 61 rfl id .z)) (fun hp => Ob_c tRjP rfl) fun a Z => ?_
    refine sO Z (vT ((decide (i_2 < (ln n0_2.1))) && (decide (i_2 < (ln n0_3.1))))) rfl (Ob_pick rfl rfl rfl rfl (pick_and _ _)) fun a Z => ?_
    refine s_end Z [6, 7, 8, 63] rfl fun Z => ?_
    refine p_then ?_
    refine f_cond Z rfl (fun hc5 => ?_) (fun hc5 => ?_)
    ·replace hF := ite_t hc5 hF
     refine wp_skip ?_
     refine p_then (wp_seq ?_)
     refine wp_block ?_
     refine wp_seq ?_
     obtain ⟨hg4, hF⟩ := chk_in hF
     obtain ⟨_, ⟨u4, u5, u6, rfl, L4, L5, L6⟩, hat1⟩ := H.owElG 1 rfl (i_2) (NENote.dft _ _)
     replace H : Hf I D w I8 w9 [SlC NEMember u4 (((gi n0_2.1 i_2).conf).members), SlC NENote q2 n0_3.1, OwC NENote 50 q1 n0_2.1] := H.addsl L4
     replace H : Hf I D w I8 w9 [SlC Ni64 u5 ((gi n0_2.1 i_2).legit), SlC NEMember u4 (((gi n0_2.1 i_2).conf).members), SlC NENote q2 n0_3.1, OwC NENote 50 q1 n0_2.1] := H.addsl L5
     replace H : Hf I D w I8 w9 [SlC NEOp u6 ((((gi n0_2.1 i_2).entry).batch).ops), SlC Ni64 u5 ((gi n0_2.1 i_2).legit), SlC NEMember u4 (((gi n0_2.1 i_2).conf).members), SlC NENote q2 n0_3.1, OwC NENote 50 q1 n0_2.1] := H.addsl L6
     obtain ⟨hg5, hF⟩ := chk_in hF
     obtain ⟨_, ⟨u7, u8, u9, rfl, L7, L8, L9⟩, H⟩ := H.elG 3 rfl (i_2) (NENote.dft _ _)
     replace H := H.addsl L7
     replace H := H.addsl L8
     replace H := H.addsl L9
     replace H : Hf I D w I8 w9 [SlC NEOp u9 ((((gi n0_3.1 i_2).entry).batch).ops), SlC Ni64 u8 ((gi n0_3.1 i_2).legit), SlC NEMember u7 (((gi n0_3.1 i_2).conf).members), AtG ((0 : Int) ≤ i_2 ∧ i_2 < (ln n0_3.1)) (blkOf q2) (oofOf q2 + (i_2).toNat * 18) (cENote (gi n0_3.1 i_2) u7 u8 u9), SlC NEOp u6 ((((gi n0_2.1 i_2).entry).batch).ops), SlC Ni64 u5 ((gi n0_2.1 i_2).legit), SlC NEMember u4 (((gi n0_2.1 i_2).conf).members), SlC NENote q2 n0_3.1, OwC NENote 50 q1 n0_2.1] := H
     obtain ⟨s0_3, hx9, hF⟩ := bnd_in hF
     refine f_quietd (by kernel_rfl) (by kernel_rfl) Z fun Z => ?_
     refine q_runk tRjP Z 2 rfl rfl fun a Z => ?_
     refine qO Z (.pointer (some ⟨blkOf q1, oofOf q1 + (i_2).toNat * 18, none⟩)) rfl (fun _ hw => Ob_sidx tRjP rfl rfl rfl rfl (slPl ((H.blw hw).owA 8 rfl) hg4) hg4) fun a Z => ?_
     refine qO Z (.agg (cENote (gi n0_2.1 i_2) u4 u5 u6).toArray) rfl (fun _ hw => oA tRjP rfl rfl (((hat1 hg4).blw hw).part 0 rfl)) fun a Z => ?_
     refine q_runk tRjP Z 2 rfl rfl fun a Z => ?_
     refine qO Z (.pointer (some ⟨blkOf q2, oofOf q2 + (i_2).toNat * 18, none⟩)) rfl (fun _ hw => Ob_sidx tRjP rfl rfl rfl rfl (slPl ((H.blw hw).sl 7 rfl) hg5) hg5) fun a Z => ?_
     refine qO Z (.agg (cENote (gi n0_3.1 i_2) u7 u8 u9).toArray) rfl (fun _ hw => oA tRjP rfl rfl (((H.blw hw).atg 3 rfl hg5).part 0 rfl)) fun a Z => ?_
     refine q_call Z (caps := #[]) fn_13_YRjP rfl rfl rfl rfl rfl (by decide) rfl rfl (fun _ hw => (have hq := c_ref10_Same hx9 (((H.blw hw)).pick0 (js := [(6, true), (5, true), (4, true), (2, true), (1, true), (0, true)]) rfl rfl); plainC hq)) fun a Z => ?_
     refine q_runk tRjP Z 1 rfl rfl fun a Z => ?_
     refine q_end Z [6, 7, 8, 75] rfl fun w10 hb Z => ?_
     replace H := H.blw hb
     clear hb
     refine p_then ?_
     refine f_cond Z rfl (fun hc6 => ?_) (fun hc6 => ?_)
     ·replace hF := ite_t hc6 hF
      refine sR Z fun Z => ?_
      refine s_runk tRjP Z 1 rfl rfl fun a Z => ?_
      refine s_end Z [2] rfl fun Z => ?_
      refine p_then (wp_ret ?_)
      refine p_blk_r ?_
      refine p_then_r ?_
      refine p_then_r ?_
      refine p_blk_r ?_
      refine p_then_r ?_
      obtain rfl := some_in hF
      exact f_ret Z (run_results1 rfl Z rfl) ⟨rfl, I8, (H.sub [] rfl).eq rfl⟩
     ·replace hF := ite_f hc6 hF
      refine wp_skip ?_
      refine p_blk ?_
      refine p_then ?_
      obtain ⟨hg6, hF⟩ := chk_in hF
      refine f_region Z fun Z => ?_
      refine s_runk tRjP Z 1 rfl rfl fun a Z => ?_
      refine sO Z (vI (i_2 + 1)) rfl (Ob_add rfl rfl rfl (wrI hg6)) fun a Z => ?_
      refine s_runk tRjP Z 1 rfl rfl fun a Z => ?_
      refine s_end Z [6, 7, 8] rfl fun Z => ?_
      refine p_then ?_
      exact ⟨(i_2 + 1), ⟨Z.sub (ts := [6, 7, 8]) rfl, ⟨I8, (H.sub [(7, true), (8, false)] rfl).eq rfl⟩⟩, hF⟩
    ·replace hF := ite_f hc5 hF
     refine wp_exit ?_
     refine p_then_x ?_
     refine p_then_x ?_
     refine f_exit_here ?_
     refine p_then (wp_seq ?_)
     obtain ⟨a0_4, hx10, hF⟩ := bnd_in hF
     refine f_region Z fun Z => ?_
     refine hC Z H [] rfl #[] fn_6_YRjP rfl rfl (fun D h => have q := c_law30_awake hx10 h; q) fun vv a w11 D2 hr hF2 Z => ?_
     obtain ⟨rfl, I9, K⟩ := hr
     have H := (hF2 K).nf rfl
     refine s_runk tRjP Z 1 rfl rfl fun a Z => ?_
     refine s_end Z [2] rfl fun Z => ?_
     refine p_then (wp_ret ?_)
     obtain rfl := some_in hF
     exact f_ret Z (run_results1 rfl Z rfl) ⟨rfl, I9, (H.sub [] rfl).eq rfl⟩

theorem awakeP : F_law30_awake = some true := by kernel_rfl

end Go.Proofs.YtglfajjcgbfehaaGreat
