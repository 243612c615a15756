/- What a replica knows: the law RstateFeeds walked. -/
import Derived.Test.YtglfajjcgbfehaaYRfW
namespace Go.Proofs.Ytglfajjcgbfehaa
open Go.RowKit
def tRfWFL : TabL := ⟨[(38914, 2), (40960, 0), (40961, 3), (57345, 1)], [], [], [(22, (46, 18)), (48, (40, 4))], [(27, (1, false)), (36, (1, false)), (46, (18, true)), (56, (2, true))]⟩

def tRfWF : Tab Try.prog := ⟨tRfWFL, by kernel_rfl⟩

theorem fn_6_YRfWF : IsFn Try.prog 6 := ⟨_, Try.func6, by kernel_rfl, by kernel_rfl⟩

theorem fn_7_YRfWF : IsFn Try.prog 7 := ⟨_, Try.func7, by kernel_rfl, by kernel_rfl⟩

theorem fn_8_YRfWF : IsFn Try.prog 8 := ⟨_, Try.func8, by kernel_rfl, by kernel_rfl⟩

theorem fn_11_YRfWF : IsFn Try.prog 11 := ⟨_, Try.func11, by kernel_rfl, by kernel_rfl⟩

theorem fn_13_YRfWF : IsFn Try.prog 13 := ⟨_, Try.func13, by kernel_rfl, by kernel_rfl⟩

theorem fn_14_YRfWF : IsFn Try.prog 14 := ⟨_, Try.func14, by kernel_rfl, by kernel_rfl⟩

theorem fn_15_YRfWF : IsFn Try.prog 15 := ⟨_, Try.func15, by kernel_rfl, by kernel_rfl⟩

theorem fn_16_YRfWF : IsFn Try.prog 16 := ⟨_, Try.func16, by kernel_rfl, by kernel_rfl⟩

theorem fn_17_YRfWF : IsFn Try.prog 17 := ⟨_, Try.func17, by kernel_rfl, by kernel_rfl⟩

theorem fn_18_YRfWF : IsFn Try.prog 18 := ⟨_, Try.func18, by kernel_rfl, by kernel_rfl⟩

theorem fn_19_YRfWF : IsFn Try.prog 19 := ⟨_, Try.func19, by kernel_rfl, by kernel_rfl⟩

theorem fn_20_YRfWF : IsFn Try.prog 20 := ⟨_, Try.func20, by kernel_rfl, by kernel_rfl⟩

theorem fn_21_YRfWF : IsFn Try.prog 21 := ⟨_, Try.func21, by kernel_rfl, by kernel_rfl⟩

theorem fn_22_YRfWF : IsFn Try.prog 22 := ⟨_, Try.func22, by kernel_rfl, by kernel_rfl⟩

theorem fn_23_YRfWF : IsFn Try.prog 23 := ⟨_, Try.func23, by kernel_rfl, by kernel_rfl⟩

def F_law30_RstateFeeds_k3 (i_2 : Int) (rc_2 : ((List EPair) × Int × Eref16_Store) → Option Bool) (want_2 : List EPair) (x_2 : Eref16_Store) : Option Bool := chk (inI (i_2 + 1)) (rc_2 (want_2, i_2 + 1, x_2))

def F_law30_RstateFeeds_l2 (t : Int) (f_2 : Int × Erstate_State × Emvcc_Store) (a0_3 : (List EEntry) × Erstate_State) (rc_2 : ((List EPair) × Int × Eref16_Store) → Option Bool) (sg : (List EPair) × Int × Eref16_Store) : Option Bool := match sg with | (want, i_2, x) => if ((decide (i_2 < (a0_3.1.length : Int))) && (decide (i_2 < f_2.1))) = true then (chk ((0 : Int) ≤ i_2 ∧ i_2 < (a0_3.1.length : Int)) (chk ((0 : Int) ≤ i_2 ∧ i_2 < (a0_3.1.length : Int)) ((F_ref16_Store_Put x ((a0_3.1.getD (i_2).toNat default).ts) (((a0_3.1.getD (i_2).toNat default).batch).ops)).bind fun p_2 => (chk ((0 : Int) ≤ i_2 ∧ i_2 < (a0_3.1.length : Int)) (if (decide ((a0_3.1.getD (i_2).toNat default).ts ≤ t)) = true then (chk ((0 : Int) ≤ i_2 ∧ i_2 < (a0_3.1.length : Int)) ((F_ref06_Over want (((a0_3.1.getD (i_2).toNat default).batch).ops)).bind fun o => (F_law30_RstateFeeds_k3 i_2 rc_2 o p_2.2))) else (F_law30_RstateFeeds_k3 i_2 rc_2 want p_2.2)))))) else ((F_mvcc_Store_Scan f_2.2.2 ⟨#[]⟩ ⟨#[]⟩ t 1000).bind fun s0_2 => ((F_rstate_State_Stamped a0_3.2).bind fun s0_3 => ((gif (f_2.1 == s0_3.1) (F_ref06_SamePairs s0_2.1 want) default).bind fun s0_4 => ((gif (((f_2.1 == s0_3.1) && s0_4) && (!s0_2.2.1)) (F_mvcc_Store_Last s0_2.2.2) default).bind fun l_2 => ((gif ((((f_2.1 == s0_3.1) && s0_4) && (!s0_2.2.1)) && (l_2 == x.last)) (F_mvcc_Store_Cells s0_2.2.2) default).bind fun c => ((gif ((((f_2.1 == s0_3.1) && s0_4) && (!s0_2.2.1)) && (l_2 == x.last)) (F_ref16_Store_Cells x) default).bind fun c_2 => ((gif (((((f_2.1 == s0_3.1) && s0_4) && (!s0_2.2.1)) && (l_2 == x.last)) && (c == c_2)) (F_law30_awake) default).bind fun a0_4 => (some ((((((f_2.1 == s0_3.1) && s0_4) && (!s0_2.2.1)) && (l_2 == x.last)) && (c == c_2)) && a0_4)))))))))

def F_law30_RstateFeeds_l1 (l : List ENote) (cut : Int) (t : Int) (rc : (Int × Erstate_State) → Option Bool) (sg : Int × Erstate_State) : Option Bool := match sg with | (i, s0) => if ((decide (i < (l.length : Int))) && (decide (i < 40))) = true then (chk ((0 : Int) ≤ i ∧ i < (l.length : Int)) ((F_rstate_State_Apply s0 ({ (l.getD (i).toNat default) with conf := ({ epoch := ((l.getD (i).toNat default).conf).epoch, members := ((l.getD (i).toNat default).conf).members, floor := ((l.getD (i).toNat default).conf).floor } : EConf), entry := ({ batch := ({ client := (((l.getD (i).toNat default).entry).batch).client, req := (((l.getD (i).toNat default).entry).batch).req, ops := (((l.getD (i).toNat default).entry).batch).ops } : EBatch), ts := ((l.getD (i).toNat default).entry).ts } : EEntry), pin := ({ id := ((l.getD (i).toNat default).pin).id, at_ := ((l.getD (i).toNat default).pin).at_, left := ((l.getD (i).toNat default).pin).left } : EPin), said := ({ client := ((l.getD (i).toNat default).said).client, req := ((l.getD (i).toNat default).said).req, e := ((l.getD (i).toNat default).said).e, pin := ((l.getD (i).toNat default).said).pin } : EAnswer) } : ENote)).bind fun a0_2 => (chk (inI (i + 1)) (rc (i + 1, a0_2.2))))) else ((F_mvcc_New).bind fun n0_2 => (chk (inI cut) ((F_rstate_State_Feed s0 n0_2 0 cut).bind fun f => ((F_rstate_State_Feed f.2.1 f.2.2 f.1 1073741824).bind fun f_2 => ((F_rstate_State_All f_2.2.1).bind fun a0_3 => (iter (F_law30_RstateFeeds_l2 t f_2 a0_3) FU (([] : List EPair), 0, (default : Eref16_Store))))))))

def F_law30_RstateFeeds (l : List ENote) (cut : Int) (t : Int) : Option Bool := (F_law28_Parts l).bind fun p => (if (decide (p > 20)) = true then ((F_law30_awake).bind fun a0 => (some a0)) else ((F_rstate_New).bind fun n0 => (iter (F_law30_RstateFeeds_l1 l cut t) FU (0, n0))))

set_option maxHeartbeats 8000000 in
theorem c_law30_RstateFeeds {I D : Dm} {l : List ENote} {v1_l : Value} {cut : Int} {t : Int} {w : World} {rr : Bool} (hF : F_law30_RstateFeeds l cut t = some rr) (H : St I D w [SlC NENote v1_l l]) :
  Calls Try.prog 4 #[v1_l, .int .u8 cut, vU t] w (Ret fun vv w' => vv = vT rr ∧ ∃ I', Hf I D w I' w' []) := by
 replace H := H.hf
 unfold F_law30_RstateFeeds at hF
 refine f_enter 129 Try.func4 rfl rfl (Nat.le_of_ble_eq_true rfl) fun a Z => ?_
 replace Z := Z.sub (ts := [0, 1, 2]) rfl
 refine wp_seq (f_region Z ?_); clear Z; intro Z
 refine s_runk tRfWF Z 1 rfl rfl fun a Z => ?_
 refine s_end Z [0, 1, 2] rfl fun Z => ?_
 refine p_then (wp_seq ?_)
 refine wp_seq ?_
 obtain ⟨p, hx1, hF⟩ := bnd_in hF
 refine f_region Z fun Z => ?_
 refine s_runk tRfWF Z 1 rfl rfl fun a Z => ?_
 refine hC Z H [(0, true)] rfl #[] fn_6_YRfWF rfl rfl (fun D h => have q := c_law28_Parts hx1 h; q) fun vv a w1 D2 hr hF2 Z => ?_
 obtain ⟨rfl, I1, K⟩ := hr
 have H := (hF2 K).nf rfl
 refine s_runk tRfWF Z 1 rfl rfl fun a Z => ?_
 refine s_end Z [0, 1, 2, 19] rfl fun Z => ?_
 refine p_then ?_
 refine f_cond Z rfl (fun hc1 => ?_) (fun hc1 => ?_)
 ·replace hF := ite_t hc1 hF
  refine wp_seq ?_
  obtain ⟨a0, hx2, hF⟩ := bnd_in hF
  refine f_region Z fun Z => ?_
  refine hC Z H [] rfl #[] fn_7_YRfWF rfl rfl (fun D h => have q := c_law30_awake hx2 h; q) fun vv a w2 D2 hr hF2 Z => ?_
  obtain ⟨rfl, I2, K⟩ := hr
  have H := (hF2 K).nf rfl
  refine s_runk tRfWF Z 1 rfl rfl fun a Z => ?_
  refine s_end Z [6] rfl fun Z => ?_
  refine p_then (wp_ret ?_)
  refine p_then_r ?_
  obtain rfl := some_in hF
  exact f_ret Z (run_results1 rfl Z rfl) ⟨rfl, I2, (H.sub [] rfl).eq rfl⟩
 ·replace hF := ite_f hc1 hF
  refine wp_skip ?_
  refine p_then (wp_seq ?_)
  obtain ⟨n0, hx3, hF⟩ := bnd_in hF
  refine f_region Z fun Z => ?_
  refine hC Z H [] rfl #[] fn_8_YRfWF rfl rfl (fun D h => have q := c_rstate_New hx3 h; q) fun vv a w3 D2 hr hF2 Z => ?_
  obtain ⟨g1, rfl, I3, K⟩ := hr
  have H := (hF2 K).nf rfl
  refine s_runk tRfWF Z 1 rfl rfl fun a Z => ?_
  refine s_end Z [0, 1, 2, 7] rfl fun Z => ?_
  refine p_then (wp_seq ?_)
  refine wp_seq (f_region Z ?_); clear Z; intro Z
  refine s_runk tRfWF Z 1 rfl rfl fun a Z => ?_
  refine s_end Z [0, 1, 2, 7, 8] rfl fun Z => ?_
  refine p_then (wp_block ?_)
  refine f_iter hF (fun sg a' w' => match sg with | (i, s0) => Sl 129 [(0, v1_l), (1, .int .u8 cut), (2, vU t), (7, pp g1 0), (8, vI i)] a' ∧ ∃ I2, Hf I D w I2 w' [OErstate_State g1 s0, SlC NENote v1_l l]) ⟨Z.sub (ts := [0, 1, 2, 7, 8]) rfl, ⟨I3, (H.sub [(0, false), (0, true)] rfl).eq rfl⟩⟩ ?_
  rintro rc ⟨i, s0⟩ a w4 ⟨Z, I4, H⟩ hF
  unfold F_law30_RstateFeeds_l1 at hF
  try dsimp only at hF
  refine wp_seq ?_
  refine wp_seq (f_region Z ?_); clear Z; intro Z
  refine s_runk tRfWF Z 2 rfl rfl fun a Z => ?_
  refine sO Z (vI (ln l)) rfl (Ob_slen tRfWF rfl rfl rfl (H.slshape 1 rfl)) fun a Z => ?_
  refine s_runk tRfWF Z 2 rfl rfl fun a Z => ?_
  refine gO Z (vI i) rfl (wantB_t _) (.n 8 rfl .z) (fun hp => Ob_c tRfWF rfl) fun a Z => ?_
  refine gO Z (vT (decide (i < 40))) rfl (wantB_t _) (.c 27 rfl id .z) (fun hp => Ob_c tRfWF rfl) fun a Z => ?_
  refine sO Z (vT ((decide (i < (ln l))) && (decide (i < 40)))) rfl (Ob_pick rfl rfl rfl rfl (pick_and _ _)) fun a Z => ?_
  refine s_end Z [0, 1, 2, 7, 8, 29] rfl fun Z => ?_
  refine p_then ?_
  refine f_cond Z rfl (fun hc2 => ?_) (fun hc2 => ?_)
  ·replace hF := ite_t hc2 hF
   refine wp_skip ?_
   refine p_then (wp_seq ?_)
   refine wp_block ?_
   obtain ⟨hg1, hF⟩ := chk_in hF
   obtain ⟨a0_2, hx4, hF⟩ := bnd_in hF
   refine f_region Z fun Z => ?_
   refine s_runk tRfWF Z 3 rfl rfl fun a Z => ?_
   refine sO Z (.pointer (some ⟨blkOf v1_l, oofOf v1_l + (i).toNat * 18, none⟩)) rfl (Ob_sidx tRfWF rfl rfl rfl rfl (slPl (H.sl 1 rfl) hg1) hg1) fun a Z => ?_
   obtain ⟨_, ⟨u1, u2, u3, rfl, L1, L2, L3⟩, H⟩ := H.elG 1 rfl (i) (NENote.dft _ _)
   replace H := H.addsl L1
   replace H := H.addsl L2
   replace H := H.addsl L3
   replace H : Hf I D w I4 w4 [SlC NEOp u3 ((((gi l i).entry).batch).ops), SlC Ni64 u2 ((gi l i).legit), SlC NEMember u1 (((gi l i).conf).members), AtG ((0 : Int) ≤ i ∧ i < (ln l)) (blkOf v1_l) (oofOf v1_l + (i).toNat * 18) (cENote (gi l i) u1 u2 u3), OErstate_State g1 s0, SlC NENote v1_l l] := H
   refine sO Z (.agg (cENote (gi l i) u1 u2 u3).toArray) rfl (oA tRfWF rfl rfl ((H.atg 3 rfl hg1).part 0 rfl)) fun a Z => ?_
   refine hC Z H [(4, false), (2, true), (1, true), (0, true)] rfl #[] fn_11_YRfWF rfl rfl (fun D h => have q := c_rstate_State_Apply hx4 h; q) fun vv a w5 D2 hr hF2 Z => ?_
   obtain ⟨rfl, I5, K⟩ := hr
   have H := (hF2 K).nf rfl
   refine s_end Z [0, 1, 2, 7, 8] rfl fun Z => ?_
   refine p_blk ?_
   refine p_then ?_
   obtain ⟨hg2, hF⟩ := chk_in hF
   refine f_region Z fun Z => ?_
   refine s_runk tRfWF Z 1 rfl rfl fun a Z => ?_
   refine sO Z (vI (i + 1)) rfl (Ob_add rfl rfl rfl (wrI hg2)) fun a Z => ?_
   refine s_runk tRfWF Z 1 rfl rfl fun a Z => ?_
   refine s_end Z [0, 1, 2, 7, 8] rfl fun Z => ?_
   refine p_then ?_
   exact ⟨(i + 1, a0_2.2), ⟨Z.sub (ts := [0, 1, 2, 7, 8]) rfl, ⟨I5, (H.sub [(0, false), (4, true)] rfl).eq rfl⟩⟩, hF⟩
  ·replace hF := ite_f hc2 hF
   refine wp_exit ?_
   refine p_then_x ?_
   refine p_then_x ?_
   refine f_exit_here ?_
   refine p_then (wp_seq ?_)
   obtain ⟨n0_2, hx5, hF⟩ := bnd_in hF
   refine f_region Z fun Z => ?_
   refine hC Z H [] rfl #[] fn_14_YRfWF rfl rfl (fun D h => have q := c_mvcc_New hx5 h; q) fun vv a w6 D2 hr hF2 Z => ?_
   obtain ⟨g2, rfl, I6, K⟩ := hr
   have H := (hF2 K).nf rfl
   refine s_runk tRfWF Z 1 rfl rfl fun a Z => ?_
   refine s_end Z [1, 2, 7, 9] rfl fun Z => ?_
   refine p_then (wp_seq (f_region Z ?_)); clear Z; intro Z
   refine sO Z (.agg #[nS, vU 0]) rfl (Ob_build (vs := []) rfl rfl (by go_simp <;> rfl)) fun a Z => ?_
   refine hB Z H [nS, vU 0] rfl rfl rfl rfl fun a w7 b1 H Z => ?_
   refine s_runk tRfWF Z 1 rfl rfl fun a Z => ?_
   refine s_end Z [1, 2, 7, 9, 10] rfl fun Z => ?_
   refine p_then (wp_seq ?_)
   obtain ⟨hg3, hF⟩ := chk_in hF
   obtain ⟨f, hx6, hF⟩ := bnd_in hF
   refine f_region Z fun Z => ?_
   refine s_runk tRfWF Z 3 rfl rfl fun a Z => ?_
   refine sO Z (vI cut) rfl (Ob_conv rfl rfl (run_convi Try.underlying5 Try.underlying3 _ _ (wrI hg3) _)) fun a Z => ?_
   refine hC Z H [(2, false), (1, false)] rfl #[] fn_15_YRfWF rfl rfl (fun D h => have q := c_rstate_State_Feed hx6 h; q) fun vv a w8 D2 hr hF2 Z => ?_
   obtain ⟨rfl, I7, K⟩ := hr
   have H := (hF2 K).nf rfl
   refine s_runk tRfWF Z 1 rfl rfl fun a Z => ?_
   refine s_end Z [2, 7, 9, 10, 11] rfl fun Z => ?_
   refine p_then (wp_seq ?_)
   obtain ⟨f_2, hx7, hF⟩ := bnd_in hF
   refine f_region Z fun Z => ?_
   refine s_runk tRfWF Z 3 rfl rfl fun a Z => ?_
   refine hC Z H [(0, false), (0, false)] rfl #[] fn_15_YRfWF rfl rfl (fun D h => have q := c_rstate_State_Feed hx7 h; q) fun vv a w9 D2 hr hF2 Z => ?_
   obtain ⟨rfl, I8, K⟩ := hr
   have H := (hF2 K).nf rfl
   refine s_runk tRfWF Z 1 rfl rfl fun a Z => ?_
   refine s_end Z [2, 7, 9, 10, 11] rfl fun Z => ?_
   refine p_then (wp_seq ?_)
   obtain ⟨a0_3, hx8, hF⟩ := bnd_in hF
   refine f_region Z fun Z => ?_
   refine s_runk tRfWF Z 1 rfl rfl fun a Z => ?_
   refine hC Z H [(0, false)] rfl #[] fn_13_YRfWF rfl rfl (fun D h => have q := c_rstate_State_All hx8 h; q) fun vv a w10 D2 hr hF2 Z => ?_
   obtain ⟨q1, hvv, I9, K⟩ := hr; obtain rfl := hvv.symm
   have H := (hF2 K).nf rfl
   refine s_runk tRfWF Z 1 rfl rfl fun a Z => ?_
   refine s_end Z [2, 7, 9, 10, 11, 12] rfl fun Z => ?_
   refine p_then (wp_seq (f_region Z ?_)); clear Z; intro Z
   refine s_runk tRfWF Z 1 rfl rfl fun a Z => ?_
   refine s_end Z [2, 7, 9, 10, 11, 12, 13] rfl fun Z => ?_
   refine p_then (wp_seq ?_)
   refine wp_seq (f_region Z ?_); clear Z; intro Z
   refine s_runk tRfWF Z 1 rfl rfl fun a Z => ?_
   refine s_end Z [2, 7, 9, 10, 11, 12, 13, 14] rfl fun Z => ?_
   refine p_then (wp_block ?_)
   replace H := H.nilow NEref16_Row 103
   replace H := H.sX (OEref16_Store b1 (default : Eref16_Store)) (nS) [(4, false), (0, false)] rfl rfl rfl
   replace H := H.slNil NEPair
   refine f_iter hF (fun sg a' w' => match sg with | (want, i_2, x) => ∃ v2 : Value, Sl 129 [(2, vU t), (7, pp g1 0), (9, pp g2 0), (10, pp b1 0), (11, vI f_2.1), (12, q1), (13, v2), (14, vI i_2)] a' ∧ ∃ I2, Hf I D w I2 w' [OErstate_State g1 a0_3.2, OEmvcc_Store g2 f_2.2.2, OEref16_Store b1 x, OwC NEEntry 40 q1 a0_3.1, SlC NEPair v2 want]) ⟨nS, Z.sub (ts := [2, 7, 9, 10, 11, 12, 13, 14]) rfl, ⟨I9, (H.sub [(2, false), (3, false), (1, false), (1, false), (0, true)] rfl).eq rfl⟩⟩ ?_
   rintro rc_2 ⟨want, i_2, x⟩ a w11 ⟨v2, Z, I10, H⟩ hF
   unfold F_law30_RstateFeeds_l2 at hF
   try dsimp only at hF
   refine wp_seq ?_
   refine wp_seq (f_region Z ?_); clear Z; intro Z
   refine s_runk tRfWF Z 2 rfl rfl fun a Z => ?_
   refine sO Z (vI (ln a0_3.1)) rfl (Ob_slen tRfWF rfl rfl rfl (H.owshape 3 rfl)) fun a Z => ?_
   refine s_runk tRfWF Z 2 rfl rfl fun a Z => ?_
   refine gO Z (vI i_2) rfl (wantB_t _) (.n 14 rfl .z) (fun hp => Ob_c tRfWF rfl) fun a Z => ?_
   refine gO Z (vI f_2.1) rfl (wantB_t _) (.n 11 rfl .z) (fun hp => Ob_c tRfWF rfl) fun a Z => ?_
   refine gO Z (vT (decide (i_2 < f_2.1))) rfl (wantB_t _) (.c 57 rfl id (.c 58 rfl id .z)) (fun hp => Ob_c tRfWF rfl) fun a Z => ?_
   refine sO Z (vT ((decide (i_2 < (ln a0_3.1))) && (decide (i_2 < f_2.1)))) rfl (Ob_pick rfl rfl rfl rfl (pick_and _ _)) fun a Z => ?_
   refine s_end Z [2, 7, 9, 10, 11, 12, 13, 14, 60] rfl fun Z => ?_
   refine p_then ?_
   refine f_cond Z rfl (fun hc3 => ?_) (fun hc3 => ?_)
   ·replace hF := ite_t hc3 hF
    refine wp_skip ?_
    refine p_then ?_
    refine f_cut (fun a' w' => ∃ (want_2 : List EPair) (x_2 : Eref16_Store), ∃ v3 : Value, Sl 129 [(2, vU t), (7, pp g1 0), (9, pp g2 0), (10, pp b1 0), (11, vI f_2.1), (12, q1), (13, v3), (14, vI i_2)] a' ∧ (∃ I2, Hf I D w I2 w' [OErstate_State g1 a0_3.2, OEmvcc_Store g2 f_2.2.2, OEref16_Store b1 x_2, OwC NEEntry 40 q1 a0_3.1, SlC NEPair v3 want_2]) ∧ F_law30_RstateFeeds_k3 i_2 rc_2 want_2 x_2 = some rr) ?_ ?_
    ·rintro a w12 ⟨want_2, x_2, v3, Z, ⟨I11, H⟩, hF⟩
     unfold F_law30_RstateFeeds_k3 at hF
     try dsimp only at hF
     obtain ⟨hg4, hF⟩ := chk_in hF
     refine f_region Z fun Z => ?_
     refine s_runk tRfWF Z 1 rfl rfl fun a Z => ?_
     refine sO Z (vI (i_2 + 1)) rfl (Ob_add rfl rfl rfl (wrI hg4)) fun a Z => ?_
     refine s_runk tRfWF Z 1 rfl rfl fun a Z => ?_
     refine s_end Z [2, 7, 9, 10, 11, 12, 13, 14] rfl fun Z => ?_
     refine p_then ?_
     exact ⟨(want_2, i_2 + 1, x_2), ⟨v3, Z.sub (ts := [2, 7, 9, 10, 11, 12, 13, 14]) rfl, ⟨I11, (H.sub [(0, false), (0, false), (0, false), (0, false), (0, true)] rfl).eq rfl⟩⟩, hF⟩
    ·skip
     refine wp_block ?_
     refine wp_seq ?_
     obtain ⟨hg5, hF⟩ := chk_in hF
     obtain ⟨_, ⟨u4, rfl, L4⟩, hat1⟩ := H.owElG 3 rfl (i_2) (NEEntry.dft _ _)
     replace H : Hf I D w I10 w11 [SlC NEOp u4 (((gi a0_3.1 i_2).batch).ops), OErstate_State g1 a0_3.2, OEmvcc_Store g2 f_2.2.2, OEref16_Store b1 x, OwC NEEntry 40 q1 a0_3.1, SlC NEPair v2 want] := H.addsl L4
     obtain ⟨hg6, hF⟩ := chk_in hF
     obtain ⟨_, ⟨u5, rfl, L5⟩, hat2⟩ := H.owElG 4 rfl (i_2) (NEEntry.dft _ _)
     replace H : Hf I D w I10 w11 [SlC NEOp u5 (((gi a0_3.1 i_2).batch).ops), SlC NEOp u4 (((gi a0_3.1 i_2).batch).ops), OErstate_State g1 a0_3.2, OEmvcc_Store g2 f_2.2.2, OEref16_Store b1 x, OwC NEEntry 40 q1 a0_3.1, SlC NEPair v2 want] := H.addsl L5
     obtain ⟨p_2, hx9, hF⟩ := bnd_in hF
     refine f_quietS 12 (by kernel_rfl) (by kernel_rfl) (by kernel_rfl) (by kernel_rfl) (by kernel_rfl) Z fun Z => ?_
     refine q_runk tRfWF Z 3 rfl rfl fun a Z => ?_
     refine qO Z (.pointer (some ⟨blkOf q1, oofOf q1 + (i_2).toNat * 4, none⟩)) rfl (fun _ hw => Ob_sidx tRfWF rfl rfl rfl rfl (slPl ((H.blw hw).owA 5 rfl) hg5) hg5) fun a Z => ?_
     refine q_runk tRfWF Z 1 rfl rfl fun a Z => ?_
     refine qO Z (vU ((gi a0_3.1 i_2).ts)) rfl (fun _ hw => oL tRfWF rfl rfl (((hat1 hg5).blw hw) 3 _ rfl)) fun a Z => ?_
     refine q_runk tRfWF Z 2 rfl rfl fun a Z => ?_
     refine qO Z (.pointer (some ⟨blkOf q1, oofOf q1 + (i_2).toNat * 4, none⟩)) rfl (fun _ hw => Ob_sidx tRfWF rfl rfl rfl rfl (slPl ((H.blw hw).owA 5 rfl) hg6) hg6) fun a Z => ?_
     refine q_runk tRfWF Z 2 rfl rfl fun a Z => ?_
     refine qO Z u5 rfl (fun _ hw => oL tRfWF rfl rfl (((hat2 hg6).blw hw) 2 _ rfl)) fun a Z => ?_
     refine q_endS Z [2, 7, 9, 10, 11, 12, 13, 14, 60, 63, 64, 65, 66, 67, 68, 69, 70, 71, 72, 73, 74] rfl fun w13 hb Z => ?_
     replace H := H.blw hb
     clear hb
     refine hC Z H [(4, false), (0, true)] rfl #[] fn_16_YRfWF rfl rfl (fun D h => have q := c_ref16_Store_Put hx9 h; q) fun vv a w14 D2 hr hF2 Z => ?_
     obtain ⟨rfl, I12, K⟩ := hr
     have H := (hF2 K).nf rfl
     refine s_end Z [2, 7, 9, 10, 11, 12, 13, 14] rfl fun Z => ?_
     refine p_then (wp_seq ?_)
     obtain ⟨hg7, hF⟩ := chk_in hF
     refine f_region Z fun Z => ?_
     refine s_runk tRfWF Z 2 rfl rfl fun a Z => ?_
     refine sO Z (.pointer (some ⟨blkOf q1, oofOf q1 + (i_2).toNat * 4, none⟩)) rfl (Ob_sidx tRfWF rfl rfl rfl rfl (slPl (H.owA 5 rfl) hg7) hg7) fun a Z => ?_
     refine s_runk tRfWF Z 1 rfl rfl fun a Z => ?_
     obtain ⟨_, ⟨u6, rfl, L6⟩, hat3⟩ := H.owEl 5 rfl hg7
     replace H : Hf I D w I12 w14 [SlC NEOp u6 (((gi a0_3.1 i_2).batch).ops), OEref16_Store b1 p_2.2, SlC NEOp u5 (((gi a0_3.1 i_2).batch).ops), SlC NEOp u4 (((gi a0_3.1 i_2).batch).ops), OErstate_State g1 a0_3.2, OEmvcc_Store g2 f_2.2.2, OwC NEEntry 40 q1 a0_3.1, SlC NEPair v2 want] := H.addsl L6
     refine sO Z (vU ((gi a0_3.1 i_2).ts)) rfl (oL tRfWF rfl rfl (hat3 3 _ rfl)) fun a Z => ?_
     refine s_runk tRfWF Z 2 rfl rfl fun a Z => ?_
     refine s_end Z [2, 7, 9, 10, 11, 12, 13, 14, 82] rfl fun Z => ?_
     refine p_then ?_
     refine f_cond Z rfl (fun hc4 => ?_) (fun hc4 => ?_)
     ·replace hF := ite_t hc4 hF
      obtain ⟨hg8, hF⟩ := chk_in hF
      obtain ⟨o, hx10, hF⟩ := bnd_in hF
      refine f_region Z fun Z => ?_
      refine s_runk tRfWF Z 3 rfl rfl fun a Z => ?_
      refine sO Z (.pointer (some ⟨blkOf q1, oofOf q1 + (i_2).toNat * 4, none⟩)) rfl (Ob_sidx tRfWF rfl rfl rfl rfl (slPl (H.owA 6 rfl) hg8) hg8) fun a Z => ?_
      refine s_runk tRfWF Z 2 rfl rfl fun a Z => ?_
      obtain ⟨_, ⟨u7, rfl, L7⟩, hat4⟩ := H.owEl 6 rfl hg8
      replace H : Hf I D w I12 w14 [SlC NEOp u7 (((gi a0_3.1 i_2).batch).ops), SlC NEOp u6 (((gi a0_3.1 i_2).batch).ops), OEref16_Store b1 p_2.2, SlC NEOp u5 (((gi a0_3.1 i_2).batch).ops), SlC NEOp u4 (((gi a0_3.1 i_2).batch).ops), OErstate_State g1 a0_3.2, OEmvcc_Store g2 f_2.2.2, OwC NEEntry 40 q1 a0_3.1, SlC NEPair v2 want] := H.addsl L7
      refine sO Z u7 rfl (oL tRfWF rfl rfl (hat4 2 _ rfl)) fun a Z => ?_
      refine hC Z H [(8, true), (0, true)] rfl #[] fn_17_YRfWF rfl rfl (fun D h => have q := c_ref06_Over hx10 h; q) fun vv a w15 D2 hr hF2 Z => ?_
      obtain ⟨q2, hvv, I13, K⟩ := hr; obtain rfl := hvv.symm
      have H := (hF2 K).nf rfl
      refine s_runk tRfWF Z 1 rfl rfl fun a Z => ?_
      refine s_end Z [2, 7, 9, 10, 11, 12, 13, 14] rfl fun Z => ?_
      refine p_blk ?_
      refine p_then ?_
      exact ⟨o, p_2.2, q2, Z.sub (ts := [2, 7, 9, 10, 11, 12, 13, 14]) rfl, ⟨I13, (H.sub [(6, false), (6, false), (3, false), (5, false), (0, true)] rfl).eq rfl⟩, hF⟩
     ·replace hF := ite_f hc4 hF
      refine wp_skip ?_
      refine p_blk ?_
      refine p_then ?_
      exact ⟨want, p_2.2, v2, Z.sub (ts := [2, 7, 9, 10, 11, 12, 13, 14]) rfl, ⟨I12, (H.sub [(4, false), (4, false), (1, false), (3, false), (3, true)] rfl).eq rfl⟩, hF⟩
   ·replace hF := ite_f hc3 hF
    refine wp_exit ?_
    refine p_then_x ?_
    refine p_then_x ?_
    refine f_exit_here ?_
    refine p_then (wp_seq ?_)
    obtain ⟨s0_2, hx11, hF⟩ := bnd_in hF
    refine f_region Z fun Z => ?_
    refine s_runk tRfWF Z 2 rfl rfl fun a Z => ?_
    refine hC Z H [(1, false)] rfl #[] fn_18_YRfWF rfl rfl (fun D h => have q := c_mvcc_Store_Scan hx11 h; q) fun vv a w16 D2 hr hF2 Z => ?_
    obtain ⟨q3, rfl, I14, K⟩ := hr
    have H := (hF2 K).nf rfl
    refine s_runk tRfWF Z 5 rfl rfl fun a Z => ?_
    refine s_end Z [7, 9, 10, 11, 13, 15, 16] rfl fun Z => ?_
    refine p_then (wp_seq ?_)
    obtain ⟨s0_3, hx12, hF⟩ := bnd_in hF
    obtain ⟨s0_4, hx13, hF⟩ := bnd_in hF
    obtain ⟨l_2, hx14, hF⟩ := bnd_in hF
    obtain ⟨c, hx15, hF⟩ := bnd_in hF
    obtain ⟨c_2, hx16, hF⟩ := bnd_in hF
    obtain ⟨a0_4, hx17, hF⟩ := bnd_in hF
    refine f_regionL Z (by kernel_rfl) (by kernel_rfl) (by decide) (by decide) [2, 15, 24, 26] [(0, 0, 1), (0, 0, 0), (2, 0, 0), (7, 1, 1), (15, 1, 1), (31, 1, 1), (31, 1, 1), (127, 1, 1), (255, 1, 1), (511, 1, 1), (1023, 1, 1), (2047, 1, 1), (4095, 1, 1), (8191, 1, 1), (16383, 1, 1), (32767, 1, 1), (16383, 1, 2), (81919, 1, 2), (212991, 1, 2), (475135, 1, 2), (1048575, 2, 2), (2097151, 2, 2), (4194303, 2, 2), (8388607, 2, 2), (16777215, 2, 2), (8388607, 2, 3), (67108863, 3, 3), (134217727, 4, 4), (268435455, 4, 4), (536870911, 4, 4), (1073741823, 4, 4), (2147483647, 4, 4), (4294967295, 4, 4)] (by kernel_rfl) (fun jj vv => cond (Nat.blt jj 16) (cond (Nat.blt jj 8) (cond (Nat.blt jj 4) (cond (Nat.blt jj 2) (cond (Nat.blt jj 1) (vv = vI f_2.1) (vv = pp g1 0)) (cond (Nat.blt jj 3) (vv = vI s0_3.1) (vv = vT (f_2.1 == s0_3.1)))) (cond (Nat.blt jj 6) (cond (Nat.blt jj 5) (vv = vT (f_2.1 == s0_3.1)) (vv = cond (f_2.1 == s0_3.1) (q3) undef)) (cond (Nat.blt jj 7) (vv = cond (f_2.1 == s0_3.1) (v2) undef) (vv = cond (f_2.1 == s0_3.1) (vT s0_4) undef)))) (cond (Nat.blt jj 12) (cond (Nat.blt jj 10) (cond (Nat.blt jj 9) (vv = vT ((f_2.1 == s0_3.1) && s0_4)) (vv = vT ((f_2.1 == s0_3.1) && s0_4))) (cond (Nat.blt jj 11) (vv = cond ((f_2.1 == s0_3.1) && s0_4) (vT s0_2.2.1) undef) (vv = cond ((f_2.1 == s0_3.1) && s0_4) (vT (!s0_2.2.1)) undef))) (cond (Nat.blt jj 14) (cond (Nat.blt jj 13) (vv = vT (((f_2.1 == s0_3.1) && s0_4) && (!s0_2.2.1))) (vv = vT (((f_2.1 == s0_3.1) && s0_4) && (!s0_2.2.1)))) (cond (Nat.blt jj 15) (vv = cond (((f_2.1 == s0_3.1) && s0_4) && (!s0_2.2.1)) (pp g2 0) undef) (vv = cond (((f_2.1 == s0_3.1) && s0_4) && (!s0_2.2.1)) (vU l_2) undef))))) (cond (Nat.blt jj 24) (cond (Nat.blt jj 20) (cond (Nat.blt jj 18) (cond (Nat.blt jj 17) (vv = cond (((f_2.1 == s0_3.1) && s0_4) && (!s0_2.2.1)) (pp b1 0) undef) (vv = cond (((f_2.1 == s0_3.1) && s0_4) && (!s0_2.2.1)) (pp b1 0) undef)) (cond (Nat.blt jj 19) (vv = cond (((f_2.1 == s0_3.1) && s0_4) && (!s0_2.2.1)) (pp b1 1) undef) (vv = cond (((f_2.1 == s0_3.1) && s0_4) && (!s0_2.2.1)) (vU x.last) undef))) (cond (Nat.blt jj 22) (cond (Nat.blt jj 21) (vv = cond (((f_2.1 == s0_3.1) && s0_4) && (!s0_2.2.1)) (vT (l_2 == x.last)) undef) (vv = vT ((((f_2.1 == s0_3.1) && s0_4) && (!s0_2.2.1)) && (l_2 == x.last)))) (cond (Nat.blt jj 23) (vv = vT ((((f_2.1 == s0_3.1) && s0_4) && (!s0_2.2.1)) && (l_2 == x.last))) (vv = cond ((((f_2.1 == s0_3.1) && s0_4) && (!s0_2.2.1)) && (l_2 == x.last)) (pp g2 0) undef)))) (cond (Nat.blt jj 28) (cond (Nat.blt jj 26) (cond (Nat.blt jj 25) (vv = cond ((((f_2.1 == s0_3.1) && s0_4) && (!s0_2.2.1)) && (l_2 == x.last)) (vI c) undef) (vv = cond ((((f_2.1 == s0_3.1) && s0_4) && (!s0_2.2.1)) && (l_2 == x.last)) (pp b1 0) undef)) (cond (Nat.blt jj 27) (vv = cond ((((f_2.1 == s0_3.1) && s0_4) && (!s0_2.2.1)) && (l_2 == x.last)) (vI c_2) undef) (vv = cond ((((f_2.1 == s0_3.1) && s0_4) && (!s0_2.2.1)) && (l_2 == x.last)) (vT (c == c_2)) undef))) (cond (Nat.blt jj 30) (cond (Nat.blt jj 29) (vv = vT (((((f_2.1 == s0_3.1) && s0_4) && (!s0_2.2.1)) && (l_2 == x.last)) && (c == c_2))) (vv = vT (((((f_2.1 == s0_3.1) && s0_4) && (!s0_2.2.1)) && (l_2 == x.last)) && (c == c_2)))) (cond (Nat.blt jj 31) (vv = cond (((((f_2.1 == s0_3.1) && s0_4) && (!s0_2.2.1)) && (l_2 == x.last)) && (c == c_2)) (vT a0_4) undef) (cond (Nat.blt jj 32) (vv = vT ((((((f_2.1 == s0_3.1) && s0_4) && (!s0_2.2.1)) && (l_2 == x.last)) && (c == c_2)) && a0_4)) (vv = vT ((((((f_2.1 == s0_3.1) && s0_4) && (!s0_2.2.1)) && (l_2 == x.last)) && (c == c_2)) && a0_4)))))))) (fun ss vals1 xw => match ss with | 0 => Gx I D w I14 w16 xw [OEmvcc_Store g2 s0_2.2.2, SlC NEPair q3 s0_2.1, OErstate_State g1 a0_3.2, OEref16_Store b1 x, OwC NEEntry 40 q1 a0_3.1, SlC NEPair v2 want] | 1 => Gx I D w I14 w16 xw [OErstate_State g1 s0_3.2, OEmvcc_Store g2 s0_2.2.2, SlC NEPair q3 s0_2.1, OEref16_Store b1 x, OwC NEEntry 40 q1 a0_3.1, SlC NEPair v2 want] | 2 => Gx I D w I14 w16 xw [OEmvcc_Store g2 s0_2.2.2, OErstate_State g1 s0_3.2, SlC NEPair q3 s0_2.1, OEref16_Store b1 x, OwC NEEntry 40 q1 a0_3.1, SlC NEPair v2 want] | 3 => Gx I D w I14 w16 xw [OEmvcc_Store g2 s0_2.2.2, OErstate_State g1 s0_3.2, SlC NEPair q3 s0_2.1, OEref16_Store b1 x, OwC NEEntry 40 q1 a0_3.1, SlC NEPair v2 want] | _ => Gx I D w I14 w16 xw [OEref16_Store b1 x, OEmvcc_Store g2 s0_2.2.2, OErstate_State g1 s0_3.2, SlC NEPair q3 s0_2.1, OwC NEEntry 40 q1 a0_3.1, SlC NEPair v2 want]) (fun _ => Gx.start H) ?_ ?_
    ·intro fr hfr hfe
     refine .cons (fun ss hlo hhi vals1 xw hG hV => ?_) ?_
     ·obtain rfl | rfl : ss = 0 ∨ ss = 1 := st1 hlo hhi
      all_goals
      ·rw [← hfe]
       have hS := (hfr vals1).sub (ts := [11]) rfl
       exact L_val hS rfl (Ob_c tRfWF rfl) ⟨rfl, hG⟩
     refine .cons (fun ss hlo hhi vals1 xw hG hV => ?_) ?_
     ·obtain rfl : ss = 0 := Nat.le_antisymm hhi hlo
      rw [← hfe]
      have hS := (hfr vals1).sub (ts := [7]) rfl
      exact L_val hS rfl (Ob_c tRfWF rfl) ⟨rfl, hG⟩
     refine .cons (fun ss hlo hhi vals1 xw hG hV => ?_) ?_
     ·obtain rfl : ss = 0 := Nat.le_antisymm hhi hlo
      rw [← hfe]
      have hS := (hfr vals1).sub (ts := [98]) rfl
      replace hS := hS.conv (t := 98) rfl (show (vals1 1) = pp g1 0 from hV 1 (by decide))
      obtain ⟨I2, hI2, H⟩ := Gx.ex hG
      refine L_hcall H (js := [(2, false)]) rfl (caps := #[]) hS fn_19_YRfWF rfl rfl rfl rfl rfl (fun D1 hS => have hq := c_rstate_State_Stamped hx12 hS; hq) fun _ yw D1 hr hF2 => ?_
      obtain ⟨rfl, I3, K⟩ := hr
      obtain ⟨hK, H2⟩ := hF2 K
      exact ⟨rfl, Gx.go hG hI2 hK K.imm H2⟩
     refine .cons (fun ss hlo hhi vals1 xw hG hV => ?_) ?_
     ·obtain rfl : ss = 1 := Nat.le_antisymm hhi hlo
      rw [← hfe]
      have hS := (hfr vals1).sub (ts := [97, 99]) rfl
      replace hS := hS.conv (t := 97) rfl (show (vals1 0) = vI f_2.1 from hV 0 (by decide))
      replace hS := hS.conv (t := 99) rfl (show (vals1 2) = vI s0_3.1 from hV 2 (by decide))
      exact L_val hS rfl (Ob_c tRfWF rfl) ⟨rfl, hG⟩
     refine .cons (fun ss hlo hhi vals1 xw hG hV => ?_) ?_
     ·obtain rfl : ss = 1 := Nat.le_antisymm hhi hlo
      rw [← hfe]
      have hS := (hfr vals1).sub (ts := [100]) rfl
      replace hS := hS.conv (t := 100) rfl (show (vals1 3) = vT (f_2.1 == s0_3.1) from hV 3 (by decide))
      exact L_val hS rfl (Ob_c tRfWF rfl) ⟨rfl, hG⟩
     refine .cons (fun ss hlo hhi vals1 xw hG hV => ?_) ?_
     ·obtain rfl : ss = 1 := Nat.le_antisymm hhi hlo
      rw [← hfe]
      have hS := (hfr vals1).sub (ts := [101, 15]) rfl
      replace hS := hS.conv (t := 101) rfl (show (vals1 4) = vT (f_2.1 == s0_3.1) from hV 4 (by decide))
      refine L_gw (p := (f_2.1 == s0_3.1)) hS rfl rfl rfl (wantB_t _) (fun hp => ?_) (fun hp => ⟨by rw [hp]; rfl, hG⟩)
      exact L_val hS rfl (Ob_c tRfWF rfl) ⟨(by rw [hp]; rfl), hG⟩
     refine .cons (fun ss hlo hhi vals1 xw hG hV => ?_) ?_
     ·obtain rfl : ss = 1 := Nat.le_antisymm hhi hlo
      rw [← hfe]
      have hS := (hfr vals1).sub (ts := [101, 13]) rfl
      replace hS := hS.conv (t := 101) rfl (show (vals1 4) = vT (f_2.1 == s0_3.1) from hV 4 (by decide))
      refine L_gw (p := (f_2.1 == s0_3.1)) hS rfl rfl rfl (wantB_t _) (fun hp => ?_) (fun hp => ⟨by rw [hp]; rfl, hG⟩)
      exact L_val hS rfl (Ob_c tRfWF rfl) ⟨(by rw [hp]; rfl), hG⟩
     refine .cons (fun ss hlo hhi vals1 xw hG hV => ?_) ?_
     ·obtain rfl : ss = 1 := Nat.le_antisymm hhi hlo
      rw [← hfe]
      have hS := (hfr vals1).sub (ts := [102, 103, 101]) rfl
      replace hS := hS.conv (t := 102) rfl (show (vals1 5) = cond (f_2.1 == s0_3.1) (q3) undef from hV 5 (by decide))
      replace hS := hS.conv (t := 103) rfl (show (vals1 6) = cond (f_2.1 == s0_3.1) (v2) undef from hV 6 (by decide))
      replace hS := hS.conv (t := 101) rfl (show (vals1 4) = vT (f_2.1 == s0_3.1) from hV 4 (by decide))
      refine L_gw (p := (f_2.1 == s0_3.1)) hS rfl rfl rfl (wantB_t _) (fun hp => ?_) (fun hp => ⟨by rw [hp]; rfl, hG⟩)
      replace hS := hS.conv (t := 102) rfl (cond_t hp)
      replace hS := hS.conv (t := 103) rfl (cond_t hp)
      obtain ⟨I2, hI2, H⟩ := Gx.ex hG
      refine L_call (caps := #[]) hS fn_20_YRfWF rfl rfl rfl rfl rfl ((have hq := c_ref06_SamePairs (gif_in hx13 hp) ((H).pick0 (js := [(2, true), (5, true)]) rfl rfl); plainC hq)) fun r yw hr => ?_
      obtain ⟨rfl, hb⟩ := hr
      exact ⟨(by rw [hp]; rfl), Gx.blw hG hb⟩
     refine .cons (fun ss hlo hhi vals1 xw hG hV => ?_) ?_
     ·obtain rfl : ss = 1 := Nat.le_antisymm hhi hlo
      rw [← hfe]
      have hS := (hfr vals1).sub (ts := [101, 104]) rfl
      replace hS := hS.conv (t := 101) rfl (show (vals1 4) = vT (f_2.1 == s0_3.1) from hV 4 (by decide))
      replace hS := hS.conv (t := 104) rfl (show (vals1 7) = cond (f_2.1 == s0_3.1) (vT s0_4) undef from hV 7 (by decide))
      exact L_val hS rfl (Ob_pick rfl rfl rfl rfl (pick_and _ _)) ⟨rfl, hG⟩
     refine .cons (fun ss hlo hhi vals1 xw hG hV => ?_) ?_
     ·obtain rfl : ss = 1 := Nat.le_antisymm hhi hlo
      rw [← hfe]
      have hS := (hfr vals1).sub (ts := [105]) rfl
      replace hS := hS.conv (t := 105) rfl (show (vals1 8) = vT ((f_2.1 == s0_3.1) && s0_4) from hV 8 (by decide))
      exact L_val hS rfl (Ob_c tRfWF rfl) ⟨rfl, hG⟩
     refine .cons (fun ss hlo hhi vals1 xw hG hV => ?_) ?_
     ·obtain rfl : ss = 1 := Nat.le_antisymm hhi hlo
      rw [← hfe]
      have hS := (hfr vals1).sub (ts := [106, 16]) rfl
      replace hS := hS.conv (t := 106) rfl (show (vals1 9) = vT ((f_2.1 == s0_3.1) && s0_4) from hV 9 (by decide))
      refine L_gw (p := ((f_2.1 == s0_3.1) && s0_4)) hS rfl rfl rfl (wantB_t _) (fun hp => ?_) (fun hp => ⟨by rw [hp]; rfl, hG⟩)
      exact L_val hS rfl (Ob_c tRfWF rfl) ⟨(by rw [hp]; rfl), hG⟩
     refine .cons (fun ss hlo hhi vals1 xw hG hV => ?_) ?_
     ·obtain rfl : ss = 1 := Nat.le_antisymm hhi hlo
      rw [← hfe]
      have hS := (hfr vals1).sub (ts := [107, 106]) rfl
      replace hS := hS.conv (t := 107) rfl (show (vals1 10) = cond ((f_2.1 == s0_3.1) && s0_4) (vT s0_2.2.1) undef from hV 10 (by decide))
      replace hS := hS.conv (t := 106) rfl (show (vals1 9) = vT ((f_2.1 == s0_3.1) && s0_4) from hV 9 (by decide))
      refine L_gw (p := ((f_2.1 == s0_3.1) && s0_4)) hS rfl rfl rfl (wantB_t _) (fun hp => ?_) (fun hp => ⟨by rw [hp]; rfl, hG⟩)
      replace hS := hS.conv (t := 107) rfl (cond_t hp)
      exact L_val hS rfl (Ob_c tRfWF rfl) ⟨(by rw [hp]; rfl), hG⟩
     refine .cons (fun ss hlo hhi vals1 xw hG hV => ?_) ?_
     ·obtain rfl : ss = 1 := Nat.le_antisymm hhi hlo
      rw [← hfe]
      have hS := (hfr vals1).sub (ts := [106, 108]) rfl
      replace hS := hS.conv (t := 106) rfl (show (vals1 9) = vT ((f_2.1 == s0_3.1) && s0_4) from hV 9 (by decide))
      replace hS := hS.conv (t := 108) rfl (show (vals1 11) = cond ((f_2.1 == s0_3.1) && s0_4) (vT (!s0_2.2.1)) undef from hV 11 (by decide))
      exact L_val hS rfl (Ob_pick rfl rfl rfl rfl (pick_and _ _)) ⟨rfl, hG⟩
     refine .cons (fun ss hlo hhi vals1 xw hG hV => ?_) ?_
     ·obtain rfl : ss = 1 := Nat.le_antisymm hhi hlo
      rw [← hfe]
      have hS := (hfr vals1).sub (ts := [109]) rfl
      replace hS := hS.conv (t := 109) rfl (show (vals1 12) = vT (((f_2.1 == s0_3.1) && s0_4) && (!s0_2.2.1)) from hV 12 (by decide))
      exact L_val hS rfl (Ob_c tRfWF rfl) ⟨rfl, hG⟩
     refine .cons (fun ss hlo hhi vals1 xw hG hV => ?_) ?_
     ·obtain rfl : ss = 1 := Nat.le_antisymm hhi hlo
      rw [← hfe]
      have hS := (hfr vals1).sub (ts := [110, 9]) rfl
      replace hS := hS.conv (t := 110) rfl (show (vals1 13) = vT (((f_2.1 == s0_3.1) && s0_4) && (!s0_2.2.1)) from hV 13 (by decide))
      refine L_gw (p := (((f_2.1 == s0_3.1) && s0_4) && (!s0_2.2.1))) hS rfl rfl rfl (wantB_t _) (fun hp => ?_) (fun hp => ⟨by rw [hp]; rfl, hG⟩)
      exact L_val hS rfl (Ob_c tRfWF rfl) ⟨(by rw [hp]; rfl), hG⟩
     refine .cons (fun ss hlo hhi vals1 xw hG hV => ?_) ?_
     ·obtain rfl : ss = 1 := Nat.le_antisymm hhi hlo
      rw [← hfe]
      have hS := (hfr vals1).sub (ts := [111, 110]) rfl
      replace hS := hS.conv (t := 111) rfl (show (vals1 14) = cond (((f_2.1 == s0_3.1) && s0_4) && (!s0_2.2.1)) (pp g2 0) undef from hV 14 (by decide))
      replace hS := hS.conv (t := 110) rfl (show (vals1 13) = vT (((f_2.1 == s0_3.1) && s0_4) && (!s0_2.2.1)) from hV 13 (by decide))
      refine L_gw (p := (((f_2.1 == s0_3.1) && s0_4) && (!s0_2.2.1))) hS rfl rfl rfl (wantB_t _) (fun hp => ?_) (fun hp => ⟨by rw [hp]; rfl, ?_⟩)
      ·obtain ⟨I2, hI2, H⟩ := Gx.ex hG
       replace hS := hS.conv (t := 111) rfl (cond_t hp)
       refine L_hcall H (js := [(1, false)]) rfl (caps := #[]) hS fn_21_YRfWF rfl rfl rfl rfl rfl (fun D1 hS => have hq := c_mvcc_Store_Last (gif_in hx14 hp) hS; hq) fun _ yw D1 hr hF2 => ?_
       obtain ⟨rfl, I3, K⟩ := hr
       obtain ⟨hK, H2⟩ := hF2 K
       exact ⟨by rw [hp]; rfl, by first | (rw [hp] at H2 ⊢; exact Gx.go hG hI2 hK K.imm H2) | (rw [hp]; exact Gx.go hG hI2 hK K.imm H2) | exact Gx.go hG hI2 hK K.imm H2⟩
      ·(try rw [hp]); obtain ⟨I2, hI2, H⟩ := Gx.ex hG; (try rw [hp] at H); exact Gx.go hG hI2 (Keep.refl _ _) (fun _ h => h) (H.sub [(1, false), (0, false), (0, true), (1, false), (1, false), (1, true)] rfl)
     refine .cons (fun ss hlo hhi vals1 xw hG hV => ?_) ?_
     ·obtain rfl | rfl : ss = 1 ∨ ss = 2 := st1 hlo hhi
      all_goals
      ·rw [← hfe]
       have hS := (hfr vals1).sub (ts := [110, 10]) rfl
       replace hS := hS.conv (t := 110) rfl (show (vals1 13) = vT (((f_2.1 == s0_3.1) && s0_4) && (!s0_2.2.1)) from hV 13 (by decide))
       refine L_gw (p := (((f_2.1 == s0_3.1) && s0_4) && (!s0_2.2.1))) hS rfl rfl rfl (wantB_t _) (fun hp => ?_) (fun hp => ⟨by rw [hp]; rfl, hG⟩)
       exact L_val hS rfl (Ob_c tRfWF rfl) ⟨(by rw [hp]; rfl), hG⟩
     refine .cons (fun ss hlo hhi vals1 xw hG hV => ?_) ?_
     ·obtain rfl | rfl : ss = 1 ∨ ss = 2 := st1 hlo hhi
      all_goals
      ·rw [← hfe]
       have hS := (hfr vals1).sub (ts := [113, 110]) rfl
       replace hS := hS.conv (t := 113) rfl (show (vals1 16) = cond (((f_2.1 == s0_3.1) && s0_4) && (!s0_2.2.1)) (pp b1 0) undef from hV 16 (by decide))
       replace hS := hS.conv (t := 110) rfl (show (vals1 13) = vT (((f_2.1 == s0_3.1) && s0_4) && (!s0_2.2.1)) from hV 13 (by decide))
       refine L_gw (p := (((f_2.1 == s0_3.1) && s0_4) && (!s0_2.2.1))) hS rfl rfl rfl (wantB_t _) (fun hp => ?_) (fun hp => ⟨by rw [hp]; rfl, hG⟩)
       replace hS := hS.conv (t := 113) rfl (cond_t hp)
       exact L_val hS rfl (Ob_c tRfWF rfl) ⟨(by rw [hp]; rfl), hG⟩
     refine .cons (fun ss hlo hhi vals1 xw hG hV => ?_) ?_
     ·obtain rfl | rfl : ss = 1 ∨ ss = 2 := st1 hlo hhi
      all_goals
      ·rw [← hfe]
       have hS := (hfr vals1).sub (ts := [114, 110]) rfl
       replace hS := hS.conv (t := 114) rfl (show (vals1 17) = cond (((f_2.1 == s0_3.1) && s0_4) && (!s0_2.2.1)) (pp b1 0) undef from hV 17 (by decide))
       replace hS := hS.conv (t := 110) rfl (show (vals1 13) = vT (((f_2.1 == s0_3.1) && s0_4) && (!s0_2.2.1)) from hV 13 (by decide))
       refine L_gw (p := (((f_2.1 == s0_3.1) && s0_4) && (!s0_2.2.1))) hS rfl rfl rfl (wantB_t _) (fun hp => ?_) (fun hp => ⟨by rw [hp]; rfl, hG⟩)
       replace hS := hS.conv (t := 114) rfl (cond_t hp)
       exact L_val hS rfl (Ob_c tRfWF rfl) ⟨(by rw [hp]; rfl), hG⟩
     refine .cons (fun ss hlo hhi vals1 xw hG hV => ?_) ?_
     ·obtain rfl | rfl : ss = 1 ∨ ss = 2 := st1 hlo hhi
      all_goals
      ·rw [← hfe]
       have hS := (hfr vals1).sub (ts := [115, 110]) rfl
       replace hS := hS.conv (t := 115) rfl (show (vals1 18) = cond (((f_2.1 == s0_3.1) && s0_4) && (!s0_2.2.1)) (pp b1 1) undef from hV 18 (by decide))
       replace hS := hS.conv (t := 110) rfl (show (vals1 13) = vT (((f_2.1 == s0_3.1) && s0_4) && (!s0_2.2.1)) from hV 13 (by decide))
       refine L_gw (p := (((f_2.1 == s0_3.1) && s0_4) && (!s0_2.2.1))) hS rfl rfl rfl (wantB_t _) (fun hp => ?_) (fun hp => ⟨by rw [hp]; rfl, hG⟩)
       replace hS := hS.conv (t := 115) rfl (cond_t hp)
       obtain ⟨I2, hI2, H⟩ := Gx.ex hG
       exact L_val hS rfl (oL tRfWF rfl rfl (by obtain ⟨_, H⟩ := H.openX 3 rfl; exact (H.bx 0 rfl).cell 1 rfl)) ⟨(by rw [hp]; rfl), hG⟩
     refine .cons (fun ss hlo hhi vals1 xw hG hV => ?_) ?_
     ·obtain rfl : ss = 2 := Nat.le_antisymm hhi hlo
      rw [← hfe]
      have hS := (hfr vals1).sub (ts := [112, 116, 110]) rfl
      replace hS := hS.conv (t := 112) rfl (show (vals1 15) = cond (((f_2.1 == s0_3.1) && s0_4) && (!s0_2.2.1)) (vU l_2) undef from hV 15 (by decide))
      replace hS := hS.conv (t := 116) rfl (show (vals1 19) = cond (((f_2.1 == s0_3.1) && s0_4) && (!s0_2.2.1)) (vU x.last) undef from hV 19 (by decide))
      replace hS := hS.conv (t := 110) rfl (show (vals1 13) = vT (((f_2.1 == s0_3.1) && s0_4) && (!s0_2.2.1)) from hV 13 (by decide))
      refine L_gw (p := (((f_2.1 == s0_3.1) && s0_4) && (!s0_2.2.1))) hS rfl rfl rfl (wantB_t _) (fun hp => ?_) (fun hp => ⟨by rw [hp]; rfl, hG⟩)
      replace hS := hS.conv (t := 112) rfl (cond_t hp)
      replace hS := hS.conv (t := 116) rfl (cond_t hp)
      exact L_val hS rfl (Ob_c tRfWF rfl) ⟨(by rw [hp]; rfl), hG⟩
     refine .cons (fun ss hlo hhi vals1 xw hG hV => ?_) ?_
     ·obtain rfl : ss = 2 := Nat.le_antisymm hhi hlo
      rw [← hfe]
      have hS := (hfr vals1).sub (ts := [110, 117]) rfl
      replace hS := hS.conv (t := 110) rfl (show (vals1 13) = vT (((f_2.1 == s0_3.1) && s0_4) && (!s0_2.2.1)) from hV 13 (by decide))
      replace hS := hS.conv (t := 117) rfl (show (vals1 20) = cond (((f_2.1 == s0_3.1) && s0_4) && (!s0_2.2.1)) (vT (l_2 == x.last)) undef from hV 20 (by decide))
      exact L_val hS rfl (Ob_pick rfl rfl rfl rfl (pick_and _ _)) ⟨rfl, hG⟩
     refine .cons (fun ss hlo hhi vals1 xw hG hV => ?_) ?_
     ·obtain rfl : ss = 2 := Nat.le_antisymm hhi hlo
      rw [← hfe]
      have hS := (hfr vals1).sub (ts := [118]) rfl
      replace hS := hS.conv (t := 118) rfl (show (vals1 21) = vT ((((f_2.1 == s0_3.1) && s0_4) && (!s0_2.2.1)) && (l_2 == x.last)) from hV 21 (by decide))
      exact L_val hS rfl (Ob_c tRfWF rfl) ⟨rfl, hG⟩
     refine .cons (fun ss hlo hhi vals1 xw hG hV => ?_) ?_
     ·obtain rfl : ss = 2 := Nat.le_antisymm hhi hlo
      rw [← hfe]
      have hS := (hfr vals1).sub (ts := [119, 9]) rfl
      replace hS := hS.conv (t := 119) rfl (show (vals1 22) = vT ((((f_2.1 == s0_3.1) && s0_4) && (!s0_2.2.1)) && (l_2 == x.last)) from hV 22 (by decide))
      refine L_gw (p := ((((f_2.1 == s0_3.1) && s0_4) && (!s0_2.2.1)) && (l_2 == x.last))) hS rfl rfl rfl (wantB_t _) (fun hp => ?_) (fun hp => ⟨by rw [hp]; rfl, hG⟩)
      exact L_val hS rfl (Ob_c tRfWF rfl) ⟨(by rw [hp]; rfl), hG⟩
     refine .cons (fun ss hlo hhi vals1 xw hG hV => ?_) ?_
     ·obtain rfl : ss = 2 := Nat.le_antisymm hhi hlo
      rw [← hfe]
      have hS := (hfr vals1).sub (ts := [120, 119]) rfl
      replace hS := hS.conv (t := 120) rfl (show (vals1 23) = cond ((((f_2.1 == s0_3.1) && s0_4) && (!s0_2.2.1)) && (l_2 == x.last)) (pp g2 0) undef from hV 23 (by decide))
      replace hS := hS.conv (t := 119) rfl (show (vals1 22) = vT ((((f_2.1 == s0_3.1) && s0_4) && (!s0_2.2.1)) && (l_2 == x.last)) from hV 22 (by decide))
      refine L_gw (p := ((((f_2.1 == s0_3.1) && s0_4) && (!s0_2.2.1)) && (l_2 == x.last))) hS rfl rfl rfl (wantB_t _) (fun hp => ?_) (fun hp => ⟨by rw [hp]; rfl, ?_⟩)
      ·obtain ⟨I2, hI2, H⟩ := Gx.ex hG
       replace hS := hS.conv (t := 120) rfl (cond_t hp)
       refine L_hcall H (js := [(0, false)]) rfl (caps := #[]) hS fn_22_YRfWF rfl rfl rfl rfl rfl (fun D1 hS => have hq := c_mvcc_Store_Cells (gif_in hx15 hp) hS; hq) fun _ yw D1 hr hF2 => ?_
       obtain ⟨rfl, I3, K⟩ := hr
       obtain ⟨hK, H2⟩ := hF2 K
       exact ⟨by rw [hp]; rfl, by first | (rw [hp] at H2 ⊢; exact Gx.go hG hI2 hK K.imm H2) | (rw [hp]; exact Gx.go hG hI2 hK K.imm H2) | exact Gx.go hG hI2 hK K.imm H2⟩
      ·(try rw [hp]); obtain ⟨I2, hI2, H⟩ := Gx.ex hG; (try rw [hp] at H); exact Gx.go hG hI2 (Keep.refl _ _) (fun _ h => h) (H.sub [(0, false), (0, false), (0, true), (1, false), (1, false), (1, true)] rfl)
     refine .cons (fun ss hlo hhi vals1 xw hG hV => ?_) ?_
     ·obtain rfl | rfl : ss = 2 ∨ ss = 3 := st1 hlo hhi
      all_goals
      ·rw [← hfe]
       have hS := (hfr vals1).sub (ts := [119, 10]) rfl
       replace hS := hS.conv (t := 119) rfl (show (vals1 22) = vT ((((f_2.1 == s0_3.1) && s0_4) && (!s0_2.2.1)) && (l_2 == x.last)) from hV 22 (by decide))
       refine L_gw (p := ((((f_2.1 == s0_3.1) && s0_4) && (!s0_2.2.1)) && (l_2 == x.last))) hS rfl rfl rfl (wantB_t _) (fun hp => ?_) (fun hp => ⟨by rw [hp]; rfl, hG⟩)
       exact L_val hS rfl (Ob_c tRfWF rfl) ⟨(by rw [hp]; rfl), hG⟩
     refine .cons (fun ss hlo hhi vals1 xw hG hV => ?_) ?_
     ·obtain rfl : ss = 3 := Nat.le_antisymm hhi hlo
      rw [← hfe]
      have hS := (hfr vals1).sub (ts := [122, 119]) rfl
      replace hS := hS.conv (t := 122) rfl (show (vals1 25) = cond ((((f_2.1 == s0_3.1) && s0_4) && (!s0_2.2.1)) && (l_2 == x.last)) (pp b1 0) undef from hV 25 (by decide))
      replace hS := hS.conv (t := 119) rfl (show (vals1 22) = vT ((((f_2.1 == s0_3.1) && s0_4) && (!s0_2.2.1)) && (l_2 == x.last)) from hV 22 (by decide))
      refine L_gw (p := ((((f_2.1 == s0_3.1) && s0_4) && (!s0_2.2.1)) && (l_2 == x.last))) hS rfl rfl rfl (wantB_t _) (fun hp => ?_) (fun hp => ⟨by rw [hp]; rfl, ?_⟩)
      ·obtain ⟨I2, hI2, H⟩ := Gx.ex hG
       replace hS := hS.conv (t := 122) rfl (cond_t hp)
       refine L_hcall H (js := [(3, false)]) rfl (caps := #[]) hS fn_23_YRfWF rfl rfl rfl rfl rfl (fun D1 hS => have hq := c_ref16_Store_Cells (gif_in hx16 hp) hS; hq) fun _ yw D1 hr hF2 => ?_
       obtain ⟨rfl, I3, K⟩ := hr
       obtain ⟨hK, H2⟩ := hF2 K
       exact ⟨by rw [hp]; rfl, by first | (rw [hp] at H2 ⊢; exact Gx.go hG hI2 hK K.imm H2) | (rw [hp]; exact Gx.go hG hI2 hK K.imm H2) | exact Gx.go hG hI2 hK K.imm H2⟩
      ·(try rw [hp]); obtain ⟨I2, hI2, H⟩ := Gx.ex hG; (try rw [hp] at H); exact Gx.go hG hI2 (Keep.refl _ _) (fun _ h => h) (H.sub [(3, false), (0, false), (0, false), (0, true), (1, false), (1, true)] rfl)
     refine .cons (fun ss hlo hhi vals1 xw hG hV => ?_) ?_
     ·obtain rfl : ss = 4 := Nat.le_antisymm hhi hlo
      rw [← hfe]
      have hS := (hfr vals1).sub (ts := [121, 123, 119]) rfl
      replace hS := hS.conv (t := 121) rfl (show (vals1 24) = cond ((((f_2.1 == s0_3.1) && s0_4) && (!s0_2.2.1)) && (l_2 == x.last)) (vI c) undef from hV 24 (by decide))
      replace hS := hS.conv (t := 123) rfl (show (vals1 26) = cond ((((f_2.1 == s0_3.1) && s0_4) && (!s0_2.2.1)) && (l_2 == x.last)) (vI c_2) undef from hV 26 (by decide))
      replace hS := hS.conv (t := 119) rfl (show (vals1 22) = vT ((((f_2.1 == s0_3.1) && s0_4) && (!s0_2.2.1)) && (l_2 == x.last)) from hV 22 (by decide))
      refine L_gw (p := ((((f_2.1 == s0_3.1) && s0_4) && (!s0_2.2.1)) && (l_2 == x.last))) hS rfl rfl rfl (wantB_t _) (fun hp => ?_) (fun hp => ⟨by rw [hp]; rfl, hG⟩)
      replace hS := hS.conv (t := 121) rfl (cond_t hp)
      replace hS := hS.conv (t := 123) rfl (cond_t hp)
      exact L_val hS rfl (Ob_c tRfWF rfl) ⟨(by rw [hp]; rfl), hG⟩
     refine .cons (fun ss hlo hhi vals1 xw hG hV => ?_) ?_
     ·obtain rfl : ss = 4 := Nat.le_antisymm hhi hlo
      rw [← hfe]
      have hS := (hfr vals1).sub (ts := [119, 124]) rfl
      replace hS := hS.conv (t := 119) rfl (show (vals1 22) = vT ((((f_2.1 == s0_3.1) && s0_4) && (!s0_2.2.1)) && (l_2 == x.last)) from hV 22 (by decide))
      replace hS := hS.conv (t := 124) rfl (show (vals1 27) = cond ((((f_2.1 == s0_3.1) && s0_4) && (!s0_2.2.1)) && (l_2 == x.last)) (vT (c == c_2)) undef from hV 27 (by decide))
      exact L_val hS rfl (Ob_pick rfl rfl rfl rfl (pick_and _ _)) ⟨rfl, hG⟩
     refine .cons (fun ss hlo hhi vals1 xw hG hV => ?_) ?_
     ·obtain rfl : ss = 4 := Nat.le_antisymm hhi hlo
      rw [← hfe]
      have hS := (hfr vals1).sub (ts := [125]) rfl
      replace hS := hS.conv (t := 125) rfl (show (vals1 28) = vT (((((f_2.1 == s0_3.1) && s0_4) && (!s0_2.2.1)) && (l_2 == x.last)) && (c == c_2)) from hV 28 (by decide))
      exact L_val hS rfl (Ob_c tRfWF rfl) ⟨rfl, hG⟩
     refine .cons (fun ss hlo hhi vals1 xw hG hV => ?_) ?_
     ·obtain rfl : ss = 4 := Nat.le_antisymm hhi hlo
      rw [← hfe]
      have hS := (hfr vals1).sub (ts := [126]) rfl
      replace hS := hS.conv (t := 126) rfl (show (vals1 29) = vT (((((f_2.1 == s0_3.1) && s0_4) && (!s0_2.2.1)) && (l_2 == x.last)) && (c == c_2)) from hV 29 (by decide))
      refine L_gw (p := (((((f_2.1 == s0_3.1) && s0_4) && (!s0_2.2.1)) && (l_2 == x.last)) && (c == c_2))) hS rfl rfl rfl (wantB_t _) (fun hp => ?_) (fun hp => ⟨by rw [hp]; rfl, hG⟩)
      obtain ⟨I2, hI2, H⟩ := Gx.ex hG
      refine L_call (caps := #[]) hS fn_7_YRfWF rfl rfl rfl rfl rfl ((have hq := c_law30_awake (gif_in hx17 hp) ((H).pick0 (js := []) rfl rfl); plainC hq)) fun r yw hr => ?_
      obtain ⟨rfl, hb⟩ := hr
      exact ⟨(by rw [hp]; rfl), Gx.blw hG hb⟩
     refine .cons (fun ss hlo hhi vals1 xw hG hV => ?_) ?_
     ·obtain rfl : ss = 4 := Nat.le_antisymm hhi hlo
      rw [← hfe]
      have hS := (hfr vals1).sub (ts := [126, 127]) rfl
      replace hS := hS.conv (t := 126) rfl (show (vals1 29) = vT (((((f_2.1 == s0_3.1) && s0_4) && (!s0_2.2.1)) && (l_2 == x.last)) && (c == c_2)) from hV 29 (by decide))
      replace hS := hS.conv (t := 127) rfl (show (vals1 30) = cond (((((f_2.1 == s0_3.1) && s0_4) && (!s0_2.2.1)) && (l_2 == x.last)) && (c == c_2)) (vT a0_4) undef from hV 30 (by decide))
      exact L_val hS rfl (Ob_pick rfl rfl rfl rfl (pick_and _ _)) ⟨rfl, hG⟩
     refine .cons (fun ss hlo hhi vals1 xw hG hV => ?_) ?_
     ·obtain rfl : ss = 4 := Nat.le_antisymm hhi hlo
      rw [← hfe]
      have hS := (hfr vals1).sub (ts := [128]) rfl
      replace hS := hS.conv (t := 128) rfl (show (vals1 31) = vT ((((((f_2.1 == s0_3.1) && s0_4) && (!s0_2.2.1)) && (l_2 == x.last)) && (c == c_2)) && a0_4) from hV 31 (by decide))
      exact L_val hS rfl (Ob_c tRfWF rfl) ⟨rfl, hG⟩
     exact .nil
    ·intro vals1 a w17 Z hG hV
     replace Z := Z.sub (ts := [6]) (S' := [(6, vals1 32)]) rfl
     replace Z := Z.conv (t := 6) rfl (show (vals1 32) = vT ((((((f_2.1 == s0_3.1) && s0_4) && (!s0_2.2.1)) && (l_2 == x.last)) && (c == c_2)) && a0_4) from hV 32 (by decide))
     obtain ⟨I15, _, H⟩ := Gx.ex hG
     clear hG hV
     replace Z := Z.sub (ts := [6]) rfl
     replace H := H.nf rfl; try dsimp only at H
     refine p_then (wp_ret ?_)
     obtain rfl := some_in hF
     exact f_ret Z (run_results1 rfl Z rfl) ⟨rfl, I15, (H.sub [] rfl).eq rfl⟩

theorem awakeF : F_law30_awake = some true := by kernel_rfl

end Go.Proofs.Ytglfajjcgbfehaa
