/- Messages: the law of there and back. -/
import Derived.Test.YthmjkcdpbbcdgaaYMs1
import Derived.Test.YthmjkcdpbbcdgaaYMs2
import Derived.Test.YthmjkcdpbbcdgaaYMs3
import Derived.Test.YthmjkcdpbbcdgaaYMs4
namespace Go.Proofs.Ythmjkcdpbbcdgaa
open Go.RowKit
def tMsWBL : TabL := ⟨[(26625, 1), (29698, 2), (34818, 2), (34821, 5), (34823, 7), (34829, 13), (34830, 16), (34831, 19), (34832, 20), (34833, 21), (69632, 0)], [9], [], [(24, (103, 2)), (27, (126, 3)), (30, (68, 4)), (31, (22, 1)), (32, (82, 2))], [(3, (1, false)), (22, (1, false)), (24, (1, false)), (27, (1, false)), (30, (1, false)), (31, (1, false)), (32, (1, false)), (34, (22, true))]⟩

def tMsWB : Tab Try.prog := ⟨tMsWBL, by kernel_rfl⟩

theorem fn_4_YMsWB : IsFn Try.prog 4 := ⟨_, Try.func4, by kernel_rfl, by kernel_rfl⟩

theorem fn_5_YMsWB : IsFn Try.prog 5 := ⟨_, Try.func5, by kernel_rfl, by kernel_rfl⟩

theorem fn_6_YMsWB : IsFn Try.prog 6 := ⟨_, Try.func6, by kernel_rfl, by kernel_rfl⟩

theorem fn_7_YMsWB : IsFn Try.prog 7 := ⟨_, Try.func7, by kernel_rfl, by kernel_rfl⟩

theorem fn_8_YMsWB : IsFn Try.prog 8 := ⟨_, Try.func8, by kernel_rfl, by kernel_rfl⟩

theorem fn_9_YMsWB : IsFn Try.prog 9 := ⟨_, Try.func9, by kernel_rfl, by kernel_rfl⟩

theorem fn_10_YMsWB : IsFn Try.prog 10 := ⟨_, Try.func10, by kernel_rfl, by kernel_rfl⟩

def F_law09_awake : Option Bool := (F_mess_Put ({ (default : EMsg) with k := 6, req := 1, at_ := 5, n := 9 } : EMsg)).bind fun p => ((F_mess_Of p.1).bind fun o => (some ((((((seqB p.1 ⟨#[6, 1, 5]⟩) && (p.2 == 0)) && (o.2 == 0)) && (o.1.req == 1)) && (o.1.at_ == 5)) && (o.1.n == 0))))

set_option maxHeartbeats 1000000 in
theorem c_law09_awake {I D : Dm} {w : World} {rr : Bool} (hF : F_law09_awake = some rr) (H : St I D w []) :
  Calls Try.prog 5 #[] w (Ret fun vv w' => vv = vT rr ∧ ∃ I', Hf I D w I' w' []) := by
 replace H := H.hf
 unfold F_law09_awake at hF
 refine f_enter 40 Try.func5 rfl rfl (Nat.le_of_ble_eq_true rfl) fun a Z => ?_
 replace Z := Z.sub (ts := []) rfl
 refine wp_seq (f_region Z ?_); clear Z; intro Z
 refine s_runk tMsWB Z 1 rfl rfl fun a Z => ?_
 refine s_end Z [] rfl fun Z => ?_
 refine p_then (wp_seq ?_)
 obtain ⟨p, hx1, hF⟩ := bnd_in hF
 refine f_region Z fun Z => ?_
 refine sO Z (.agg #[vI 6, vI 0, vI 1, vI 0, vT false, vU 5, vU 0, vI 9, vI 0, vI 0, vI 0, vS ByteArray.empty, vS ByteArray.empty, vI 0, nS, vU 0, vI 0, vI 0, nS, nS, nS, nS]) rfl (Ob_build (vs := [(0, vI 6), (2, vI 1), (5, vU 5), (7, vI 9)]) rfl rfl (by go_simp <;> rfl)) fun a Z => ?_
 replace H := H.slNil NEMember
 replace H := H.slNil NEOp
 replace H := H.slNil NEEntry
 replace H := H.slNil Nu64
 replace H := H.slNil NEPair
 refine hC Z H [(4, true), (3, true), (2, true), (1, true), (0, true)] rfl #[] fn_6_YMsWB rfl rfl (fun D h => have q := c_mess_Put hx1 h; q) fun vv a w1 D2 hr hF2 Z => ?_
 obtain ⟨rfl, I1, K⟩ := hr
 have H := (hF2 K).nf rfl
 refine s_runk tMsWB Z 5 rfl rfl fun a Z => ?_
 refine s_end Z [1, 2] rfl fun Z => ?_
 refine p_then (wp_seq ?_)
 obtain ⟨o, hx2, hF⟩ := bnd_in hF
 refine f_region Z fun Z => ?_
 refine s_runk tMsWB Z 1 rfl rfl fun a Z => ?_
 refine hC Z H [] rfl #[] fn_7_YMsWB rfl rfl (fun D h => have q := c_mess_Of hx2 h; q) fun vv a w2 D2 hr hF2 Z => ?_
 obtain ⟨q1, q2, q3, q4, q5, rfl, I2, K⟩ := hr
 have H := (hF2 K).nf rfl
 refine s_runk tMsWB Z 3 rfl rfl fun a Z => ?_
 refine hA Z H [vI 0, vI 0, vI 0, vI 0, vT false, vU 0, vU 0, vI 0, vI 0, vI 0, vI 0, vS ByteArray.empty, vS ByteArray.empty, vI 0, nS, vU 0, vI 0, vI 0, nS, nS, nS, nS] rfl rfl (by kernel_rfl) fun a w3 b1 H Z => ?_
 refine hT tMsWB Z H 0 rfl rfl rfl rfl rfl (onR 14 rfl (one_cons (slS.one (H.slshape 1 rfl)) (onR 3 rfl (one_cons (slS.one (H.slshape 2 rfl)) (one_cons (slS.one (H.slshape 3 rfl)) (one_cons (slS.one (H.slshape 4 rfl)) (one_cons (slS.one (H.slshape 5 rfl)) one_nil))))))) (Nat.le_of_ble_eq_true rfl) (putCells_all rfl) fun w4 H => ?_
 dsimp only [List.eraseIdx] at H
 refine s_runk tMsWB Z 1 rfl rfl fun a Z => ?_
 refine s_end Z [1, 2, 3, 4] rfl fun Z => ?_
 refine p_then (wp_seq (f_region Z ?_)); clear Z; intro Z
 refine s_runk tMsWB Z 3 rfl rfl fun a Z => ?_
 refine gO Z (vI p.2) rfl (wantB_t _) (.n 2 rfl .z) (fun hp => Ob_c tMsWB rfl) fun a Z => ?_
 refine gO Z (vT (p.2 == 0)) rfl (wantB_t _) (.c 18 rfl id .z) (fun hp => Ob_c tMsWB rfl) fun a Z => ?_
 refine sO Z (vT ((seqB p.1 ⟨#[6, 1, 5]⟩) && (p.2 == 0))) rfl (Ob_pick rfl rfl rfl rfl (pick_and _ _)) fun a Z => ?_
 refine s_runk tMsWB Z 1 rfl rfl fun a Z => ?_
 refine gO Z (vI o.2) rfl (wantB_t _) (.n 4 rfl .z) (fun hp => Ob_c tMsWB rfl) fun a Z => ?_
 refine gO Z (vT (o.2 == 0)) rfl (wantB_t _) (.c 22 rfl id .z) (fun hp => Ob_c tMsWB rfl) fun a Z => ?_
 refine sO Z (vT (((seqB p.1 ⟨#[6, 1, 5]⟩) && (p.2 == 0)) && (o.2 == 0))) rfl (Ob_pick rfl rfl rfl rfl (pick_and _ _)) fun a Z => ?_
 refine s_runk tMsWB Z 1 rfl rfl fun a Z => ?_
 refine gO Z (pp b1 2) rfl (wantB_t _) (.n 3 rfl .z) (fun hp => Ob_c tMsWB rfl) fun a Z => ?_
 refine gO Z _ rfl (wantB_t _) (.c 26 rfl id .z) (fun hp => oL tMsWB rfl rfl (H.bc 0 2 rfl rfl)) fun a Z => ?_
 refine gO Z (vT (o.1.req == 1)) rfl (wantB_t _) (.c 27 rfl id .z) (fun hp => Ob_c tMsWB rfl) fun a Z => ?_
 refine sO Z (vT ((((seqB p.1 ⟨#[6, 1, 5]⟩) && (p.2 == 0)) && (o.2 == 0)) && (o.1.req == 1))) rfl (Ob_pick rfl rfl rfl rfl (pick_and _ _)) fun a Z => ?_
 refine s_runk tMsWB Z 1 rfl rfl fun a Z => ?_
 refine gO Z (pp b1 5) rfl (wantB_t _) (.n 3 rfl .z) (fun hp => Ob_c tMsWB rfl) fun a Z => ?_
 refine gO Z _ rfl (wantB_t _) (.c 31 rfl id .z) (fun hp => oL tMsWB rfl rfl (H.bc 0 5 rfl rfl)) fun a Z => ?_
 refine gO Z (vT (o.1.at_ == 5)) rfl (wantB_t _) (.c 32 rfl id .z) (fun hp => Ob_c tMsWB rfl) fun a Z => ?_
 refine sO Z (vT (((((seqB p.1 ⟨#[6, 1, 5]⟩) && (p.2 == 0)) && (o.2 == 0)) && (o.1.req == 1)) && (o.1.at_ == 5))) rfl (Ob_pick rfl rfl rfl rfl (pick_and _ _)) fun a Z => ?_
 refine s_runk tMsWB Z 1 rfl rfl fun a Z => ?_
 refine gO Z (pp b1 7) rfl (wantB_t _) (.n 3 rfl .z) (fun hp => Ob_c tMsWB rfl) fun a Z => ?_
 refine gO Z _ rfl (wantB_t _) (.c 36 rfl id .z) (fun hp => oL tMsWB rfl rfl (H.bc 0 7 rfl rfl)) fun a Z => ?_
 refine gO Z (vT (o.1.n == 0)) rfl (wantB_t _) (.c 37 rfl id .z) (fun hp => Ob_c tMsWB rfl) fun a Z => ?_
 refine sO Z (vT ((((((seqB p.1 ⟨#[6, 1, 5]⟩) && (p.2 == 0)) && (o.2 == 0)) && (o.1.req == 1)) && (o.1.at_ == 5)) && (o.1.n == 0))) rfl (Ob_pick rfl rfl rfl rfl (pick_and _ _)) fun a Z => ?_
 refine s_runk tMsWB Z 1 rfl rfl fun a Z => ?_
 refine s_end Z [0] rfl fun Z => ?_
 refine p_then (wp_ret ?_)
 obtain rfl := some_in hF
 exact f_ret Z (run_results1 rfl Z rfl) ⟨rfl, I2, (H.sub [] rfl).eq rfl⟩

def F_law08_Much_l1 (l : List EEntry) (rc : (Int × Int) → Option Int) (sg : Int × Int) : Option Int := match sg with | (n0, i) => if ((decide (i < (l.length : Int))) && (decide (i < 200))) = true then (chk ((0 : Int) ≤ i ∧ i < (l.length : Int)) (chk (inI (n0 + ((((l.getD (i).toNat default).batch).ops).length : Int))) (chk (inI (i + 1)) (rc (n0 + ((((l.getD (i).toNat default).batch).ops).length : Int), i + 1))))) else (some n0)

def F_law08_Much (l : List EEntry) : Option Int := iter (F_law08_Much_l1 l) FU ((l.length : Int), 0)

set_option maxHeartbeats 1000000 in
theorem c_law08_Much {I D : Dm} {l : List EEntry} {v1_l : Value} {w : World} {rr : Int} (hF : F_law08_Much l = some rr) (H : St I D w [SlC NEEntry v1_l l]) :
  Calls Try.prog 10 #[v1_l] w (Ret fun vv w' => vv = vI rr ∧ ∃ I', Hf I D w I' w' []) := by
 replace H := H.hf
 unfold F_law08_Much at hF
 refine f_enter 27 Try.func10 rfl rfl (Nat.le_of_ble_eq_true rfl) fun a Z => ?_
 replace Z := Z.sub (ts := [0]) rfl
 refine wp_seq (f_region Z ?_); clear Z; intro Z
 refine s_runk tMsWB Z 1 rfl rfl fun a Z => ?_
 refine s_end Z [0] rfl fun Z => ?_
 refine p_then (wp_seq (f_region Z ?_)); clear Z; intro Z
 refine s_runk tMsWB Z 1 rfl rfl fun a Z => ?_
 refine sO Z (vI (ln l)) rfl (Ob_slen tMsWB rfl rfl rfl (H.slshape 0 rfl)) fun a Z => ?_
 refine s_runk tMsWB Z 1 rfl rfl fun a Z => ?_
 refine s_end Z [0, 3] rfl fun Z => ?_
 refine p_then (wp_seq ?_)
 refine wp_seq (f_region Z ?_); clear Z; intro Z
 refine s_runk tMsWB Z 1 rfl rfl fun a Z => ?_
 refine s_end Z [0, 3, 4] rfl fun Z => ?_
 refine p_then (wp_block ?_)
 refine f_iter hF (fun sg a' w' => match sg with | (n0, i) => Sl 27 [(0, v1_l), (3, vI n0), (4, vI i)] a' ∧ ∃ I2, Hf I D w I2 w' [SlC NEEntry v1_l l]) ⟨Z.sub (ts := [0, 3, 4]) rfl, ⟨I, (H.sub [(0, true)] rfl).eq rfl⟩⟩ ?_
 rintro rc ⟨n0, i⟩ a w1 ⟨Z, I1, H⟩ hF
 unfold F_law08_Much_l1 at hF
 try dsimp only at hF
 refine wp_seq ?_
 refine wp_seq (f_region Z ?_); clear Z; intro Z
 refine s_runk tMsWB Z 2 rfl rfl fun a Z => ?_
 refine sO Z (vI (ln l)) rfl (Ob_slen tMsWB rfl rfl rfl (H.slshape 0 rfl)) fun a Z => ?_
 refine s_runk tMsWB Z 2 rfl rfl fun a Z => ?_
 refine gO Z (vI i) rfl (wantB_t _) (.n 4 rfl .z) (fun hp => Ob_c tMsWB rfl) fun a Z => ?_
 refine gO Z (vT (decide (i < 200))) rfl (wantB_t _) (.c 12 rfl id .z) (fun hp => Ob_c tMsWB rfl) fun a Z => ?_
 refine sO Z (vT ((decide (i < (ln l))) && (decide (i < 200)))) rfl (Ob_pick rfl rfl rfl rfl (pick_and _ _)) fun a Z => ?_
 refine s_end Z [0, 3, 4, 14] rfl fun Z => ?_
 refine p_then ?_
 refine f_cond Z rfl (fun hc1 => ?_) (fun hc1 => ?_)
 ·replace hF := ite_t hc1 hF
  refine wp_skip ?_
  refine p_then (wp_seq ?_)
  refine wp_block ?_
  obtain ⟨hg1, hF⟩ := chk_in hF
  obtain ⟨hg2, hF⟩ := chk_in hF
  refine f_region Z fun Z => ?_
  refine s_runk tMsWB Z 3 rfl rfl fun a Z => ?_
  refine sO Z (.pointer (some ⟨blkOf v1_l, oofOf v1_l + (i).toNat * 4, none⟩)) rfl (Ob_sidx tMsWB rfl rfl rfl rfl (slPl (H.sl 0 rfl) hg1) hg1) fun a Z => ?_
  refine s_runk tMsWB Z 2 rfl rfl fun a Z => ?_
  obtain ⟨_, ⟨u1, rfl, L1⟩, H⟩ := H.elG 0 rfl (i) (NEEntry.dft _ _)
  replace H := H.addsl L1
  replace H : Hf I D w I1 w1 [SlC NEOp u1 (((gi l i).batch).ops), AtG ((0 : Int) ≤ i ∧ i < (ln l)) (blkOf v1_l) (oofOf v1_l + (i).toNat * 4) (cEEntry (gi l i) u1), SlC NEEntry v1_l l] := H
  refine sO Z u1 rfl (oL tMsWB rfl rfl ((H.atg 1 rfl hg1) 2 _ rfl)) fun a Z => ?_
  refine sO Z (vI ((((gi l i).batch).ops).length : Int)) rfl (Ob_slen tMsWB rfl rfl rfl (H.slshape 0 rfl)) fun a Z => ?_
  refine sO Z (vI (n0 + ((((gi l i).batch).ops).length : Int))) rfl (Ob_add rfl rfl rfl (wrI hg2)) fun a Z => ?_
  refine s_runk tMsWB Z 1 rfl rfl fun a Z => ?_
  refine s_end Z [0, 3, 4] rfl fun Z => ?_
  refine p_blk ?_
  refine p_then ?_
  obtain ⟨hg3, hF⟩ := chk_in hF
  refine f_region Z fun Z => ?_
  refine s_runk tMsWB Z 1 rfl rfl fun a Z => ?_
  refine sO Z (vI (i + 1)) rfl (Ob_add rfl rfl rfl (wrI hg3)) fun a Z => ?_
  refine s_runk tMsWB Z 1 rfl rfl fun a Z => ?_
  refine s_end Z [0, 3, 4] rfl fun Z => ?_
  refine p_then ?_
  exact ⟨(n0 + ((((gi l i).batch).ops).length : Int), i + 1), ⟨Z.sub (ts := [0, 3, 4]) rfl, ⟨I1, (H.sub [(2, true)] rfl).eq rfl⟩⟩, hF⟩
 ·replace hF := ite_f hc1 hF
  refine wp_exit ?_
  refine p_then_x ?_
  refine p_then_x ?_
  refine f_exit_here ?_
  refine p_then (wp_seq (f_region Z ?_)); clear Z; intro Z
  refine s_runk tMsWB Z 2 rfl rfl fun a Z => ?_
  refine s_end Z [2] rfl fun Z => ?_
  refine p_then (wp_ret ?_)
  obtain rfl := some_in hF
  exact f_ret Z (run_results1 rfl Z rfl) ⟨rfl, I1, (H.sub [] rfl).eq rfl⟩

def F_law09_much (m : EMsg) : Option Bool := (gif (!((decide ((m.conf.members.length : Int) > 20)) || (decide ((m.batch.ops.length : Int) > 20)))) (F_law08_Much m.entries) default).bind fun m_2 => (some (((((decide ((m.conf.members.length : Int) > 20)) || (decide ((m.batch.ops.length : Int) > 20))) || (decide (m_2 > 100))) || (decide ((m.stamps.length : Int) > 60))) || (decide ((m.pairs.length : Int) > 60))))

set_option maxHeartbeats 1000000 in
theorem c_law09_much {I D : Dm} {m : EMsg} {v1_m : Value} {v2_m : Value} {v3_m : Value} {v4_m : Value} {v5_m : Value} {w : World} {rr : Bool} (hF : F_law09_much m = some rr) (H : St I D w [SlC NEMember v1_m m.conf.members, SlC NEOp v2_m m.batch.ops, SlC NEEntry v3_m m.entries, SlC Nu64 v4_m m.stamps, SlC NEPair v5_m m.pairs]) :
  Calls Try.prog 4 #[.agg (cEMsg m v1_m v2_m v3_m v4_m v5_m).toArray] w (Ret fun vv w' => vv = vT rr ∧ ∃ I', Hf I D w I' w' []) := by
 replace H := H.hf
 unfold F_law09_much at hF
 refine f_enter 33 Try.func4 rfl rfl (Nat.le_of_ble_eq_true rfl) fun a Z => ?_
 replace Z := Z.sub (ts := [0]) rfl
 refine wp_seq (f_region Z ?_); clear Z; intro Z
 refine h_boxv Z H (cl := (cEMsg m v1_m v2_m v3_m v4_m v5_m)) rfl rfl rfl (by decide) rfl rfl rfl fun a w1 b1 H Z => ?_
 refine s_runk tMsWB Z 1 rfl rfl fun a Z => ?_
 refine s_end Z [1] rfl fun Z => ?_
 refine p_then (wp_seq ?_)
 obtain ⟨m_2, hx1, hF⟩ := bnd_in hF
 refine f_region Z fun Z => ?_
 refine s_runk tMsWB Z 2 rfl rfl fun a Z => ?_
 refine sO Z _ rfl (oL tMsWB rfl rfl (H.bc 0 14 rfl rfl)) fun a Z => ?_
 refine sO Z (vI (ln m.conf.members)) rfl (Ob_slen tMsWB rfl rfl rfl (H.slshape 1 rfl)) fun a Z => ?_
 refine s_runk tMsWB Z 2 rfl rfl fun a Z => ?_
 refine gO Z (pp b1 16) rfl (wantB_f _) (.n 1 rfl .z) (fun hp => Ob_c tMsWB rfl) fun a Z => ?_
 refine gO Z (pp b1 18) rfl (wantB_f _) (.c 9 rfl id .z) (fun hp => Ob_c tMsWB rfl) fun a Z => ?_
 refine gO Z _ rfl (wantB_f _) (.c 10 rfl id .z) (fun hp => oL tMsWB rfl rfl (H.bc 0 18 rfl rfl)) fun a Z => ?_
 refine gO Z (vI (ln m.batch.ops)) rfl (wantB_f _) (.c 11 rfl id .z) (fun hp => Ob_slen tMsWB rfl rfl rfl (H.slshape 2 rfl)) fun a Z => ?_
 refine gO Z (vT (decide ((ln m.batch.ops) > 20))) rfl (wantB_f _) (.c 12 rfl id .z) (fun hp => Ob_c tMsWB rfl) fun a Z => ?_
 refine sO Z (vT ((decide ((ln m.conf.members) > 20)) || (decide ((ln m.batch.ops) > 20)))) rfl (Ob_pick rfl rfl rfl rfl (pick_or _ _)) fun a Z => ?_
 refine s_runk tMsWB Z 1 rfl rfl fun a Z => ?_
 refine gO Z (pp b1 19) rfl (wantB_f _) (.n 1 rfl .z) (fun hp => Ob_c tMsWB rfl) fun a Z => ?_
 refine gO Z _ rfl (wantB_f _) (.c 16 rfl id .z) (fun hp => oL tMsWB rfl rfl (H.bc 0 19 rfl rfl)) fun a Z => ?_
 refine g_call Z (p := (!((decide ((ln m.conf.members) > 20)) || (decide ((ln m.batch.ops) > 20))))) (v := vI m_2) (S' := [(17, v3_m)]) (caps := #[]) fn_10_YMsWB rfl rfl rfl (wantB_f _) rfl (by decide) (fun hp hS => (hS.conv (t := 17) rfl (cond_t hp)).sub (ts := [17]) rfl) rfl rfl rfl rfl (fun hp => (have hq := c_law08_Much (gif_in hx1 hp) ((H).pick0 (js := [(3, true)]) rfl rfl); plainC hq)) fun a w2 hb Z => ?_
 replace H := H.blw hb
 clear hb
 refine gO Z (vT (decide (m_2 > 100))) rfl (wantB_f _) (.c 18 rfl id .z) (fun hp => Ob_c tMsWB rfl) fun a Z => ?_
 refine sO Z (vT (((decide ((ln m.conf.members) > 20)) || (decide ((ln m.batch.ops) > 20))) || (decide (m_2 > 100)))) rfl (Ob_pick rfl rfl rfl rfl (pick_or _ _)) fun a Z => ?_
 refine s_runk tMsWB Z 1 rfl rfl fun a Z => ?_
 refine gO Z (pp b1 20) rfl (wantB_f _) (.n 1 rfl .z) (fun hp => Ob_c tMsWB rfl) fun a Z => ?_
 refine gO Z _ rfl (wantB_f _) (.c 22 rfl id .z) (fun hp => oL tMsWB rfl rfl (H.bc 0 20 rfl rfl)) fun a Z => ?_
 refine gO Z (vI (ln m.stamps)) rfl (wantB_f _) (.c 23 rfl id .z) (fun hp => Ob_slen tMsWB rfl rfl rfl (H.slshape 4 rfl)) fun a Z => ?_
 refine gO Z (vT (decide ((ln m.stamps) > 60))) rfl (wantB_f _) (.c 24 rfl id .z) (fun hp => Ob_c tMsWB rfl) fun a Z => ?_
 refine sO Z (vT ((((decide ((ln m.conf.members) > 20)) || (decide ((ln m.batch.ops) > 20))) || (decide (m_2 > 100))) || (decide ((ln m.stamps) > 60)))) rfl (Ob_pick rfl rfl rfl rfl (pick_or _ _)) fun a Z => ?_
 refine s_runk tMsWB Z 1 rfl rfl fun a Z => ?_
 refine gO Z (pp b1 21) rfl (wantB_f _) (.n 1 rfl .z) (fun hp => Ob_c tMsWB rfl) fun a Z => ?_
 refine gO Z _ rfl (wantB_f _) (.c 28 rfl id .z) (fun hp => oL tMsWB rfl rfl (H.bc 0 21 rfl rfl)) fun a Z => ?_
 refine gO Z (vI (ln m.pairs)) rfl (wantB_f _) (.c 29 rfl id .z) (fun hp => Ob_slen tMsWB rfl rfl rfl (H.slshape 5 rfl)) fun a Z => ?_
 refine gO Z (vT (decide ((ln m.pairs) > 60))) rfl (wantB_f _) (.c 30 rfl id .z) (fun hp => Ob_c tMsWB rfl) fun a Z => ?_
 refine sO Z (vT (((((decide ((ln m.conf.members) > 20)) || (decide ((ln m.batch.ops) > 20))) || (decide (m_2 > 100))) || (decide ((ln m.stamps) > 60))) || (decide ((ln m.pairs) > 60)))) rfl (Ob_pick rfl rfl rfl rfl (pick_or _ _)) fun a Z => ?_
 refine s_runk tMsWB Z 1 rfl rfl fun a Z => ?_
 refine s_end Z [2] rfl fun Z => ?_
 refine p_then (wp_ret ?_)
 obtain rfl := some_in hF
 exact f_ret Z (run_results1 rfl Z rfl) ⟨rfl, I, (H.sub [] rfl).eq rfl⟩

def F_law09_MessBack_k1 (s0 : ByteArray) : Option Bool := (F_mess_Of s0).bind fun o => (if (o.2 != 0) = true then ((F_ref09_Same o.1 (default : EMsg)).bind fun s0_2 => ((gif s0_2 (F_law09_awake) default).bind fun a0_3 => (some (s0_2 && a0_3)))) else ((F_mess_Put o.1).bind fun p_2 => ((gif ((seqB p_2.1 s0) && (p_2.2 == 0)) (F_law09_awake) default).bind fun a0_4 => (some (((seqB p_2.1 s0) && (p_2.2 == 0)) && a0_4)))))

def F_law09_MessBack (a0 : EMsg) (s0 : ByteArray) : Option Bool := (F_law09_much a0).bind fun m => (if (m || (decide ((s0.size : Int) > 3000))) = true then ((F_law09_awake).bind fun a0_2 => (some a0_2)) else ((F_mess_Put a0).bind fun p => (if (p.2 == 0) = true then ((F_mess_Of p.1).bind fun o_2 => ((gif (!(o_2.2 != 0)) (F_ref09_Clean a0) default).bind fun c => ((gif (!(o_2.2 != 0)) (F_ref09_Same o_2.1 c) default).bind fun s0_3 => (if ((o_2.2 != 0) || (!s0_3)) = true then (some false) else (F_law09_MessBack_k1 s0))))) else (F_law09_MessBack_k1 s0))))

set_option maxHeartbeats 1000000 in
theorem c_law09_MessBack {I D : Dm} {a0 : EMsg} {v1_a0 : Value} {v2_a0 : Value} {v3_a0 : Value} {v4_a0 : Value} {v5_a0 : Value} {s0 : ByteArray} {w : World} {rr : Bool} (hF : F_law09_MessBack a0 s0 = some rr) (H : St I D w [SlC NEMember v1_a0 a0.conf.members, SlC NEOp v2_a0 a0.batch.ops, SlC NEEntry v3_a0 a0.entries, SlC Nu64 v4_a0 a0.stamps, SlC NEPair v5_a0 a0.pairs]) :
  Calls Try.prog 3 #[.agg (cEMsg a0 v1_a0 v2_a0 v3_a0 v4_a0 v5_a0).toArray, vS s0] w (Ret fun vv w' => vv = vT rr ∧ ∃ I', Hf I D w I' w' []) := by
 replace H := H.hf
 unfold F_law09_MessBack at hF
 refine f_enter 70 Try.func3 rfl rfl (Nat.le_of_ble_eq_true rfl) fun a Z => ?_
 replace Z := Z.sub (ts := [0, 1]) rfl
 refine wp_seq (f_region Z ?_); clear Z; intro Z
 refine h_boxv Z H (cl := (cEMsg a0 v1_a0 v2_a0 v3_a0 v4_a0 v5_a0)) rfl rfl rfl (by decide) rfl rfl rfl fun a w1 b1 H Z => ?_
 refine s_runk tMsWB Z 1 rfl rfl fun a Z => ?_
 refine s_end Z [1, 2] rfl fun Z => ?_
 refine p_then (wp_seq ?_)
 refine wp_seq ?_
 obtain ⟨m, hx1, hF⟩ := bnd_in hF
 refine f_region Z fun Z => ?_
 refine sO Z (.agg (cEMsg a0 v1_a0 v2_a0 v3_a0 v4_a0 v5_a0).toArray) rfl (oA tMsWB rfl rfl ((H.bx 0 rfl).part 0 rfl)) fun a Z => ?_
 refine hC Z H [(1, true), (2, true), (3, true), (4, true), (5, true)] rfl #[] fn_4_YMsWB rfl rfl (fun D h => have q := c_law09_much hx1 h; q) fun vv a w2 D2 hr hF2 Z => ?_
 obtain ⟨rfl, I1, K⟩ := hr
 have H := (hF2 K).nf rfl
 refine s_runk tMsWB Z 1 rfl rfl fun a Z => ?_
 refine gO Z (vS s0) rfl (wantB_f _) (.n 1 rfl .z) (fun hp => Ob_c tMsWB rfl) fun a Z => ?_
 refine gO Z (vI (s0.size : Int)) rfl (wantB_f _) (.c 16 rfl id .z) (fun hp => Ob_c tMsWB rfl) fun a Z => ?_
 refine gO Z (vT (decide ((s0.size : Int) > 3000))) rfl (wantB_f _) (.c 17 rfl id .z) (fun hp => Ob_c tMsWB rfl) fun a Z => ?_
 refine sO Z (vT (m || (decide ((s0.size : Int) > 3000)))) rfl (Ob_pick rfl rfl rfl rfl (pick_or _ _)) fun a Z => ?_
 refine s_end Z [1, 2, 19] rfl fun Z => ?_
 refine p_then ?_
 refine f_cond Z rfl (fun hc1 => ?_) (fun hc1 => ?_)
 ·replace hF := ite_t hc1 hF
  refine wp_seq ?_
  obtain ⟨a0_2, hx2, hF⟩ := bnd_in hF
  refine f_region Z fun Z => ?_
  refine hC Z H [] rfl #[] fn_5_YMsWB rfl rfl (fun D h => have q := c_law09_awake hx2 h; q) fun vv a w3 D2 hr hF2 Z => ?_
  obtain ⟨rfl, I2, K⟩ := hr
  have H := (hF2 K).nf rfl
  refine s_runk tMsWB Z 1 rfl rfl fun a Z => ?_
  refine s_end Z [4] rfl fun Z => ?_
  refine p_then (wp_ret ?_)
  refine p_then_r ?_
  obtain rfl := some_in hF
  exact f_ret Z (run_results1 rfl Z rfl) ⟨rfl, I2, (H.sub [] rfl).eq rfl⟩
 ·replace hF := ite_f hc1 hF
  refine wp_skip ?_
  refine p_then (wp_seq ?_)
  obtain ⟨p, hx3, hF⟩ := bnd_in hF
  refine f_region Z fun Z => ?_
  refine sO Z (.agg (cEMsg a0 v1_a0 v2_a0 v3_a0 v4_a0 v5_a0).toArray) rfl (oA tMsWB rfl rfl ((H.bx 0 rfl).part 0 rfl)) fun a Z => ?_
  refine hC Z H [(1, true), (2, true), (3, true), (4, true), (5, true)] rfl #[] fn_6_YMsWB rfl rfl (fun D h => have q := c_mess_Put hx3 h; q) fun vv a w4 D2 hr hF2 Z => ?_
  obtain ⟨rfl, I3, K⟩ := hr
  have H := (hF2 K).nf rfl
  refine s_runk tMsWB Z 5 rfl rfl fun a Z => ?_
  refine s_end Z [1, 2, 5, 6] rfl fun Z => ?_
  refine p_then ?_
  refine f_cut (fun a' w' => Sl 70 [(1, vS s0)] a' ∧ (∃ I2, Hf I D w I2 w' []) ∧ F_law09_MessBack_k1 s0 = some rr) ?_ ?_
  ·rintro a w5 ⟨Z, ⟨I4, H⟩, hF⟩
   unfold F_law09_MessBack_k1 at hF
   try dsimp only at hF
   refine wp_seq ?_
   obtain ⟨o, hx4, hF⟩ := bnd_in hF
   refine f_region Z fun Z => ?_
   refine s_runk tMsWB Z 1 rfl rfl fun a Z => ?_
   refine hC Z H [] rfl #[] fn_7_YMsWB rfl rfl (fun D h => have q := c_mess_Of hx4 h; q) fun vv a w6 D2 hr hF2 Z => ?_
   obtain ⟨q1, q2, q3, q4, q5, rfl, I5, K⟩ := hr
   have H := (hF2 K).nf rfl
   refine s_runk tMsWB Z 3 rfl rfl fun a Z => ?_
   refine hA Z H [vI 0, vI 0, vI 0, vI 0, vT false, vU 0, vU 0, vI 0, vI 0, vI 0, vI 0, vS ByteArray.empty, vS ByteArray.empty, vI 0, nS, vU 0, vI 0, vI 0, nS, nS, nS, nS] rfl rfl (by kernel_rfl) fun a w7 b2 H Z => ?_
   refine hT tMsWB Z H 0 rfl rfl rfl rfl rfl (onR 14 rfl (one_cons (slS.one (H.slshape 1 rfl)) (onR 3 rfl (one_cons (slS.one (H.slshape 2 rfl)) (one_cons (slS.one (H.slshape 3 rfl)) (one_cons (slS.one (H.slshape 4 rfl)) (one_cons (slS.one (H.slshape 5 rfl)) one_nil))))))) (Nat.le_of_ble_eq_true rfl) (putCells_all rfl) fun w8 H => ?_
   dsimp only [List.eraseIdx] at H
   refine s_runk tMsWB Z 1 rfl rfl fun a Z => ?_
   refine s_end Z [1, 9, 10] rfl fun Z => ?_
   refine p_then (wp_seq ?_)
   refine wp_seq (f_region Z ?_); clear Z; intro Z
   refine s_runk tMsWB Z 2 rfl rfl fun a Z => ?_
   refine s_end Z [1, 9, 48] rfl fun Z => ?_
   refine p_then ?_
   refine f_cond Z rfl (fun hc2 => ?_) (fun hc2 => ?_)
   ·replace hF := ite_t hc2 hF
    refine wp_seq ?_
    obtain ⟨s0_2, hx5, hF⟩ := bnd_in hF
    obtain ⟨a0_3, hx6, hF⟩ := bnd_in hF
    refine f_region Z fun Z => ?_
    refine sO Z (.agg (cEMsg o.1 q1 q2 q3 q4 q5).toArray) rfl (oA tMsWB rfl rfl ((H.bx 0 rfl).part 0 rfl)) fun a Z => ?_
    refine sO Z (.agg #[vI 0, vI 0, vI 0, vI 0, vT false, vU 0, vU 0, vI 0, vI 0, vI 0, vI 0, vS ByteArray.empty, vS ByteArray.empty, vI 0, nS, vU 0, vI 0, vI 0, nS, nS, nS, nS]) rfl (Ob_build (vs := []) rfl rfl (by go_simp <;> rfl)) fun a Z => ?_
    replace H := H.slNil NEMember
    replace H := H.slNil NEOp
    replace H := H.slNil NEEntry
    replace H := H.slNil Nu64
    replace H := H.slNil NEPair
    refine hC Z H [(6, true), (7, true), (8, true), (9, true), (10, true), (4, true), (3, true), (2, true), (1, true), (0, true)] rfl #[] fn_8_YMsWB rfl rfl (fun D h => have q := c_ref09_Same hx5 h; q) fun vv a w9 D2 hr hF2 Z => ?_
    obtain ⟨rfl, I6, K⟩ := hr
    have H := (hF2 K).nf rfl
    refine s_runk tMsWB Z 1 rfl rfl fun a Z => ?_
    refine g_call Z (p := s0_2) (v := vT a0_3) (S' := []) (caps := #[]) fn_5_YMsWB rfl rfl rfl (wantB_t _) rfl (by decide) (fun hp hS => hS.sub (ts := []) rfl) rfl rfl rfl rfl (fun hp => (have hq := c_law09_awake (gif_in hx6 hp) ((H).pick0 (js := []) rfl rfl); plainC hq)) fun a w10 hb Z => ?_
    replace H := H.blw hb
    clear hb
    refine sO Z (vT (s0_2 && a0_3)) rfl (Ob_pick rfl rfl rfl rfl (pick_and _ _)) fun a Z => ?_
    refine s_runk tMsWB Z 1 rfl rfl fun a Z => ?_
    refine s_end Z [4] rfl fun Z => ?_
    refine p_then (wp_ret ?_)
    refine p_then_r ?_
    obtain rfl := some_in hF
    exact f_ret Z (run_results1 rfl Z rfl) ⟨rfl, I6, (H.sub [] rfl).eq rfl⟩
   ·replace hF := ite_f hc2 hF
    refine wp_skip ?_
    refine p_then (wp_seq ?_)
    obtain ⟨p_2, hx7, hF⟩ := bnd_in hF
    refine f_region Z fun Z => ?_
    refine sO Z (.agg (cEMsg o.1 q1 q2 q3 q4 q5).toArray) rfl (oA tMsWB rfl rfl ((H.bx 0 rfl).part 0 rfl)) fun a Z => ?_
    refine hC Z H [(1, true), (2, true), (3, true), (4, true), (5, true)] rfl #[] fn_6_YMsWB rfl rfl (fun D h => have q := c_mess_Put hx7 h; q) fun vv a w11 D2 hr hF2 Z => ?_
    obtain ⟨rfl, I7, K⟩ := hr
    have H := (hF2 K).nf rfl
    refine s_runk tMsWB Z 5 rfl rfl fun a Z => ?_
    refine s_end Z [1, 11, 12] rfl fun Z => ?_
    refine p_then (wp_seq ?_)
    obtain ⟨a0_4, hx8, hF⟩ := bnd_in hF
    refine f_region Z fun Z => ?_
    refine s_runk tMsWB Z 4 rfl rfl fun a Z => ?_
    refine gO Z (vI p_2.2) rfl (wantB_t _) (.n 12 rfl .z) (fun hp => Ob_c tMsWB rfl) fun a Z => ?_
    refine gO Z (vT (p_2.2 == 0)) rfl (wantB_t _) (.c 64 rfl id .z) (fun hp => Ob_c tMsWB rfl) fun a Z => ?_
    refine sO Z (vT ((seqB p_2.1 s0) && (p_2.2 == 0))) rfl (Ob_pick rfl rfl rfl rfl (pick_and _ _)) fun a Z => ?_
    refine s_runk tMsWB Z 1 rfl rfl fun a Z => ?_
    refine g_call Z (p := ((seqB p_2.1 s0) && (p_2.2 == 0))) (v := vT a0_4) (S' := []) (caps := #[]) fn_5_YMsWB rfl rfl rfl (wantB_t _) rfl (by decide) (fun hp hS => hS.sub (ts := []) rfl) rfl rfl rfl rfl (fun hp => (have hq := c_law09_awake (gif_in hx8 hp) ((H).pick0 (js := []) rfl rfl); plainC hq)) fun a w12 hb Z => ?_
    replace H := H.blw hb
    clear hb
    refine sO Z (vT (((seqB p_2.1 s0) && (p_2.2 == 0)) && a0_4)) rfl (Ob_pick rfl rfl rfl rfl (pick_and _ _)) fun a Z => ?_
    refine s_runk tMsWB Z 1 rfl rfl fun a Z => ?_
    refine s_end Z [4] rfl fun Z => ?_
    refine p_then (wp_ret ?_)
    obtain rfl := some_in hF
    exact f_ret Z (run_results1 rfl Z rfl) ⟨rfl, I7, (H.sub [] rfl).eq rfl⟩
  ·skip
   refine wp_seq (f_region Z ?_); clear Z; intro Z
   refine s_runk tMsWB Z 2 rfl rfl fun a Z => ?_
   refine s_end Z [1, 2, 5, 27] rfl fun Z => ?_
   refine p_then ?_
   refine f_cond Z rfl (fun hc3 => ?_) (fun hc3 => ?_)
   ·replace hF := ite_t hc3 hF
    refine wp_seq ?_
    obtain ⟨o_2, hx9, hF⟩ := bnd_in hF
    refine f_region Z fun Z => ?_
    refine s_runk tMsWB Z 1 rfl rfl fun a Z => ?_
    refine hC Z H [] rfl #[] fn_7_YMsWB rfl rfl (fun D h => have q := c_mess_Of hx9 h; q) fun vv a w13 D2 hr hF2 Z => ?_
    obtain ⟨q6, q7, q8, q9, q10, rfl, I8, K⟩ := hr
    have H := (hF2 K).nf rfl
    refine s_runk tMsWB Z 3 rfl rfl fun a Z => ?_
    refine hA Z H [vI 0, vI 0, vI 0, vI 0, vT false, vU 0, vU 0, vI 0, vI 0, vI 0, vI 0, vS ByteArray.empty, vS ByteArray.empty, vI 0, nS, vU 0, vI 0, vI 0, nS, nS, nS, nS] rfl rfl (by kernel_rfl) fun a w14 b3 H Z => ?_
    refine hT tMsWB Z H 0 rfl rfl rfl rfl rfl (onR 14 rfl (one_cons (slS.one (H.slshape 1 rfl)) (onR 3 rfl (one_cons (slS.one (H.slshape 2 rfl)) (one_cons (slS.one (H.slshape 3 rfl)) (one_cons (slS.one (H.slshape 4 rfl)) (one_cons (slS.one (H.slshape 5 rfl)) one_nil))))))) (Nat.le_of_ble_eq_true rfl) (putCells_all rfl) fun w15 H => ?_
    dsimp only [List.eraseIdx] at H
    refine s_runk tMsWB Z 1 rfl rfl fun a Z => ?_
    refine s_end Z [1, 2, 7, 8] rfl fun Z => ?_
    refine p_then (wp_seq ?_)
    obtain ⟨c, hx10, hF⟩ := bnd_in hF
    obtain ⟨s0_3, hx11, hF⟩ := bnd_in hF
    refine f_regionL Z (by kernel_rfl) (by kernel_rfl) (by decide) (by decide) [5] [(0, 0, 0), (1, 0, 0), (3, 0, 0), (7, 0, 1), (7, 0, 0), (23, 0, 0), (63, 1, 1), (127, 1, 1), (255, 1, 1)] (by kernel_rfl) (fun jj vv => match jj with | 0 => vv = vI o_2.2 | 1 => vv = vT (o_2.2 != 0) | 2 => vv = vT (o_2.2 != 0) | 3 => vv = cond (!(o_2.2 != 0)) (.agg (cEMsg o_2.1 q6 q7 q8 q9 q10).toArray) undef | 4 => vv = cond (!(o_2.2 != 0)) (.agg (cEMsg a0 v1_a0 v2_a0 v3_a0 v4_a0 v5_a0).toArray) undef | 5 => vv = cond (!(o_2.2 != 0)) (.agg (cEMsg c (aggSl vv 14) (aggSl vv 18) (aggSl vv 19) (aggSl vv 20) (aggSl vv 21)).toArray) undef | 6 => vv = cond (!(o_2.2 != 0)) (vT s0_3) undef | 7 => vv = cond (!(o_2.2 != 0)) (vT (!s0_3)) undef | 8 => vv = vT ((o_2.2 != 0) || (!s0_3)) | _ => True) (fun ss vals1 xw => match ss with | 0 => Gx I D w I8 w15 xw [BxC b3 34 (cEMsg o_2.1 q6 q7 q8 q9 q10), SlC NEMember q6 o_2.1.conf.members, SlC NEOp q7 o_2.1.batch.ops, SlC NEEntry q8 o_2.1.entries, SlC Nu64 q9 o_2.1.stamps, SlC NEPair q10 o_2.1.pairs, BxC b1 34 (cEMsg a0 v1_a0 v2_a0 v3_a0 v4_a0 v5_a0), SlC NEMember v1_a0 a0.conf.members, SlC NEOp v2_a0 a0.batch.ops, SlC NEEntry v3_a0 a0.entries, SlC Nu64 v4_a0 a0.stamps, SlC NEPair v5_a0 a0.pairs] | _ => Gx I D w I8 w15 xw [SlC NEMember (aggSl (vals1 5) 14) c.conf.members, SlC NEOp (aggSl (vals1 5) 18) c.batch.ops, SlC NEEntry (aggSl (vals1 5) 19) c.entries, SlC Nu64 (aggSl (vals1 5) 20) c.stamps, SlC NEPair (aggSl (vals1 5) 21) c.pairs, BxC b3 34 (cEMsg o_2.1 q6 q7 q8 q9 q10), SlC NEMember q6 o_2.1.conf.members, SlC NEOp q7 o_2.1.batch.ops, SlC NEEntry q8 o_2.1.entries, SlC Nu64 q9 o_2.1.stamps, SlC NEPair q10 o_2.1.pairs, BxC b1 34 (cEMsg a0 v1_a0 v2_a0 v3_a0 v4_a0 v5_a0), SlC NEMember v1_a0 a0.conf.members, SlC NEOp v2_a0 a0.batch.ops, SlC NEEntry v3_a0 a0.entries, SlC Nu64 v4_a0 a0.stamps, SlC NEPair v5_a0 a0.pairs]) (fun _ => Gx.start H) ?_ ?_
    ·intro fr hfr hfe
     refine .cons (fun ss hlo hhi vals1 xw hG hV => ?_) ?_
     ·obtain rfl : ss = 0 := Nat.le_antisymm hhi hlo
      rw [← hfe]
      have hS := (hfr vals1).sub (ts := [8]) rfl
      exact L_val hS rfl (Ob_c tMsWB rfl) ⟨rfl, hG⟩
     refine .cons (fun ss hlo hhi vals1 xw hG hV => ?_) ?_
     ·obtain rfl : ss = 0 := Nat.le_antisymm hhi hlo
      rw [← hfe]
      have hS := (hfr vals1).sub (ts := [33]) rfl
      replace hS := hS.conv (t := 33) rfl (show (vals1 0) = vI o_2.2 from hV 0 (by decide))
      exact L_val hS rfl (Ob_c tMsWB rfl) ⟨rfl, hG⟩
     refine .cons (fun ss hlo hhi vals1 xw hG hV => ?_) ?_
     ·obtain rfl : ss = 0 := Nat.le_antisymm hhi hlo
      rw [← hfe]
      have hS := (hfr vals1).sub (ts := [34]) rfl
      replace hS := hS.conv (t := 34) rfl (show (vals1 1) = vT (o_2.2 != 0) from hV 1 (by decide))
      exact L_val hS rfl (Ob_c tMsWB rfl) ⟨rfl, hG⟩
     refine .cons (fun ss hlo hhi vals1 xw hG hV => ?_) ?_
     ·obtain rfl | rfl : ss = 0 ∨ ss = 1 := st1 hlo hhi
      ·rw [← hfe]
       have hS := (hfr vals1).sub (ts := [35, 7]) rfl
       replace hS := hS.conv (t := 35) rfl (show (vals1 2) = vT (o_2.2 != 0) from hV 2 (by decide))
       refine L_gw (p := (!(o_2.2 != 0))) hS rfl rfl rfl (wantB_f _) (fun hp => ?_) (fun hp => ⟨by rw [hp]; rfl, hG⟩)
       obtain ⟨I2, hI2, H⟩ := Gx.ex hG
       exact L_val hS rfl (oA tMsWB rfl rfl ((H.bx 0 rfl).part 0 rfl)) ⟨(by rw [hp]; rfl), hG⟩
      ·rw [← hfe]
       have hS := (hfr vals1).sub (ts := [35, 7]) rfl
       replace hS := hS.conv (t := 35) rfl (show (vals1 2) = vT (o_2.2 != 0) from hV 2 (by decide))
       refine L_gw (p := (!(o_2.2 != 0))) hS rfl rfl rfl (wantB_f _) (fun hp => ?_) (fun hp => ⟨by rw [hp]; rfl, hG⟩)
       obtain ⟨I2, hI2, H⟩ := Gx.ex hG
       exact L_val hS rfl (oA tMsWB rfl rfl ((H.bx 5 rfl).part 0 rfl)) ⟨(by rw [hp]; rfl), hG⟩
     refine .cons (fun ss hlo hhi vals1 xw hG hV => ?_) ?_
     ·obtain rfl : ss = 0 := Nat.le_antisymm hhi hlo
      rw [← hfe]
      have hS := (hfr vals1).sub (ts := [35, 2]) rfl
      replace hS := hS.conv (t := 35) rfl (show (vals1 2) = vT (o_2.2 != 0) from hV 2 (by decide))
      refine L_gw (p := (!(o_2.2 != 0))) hS rfl rfl rfl (wantB_f _) (fun hp => ?_) (fun hp => ⟨by rw [hp]; rfl, hG⟩)
      obtain ⟨I2, hI2, H⟩ := Gx.ex hG
      exact L_val hS rfl (oA tMsWB rfl rfl ((H.bx 6 rfl).part 0 rfl)) ⟨(by rw [hp]; rfl), hG⟩
     refine .cons (fun ss hlo hhi vals1 xw hG hV => ?_) ?_
     ·obtain rfl : ss = 0 := Nat.le_antisymm hhi hlo
      rw [← hfe]
      have hS := (hfr vals1).sub (ts := [37, 35]) rfl
      replace hS := hS.conv (t := 37) rfl (show (vals1 4) = cond (!(o_2.2 != 0)) (.agg (cEMsg a0 v1_a0 v2_a0 v3_a0 v4_a0 v5_a0).toArray) undef from hV 4 (by decide))
      replace hS := hS.conv (t := 35) rfl (show (vals1 2) = vT (o_2.2 != 0) from hV 2 (by decide))
      refine L_gw (p := (!(o_2.2 != 0))) hS rfl rfl rfl (wantB_f _) (fun hp => ?_) (fun hp => ⟨by rw [hp]; rfl, ?_⟩)
      ·obtain ⟨I2, hI2, H⟩ := Gx.ex hG
       replace hS := hS.conv (t := 37) rfl (cond_t hp)
       refine L_hcall H (js := [(7, true), (8, true), (9, true), (10, true), (11, true)]) rfl (caps := #[]) hS fn_9_YMsWB rfl rfl rfl rfl rfl (fun D1 hS => have hq := c_ref09_Clean (gif_in hx10 hp) hS; hq) fun _ yw D1 hr hF2 => ?_
       obtain ⟨q0_, q1_, q2_, q3_, q4_, rfl, I3, K⟩ := hr
       obtain ⟨hK, H2⟩ := hF2 K
       exact ⟨by rw [hp]; rfl, by first | (rw [hp] at H2 ⊢; exact Gx.go hG hI2 hK K.imm H2) | (rw [hp]; exact Gx.go hG hI2 hK K.imm H2) | exact Gx.go hG hI2 hK K.imm H2⟩
      ·obtain rfl := gif_no hx10 hp; (try rw [hp]); obtain ⟨I2, hI2, H⟩ := Gx.ex hG; (try rw [hp] at H); exact Gx.go hG hI2 (Keep.refl _ _) (fun _ h => h) (Hf.sub (Hf.slNil (Hf.slNil (Hf.slNil (Hf.slNil (Hf.slNil (H.sub [(0, false), (0, true), (1, true), (2, true), (3, true), (4, true), (5, false), (5, true), (6, true), (7, true), (8, true), (9, true)] rfl) NEMember) NEOp) NEEntry) Nu64) NEPair) [(4, false), (3, false), (2, false), (1, false), (0, false), (0, false), (0, true), (1, true), (2, true), (3, true), (4, true), (5, false), (5, true), (6, true), (7, true), (8, true), (9, true)] rfl)
     refine .cons (fun ss hlo hhi vals1 xw hG hV => ?_) ?_
     ·obtain rfl : ss = 1 := Nat.le_antisymm hhi hlo
      rw [← hfe]
      have hS := (hfr vals1).sub (ts := [36, 38, 35]) rfl
      replace hS := hS.conv (t := 36) rfl (show (vals1 3) = cond (!(o_2.2 != 0)) (.agg (cEMsg o_2.1 q6 q7 q8 q9 q10).toArray) undef from hV 3 (by decide))
      replace hS := hS.conv (t := 38) rfl (show (vals1 5) = cond (!(o_2.2 != 0)) (.agg (cEMsg c (aggSl (vals1 5) 14) (aggSl (vals1 5) 18) (aggSl (vals1 5) 19) (aggSl (vals1 5) 20) (aggSl (vals1 5) 21)).toArray) undef from hV 5 (by decide))
      replace hS := hS.conv (t := 35) rfl (show (vals1 2) = vT (o_2.2 != 0) from hV 2 (by decide))
      refine L_gw (p := (!(o_2.2 != 0))) hS rfl rfl rfl (wantB_f _) (fun hp => ?_) (fun hp => ⟨by rw [hp]; rfl, hG⟩)
      replace hS := hS.conv (t := 36) rfl (cond_t hp)
      replace hS := hS.conv (t := 38) rfl (cond_t hp)
      obtain ⟨I2, hI2, H⟩ := Gx.ex hG
      refine L_call (caps := #[]) hS fn_8_YMsWB rfl rfl rfl rfl rfl ((have hq := c_ref09_Same (gif_in hx11 hp) ((H).pick0 (js := [(6, true), (7, true), (8, true), (9, true), (10, true), (0, true), (1, true), (2, true), (3, true), (4, true)]) rfl rfl); plainC hq)) fun r yw hr => ?_
      obtain ⟨rfl, hb⟩ := hr
      exact ⟨(by rw [hp]; rfl), Gx.blw hG hb⟩
     refine .cons (fun ss hlo hhi vals1 xw hG hV => ?_) ?_
     ·obtain rfl : ss = 1 := Nat.le_antisymm hhi hlo
      rw [← hfe]
      have hS := (hfr vals1).sub (ts := [39, 35]) rfl
      replace hS := hS.conv (t := 39) rfl (show (vals1 6) = cond (!(o_2.2 != 0)) (vT s0_3) undef from hV 6 (by decide))
      replace hS := hS.conv (t := 35) rfl (show (vals1 2) = vT (o_2.2 != 0) from hV 2 (by decide))
      refine L_gw (p := (!(o_2.2 != 0))) hS rfl rfl rfl (wantB_f _) (fun hp => ?_) (fun hp => ⟨by rw [hp]; rfl, hG⟩)
      replace hS := hS.conv (t := 39) rfl (cond_t hp)
      exact L_val hS rfl (Ob_c tMsWB rfl) ⟨(by rw [hp]; rfl), hG⟩
     refine .cons (fun ss hlo hhi vals1 xw hG hV => ?_) ?_
     ·obtain rfl : ss = 1 := Nat.le_antisymm hhi hlo
      rw [← hfe]
      have hS := (hfr vals1).sub (ts := [35, 40]) rfl
      replace hS := hS.conv (t := 35) rfl (show (vals1 2) = vT (o_2.2 != 0) from hV 2 (by decide))
      replace hS := hS.conv (t := 40) rfl (show (vals1 7) = cond (!(o_2.2 != 0)) (vT (!s0_3)) undef from hV 7 (by decide))
      exact L_val hS rfl (Ob_pick rfl rfl rfl rfl (pick_or _ _)) ⟨rfl, hG⟩
     exact .nil
    ·intro vals1 a w16 Z hG hV
     replace Z := Z.sub (ts := [1, 41]) (S' := [(1, vS s0), (41, vals1 8)]) rfl
     replace Z := Z.conv (t := 41) rfl (show (vals1 8) = vT ((o_2.2 != 0) || (!s0_3)) from hV 8 (by decide))
     obtain ⟨I9, _, H⟩ := Gx.ex hG
     clear hG hV
     replace Z := Z.sub (ts := [1, 41]) rfl
     replace H := H.nf rfl; try dsimp only at H
     refine p_then ?_
     refine f_cond Z rfl (fun hc4 => ?_) (fun hc4 => ?_)
     ·replace hF := ite_t hc4 hF
      refine wp_seq (f_region Z ?_); clear Z; intro Z
      refine s_runk tMsWB Z 1 rfl rfl fun a Z => ?_
      refine s_end Z [4] rfl fun Z => ?_
      refine p_then (wp_ret ?_)
      refine p_then_r ?_
      obtain rfl := some_in hF
      exact f_ret Z (run_results1 rfl Z rfl) ⟨rfl, I9, (H.sub [] rfl).eq rfl⟩
     ·replace hF := ite_f hc4 hF
      refine wp_skip ?_
      refine p_then ?_
      exact ⟨Z.sub (ts := [1]) rfl, ⟨I9, (H.sub [] rfl).eq rfl⟩, hF⟩
   ·replace hF := ite_f hc3 hF
    refine wp_skip ?_
    refine p_then ?_
    exact ⟨Z.sub (ts := [1]) rfl, ⟨I3, (H.sub [] rfl).eq rfl⟩, hF⟩

theorem awakeB : F_law09_awake = some true := by kernel_rfl

end Go.Proofs.Ythmjkcdpbbcdgaa
