/- What a replica answers: the law ServeStays walked. -/
import Derived.Test.YtaknkbbjimielaaYSvW
namespace Go.Proofs.Ytaknkbbjimielaa
open Go.RowKit
def tSvWSL : TabL := ⟨[(25600, 0), (25601, 1), (29697, 1), (32770, 2), (37888, 0), (37892, 4), (37893, 5), (37901, 13), (37902, 16), (37903, 19), (37904, 20), (37905, 21), (60417, 1), (63488, 0), (63489, 1)], [], [4], [(22, (62, 2)), (27, (110, 2)), (30, (69, 3)), (33, (114, 4)), (34, (23, 1)), (35, (81, 2))], [(3, (1, false)), (4, (1, false)), (23, (1, false)), (25, (4, true)), (27, (1, false)), (30, (1, false)), (33, (1, false)), (34, (1, false)), (35, (1, false)), (37, (22, true))]⟩

def tSvWS : Tab Try.prog := ⟨tSvWSL, by kernel_rfl⟩

theorem fn_5_YSvWS : IsFn Try.prog 5 := ⟨_, Try.func5, by kernel_rfl, by kernel_rfl⟩

theorem fn_6_YSvWS : IsFn Try.prog 6 := ⟨_, Try.func6, by kernel_rfl, by kernel_rfl⟩

theorem fn_7_YSvWS : IsFn Try.prog 7 := ⟨_, Try.func7, by kernel_rfl, by kernel_rfl⟩

theorem fn_8_YSvWS : IsFn Try.prog 8 := ⟨_, Try.func8, by kernel_rfl, by kernel_rfl⟩

theorem fn_9_YSvWS : IsFn Try.prog 9 := ⟨_, Try.func9, by kernel_rfl, by kernel_rfl⟩

theorem fn_18_YSvWS : IsFn Try.prog 18 := ⟨_, Try.func18, by kernel_rfl, by kernel_rfl⟩

theorem fn_19_YSvWS : IsFn Try.prog 19 := ⟨_, Try.func19, by kernel_rfl, by kernel_rfl⟩

theorem fn_20_YSvWS : IsFn Try.prog 20 := ⟨_, Try.func20, by kernel_rfl, by kernel_rfl⟩

theorem fn_21_YSvWS : IsFn Try.prog 21 := ⟨_, Try.func21, by kernel_rfl, by kernel_rfl⟩

def F_law31_ServeStays_l1 (then0 : List Elaw31_Put) (w0 : Elaw31_View) (h : Int) (x : EMsg) (a0_3 : EMsg × Bool × Emvcc_Store) (rc : (Int × Emvcc_Store) → Option Bool) (sg : Int × Emvcc_Store) : Option Bool := match sg with | (i, s0_2) => if ((decide (i < (then0.length : Int))) && (decide (i < 30))) = true then (chk ((0 : Int) ≤ i ∧ i < (then0.length : Int)) (chk ((0 : Int) ≤ i ∧ i < (then0.length : Int)) ((F_mvcc_Store_Put s0_2 ((then0.getD (i).toNat default).t) ((then0.getD (i).toNat default).ops)).bind fun p => (chk (inI (i + 1)) (rc (i + 1, p.2)))))) else ((F_mvcc_Store_Prune s0_2 h).bind fun p_2 => ((F_mvcc_Store_Last p_2.2).bind fun l_2 => ((F_serve_At l_2 (max h w0.horizon) 1 1).bind fun a0_4 => ((F_serve_Answer p_2.2 a0_4 x).bind fun a0_5 => (if (!(a0_3.2.1 == a0_5.2.1)) = true then (some false) else (if (!a0_3.2.1) = true then ((gif ((a0_3.1.k == 0) && (a0_5.1.k == 0)) (F_law31_awake) default).bind fun a0_6 => (some (((a0_3.1.k == 0) && (a0_5.1.k == 0)) && a0_6))) else (if ((a0_3.1.k == 7) || (a0_5.1.k == 7)) = true then ((gif (((a0_3.1.k != 7) || ((a0_3.1.pairs.length : Int) == 0)) && ((a0_5.1.k != 7) || ((a0_5.1.pairs.length : Int) == 0))) (F_law31_awake) default).bind fun a0_7 => (some ((((a0_3.1.k != 7) || ((a0_3.1.pairs.length : Int) == 0)) && ((a0_5.1.k != 7) || ((a0_5.1.pairs.length : Int) == 0))) && a0_7))) else ((F_ref06_SamePairs a0_3.1.pairs a0_5.1.pairs).bind fun s0_3 => ((gif ((s0_3 && (a0_3.1.flag == a0_5.1.flag)) && (a0_3.1.at_ == a0_5.1.at_)) (F_law31_awake) default).bind fun a0_8 => (some (((s0_3 && (a0_3.1.flag == a0_5.1.flag)) && (a0_3.1.at_ == a0_5.1.at_)) && a0_8)))))))))))

def F_law31_ServeStays (l : List Elaw31_Put) (then0 : List Elaw31_Put) (w0 : Elaw31_View) (h : Int) (x : EMsg) : Option Bool := (F_law31_few l).bind fun f => ((gif (!(!f)) (F_law31_few then0) default).bind fun f_2 => (if (((((((!f) || (!f_2)) || (decide ((x.conf.members.length : Int) > 20))) || (decide ((x.batch.ops.length : Int) > 20))) || (decide ((x.entries.length : Int) > 20))) || (decide ((x.stamps.length : Int) > 20))) || (decide ((x.pairs.length : Int) > 40))) = true then ((F_law31_awake).bind fun a0 => (some a0)) else ((F_law31_stores l).bind fun s0 => ((F_serve_At (min w0.mark s0.2.last) w0.horizon 1 1).bind fun a0_2 => ((F_serve_Answer s0.1 a0_2 x).bind fun a0_3 => (iter (F_law31_ServeStays_l1 then0 w0 h x a0_3) FU (0, a0_3.2.2)))))))

set_option maxHeartbeats 20000000 in
theorem c_law31_ServeStays {I D : Dm} {l : List Elaw31_Put} {v1_l : Value} {then0 : List Elaw31_Put} {v2_then0 : Value} {w0 : Elaw31_View} {h : Int} {x : EMsg} {v3_x : Value} {v4_x : Value} {v5_x : Value} {v6_x : Value} {v7_x : Value} {w : World} {rr : Bool} (hF : F_law31_ServeStays l then0 w0 h x = some rr) (H : St I D w [SlC NElaw31_Put v1_l l, SlC NElaw31_Put v2_then0 then0, SlC NEMember v3_x x.conf.members, SlC NEOp v4_x x.batch.ops, SlC NEEntry v5_x x.entries, SlC Nu64 v6_x x.stamps, SlC NEPair v7_x x.pairs]) :
  Calls Try.prog 4 #[v1_l, v2_then0, .agg #[vU w0.mark, vU w0.horizon, vI w0.epoch, vI w0.head], vU h, .agg (cEMsg x v3_x v4_x v5_x v6_x v7_x).toArray] w (Ret fun vv w' => vv = vT rr ∧ ∃ I', Hf I D w I' w' []) := by
 replace H := H.hf
 unfold F_law31_ServeStays at hF
 refine f_enter 189 Try.func4 rfl rfl (Nat.le_of_ble_eq_true rfl) fun a Z => ?_
 replace Z := Z.sub (ts := [0, 1, 2, 3, 4]) rfl
 refine wp_seq (f_region Z ?_); clear Z; intro Z
 refine hB Z H [vU w0.mark, vU w0.horizon, vI w0.epoch, vI w0.head] rfl rfl rfl rfl fun a w1 b1 H Z => ?_
 refine h_boxv Z H (cl := (cEMsg x v3_x v4_x v5_x v6_x v7_x)) rfl rfl rfl (by decide) rfl rfl rfl fun a w2 b2 H Z => ?_
 refine s_runk tSvWS Z 1 rfl rfl fun a Z => ?_
 refine s_end Z [0, 1, 3, 7, 9] rfl fun Z => ?_
 refine p_then (wp_seq ?_)
 refine wp_seq ?_
 obtain ⟨f, hx1, hF⟩ := bnd_in hF
 obtain ⟨f_2, hx2, hF⟩ := bnd_in hF
 refine f_region Z fun Z => ?_
 refine s_runk tSvWS Z 1 rfl rfl fun a Z => ?_
 refine hC Z H [(2, true)] rfl #[] fn_5_YSvWS rfl rfl (fun D h => have q := c_law31_few hx1 h; q) fun vv a w3 D2 hr hF2 Z => ?_
 obtain ⟨rfl, I1, K⟩ := hr
 have H := (hF2 K).nf rfl
 refine s_runk tSvWS Z 2 rfl rfl fun a Z => ?_
 refine gO Z v2_then0 rfl (wantB_f _) (.n 1 rfl .z) (fun hp => Ob_c tSvWS rfl) fun a Z => ?_
 refine g_call Z (p := (!(!f))) (v := vT f_2) (S' := [(23, v2_then0)]) (caps := #[]) fn_5_YSvWS rfl rfl rfl (wantB_f _) rfl (by decide) (fun hp hS => (hS.conv (t := 23) rfl (cond_t hp)).sub (ts := [23]) rfl) rfl rfl rfl rfl (fun hp => (have hq := c_law31_few (gif_in hx2 hp) ((H).pick0 (js := [(3, true)]) rfl rfl); plainC hq)) fun a w4 hb Z => ?_
 replace H := H.blw hb
 clear hb
 refine gO Z (vT (!f_2)) rfl (wantB_f _) (.c 24 rfl id .z) (fun hp => Ob_c tSvWS rfl) fun a Z => ?_
 refine sO Z (vT ((!f) || (!f_2))) rfl (Ob_pick rfl rfl rfl rfl (pick_or _ _)) fun a Z => ?_
 refine s_runk tSvWS Z 1 rfl rfl fun a Z => ?_
 refine gO Z (pp b2 13) rfl (wantB_f _) (.n 9 rfl .z) (fun hp => Ob_c tSvWS rfl) fun a Z => ?_
 refine gO Z (pp b2 14) rfl (wantB_f _) (.c 28 rfl id .z) (fun hp => Ob_c tSvWS rfl) fun a Z => ?_
 refine gO Z _ rfl (wantB_f _) (.c 29 rfl id .z) (fun hp => oL tSvWS rfl rfl (H.bc 0 14 rfl rfl)) fun a Z => ?_
 refine gO Z (vI (ln x.conf.members)) rfl (wantB_f _) (.c 30 rfl id .z) (fun hp => Ob_slen tSvWS rfl rfl rfl (H.slshape 4 rfl)) fun a Z => ?_
 refine gO Z (vT (decide ((ln x.conf.members) > 20))) rfl (wantB_f _) (.c 31 rfl id .z) (fun hp => Ob_c tSvWS rfl) fun a Z => ?_
 refine sO Z (vT (((!f) || (!f_2)) || (decide ((ln x.conf.members) > 20)))) rfl (Ob_pick rfl rfl rfl rfl (pick_or _ _)) fun a Z => ?_
 refine s_runk tSvWS Z 1 rfl rfl fun a Z => ?_
 refine gO Z (pp b2 16) rfl (wantB_f _) (.n 9 rfl .z) (fun hp => Ob_c tSvWS rfl) fun a Z => ?_
 refine gO Z (pp b2 18) rfl (wantB_f _) (.c 35 rfl id .z) (fun hp => Ob_c tSvWS rfl) fun a Z => ?_
 refine gO Z _ rfl (wantB_f _) (.c 36 rfl id .z) (fun hp => oL tSvWS rfl rfl (H.bc 0 18 rfl rfl)) fun a Z => ?_
 refine gO Z (vI (ln x.batch.ops)) rfl (wantB_f _) (.c 37 rfl id .z) (fun hp => Ob_slen tSvWS rfl rfl rfl (H.slshape 5 rfl)) fun a Z => ?_
 refine gO Z (vT (decide ((ln x.batch.ops) > 20))) rfl (wantB_f _) (.c 38 rfl id .z) (fun hp => Ob_c tSvWS rfl) fun a Z => ?_
 refine sO Z (vT ((((!f) || (!f_2)) || (decide ((ln x.conf.members) > 20))) || (decide ((ln x.batch.ops) > 20)))) rfl (Ob_pick rfl rfl rfl rfl (pick_or _ _)) fun a Z => ?_
 refine s_runk tSvWS Z 1 rfl rfl fun a Z => ?_
 refine gO Z (pp b2 19) rfl (wantB_f _) (.n 9 rfl .z) (fun hp => Ob_c tSvWS rfl) fun a Z => ?_
 refine gO Z _ rfl (wantB_f _) (.c 42 rfl id .z) (fun hp => oL tSvWS rfl rfl (H.bc 0 19 rfl rfl)) fun a Z => ?_
 refine gO Z (vI (ln x.entries)) rfl (wantB_f _) (.c 43 rfl id .z) (fun hp => Ob_slen tSvWS rfl rfl rfl (H.slshape 6 rfl)) fun a Z => ?_
 refine gO Z (vT (decide ((ln x.entries) > 20))) rfl (wantB_f _) (.c 44 rfl id .z) (fun hp => Ob_c tSvWS rfl) fun a Z => ?_
 refine sO Z (vT (((((!f) || (!f_2)) || (decide ((ln x.conf.members) > 20))) || (decide ((ln x.batch.ops) > 20))) || (decide ((ln x.entries) > 20)))) rfl (Ob_pick rfl rfl rfl rfl (pick_or _ _)) fun a Z => ?_
 refine s_runk tSvWS Z 1 rfl rfl fun a Z => ?_
 refine gO Z (pp b2 20) rfl (wantB_f _) (.n 9 rfl .z) (fun hp => Ob_c tSvWS rfl) fun a Z => ?_
 refine gO Z _ rfl (wantB_f _) (.c 48 rfl id .z) (fun hp => oL tSvWS rfl rfl (H.bc 0 20 rfl rfl)) fun a Z => ?_
 refine gO Z (vI (ln x.stamps)) rfl (wantB_f _) (.c 49 rfl id .z) (fun hp => Ob_slen tSvWS rfl rfl rfl (H.slshape 7 rfl)) fun a Z => ?_
 refine gO Z (vT (decide ((ln x.stamps) > 20))) rfl (wantB_f _) (.c 50 rfl id .z) (fun hp => Ob_c tSvWS rfl) fun a Z => ?_
 refine sO Z (vT ((((((!f) || (!f_2)) || (decide ((ln x.conf.members) > 20))) || (decide ((ln x.batch.ops) > 20))) || (decide ((ln x.entries) > 20))) || (decide ((ln x.stamps) > 20)))) rfl (Ob_pick rfl rfl rfl rfl (pick_or _ _)) fun a Z => ?_
 refine s_runk tSvWS Z 1 rfl rfl fun a Z => ?_
 refine gO Z (pp b2 21) rfl (wantB_f _) (.n 9 rfl .z) (fun hp => Ob_c tSvWS rfl) fun a Z => ?_
 refine gO Z _ rfl (wantB_f _) (.c 54 rfl id .z) (fun hp => oL tSvWS rfl rfl (H.bc 0 21 rfl rfl)) fun a Z => ?_
 refine gO Z (vI (ln x.pairs)) rfl (wantB_f _) (.c 55 rfl id .z) (fun hp => Ob_slen tSvWS rfl rfl rfl (H.slshape 8 rfl)) fun a Z => ?_
 refine gO Z (vT (decide ((ln x.pairs) > 40))) rfl (wantB_f _) (.c 56 rfl id .z) (fun hp => Ob_c tSvWS rfl) fun a Z => ?_
 refine sO Z (vT (((((((!f) || (!f_2)) || (decide ((ln x.conf.members) > 20))) || (decide ((ln x.batch.ops) > 20))) || (decide ((ln x.entries) > 20))) || (decide ((ln x.stamps) > 20))) || (decide ((ln x.pairs) > 40)))) rfl (Ob_pick rfl rfl rfl rfl (pick_or _ _)) fun a Z => ?_
 refine s_end Z [0, 1, 3, 7, 9, 58] rfl fun Z => ?_
 refine p_then ?_
 refine f_cond Z rfl (fun hc1 => ?_) (fun hc1 => ?_)
 ·replace hF := ite_t hc1 hF
  refine wp_seq ?_
  obtain ⟨a0, hx3, hF⟩ := bnd_in hF
  refine f_region Z fun Z => ?_
  refine hC Z H [] rfl #[] fn_6_YSvWS rfl rfl (fun D h => have q := c_law31_awake hx3 h; q) fun vv a w5 D2 hr hF2 Z => ?_
  obtain ⟨rfl, I2, K⟩ := hr
  have H := (hF2 K).nf rfl
  refine s_runk tSvWS Z 1 rfl rfl fun a Z => ?_
  refine s_end Z [10] rfl fun Z => ?_
  refine p_then (wp_ret ?_)
  refine p_then_r ?_
  obtain rfl := some_in hF
  exact f_ret Z (run_results1 rfl Z rfl) ⟨rfl, I2, (H.sub [] rfl).eq rfl⟩
 ·replace hF := ite_f hc1 hF
  refine wp_skip ?_
  refine p_then (wp_seq ?_)
  obtain ⟨s0, hx4, hF⟩ := bnd_in hF
  refine f_region Z fun Z => ?_
  refine s_runk tSvWS Z 1 rfl rfl fun a Z => ?_
  refine hC Z H [(2, true)] rfl #[] fn_7_YSvWS rfl rfl (fun D h => have q := c_law31_stores hx4 h; q) fun vv a w6 D2 hr hF2 Z => ?_
  obtain ⟨g1, g2, rfl, I3, K⟩ := hr
  have H := (hF2 K).nf rfl
  refine s_runk tSvWS Z 5 rfl rfl fun a Z => ?_
  refine s_end Z [1, 3, 7, 9, 11, 12] rfl fun Z => ?_
  refine p_then (wp_seq ?_)
  obtain ⟨v8, H⟩ := H.openX 1 rfl
  replace H := H.nf rfl; try dsimp only at H
  refine f_quietd (by kernel_rfl) (by kernel_rfl) Z fun Z => ?_
  refine q_runk tSvWS Z 1 rfl rfl fun a Z => ?_
  refine qO Z _ rfl (fun _ hw => oL tSvWS rfl rfl ((H.blw hw).bc 4 0 rfl rfl)) fun a Z => ?_
  refine q_runk tSvWS Z 3 rfl rfl fun a Z => ?_
  refine qO Z _ rfl (fun _ hw => oL tSvWS rfl rfl ((H.blw hw).bc 0 1 rfl rfl)) fun a Z => ?_
  refine q_runk tSvWS Z 2 rfl rfl fun a Z => ?_
  refine q_end Z [1, 3, 7, 9, 11, 13] rfl fun w7 hb Z => ?_
  replace H := H.blw hb
  clear hb
  refine p_then (wp_seq ?_)
  obtain ⟨a0_2, hx5, hF⟩ := bnd_in hF
  obtain ⟨a0_3, hx6, hF⟩ := bnd_in hF
  refine f_regionG Z (by kernel_rfl) (by kernel_rfl) (by decide) (by decide) [6, 10, 11] [(0, [0, 2]), (0, [0, 2]), (0, [0, 2]), (4, [0, 2]), (14, [0, 2]), (0, [0, 2]), (63, [0, 2]), (127, [1, 3]), (255, [1, 3]), (255, [1, 3, 7]), (0, [0, 1]), (1535, [3]), (4095, [7])] (by kernel_rfl) (fun jj => match jj with | 7 => 6 | 8 => 6 | _ => jj) (by kernel_rfl) (fun jj rv vv => cond (Nat.blt jj 6) (cond (Nat.blt jj 3) (cond (Nat.blt jj 1) (vv = pp g1 0) (cond (Nat.blt jj 2) (vv = vU (min w0.mark s0.2.last)) (vv = pp b1 1))) (cond (Nat.blt jj 4) (vv = vU w0.horizon) (cond (Nat.blt jj 5) (vv = .agg #[vU a0_2.mark, vU a0_2.horizon, vI a0_2.epoch, vI a0_2.head]) (vv = .agg (cEMsg x v3_x v4_x v5_x v6_x v7_x).toArray)))) (cond (Nat.blt jj 9) (cond (Nat.blt jj 7) (vv = .tuple #[.agg (cEMsg a0_3.1 (aggAt (tupAt vv 0) 14) (aggAt (tupAt vv 0) 18) (aggAt (tupAt vv 0) 19) (aggAt (tupAt vv 0) 20) (aggAt (tupAt vv 0) 21)).toArray, vT a0_3.2.1]) (cond (Nat.blt jj 8) (vv = .tuple #[.agg (cEMsg a0_3.1 (aggAt (tupAt rv 0) 14) (aggAt (tupAt rv 0) 18) (aggAt (tupAt rv 0) 19) (aggAt (tupAt rv 0) 20) (aggAt (tupAt rv 0) 21)).toArray, vT a0_3.2.1]) (vv = .agg (cEMsg a0_3.1 (aggAt (tupAt rv 0) 14) (aggAt (tupAt rv 0) 18) (aggAt (tupAt rv 0) 19) (aggAt (tupAt rv 0) 20) (aggAt (tupAt rv 0) 21)).toArray))) (cond (Nat.blt jj 11) (cond (Nat.blt jj 10) (vv = vT a0_3.2.1) (vv = .pointer (some ⟨blkOf vv, 0, none⟩))) (cond (Nat.blt jj 12) (True) (vv = vT a0_3.2.1))))) (fun ss vals1 xw => match ss with | 0 => Gx I D w I3 w7 xw [BxC g2 59 [v8, vU s0.2.last], OwC NEref16_Row 118 v8 s0.2.l, OEmvcc_Store g1 s0.1, BxC b2 37 (cEMsg x v3_x v4_x v5_x v6_x v7_x), BxC b1 25 (cElaw31_View w0), SlC NElaw31_Put v1_l l, SlC NElaw31_Put v2_then0 then0, SlC NEMember v3_x x.conf.members, SlC NEOp v4_x x.batch.ops, SlC NEEntry v5_x x.entries, SlC Nu64 v6_x x.stamps, SlC NEPair v7_x x.pairs] | 1 => Gx I D w I3 w7 xw [OEmvcc_Store g1 a0_3.2.2, SlC NEMember (aggAt (tupAt (vals1 6) 0) 14) a0_3.1.conf.members, SlC NEOp (aggAt (tupAt (vals1 6) 0) 18) a0_3.1.batch.ops, SlC NEEntry (aggAt (tupAt (vals1 6) 0) 19) a0_3.1.entries, SlC Nu64 (aggAt (tupAt (vals1 6) 0) 20) a0_3.1.stamps, SlC NEPair (aggAt (tupAt (vals1 6) 0) 21) a0_3.1.pairs, BxC g2 59 [v8, vU s0.2.last], OwC NEref16_Row 118 v8 s0.2.l, BxC b2 37 (cEMsg x v3_x v4_x v5_x v6_x v7_x), BxC b1 25 (cElaw31_View w0), SlC NElaw31_Put v1_l l, SlC NElaw31_Put v2_then0 then0, SlC NEMember v3_x x.conf.members, SlC NEOp v4_x x.batch.ops, SlC NEEntry v5_x x.entries, SlC Nu64 v6_x x.stamps, SlC NEPair v7_x x.pairs] | 2 => Gx I D w I3 w7 xw [BxC (blkOf (vals1 10)) 37 [vI 0, vI 0, vI 0, vI 0, vT false, vU 0, vU 0, vI 0, vI 0, vI 0, vI 0, vS ByteArray.empty, vS ByteArray.empty, vI 0, nS, vU 0, vI 0, vI 0, nS, nS, nS, nS], BxC g2 59 [v8, vU s0.2.last], OwC NEref16_Row 118 v8 s0.2.l, OEmvcc_Store g1 s0.1, BxC b2 37 (cEMsg x v3_x v4_x v5_x v6_x v7_x), BxC b1 25 (cElaw31_View w0), SlC NElaw31_Put v1_l l, SlC NElaw31_Put v2_then0 then0, SlC NEMember v3_x x.conf.members, SlC NEOp v4_x x.batch.ops, SlC NEEntry v5_x x.entries, SlC Nu64 v6_x x.stamps, SlC NEPair v7_x x.pairs] | 3 => Gx I D w I3 w7 xw [BxC (blkOf (vals1 10)) 37 [vI 0, vI 0, vI 0, vI 0, vT false, vU 0, vU 0, vI 0, vI 0, vI 0, vI 0, vS ByteArray.empty, vS ByteArray.empty, vI 0, nS, vU 0, vI 0, vI 0, nS, nS, nS, nS], OEmvcc_Store g1 a0_3.2.2, SlC NEMember (aggAt (tupAt (vals1 6) 0) 14) a0_3.1.conf.members, SlC NEOp (aggAt (tupAt (vals1 6) 0) 18) a0_3.1.batch.ops, SlC NEEntry (aggAt (tupAt (vals1 6) 0) 19) a0_3.1.entries, SlC Nu64 (aggAt (tupAt (vals1 6) 0) 20) a0_3.1.stamps, SlC NEPair (aggAt (tupAt (vals1 6) 0) 21) a0_3.1.pairs, BxC g2 59 [v8, vU s0.2.last], OwC NEref16_Row 118 v8 s0.2.l, BxC b2 37 (cEMsg x v3_x v4_x v5_x v6_x v7_x), BxC b1 25 (cElaw31_View w0), SlC NElaw31_Put v1_l l, SlC NElaw31_Put v2_then0 then0, SlC NEMember v3_x x.conf.members, SlC NEOp v4_x x.batch.ops, SlC NEEntry v5_x x.entries, SlC Nu64 v6_x x.stamps, SlC NEPair v7_x x.pairs] | _ => Gx I D w I3 w7 xw [BxC (blkOf (vals1 10)) 37 (cEMsg a0_3.1 (aggAt (tupAt (vals1 6) 0) 14) (aggAt (tupAt (vals1 6) 0) 18) (aggAt (tupAt (vals1 6) 0) 19) (aggAt (tupAt (vals1 6) 0) 20) (aggAt (tupAt (vals1 6) 0) 21)), OEmvcc_Store g1 a0_3.2.2, SlC NEMember (aggAt (tupAt (vals1 6) 0) 14) a0_3.1.conf.members, SlC NEOp (aggAt (tupAt (vals1 6) 0) 18) a0_3.1.batch.ops, SlC NEEntry (aggAt (tupAt (vals1 6) 0) 19) a0_3.1.entries, SlC Nu64 (aggAt (tupAt (vals1 6) 0) 20) a0_3.1.stamps, SlC NEPair (aggAt (tupAt (vals1 6) 0) 21) a0_3.1.pairs, BxC g2 59 [v8, vU s0.2.last], OwC NEref16_Row 118 v8 s0.2.l, BxC b2 37 (cEMsg x v3_x v4_x v5_x v6_x v7_x), BxC b1 25 (cElaw31_View w0), SlC NElaw31_Put v1_l l, SlC NElaw31_Put v2_then0 then0, SlC NEMember v3_x x.conf.members, SlC NEOp v4_x x.batch.ops, SlC NEEntry v5_x x.entries, SlC Nu64 v6_x x.stamps, SlC NEPair v7_x x.pairs]) (fun _ => Gx.start H) ?_ ?_
  ·intro fr hfr hfe
   refine .cons (fun ss hs vals1 xw hG hV => ?_) ?_
   ·obtain rfl | rfl : ss = 0 ∨ ss = 2 := by simpa using hs
    all_goals
    ·rw [← hfe]
     have hS := (hfr vals1).sub (ts := [11]) rfl
     exact L_val hS rfl (Ob_c tSvWS rfl) ⟨rfl, hG⟩
   refine .cons (fun ss hs vals1 xw hG hV => ?_) ?_
   ·obtain rfl | rfl : ss = 0 ∨ ss = 2 := by simpa using hs
    all_goals
    ·rw [← hfe]
     have hS := (hfr vals1).sub (ts := [13]) rfl
     exact L_val hS rfl (Ob_c tSvWS rfl) ⟨rfl, hG⟩
   refine .cons (fun ss hs vals1 xw hG hV => ?_) ?_
   ·obtain rfl | rfl : ss = 0 ∨ ss = 2 := by simpa using hs
    all_goals
    ·rw [← hfe]
     have hS := (hfr vals1).sub (ts := [7]) rfl
     exact L_val hS rfl (Ob_c tSvWS rfl) ⟨rfl, hG⟩
   refine .cons (fun ss hs vals1 xw hG hV => ?_) ?_
   ·obtain rfl | rfl : ss = 0 ∨ ss = 2 := by simpa using hs
    ·rw [← hfe]
     have hS := (hfr vals1).sub (ts := [75]) rfl
     replace hS := hS.conv (t := 75) rfl (show (vals1 2) = pp b1 1 from hV 2 (by decide))
     obtain ⟨I2, hI2, H⟩ := Gx.ex hG
     exact L_val hS rfl (oL tSvWS rfl rfl (H.bc 4 1 rfl rfl)) ⟨rfl, hG⟩
    ·rw [← hfe]
     have hS := (hfr vals1).sub (ts := [75]) rfl
     replace hS := hS.conv (t := 75) rfl (show (vals1 2) = pp b1 1 from hV 2 (by decide))
     obtain ⟨I2, hI2, H⟩ := Gx.ex hG
     exact L_val hS rfl (oL tSvWS rfl rfl (H.bc 5 1 rfl rfl)) ⟨rfl, hG⟩
   refine .cons (fun ss hs vals1 xw hG hV => ?_) ?_
   ·obtain rfl | rfl : ss = 0 ∨ ss = 2 := by simpa using hs
    all_goals
    ·rw [← hfe]
     have hS := (hfr vals1).sub (ts := [74, 76]) rfl
     replace hS := hS.conv (t := 74) rfl (show (vals1 1) = vU (min w0.mark s0.2.last) from hV 1 (by decide))
     replace hS := hS.conv (t := 76) rfl (show (vals1 3) = vU w0.horizon from hV 3 (by decide))
     obtain ⟨I2, hI2, H⟩ := Gx.ex hG
     refine L_call (caps := #[]) hS fn_8_YSvWS rfl rfl rfl rfl rfl ((have hq := c_serve_At hx5 ((H).pick0 (js := []) rfl rfl); plainC hq)) fun r yw hr => ?_
     obtain ⟨rfl, hb⟩ := hr
     exact ⟨rfl, Gx.blw hG hb⟩
   refine .cons (fun ss hs vals1 xw hG hV => ?_) ?_
   ·obtain rfl | rfl : ss = 0 ∨ ss = 2 := by simpa using hs
    ·rw [← hfe]
     have hS := (hfr vals1).sub (ts := [9]) rfl
     obtain ⟨I2, hI2, H⟩ := Gx.ex hG
     exact L_val hS rfl (oA tSvWS rfl rfl ((H.bx 3 rfl).part 0 rfl)) ⟨rfl, hG⟩
    ·rw [← hfe]
     have hS := (hfr vals1).sub (ts := [9]) rfl
     obtain ⟨I2, hI2, H⟩ := Gx.ex hG
     exact L_val hS rfl (oA tSvWS rfl rfl ((H.bx 4 rfl).part 0 rfl)) ⟨rfl, hG⟩
   refine .cons (fun ss hs vals1 xw hG hV => ?_) ?_
   ·obtain rfl | rfl : ss = 0 ∨ ss = 2 := by simpa using hs
    ·rw [← hfe]
     have hS := (hfr vals1).sub (ts := [73, 77, 78]) rfl
     replace hS := hS.conv (t := 73) rfl (show (vals1 0) = pp g1 0 from hV 0 (by decide))
     replace hS := hS.conv (t := 77) rfl (show (vals1 4) = .agg #[vU a0_2.mark, vU a0_2.horizon, vI a0_2.epoch, vI a0_2.head] from hV 4 (by decide))
     replace hS := hS.conv (t := 78) rfl (show (vals1 5) = .agg (cEMsg x v3_x v4_x v5_x v6_x v7_x).toArray from hV 5 (by decide))
     obtain ⟨I2, hI2, H⟩ := Gx.ex hG
     refine L_hcall H (js := [(2, false), (6, true), (7, true), (8, true), (9, true), (10, true)]) rfl (caps := #[]) hS fn_9_YSvWS rfl rfl rfl rfl rfl (fun D1 hS => have hq := c_serve_Answer hx6 hS; hq) fun _ yw D1 hr hF2 => ?_
     obtain ⟨q0_, q1_, q2_, q3_, q4_, rfl, I3, K⟩ := hr
     obtain ⟨hK, H2⟩ := hF2 K
     exact ⟨rfl, Gx.go hG hI2 hK K.imm H2⟩
    ·rw [← hfe]
     have hS := (hfr vals1).sub (ts := [73, 77, 78]) rfl
     replace hS := hS.conv (t := 73) rfl (show (vals1 0) = pp g1 0 from hV 0 (by decide))
     replace hS := hS.conv (t := 77) rfl (show (vals1 4) = .agg #[vU a0_2.mark, vU a0_2.horizon, vI a0_2.epoch, vI a0_2.head] from hV 4 (by decide))
     replace hS := hS.conv (t := 78) rfl (show (vals1 5) = .agg (cEMsg x v3_x v4_x v5_x v6_x v7_x).toArray from hV 5 (by decide))
     obtain ⟨I2, hI2, H⟩ := Gx.ex hG
     refine L_hcall H (js := [(3, false), (7, true), (8, true), (9, true), (10, true), (11, true)]) rfl (caps := #[]) hS fn_9_YSvWS rfl rfl rfl rfl rfl (fun D1 hS => have hq := c_serve_Answer hx6 hS; hq) fun _ yw D1 hr hF2 => ?_
     obtain ⟨q0_, q1_, q2_, q3_, q4_, rfl, I3, K⟩ := hr
     obtain ⟨hK, H2⟩ := hF2 K
     exact ⟨rfl, Gx.go hG hI2 hK K.imm (Hf.sub H2 [(6, false), (0, false), (0, true), (1, true), (2, true), (3, true), (4, true), (5, false), (5, false), (5, false), (5, false), (5, true), (6, true), (7, true), (8, true), (9, true), (10, true), (11, true)] rfl)⟩
   refine .cons (fun ss hs vals1 xw hG hV => ?_) ?_
   ·obtain rfl | rfl : ss = 1 ∨ ss = 3 := by simpa using hs
    all_goals
    ·rw [← hfe]
     have hS := (hfr vals1).sub (ts := [79]) rfl
     replace hS := hS.conv (t := 79) rfl (show (vals1 6) = .tuple #[.agg (cEMsg a0_3.1 (aggAt (tupAt (vals1 6) 0) 14) (aggAt (tupAt (vals1 6) 0) 18) (aggAt (tupAt (vals1 6) 0) 19) (aggAt (tupAt (vals1 6) 0) 20) (aggAt (tupAt (vals1 6) 0) 21)).toArray, vT a0_3.2.1] from hV 6 (by decide))
     exact L_val hS rfl (Ob_c tSvWS rfl) ⟨rfl, hG⟩
   refine .cons (fun ss hs vals1 xw hG hV => ?_) ?_
   ·obtain rfl | rfl : ss = 1 ∨ ss = 3 := by simpa using hs
    all_goals
    ·rw [← hfe]
     have hS := (hfr vals1).sub (ts := [72]) rfl
     replace hS := hS.conv (t := 72) rfl (show (vals1 7) = .tuple #[.agg (cEMsg a0_3.1 (aggAt (tupAt (vals1 6) 0) 14) (aggAt (tupAt (vals1 6) 0) 18) (aggAt (tupAt (vals1 6) 0) 19) (aggAt (tupAt (vals1 6) 0) 20) (aggAt (tupAt (vals1 6) 0) 21)).toArray, vT a0_3.2.1] from hV 7 (by decide))
     exact L_val hS rfl (Ob_c tSvWS rfl) ⟨rfl, hG⟩
   refine .cons (fun ss hs vals1 xw hG hV => ?_) ?_
   ·obtain rfl | rfl | rfl : ss = 1 ∨ ss = 3 ∨ ss = 7 := by simpa using hs
    all_goals
    ·rw [← hfe]
     have hS := (hfr vals1).sub (ts := [72]) rfl
     replace hS := hS.conv (t := 72) rfl (show (vals1 7) = .tuple #[.agg (cEMsg a0_3.1 (aggAt (tupAt (vals1 6) 0) 14) (aggAt (tupAt (vals1 6) 0) 18) (aggAt (tupAt (vals1 6) 0) 19) (aggAt (tupAt (vals1 6) 0) 20) (aggAt (tupAt (vals1 6) 0) 21)).toArray, vT a0_3.2.1] from hV 7 (by decide))
     exact L_val hS rfl (Ob_c tSvWS rfl) ⟨rfl, hG⟩
   refine .cons (fun ss hs vals1 xw hG hV => ?_) ?_
   ·obtain rfl | rfl : ss = 0 ∨ ss = 1 := by simpa using hs
    all_goals
    ·rw [← hfe]
     have hS := (hfr vals1).sub (ts := []) rfl
     obtain ⟨I2, hI2, H⟩ := Gx.ex hG
     exact L_alloc H (cl := [vI 0, vI 0, vI 0, vI 0, vT false, vU 0, vU 0, vI 0, vI 0, vI 0, vI 0, vS ByteArray.empty, vS ByteArray.empty, vI 0, nS, vU 0, vI 0, vI 0, nS, nS, nS, nS]) (z := .agg #[vI 0, vI 0, vI 0, vI 0, vT false, vU 0, vU 0, vI 0, vI 0, vI 0, vI 0, vS ByteArray.empty, vS ByteArray.empty, vI 0, nS, vU 0, vI 0, vI 0, nS, nS, nS, nS]) hS rfl rfl (by kernel_rfl) rfl fun yw b hK H => ⟨rfl, Gx.go hG hI2 hK (fun _ h => h) H⟩
   refine .cons (fun ss hs vals1 xw hG hV => ?_) ?_
   ·obtain rfl : ss = 3 := by simpa using hs
    rw [← hfe]
    have hS := (hfr vals1).sub (ts := [14, 80]) rfl
    replace hS := hS.conv (t := 14) rfl (show (vals1 10) = .pointer (some ⟨blkOf (vals1 10), 0, none⟩) from hV 10 (by decide))
    replace hS := hS.conv (t := 80) rfl (show (vals1 8) = .agg (cEMsg a0_3.1 (aggAt (tupAt (vals1 6) 0) 14) (aggAt (tupAt (vals1 6) 0) 18) (aggAt (tupAt (vals1 6) 0) 19) (aggAt (tupAt (vals1 6) 0) 20) (aggAt (tupAt (vals1 6) 0) 21)).toArray from hV 8 (by decide))
    obtain ⟨I2, hI2, H⟩ := Gx.ex hG
    exact L_store tSvWS H 0 rfl hS rfl rfl rfl rfl rfl rfl rfl rfl (one_cons rfl (one_cons rfl (one_cons rfl (one_cons rfl (one_cons rfl (one_cons rfl (one_cons rfl (one_cons rfl (one_cons rfl (one_cons rfl (one_cons rfl (one_cons rfl (one_cons rfl (one_cons rfl (one_cons (slS.one (H.slshape 2 rfl)) (one_cons rfl (one_cons rfl (one_cons rfl (one_cons (slS.one (H.slshape 3 rfl)) (one_cons (slS.one (H.slshape 4 rfl)) (one_cons (slS.one (H.slshape 5 rfl)) (one_cons (slS.one (H.slshape 6 rfl)) one_nil)))))))))))))))))))))) (Nat.le_of_ble_eq_true rfl) (putCells_all rfl) fun yw hK H => ⟨trivial, Gx.go hG hI2 hK (fun _ h => h) H⟩
   refine .cons (fun ss hs vals1 xw hG hV => ?_) ?_
   ·obtain rfl : ss = 7 := by simpa using hs
    rw [← hfe]
    have hS := (hfr vals1).sub (ts := [81]) rfl
    replace hS := hS.conv (t := 81) rfl (show (vals1 9) = vT a0_3.2.1 from hV 9 (by decide))
    exact L_val hS rfl (Ob_c tSvWS rfl) ⟨rfl, hG⟩
   exact .nil
  ·intro vals1 a w8 Z hG hV
   replace Z := Z.sub (ts := [1, 3, 7, 9, 11, 14, 15]) (S' := [(1, v2_then0), (3, vU h), (7, pp b1 0), (9, pp b2 0), (11, pp g1 0), (14, vals1 10), (15, vals1 12)]) rfl
   replace Z := Z.conv (t := 14) rfl (show (vals1 10) = .pointer (some ⟨blkOf (vals1 10), 0, none⟩) from hV 10 (by decide))
   replace Z := Z.conv (t := 15) rfl (show (vals1 12) = vT a0_3.2.1 from hV 12 (by decide))
   obtain ⟨I4, _, H⟩ := Gx.ex hG
   clear hG hV
   replace Z := Z.sub (ts := [1, 3, 7, 9, 11, 14, 15]) rfl
   replace H := H.nf rfl; try dsimp only at H
   refine p_then (wp_seq ?_)
   refine wp_seq (f_region Z ?_); clear Z; intro Z
   refine s_runk tSvWS Z 1 rfl rfl fun a Z => ?_
   refine s_end Z [1, 3, 7, 9, 11, 14, 15, 16] rfl fun Z => ?_
   refine p_then (wp_block ?_)
   refine f_iter hF (fun sg a' w' => match sg with | (i, s0_2) => Sl 189 [(1, v2_then0), (3, vU h), (7, pp b1 0), (9, pp b2 0), (11, pp g1 0), (14, .pointer (some ⟨blkOf (vals1 10), 0, none⟩)), (15, vT a0_3.2.1), (16, vI i)] a' ∧ ∃ I2, Hf I D w I2 w' [BxC b1 25 (cElaw31_View w0), BxC b2 37 (cEMsg x v3_x v4_x v5_x v6_x v7_x), OEmvcc_Store g1 s0_2, BxC (blkOf (vals1 10)) 37 (cEMsg a0_3.1 (aggAt (tupAt (vals1 6) 0) 14) (aggAt (tupAt (vals1 6) 0) 18) (aggAt (tupAt (vals1 6) 0) 19) (aggAt (tupAt (vals1 6) 0) 20) (aggAt (tupAt (vals1 6) 0) 21)), SlC NEMember (aggAt (tupAt (vals1 6) 0) 14) a0_3.1.conf.members, SlC NEOp (aggAt (tupAt (vals1 6) 0) 18) a0_3.1.batch.ops, SlC NEEntry (aggAt (tupAt (vals1 6) 0) 19) a0_3.1.entries, SlC Nu64 (aggAt (tupAt (vals1 6) 0) 20) a0_3.1.stamps, SlC NEPair (aggAt (tupAt (vals1 6) 0) 21) a0_3.1.pairs, SlC NElaw31_Put v2_then0 then0, SlC NEMember v3_x x.conf.members, SlC NEOp v4_x x.batch.ops, SlC NEEntry v5_x x.entries, SlC Nu64 v6_x x.stamps, SlC NEPair v7_x x.pairs]) ⟨Z.sub (ts := [1, 3, 7, 9, 11, 14, 15, 16]) rfl, ⟨I4, (H.sub [(10, false), (9, false), (1, false), (0, false), (0, true), (1, true), (2, true), (3, true), (4, true), (8, true), (9, true), (10, true), (11, true), (12, true), (13, true)] rfl).eq rfl⟩⟩ ?_
   rintro rc ⟨i, s0_2⟩ a w9 ⟨Z, I5, H⟩ hF
   unfold F_law31_ServeStays_l1 at hF
   try dsimp only at hF
   refine wp_seq ?_
   refine wp_seq (f_region Z ?_); clear Z; intro Z
   refine s_runk tSvWS Z 2 rfl rfl fun a Z => ?_
   refine sO Z (vI (ln then0)) rfl (Ob_slen tSvWS rfl rfl rfl (H.slshape 9 rfl)) fun a Z => ?_
   refine s_runk tSvWS Z 2 rfl rfl fun a Z => ?_
   refine gO Z (vI i) rfl (wantB_t _) (.n 16 rfl .z) (fun hp => Ob_c tSvWS rfl) fun a Z => ?_
   refine gO Z (vT (decide (i < 30))) rfl (wantB_t _) (.c 87 rfl id .z) (fun hp => Ob_c tSvWS rfl) fun a Z => ?_
   refine sO Z (vT ((decide (i < (ln then0))) && (decide (i < 30)))) rfl (Ob_pick rfl rfl rfl rfl (pick_and _ _)) fun a Z => ?_
   refine s_end Z [1, 3, 7, 9, 11, 14, 15, 16, 89] rfl fun Z => ?_
   refine p_then ?_
   refine f_cond Z rfl (fun hc2 => ?_) (fun hc2 => ?_)
   ·replace hF := ite_t hc2 hF
    refine wp_skip ?_
    refine p_then (wp_seq ?_)
    refine wp_block ?_
    obtain ⟨hg1, hF⟩ := chk_in hF
    obtain ⟨_, ⟨u1, rfl, L1⟩, H⟩ := H.elG 9 rfl (i) (NElaw31_Put.dft _ _)
    replace H := H.addsl L1
    replace H : Hf I D w I5 w9 [SlC NEOp u1 ((gi then0 i).ops), AtG ((0 : Int) ≤ i ∧ i < (ln then0)) (blkOf v2_then0) (oofOf v2_then0 + (i).toNat * 2) [vU ((gi then0 i).t), u1], BxC b1 25 (cElaw31_View w0), BxC b2 37 (cEMsg x v3_x v4_x v5_x v6_x v7_x), OEmvcc_Store g1 s0_2, BxC (blkOf (vals1 10)) 37 (cEMsg a0_3.1 (aggAt (tupAt (vals1 6) 0) 14) (aggAt (tupAt (vals1 6) 0) 18) (aggAt (tupAt (vals1 6) 0) 19) (aggAt (tupAt (vals1 6) 0) 20) (aggAt (tupAt (vals1 6) 0) 21)), SlC NEMember (aggAt (tupAt (vals1 6) 0) 14) a0_3.1.conf.members, SlC NEOp (aggAt (tupAt (vals1 6) 0) 18) a0_3.1.batch.ops, SlC NEEntry (aggAt (tupAt (vals1 6) 0) 19) a0_3.1.entries, SlC Nu64 (aggAt (tupAt (vals1 6) 0) 20) a0_3.1.stamps, SlC NEPair (aggAt (tupAt (vals1 6) 0) 21) a0_3.1.pairs, SlC NElaw31_Put v2_then0 then0, SlC NEMember v3_x x.conf.members, SlC NEOp v4_x x.batch.ops, SlC NEEntry v5_x x.entries, SlC Nu64 v6_x x.stamps, SlC NEPair v7_x x.pairs] := H
    obtain ⟨hg2, hF⟩ := chk_in hF
    obtain ⟨p, hx7, hF⟩ := bnd_in hF
    refine f_quietS 11 (by kernel_rfl) (by kernel_rfl) (by kernel_rfl) (by kernel_rfl) (by kernel_rfl) Z fun Z => ?_
    refine q_runk tSvWS Z 3 rfl rfl fun a Z => ?_
    refine qO Z (.pointer (some ⟨blkOf v2_then0, oofOf v2_then0 + (i).toNat * 2, none⟩)) rfl (fun _ hw => Ob_sidx tSvWS rfl rfl rfl rfl (slPl ((H.blw hw).sl 11 rfl) hg1) hg1) fun a Z => ?_
    refine q_runk tSvWS Z 1 rfl rfl fun a Z => ?_
    refine qO Z (vU ((gi then0 i).t)) rfl (fun _ hw => oL tSvWS rfl rfl (((H.blw hw).atg 1 rfl hg1) 0 _ rfl)) fun a Z => ?_
    refine q_runk tSvWS Z 2 rfl rfl fun a Z => ?_
    refine qO Z (.pointer (some ⟨blkOf v2_then0, oofOf v2_then0 + (i).toNat * 2, none⟩)) rfl (fun _ hw => Ob_sidx tSvWS rfl rfl rfl rfl (slPl ((H.blw hw).sl 11 rfl) hg2) hg2) fun a Z => ?_
    refine q_runk tSvWS Z 1 rfl rfl fun a Z => ?_
    refine qO Z u1 rfl (fun _ hw => oL tSvWS rfl rfl (((H.blw hw).atg 1 rfl hg2) 1 _ rfl)) fun a Z => ?_
    refine q_endS Z [1, 3, 7, 9, 11, 14, 15, 16, 89, 92, 93, 94, 95, 96, 97, 98, 99, 100, 101, 102] rfl fun w10 hb Z => ?_
    replace H := H.blw hb
    clear hb
    refine hC Z H [(4, false), (0, true)] rfl #[] fn_18_YSvWS rfl rfl (fun D h => have q := c_mvcc_Store_Put hx7 h; q) fun vv a w11 D2 hr hF2 Z => ?_
    obtain ⟨rfl, I6, K⟩ := hr
    have H := (hF2 K).nf rfl
    refine s_end Z [1, 3, 7, 9, 11, 14, 15, 16] rfl fun Z => ?_
    refine p_blk ?_
    refine p_then ?_
    obtain ⟨hg3, hF⟩ := chk_in hF
    refine f_region Z fun Z => ?_
    refine s_runk tSvWS Z 1 rfl rfl fun a Z => ?_
    refine sO Z (vI (i + 1)) rfl (Ob_add rfl rfl rfl (wrI hg3)) fun a Z => ?_
    refine s_runk tSvWS Z 1 rfl rfl fun a Z => ?_
    refine s_end Z [1, 3, 7, 9, 11, 14, 15, 16] rfl fun Z => ?_
    refine p_then ?_
    exact ⟨(i + 1, p.2), ⟨Z.sub (ts := [1, 3, 7, 9, 11, 14, 15, 16]) rfl, ⟨I6, (H.sub [(3, false), (3, false), (0, false), (2, false), (2, true), (3, true), (4, true), (5, true), (6, true), (7, true), (8, true), (9, true), (10, true), (11, true), (12, true)] rfl).eq rfl⟩⟩, hF⟩
   ·replace hF := ite_f hc2 hF
    refine wp_exit ?_
    refine p_then_x ?_
    refine p_then_x ?_
    refine f_exit_here ?_
    refine p_then (wp_seq ?_)
    obtain ⟨p_2, hx8, hF⟩ := bnd_in hF
    refine f_region Z fun Z => ?_
    refine s_runk tSvWS Z 2 rfl rfl fun a Z => ?_
    refine hC Z H [(2, false)] rfl #[] fn_19_YSvWS rfl rfl (fun D h => have q := c_mvcc_Store_Prune hx8 h; q) fun vv a w12 D2 hr hF2 Z => ?_
    obtain ⟨rfl, I7, K⟩ := hr
    have H := (hF2 K).nf rfl
    refine s_end Z [3, 7, 9, 11, 14, 15] rfl fun Z => ?_
    refine p_then (wp_seq ?_)
    obtain ⟨l_2, hx9, hF⟩ := bnd_in hF
    obtain ⟨a0_4, hx10, hF⟩ := bnd_in hF
    obtain ⟨a0_5, hx11, hF⟩ := bnd_in hF
    refine f_regionG Z (by kernel_rfl) (by kernel_rfl) (by decide) (by decide) [2, 9, 13, 14] [(0, [0, 1, 4, 5]), (0, [0, 4]), (2, [0, 4]), (0, [0, 1, 4, 5]), (0, [0, 1, 4, 5]), (16, [0, 1, 4, 5]), (56, [0, 1, 4, 5]), (126, [1, 5]), (0, [0, 1, 4, 5]), (511, [1, 5]), (1023, [3, 7]), (2047, [3, 7]), (2047, [3, 7, 15]), (0, [0, 1, 3]), (12287, [7]), (32767, [15])] (by kernel_rfl) (fun jj => match jj with | 10 => 9 | 11 => 9 | _ => jj) (by kernel_rfl) (fun jj rv vv => cond (Nat.blt jj 8) (cond (Nat.blt jj 4) (cond (Nat.blt jj 2) (cond (Nat.blt jj 1) (vv = pp g1 0) (vv = pp g1 0)) (cond (Nat.blt jj 3) (vv = vU l_2) (vv = vU h))) (cond (Nat.blt jj 6) (cond (Nat.blt jj 5) (vv = pp b1 1) (vv = vU w0.horizon)) (cond (Nat.blt jj 7) (vv = vU (max h w0.horizon)) (vv = .agg #[vU a0_4.mark, vU a0_4.horizon, vI a0_4.epoch, vI a0_4.head])))) (cond (Nat.blt jj 12) (cond (Nat.blt jj 10) (cond (Nat.blt jj 9) (vv = .agg (cEMsg x v3_x v4_x v5_x v6_x v7_x).toArray) (vv = .tuple #[.agg (cEMsg a0_5.1 (aggAt (tupAt vv 0) 14) (aggAt (tupAt vv 0) 18) (aggAt (tupAt vv 0) 19) (aggAt (tupAt vv 0) 20) (aggAt (tupAt vv 0) 21)).toArray, vT a0_5.2.1])) (cond (Nat.blt jj 11) (vv = .tuple #[.agg (cEMsg a0_5.1 (aggAt (tupAt rv 0) 14) (aggAt (tupAt rv 0) 18) (aggAt (tupAt rv 0) 19) (aggAt (tupAt rv 0) 20) (aggAt (tupAt rv 0) 21)).toArray, vT a0_5.2.1]) (vv = .agg (cEMsg a0_5.1 (aggAt (tupAt rv 0) 14) (aggAt (tupAt rv 0) 18) (aggAt (tupAt rv 0) 19) (aggAt (tupAt rv 0) 20) (aggAt (tupAt rv 0) 21)).toArray))) (cond (Nat.blt jj 14) (cond (Nat.blt jj 13) (vv = vT a0_5.2.1) (vv = .pointer (some ⟨blkOf vv, 0, none⟩))) (cond (Nat.blt jj 15) (True) (vv = vT a0_5.2.1))))) (fun ss vals2 xw => match ss with | 0 => Gx I D w I7 w12 xw [OEmvcc_Store g1 p_2.2, BxC b1 25 (cElaw31_View w0), BxC b2 37 (cEMsg x v3_x v4_x v5_x v6_x v7_x), BxC (blkOf (vals1 10)) 37 (cEMsg a0_3.1 (aggAt (tupAt (vals1 6) 0) 14) (aggAt (tupAt (vals1 6) 0) 18) (aggAt (tupAt (vals1 6) 0) 19) (aggAt (tupAt (vals1 6) 0) 20) (aggAt (tupAt (vals1 6) 0) 21)), SlC NEMember (aggAt (tupAt (vals1 6) 0) 14) a0_3.1.conf.members, SlC NEOp (aggAt (tupAt (vals1 6) 0) 18) a0_3.1.batch.ops, SlC NEEntry (aggAt (tupAt (vals1 6) 0) 19) a0_3.1.entries, SlC Nu64 (aggAt (tupAt (vals1 6) 0) 20) a0_3.1.stamps, SlC NEPair (aggAt (tupAt (vals1 6) 0) 21) a0_3.1.pairs, SlC NElaw31_Put v2_then0 then0, SlC NEMember v3_x x.conf.members, SlC NEOp v4_x x.batch.ops, SlC NEEntry v5_x x.entries, SlC Nu64 v6_x x.stamps, SlC NEPair v7_x x.pairs] | 1 => Gx I D w I7 w12 xw [OEmvcc_Store g1 p_2.2, BxC b1 25 (cElaw31_View w0), BxC b2 37 (cEMsg x v3_x v4_x v5_x v6_x v7_x), BxC (blkOf (vals1 10)) 37 (cEMsg a0_3.1 (aggAt (tupAt (vals1 6) 0) 14) (aggAt (tupAt (vals1 6) 0) 18) (aggAt (tupAt (vals1 6) 0) 19) (aggAt (tupAt (vals1 6) 0) 20) (aggAt (tupAt (vals1 6) 0) 21)), SlC NEMember (aggAt (tupAt (vals1 6) 0) 14) a0_3.1.conf.members, SlC NEOp (aggAt (tupAt (vals1 6) 0) 18) a0_3.1.batch.ops, SlC NEEntry (aggAt (tupAt (vals1 6) 0) 19) a0_3.1.entries, SlC Nu64 (aggAt (tupAt (vals1 6) 0) 20) a0_3.1.stamps, SlC NEPair (aggAt (tupAt (vals1 6) 0) 21) a0_3.1.pairs, SlC NElaw31_Put v2_then0 then0, SlC NEMember v3_x x.conf.members, SlC NEOp v4_x x.batch.ops, SlC NEEntry v5_x x.entries, SlC Nu64 v6_x x.stamps, SlC NEPair v7_x x.pairs] | 3 => Gx I D w I7 w12 xw [OEmvcc_Store g1 a0_5.2.2, SlC NEMember (aggAt (tupAt (vals2 9) 0) 14) a0_5.1.conf.members, SlC NEOp (aggAt (tupAt (vals2 9) 0) 18) a0_5.1.batch.ops, SlC NEEntry (aggAt (tupAt (vals2 9) 0) 19) a0_5.1.entries, SlC Nu64 (aggAt (tupAt (vals2 9) 0) 20) a0_5.1.stamps, SlC NEPair (aggAt (tupAt (vals2 9) 0) 21) a0_5.1.pairs, BxC b1 25 (cElaw31_View w0), BxC b2 37 (cEMsg x v3_x v4_x v5_x v6_x v7_x), BxC (blkOf (vals1 10)) 37 (cEMsg a0_3.1 (aggAt (tupAt (vals1 6) 0) 14) (aggAt (tupAt (vals1 6) 0) 18) (aggAt (tupAt (vals1 6) 0) 19) (aggAt (tupAt (vals1 6) 0) 20) (aggAt (tupAt (vals1 6) 0) 21)), SlC NEMember (aggAt (tupAt (vals1 6) 0) 14) a0_3.1.conf.members, SlC NEOp (aggAt (tupAt (vals1 6) 0) 18) a0_3.1.batch.ops, SlC NEEntry (aggAt (tupAt (vals1 6) 0) 19) a0_3.1.entries, SlC Nu64 (aggAt (tupAt (vals1 6) 0) 20) a0_3.1.stamps, SlC NEPair (aggAt (tupAt (vals1 6) 0) 21) a0_3.1.pairs, SlC NElaw31_Put v2_then0 then0, SlC NEMember v3_x x.conf.members, SlC NEOp v4_x x.batch.ops, SlC NEEntry v5_x x.entries, SlC Nu64 v6_x x.stamps, SlC NEPair v7_x x.pairs] | 4 => Gx I D w I7 w12 xw [BxC (blkOf (vals2 13)) 37 [vI 0, vI 0, vI 0, vI 0, vT false, vU 0, vU 0, vI 0, vI 0, vI 0, vI 0, vS ByteArray.empty, vS ByteArray.empty, vI 0, nS, vU 0, vI 0, vI 0, nS, nS, nS, nS], OEmvcc_Store g1 p_2.2, BxC b1 25 (cElaw31_View w0), BxC b2 37 (cEMsg x v3_x v4_x v5_x v6_x v7_x), BxC (blkOf (vals1 10)) 37 (cEMsg a0_3.1 (aggAt (tupAt (vals1 6) 0) 14) (aggAt (tupAt (vals1 6) 0) 18) (aggAt (tupAt (vals1 6) 0) 19) (aggAt (tupAt (vals1 6) 0) 20) (aggAt (tupAt (vals1 6) 0) 21)), SlC NEMember (aggAt (tupAt (vals1 6) 0) 14) a0_3.1.conf.members, SlC NEOp (aggAt (tupAt (vals1 6) 0) 18) a0_3.1.batch.ops, SlC NEEntry (aggAt (tupAt (vals1 6) 0) 19) a0_3.1.entries, SlC Nu64 (aggAt (tupAt (vals1 6) 0) 20) a0_3.1.stamps, SlC NEPair (aggAt (tupAt (vals1 6) 0) 21) a0_3.1.pairs, SlC NElaw31_Put v2_then0 then0, SlC NEMember v3_x x.conf.members, SlC NEOp v4_x x.batch.ops, SlC NEEntry v5_x x.entries, SlC Nu64 v6_x x.stamps, SlC NEPair v7_x x.pairs] | 5 => Gx I D w I7 w12 xw [BxC (blkOf (vals2 13)) 37 [vI 0, vI 0, vI 0, vI 0, vT false, vU 0, vU 0, vI 0, vI 0, vI 0, vI 0, vS ByteArray.empty, vS ByteArray.empty, vI 0, nS, vU 0, vI 0, vI 0, nS, nS, nS, nS], OEmvcc_Store g1 p_2.2, BxC b1 25 (cElaw31_View w0), BxC b2 37 (cEMsg x v3_x v4_x v5_x v6_x v7_x), BxC (blkOf (vals1 10)) 37 (cEMsg a0_3.1 (aggAt (tupAt (vals1 6) 0) 14) (aggAt (tupAt (vals1 6) 0) 18) (aggAt (tupAt (vals1 6) 0) 19) (aggAt (tupAt (vals1 6) 0) 20) (aggAt (tupAt (vals1 6) 0) 21)), SlC NEMember (aggAt (tupAt (vals1 6) 0) 14) a0_3.1.conf.members, SlC NEOp (aggAt (tupAt (vals1 6) 0) 18) a0_3.1.batch.ops, SlC NEEntry (aggAt (tupAt (vals1 6) 0) 19) a0_3.1.entries, SlC Nu64 (aggAt (tupAt (vals1 6) 0) 20) a0_3.1.stamps, SlC NEPair (aggAt (tupAt (vals1 6) 0) 21) a0_3.1.pairs, SlC NElaw31_Put v2_then0 then0, SlC NEMember v3_x x.conf.members, SlC NEOp v4_x x.batch.ops, SlC NEEntry v5_x x.entries, SlC Nu64 v6_x x.stamps, SlC NEPair v7_x x.pairs] | 7 => Gx I D w I7 w12 xw [BxC (blkOf (vals2 13)) 37 [vI 0, vI 0, vI 0, vI 0, vT false, vU 0, vU 0, vI 0, vI 0, vI 0, vI 0, vS ByteArray.empty, vS ByteArray.empty, vI 0, nS, vU 0, vI 0, vI 0, nS, nS, nS, nS], OEmvcc_Store g1 a0_5.2.2, SlC NEMember (aggAt (tupAt (vals2 9) 0) 14) a0_5.1.conf.members, SlC NEOp (aggAt (tupAt (vals2 9) 0) 18) a0_5.1.batch.ops, SlC NEEntry (aggAt (tupAt (vals2 9) 0) 19) a0_5.1.entries, SlC Nu64 (aggAt (tupAt (vals2 9) 0) 20) a0_5.1.stamps, SlC NEPair (aggAt (tupAt (vals2 9) 0) 21) a0_5.1.pairs, BxC b1 25 (cElaw31_View w0), BxC b2 37 (cEMsg x v3_x v4_x v5_x v6_x v7_x), BxC (blkOf (vals1 10)) 37 (cEMsg a0_3.1 (aggAt (tupAt (vals1 6) 0) 14) (aggAt (tupAt (vals1 6) 0) 18) (aggAt (tupAt (vals1 6) 0) 19) (aggAt (tupAt (vals1 6) 0) 20) (aggAt (tupAt (vals1 6) 0) 21)), SlC NEMember (aggAt (tupAt (vals1 6) 0) 14) a0_3.1.conf.members, SlC NEOp (aggAt (tupAt (vals1 6) 0) 18) a0_3.1.batch.ops, SlC NEEntry (aggAt (tupAt (vals1 6) 0) 19) a0_3.1.entries, SlC Nu64 (aggAt (tupAt (vals1 6) 0) 20) a0_3.1.stamps, SlC NEPair (aggAt (tupAt (vals1 6) 0) 21) a0_3.1.pairs, SlC NElaw31_Put v2_then0 then0, SlC NEMember v3_x x.conf.members, SlC NEOp v4_x x.batch.ops, SlC NEEntry v5_x x.entries, SlC Nu64 v6_x x.stamps, SlC NEPair v7_x x.pairs] | _ => Gx I D w I7 w12 xw [BxC (blkOf (vals2 13)) 37 (cEMsg a0_5.1 (aggAt (tupAt (vals2 9) 0) 14) (aggAt (tupAt (vals2 9) 0) 18) (aggAt (tupAt (vals2 9) 0) 19) (aggAt (tupAt (vals2 9) 0) 20) (aggAt (tupAt (vals2 9) 0) 21)), OEmvcc_Store g1 a0_5.2.2, SlC NEMember (aggAt (tupAt (vals2 9) 0) 14) a0_5.1.conf.members, SlC NEOp (aggAt (tupAt (vals2 9) 0) 18) a0_5.1.batch.ops, SlC NEEntry (aggAt (tupAt (vals2 9) 0) 19) a0_5.1.entries, SlC Nu64 (aggAt (tupAt (vals2 9) 0) 20) a0_5.1.stamps, SlC NEPair (aggAt (tupAt (vals2 9) 0) 21) a0_5.1.pairs, BxC b1 25 (cElaw31_View w0), BxC b2 37 (cEMsg x v3_x v4_x v5_x v6_x v7_x), BxC (blkOf (vals1 10)) 37 (cEMsg a0_3.1 (aggAt (tupAt (vals1 6) 0) 14) (aggAt (tupAt (vals1 6) 0) 18) (aggAt (tupAt (vals1 6) 0) 19) (aggAt (tupAt (vals1 6) 0) 20) (aggAt (tupAt (vals1 6) 0) 21)), SlC NEMember (aggAt (tupAt (vals1 6) 0) 14) a0_3.1.conf.members, SlC NEOp (aggAt (tupAt (vals1 6) 0) 18) a0_3.1.batch.ops, SlC NEEntry (aggAt (tupAt (vals1 6) 0) 19) a0_3.1.entries, SlC Nu64 (aggAt (tupAt (vals1 6) 0) 20) a0_3.1.stamps, SlC NEPair (aggAt (tupAt (vals1 6) 0) 21) a0_3.1.pairs, SlC NElaw31_Put v2_then0 then0, SlC NEMember v3_x x.conf.members, SlC NEOp v4_x x.batch.ops, SlC NEEntry v5_x x.entries, SlC Nu64 v6_x x.stamps, SlC NEPair v7_x x.pairs]) (fun _ => Gx.start H) ?_ ?_
    ·intro fr hfr hfe
     refine .cons (fun ss hs vals2 xw hG hV => ?_) ?_
     ·obtain rfl | rfl | rfl | rfl : ss = 0 ∨ ss = 1 ∨ ss = 4 ∨ ss = 5 := by simpa using hs
      all_goals
      ·rw [← hfe]
       have hS := (hfr vals2).sub (ts := [11]) rfl
       exact L_val hS rfl (Ob_c tSvWS rfl) ⟨rfl, hG⟩
     refine .cons (fun ss hs vals2 xw hG hV => ?_) ?_
     ·obtain rfl | rfl : ss = 0 ∨ ss = 4 := by simpa using hs
      all_goals
      ·rw [← hfe]
       have hS := (hfr vals2).sub (ts := [11]) rfl
       exact L_val hS rfl (Ob_c tSvWS rfl) ⟨rfl, hG⟩
     refine .cons (fun ss hs vals2 xw hG hV => ?_) ?_
     ·obtain rfl | rfl : ss = 0 ∨ ss = 4 := by simpa using hs
      ·rw [← hfe]
       have hS := (hfr vals2).sub (ts := [109]) rfl
       replace hS := hS.conv (t := 109) rfl (show (vals2 1) = pp g1 0 from hV 1 (by decide))
       obtain ⟨I2, hI2, H⟩ := Gx.ex hG
       refine L_hcall H (js := [(0, false)]) rfl (caps := #[]) hS fn_20_YSvWS rfl rfl rfl rfl rfl (fun D1 hS => have hq := c_mvcc_Store_Last hx9 hS; hq) fun _ yw D1 hr hF2 => ?_
       obtain ⟨rfl, I3, K⟩ := hr
       obtain ⟨hK, H2⟩ := hF2 K
       exact ⟨rfl, Gx.go hG hI2 hK K.imm H2⟩
      ·rw [← hfe]
       have hS := (hfr vals2).sub (ts := [109]) rfl
       replace hS := hS.conv (t := 109) rfl (show (vals2 1) = pp g1 0 from hV 1 (by decide))
       obtain ⟨I2, hI2, H⟩ := Gx.ex hG
       refine L_hcall H (js := [(1, false)]) rfl (caps := #[]) hS fn_20_YSvWS rfl rfl rfl rfl rfl (fun D1 hS => have hq := c_mvcc_Store_Last hx9 hS; hq) fun _ yw D1 hr hF2 => ?_
       obtain ⟨rfl, I3, K⟩ := hr
       obtain ⟨hK, H2⟩ := hF2 K
       exact ⟨rfl, Gx.go hG hI2 hK K.imm (Hf.sub H2 [(1, false), (0, false), (0, false), (0, false), (0, false), (0, true), (1, true), (2, true), (3, true), (4, true), (5, true), (6, true), (7, true), (8, true), (9, true), (10, true)] rfl)⟩
     refine .cons (fun ss hs vals2 xw hG hV => ?_) ?_
     ·obtain rfl | rfl | rfl | rfl : ss = 0 ∨ ss = 1 ∨ ss = 4 ∨ ss = 5 := by simpa using hs
      all_goals
      ·rw [← hfe]
       have hS := (hfr vals2).sub (ts := [3]) rfl
       exact L_val hS rfl (Ob_c tSvWS rfl) ⟨rfl, hG⟩
     refine .cons (fun ss hs vals2 xw hG hV => ?_) ?_
     ·obtain rfl | rfl | rfl | rfl : ss = 0 ∨ ss = 1 ∨ ss = 4 ∨ ss = 5 := by simpa using hs
      all_goals
      ·rw [← hfe]
       have hS := (hfr vals2).sub (ts := [7]) rfl
       exact L_val hS rfl (Ob_c tSvWS rfl) ⟨rfl, hG⟩
     refine .cons (fun ss hs vals2 xw hG hV => ?_) ?_
     ·obtain rfl | rfl | rfl | rfl : ss = 0 ∨ ss = 1 ∨ ss = 4 ∨ ss = 5 := by simpa using hs
      ·rw [← hfe]
       have hS := (hfr vals2).sub (ts := [112]) rfl
       replace hS := hS.conv (t := 112) rfl (show (vals2 4) = pp b1 1 from hV 4 (by decide))
       obtain ⟨I2, hI2, H⟩ := Gx.ex hG
       exact L_val hS rfl (oL tSvWS rfl rfl (H.bc 1 1 rfl rfl)) ⟨rfl, hG⟩
      ·rw [← hfe]
       have hS := (hfr vals2).sub (ts := [112]) rfl
       replace hS := hS.conv (t := 112) rfl (show (vals2 4) = pp b1 1 from hV 4 (by decide))
       obtain ⟨I2, hI2, H⟩ := Gx.ex hG
       exact L_val hS rfl (oL tSvWS rfl rfl (H.bc 1 1 rfl rfl)) ⟨rfl, hG⟩
      ·rw [← hfe]
       have hS := (hfr vals2).sub (ts := [112]) rfl
       replace hS := hS.conv (t := 112) rfl (show (vals2 4) = pp b1 1 from hV 4 (by decide))
       obtain ⟨I2, hI2, H⟩ := Gx.ex hG
       exact L_val hS rfl (oL tSvWS rfl rfl (H.bc 2 1 rfl rfl)) ⟨rfl, hG⟩
      ·rw [← hfe]
       have hS := (hfr vals2).sub (ts := [112]) rfl
       replace hS := hS.conv (t := 112) rfl (show (vals2 4) = pp b1 1 from hV 4 (by decide))
       obtain ⟨I2, hI2, H⟩ := Gx.ex hG
       exact L_val hS rfl (oL tSvWS rfl rfl (H.bc 2 1 rfl rfl)) ⟨rfl, hG⟩
     refine .cons (fun ss hs vals2 xw hG hV => ?_) ?_
     ·obtain rfl | rfl | rfl | rfl : ss = 0 ∨ ss = 1 ∨ ss = 4 ∨ ss = 5 := by simpa using hs
      all_goals
      ·rw [← hfe]
       have hS := (hfr vals2).sub (ts := [111, 113]) rfl
       replace hS := hS.conv (t := 111) rfl (show (vals2 3) = vU h from hV 3 (by decide))
       replace hS := hS.conv (t := 113) rfl (show (vals2 5) = vU w0.horizon from hV 5 (by decide))
       exact L_val hS rfl (Ob_c tSvWS rfl) ⟨rfl, hG⟩
     refine .cons (fun ss hs vals2 xw hG hV => ?_) ?_
     ·obtain rfl | rfl : ss = 1 ∨ ss = 5 := by simpa using hs
      all_goals
      ·rw [← hfe]
       have hS := (hfr vals2).sub (ts := [110, 114]) rfl
       replace hS := hS.conv (t := 110) rfl (show (vals2 2) = vU l_2 from hV 2 (by decide))
       replace hS := hS.conv (t := 114) rfl (show (vals2 6) = vU (max h w0.horizon) from hV 6 (by decide))
       obtain ⟨I2, hI2, H⟩ := Gx.ex hG
       refine L_call (caps := #[]) hS fn_8_YSvWS rfl rfl rfl rfl rfl ((have hq := c_serve_At hx10 ((H).pick0 (js := []) rfl rfl); plainC hq)) fun r yw hr => ?_
       obtain ⟨rfl, hb⟩ := hr
       exact ⟨rfl, Gx.blw hG hb⟩
     refine .cons (fun ss hs vals2 xw hG hV => ?_) ?_
     ·obtain rfl | rfl | rfl | rfl : ss = 0 ∨ ss = 1 ∨ ss = 4 ∨ ss = 5 := by simpa using hs
      ·rw [← hfe]
       have hS := (hfr vals2).sub (ts := [9]) rfl
       obtain ⟨I2, hI2, H⟩ := Gx.ex hG
       exact L_val hS rfl (oA tSvWS rfl rfl ((H.bx 2 rfl).part 0 rfl)) ⟨rfl, hG⟩
      ·rw [← hfe]
       have hS := (hfr vals2).sub (ts := [9]) rfl
       obtain ⟨I2, hI2, H⟩ := Gx.ex hG
       exact L_val hS rfl (oA tSvWS rfl rfl ((H.bx 2 rfl).part 0 rfl)) ⟨rfl, hG⟩
      ·rw [← hfe]
       have hS := (hfr vals2).sub (ts := [9]) rfl
       obtain ⟨I2, hI2, H⟩ := Gx.ex hG
       exact L_val hS rfl (oA tSvWS rfl rfl ((H.bx 3 rfl).part 0 rfl)) ⟨rfl, hG⟩
      ·rw [← hfe]
       have hS := (hfr vals2).sub (ts := [9]) rfl
       obtain ⟨I2, hI2, H⟩ := Gx.ex hG
       exact L_val hS rfl (oA tSvWS rfl rfl ((H.bx 3 rfl).part 0 rfl)) ⟨rfl, hG⟩
     refine .cons (fun ss hs vals2 xw hG hV => ?_) ?_
     ·obtain rfl | rfl : ss = 1 ∨ ss = 5 := by simpa using hs
      ·rw [← hfe]
       have hS := (hfr vals2).sub (ts := [108, 115, 116]) rfl
       replace hS := hS.conv (t := 108) rfl (show (vals2 0) = pp g1 0 from hV 0 (by decide))
       replace hS := hS.conv (t := 115) rfl (show (vals2 7) = .agg #[vU a0_4.mark, vU a0_4.horizon, vI a0_4.epoch, vI a0_4.head] from hV 7 (by decide))
       replace hS := hS.conv (t := 116) rfl (show (vals2 8) = .agg (cEMsg x v3_x v4_x v5_x v6_x v7_x).toArray from hV 8 (by decide))
       obtain ⟨I2, hI2, H⟩ := Gx.ex hG
       refine L_hcall H (js := [(0, false), (9, true), (10, true), (11, true), (12, true), (13, true)]) rfl (caps := #[]) hS fn_9_YSvWS rfl rfl rfl rfl rfl (fun D1 hS => have hq := c_serve_Answer hx11 hS; hq) fun _ yw D1 hr hF2 => ?_
       obtain ⟨q0_, q1_, q2_, q3_, q4_, rfl, I3, K⟩ := hr
       obtain ⟨hK, H2⟩ := hF2 K
       exact ⟨rfl, Gx.go hG hI2 hK K.imm H2⟩
      ·rw [← hfe]
       have hS := (hfr vals2).sub (ts := [108, 115, 116]) rfl
       replace hS := hS.conv (t := 108) rfl (show (vals2 0) = pp g1 0 from hV 0 (by decide))
       replace hS := hS.conv (t := 115) rfl (show (vals2 7) = .agg #[vU a0_4.mark, vU a0_4.horizon, vI a0_4.epoch, vI a0_4.head] from hV 7 (by decide))
       replace hS := hS.conv (t := 116) rfl (show (vals2 8) = .agg (cEMsg x v3_x v4_x v5_x v6_x v7_x).toArray from hV 8 (by decide))
       obtain ⟨I2, hI2, H⟩ := Gx.ex hG
       refine L_hcall H (js := [(1, false), (10, true), (11, true), (12, true), (13, true), (14, true)]) rfl (caps := #[]) hS fn_9_YSvWS rfl rfl rfl rfl rfl (fun D1 hS => have hq := c_serve_Answer hx11 hS; hq) fun _ yw D1 hr hF2 => ?_
       obtain ⟨q0_, q1_, q2_, q3_, q4_, rfl, I3, K⟩ := hr
       obtain ⟨hK, H2⟩ := hF2 K
       exact ⟨rfl, Gx.go hG hI2 hK K.imm (Hf.sub H2 [(6, false), (0, false), (0, true), (1, true), (2, true), (3, true), (4, true), (5, false), (5, false), (5, false), (5, true), (6, true), (7, true), (8, true), (9, true), (10, true), (11, true), (12, true), (13, true), (14, true), (15, true)] rfl)⟩
     refine .cons (fun ss hs vals2 xw hG hV => ?_) ?_
     ·obtain rfl | rfl : ss = 3 ∨ ss = 7 := by simpa using hs
      all_goals
      ·rw [← hfe]
       have hS := (hfr vals2).sub (ts := [117]) rfl
       replace hS := hS.conv (t := 117) rfl (show (vals2 9) = .tuple #[.agg (cEMsg a0_5.1 (aggAt (tupAt (vals2 9) 0) 14) (aggAt (tupAt (vals2 9) 0) 18) (aggAt (tupAt (vals2 9) 0) 19) (aggAt (tupAt (vals2 9) 0) 20) (aggAt (tupAt (vals2 9) 0) 21)).toArray, vT a0_5.2.1] from hV 9 (by decide))
       exact L_val hS rfl (Ob_c tSvWS rfl) ⟨rfl, hG⟩
     refine .cons (fun ss hs vals2 xw hG hV => ?_) ?_
     ·obtain rfl | rfl : ss = 3 ∨ ss = 7 := by simpa using hs
      all_goals
      ·rw [← hfe]
       have hS := (hfr vals2).sub (ts := [107]) rfl
       replace hS := hS.conv (t := 107) rfl (show (vals2 10) = .tuple #[.agg (cEMsg a0_5.1 (aggAt (tupAt (vals2 9) 0) 14) (aggAt (tupAt (vals2 9) 0) 18) (aggAt (tupAt (vals2 9) 0) 19) (aggAt (tupAt (vals2 9) 0) 20) (aggAt (tupAt (vals2 9) 0) 21)).toArray, vT a0_5.2.1] from hV 10 (by decide))
       exact L_val hS rfl (Ob_c tSvWS rfl) ⟨rfl, hG⟩
     refine .cons (fun ss hs vals2 xw hG hV => ?_) ?_
     ·obtain rfl | rfl | rfl : ss = 3 ∨ ss = 7 ∨ ss = 15 := by simpa using hs
      all_goals
      ·rw [← hfe]
       have hS := (hfr vals2).sub (ts := [107]) rfl
       replace hS := hS.conv (t := 107) rfl (show (vals2 10) = .tuple #[.agg (cEMsg a0_5.1 (aggAt (tupAt (vals2 9) 0) 14) (aggAt (tupAt (vals2 9) 0) 18) (aggAt (tupAt (vals2 9) 0) 19) (aggAt (tupAt (vals2 9) 0) 20) (aggAt (tupAt (vals2 9) 0) 21)).toArray, vT a0_5.2.1] from hV 10 (by decide))
       exact L_val hS rfl (Ob_c tSvWS rfl) ⟨rfl, hG⟩
     refine .cons (fun ss hs vals2 xw hG hV => ?_) ?_
     ·obtain rfl | rfl | rfl : ss = 0 ∨ ss = 1 ∨ ss = 3 := by simpa using hs
      all_goals
      ·rw [← hfe]
       have hS := (hfr vals2).sub (ts := []) rfl
       obtain ⟨I2, hI2, H⟩ := Gx.ex hG
       exact L_alloc H (cl := [vI 0, vI 0, vI 0, vI 0, vT false, vU 0, vU 0, vI 0, vI 0, vI 0, vI 0, vS ByteArray.empty, vS ByteArray.empty, vI 0, nS, vU 0, vI 0, vI 0, nS, nS, nS, nS]) (z := .agg #[vI 0, vI 0, vI 0, vI 0, vT false, vU 0, vU 0, vI 0, vI 0, vI 0, vI 0, vS ByteArray.empty, vS ByteArray.empty, vI 0, nS, vU 0, vI 0, vI 0, nS, nS, nS, nS]) hS rfl rfl (by kernel_rfl) rfl fun yw b hK H => ⟨rfl, Gx.go hG hI2 hK (fun _ h => h) H⟩
     refine .cons (fun ss hs vals2 xw hG hV => ?_) ?_
     ·obtain rfl : ss = 7 := by simpa using hs
      rw [← hfe]
      have hS := (hfr vals2).sub (ts := [17, 118]) rfl
      replace hS := hS.conv (t := 17) rfl (show (vals2 13) = .pointer (some ⟨blkOf (vals2 13), 0, none⟩) from hV 13 (by decide))
      replace hS := hS.conv (t := 118) rfl (show (vals2 11) = .agg (cEMsg a0_5.1 (aggAt (tupAt (vals2 9) 0) 14) (aggAt (tupAt (vals2 9) 0) 18) (aggAt (tupAt (vals2 9) 0) 19) (aggAt (tupAt (vals2 9) 0) 20) (aggAt (tupAt (vals2 9) 0) 21)).toArray from hV 11 (by decide))
      obtain ⟨I2, hI2, H⟩ := Gx.ex hG
      exact L_store tSvWS H 0 rfl hS rfl rfl rfl rfl rfl rfl rfl rfl (one_cons rfl (one_cons rfl (one_cons rfl (one_cons rfl (one_cons rfl (one_cons rfl (one_cons rfl (one_cons rfl (one_cons rfl (one_cons rfl (one_cons rfl (one_cons rfl (one_cons rfl (one_cons rfl (one_cons (slS.one (H.slshape 2 rfl)) (one_cons rfl (one_cons rfl (one_cons rfl (one_cons (slS.one (H.slshape 3 rfl)) (one_cons (slS.one (H.slshape 4 rfl)) (one_cons (slS.one (H.slshape 5 rfl)) (one_cons (slS.one (H.slshape 6 rfl)) one_nil)))))))))))))))))))))) (Nat.le_of_ble_eq_true rfl) (putCells_all rfl) fun yw hK H => ⟨trivial, Gx.go hG hI2 hK (fun _ h => h) H⟩
     refine .cons (fun ss hs vals2 xw hG hV => ?_) ?_
     ·obtain rfl : ss = 15 := by simpa using hs
      rw [← hfe]
      have hS := (hfr vals2).sub (ts := [119]) rfl
      replace hS := hS.conv (t := 119) rfl (show (vals2 12) = vT a0_5.2.1 from hV 12 (by decide))
      exact L_val hS rfl (Ob_c tSvWS rfl) ⟨rfl, hG⟩
     exact .nil
    ·intro vals2 a w13 Z hG hV
     replace Z := Z.sub (ts := [14, 15, 17, 18]) (S' := [(14, .pointer (some ⟨blkOf (vals1 10), 0, none⟩)), (15, vT a0_3.2.1), (17, vals2 13), (18, vals2 15)]) rfl
     replace Z := Z.conv (t := 17) rfl (show (vals2 13) = .pointer (some ⟨blkOf (vals2 13), 0, none⟩) from hV 13 (by decide))
     replace Z := Z.conv (t := 18) rfl (show (vals2 15) = vT a0_5.2.1 from hV 15 (by decide))
     obtain ⟨I8, _, H⟩ := Gx.ex hG
     clear hG hV
     replace Z := Z.sub (ts := [14, 15, 17, 18]) rfl
     replace H := H.nf rfl; try dsimp only at H
     refine p_then (wp_seq ?_)
     refine wp_seq (f_region Z ?_); clear Z; intro Z
     refine s_runk tSvWS Z 3 rfl rfl fun a Z => ?_
     refine s_end Z [14, 15, 17, 122] rfl fun Z => ?_
     refine p_then ?_
     refine f_cond Z rfl (fun hc3 => ?_) (fun hc3 => ?_)
     ·replace hF := ite_t hc3 hF
      refine wp_seq (f_region Z ?_); clear Z; intro Z
      refine s_runk tSvWS Z 1 rfl rfl fun a Z => ?_
      refine s_end Z [10] rfl fun Z => ?_
      refine p_then (wp_ret ?_)
      refine p_then_r ?_
      obtain rfl := some_in hF
      exact f_ret Z (run_results1 rfl Z rfl) ⟨rfl, I8, (H.sub [] rfl).eq rfl⟩
     ·replace hF := ite_f hc3 hF
      refine wp_skip ?_
      refine p_then (wp_seq ?_)
      refine wp_seq (f_region Z ?_); clear Z; intro Z
      refine s_runk tSvWS Z 2 rfl rfl fun a Z => ?_
      refine s_end Z [14, 17, 124] rfl fun Z => ?_
      refine p_then ?_
      refine f_cond Z rfl (fun hc4 => ?_) (fun hc4 => ?_)
      ·replace hF := ite_t hc4 hF
       refine wp_seq ?_
       obtain ⟨a0_6, hx12, hF⟩ := bnd_in hF
       refine f_region Z fun Z => ?_
       refine s_runk tSvWS Z 1 rfl rfl fun a Z => ?_
       refine sO Z _ rfl (oL tSvWS rfl rfl (H.bc 9 0 rfl rfl)) fun a Z => ?_
       refine s_runk tSvWS Z 2 rfl rfl fun a Z => ?_
       refine gO Z (.pointer (some ⟨blkOf (vals2 13), 0, none⟩)) rfl (wantB_t _) (.n 17 rfl .z) (fun hp => Ob_c tSvWS rfl) fun a Z => ?_
       refine gO Z _ rfl (wantB_t _) (.c 129 rfl id .z) (fun hp => oL tSvWS rfl rfl (H.bc 0 0 rfl rfl)) fun a Z => ?_
       refine gO Z (vT (a0_5.1.k == 0)) rfl (wantB_t _) (.c 130 rfl id .z) (fun hp => Ob_c tSvWS rfl) fun a Z => ?_
       refine sO Z (vT ((a0_3.1.k == 0) && (a0_5.1.k == 0))) rfl (Ob_pick rfl rfl rfl rfl (pick_and _ _)) fun a Z => ?_
       refine s_runk tSvWS Z 1 rfl rfl fun a Z => ?_
       refine g_call Z (p := ((a0_3.1.k == 0) && (a0_5.1.k == 0))) (v := vT a0_6) (S' := []) (caps := #[]) fn_6_YSvWS rfl rfl rfl (wantB_t _) rfl (by decide) (fun hp hS => hS.sub (ts := []) rfl) rfl rfl rfl rfl (fun hp => (have hq := c_law31_awake (gif_in hx12 hp) ((H).pick0 (js := []) rfl rfl); plainC hq)) fun a w14 hb Z => ?_
       replace H := H.blw hb
       clear hb
       refine sO Z (vT (((a0_3.1.k == 0) && (a0_5.1.k == 0)) && a0_6)) rfl (Ob_pick rfl rfl rfl rfl (pick_and _ _)) fun a Z => ?_
       refine s_runk tSvWS Z 1 rfl rfl fun a Z => ?_
       refine s_end Z [10] rfl fun Z => ?_
       refine p_then (wp_ret ?_)
       refine p_then_r ?_
       obtain rfl := some_in hF
       exact f_ret Z (run_results1 rfl Z rfl) ⟨rfl, I8, (H.sub [] rfl).eq rfl⟩
      ·replace hF := ite_f hc4 hF
       refine wp_skip ?_
       refine p_then (wp_seq ?_)
       refine wp_seq (f_region Z ?_); clear Z; intro Z
       refine s_runk tSvWS Z 1 rfl rfl fun a Z => ?_
       refine sO Z _ rfl (oL tSvWS rfl rfl (H.bc 9 0 rfl rfl)) fun a Z => ?_
       refine s_runk tSvWS Z 2 rfl rfl fun a Z => ?_
       refine gO Z (.pointer (some ⟨blkOf (vals2 13), 0, none⟩)) rfl (wantB_f _) (.n 17 rfl .z) (fun hp => Ob_c tSvWS rfl) fun a Z => ?_
       refine gO Z _ rfl (wantB_f _) (.c 140 rfl id .z) (fun hp => oL tSvWS rfl rfl (H.bc 0 0 rfl rfl)) fun a Z => ?_
       refine gO Z (vT (a0_5.1.k == 7)) rfl (wantB_f _) (.c 141 rfl id .z) (fun hp => Ob_c tSvWS rfl) fun a Z => ?_
       refine sO Z (vT ((a0_3.1.k == 7) || (a0_5.1.k == 7))) rfl (Ob_pick rfl rfl rfl rfl (pick_or _ _)) fun a Z => ?_
       refine s_end Z [14, 17, 143] rfl fun Z => ?_
       refine p_then ?_
       refine f_cond Z rfl (fun hc5 => ?_) (fun hc5 => ?_)
       ·replace hF := ite_t hc5 hF
        refine wp_seq ?_
        obtain ⟨a0_7, hx13, hF⟩ := bnd_in hF
        refine f_region Z fun Z => ?_
        refine s_runk tSvWS Z 1 rfl rfl fun a Z => ?_
        refine sO Z _ rfl (oL tSvWS rfl rfl (H.bc 9 0 rfl rfl)) fun a Z => ?_
        refine s_runk tSvWS Z 2 rfl rfl fun a Z => ?_
        refine gO Z (.pointer (some ⟨blkOf (vals1 10), 21, none⟩)) rfl (wantB_f _) (.n 14 rfl .z) (fun hp => Ob_c tSvWS rfl) fun a Z => ?_
        refine gO Z _ rfl (wantB_f _) (.c 148 rfl id .z) (fun hp => oL tSvWS rfl rfl (H.bc 9 21 rfl rfl)) fun a Z => ?_
        refine gO Z (vI (ln a0_3.1.pairs)) rfl (wantB_f _) (.c 149 rfl id .z) (fun hp => Ob_slen tSvWS rfl rfl rfl (H.slshape 14 rfl)) fun a Z => ?_
        refine gO Z (vT ((ln a0_3.1.pairs) == 0)) rfl (wantB_f _) (.c 150 rfl id .z) (fun hp => Ob_c tSvWS rfl) fun a Z => ?_
        refine sO Z (vT ((a0_3.1.k != 7) || ((ln a0_3.1.pairs) == 0))) rfl (Ob_pick rfl rfl rfl rfl (pick_or _ _)) fun a Z => ?_
        refine s_runk tSvWS Z 1 rfl rfl fun a Z => ?_
        refine gO Z (.pointer (some ⟨blkOf (vals2 13), 0, none⟩)) rfl (wantB_t _) (.n 17 rfl .z) (fun hp => Ob_c tSvWS rfl) fun a Z => ?_
        refine gO Z _ rfl (wantB_t _) (.c 154 rfl id .z) (fun hp => oL tSvWS rfl rfl (H.bc 0 0 rfl rfl)) fun a Z => ?_
        refine gO Z (vT (a0_5.1.k != 7)) rfl (wantB_t _) (.c 155 rfl id .z) (fun hp => Ob_c tSvWS rfl) fun a Z => ?_
        refine gO Z (vT (a0_5.1.k != 7)) rfl (wantB_t _) (.c 156 rfl id .z) (fun hp => Ob_c tSvWS rfl) fun a Z => ?_
        refine gO Z (.pointer (some ⟨blkOf (vals2 13), 21, none⟩)) rfl (wantB_cf _ _) (.n 17 rfl .z) (fun hp => Ob_c tSvWS rfl) fun a Z => ?_
        refine gO Z _ rfl (wantB_cf _ _) (.c 158 rfl id .z) (fun hp => oL tSvWS rfl rfl (H.bc 0 21 rfl rfl)) fun a Z => ?_
        refine gO Z (vI (ln a0_5.1.pairs)) rfl (wantB_cf _ _) (.c 159 rfl id .z) (fun hp => Ob_slen tSvWS rfl rfl rfl (H.slshape 6 rfl)) fun a Z => ?_
        refine gO Z (vT ((ln a0_5.1.pairs) == 0)) rfl (wantB_cf _ _) (.c 160 rfl id .z) (fun hp => Ob_c tSvWS rfl) fun a Z => ?_
        refine gO Z (vT ((a0_5.1.k != 7) || ((ln a0_5.1.pairs) == 0))) rfl (wantB_t _) (.c 157 rfl id (.n 161 rfl .z)) (fun hp => Ob_pick rfl rfl rfl rfl (pick_orp _ _ hp)) fun a Z => ?_
        refine sO Z (vT (((a0_3.1.k != 7) || ((ln a0_3.1.pairs) == 0)) && ((a0_5.1.k != 7) || ((ln a0_5.1.pairs) == 0)))) rfl (Ob_pick rfl rfl rfl rfl (pick_and _ _)) fun a Z => ?_
        refine s_runk tSvWS Z 1 rfl rfl fun a Z => ?_
        refine g_call Z (p := (((a0_3.1.k != 7) || ((ln a0_3.1.pairs) == 0)) && ((a0_5.1.k != 7) || ((ln a0_5.1.pairs) == 0)))) (v := vT a0_7) (S' := []) (caps := #[]) fn_6_YSvWS rfl rfl rfl (wantB_t _) rfl (by decide) (fun hp hS => hS.sub (ts := []) rfl) rfl rfl rfl rfl (fun hp => (have hq := c_law31_awake (gif_in hx13 hp) ((H).pick0 (js := []) rfl rfl); plainC hq)) fun a w15 hb Z => ?_
        replace H := H.blw hb
        clear hb
        refine sO Z (vT ((((a0_3.1.k != 7) || ((ln a0_3.1.pairs) == 0)) && ((a0_5.1.k != 7) || ((ln a0_5.1.pairs) == 0))) && a0_7)) rfl (Ob_pick rfl rfl rfl rfl (pick_and _ _)) fun a Z => ?_
        refine s_runk tSvWS Z 1 rfl rfl fun a Z => ?_
        refine s_end Z [10] rfl fun Z => ?_
        refine p_then (wp_ret ?_)
        refine p_then_r ?_
        obtain rfl := some_in hF
        exact f_ret Z (run_results1 rfl Z rfl) ⟨rfl, I8, (H.sub [] rfl).eq rfl⟩
       ·replace hF := ite_f hc5 hF
        refine wp_skip ?_
        refine p_then (wp_seq ?_)
        obtain ⟨s0_3, hx14, hF⟩ := bnd_in hF
        obtain ⟨a0_8, hx15, hF⟩ := bnd_in hF
        refine f_region Z fun Z => ?_
        refine s_runk tSvWS Z 1 rfl rfl fun a Z => ?_
        refine sO Z _ rfl (oL tSvWS rfl rfl (H.bc 9 21 rfl rfl)) fun a Z => ?_
        refine s_runk tSvWS Z 1 rfl rfl fun a Z => ?_
        refine sO Z _ rfl (oL tSvWS rfl rfl (H.bc 0 21 rfl rfl)) fun a Z => ?_
        refine hC Z H [(14, true), (6, true)] rfl #[] fn_21_YSvWS rfl rfl (fun D h => have q := c_ref06_SamePairs hx14 h; q) fun vv a w16 D2 hr hF2 Z => ?_
        obtain ⟨rfl, I9, K⟩ := hr
        have H := (hF2 K).nf rfl
        refine s_runk tSvWS Z 1 rfl rfl fun a Z => ?_
        refine gO Z (.pointer (some ⟨blkOf (vals1 10), 4, none⟩)) rfl (wantB_t _) (.n 14 rfl .z) (fun hp => Ob_c tSvWS rfl) fun a Z => ?_
        refine gO Z _ rfl (wantB_t _) (.c 173 rfl id .z) (fun hp => oL tSvWS rfl rfl (H.bc 9 4 rfl rfl)) fun a Z => ?_
        refine gO Z (.pointer (some ⟨blkOf (vals2 13), 4, none⟩)) rfl (wantB_t _) (.n 17 rfl .z) (fun hp => Ob_c tSvWS rfl) fun a Z => ?_
        refine gO Z _ rfl (wantB_t _) (.c 175 rfl id .z) (fun hp => oL tSvWS rfl rfl (H.bc 0 4 rfl rfl)) fun a Z => ?_
        refine gO Z (vT (a0_3.1.flag == a0_5.1.flag)) rfl (wantB_t _) (.c 174 rfl id (.c 176 rfl id .z)) (fun hp => Ob_c tSvWS rfl) fun a Z => ?_
        refine sO Z (vT (s0_3 && (a0_3.1.flag == a0_5.1.flag))) rfl (Ob_pick rfl rfl rfl rfl (pick_and _ _)) fun a Z => ?_
        refine s_runk tSvWS Z 1 rfl rfl fun a Z => ?_
        refine gO Z (.pointer (some ⟨blkOf (vals1 10), 5, none⟩)) rfl (wantB_t _) (.n 14 rfl .z) (fun hp => Ob_c tSvWS rfl) fun a Z => ?_
        refine gO Z _ rfl (wantB_t _) (.c 180 rfl id .z) (fun hp => oL tSvWS rfl rfl (H.bc 9 5 rfl rfl)) fun a Z => ?_
        refine gO Z (.pointer (some ⟨blkOf (vals2 13), 5, none⟩)) rfl (wantB_t _) (.n 17 rfl .z) (fun hp => Ob_c tSvWS rfl) fun a Z => ?_
        refine gO Z _ rfl (wantB_t _) (.c 182 rfl id .z) (fun hp => oL tSvWS rfl rfl (H.bc 0 5 rfl rfl)) fun a Z => ?_
        refine gO Z (vT (a0_3.1.at_ == a0_5.1.at_)) rfl (wantB_t _) (.c 181 rfl id (.c 183 rfl id .z)) (fun hp => Ob_c tSvWS rfl) fun a Z => ?_
        refine sO Z (vT ((s0_3 && (a0_3.1.flag == a0_5.1.flag)) && (a0_3.1.at_ == a0_5.1.at_))) rfl (Ob_pick rfl rfl rfl rfl (pick_and _ _)) fun a Z => ?_
        refine s_runk tSvWS Z 1 rfl rfl fun a Z => ?_
        refine g_call Z (p := ((s0_3 && (a0_3.1.flag == a0_5.1.flag)) && (a0_3.1.at_ == a0_5.1.at_))) (v := vT a0_8) (S' := []) (caps := #[]) fn_6_YSvWS rfl rfl rfl (wantB_t _) rfl (by decide) (fun hp hS => hS.sub (ts := []) rfl) rfl rfl rfl rfl (fun hp => (have hq := c_law31_awake (gif_in hx15 hp) ((H).pick0 (js := []) rfl rfl); plainC hq)) fun a w17 hb Z => ?_
        replace H := H.blw hb
        clear hb
        refine sO Z (vT (((s0_3 && (a0_3.1.flag == a0_5.1.flag)) && (a0_3.1.at_ == a0_5.1.at_)) && a0_8)) rfl (Ob_pick rfl rfl rfl rfl (pick_and _ _)) fun a Z => ?_
        refine s_runk tSvWS Z 1 rfl rfl fun a Z => ?_
        refine s_end Z [10] rfl fun Z => ?_
        refine p_then (wp_ret ?_)
        obtain rfl := some_in hF
        exact f_ret Z (run_results1 rfl Z rfl) ⟨rfl, I9, (H.sub [] rfl).eq rfl⟩

theorem awakeV : F_law31_awake = some true := by kernel_rfl

end Go.Proofs.Ytaknkbbjimielaa
