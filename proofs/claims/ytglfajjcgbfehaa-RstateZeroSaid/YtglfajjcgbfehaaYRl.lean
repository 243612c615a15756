/- A replica's log: more of the program's. -/
import Derived.Test.YtglfajjcgbfehaaYAd
import Derived.Test.YtglfajjcgbfehaaYRv
namespace Go.Proofs.Ytglfajjcgbfehaa
open Go.RowKit
def tRlL : TabL := ⟨[(40961, 3), (114688, 0), (114689, 1), (114690, 2), (126976, 0), (126977, 1)], [], [], [(48, (40, 4))], [(3, (1, false)), (27, (1, false)), (40, (4, true)), (48, (1, false)), (110, (1, false)), (124, (2, true))]⟩

def tRl : Tab Try.prog := ⟨tRlL, by kernel_rfl⟩

theorem fn_61_YRl : IsFn Try.prog 61 := ⟨_, Try.func61, by kernel_rfl, by kernel_rfl⟩

theorem fn_67_YRl : IsFn Try.prog 67 := ⟨_, Try.func67, by kernel_rfl, by kernel_rfl⟩

theorem fn_68_YRl : IsFn Try.prog 68 := ⟨_, Try.func68, by kernel_rfl, by kernel_rfl⟩

def F_item_Last (l : List EEntry) : Option Int := (F_item_Stamped l).bind fun s0 => (if (decide (s0 > 0)) = true then (chk (inI (s0 - 1)) (chk ((0 : Int) ≤ s0 - 1 ∧ s0 - 1 < (l.length : Int)) (some ((l.getD (s0 - 1).toNat default).ts)))) else (some 0))

set_option maxHeartbeats 1000000 in
theorem c_item_Last {I D : Dm} {l : List EEntry} {v1_l : Value} {w : World} {rr : Int} (hF : F_item_Last l = some rr) (H : St I D w [SlC NEEntry v1_l l]) :
  Calls Try.prog 68 #[v1_l] w (Ret fun vv w' => vv = vU rr ∧ ∃ I', Hf I D w I' w' []) := by
 replace H := H.hf
 unfold F_item_Last at hF
 refine f_enter 14 Try.func68 rfl rfl (Nat.le_of_ble_eq_true rfl) fun a Z => ?_
 replace Z := Z.sub (ts := [0]) rfl
 refine wp_seq (f_region Z ?_); clear Z; intro Z
 refine s_runk tRl Z 1 rfl rfl fun a Z => ?_
 refine s_end Z [0, 2] rfl fun Z => ?_
 refine p_then (wp_seq ?_)
 refine wp_seq ?_
 obtain ⟨s0, hx1, hF⟩ := bnd_in hF
 refine f_region Z fun Z => ?_
 refine s_runk tRl Z 1 rfl rfl fun a Z => ?_
 refine hC Z H [(0, true)] rfl #[] fn_67_YRl rfl rfl (fun D h => have q := c_item_Stamped hx1 h; q) fun vv a w1 D2 hr hF2 Z => ?_
 obtain ⟨rfl, I1, K⟩ := hr
 have H := (hF2 K).nf rfl
 refine s_runk tRl Z 1 rfl rfl fun a Z => ?_
 refine s_end Z [0, 2, 3] rfl fun Z => ?_
 refine p_then (wp_seq (f_region Z ?_)); clear Z; intro Z
 refine s_runk tRl Z 2 rfl rfl fun a Z => ?_
 refine s_end Z [0, 2, 3, 7] rfl fun Z => ?_
 refine p_then ?_
 refine f_cond Z rfl (fun hc1 => ?_) (fun hc1 => ?_)
 ·replace hF := ite_t hc1 hF
  refine wp_seq ?_
  obtain ⟨hg1, hF⟩ := chk_in hF
  obtain ⟨hg2, hF⟩ := chk_in hF
  refine f_region Z fun Z => ?_
  refine s_runk tRl Z 2 rfl rfl fun a Z => ?_
  refine sO Z (vI (s0 - 1)) rfl (Ob_sub rfl rfl rfl (wrI hg1)) fun a Z => ?_
  refine sO Z (.pointer (some ⟨blkOf v1_l, oofOf v1_l + (s0 - 1).toNat * 4, none⟩)) rfl (Ob_sidx tRl rfl rfl rfl rfl (slPl (H.sl 0 rfl) hg2) hg2) fun a Z => ?_
  refine s_runk tRl Z 1 rfl rfl fun a Z => ?_
  obtain ⟨_, ⟨u1, rfl, L1⟩, H⟩ := H.elG 0 rfl (s0 - 1) (NEEntry.dft _ _)
  replace H := H.addsl L1
  replace H : Hf I D w I1 w1 [SlC NEOp u1 (((l.getD (s0 - 1).toNat default).batch).ops), AtG ((0 : Int) ≤ s0 - 1 ∧ s0 - 1 < (ln l)) (blkOf v1_l) (oofOf v1_l + (s0 - 1).toNat * 4) (cEEntry (l.getD (s0 - 1).toNat default) u1), SlC NEEntry v1_l l] := H
  refine sO Z (vU ((l.getD (s0 - 1).toNat default).ts)) rfl (oL tRl rfl rfl ((H.atg 1 rfl hg2) 3 _ rfl)) fun a Z => ?_
  refine s_runk tRl Z 1 rfl rfl fun a Z => ?_
  refine s_end Z [2] rfl fun Z => ?_
  refine p_then (wp_ret ?_)
  refine p_then_r ?_
  obtain rfl := some_in hF
  exact f_ret Z (run_results1 rfl Z rfl) ⟨rfl, I1, (H.sub [] rfl).eq rfl⟩
 ·replace hF := ite_f hc1 hF
  refine wp_skip ?_
  refine p_then (wp_seq (f_region Z ?_)); clear Z; intro Z
  refine s_runk tRl Z 1 rfl rfl fun a Z => ?_
  refine s_end Z [2] rfl fun Z => ?_
  refine p_then (wp_ret ?_)
  obtain rfl := some_in hF
  exact f_ret Z (run_results1 rfl Z rfl) ⟨rfl, I1, (H.sub [] rfl).eq rfl⟩

def F_rlog_Log_Stamp (l : Erlog_Log) (i : Int) (ts : Int) : Option (Int × Erlog_Log) := (F_rlog_Log_none l).bind fun n0 => (if (n0) = true then (some (8, l)) else (if ((decide (i < 0)) || (decide (i ≥ (l.l.length : Int)))) = true then (some (1, l)) else (if (ts == 0) = true then (some (5, l)) else ((gif (!(i != l.stamped)) (F_item_Last l.l) default).bind fun l_2 => (if ((i != l.stamped) || (decide (ts ≤ l_2))) = true then (some (18, l)) else (chk ((0 : Int) ≤ i ∧ i < (l.l.length : Int)) (chk (inI (l.stamped + 1)) (some (0, ({ l with l := l.l.set (i).toNat ({ batch := ({ client := ((l.l.getD (i).toNat default).batch).client, req := ((l.l.getD (i).toNat default).batch).req, ops := ((l.l.getD (i).toNat default).batch).ops } : EBatch), ts := ts } : EEntry), stamped := l.stamped + 1 } : Erlog_Log))))))))))

set_option maxHeartbeats 1000000 in
theorem c_rlog_Log_Stamp {I D : Dm} {b_l : Nat} {l : Erlog_Log} {i : Int} {ts : Int} {w : World} {rr : Int × Erlog_Log} (hF : F_rlog_Log_Stamp l i ts = some rr) (H : St I D w [OErlog_Log b_l l]) :
  Calls Try.prog 34 #[pp b_l 0, vI i, vU ts] w (Ret fun vv w' => vv = vI rr.1 ∧ ∃ I', Hf I D w I' w' [OErlog_Log b_l rr.2]) := by
 replace H := H.hf
 unfold F_rlog_Log_Stamp at hF
 refine f_enter 56 Try.func34 rfl rfl (Nat.le_of_ble_eq_true rfl) fun a Z => ?_
 replace Z := Z.sub (ts := [0, 1, 2]) rfl
 refine wp_seq (f_region Z ?_); clear Z; intro Z
 refine s_runk tRl Z 1 rfl rfl fun a Z => ?_
 refine s_end Z [0, 1, 2, 6] rfl fun Z => ?_
 refine p_then (wp_seq ?_)
 refine wp_block ?_
 refine wp_seq ?_
 obtain ⟨n0, hx1, hF⟩ := bnd_in hF
 refine f_region Z fun Z => ?_
 refine s_runk tRl Z 1 rfl rfl fun a Z => ?_
 refine hC Z H [(0, false)] rfl #[] fn_61_YRl rfl rfl (fun D h => have q := c_rlog_Log_none hx1 h; q) fun vv a w1 D2 hr hF2 Z => ?_
 obtain ⟨rfl, I1, K⟩ := hr
 have H := (hF2 K).nf rfl
 refine s_runk tRl Z 1 rfl rfl fun a Z => ?_
 refine s_end Z [0, 1, 2, 6, 7] rfl fun Z => ?_
 refine p_then ?_
 refine f_cond Z rfl (fun hc1 => ?_) (fun hc1 => ?_)
 ·replace hF := ite_t hc1 hF
  refine wp_seq (f_region Z ?_); clear Z; intro Z
  refine s_runk tRl Z 1 rfl rfl fun a Z => ?_
  refine s_end Z [0, 1, 2, 6] rfl fun Z => ?_
  refine p_then (wp_ret ?_)
  refine p_blk_r ?_
  refine p_then_r ?_
  obtain rfl := some_in hF
  exact f_ret Z (run_results1 rfl Z rfl) ⟨rfl, I1, (H.sub [(0, false)] rfl).eq rfl⟩
 ·replace hF := ite_f hc1 hF
  refine wp_seq (f_region Z ?_); clear Z; intro Z
  refine s_runk tRl Z 3 rfl rfl fun a Z => ?_
  refine gO Z (vI i) rfl (wantB_f _) (.n 1 rfl .z) (fun hp => Ob_c tRl rfl) fun a Z => ?_
  refine gO Z (pp b_l 0) rfl (wantB_f _) (.n 0 rfl .z) (fun hp => Ob_c tRl rfl) fun a Z => ?_
  refine gO Z (pp b_l 0) rfl (wantB_f _) (.c 15 rfl id .z) (fun hp => Ob_c tRl rfl) fun a Z => ?_
  refine gO Z (pp b_l 0) rfl (wantB_f _) (.c 16 rfl id .z) (fun hp => Ob_c tRl rfl) fun a Z => ?_
  obtain ⟨⟨v1, v2⟩, H⟩ := H.openX 0 rfl
  replace H := H.nf rfl; try dsimp only at H
  refine gO Z _ rfl (wantB_f _) (.c 17 rfl id .z) (fun hp => oL tRl rfl rfl (H.bc 0 0 rfl rfl)) fun a Z => ?_
  refine gO Z (vI (ln l.l)) rfl (wantB_f _) (.c 18 rfl id .z) (fun hp => Ob_slen tRl rfl rfl rfl (H.owshape 1 rfl)) fun a Z => ?_
  refine gO Z (vT (decide (i ≥ (ln l.l)))) rfl (wantB_f _) (.c 14 rfl id (.c 19 rfl id .z)) (fun hp => Ob_c tRl rfl) fun a Z => ?_
  refine sO Z (vT ((decide (i < 0)) || (decide (i ≥ (ln l.l))))) rfl (Ob_pick rfl rfl rfl rfl (pick_or _ _)) fun a Z => ?_
  refine s_runk tRl Z 1 rfl rfl fun a Z => ?_
  refine s_end Z [0, 1, 2, 6, 10] rfl fun Z => ?_
  refine p_then ?_
  refine f_cond Z rfl (fun hc2 => ?_) (fun hc2 => ?_)
  ·replace hF := ite_t hc2 hF
   refine wp_seq (f_region Z ?_); clear Z; intro Z
   refine s_runk tRl Z 1 rfl rfl fun a Z => ?_
   refine s_end Z [0, 1, 2, 6] rfl fun Z => ?_
   refine p_then (wp_ret ?_)
   refine p_blk_r ?_
   refine p_then_r ?_
   replace H := H.sX (OErlog_Log b_l l) (v1, v2) [(0, false), (0, false), (0, false)] rfl rfl rfl
   obtain rfl := some_in hF
   exact f_ret Z (run_results1 rfl Z rfl) ⟨rfl, I1, (H.sub [(0, false)] rfl).eq rfl⟩
  ·replace hF := ite_f hc2 hF
   refine wp_seq (f_region Z ?_); clear Z; intro Z
   refine s_runk tRl Z 3 rfl rfl fun a Z => ?_
   refine s_end Z [0, 1, 2, 6, 22] rfl fun Z => ?_
   refine p_then ?_
   refine f_cond Z rfl (fun hc3 => ?_) (fun hc3 => ?_)
   ·replace hF := ite_t hc3 hF
    refine wp_seq (f_region Z ?_); clear Z; intro Z
    refine s_runk tRl Z 1 rfl rfl fun a Z => ?_
    refine s_end Z [0, 1, 2, 6] rfl fun Z => ?_
    refine p_then (wp_ret ?_)
    refine p_blk_r ?_
    refine p_then_r ?_
    replace H := H.sX (OErlog_Log b_l l) (v1, v2) [(0, false), (0, false), (0, false)] rfl rfl rfl
    obtain rfl := some_in hF
    exact f_ret Z (run_results1 rfl Z rfl) ⟨rfl, I1, (H.sub [(0, false)] rfl).eq rfl⟩
   ·replace hF := ite_f hc3 hF
    refine wp_seq ?_
    obtain ⟨l_2, hx2, hF⟩ := bnd_in hF
    refine f_region Z fun Z => ?_
    refine s_runk tRl Z 4 rfl rfl fun a Z => ?_
    refine sO Z _ rfl (oL tRl rfl rfl (H.bc 0 2 rfl rfl)) fun a Z => ?_
    refine s_runk tRl Z 2 rfl rfl fun a Z => ?_
    refine gO Z (vU ts) rfl (wantB_f _) (.n 2 rfl .z) (fun hp => Ob_c tRl rfl) fun a Z => ?_
    refine gO Z (pp b_l 0) rfl (wantB_f _) (.n 0 rfl .z) (fun hp => Ob_c tRl rfl) fun a Z => ?_
    refine gO Z (pp b_l 0) rfl (wantB_f _) (.c 34 rfl id .z) (fun hp => Ob_c tRl rfl) fun a Z => ?_
    refine gO Z (pp b_l 0) rfl (wantB_f _) (.c 35 rfl id .z) (fun hp => Ob_c tRl rfl) fun a Z => ?_
    refine gO Z _ rfl (wantB_f _) (.c 36 rfl id .z) (fun hp => oL tRl rfl rfl (H.bc 0 0 rfl rfl)) fun a Z => ?_
    refine g_call Z (p := (!(i != l.stamped))) (v := vU l_2) (S' := [(37, v1)]) (caps := #[]) fn_68_YRl rfl rfl rfl (wantB_f _) rfl (by decide) (fun hp hS => (hS.conv (t := 37) rfl (cond_t hp)).sub (ts := [37]) rfl) rfl rfl rfl rfl (fun hp => (have hq := c_item_Last (gif_in hx2 hp) (stS (H.owA 1 rfl) (stB _)); plainC hq)) fun a w2 hb Z => ?_
    replace H := H.blw hb
    clear hb
    refine gO Z (vT (decide (ts ≤ l_2))) rfl (wantB_f _) (.c 33 rfl id (.c 38 rfl id .z)) (fun hp => Ob_c tRl rfl) fun a Z => ?_
    refine sO Z (vT ((i != l.stamped) || (decide (ts ≤ l_2)))) rfl (Ob_pick rfl rfl rfl rfl (pick_or _ _)) fun a Z => ?_
    refine s_runk tRl Z 1 rfl rfl fun a Z => ?_
    refine s_end Z [0, 1, 2, 6, 25] rfl fun Z => ?_
    refine p_then ?_
    refine f_cond Z rfl (fun hc4 => ?_) (fun hc4 => ?_)
    ·replace hF := ite_t hc4 hF
     refine wp_seq (f_region Z ?_); clear Z; intro Z
     refine s_runk tRl Z 1 rfl rfl fun a Z => ?_
     refine s_end Z [0, 1, 2, 6] rfl fun Z => ?_
     refine p_then (wp_ret ?_)
     refine p_blk_r ?_
     refine p_then_r ?_
     replace H := H.sX (OErlog_Log b_l l) (v1, v2) [(0, false), (0, false), (0, false)] rfl rfl rfl
     obtain rfl := some_in hF
     exact f_ret Z (run_results1 rfl Z rfl) ⟨rfl, I1, (H.sub [(0, false)] rfl).eq rfl⟩
    ·replace hF := ite_f hc4 hF
     refine wp_skip ?_
     refine p_blk ?_
     refine p_then (wp_seq ?_)
     obtain ⟨hg1, hF⟩ := chk_in hF
     refine f_region Z fun Z => ?_
     refine s_runk tRl Z 3 rfl rfl fun a Z => ?_
     refine sO Z _ rfl (oL tRl rfl rfl (H.bc 0 0 rfl rfl)) fun a Z => ?_
     refine s_runk tRl Z 2 rfl rfl fun a Z => ?_
     refine sO Z (.pointer (some ⟨blkOf v1, oofOf v1 + (i).toNat * 4, none⟩)) rfl (Ob_sidx tRl rfl rfl rfl rfl (slPl (H.owA 1 rfl) hg1) hg1) fun a Z => ?_
     refine s_runk tRl Z 1 rfl rfl fun a Z => ?_
     refine h_setR tRl Z H 1 (z := i) (d := default) 3 ({ batch := ({ client := ((gi l.l i).batch).client, req := ((gi l.l i).batch).req, ops := ((gi l.l i).batch).ops } : EBatch), ts := ts } : EEntry) rfl hg1 rfl rfl rfl 4 rfl rfl rfl rfl rfl (by decide) (fun cl ⟨s0_, e, h0_⟩ => ⟨s0_, by rw [e]; rfl, h0_⟩) fun w4 H => ?_
     dsimp only [List.eraseIdx] at H
     refine s_end Z [0, 6] rfl fun Z => ?_
     refine p_then (wp_seq ?_)
     obtain ⟨hg2, hF⟩ := chk_in hF
     refine f_region Z fun Z => ?_
     refine s_runk tRl Z 3 rfl rfl fun a Z => ?_
     refine sO Z _ rfl (oL tRl rfl rfl (H.bc 1 2 rfl rfl)) fun a Z => ?_
     refine sO Z (vI (l.stamped + 1)) rfl (Ob_add rfl rfl rfl (wrI hg2)) fun a Z => ?_
     refine s_runk tRl Z 2 rfl rfl fun a Z => ?_
     refine hT tRl Z H 1 rfl rfl rfl rfl rfl (one_cons rfl one_nil) (Nat.le_of_ble_eq_true rfl) rfl fun w5 H => ?_
     dsimp only [List.eraseIdx] at H
     refine s_end Z [6] rfl fun Z => ?_
     refine p_then (wp_seq (f_region Z ?_)); clear Z; intro Z
     refine s_runk tRl Z 1 rfl rfl fun a Z => ?_
     refine s_end Z [6] rfl fun Z => ?_
     refine p_then (wp_ret ?_)
     replace H := H.sX (OErlog_Log b_l ({ l with l := l.l.set (i).toNat ({ batch := ({ client := ((gi l.l i).batch).client, req := ((gi l.l i).batch).req, ops := ((gi l.l i).batch).ops } : EBatch), ts := ts } : EEntry), stamped := l.stamped + 1 } : Erlog_Log)) (v1, v2) [(0, false), (0, false), (0, false)] rfl rfl rfl
     obtain rfl := some_in hF
     exact f_ret Z (run_results1 rfl Z rfl) ⟨rfl, I1, (H.sub [(0, false)] rfl).eq rfl⟩

def F_rlog_Log_Stamped (l : Erlog_Log) : Option Int := (F_rlog_Log_none l).bind fun n0 => (if (n0) = true then (some 0) else (some l.stamped))

set_option maxHeartbeats 1000000 in
theorem c_rlog_Log_Stamped {I D : Dm} {b_l : Nat} {l : Erlog_Log} {w : World} {rr : Int} (hF : F_rlog_Log_Stamped l = some rr) (H : St I D w [OErlog_Log b_l l]) :
  Calls Try.prog 48 #[pp b_l 0] w (Ret fun vv w' => vv = vI rr ∧ ∃ I', Hf I D w I' w' [OErlog_Log b_l l]) := by
 replace H := H.hf
 unfold F_rlog_Log_Stamped at hF
 refine f_enter 9 Try.func48 rfl rfl (Nat.le_of_ble_eq_true rfl) fun a Z => ?_
 replace Z := Z.sub (ts := [0]) rfl
 refine wp_seq (f_region Z ?_); clear Z; intro Z
 refine s_runk tRl Z 1 rfl rfl fun a Z => ?_
 refine s_end Z [0, 2] rfl fun Z => ?_
 refine p_then (wp_seq ?_)
 refine wp_seq ?_
 obtain ⟨n0, hx1, hF⟩ := bnd_in hF
 refine f_region Z fun Z => ?_
 refine s_runk tRl Z 1 rfl rfl fun a Z => ?_
 refine hC Z H [(0, false)] rfl #[] fn_61_YRl rfl rfl (fun D h => have q := c_rlog_Log_none hx1 h; q) fun vv a w1 D2 hr hF2 Z => ?_
 obtain ⟨rfl, I1, K⟩ := hr
 have H := (hF2 K).nf rfl
 refine s_end Z [0, 2, 4] rfl fun Z => ?_
 refine p_then ?_
 refine f_cond Z rfl (fun hc1 => ?_) (fun hc1 => ?_)
 ·replace hF := ite_t hc1 hF
  refine wp_seq (f_region Z ?_); clear Z; intro Z
  refine s_runk tRl Z 1 rfl rfl fun a Z => ?_
  refine s_end Z [0, 2] rfl fun Z => ?_
  refine p_then (wp_ret ?_)
  refine p_then_r ?_
  obtain rfl := some_in hF
  exact f_ret Z (run_results1 rfl Z rfl) ⟨rfl, I1, (H.sub [(0, false)] rfl).eq rfl⟩
 ·replace hF := ite_f hc1 hF
  refine wp_skip ?_
  refine p_then (wp_seq (f_region Z ?_)); clear Z; intro Z
  refine s_runk tRl Z 3 rfl rfl fun a Z => ?_
  obtain ⟨⟨v1, v2⟩, H⟩ := H.openX 0 rfl
  replace H := H.nf rfl; try dsimp only at H
  refine sO Z _ rfl (oL tRl rfl rfl (H.bc 0 2 rfl rfl)) fun a Z => ?_
  refine s_runk tRl Z 1 rfl rfl fun a Z => ?_
  refine s_end Z [2] rfl fun Z => ?_
  refine p_then (wp_ret ?_)
  replace H := H.sX (OErlog_Log b_l l) (v1, v2) [(0, false), (0, false), (0, false)] rfl rfl rfl
  obtain rfl := some_in hF
  exact f_ret Z (run_results1 rfl Z rfl) ⟨rfl, I1, (H.sub [(0, false)] rfl).eq rfl⟩

end Go.Proofs.Ytglfajjcgbfehaa
