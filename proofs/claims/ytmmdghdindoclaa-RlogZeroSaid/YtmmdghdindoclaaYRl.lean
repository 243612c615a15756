/- A replica's log: more of the program's. -/
import Derived.Test.YtmmdghdindoclaaYAd
import Derived.Test.YtmmdghdindoclaaYMR
namespace Go.Proofs.Ytmmdghdindoclaa
open Go.RowKit
def tRlL : TabL := ⟨[(27649, 3), (33792, 0), (33793, 1), (33794, 2), (51200, 0), (51201, 1)], [], [], [(30, (27, 4))], [(3, (1, false)), (25, (1, false)), (27, (4, true)), (30, (1, false)), (31, (1, false)), (50, (2, true))]⟩

def tRl : Tab Try.prog := ⟨tRlL, by kernel_rfl⟩

theorem fn_15_YRl : IsFn Try.prog 15 := ⟨_, Try.func15, by kernel_rfl, by kernel_rfl⟩

theorem fn_16_YRl : IsFn Try.prog 16 := ⟨_, Try.func16, by kernel_rfl, by kernel_rfl⟩

theorem fn_21_YRl : IsFn Try.prog 21 := ⟨_, Try.func21, by kernel_rfl, by kernel_rfl⟩

theorem fn_22_YRl : IsFn Try.prog 22 := ⟨_, Try.func22, by kernel_rfl, by kernel_rfl⟩

theorem E_30_YRl : Elem Try.prog 30 27 4 48 := ⟨Try.underlying30, by
 have h : (Try.prog.info? 27).map (fun i => (i.zero, i.size, i.bytes)) = some (some (.agg #[.int .i64 0, .int .i64 0, .slice none 0 0, .int .u64 0]), 4, 48) := by kernel_rfl
 obtain ⟨i, hi, h1⟩ := Option.map_eq_some_iff.1 h
 simp only [Prod.mk.injEq] at h1
 exact ⟨i, _, hi, h1.1, h1.2.1, h1.2.2, by rfl⟩, by decide⟩

def F_item_Last (l : List EEntry) : Option Int := (F_item_Stamped l).bind fun s0 => (if (decide (s0 > 0)) = true then (chk (inI (s0 - 1)) (chk ((0 : Int) ≤ s0 - 1 ∧ s0 - 1 < (l.length : Int)) (some ((l.getD (s0 - 1).toNat default).ts)))) else (some 0))

set_option maxHeartbeats 1000000 in
theorem c_item_Last {I D : Dm} {l : List EEntry} {v1_l : Value} {w : World} {rr : Int} (hF : F_item_Last l = some rr) (H : St I D w [SlC NEEntry v1_l l]) :
  Calls Try.prog 22 #[v1_l] w (Ret fun vv w' => vv = .int .u64 rr ∧ ∃ I', Hf I D w I' w' []) := by
 replace H := H.hf
 unfold F_item_Last at hF
 refine f_enter 14 Try.func22 rfl rfl (Nat.le_of_ble_eq_true rfl) fun a Z => ?_
 replace Z := Z.sub (ts := [0]) rfl
 refine wp_seq (f_region Z ?_); clear Z; intro Z
 refine s_runk tRl Z 1 rfl rfl ?_; clear Z a; intro a Z
 refine s_end Z [0, 2] rfl ?_; clear Z; intro Z
 refine p_then (wp_seq ?_)
 refine wp_seq ?_
 obtain ⟨s0, hx1, hF⟩ := bnd_in hF
 refine f_region Z ?_; clear Z; intro Z
 refine s_runk tRl Z 1 rfl rfl ?_; clear Z a; intro a Z
 refine h_call Z H (js := [(0, true)]) rfl (caps := #[]) fn_21_YRl rfl rfl rfl rfl rfl (by decide) rfl rfl (fun D1 hS => have hq := c_item_Stamped hx1 hS; hq) ?_; clear Z a; intro vv a w1 D2 hr hF2 Z
 obtain ⟨rfl, I1, K⟩ := hr
 have H : Hf I D w I1 w1 [SlC NEEntry v1_l l] := hF2 K
 clear hF2 K
 refine s_runk tRl Z 1 rfl rfl ?_; clear Z a; intro a Z
 refine s_end Z [0, 2, 3] rfl ?_; clear Z; intro Z
 refine p_then (wp_seq (f_region Z ?_)); clear Z; intro Z
 refine s_runk tRl Z 2 rfl rfl ?_; clear Z a; intro a Z
 refine s_end Z [0, 2, 3, 7] rfl ?_; clear Z; intro Z
 refine p_then ?_
 refine f_cond Z rfl (fun hc1 => ?_) (fun hc1 => ?_)
 ·replace hF := ite_t hc1 hF
  refine wp_seq ?_
  obtain ⟨hg1, hF⟩ := chk_in hF
  obtain ⟨hg2, hF⟩ := chk_in hF
  refine f_region Z ?_; clear Z; intro Z
  refine s_runk tRl Z 2 rfl rfl ?_; clear Z a; intro a Z
  refine s_ob Z (v := .int .i64 (s0 - 1)) rfl rfl (by decide) rfl (Ob_sub rfl rfl rfl (wrI hg1)) ?_; clear Z a; intro a Z
  refine s_ob Z (v := .pointer (some ⟨blkOf v1_l, oofOf v1_l + (s0 - 1).toNat * 4, none⟩)) rfl rfl (by decide) rfl (Ob_sidx tRl rfl rfl rfl rfl (slPl (H.sl 0 rfl) hg2) hg2) ?_; clear Z a; intro a Z
  refine s_runk tRl Z 1 rfl rfl ?_; clear Z a; intro a Z
  obtain ⟨_, ⟨u1, rfl, L1⟩, H⟩ := H.elG 0 rfl (s0 - 1) (NEEntry.dft _ _)
  replace H := H.addsl L1
  replace H : Hf I D w I1 w1 [SlC NEOp u1 (((l.getD (s0 - 1).toNat default).batch).ops), AtG ((0 : Int) ≤ s0 - 1 ∧ s0 - 1 < (l.length : Int)) (blkOf v1_l) (oofOf v1_l + (s0 - 1).toNat * 4) [.int .i64 (((l.getD (s0 - 1).toNat default).batch).client), .int .i64 (((l.getD (s0 - 1).toNat default).batch).req), u1, .int .u64 ((l.getD (s0 - 1).toNat default).ts)], SlC NEEntry v1_l l] := H
  refine s_ob Z (v := .int .u64 ((l.getD (s0 - 1).toNat default).ts)) rfl rfl (by decide) rfl (Ob_load tRl rfl rfl rfl ((H.atg 1 rfl hg2) 3 _ rfl)) ?_; clear Z a; intro a Z
  refine s_runk tRl Z 1 rfl rfl ?_; clear Z a; intro a Z
  refine s_end Z [2] rfl ?_; clear Z; intro Z
  refine p_then (wp_ret ?_)
  refine p_then_r ?_
  obtain rfl := some_in hF
  exact f_ret Z (run_results1 rfl Z rfl) ⟨rfl, I1, (H.sub [] rfl).eq rfl⟩
 ·replace hF := ite_f hc1 hF
  refine wp_skip ?_
  refine p_then (wp_seq (f_region Z ?_)); clear Z; intro Z
  refine s_runk tRl Z 1 rfl rfl ?_; clear Z a; intro a Z
  refine s_end Z [2] rfl ?_; clear Z; intro Z
  refine p_then (wp_ret ?_)
  obtain rfl := some_in hF
  exact f_ret Z (run_results1 rfl Z rfl) ⟨rfl, I1, (H.sub [] rfl).eq rfl⟩

def F_rlog_Log_Stamp (l : Erlog_Log) (i : Int) (ts : Int) : Option (Int × Erlog_Log) := (F_rlog_Log_none l).bind fun n0 => (if (n0) = true then (some (8, l)) else (if ((decide (i < 0)) || (decide (i ≥ (l.l.length : Int)))) = true then (some (1, l)) else (if (ts == 0) = true then (some (5, l)) else ((gif (!(i != l.stamped)) (F_item_Last l.l) default).bind fun l_2 => (if ((i != l.stamped) || (decide (ts ≤ l_2))) = true then (some (18, l)) else (chk ((0 : Int) ≤ i ∧ i < (l.l.length : Int)) (chk (inI (l.stamped + 1)) (some (0, ({ l with l := l.l.set (i).toNat ({ batch := ({ client := ((l.l.getD (i).toNat default).batch).client, req := ((l.l.getD (i).toNat default).batch).req, ops := ((l.l.getD (i).toNat default).batch).ops } : EBatch), ts := ts } : EEntry), stamped := l.stamped + 1 } : Erlog_Log))))))))))

set_option maxHeartbeats 1000000 in
theorem c_rlog_Log_Stamp {I D : Dm} {b_l : Nat} {l : Erlog_Log} {i : Int} {ts : Int} {w : World} {rr : Int × Erlog_Log} (hF : F_rlog_Log_Stamp l i ts = some rr) (H : St I D w [OErlog_Log b_l l]) :
  Calls Try.prog 7 #[.pointer (some ⟨b_l, 0, none⟩), .int .i64 i, .int .u64 ts] w (Ret fun vv w' => vv = .int .i64 rr.1 ∧ ∃ I', Hf I D w I' w' [OErlog_Log b_l rr.2]) := by
 replace H := H.hf
 unfold F_rlog_Log_Stamp at hF
 refine f_enter 56 Try.func7 rfl rfl (Nat.le_of_ble_eq_true rfl) fun a Z => ?_
 replace Z := Z.sub (ts := [0, 1, 2]) rfl
 refine wp_seq (f_region Z ?_); clear Z; intro Z
 refine s_runk tRl Z 1 rfl rfl ?_; clear Z a; intro a Z
 refine s_end Z [0, 1, 2, 6] rfl ?_; clear Z; intro Z
 refine p_then (wp_seq ?_)
 refine wp_block ?_
 refine wp_seq ?_
 obtain ⟨n0, hx1, hF⟩ := bnd_in hF
 refine f_region Z ?_; clear Z; intro Z
 refine s_runk tRl Z 1 rfl rfl ?_; clear Z a; intro a Z
 refine h_call Z H (js := [(0, false)]) rfl (caps := #[]) fn_15_YRl rfl rfl rfl rfl rfl (by decide) rfl rfl (fun D1 hS => have hq := c_rlog_Log_none hx1 hS; hq) ?_; clear Z a; intro vv a w1 D2 hr hF2 Z
 obtain ⟨rfl, I1, K⟩ := hr
 have H : Hf I D w I1 w1 [OErlog_Log b_l l] := hF2 K
 clear hF2 K
 refine s_runk tRl Z 1 rfl rfl ?_; clear Z a; intro a Z
 refine s_end Z [0, 1, 2, 6, 7] rfl ?_; clear Z; intro Z
 refine p_then ?_
 refine f_cond Z rfl (fun hc1 => ?_) (fun hc1 => ?_)
 ·replace hF := ite_t hc1 hF
  refine wp_seq (f_region Z ?_); clear Z; intro Z
  refine s_runk tRl Z 1 rfl rfl ?_; clear Z a; intro a Z
  refine s_end Z [0, 1, 2, 6] rfl ?_; clear Z; intro Z
  refine p_then (wp_ret ?_)
  refine p_blk_r ?_
  refine p_then_r ?_
  obtain rfl := some_in hF
  exact f_ret Z (run_results1 rfl Z rfl) ⟨rfl, I1, (H.sub [(0, false)] rfl).eq rfl⟩
 ·replace hF := ite_f hc1 hF
  refine wp_seq (f_region Z ?_); clear Z; intro Z
  refine s_runk tRl Z 3 rfl rfl ?_; clear Z a; intro a Z
  refine g_ob Z (p := (!(decide (i < 0)))) (v := .int .i64 i) (S' := [(1, .int .i64 i)]) rfl rfl rfl (wantB_f _) rfl (by decide) (fun hp hS => hS.sub (ts := [1]) rfl) (fun hp => Ob_c tRl rfl) ?_; clear Z a; intro a Z
  refine g_ob Z (p := (!(decide (i < 0)))) (v := .pointer (some ⟨b_l, 0, none⟩)) (S' := [(0, .pointer (some ⟨b_l, 0, none⟩))]) rfl rfl rfl (wantB_f _) rfl (by decide) (fun hp hS => hS.sub (ts := [0]) rfl) (fun hp => Ob_c tRl rfl) ?_; clear Z a; intro a Z
  refine g_ob Z (p := (!(decide (i < 0)))) (v := .pointer (some ⟨b_l, 0, none⟩)) (S' := [(15, .pointer (some ⟨b_l, 0, none⟩))]) rfl rfl rfl (wantB_f _) rfl (by decide) (fun hp hS => (hS.conv (t := 15) rfl (cond_t hp)).sub (ts := [15]) rfl) (fun hp => Ob_c tRl rfl) ?_; clear Z a; intro a Z
  refine g_ob Z (p := (!(decide (i < 0)))) (v := .pointer (some ⟨b_l, 0, none⟩)) (S' := [(16, .pointer (some ⟨b_l, 0, none⟩))]) rfl rfl rfl (wantB_f _) rfl (by decide) (fun hp hS => (hS.conv (t := 16) rfl (cond_t hp)).sub (ts := [16]) rfl) (fun hp => Ob_c tRl rfl) ?_; clear Z a; intro a Z
  obtain ⟨⟨v1, v2⟩, H⟩ := H.openX 0 rfl
  replace H : Hf I D w I1 w1 [BxC b_l 33 [v1, v2, .int .i64 l.stamped], OwC NEEntry 27 v1 l.l, PmC M_31 v2 l.at_] := H
  refine g_ob Z (p := (!(decide (i < 0)))) (v := v1) (S' := [(17, .pointer (some ⟨b_l, 0, none⟩))]) rfl rfl rfl (wantB_f _) rfl (by decide) (fun hp hS => (hS.conv (t := 17) rfl (cond_t hp)).sub (ts := [17]) rfl) (fun hp => Ob_load tRl rfl rfl rfl ((H.bx 0 rfl).cell 0 rfl)) ?_; clear Z a; intro a Z
  refine g_ob Z (p := (!(decide (i < 0)))) (v := .int .i64 (l.l.length : Int)) (S' := [(18, v1)]) rfl rfl rfl (wantB_f _) rfl (by decide) (fun hp hS => (hS.conv (t := 18) rfl (cond_t hp)).sub (ts := [18]) rfl) (fun hp => Ob_slen tRl rfl rfl rfl (H.owshape 1 rfl)) ?_; clear Z a; intro a Z
  refine g_ob Z (p := (!(decide (i < 0)))) (v := .bool (decide (i ≥ (l.l.length : Int)))) (S' := [(14, .int .i64 i), (19, .int .i64 (l.l.length : Int))]) rfl rfl rfl (wantB_f _) rfl (by decide) (fun hp hS => ((hS.conv (t := 14) rfl (cond_t hp)).conv (t := 19) rfl (cond_t hp)).sub (ts := [14, 19]) rfl) (fun hp => Ob_c tRl rfl) ?_; clear Z a; intro a Z
  refine s_ob Z (v := .bool ((decide (i < 0)) || (decide (i ≥ (l.l.length : Int))))) rfl rfl (by decide) rfl (Ob_pick rfl rfl rfl rfl (pick_or _ _)) ?_; clear Z a; intro a Z
  refine s_runk tRl Z 1 rfl rfl ?_; clear Z a; intro a Z
  refine s_end Z [0, 1, 2, 6, 10] rfl ?_; clear Z; intro Z
  refine p_then ?_
  refine f_cond Z rfl (fun hc2 => ?_) (fun hc2 => ?_)
  ·replace hF := ite_t hc2 hF
   refine wp_seq (f_region Z ?_); clear Z; intro Z
   refine s_runk tRl Z 1 rfl rfl ?_; clear Z a; intro a Z
   refine s_end Z [0, 1, 2, 6] rfl ?_; clear Z; intro Z
   refine p_then (wp_ret ?_)
   refine p_blk_r ?_
   refine p_then_r ?_
   replace H : Hf I D w I1 w1 [OErlog_Log b_l l] := H.shutX (v1, v2) [(0, false), (0, false), (0, false)] rfl
   obtain rfl := some_in hF
   exact f_ret Z (run_results1 rfl Z rfl) ⟨rfl, I1, (H.sub [(0, false)] rfl).eq rfl⟩
  ·replace hF := ite_f hc2 hF
   refine wp_seq (f_region Z ?_); clear Z; intro Z
   refine s_runk tRl Z 3 rfl rfl ?_; clear Z a; intro a Z
   refine s_end Z [0, 1, 2, 6, 22] rfl ?_; clear Z; intro Z
   refine p_then ?_
   refine f_cond Z rfl (fun hc3 => ?_) (fun hc3 => ?_)
   ·replace hF := ite_t hc3 hF
    refine wp_seq (f_region Z ?_); clear Z; intro Z
    refine s_runk tRl Z 1 rfl rfl ?_; clear Z a; intro a Z
    refine s_end Z [0, 1, 2, 6] rfl ?_; clear Z; intro Z
    refine p_then (wp_ret ?_)
    refine p_blk_r ?_
    refine p_then_r ?_
    replace H : Hf I D w I1 w1 [OErlog_Log b_l l] := H.shutX (v1, v2) [(0, false), (0, false), (0, false)] rfl
    obtain rfl := some_in hF
    exact f_ret Z (run_results1 rfl Z rfl) ⟨rfl, I1, (H.sub [(0, false)] rfl).eq rfl⟩
   ·replace hF := ite_f hc3 hF
    refine wp_seq ?_
    obtain ⟨l_2, hx2, hF⟩ := bnd_in hF
    refine f_region Z ?_; clear Z; intro Z
    refine s_runk tRl Z 4 rfl rfl ?_; clear Z a; intro a Z
    refine s_ob Z (v := .int .i64 l.stamped) rfl rfl (by decide) rfl (Ob_load tRl rfl rfl rfl ((H.bx 0 rfl).cell 2 rfl)) ?_; clear Z a; intro a Z
    refine s_runk tRl Z 2 rfl rfl ?_; clear Z a; intro a Z
    refine g_ob Z (p := (!(i != l.stamped))) (v := .int .u64 ts) (S' := [(2, .int .u64 ts)]) rfl rfl rfl (wantB_f _) rfl (by decide) (fun hp hS => hS.sub (ts := [2]) rfl) (fun hp => Ob_c tRl rfl) ?_; clear Z a; intro a Z
    refine g_ob Z (p := (!(i != l.stamped))) (v := .pointer (some ⟨b_l, 0, none⟩)) (S' := [(0, .pointer (some ⟨b_l, 0, none⟩))]) rfl rfl rfl (wantB_f _) rfl (by decide) (fun hp hS => hS.sub (ts := [0]) rfl) (fun hp => Ob_c tRl rfl) ?_; clear Z a; intro a Z
    refine g_ob Z (p := (!(i != l.stamped))) (v := .pointer (some ⟨b_l, 0, none⟩)) (S' := [(34, .pointer (some ⟨b_l, 0, none⟩))]) rfl rfl rfl (wantB_f _) rfl (by decide) (fun hp hS => (hS.conv (t := 34) rfl (cond_t hp)).sub (ts := [34]) rfl) (fun hp => Ob_c tRl rfl) ?_; clear Z a; intro a Z
    refine g_ob Z (p := (!(i != l.stamped))) (v := .pointer (some ⟨b_l, 0, none⟩)) (S' := [(35, .pointer (some ⟨b_l, 0, none⟩))]) rfl rfl rfl (wantB_f _) rfl (by decide) (fun hp hS => (hS.conv (t := 35) rfl (cond_t hp)).sub (ts := [35]) rfl) (fun hp => Ob_c tRl rfl) ?_; clear Z a; intro a Z
    refine g_ob Z (p := (!(i != l.stamped))) (v := v1) (S' := [(36, .pointer (some ⟨b_l, 0, none⟩))]) rfl rfl rfl (wantB_f _) rfl (by decide) (fun hp hS => (hS.conv (t := 36) rfl (cond_t hp)).sub (ts := [36]) rfl) (fun hp => Ob_load tRl rfl rfl rfl ((H.bx 0 rfl).cell 0 rfl)) ?_; clear Z a; intro a Z
    refine g_call Z (p := (!(i != l.stamped))) (v := .int .u64 l_2) (S' := [(37, v1)]) (caps := #[]) fn_22_YRl rfl rfl rfl (wantB_f _) rfl (by decide) (fun hp hS => (hS.conv (t := 37) rfl (cond_t hp)).sub (ts := [37]) rfl) rfl rfl rfl rfl (fun hp => (have hq := c_item_Last (gif_in hx2 hp) (stS (H.owA 1 rfl) (stB _)); plainC hq)) ?_; clear Z a; intro a w2 hb Z
    replace H : Hf I D w I1 w2 [BxC b_l 33 [v1, v2, .int .i64 l.stamped], OwC NEEntry 27 v1 l.l, PmC M_31 v2 l.at_] := H.blw hb
    clear hb
    refine g_ob Z (p := (!(i != l.stamped))) (v := .bool (decide (ts ≤ l_2))) (S' := [(33, .int .u64 ts), (38, .int .u64 l_2)]) rfl rfl rfl (wantB_f _) rfl (by decide) (fun hp hS => ((hS.conv (t := 33) rfl (cond_t hp)).conv (t := 38) rfl (cond_t hp)).sub (ts := [33, 38]) rfl) (fun hp => Ob_c tRl rfl) ?_; clear Z a; intro a Z
    refine s_ob Z (v := .bool ((i != l.stamped) || (decide (ts ≤ l_2)))) rfl rfl (by decide) rfl (Ob_pick rfl rfl rfl rfl (pick_or _ _)) ?_; clear Z a; intro a Z
    refine s_runk tRl Z 1 rfl rfl ?_; clear Z a; intro a Z
    refine s_end Z [0, 1, 2, 6, 25] rfl ?_; clear Z; intro Z
    refine p_then ?_
    refine f_cond Z rfl (fun hc4 => ?_) (fun hc4 => ?_)
    ·replace hF := ite_t hc4 hF
     refine wp_seq (f_region Z ?_); clear Z; intro Z
     refine s_runk tRl Z 1 rfl rfl ?_; clear Z a; intro a Z
     refine s_end Z [0, 1, 2, 6] rfl ?_; clear Z; intro Z
     refine p_then (wp_ret ?_)
     refine p_blk_r ?_
     refine p_then_r ?_
     replace H : Hf I D w I1 w2 [OErlog_Log b_l l] := H.shutX (v1, v2) [(0, false), (0, false), (0, false)] rfl
     obtain rfl := some_in hF
     exact f_ret Z (run_results1 rfl Z rfl) ⟨rfl, I1, (H.sub [(0, false)] rfl).eq rfl⟩
    ·replace hF := ite_f hc4 hF
     refine wp_skip ?_
     refine p_blk ?_
     refine p_then (wp_seq ?_)
     obtain ⟨hg1, hF⟩ := chk_in hF
     refine f_region Z ?_; clear Z; intro Z
     refine s_runk tRl Z 3 rfl rfl ?_; clear Z a; intro a Z
     refine s_ob Z (v := v1) rfl rfl (by decide) rfl (Ob_load tRl rfl rfl rfl ((H.bx 0 rfl).cell 0 rfl)) ?_; clear Z a; intro a Z
     refine s_runk tRl Z 2 rfl rfl ?_; clear Z a; intro a Z
     refine s_ob Z (v := .pointer (some ⟨blkOf v1, oofOf v1 + (i).toNat * 4, none⟩)) rfl rfl (by decide) rfl (Ob_sidx tRl rfl rfl rfl rfl (slPl (H.owA 1 rfl) hg1) hg1) ?_; clear Z a; intro a Z
     refine s_runk tRl Z 1 rfl rfl ?_; clear Z a; intro a Z
     refine h_setR tRl Z H 1 (z := i) (d := default) 3 ({ batch := ({ client := ((l.l.getD (i).toNat default).batch).client, req := ((l.l.getD (i).toNat default).batch).req, ops := ((l.l.getD (i).toNat default).batch).ops } : EBatch), ts := ts } : EEntry) rfl hg1 rfl rfl rfl 4 rfl rfl rfl rfl rfl (by decide) (fun cl ⟨s0_, e, h0_⟩ => ⟨s0_, by rw [e]; rfl, h0_⟩) ?_; clear H; intro w4 H
     dsimp only [List.eraseIdx] at H
     refine s_end Z [0, 6] rfl ?_; clear Z; intro Z
     refine p_then (wp_seq ?_)
     obtain ⟨hg2, hF⟩ := chk_in hF
     refine f_region Z ?_; clear Z; intro Z
     refine s_runk tRl Z 3 rfl rfl ?_; clear Z a; intro a Z
     refine s_ob Z (v := .int .i64 l.stamped) rfl rfl (by decide) rfl (Ob_load tRl rfl rfl rfl ((H.bx 1 rfl).cell 2 rfl)) ?_; clear Z a; intro a Z
     refine s_ob Z (v := .int .i64 (l.stamped + 1)) rfl rfl (by decide) rfl (Ob_add rfl rfl rfl (wrI hg2)) ?_; clear Z a; intro a Z
     refine s_runk tRl Z 2 rfl rfl ?_; clear Z a; intro a Z
     refine h_store tRl Z H 1 rfl rfl rfl rfl rfl rfl rfl rfl rfl (one_cons rfl one_nil) (Nat.le_of_ble_eq_true rfl) rfl ?_; clear H; intro w5 H
     dsimp only [List.eraseIdx] at H
     refine s_end Z [6] rfl ?_; clear Z; intro Z
     refine p_then (wp_seq (f_region Z ?_)); clear Z; intro Z
     refine s_runk tRl Z 1 rfl rfl ?_; clear Z a; intro a Z
     refine s_end Z [6] rfl ?_; clear Z; intro Z
     refine p_then (wp_ret ?_)
     replace H : Hf I D w I1 w5 [OErlog_Log b_l ({ l with l := l.l.set (i).toNat ({ batch := ({ client := ((l.l.getD (i).toNat default).batch).client, req := ((l.l.getD (i).toNat default).batch).req, ops := ((l.l.getD (i).toNat default).batch).ops } : EBatch), ts := ts } : EEntry), stamped := l.stamped + 1 } : Erlog_Log)] := H.shutX (v1, v2) [(0, false), (0, false), (0, false)] rfl
     obtain rfl := some_in hF
     exact f_ret Z (run_results1 rfl Z rfl) ⟨rfl, I1, (H.sub [(0, false)] rfl).eq rfl⟩

def F_rlog_Log_Find (l : Erlog_Log) (client : Int) (req : Int) : Option (Int × Erlog_Log) := (F_rlog_Log_none l).bind fun n0 => (if (n0) = true then (some ((-1), l)) else (optE l.at_ (none) (fun m => chk (inI (({ client := client, req := req } : Erlog_who).client) ∧ inI (({ client := client, req := req } : Erlog_who).req)) (if ((mget m ({ client := client, req := req } : Erlog_who)).isSome) = true then (some (((mget m ({ client := client, req := req } : Erlog_who)).getD 0), ({ l with at_ := some m } : Erlog_Log))) else (some ((-1), ({ l with at_ := some m } : Erlog_Log)))))))

set_option maxHeartbeats 1000000 in
theorem c_rlog_Log_Find {I D : Dm} {b_l : Nat} {l : Erlog_Log} {client : Int} {req : Int} {w : World} {rr : Int × Erlog_Log} (hF : F_rlog_Log_Find l client req = some rr) (H : St I D w [OErlog_Log b_l l]) :
  Calls Try.prog 8 #[.pointer (some ⟨b_l, 0, none⟩), .int .i64 client, .int .i64 req] w (Ret fun vv w' => vv = .int .i64 rr.1 ∧ ∃ I', Hf I D w I' w' [OErlog_Log b_l rr.2]) := by
 replace H := H.hf
 unfold F_rlog_Log_Find at hF
 refine f_enter 24 Try.func8 rfl rfl (Nat.le_of_ble_eq_true rfl) fun a Z => ?_
 replace Z := Z.sub (ts := [0, 1, 2]) rfl
 refine wp_seq (f_region Z ?_); clear Z; intro Z
 refine s_runk tRl Z 1 rfl rfl ?_; clear Z a; intro a Z
 refine s_end Z [0, 1, 2, 6] rfl ?_; clear Z; intro Z
 refine p_then (wp_seq ?_)
 refine wp_seq ?_
 obtain ⟨n0, hx1, hF⟩ := bnd_in hF
 refine f_region Z ?_; clear Z; intro Z
 refine s_runk tRl Z 1 rfl rfl ?_; clear Z a; intro a Z
 refine h_call Z H (js := [(0, false)]) rfl (caps := #[]) fn_15_YRl rfl rfl rfl rfl rfl (by decide) rfl rfl (fun D1 hS => have hq := c_rlog_Log_none hx1 hS; hq) ?_; clear Z a; intro vv a w1 D2 hr hF2 Z
 obtain ⟨rfl, I1, K⟩ := hr
 have H : Hf I D w I1 w1 [OErlog_Log b_l l] := hF2 K
 clear hF2 K
 refine s_end Z [0, 1, 2, 6, 10] rfl ?_; clear Z; intro Z
 refine p_then ?_
 refine f_cond Z rfl (fun hc1 => ?_) (fun hc1 => ?_)
 ·replace hF := ite_t hc1 hF
  refine wp_seq (f_region Z ?_); clear Z; intro Z
  refine s_runk tRl Z 1 rfl rfl ?_; clear Z a; intro a Z
  refine s_end Z [0, 1, 2, 6] rfl ?_; clear Z; intro Z
  refine p_then (wp_ret ?_)
  refine p_then_r ?_
  obtain rfl := some_in hF
  exact f_ret Z (run_results1 rfl Z rfl) ⟨rfl, I1, (H.sub [(0, false)] rfl).eq rfl⟩
 ·replace hF := ite_f hc1 hF
  refine wp_skip ?_
  refine p_then (wp_seq ?_)
  refine wp_seq ?_
  obtain ⟨⟨v1, v2⟩, H⟩ := H.openX 0 rfl
  replace H : Hf I D w I1 w1 [BxC b_l 33 [v1, v2, .int .i64 l.stamped], OwC NEEntry 27 v1 l.l, PmC M_31 v2 l.at_] := H
  rcases optE_in hF with ⟨ho1, hF⟩ | ⟨m, ho1, hF⟩
  ·obtain ⟨hv, H⟩ := H.optMN 2 rfl ho1
   subst hv
   replace H : Hf I D w I1 w1 [BxC b_l 33 [v1, .map none, .int .i64 l.stamped], OwC NEEntry 27 v1 l.l] := H
   cases hF
  ·obtain ⟨b1, hv, H⟩ := H.optMS 2 rfl ho1
   subst hv
   replace H : Hf I D w I1 w1 [MpC M_31 b1 m, BxC b_l 33 [v1, .map (some b1), .int .i64 l.stamped], OwC NEEntry 27 v1 l.l] := H
   obtain ⟨hg1, hF⟩ := chk_in hF
   refine f_region Z ?_; clear Z; intro Z
   refine s_runk tRl Z 3 rfl rfl ?_; clear Z a; intro a Z
   refine s_ob Z (v := .map (some b1)) rfl rfl (by decide) rfl (Ob_load tRl rfl rfl rfl ((H.bx 1 rfl).cell 1 rfl)) ?_; clear Z a; intro a Z
   refine s_runk tRl Z 2 rfl rfl ?_; clear Z a; intro a Z
   refine s_ob Z (v := .agg #[.int .i64 client, .int .i64 req]) rfl rfl (by decide) rfl (Ob_build (vs := [(0, .int .i64 client), (1, .int .i64 req)]) rfl rfl (by go_simp <;> rfl)) ?_; clear Z a; intro a Z
   refine s_ob Z (v := .tuple #[.int .i64 ((mget m ({ client := client, req := req } : Erlog_who)).getD 0), .bool ((mget m ({ client := client, req := req } : Erlog_who)).isSome)]) rfl rfl (by decide) rfl (Ob_mlook2 ({ client := client, req := req } : Erlog_who) MF_31 H 0 rfl rfl rfl rfl hg1) ?_; clear Z a; intro a Z
   refine s_runk tRl Z 5 rfl rfl ?_; clear Z a; intro a Z
   refine s_end Z [6, 7, 8] rfl ?_; clear Z; intro Z
   refine p_then (wp_seq (f_region Z ?_)); clear Z; intro Z
   refine s_runk tRl Z 1 rfl rfl ?_; clear Z a; intro a Z
   refine s_end Z [6, 7, 22] rfl ?_; clear Z; intro Z
   refine p_then ?_
   refine f_cond Z rfl (fun hc2 => ?_) (fun hc2 => ?_)
   ·replace hF := ite_t hc2 hF
    refine wp_seq (f_region Z ?_); clear Z; intro Z
    refine s_runk tRl Z 2 rfl rfl ?_; clear Z a; intro a Z
    refine s_end Z [6] rfl ?_; clear Z; intro Z
    refine p_then (wp_ret ?_)
    refine p_then_r ?_
    replace H : Hf I D w I1 w1 [PmC M_31 (.map (some b1)) (some m), BxC b_l 33 [v1, .map (some b1), .int .i64 l.stamped], OwC NEEntry 27 v1 l.l] := H.mkMS 0 rfl
    replace H : Hf I D w I1 w1 [OErlog_Log b_l ({ l with at_ := some m } : Erlog_Log)] := H.shutX (v1, .map (some b1)) [(1, false), (1, false), (0, false)] rfl
    obtain rfl := some_in hF
    exact f_ret Z (run_results1 rfl Z rfl) ⟨rfl, I1, (H.sub [(0, false)] rfl).eq rfl⟩
   ·replace hF := ite_f hc2 hF
    refine wp_skip ?_
    refine p_then (wp_seq (f_region Z ?_)); clear Z; intro Z
    refine s_runk tRl Z 1 rfl rfl ?_; clear Z a; intro a Z
    refine s_end Z [6] rfl ?_; clear Z; intro Z
    refine p_then (wp_ret ?_)
    replace H : Hf I D w I1 w1 [PmC M_31 (.map (some b1)) (some m), BxC b_l 33 [v1, .map (some b1), .int .i64 l.stamped], OwC NEEntry 27 v1 l.l] := H.mkMS 0 rfl
    replace H : Hf I D w I1 w1 [OErlog_Log b_l ({ l with at_ := some m } : Erlog_Log)] := H.shutX (v1, .map (some b1)) [(1, false), (1, false), (0, false)] rfl
    obtain rfl := some_in hF
    exact f_ret Z (run_results1 rfl Z rfl) ⟨rfl, I1, (H.sub [(0, false)] rfl).eq rfl⟩

def F_rlog_Log_Len (l : Erlog_Log) : Option Int := (F_rlog_Log_none l).bind fun n0 => (if (n0) = true then (some 0) else (some (l.l.length : Int)))

set_option maxHeartbeats 1000000 in
theorem c_rlog_Log_Len {I D : Dm} {b_l : Nat} {l : Erlog_Log} {w : World} {rr : Int} (hF : F_rlog_Log_Len l = some rr) (H : St I D w [OErlog_Log b_l l]) :
  Calls Try.prog 11 #[.pointer (some ⟨b_l, 0, none⟩)] w (Ret fun vv w' => vv = .int .i64 rr ∧ ∃ I', Hf I D w I' w' [OErlog_Log b_l l]) := by
 replace H := H.hf
 unfold F_rlog_Log_Len at hF
 refine f_enter 10 Try.func11 rfl rfl (Nat.le_of_ble_eq_true rfl) fun a Z => ?_
 replace Z := Z.sub (ts := [0]) rfl
 refine wp_seq (f_region Z ?_); clear Z; intro Z
 refine s_runk tRl Z 1 rfl rfl ?_; clear Z a; intro a Z
 refine s_end Z [0, 2] rfl ?_; clear Z; intro Z
 refine p_then (wp_seq ?_)
 refine wp_seq ?_
 obtain ⟨n0, hx1, hF⟩ := bnd_in hF
 refine f_region Z ?_; clear Z; intro Z
 refine s_runk tRl Z 1 rfl rfl ?_; clear Z a; intro a Z
 refine h_call Z H (js := [(0, false)]) rfl (caps := #[]) fn_15_YRl rfl rfl rfl rfl rfl (by decide) rfl rfl (fun D1 hS => have hq := c_rlog_Log_none hx1 hS; hq) ?_; clear Z a; intro vv a w1 D2 hr hF2 Z
 obtain ⟨rfl, I1, K⟩ := hr
 have H : Hf I D w I1 w1 [OErlog_Log b_l l] := hF2 K
 clear hF2 K
 refine s_end Z [0, 2, 4] rfl ?_; clear Z; intro Z
 refine p_then ?_
 refine f_cond Z rfl (fun hc1 => ?_) (fun hc1 => ?_)
 ·replace hF := ite_t hc1 hF
  refine wp_seq (f_region Z ?_); clear Z; intro Z
  refine s_runk tRl Z 1 rfl rfl ?_; clear Z a; intro a Z
  refine s_end Z [0, 2] rfl ?_; clear Z; intro Z
  refine p_then (wp_ret ?_)
  refine p_then_r ?_
  obtain rfl := some_in hF
  exact f_ret Z (run_results1 rfl Z rfl) ⟨rfl, I1, (H.sub [(0, false)] rfl).eq rfl⟩
 ·replace hF := ite_f hc1 hF
  refine wp_skip ?_
  refine p_then (wp_seq (f_region Z ?_)); clear Z; intro Z
  refine s_runk tRl Z 3 rfl rfl ?_; clear Z a; intro a Z
  obtain ⟨⟨v1, v2⟩, H⟩ := H.openX 0 rfl
  replace H : Hf I D w I1 w1 [BxC b_l 33 [v1, v2, .int .i64 l.stamped], OwC NEEntry 27 v1 l.l, PmC M_31 v2 l.at_] := H
  refine s_ob Z (v := v1) rfl rfl (by decide) rfl (Ob_load tRl rfl rfl rfl ((H.bx 0 rfl).cell 0 rfl)) ?_; clear Z a; intro a Z
  refine s_ob Z (v := .int .i64 (l.l.length : Int)) rfl rfl (by decide) rfl (Ob_slen tRl rfl rfl rfl (H.owshape 1 rfl)) ?_; clear Z a; intro a Z
  refine s_runk tRl Z 1 rfl rfl ?_; clear Z a; intro a Z
  refine s_end Z [2] rfl ?_; clear Z; intro Z
  refine p_then (wp_ret ?_)
  replace H : Hf I D w I1 w1 [OErlog_Log b_l l] := H.shutX (v1, v2) [(0, false), (0, false), (0, false)] rfl
  obtain rfl := some_in hF
  exact f_ret Z (run_results1 rfl Z rfl) ⟨rfl, I1, (H.sub [(0, false)] rfl).eq rfl⟩

def F_rlog_Log_Stamped (l : Erlog_Log) : Option Int := (F_rlog_Log_none l).bind fun n0 => (if (n0) = true then (some 0) else (some l.stamped))

set_option maxHeartbeats 1000000 in
theorem c_rlog_Log_Stamped {I D : Dm} {b_l : Nat} {l : Erlog_Log} {w : World} {rr : Int} (hF : F_rlog_Log_Stamped l = some rr) (H : St I D w [OErlog_Log b_l l]) :
  Calls Try.prog 12 #[.pointer (some ⟨b_l, 0, none⟩)] w (Ret fun vv w' => vv = .int .i64 rr ∧ ∃ I', Hf I D w I' w' [OErlog_Log b_l l]) := by
 replace H := H.hf
 unfold F_rlog_Log_Stamped at hF
 refine f_enter 9 Try.func12 rfl rfl (Nat.le_of_ble_eq_true rfl) fun a Z => ?_
 replace Z := Z.sub (ts := [0]) rfl
 refine wp_seq (f_region Z ?_); clear Z; intro Z
 refine s_runk tRl Z 1 rfl rfl ?_; clear Z a; intro a Z
 refine s_end Z [0, 2] rfl ?_; clear Z; intro Z
 refine p_then (wp_seq ?_)
 refine wp_seq ?_
 obtain ⟨n0, hx1, hF⟩ := bnd_in hF
 refine f_region Z ?_; clear Z; intro Z
 refine s_runk tRl Z 1 rfl rfl ?_; clear Z a; intro a Z
 refine h_call Z H (js := [(0, false)]) rfl (caps := #[]) fn_15_YRl rfl rfl rfl rfl rfl (by decide) rfl rfl (fun D1 hS => have hq := c_rlog_Log_none hx1 hS; hq) ?_; clear Z a; intro vv a w1 D2 hr hF2 Z
 obtain ⟨rfl, I1, K⟩ := hr
 have H : Hf I D w I1 w1 [OErlog_Log b_l l] := hF2 K
 clear hF2 K
 refine s_end Z [0, 2, 4] rfl ?_; clear Z; intro Z
 refine p_then ?_
 refine f_cond Z rfl (fun hc1 => ?_) (fun hc1 => ?_)
 ·replace hF := ite_t hc1 hF
  refine wp_seq (f_region Z ?_); clear Z; intro Z
  refine s_runk tRl Z 1 rfl rfl ?_; clear Z a; intro a Z
  refine s_end Z [0, 2] rfl ?_; clear Z; intro Z
  refine p_then (wp_ret ?_)
  refine p_then_r ?_
  obtain rfl := some_in hF
  exact f_ret Z (run_results1 rfl Z rfl) ⟨rfl, I1, (H.sub [(0, false)] rfl).eq rfl⟩
 ·replace hF := ite_f hc1 hF
  refine wp_skip ?_
  refine p_then (wp_seq (f_region Z ?_)); clear Z; intro Z
  refine s_runk tRl Z 3 rfl rfl ?_; clear Z a; intro a Z
  obtain ⟨⟨v1, v2⟩, H⟩ := H.openX 0 rfl
  replace H : Hf I D w I1 w1 [BxC b_l 33 [v1, v2, .int .i64 l.stamped], OwC NEEntry 27 v1 l.l, PmC M_31 v2 l.at_] := H
  refine s_ob Z (v := .int .i64 l.stamped) rfl rfl (by decide) rfl (Ob_load tRl rfl rfl rfl ((H.bx 0 rfl).cell 2 rfl)) ?_; clear Z a; intro a Z
  refine s_runk tRl Z 1 rfl rfl ?_; clear Z a; intro a Z
  refine s_end Z [2] rfl ?_; clear Z; intro Z
  refine p_then (wp_ret ?_)
  replace H : Hf I D w I1 w1 [OErlog_Log b_l l] := H.shutX (v1, v2) [(0, false), (0, false), (0, false)] rfl
  obtain rfl := some_in hF
  exact f_ret Z (run_results1 rfl Z rfl) ⟨rfl, I1, (H.sub [(0, false)] rfl).eq rfl⟩

def F_rlog_Log_All_l1 (l : Erlog_Log) (rc : ((List EEntry) × Int) → Option (List EEntry)) (sg : (List EEntry) × Int) : Option (List EEntry) := match sg with | (out, x) => if (decide (x < (l.l.length : Int))) = true then (chk ((0 : Int) ≤ x ∧ x < (l.l.length : Int)) ((F_rlog_own ({ (l.l.getD (x).toNat default) with batch := ({ client := ((l.l.getD (x).toNat default).batch).client, req := ((l.l.getD (x).toNat default).batch).req, ops := ((l.l.getD (x).toNat default).batch).ops } : EBatch) } : EEntry)).bind fun o => (chk (((out.length + [o].length : Nat) : Int) * 48 ≤ 140737488355328) (chk (inI (x + 1)) (rc (out ++ [o], x + 1)))))) else (some out)

def F_rlog_Log_All (l : Erlog_Log) : Option (List EEntry) := (F_rlog_Log_none l).bind fun n0 => (if (n0) = true then (some ([] : List EEntry)) else (iter (F_rlog_Log_All_l1 l) FU (([] : List EEntry), 0)))

set_option maxHeartbeats 1000000 in
theorem c_rlog_Log_All {I D : Dm} {b_l : Nat} {l : Erlog_Log} {w : World} {rr : List EEntry} (hF : F_rlog_Log_All l = some rr) (H : St I D w [OErlog_Log b_l l]) :
  Calls Try.prog 13 #[.pointer (some ⟨b_l, 0, none⟩)] w (Ret fun vv w' => ∃ q1 : Value, vv = q1 ∧ ∃ I', Hf I D w I' w' [OErlog_Log b_l l, SlC NEEntry q1 rr]) := by
 replace H := H.hf
 unfold F_rlog_Log_All at hF
 refine f_enter 24 Try.func13 rfl rfl (Nat.le_of_ble_eq_true rfl) fun a Z => ?_
 replace Z := Z.sub (ts := [0]) rfl
 refine wp_seq (f_region Z ?_); clear Z; intro Z
 refine s_runk tRl Z 1 rfl rfl ?_; clear Z a; intro a Z
 refine s_end Z [0, 2] rfl ?_; clear Z; intro Z
 refine p_then (wp_seq ?_)
 refine wp_seq ?_
 obtain ⟨n0, hx1, hF⟩ := bnd_in hF
 refine f_region Z ?_; clear Z; intro Z
 refine s_runk tRl Z 1 rfl rfl ?_; clear Z a; intro a Z
 refine h_call Z H (js := [(0, false)]) rfl (caps := #[]) fn_15_YRl rfl rfl rfl rfl rfl (by decide) rfl rfl (fun D1 hS => have hq := c_rlog_Log_none hx1 hS; hq) ?_; clear Z a; intro vv a w1 D2 hr hF2 Z
 obtain ⟨rfl, I1, K⟩ := hr
 have H : Hf I D w I1 w1 [OErlog_Log b_l l] := hF2 K
 clear hF2 K
 refine s_end Z [0, 2, 7] rfl ?_; clear Z; intro Z
 refine p_then ?_
 refine f_cond Z rfl (fun hc1 => ?_) (fun hc1 => ?_)
 ·replace hF := ite_t hc1 hF
  refine wp_seq (f_region Z ?_); clear Z; intro Z
  refine s_runk tRl Z 1 rfl rfl ?_; clear Z a; intro a Z
  refine s_end Z [0, 2] rfl ?_; clear Z; intro Z
  refine p_then (wp_ret ?_)
  refine p_then_r ?_
  replace H : Hf I D w I1 w1 [SlC NEEntry (.slice none 0 0) ([] : List EEntry), OErlog_Log b_l l] := H.slNil NEEntry
  obtain rfl := some_in hF
  exact f_ret Z (run_results1 rfl Z rfl) ⟨.slice none 0 0, rfl, I1, (H.sub [(1, false), (0, true)] rfl).eq rfl⟩
 ·replace hF := ite_f hc1 hF
  refine wp_skip ?_
  refine p_then (wp_seq (f_region Z ?_)); clear Z; intro Z
  refine s_runk tRl Z 1 rfl rfl ?_; clear Z a; intro a Z
  refine s_end Z [0, 2, 3] rfl ?_; clear Z; intro Z
  refine p_then (wp_seq ?_)
  refine wp_seq (f_region Z ?_); clear Z; intro Z
  refine s_runk tRl Z 3 rfl rfl ?_; clear Z a; intro a Z
  obtain ⟨⟨v1, v2⟩, H⟩ := H.openX 0 rfl
  replace H : Hf I D w I1 w1 [BxC b_l 33 [v1, v2, .int .i64 l.stamped], OwC NEEntry 27 v1 l.l, PmC M_31 v2 l.at_] := H
  refine s_ob Z (v := v1) rfl rfl (by decide) rfl (Ob_load tRl rfl rfl rfl ((H.bx 0 rfl).cell 0 rfl)) ?_; clear Z a; intro a Z
  refine s_ob Z (v := .int .i64 (l.l.length : Int)) rfl rfl (by decide) rfl (Ob_slen tRl rfl rfl rfl (H.owshape 1 rfl)) ?_; clear Z a; intro a Z
  refine s_runk tRl Z 1 rfl rfl ?_; clear Z a; intro a Z
  refine s_end Z [2, 3, 11, 12, 13] rfl ?_; clear Z; intro Z
  refine p_then (wp_block ?_)
  replace H : Hf I D w I1 w1 [OwC NEEntry 27 (.slice none 0 0) ([] : List EEntry), BxC b_l 33 [v1, v2, .int .i64 l.stamped], OwC NEEntry 27 v1 l.l, PmC M_31 v2 l.at_] := H.nilow NEEntry 27
  refine f_iter hF (fun sg a' w' => match sg with | (out, x) => ∃ v3 : Value, Sl 24 [(2, .slice none 0 0), (3, v3), (11, v1), (12, .int .i64 (l.l.length : Int)), (13, .int .i64 x)] a' ∧ ∃ I2, Hf I D w I2 w' [BxC b_l 33 [v1, v2, .int .i64 l.stamped], OwC NEEntry 27 v1 l.l, PmC M_31 v2 l.at_, OwC NEEntry 27 v3 out]) ⟨.slice none 0 0, Z.sub (ts := [2, 3, 11, 12, 13]) rfl, ⟨I1, (H.sub [(1, false), (1, false), (1, false), (0, false)] rfl).eq rfl⟩⟩ ?_
  clear Z H hF a
  rintro rc ⟨out, x⟩ a w2 ⟨v3, Z, I2, H⟩ hF
  unfold F_rlog_Log_All_l1 at hF
  try dsimp only at hF
  refine wp_seq (f_region Z ?_); clear Z; intro Z
  refine s_runk tRl Z 1 rfl rfl ?_; clear Z a; intro a Z
  refine s_end Z [2, 3, 11, 12, 13, 14] rfl ?_; clear Z; intro Z
  refine p_then (wp_seq ?_)
  refine f_cond Z rfl (fun hc2 => ?_) (fun hc2 => ?_)
  ·replace hF := ite_t hc2 hF
   refine wp_skip ?_
   refine p_then (wp_seq ?_)
   refine wp_block ?_
   refine wp_seq ?_
   obtain ⟨hg1, hF⟩ := chk_in hF
   refine f_region Z ?_; clear Z; intro Z
   refine s_ob Z (v := .pointer (some ⟨blkOf v1, oofOf v1 + (x).toNat * 4, none⟩)) rfl rfl (by decide) rfl (Ob_sidx tRl rfl rfl rfl rfl (slPl (H.owA 1 rfl) hg1) hg1) ?_; clear Z a; intro a Z
   obtain ⟨_, ⟨u1, rfl, L1⟩, hat1⟩ := H.owEl 1 rfl hg1
   replace H : Hf I D w I2 w2 [SlC NEOp u1 (((l.l.getD (x).toNat default).batch).ops), BxC b_l 33 [v1, v2, .int .i64 l.stamped], OwC NEEntry 27 v1 l.l, PmC M_31 v2 l.at_, OwC NEEntry 27 v3 out] := H.addsl L1
   refine s_ob Z (v := .agg #[.int .i64 (((l.l.getD (x).toNat default).batch).client), .int .i64 (((l.l.getD (x).toNat default).batch).req), u1, .int .u64 ((l.l.getD (x).toNat default).ts)]) rfl rfl (by decide) rfl (Ob_loads tRl rfl rfl rfl (hat1.part 0 rfl)) ?_; clear Z a; intro a Z
   refine h_alloc Z H (cl := [.int .i64 0, .int .i64 0, .slice none 0 0, .int .u64 0]) (z := .agg #[.int .i64 0, .int .i64 0, .slice none 0 0, .int .u64 0]) rfl rfl rfl (by decide) rfl (by kernel_rfl) rfl ?_; clear Z a H; intro a w3 b1 H Z
   refine h_store tRl Z H 0 rfl rfl rfl rfl rfl rfl rfl rfl rfl (one_cons rfl (one_cons rfl (one_cons (slS.one (H.slshape 1 rfl)) (one_cons rfl one_nil)))) (Nat.le_of_ble_eq_true rfl) rfl ?_; clear H; intro w4 H
   dsimp only [List.eraseIdx] at H
   refine s_end Z [2, 3, 11, 12, 13, 14, 15, 16, 5] rfl ?_; clear Z; intro Z
   refine p_then ?_
   obtain ⟨o, hx2, hF⟩ := bnd_in hF
   obtain ⟨hg2, hF⟩ := chk_in hF
   refine f_region Z ?_; clear Z; intro Z
   refine s_runk tRl Z 1 rfl rfl ?_; clear Z a; intro a Z
   refine s_ob Z (v := .agg #[.int .i64 (((l.l.getD (x).toNat default).batch).client), .int .i64 (((l.l.getD (x).toNat default).batch).req), u1, .int .u64 ((l.l.getD (x).toNat default).ts)]) rfl rfl (by decide) rfl (Ob_loads tRl rfl rfl rfl ((H.bx 0 rfl).part 0 rfl)) ?_; clear Z a; intro a Z
   refine h_call Z H (js := [(1, true)]) rfl (caps := #[]) fn_16_YRl rfl rfl rfl rfl rfl (by decide) rfl rfl (fun D1 hS => have hq := c_rlog_own hx2 hS; hq) ?_; clear Z a; intro vv a w5 D2 hr hF2 Z
   obtain ⟨q1, rfl, I3, K⟩ := hr
   have H : Hf I D w I3 w5 [SlC NEOp q1 o.batch.ops, BxC b1 27 [.int .i64 (((l.l.getD (x).toNat default).batch).client), .int .i64 (((l.l.getD (x).toNat default).batch).req), u1, .int .u64 ((l.l.getD (x).toNat default).ts)], SlC NEOp u1 (((l.l.getD (x).toNat default).batch).ops), BxC b_l 33 [v1, v2, .int .i64 l.stamped], OwC NEEntry 27 v1 l.l, PmC M_31 v2 l.at_, OwC NEEntry 27 v3 out] := hF2 K
   clear hF2 K
   refine h_bslice Z H (vs := [(0, .agg #[.int .i64 o.batch.client, .int .i64 o.batch.req, q1, .int .u64 o.ts])]) (cl := [.int .i64 o.batch.client, .int .i64 o.batch.req, q1, .int .u64 o.ts]) (e := 27) rfl rfl rfl (by decide) rfl rfl (fun w => run_bslice (z := .agg #[.int .i64 0, .int .i64 0, .slice none 0 0, .int .u64 0]) (m := 4) Try.underlying30 (by kernel_rfl) rfl rfl (by decide) (by simp [Instr.fill, Value.cells]) w) ?_; clear Z a H; intro a w6 b2 H Z
   refine h_appO Z H 7 E_30_YRl [o] rfl rfl rfl rfl rfl (by decide) rfl rfl rfl (slRep2.box1 (H.bx 0 rfl) ⟨_, rfl, (H.sl 1 rfl)⟩) hg2 (by decide) ?_; clear Z a H; intro v4 a w7 H Z
   dsimp only [List.eraseIdx] at H
   replace H : Hf I D w I3 w7 [OwC NEEntry 27 v4 (out ++ [o]), SlC NEOp q1 o.batch.ops, BxC b1 27 [.int .i64 (((l.l.getD (x).toNat default).batch).client), .int .i64 (((l.l.getD (x).toNat default).batch).req), u1, .int .u64 ((l.l.getD (x).toNat default).ts)], SlC NEOp u1 (((l.l.getD (x).toNat default).batch).ops), BxC b_l 33 [v1, v2, .int .i64 l.stamped], OwC NEEntry 27 v1 l.l, PmC M_31 v2 l.at_] := H.sub [(0, false), (1, true), (2, false), (2, true), (3, false), (3, false), (3, false)] rfl
   refine s_runk tRl Z 1 rfl rfl ?_; clear Z a; intro a Z
   refine s_end Z [2, 3, 11, 12, 13, 14, 15, 16, 5, 17, 18, 19, 20, 21] rfl ?_; clear Z; intro Z
   refine p_blk ?_
   refine p_then ?_
   obtain ⟨hg3, hF⟩ := chk_in hF
   refine f_region Z ?_; clear Z; intro Z
   refine s_ob Z (v := .int .i64 (x + 1)) rfl rfl (by decide) rfl (Ob_add rfl rfl rfl (wrI hg3)) ?_; clear Z a; intro a Z
   refine s_runk tRl Z 1 rfl rfl ?_; clear Z a; intro a Z
   refine s_end Z [2, 3, 11, 12, 13, 14, 15, 16, 5, 17, 18, 19, 20, 21, 22] rfl ?_; clear Z; intro Z
   refine p_then ?_
   exact ⟨(out ++ [o], x + 1), ⟨v4, Z.sub (ts := [2, 3, 11, 12, 13]) rfl, ⟨I3, (H.sub [(4, false), (4, false), (4, false), (0, false)] rfl).eq rfl⟩⟩, hF⟩
  ·replace hF := ite_f hc2 hF
   refine wp_exit ?_
   refine p_then_x ?_
   refine p_then_x ?_
   refine f_exit_here ?_
   refine p_then (wp_seq (f_region Z ?_)); clear Z; intro Z
   refine s_runk tRl Z 2 rfl rfl ?_; clear Z a; intro a Z
   refine s_end Z [2] rfl ?_; clear Z; intro Z
   refine p_then (wp_ret ?_)
   obtain ⟨I4, _, H⟩ := H.frzow 3 rfl
   replace H : Hf I D w I4 w2 [SlC NEEntry v3 out, BxC b_l 33 [v1, v2, .int .i64 l.stamped], OwC NEEntry 27 v1 l.l, PmC M_31 v2 l.at_] := H
   replace H : Hf I D w I4 w2 [OErlog_Log b_l l, SlC NEEntry v3 out] := H.shutX (v1, v2) [(1, false), (1, false), (1, false)] rfl
   obtain rfl := some_in hF
   exact f_ret Z (run_results1 rfl Z rfl) ⟨v3, rfl, I4, (H.sub [(0, false), (0, true)] rfl).eq rfl⟩

end Go.Proofs.Ytmmdghdindoclaa
