/- Adopting: the law AdoptAll walked. -/
import Derived.Test.YtdofpehcojboeaaYAd6
namespace Go.Proofs.Ytdofpehcojboeaa
open Go.RowKit
def tAdWAllL : TabL := ⟨[(34817, 3)], [], [], [(22, (34, 4)), (39, (5, 1))], [(5, (1, false)), (32, (1, false)), (34, (4, true))]⟩

def tAdWAll : Tab Try.prog := ⟨tAdWAllL, by kernel_rfl⟩

theorem fn_7_YAdWAll : IsFn Try.prog 7 := ⟨_, Try.func7, by kernel_rfl, by kernel_rfl⟩

theorem fn_8_YAdWAll : IsFn Try.prog 8 := ⟨_, Try.func8, by kernel_rfl, by kernel_rfl⟩

theorem fn_9_YAdWAll : IsFn Try.prog 9 := ⟨_, Try.func9, by kernel_rfl, by kernel_rfl⟩

theorem fn_17_YAdWAll : IsFn Try.prog 17 := ⟨_, Try.func17, by kernel_rfl, by kernel_rfl⟩

theorem fn_18_YAdWAll : IsFn Try.prog 18 := ⟨_, Try.func18, by kernel_rfl, by kernel_rfl⟩

theorem fn_19_YAdWAll : IsFn Try.prog 19 := ⟨_, Try.func19, by kernel_rfl, by kernel_rfl⟩

def F_law18_AdoptAll_k2 (other : List EEntry) (l : List EEntry) (good : Int) (i : Int) (rc : ((List EEntry) × Int × Int) → Option Bool) (size : Int) : Option Bool := chk (inI (good + size)) (chk ((0 : Int) ≤ good ∧ good ≤ min (other.length : Int) (good + size) ∧ min (other.length : Int) (good + size) ≤ (other.length : Int)) ((F_adopt_Take l good good ((other.take ((min (other.length : Int) (good + size)).toNat)).drop ((good).toNat))).bind fun t => ((F_law18_laid l t.1).bind fun l_2 => ((gif (!((!l_2.2) || (decide (t.2 ≤ good)))) (F_ref08_Right l_2.1) default).bind fun r0_3 => (if (((!l_2.2) || (decide (t.2 ≤ good))) || (r0_3 != 0)) = true then (some false) else (chk (inI (i + 1)) (rc (l_2.1, t.2, i + 1))))))))

def F_law18_AdoptAll_l3 (other : List EEntry) (l : List EEntry) (rc_2 : Int → Option Bool) (sg : Int) : Option Bool := match sg with | i_2 => if (decide (i_2 < (other.length : Int))) = true then (chk ((0 : Int) ≤ i_2 ∧ i_2 < (l.length : Int)) (chk ((0 : Int) ≤ i_2 ∧ i_2 < (other.length : Int)) ((F_ref08_Twins ({ (l.getD (i_2).toNat default) with batch := ({ client := ((l.getD (i_2).toNat default).batch).client, req := ((l.getD (i_2).toNat default).batch).req, ops := ((l.getD (i_2).toNat default).batch).ops } : EBatch) } : EEntry) ({ (other.getD (i_2).toNat default) with batch := ({ client := ((other.getD (i_2).toNat default).batch).client, req := ((other.getD (i_2).toNat default).batch).req, ops := ((other.getD (i_2).toNat default).batch).ops } : EBatch) } : EEntry)).bind fun t_2 => (chk ((!(!t_2)) = true → (0 : Int) ≤ i_2 ∧ i_2 < (other.length : Int)) (chk (((!(!t_2)) && (((other.getD (i_2).toNat default).ts) != 0)) = true → (0 : Int) ≤ i_2 ∧ i_2 < (l.length : Int)) (chk (((!(!t_2)) && (((other.getD (i_2).toNat default).ts) != 0)) = true → (0 : Int) ≤ i_2 ∧ i_2 < (other.length : Int)) (if ((!t_2) || ((((other.getD (i_2).toNat default).ts) != 0) && (((l.getD (i_2).toNat default).ts) != ((other.getD (i_2).toNat default).ts)))) = true then (some false) else (chk (inI (i_2 + 1)) (rc_2 (i_2 + 1)))))))))) else ((F_law18_awake).bind fun a0_2 => (some a0_2))

def F_law18_AdoptAll_l1 (other : List EEntry) (pieces : List Int) (rc : ((List EEntry) × Int × Int) → Option Bool) (sg : (List EEntry) × Int × Int) : Option Bool := match sg with | (l, good, i) => if ((decide (i < 200)) && (decide (good < (other.length : Int)))) = true then (if (decide (i < (pieces.length : Int))) = true then (chk ((0 : Int) ≤ i ∧ i < (pieces.length : Int)) (chk (inI (pieces.getD (i).toNat default)) (chk (inI (1 + ((pieces.getD (i).toNat default).tmod 5))) (F_law18_AdoptAll_k2 other l good i rc (1 + ((pieces.getD (i).toNat default).tmod 5)))))) else (F_law18_AdoptAll_k2 other l good i rc 1)) else (if ((good != (other.length : Int)) || (decide ((l.length : Int) < (other.length : Int)))) = true then (some false) else (iter (F_law18_AdoptAll_l3 other l) FU 0))

def F_law18_AdoptAll (own : List EEntry) (other : List EEntry) (pieces : List Int) : Option Bool := (F_law08_Much own).bind fun m => ((gif (!(decide (m > 60))) (F_law08_Much other) default).bind fun m_2 => ((gif (!((decide (m > 60)) || (decide (m_2 > 60)))) (F_ref08_Right own) default).bind fun r0 => ((gif (!(((decide (m > 60)) || (decide (m_2 > 60))) || (r0 != 0))) (F_ref08_Right other) default).bind fun r0_2 => (if ((((decide (m > 60)) || (decide (m_2 > 60))) || (r0 != 0)) || (r0_2 != 0)) = true then ((F_law18_awake).bind fun a0 => (some a0)) else (iter (F_law18_AdoptAll_l1 other pieces) FU (own, 0, 0))))))

set_option maxHeartbeats 1000000 in
theorem c_law18_AdoptAll {I D : Dm} {own : List EEntry} {v1_own : Value} {other : List EEntry} {v2_other : Value} {pieces : List Int} {v3_pieces : Value} {w : World} {rr : Bool} (hF : F_law18_AdoptAll own other pieces = some rr) (H : St I D w [SlC NEEntry v1_own own, SlC NEEntry v2_other other, SlC Nu8 v3_pieces pieces]) :
  Calls Try.prog 4 #[v1_own, v2_other, v3_pieces] w (Ret fun vv w' => vv = .bool rr ∧ ∃ I', Hf I D w I' w' []) := by
 replace H := H.hf
 unfold F_law18_AdoptAll at hF
 refine f_enter 142 Try.func4 rfl rfl (Nat.le_of_ble_eq_true rfl) fun a Z => ?_
 replace Z := Z.sub (ts := [0, 1, 2]) rfl
 refine wp_seq (f_region Z ?_); clear Z; intro Z
 refine s_runk tAdWAll Z 1 rfl rfl ?_; clear Z a; intro a Z
 refine s_end Z [0, 1, 2, 6] rfl ?_; clear Z; intro Z
 refine p_then (wp_seq ?_)
 refine wp_seq ?_
 obtain ⟨m, hx1, hF⟩ := bnd_in hF
 obtain ⟨m_2, hx2, hF⟩ := bnd_in hF
 obtain ⟨r0, hx3, hF⟩ := bnd_in hF
 obtain ⟨r0_2, hx4, hF⟩ := bnd_in hF
 refine f_region Z ?_; clear Z; intro Z
 refine s_runk tAdWAll Z 1 rfl rfl ?_; clear Z a; intro a Z
 refine h_call Z H (js := [(0, true)]) rfl (caps := #[]) fn_7_YAdWAll rfl rfl rfl rfl rfl (by decide) rfl rfl (fun D1 hS => have hq := c_law08_Much hx1 hS; hq) ?_; clear Z a; intro vv a w1 D2 hr hF2 Z
 obtain ⟨rfl, I1, K⟩ := hr
 have H : Hf I D w I1 w1 [SlC NEEntry v1_own own, SlC NEEntry v2_other other, SlC Nu8 v3_pieces pieces] := hF2 K
 clear hF2 K
 refine s_runk tAdWAll Z 2 rfl rfl ?_; clear Z a; intro a Z
 refine g_ob Z (p := (!(decide (m > 60)))) (v := v2_other) (S' := [(1, v2_other)]) rfl rfl rfl (wantB_f _) rfl (by decide) (fun hp hS => hS.sub (ts := [1]) rfl) (fun hp => Ob_c tAdWAll rfl) ?_; clear Z a; intro a Z
 refine g_call Z (p := (!(decide (m > 60)))) (v := .int .i64 m_2) (S' := [(20, v2_other)]) (caps := #[]) fn_7_YAdWAll rfl rfl rfl (wantB_f _) rfl (by decide) (fun hp hS => (hS.conv (t := 20) rfl (cond_t hp)).sub (ts := [20]) rfl) rfl rfl rfl rfl (fun hp => (have hq := c_law08_Much (gif_in hx2 hp) ((H).pick0 (js := [(1, true)]) rfl rfl); plainC hq)) ?_; clear Z a; intro a w2 hb Z
 replace H : Hf I D w I1 w2 [SlC NEEntry v1_own own, SlC NEEntry v2_other other, SlC Nu8 v3_pieces pieces] := H.blw hb
 clear hb
 refine g_ob Z (p := (!(decide (m > 60)))) (v := .bool (decide (m_2 > 60))) (S' := [(21, .int .i64 m_2)]) rfl rfl rfl (wantB_f _) rfl (by decide) (fun hp hS => (hS.conv (t := 21) rfl (cond_t hp)).sub (ts := [21]) rfl) (fun hp => Ob_c tAdWAll rfl) ?_; clear Z a; intro a Z
 refine s_ob Z (v := .bool ((decide (m > 60)) || (decide (m_2 > 60)))) rfl rfl (by decide) rfl (Ob_pick rfl rfl rfl rfl (pick_or _ _)) ?_; clear Z a; intro a Z
 refine s_runk tAdWAll Z 1 rfl rfl ?_; clear Z a; intro a Z
 refine g_ob Z (p := (!((decide (m > 60)) || (decide (m_2 > 60))))) (v := v1_own) (S' := [(0, v1_own)]) rfl rfl rfl (wantB_f _) rfl (by decide) (fun hp hS => hS.sub (ts := [0]) rfl) (fun hp => Ob_c tAdWAll rfl) ?_; clear Z a; intro a Z
 refine g_call Z (p := (!((decide (m > 60)) || (decide (m_2 > 60))))) (v := .int .i64 r0) (S' := [(25, v1_own)]) (caps := #[]) fn_17_YAdWAll rfl rfl rfl (wantB_f _) rfl (by decide) (fun hp hS => (hS.conv (t := 25) rfl (cond_t hp)).sub (ts := [25]) rfl) rfl rfl rfl rfl (fun hp => (have hq := c_ref08_Right (gif_in hx3 hp) ((H).pick0 (js := [(0, true)]) rfl rfl); plainC hq)) ?_; clear Z a; intro a w3 hb Z
 replace H : Hf I D w I1 w3 [SlC NEEntry v1_own own, SlC NEEntry v2_other other, SlC Nu8 v3_pieces pieces] := H.blw hb
 clear hb
 refine g_ob Z (p := (!((decide (m > 60)) || (decide (m_2 > 60))))) (v := .bool (r0 != 0)) (S' := [(26, .int .i64 r0)]) rfl rfl rfl (wantB_f _) rfl (by decide) (fun hp hS => (hS.conv (t := 26) rfl (cond_t hp)).sub (ts := [26]) rfl) (fun hp => Ob_c tAdWAll rfl) ?_; clear Z a; intro a Z
 refine s_ob Z (v := .bool (((decide (m > 60)) || (decide (m_2 > 60))) || (r0 != 0))) rfl rfl (by decide) rfl (Ob_pick rfl rfl rfl rfl (pick_or _ _)) ?_; clear Z a; intro a Z
 refine s_runk tAdWAll Z 1 rfl rfl ?_; clear Z a; intro a Z
 refine g_ob Z (p := (!(((decide (m > 60)) || (decide (m_2 > 60))) || (r0 != 0)))) (v := v2_other) (S' := [(1, v2_other)]) rfl rfl rfl (wantB_f _) rfl (by decide) (fun hp hS => hS.sub (ts := [1]) rfl) (fun hp => Ob_c tAdWAll rfl) ?_; clear Z a; intro a Z
 refine g_call Z (p := (!(((decide (m > 60)) || (decide (m_2 > 60))) || (r0 != 0)))) (v := .int .i64 r0_2) (S' := [(30, v2_other)]) (caps := #[]) fn_17_YAdWAll rfl rfl rfl (wantB_f _) rfl (by decide) (fun hp hS => (hS.conv (t := 30) rfl (cond_t hp)).sub (ts := [30]) rfl) rfl rfl rfl rfl (fun hp => (have hq := c_ref08_Right (gif_in hx4 hp) ((H).pick0 (js := [(1, true)]) rfl rfl); plainC hq)) ?_; clear Z a; intro a w4 hb Z
 replace H : Hf I D w I1 w4 [SlC NEEntry v1_own own, SlC NEEntry v2_other other, SlC Nu8 v3_pieces pieces] := H.blw hb
 clear hb
 refine g_ob Z (p := (!(((decide (m > 60)) || (decide (m_2 > 60))) || (r0 != 0)))) (v := .bool (r0_2 != 0)) (S' := [(31, .int .i64 r0_2)]) rfl rfl rfl (wantB_f _) rfl (by decide) (fun hp hS => (hS.conv (t := 31) rfl (cond_t hp)).sub (ts := [31]) rfl) (fun hp => Ob_c tAdWAll rfl) ?_; clear Z a; intro a Z
 refine s_ob Z (v := .bool ((((decide (m > 60)) || (decide (m_2 > 60))) || (r0 != 0)) || (r0_2 != 0))) rfl rfl (by decide) rfl (Ob_pick rfl rfl rfl rfl (pick_or _ _)) ?_; clear Z a; intro a Z
 refine s_end Z [0, 1, 2, 6, 33] rfl ?_; clear Z; intro Z
 refine p_then ?_
 refine f_cond Z rfl (fun hc1 => ?_) (fun hc1 => ?_)
 ·replace hF := ite_t hc1 hF
  refine wp_seq ?_
  obtain ⟨a0, hx5, hF⟩ := bnd_in hF
  refine f_region Z ?_; clear Z; intro Z
  refine h_call Z H (js := []) rfl (caps := #[]) fn_8_YAdWAll rfl rfl rfl rfl rfl (by decide) rfl rfl (fun D1 hS => have hq := c_law18_awake hx5 hS; hq) ?_; clear Z a; intro vv a w5 D2 hr hF2 Z
  obtain ⟨rfl, I2, K⟩ := hr
  have H : Hf I D w I2 w5 [SlC NEEntry v1_own own, SlC NEEntry v2_other other, SlC Nu8 v3_pieces pieces] := hF2 K
  clear hF2 K
  refine s_runk tAdWAll Z 1 rfl rfl ?_; clear Z a; intro a Z
  refine s_end Z [0, 1, 2, 6] rfl ?_; clear Z; intro Z
  refine p_then (wp_ret ?_)
  refine p_then_r ?_
  obtain rfl := some_in hF
  exact f_ret Z (run_results1 rfl Z rfl) ⟨rfl, I2, (H.sub [] rfl).eq rfl⟩
 ·replace hF := ite_f hc1 hF
  refine wp_skip ?_
  refine p_then (wp_seq (f_region Z ?_)); clear Z; intro Z
  refine s_runk tAdWAll Z 2 rfl rfl ?_; clear Z a; intro a Z
  refine s_end Z [1, 2, 6, 7] rfl ?_; clear Z; intro Z
  refine p_then (wp_seq (f_region Z ?_)); clear Z; intro Z
  refine s_runk tAdWAll Z 1 rfl rfl ?_; clear Z a; intro a Z
  refine s_end Z [1, 2, 6, 7, 8] rfl ?_; clear Z; intro Z
  refine p_then (wp_seq ?_)
  refine wp_seq (f_region Z ?_); clear Z; intro Z
  refine s_runk tAdWAll Z 1 rfl rfl ?_; clear Z a; intro a Z
  refine s_end Z [1, 2, 6, 7, 8, 9] rfl ?_; clear Z; intro Z
  refine p_then (wp_block ?_)
  refine f_iter hF (fun sg a' w' => match sg with | (l, good, i) => ∃ v4 : Value, Sl 142 [(1, v2_other), (2, v3_pieces), (6, .bool false), (7, v4), (8, .int .i64 good), (9, .int .i64 i)] a' ∧ ∃ I2, Hf I D w I2 w' [SlC NEEntry v2_other other, SlC Nu8 v3_pieces pieces, SlC NEEntry v4 l]) ⟨v1_own, Z.sub (ts := [1, 2, 6, 7, 8, 9]) rfl, ⟨I1, (H.sub [(1, true), (2, true), (0, true)] rfl).eq rfl⟩⟩ ?_
  clear Z H hF a
  rintro rc ⟨l, good, i⟩ a w6 ⟨v4, Z, I3, H⟩ hF
  unfold F_law18_AdoptAll_l1 at hF
  try dsimp only at hF
  refine wp_seq ?_
  refine wp_seq (f_region Z ?_); clear Z; intro Z
  refine s_runk tAdWAll Z 3 rfl rfl ?_; clear Z a; intro a Z
  refine g_ob Z (p := (decide (i < 200))) (v := .int .i64 good) (S' := [(8, .int .i64 good)]) rfl rfl rfl (wantB_t _) rfl (by decide) (fun hp hS => hS.sub (ts := [8]) rfl) (fun hp => Ob_c tAdWAll rfl) ?_; clear Z a; intro a Z
  refine g_ob Z (p := (decide (i < 200))) (v := v2_other) (S' := [(1, v2_other)]) rfl rfl rfl (wantB_t _) rfl (by decide) (fun hp hS => hS.sub (ts := [1]) rfl) (fun hp => Ob_c tAdWAll rfl) ?_; clear Z a; intro a Z
  refine g_ob Z (p := (decide (i < 200))) (v := .int .i64 (other.length : Int)) (S' := [(40, v2_other)]) rfl rfl rfl (wantB_t _) rfl (by decide) (fun hp hS => (hS.conv (t := 40) rfl (cond_t hp)).sub (ts := [40]) rfl) (fun hp => Ob_slen tAdWAll rfl rfl rfl (H.slshape 0 rfl)) ?_; clear Z a; intro a Z
  refine g_ob Z (p := (decide (i < 200))) (v := .bool (decide (good < (other.length : Int)))) (S' := [(39, .int .i64 good), (41, .int .i64 (other.length : Int))]) rfl rfl rfl (wantB_t _) rfl (by decide) (fun hp hS => ((hS.conv (t := 39) rfl (cond_t hp)).conv (t := 41) rfl (cond_t hp)).sub (ts := [39, 41]) rfl) (fun hp => Ob_c tAdWAll rfl) ?_; clear Z a; intro a Z
  refine s_ob Z (v := .bool ((decide (i < 200)) && (decide (good < (other.length : Int))))) rfl rfl (by decide) rfl (Ob_pick rfl rfl rfl rfl (pick_and _ _)) ?_; clear Z a; intro a Z
  refine s_end Z [1, 2, 6, 7, 8, 9, 36, 37, 38, 43] rfl ?_; clear Z; intro Z
  refine p_then ?_
  refine f_cond Z rfl (fun hc2 => ?_) (fun hc2 => ?_)
  ·replace hF := ite_t hc2 hF
   refine wp_skip ?_
   refine p_then (wp_seq ?_)
   refine wp_block ?_
   refine wp_seq (f_region Z ?_); clear Z; intro Z
   refine s_runk tAdWAll Z 1 rfl rfl ?_; clear Z a; intro a Z
   refine s_end Z [1, 2, 6, 7, 8, 9, 36, 37, 38, 43, 10] rfl ?_; clear Z; intro Z
   refine p_then ?_
   refine f_cut (fun a' w' => ∃ (size : Int), Sl 142 [(1, v2_other), (2, v3_pieces), (6, .bool false), (7, v4), (8, .int .i64 good), (9, .int .i64 i), (10, .int .i64 size), (36, .int .i64 i), (37, .bool (decide (i < 200))), (38, .bool (decide (i < 200))), (43, .bool ((decide (i < 200)) && (decide (good < (other.length : Int))))), (46, .int .i64 i), (47, v3_pieces), (48, .int .i64 (pieces.length : Int)), (49, .bool (decide (i < (pieces.length : Int))))] a' ∧ (∃ I2, Hf I D w I2 w' [SlC NEEntry v2_other other, SlC Nu8 v3_pieces pieces, SlC NEEntry v4 l]) ∧ F_law18_AdoptAll_k2 other l good i rc size = some rr) ?_ ?_
   ·rintro a w7 ⟨size, Z, ⟨I4, H⟩, hF⟩
    unfold F_law18_AdoptAll_k2 at hF
    try dsimp only at hF
    refine wp_seq ?_
    obtain ⟨hg1, hF⟩ := chk_in hF
    obtain ⟨hg2, hF⟩ := chk_in hF
    obtain ⟨t, hx6, hF⟩ := bnd_in hF
    refine f_region Z ?_; clear Z; intro Z
    refine s_runk tAdWAll Z 6 rfl rfl ?_; clear Z a; intro a Z
    refine s_ob Z (v := .int .i64 (other.length : Int)) rfl rfl (by decide) rfl (Ob_slen tAdWAll rfl rfl rfl (H.slshape 0 rfl)) ?_; clear Z a; intro a Z
    refine s_runk tAdWAll Z 2 rfl rfl ?_; clear Z a; intro a Z
    refine s_ob Z (v := .int .i64 (good + size)) rfl rfl (by decide) rfl (Ob_add rfl rfl rfl (wrI hg1)) ?_; clear Z a; intro a Z
    refine s_runk tAdWAll Z 1 rfl rfl ?_; clear Z a; intro a Z
    replace H : Hf I D w I4 w7 [SlC NEEntry (subV v2_other ((good).toNat) ((min (other.length : Int) (good + size)).toNat) 4) ((other.take ((min (other.length : Int) (good + size)).toNat)).drop ((good).toNat)), SlC NEEntry v2_other other, SlC Nu8 v3_pieces pieces, SlC NEEntry v4 l] := H.slPart_of 0 rfl hg2 4 rfl
    refine s_ob Z (v := subV v2_other ((good).toNat) ((min (other.length : Int) (good + size)).toNat) 4) rfl rfl (by decide) rfl (Ob_sub_of tAdWAll rfl rfl rfl rfl rfl (H.slshape 1 rfl) hg2) ?_; clear Z a; intro a Z
    refine h_call Z H (js := [(3, true), (0, true)]) rfl (caps := #[]) fn_9_YAdWAll rfl rfl rfl rfl rfl (by decide) rfl rfl (fun D1 hS => have hq := c_adopt_Take hx6 hS; hq) ?_; clear Z a; intro vv a w8 D2 hr hF2 Z
    obtain ⟨q1, rfl, I5, K⟩ := hr
    have H : Hf I D w I5 w8 [SlC NENote q1 t.1, SlC NEEntry (subV v2_other ((good).toNat) ((min (other.length : Int) (good + size)).toNat) 4) ((other.take ((min (other.length : Int) (good + size)).toNat)).drop ((good).toNat)), SlC NEEntry v2_other other, SlC Nu8 v3_pieces pieces, SlC NEEntry v4 l] := hF2 K
    clear hF2 K
    refine s_runk tAdWAll Z 5 rfl rfl ?_; clear Z a; intro a Z
    refine s_end Z [1, 2, 6, 7, 8, 9, 10, 36, 37, 38, 43, 46, 47, 48, 49, 58, 59, 60, 61, 62, 63, 64, 65, 66, 67, 68, 69, 70, 57, 71, 72, 11, 12] rfl ?_; clear Z; intro Z
    refine p_then (wp_seq ?_)
    obtain ⟨l_2, hx7, hF⟩ := bnd_in hF
    refine f_region Z ?_; clear Z; intro Z
    refine s_runk tAdWAll Z 2 rfl rfl ?_; clear Z a; intro a Z
    refine h_call Z H (js := [(4, true), (0, true)]) rfl (caps := #[]) fn_18_YAdWAll rfl rfl rfl rfl rfl (by decide) rfl rfl (fun D1 hS => have hq := c_law18_laid hx7 hS; hq) ?_; clear Z a; intro vv a w9 D2 hr hF2 Z
    obtain ⟨q2, rfl, I6, K⟩ := hr
    have H : Hf I D w I6 w9 [SlC NEEntry q2 l_2.1, SlC NENote q1 t.1, SlC NEEntry (subV v2_other ((good).toNat) ((min (other.length : Int) (good + size)).toNat) 4) ((other.take ((min (other.length : Int) (good + size)).toNat)).drop ((good).toNat)), SlC NEEntry v2_other other, SlC Nu8 v3_pieces pieces, SlC NEEntry v4 l] := hF2 K
    clear hF2 K
    refine s_runk tAdWAll Z 5 rfl rfl ?_; clear Z a; intro a Z
    refine s_end Z [1, 2, 6, 7, 8, 9, 10, 36, 37, 38, 43, 46, 47, 48, 49, 58, 59, 60, 61, 62, 63, 64, 65, 66, 67, 68, 69, 70, 57, 71, 72, 11, 12, 74, 75, 76, 73, 77, 78, 13, 14] rfl ?_; clear Z; intro Z
    refine p_then (wp_seq ?_)
    refine wp_seq ?_
    obtain ⟨r0_3, hx8, hF⟩ := bnd_in hF
    refine f_region Z ?_; clear Z; intro Z
    refine s_runk tAdWAll Z 3 rfl rfl ?_; clear Z a; intro a Z
    refine g_ob Z (p := (!(!l_2.2))) (v := .int .i64 t.2) (S' := [(12, .int .i64 t.2)]) rfl rfl rfl (wantB_f _) rfl (by decide) (fun hp hS => hS.sub (ts := [12]) rfl) (fun hp => Ob_c tAdWAll rfl) ?_; clear Z a; intro a Z
    refine g_ob Z (p := (!(!l_2.2))) (v := .int .i64 good) (S' := [(8, .int .i64 good)]) rfl rfl rfl (wantB_f _) rfl (by decide) (fun hp hS => hS.sub (ts := [8]) rfl) (fun hp => Ob_c tAdWAll rfl) ?_; clear Z a; intro a Z
    refine g_ob Z (p := (!(!l_2.2))) (v := .bool (decide (t.2 ≤ good))) (S' := [(82, .int .i64 t.2), (83, .int .i64 good)]) rfl rfl rfl (wantB_f _) rfl (by decide) (fun hp hS => ((hS.conv (t := 82) rfl (cond_t hp)).conv (t := 83) rfl (cond_t hp)).sub (ts := [82, 83]) rfl) (fun hp => Ob_c tAdWAll rfl) ?_; clear Z a; intro a Z
    refine s_ob Z (v := .bool ((!l_2.2) || (decide (t.2 ≤ good)))) rfl rfl (by decide) rfl (Ob_pick rfl rfl rfl rfl (pick_or _ _)) ?_; clear Z a; intro a Z
    refine s_runk tAdWAll Z 1 rfl rfl ?_; clear Z a; intro a Z
    refine g_ob Z (p := (!((!l_2.2) || (decide (t.2 ≤ good))))) (v := q2) (S' := [(13, q2)]) rfl rfl rfl (wantB_f _) rfl (by decide) (fun hp hS => hS.sub (ts := [13]) rfl) (fun hp => Ob_c tAdWAll rfl) ?_; clear Z a; intro a Z
    refine g_call Z (p := (!((!l_2.2) || (decide (t.2 ≤ good))))) (v := .int .i64 r0_3) (S' := [(87, q2)]) (caps := #[]) fn_17_YAdWAll rfl rfl rfl (wantB_f _) rfl (by decide) (fun hp hS => (hS.conv (t := 87) rfl (cond_t hp)).sub (ts := [87]) rfl) rfl rfl rfl rfl (fun hp => (have hq := c_ref08_Right (gif_in hx8 hp) ((H).pick0 (js := [(0, true)]) rfl rfl); plainC hq)) ?_; clear Z a; intro a w10 hb Z
    replace H : Hf I D w I6 w10 [SlC NEEntry q2 l_2.1, SlC NENote q1 t.1, SlC NEEntry (subV v2_other ((good).toNat) ((min (other.length : Int) (good + size)).toNat) 4) ((other.take ((min (other.length : Int) (good + size)).toNat)).drop ((good).toNat)), SlC NEEntry v2_other other, SlC Nu8 v3_pieces pieces, SlC NEEntry v4 l] := H.blw hb
    clear hb
    refine g_ob Z (p := (!((!l_2.2) || (decide (t.2 ≤ good))))) (v := .bool (r0_3 != 0)) (S' := [(88, .int .i64 r0_3)]) rfl rfl rfl (wantB_f _) rfl (by decide) (fun hp hS => (hS.conv (t := 88) rfl (cond_t hp)).sub (ts := [88]) rfl) (fun hp => Ob_c tAdWAll rfl) ?_; clear Z a; intro a Z
    refine s_ob Z (v := .bool (((!l_2.2) || (decide (t.2 ≤ good))) || (r0_3 != 0))) rfl rfl (by decide) rfl (Ob_pick rfl rfl rfl rfl (pick_or _ _)) ?_; clear Z a; intro a Z
    refine s_end Z [1, 2, 6, 7, 8, 9, 10, 36, 37, 38, 43, 46, 47, 48, 49, 58, 59, 60, 61, 62, 63, 64, 65, 66, 67, 68, 69, 70, 57, 71, 72, 11, 12, 74, 75, 76, 73, 77, 78, 13, 14, 79, 80, 81, 85, 86, 90] rfl ?_; clear Z; intro Z
    refine p_then ?_
    refine f_cond Z rfl (fun hc3 => ?_) (fun hc3 => ?_)
    ·replace hF := ite_t hc3 hF
     refine wp_seq (f_region Z ?_); clear Z; intro Z
     refine s_runk tAdWAll Z 1 rfl rfl ?_; clear Z a; intro a Z
     refine s_end Z [1, 2, 6, 7, 8, 9, 10, 36, 37, 38, 43, 46, 47, 48, 49, 58, 59, 60, 61, 62, 63, 64, 65, 66, 67, 68, 69, 70, 57, 71, 72, 11, 12, 74, 75, 76, 73, 77, 78, 13, 14, 79, 80, 81, 85, 86, 90] rfl ?_; clear Z; intro Z
     refine p_then (wp_ret ?_)
     refine p_then_r ?_
     refine p_blk_r ?_
     refine p_then_r ?_
     refine p_then_r ?_
     refine p_blk_r ?_
     refine p_then_r ?_
     obtain rfl := some_in hF
     exact f_ret Z (run_results1 rfl Z rfl) ⟨rfl, I6, (H.sub [] rfl).eq rfl⟩
    ·replace hF := ite_f hc3 hF
     refine wp_skip ?_
     refine p_then (wp_seq (f_region Z ?_)); clear Z; intro Z
     refine s_runk tAdWAll Z 2 rfl rfl ?_; clear Z a; intro a Z
     refine s_end Z [1, 2, 6, 7, 8, 9, 10, 36, 37, 38, 43, 46, 47, 48, 49, 58, 59, 60, 61, 62, 63, 64, 65, 66, 67, 68, 69, 70, 57, 71, 72, 11, 12, 74, 75, 76, 73, 77, 78, 13, 14, 79, 80, 81, 85, 86, 90, 91] rfl ?_; clear Z; intro Z
     refine p_then ?_
     refine f_region Z ?_; clear Z; intro Z
     refine s_runk tAdWAll Z 2 rfl rfl ?_; clear Z a; intro a Z
     refine s_end Z [1, 2, 6, 7, 8, 9, 10, 36, 37, 38, 43, 46, 47, 48, 49, 58, 59, 60, 61, 62, 63, 64, 65, 66, 67, 68, 69, 70, 57, 71, 72, 11, 12, 74, 75, 76, 73, 77, 78, 13, 14, 79, 80, 81, 85, 86, 90, 91, 92] rfl ?_; clear Z; intro Z
     refine p_blk ?_
     refine p_then ?_
     obtain ⟨hg3, hF⟩ := chk_in hF
     refine f_region Z ?_; clear Z; intro Z
     refine s_runk tAdWAll Z 1 rfl rfl ?_; clear Z a; intro a Z
     refine s_ob Z (v := .int .i64 (i + 1)) rfl rfl (by decide) rfl (Ob_add rfl rfl rfl (wrI hg3)) ?_; clear Z a; intro a Z
     refine s_runk tAdWAll Z 1 rfl rfl ?_; clear Z a; intro a Z
     refine s_end Z [1, 2, 6, 7, 8, 9, 10, 36, 37, 38, 43, 46, 47, 48, 49, 58, 59, 60, 61, 62, 63, 64, 65, 66, 67, 68, 69, 70, 57, 71, 72, 11, 12, 74, 75, 76, 73, 77, 78, 13, 14, 79, 80, 81, 85, 86, 90, 91, 92, 44, 45] rfl ?_; clear Z; intro Z
     refine p_then ?_
     exact ⟨(l_2.1, t.2, i + 1), ⟨q2, Z.sub (ts := [1, 2, 6, 7, 8, 9]) rfl, ⟨I6, (H.sub [(3, true), (4, true), (0, true)] rfl).eq rfl⟩⟩, hF⟩
   ·skip
    refine wp_seq (f_region Z ?_); clear Z; intro Z
    refine s_runk tAdWAll Z 2 rfl rfl ?_; clear Z a; intro a Z
    refine s_ob Z (v := .int .i64 (pieces.length : Int)) rfl rfl (by decide) rfl (Ob_slen tAdWAll rfl rfl rfl (H.slshape 1 rfl)) ?_; clear Z a; intro a Z
    refine s_runk tAdWAll Z 1 rfl rfl ?_; clear Z a; intro a Z
    refine s_end Z [1, 2, 6, 7, 8, 9, 36, 37, 38, 43, 10, 46, 47, 48, 49] rfl ?_; clear Z; intro Z
    refine p_then ?_
    refine f_cond Z rfl (fun hc4 => ?_) (fun hc4 => ?_)
    ·replace hF := ite_t hc4 hF
     obtain ⟨hg4, hF⟩ := chk_in hF
     obtain ⟨hg5, hF⟩ := chk_in hF
     obtain ⟨hg6, hF⟩ := chk_in hF
     refine f_region Z ?_; clear Z; intro Z
     refine s_runk tAdWAll Z 2 rfl rfl ?_; clear Z a; intro a Z
     refine s_ob Z (v := .pointer (some ⟨blkOf v3_pieces, oofOf v3_pieces + (i).toNat * 1, none⟩)) rfl rfl (by decide) rfl (Ob_sidx tAdWAll rfl rfl rfl rfl (slPl (H.sl 1 rfl) hg4) hg4) ?_; clear Z a; intro a Z
     refine s_ob Z (v := .int .u8 (pieces.getD (i).toNat default)) rfl rfl (by decide) rfl (Ob_load tAdWAll rfl rfl rfl ((slFl (H.sl 1 rfl) hg4) 0 _ rfl)) ?_; clear Z a; intro a Z
     refine s_ob Z (v := .int .i64 (pieces.getD (i).toNat default)) rfl rfl (by decide) rfl (Ob_conv rfl rfl (run_convi Try.underlying5 Try.underlying3 _ _ (wrI hg5) _)) ?_; clear Z a; intro a Z
     refine s_ob Z (v := .int .i64 ((pieces.getD (i).toNat default).tmod 5)) rfl rfl (by decide) rfl (Ob_rem rfl rfl rfl (by decide) rfl) ?_; clear Z a; intro a Z
     refine s_ob Z (v := .int .i64 (1 + ((pieces.getD (i).toNat default).tmod 5))) rfl rfl (by decide) rfl (Ob_add rfl rfl rfl (wrI hg6)) ?_; clear Z a; intro a Z
     refine s_runk tAdWAll Z 1 rfl rfl ?_; clear Z a; intro a Z
     refine s_end Z [1, 2, 6, 7, 8, 9, 36, 37, 38, 43, 10, 46, 47, 48, 49, 50, 51, 52, 53, 54, 55, 56] rfl ?_; clear Z; intro Z
     refine p_then ?_
     exact ⟨1 + ((pieces.getD (i).toNat default).tmod 5), Z.sub (ts := [1, 2, 6, 7, 8, 9, 10, 36, 37, 38, 43, 46, 47, 48, 49]) rfl, ⟨I3, (H.sub [(0, true), (1, true), (2, true)] rfl).eq rfl⟩, hF⟩
    ·replace hF := ite_f hc4 hF
     refine wp_skip ?_
     refine p_then ?_
     exact ⟨1, Z.sub (ts := [1, 2, 6, 7, 8, 9, 10, 36, 37, 38, 43, 46, 47, 48, 49]) rfl, ⟨I3, (H.sub [(0, true), (1, true), (2, true)] rfl).eq rfl⟩, hF⟩
  ·replace hF := ite_f hc2 hF
   refine wp_exit ?_
   refine p_then_x ?_
   refine p_then_x ?_
   refine f_exit_here ?_
   refine p_then (wp_seq ?_)
   refine wp_seq (f_region Z ?_); clear Z; intro Z
   refine s_runk tAdWAll Z 2 rfl rfl ?_; clear Z a; intro a Z
   refine s_ob Z (v := .int .i64 (other.length : Int)) rfl rfl (by decide) rfl (Ob_slen tAdWAll rfl rfl rfl (H.slshape 0 rfl)) ?_; clear Z a; intro a Z
   refine s_runk tAdWAll Z 2 rfl rfl ?_; clear Z a; intro a Z
   refine g_ob Z (p := (!(good != (other.length : Int)))) (v := v4) (S' := [(7, v4)]) rfl rfl rfl (wantB_f _) rfl (by decide) (fun hp hS => hS.sub (ts := [7]) rfl) (fun hp => Ob_c tAdWAll rfl) ?_; clear Z a; intro a Z
   refine g_ob Z (p := (!(good != (other.length : Int)))) (v := .int .i64 (l.length : Int)) (S' := [(98, v4)]) rfl rfl rfl (wantB_f _) rfl (by decide) (fun hp hS => (hS.conv (t := 98) rfl (cond_t hp)).sub (ts := [98]) rfl) (fun hp => Ob_slen tAdWAll rfl rfl rfl (H.slshape 2 rfl)) ?_; clear Z a; intro a Z
   refine g_ob Z (p := (!(good != (other.length : Int)))) (v := v2_other) (S' := [(1, v2_other)]) rfl rfl rfl (wantB_f _) rfl (by decide) (fun hp hS => hS.sub (ts := [1]) rfl) (fun hp => Ob_c tAdWAll rfl) ?_; clear Z a; intro a Z
   refine g_ob Z (p := (!(good != (other.length : Int)))) (v := .int .i64 (other.length : Int)) (S' := [(100, v2_other)]) rfl rfl rfl (wantB_f _) rfl (by decide) (fun hp hS => (hS.conv (t := 100) rfl (cond_t hp)).sub (ts := [100]) rfl) (fun hp => Ob_slen tAdWAll rfl rfl rfl (H.slshape 0 rfl)) ?_; clear Z a; intro a Z
   refine g_ob Z (p := (!(good != (other.length : Int)))) (v := .bool (decide ((l.length : Int) < (other.length : Int)))) (S' := [(99, .int .i64 (l.length : Int)), (101, .int .i64 (other.length : Int))]) rfl rfl rfl (wantB_f _) rfl (by decide) (fun hp hS => ((hS.conv (t := 99) rfl (cond_t hp)).conv (t := 101) rfl (cond_t hp)).sub (ts := [99, 101]) rfl) (fun hp => Ob_c tAdWAll rfl) ?_; clear Z a; intro a Z
   refine s_ob Z (v := .bool ((good != (other.length : Int)) || (decide ((l.length : Int) < (other.length : Int))))) rfl rfl (by decide) rfl (Ob_pick rfl rfl rfl rfl (pick_or _ _)) ?_; clear Z a; intro a Z
   refine s_end Z [1, 6, 7, 103] rfl ?_; clear Z; intro Z
   refine p_then ?_
   refine f_cond Z rfl (fun hc5 => ?_) (fun hc5 => ?_)
   ·replace hF := ite_t hc5 hF
    refine wp_seq (f_region Z ?_); clear Z; intro Z
    refine s_runk tAdWAll Z 1 rfl rfl ?_; clear Z a; intro a Z
    refine s_end Z [1, 6, 7] rfl ?_; clear Z; intro Z
    refine p_then (wp_ret ?_)
    refine p_then_r ?_
    obtain rfl := some_in hF
    exact f_ret Z (run_results1 rfl Z rfl) ⟨rfl, I3, (H.sub [] rfl).eq rfl⟩
   ·replace hF := ite_f hc5 hF
    refine wp_skip ?_
    refine p_then (wp_seq ?_)
    refine wp_seq (f_region Z ?_); clear Z; intro Z
    refine s_runk tAdWAll Z 1 rfl rfl ?_; clear Z a; intro a Z
    refine s_end Z [1, 6, 7, 15] rfl ?_; clear Z; intro Z
    refine p_then (wp_block ?_)
    refine f_iter hF (fun sg a' w' => match sg with | i_2 => Sl 142 [(1, v2_other), (6, .bool false), (7, v4), (15, .int .i64 i_2)] a' ∧ ∃ I2, Hf I D w I2 w' [SlC NEEntry v2_other other, SlC NEEntry v4 l]) ⟨Z.sub (ts := [1, 6, 7, 15]) rfl, ⟨I3, (H.sub [(0, true), (2, true)] rfl).eq rfl⟩⟩ ?_
    clear Z H hF a
    rintro rc_2 i_2 a w11 ⟨Z, I7, H⟩ hF
    unfold F_law18_AdoptAll_l3 at hF
    try dsimp only at hF
    refine wp_seq ?_
    refine wp_seq (f_region Z ?_); clear Z; intro Z
    refine s_runk tAdWAll Z 2 rfl rfl ?_; clear Z a; intro a Z
    refine s_ob Z (v := .int .i64 (other.length : Int)) rfl rfl (by decide) rfl (Ob_slen tAdWAll rfl rfl rfl (H.slshape 0 rfl)) ?_; clear Z a; intro a Z
    refine s_runk tAdWAll Z 1 rfl rfl ?_; clear Z a; intro a Z
    refine s_end Z [1, 6, 7, 15, 104, 105, 106, 107] rfl ?_; clear Z; intro Z
    refine p_then ?_
    refine f_cond Z rfl (fun hc6 => ?_) (fun hc6 => ?_)
    ·replace hF := ite_t hc6 hF
     refine wp_skip ?_
     refine p_then (wp_seq ?_)
     refine wp_block ?_
     refine wp_seq ?_
     obtain ⟨hg7, hF⟩ := chk_in hF
     obtain ⟨_, ⟨u1, rfl, L1⟩, H⟩ := H.elG 1 rfl (i_2) (NEEntry.dft _ _)
     replace H := H.addsl L1
     replace H : Hf I D w I7 w11 [SlC NEOp u1 (((l.getD (i_2).toNat default).batch).ops), AtG ((0 : Int) ≤ i_2 ∧ i_2 < (l.length : Int)) (blkOf v4) (oofOf v4 + (i_2).toNat * 4) [.int .i64 (((l.getD (i_2).toNat default).batch).client), .int .i64 (((l.getD (i_2).toNat default).batch).req), u1, .int .u64 ((l.getD (i_2).toNat default).ts)], SlC NEEntry v2_other other, SlC NEEntry v4 l] := H
     obtain ⟨hg8, hF⟩ := chk_in hF
     obtain ⟨_, ⟨u2, rfl, L2⟩, H⟩ := H.elG 2 rfl (i_2) (NEEntry.dft _ _)
     replace H := H.addsl L2
     replace H : Hf I D w I7 w11 [SlC NEOp u2 (((other.getD (i_2).toNat default).batch).ops), AtG ((0 : Int) ≤ i_2 ∧ i_2 < (other.length : Int)) (blkOf v2_other) (oofOf v2_other + (i_2).toNat * 4) [.int .i64 (((other.getD (i_2).toNat default).batch).client), .int .i64 (((other.getD (i_2).toNat default).batch).req), u2, .int .u64 ((other.getD (i_2).toNat default).ts)], SlC NEOp u1 (((l.getD (i_2).toNat default).batch).ops), AtG ((0 : Int) ≤ i_2 ∧ i_2 < (l.length : Int)) (blkOf v4) (oofOf v4 + (i_2).toNat * 4) [.int .i64 (((l.getD (i_2).toNat default).batch).client), .int .i64 (((l.getD (i_2).toNat default).batch).req), u1, .int .u64 ((l.getD (i_2).toNat default).ts)], SlC NEEntry v2_other other, SlC NEEntry v4 l] := H
     obtain ⟨t_2, hx9, hF⟩ := bnd_in hF
     obtain ⟨hg9, hF⟩ := chk_in hF
     obtain ⟨hg10, hF⟩ := chk_in hF
     obtain ⟨hg11, hF⟩ := chk_in hF
     refine f_quietd (by kernel_rfl) (by kernel_rfl) Z ?_; clear Z; intro Z
     refine q_runk tAdWAll Z 2 rfl rfl ?_; clear Z a; intro a Z
     refine q_ob Z (v := .pointer (some ⟨blkOf v4, oofOf v4 + (i_2).toNat * 4, none⟩)) rfl rfl (by decide) rfl (fun _ hw => Ob_sidx tAdWAll rfl rfl rfl rfl (slPl ((H.blw hw).sl 5 rfl) hg7) hg7) ?_; clear Z a; intro a Z
     refine q_ob Z (v := .agg #[.int .i64 (((l.getD (i_2).toNat default).batch).client), .int .i64 (((l.getD (i_2).toNat default).batch).req), u1, .int .u64 ((l.getD (i_2).toNat default).ts)]) rfl rfl (by decide) rfl (fun _ hw => Ob_loads tAdWAll rfl rfl rfl (((H.blw hw).atg 3 rfl hg7).part 0 rfl)) ?_; clear Z a; intro a Z
     refine q_runk tAdWAll Z 2 rfl rfl ?_; clear Z a; intro a Z
     refine q_ob Z (v := .pointer (some ⟨blkOf v2_other, oofOf v2_other + (i_2).toNat * 4, none⟩)) rfl rfl (by decide) rfl (fun _ hw => Ob_sidx tAdWAll rfl rfl rfl rfl (slPl ((H.blw hw).sl 4 rfl) hg8) hg8) ?_; clear Z a; intro a Z
     refine q_ob Z (v := .agg #[.int .i64 (((other.getD (i_2).toNat default).batch).client), .int .i64 (((other.getD (i_2).toNat default).batch).req), u2, .int .u64 ((other.getD (i_2).toNat default).ts)]) rfl rfl (by decide) rfl (fun _ hw => Ob_loads tAdWAll rfl rfl rfl (((H.blw hw).atg 1 rfl hg8).part 0 rfl)) ?_; clear Z a; intro a Z
     refine q_call Z (caps := #[]) fn_19_YAdWAll rfl rfl rfl rfl rfl (by decide) rfl rfl (fun _ hw => (have hq := c_ref08_Twins hx9 (((H.blw hw)).pick0 (js := [(2, true), (0, true)]) rfl rfl); plainC hq)) ?_; clear Z a; intro a Z
     refine q_runk tAdWAll Z 2 rfl rfl ?_; clear Z a; intro a Z
     refine gq_ob Z (p := (!(!t_2))) (v := v2_other) (S' := [(1, v2_other)]) rfl rfl rfl (wantB_f _) rfl (by decide) (fun hp hS => hS.sub (ts := [1]) rfl) (fun hp _ hw => Ob_c tAdWAll rfl) ?_; clear Z a; intro a Z
     refine gq_ob Z (p := (!(!t_2))) (v := .int .i64 i_2) (S' := [(15, .int .i64 i_2)]) rfl rfl rfl (wantB_f _) rfl (by decide) (fun hp hS => hS.sub (ts := [15]) rfl) (fun hp _ hw => Ob_c tAdWAll rfl) ?_; clear Z a; intro a Z
     refine gq_ob Z (p := (!(!t_2))) (v := .pointer (some ⟨blkOf v2_other, oofOf v2_other + (i_2).toNat * 4, none⟩)) (S' := [(121, v2_other), (122, .int .i64 i_2)]) rfl rfl rfl (wantB_f _) rfl (by decide) (fun hp hS => ((hS.conv (t := 121) rfl (cond_t hp)).conv (t := 122) rfl (cond_t hp)).sub (ts := [121, 122]) rfl) (fun hp _ hw => Ob_sidx tAdWAll rfl rfl rfl rfl (slPl ((H.blw hw).sl 4 rfl) (hg9 hp)) (hg9 hp)) ?_; clear Z a; intro a Z
     refine gq_ob Z (p := (!(!t_2))) (v := .pointer (some ⟨blkOf v2_other, oofOf v2_other + (i_2).toNat * 4 + 3, none⟩)) (S' := [(123, .pointer (some ⟨blkOf v2_other, oofOf v2_other + (i_2).toNat * 4, none⟩))]) rfl rfl rfl (wantB_f _) rfl (by decide) (fun hp hS => (hS.conv (t := 123) rfl (cond_t hp)).sub (ts := [123]) rfl) (fun hp _ hw => Ob_c tAdWAll rfl) ?_; clear Z a; intro a Z
     refine gq_ob Z (p := (!(!t_2))) (v := .int .u64 ((other.getD (i_2).toNat default).ts)) (S' := [(124, .pointer (some ⟨blkOf v2_other, oofOf v2_other + (i_2).toNat * 4 + 3, none⟩))]) rfl rfl rfl (wantB_f _) rfl (by decide) (fun hp hS => (hS.conv (t := 124) rfl (cond_t hp)).sub (ts := [124]) rfl) (fun hp _ hw => Ob_load tAdWAll rfl rfl rfl (((H.blw hw).atg 1 rfl (hg9 hp)) 3 _ rfl)) ?_; clear Z a; intro a Z
     refine gq_ob Z (p := (!(!t_2))) (v := .bool (((other.getD (i_2).toNat default).ts) != 0)) (S' := [(125, .int .u64 ((other.getD (i_2).toNat default).ts))]) rfl rfl rfl (wantB_f _) rfl (by decide) (fun hp hS => (hS.conv (t := 125) rfl (cond_t hp)).sub (ts := [125]) rfl) (fun hp _ hw => Ob_c tAdWAll rfl) ?_; clear Z a; intro a Z
     refine gq_ob Z (p := (!(!t_2))) (v := .bool (((other.getD (i_2).toNat default).ts) != 0)) (S' := [(126, .bool (((other.getD (i_2).toNat default).ts) != 0))]) rfl rfl rfl (wantB_f _) rfl (by decide) (fun hp hS => (hS.conv (t := 126) rfl (cond_t hp)).sub (ts := [126]) rfl) (fun hp _ hw => Ob_c tAdWAll rfl) ?_; clear Z a; intro a Z
     refine gq_ob Z (p := ((!(!t_2)) && (((other.getD (i_2).toNat default).ts) != 0))) (v := v4) (S' := [(7, v4)]) rfl rfl rfl (wantB_ct _ _) rfl (by decide) (fun hp hS => hS.sub (ts := [7]) rfl) (fun hp _ hw => Ob_c tAdWAll rfl) ?_; clear Z a; intro a Z
     refine gq_ob Z (p := ((!(!t_2)) && (((other.getD (i_2).toNat default).ts) != 0))) (v := .int .i64 i_2) (S' := [(15, .int .i64 i_2)]) rfl rfl rfl (wantB_ct _ _) rfl (by decide) (fun hp hS => hS.sub (ts := [15]) rfl) (fun hp _ hw => Ob_c tAdWAll rfl) ?_; clear Z a; intro a Z
     refine gq_ob Z (p := ((!(!t_2)) && (((other.getD (i_2).toNat default).ts) != 0))) (v := .pointer (some ⟨blkOf v4, oofOf v4 + (i_2).toNat * 4, none⟩)) (S' := [(128, v4), (129, .int .i64 i_2)]) rfl rfl rfl (wantB_ct _ _) rfl (by decide) (fun hp hS => ((hS.conv (t := 128) rfl (cond_t hp)).conv (t := 129) rfl (cond_t hp)).sub (ts := [128, 129]) rfl) (fun hp _ hw => Ob_sidx tAdWAll rfl rfl rfl rfl (slPl ((H.blw hw).sl 5 rfl) (hg10 hp)) (hg10 hp)) ?_; clear Z a; intro a Z
     refine gq_ob Z (p := ((!(!t_2)) && (((other.getD (i_2).toNat default).ts) != 0))) (v := .pointer (some ⟨blkOf v4, oofOf v4 + (i_2).toNat * 4 + 3, none⟩)) (S' := [(130, .pointer (some ⟨blkOf v4, oofOf v4 + (i_2).toNat * 4, none⟩))]) rfl rfl rfl (wantB_ct _ _) rfl (by decide) (fun hp hS => (hS.conv (t := 130) rfl (cond_t hp)).sub (ts := [130]) rfl) (fun hp _ hw => Ob_c tAdWAll rfl) ?_; clear Z a; intro a Z
     refine gq_ob Z (p := ((!(!t_2)) && (((other.getD (i_2).toNat default).ts) != 0))) (v := .int .u64 ((l.getD (i_2).toNat default).ts)) (S' := [(131, .pointer (some ⟨blkOf v4, oofOf v4 + (i_2).toNat * 4 + 3, none⟩))]) rfl rfl rfl (wantB_ct _ _) rfl (by decide) (fun hp hS => (hS.conv (t := 131) rfl (cond_t hp)).sub (ts := [131]) rfl) (fun hp _ hw => Ob_load tAdWAll rfl rfl rfl (((H.blw hw).atg 3 rfl (hg10 hp)) 3 _ rfl)) ?_; clear Z a; intro a Z
     refine gq_ob Z (p := ((!(!t_2)) && (((other.getD (i_2).toNat default).ts) != 0))) (v := v2_other) (S' := [(1, v2_other)]) rfl rfl rfl (wantB_ct _ _) rfl (by decide) (fun hp hS => hS.sub (ts := [1]) rfl) (fun hp _ hw => Ob_c tAdWAll rfl) ?_; clear Z a; intro a Z
     refine gq_ob Z (p := ((!(!t_2)) && (((other.getD (i_2).toNat default).ts) != 0))) (v := .int .i64 i_2) (S' := [(15, .int .i64 i_2)]) rfl rfl rfl (wantB_ct _ _) rfl (by decide) (fun hp hS => hS.sub (ts := [15]) rfl) (fun hp _ hw => Ob_c tAdWAll rfl) ?_; clear Z a; intro a Z
     refine gq_ob Z (p := ((!(!t_2)) && (((other.getD (i_2).toNat default).ts) != 0))) (v := .pointer (some ⟨blkOf v2_other, oofOf v2_other + (i_2).toNat * 4, none⟩)) (S' := [(133, v2_other), (134, .int .i64 i_2)]) rfl rfl rfl (wantB_ct _ _) rfl (by decide) (fun hp hS => ((hS.conv (t := 133) rfl (cond_t hp)).conv (t := 134) rfl (cond_t hp)).sub (ts := [133, 134]) rfl) (fun hp _ hw => Ob_sidx tAdWAll rfl rfl rfl rfl (slPl ((H.blw hw).sl 4 rfl) (hg11 hp)) (hg11 hp)) ?_; clear Z a; intro a Z
     refine gq_ob Z (p := ((!(!t_2)) && (((other.getD (i_2).toNat default).ts) != 0))) (v := .pointer (some ⟨blkOf v2_other, oofOf v2_other + (i_2).toNat * 4 + 3, none⟩)) (S' := [(135, .pointer (some ⟨blkOf v2_other, oofOf v2_other + (i_2).toNat * 4, none⟩))]) rfl rfl rfl (wantB_ct _ _) rfl (by decide) (fun hp hS => (hS.conv (t := 135) rfl (cond_t hp)).sub (ts := [135]) rfl) (fun hp _ hw => Ob_c tAdWAll rfl) ?_; clear Z a; intro a Z
     refine gq_ob Z (p := ((!(!t_2)) && (((other.getD (i_2).toNat default).ts) != 0))) (v := .int .u64 ((other.getD (i_2).toNat default).ts)) (S' := [(136, .pointer (some ⟨blkOf v2_other, oofOf v2_other + (i_2).toNat * 4 + 3, none⟩))]) rfl rfl rfl (wantB_ct _ _) rfl (by decide) (fun hp hS => (hS.conv (t := 136) rfl (cond_t hp)).sub (ts := [136]) rfl) (fun hp _ hw => Ob_load tAdWAll rfl rfl rfl (((H.blw hw).atg 1 rfl (hg11 hp)) 3 _ rfl)) ?_; clear Z a; intro a Z
     refine gq_ob Z (p := ((!(!t_2)) && (((other.getD (i_2).toNat default).ts) != 0))) (v := .bool (((l.getD (i_2).toNat default).ts) != ((other.getD (i_2).toNat default).ts))) (S' := [(132, .int .u64 ((l.getD (i_2).toNat default).ts)), (137, .int .u64 ((other.getD (i_2).toNat default).ts))]) rfl rfl rfl (wantB_ct _ _) rfl (by decide) (fun hp hS => ((hS.conv (t := 132) rfl (cond_t hp)).conv (t := 137) rfl (cond_t hp)).sub (ts := [132, 137]) rfl) (fun hp _ hw => Ob_c tAdWAll rfl) ?_; clear Z a; intro a Z
     refine gq_ob Z (p := (!(!t_2))) (v := .bool ((((other.getD (i_2).toNat default).ts) != 0) && (((l.getD (i_2).toNat default).ts) != ((other.getD (i_2).toNat default).ts)))) (S' := [(127, .bool (((other.getD (i_2).toNat default).ts) != 0)), (138, cond ((!(!t_2)) && (((other.getD (i_2).toNat default).ts) != 0)) (.bool (((l.getD (i_2).toNat default).ts) != ((other.getD (i_2).toNat default).ts))) undef)]) rfl rfl rfl (wantB_f _) rfl (by decide) (fun hp hS => (hS.conv (t := 127) rfl (cond_t hp)).sub (ts := [127, 138]) rfl) (fun hp _ hw => Ob_pick rfl rfl rfl rfl (pick_andp _ _ hp)) ?_; clear Z a; intro a Z
     refine q_ob Z (v := .bool ((!t_2) || ((((other.getD (i_2).toNat default).ts) != 0) && (((l.getD (i_2).toNat default).ts) != ((other.getD (i_2).toNat default).ts))))) rfl rfl (by decide) rfl (fun _ hw => Ob_pick rfl rfl rfl rfl (pick_or _ _)) ?_; clear Z a; intro a Z
     refine q_end Z [1, 6, 7, 15, 104, 105, 106, 107, 110, 111, 112, 113, 114, 115, 116, 117, 118, 119, 120, 140] rfl ?_; clear Z; intro w12 hb Z
     replace H : Hf I D w I7 w12 [SlC NEOp u2 (((other.getD (i_2).toNat default).batch).ops), AtG ((0 : Int) ≤ i_2 ∧ i_2 < (other.length : Int)) (blkOf v2_other) (oofOf v2_other + (i_2).toNat * 4) [.int .i64 (((other.getD (i_2).toNat default).batch).client), .int .i64 (((other.getD (i_2).toNat default).batch).req), u2, .int .u64 ((other.getD (i_2).toNat default).ts)], SlC NEOp u1 (((l.getD (i_2).toNat default).batch).ops), AtG ((0 : Int) ≤ i_2 ∧ i_2 < (l.length : Int)) (blkOf v4) (oofOf v4 + (i_2).toNat * 4) [.int .i64 (((l.getD (i_2).toNat default).batch).client), .int .i64 (((l.getD (i_2).toNat default).batch).req), u1, .int .u64 ((l.getD (i_2).toNat default).ts)], SlC NEEntry v2_other other, SlC NEEntry v4 l] := H.blw hb
     clear hb
     refine p_then ?_
     refine f_cond Z rfl (fun hc7 => ?_) (fun hc7 => ?_)
     ·replace hF := ite_t hc7 hF
      refine wp_seq (f_region Z ?_); clear Z; intro Z
      refine s_runk tAdWAll Z 1 rfl rfl ?_; clear Z a; intro a Z
      refine s_end Z [1, 6, 7, 15, 104, 105, 106, 107, 110, 111, 112, 113, 114, 115, 116, 117, 118, 119, 120, 140] rfl ?_; clear Z; intro Z
      refine p_then (wp_ret ?_)
      refine p_blk_r ?_
      refine p_then_r ?_
      refine p_then_r ?_
      refine p_blk_r ?_
      refine p_then_r ?_
      obtain rfl := some_in hF
      exact f_ret Z (run_results1 rfl Z rfl) ⟨rfl, I7, (H.sub [] rfl).eq rfl⟩
     ·replace hF := ite_f hc7 hF
      refine wp_skip ?_
      refine p_blk ?_
      refine p_then ?_
      obtain ⟨hg12, hF⟩ := chk_in hF
      refine f_region Z ?_; clear Z; intro Z
      refine s_runk tAdWAll Z 1 rfl rfl ?_; clear Z a; intro a Z
      refine s_ob Z (v := .int .i64 (i_2 + 1)) rfl rfl (by decide) rfl (Ob_add rfl rfl rfl (wrI hg12)) ?_; clear Z a; intro a Z
      refine s_runk tAdWAll Z 1 rfl rfl ?_; clear Z a; intro a Z
      refine s_end Z [1, 6, 7, 15, 104, 105, 106, 107, 110, 111, 112, 113, 114, 115, 116, 117, 118, 119, 120, 140, 108, 109] rfl ?_; clear Z; intro Z
      refine p_then ?_
      exact ⟨(i_2 + 1), ⟨Z.sub (ts := [1, 6, 7, 15]) rfl, ⟨I7, (H.sub [(4, true), (5, true)] rfl).eq rfl⟩⟩, hF⟩
    ·replace hF := ite_f hc6 hF
     refine wp_exit ?_
     refine p_then_x ?_
     refine p_then_x ?_
     refine f_exit_here ?_
     refine p_then (wp_seq ?_)
     obtain ⟨a0_2, hx10, hF⟩ := bnd_in hF
     refine f_region Z ?_; clear Z; intro Z
     refine h_call Z H (js := []) rfl (caps := #[]) fn_8_YAdWAll rfl rfl rfl rfl rfl (by decide) rfl rfl (fun D1 hS => have hq := c_law18_awake hx10 hS; hq) ?_; clear Z a; intro vv a w13 D2 hr hF2 Z
     obtain ⟨rfl, I8, K⟩ := hr
     have H : Hf I D w I8 w13 [SlC NEEntry v2_other other, SlC NEEntry v4 l] := hF2 K
     clear hF2 K
     refine s_runk tAdWAll Z 1 rfl rfl ?_; clear Z a; intro a Z
     refine s_end Z [6] rfl ?_; clear Z; intro Z
     refine p_then (wp_ret ?_)
     obtain rfl := some_in hF
     exact f_ret Z (run_results1 rfl Z rfl) ⟨rfl, I8, (H.sub [] rfl).eq rfl⟩

end Go.Proofs.Ytdofpehcojboeaa
