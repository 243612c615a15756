/- Adopting: the law AdoptAgain walked. -/
import Derived.Test.YtdofpehcojboeaaYAd6
namespace Go.Proofs.Ytdofpehcojboeaa
open Go.RowKit
def tAdWAgainL : TabL := ⟨[], [], [], [(22, (34, 4)), (25, (54, 18))], []⟩

def tAdWAgain : Tab Try.prog := ⟨tAdWAgainL, by kernel_rfl⟩

theorem fn_7_YAdWAgain : IsFn Try.prog 7 := ⟨_, Try.func7, by kernel_rfl, by kernel_rfl⟩

theorem fn_8_YAdWAgain : IsFn Try.prog 8 := ⟨_, Try.func8, by kernel_rfl, by kernel_rfl⟩

theorem fn_9_YAdWAgain : IsFn Try.prog 9 := ⟨_, Try.func9, by kernel_rfl, by kernel_rfl⟩

theorem fn_17_YAdWAgain : IsFn Try.prog 17 := ⟨_, Try.func17, by kernel_rfl, by kernel_rfl⟩

theorem fn_18_YAdWAgain : IsFn Try.prog 18 := ⟨_, Try.func18, by kernel_rfl, by kernel_rfl⟩

def F_law18_AdoptAgain (own : List EEntry) (other : List EEntry) (from_ : Int) : Option Bool := (F_law08_Much own).bind fun m => ((gif (!(decide (m > 60))) (F_law08_Much other) default).bind fun m_2 => ((gif (!((decide (m > 60)) || (decide (m_2 > 60)))) (F_ref08_Right own) default).bind fun r0 => ((gif (!(((decide (m > 60)) || (decide (m_2 > 60))) || (r0 != 0))) (F_ref08_Right other) default).bind fun r0_2 => (if ((((decide (m > 60)) || (decide (m_2 > 60))) || (r0 != 0)) || (r0_2 != 0)) = true then ((F_law18_awake).bind fun a0 => (some a0)) else ((F_adopt_Take own 0 0 other).bind fun t => ((F_law18_laid own t.1).bind fun l => (if ((!l.2) || (t.2 != (other.length : Int))) = true then (some false) else (chk (inI from_) (chk (inI ((other.length : Int) + 1)) (chk ((other.length : Int) + 1 ≠ 0) ((F_adopt_Take l.1 0 0 other).bind fun t_2 => (chk ((0 : Int) ≤ from_.tmod ((other.length : Int) + 1) ∧ from_.tmod ((other.length : Int) + 1) ≤ (other.length : Int)) ((F_adopt_Take l.1 t.2 (from_.tmod ((other.length : Int) + 1)) (other.drop ((from_.tmod ((other.length : Int) + 1)).toNat))).bind fun t_3 => ((F_adopt_Take own 0 0 own).bind fun t_4 => ((gif (((((((t_2.1.length : Int) == 0) && (t_2.2 == t.2)) && ((t_3.1.length : Int) == 0)) && (t_3.2 == t.2)) && ((t_4.1.length : Int) == 0)) && (t_4.2 == (own.length : Int))) (F_law18_awake) default).bind fun a0_2 => (some ((((((((t_2.1.length : Int) == 0) && (t_2.2 == t.2)) && ((t_3.1.length : Int) == 0)) && (t_3.2 == t.2)) && ((t_4.1.length : Int) == 0)) && (t_4.2 == (own.length : Int))) && a0_2)))))))))))))))))

set_option maxHeartbeats 1000000 in
theorem c_law18_AdoptAgain {I D : Dm} {own : List EEntry} {v1_own : Value} {other : List EEntry} {v2_other : Value} {from_ : Int} {w : World} {rr : Bool} (hF : F_law18_AdoptAgain own other from_ = some rr) (H : St I D w [SlC NEEntry v1_own own, SlC NEEntry v2_other other]) :
  Calls Try.prog 5 #[v1_own, v2_other, .int .u8 from_] w (Ret fun vv w' => vv = .bool rr ∧ ∃ I', Hf I D w I' w' []) := by
 replace H := H.hf
 unfold F_law18_AdoptAgain at hF
 refine f_enter 117 Try.func5 rfl rfl (Nat.le_of_ble_eq_true rfl) fun a Z => ?_
 replace Z := Z.sub (ts := [0, 1, 2]) rfl
 refine wp_seq (f_region Z ?_); clear Z; intro Z
 refine s_runk tAdWAgain Z 1 rfl rfl ?_; clear Z a; intro a Z
 refine s_end Z [0, 1, 2, 6] rfl ?_; clear Z; intro Z
 refine p_then (wp_seq ?_)
 refine wp_seq ?_
 obtain ⟨m, hx1, hF⟩ := bnd_in hF
 obtain ⟨m_2, hx2, hF⟩ := bnd_in hF
 obtain ⟨r0, hx3, hF⟩ := bnd_in hF
 obtain ⟨r0_2, hx4, hF⟩ := bnd_in hF
 refine f_region Z ?_; clear Z; intro Z
 refine s_runk tAdWAgain Z 1 rfl rfl ?_; clear Z a; intro a Z
 refine h_call Z H (js := [(0, true)]) rfl (caps := #[]) fn_7_YAdWAgain rfl rfl rfl rfl rfl (by decide) rfl rfl (fun D1 hS => have hq := c_law08_Much hx1 hS; hq) ?_; clear Z a; intro vv a w1 D2 hr hF2 Z
 obtain ⟨rfl, I1, K⟩ := hr
 have H : Hf I D w I1 w1 [SlC NEEntry v1_own own, SlC NEEntry v2_other other] := hF2 K
 clear hF2 K
 refine s_runk tAdWAgain Z 2 rfl rfl ?_; clear Z a; intro a Z
 refine g_ob Z (p := (!(decide (m > 60)))) (v := v2_other) (S' := [(1, v2_other)]) rfl rfl rfl (wantB_f _) rfl (by decide) (fun hp hS => hS.sub (ts := [1]) rfl) (fun hp => Ob_c tAdWAgain rfl) ?_; clear Z a; intro a Z
 refine g_call Z (p := (!(decide (m > 60)))) (v := .int .i64 m_2) (S' := [(22, v2_other)]) (caps := #[]) fn_7_YAdWAgain rfl rfl rfl (wantB_f _) rfl (by decide) (fun hp hS => (hS.conv (t := 22) rfl (cond_t hp)).sub (ts := [22]) rfl) rfl rfl rfl rfl (fun hp => (have hq := c_law08_Much (gif_in hx2 hp) ((H).pick0 (js := [(1, true)]) rfl rfl); plainC hq)) ?_; clear Z a; intro a w2 hb Z
 replace H : Hf I D w I1 w2 [SlC NEEntry v1_own own, SlC NEEntry v2_other other] := H.blw hb
 clear hb
 refine g_ob Z (p := (!(decide (m > 60)))) (v := .bool (decide (m_2 > 60))) (S' := [(23, .int .i64 m_2)]) rfl rfl rfl (wantB_f _) rfl (by decide) (fun hp hS => (hS.conv (t := 23) rfl (cond_t hp)).sub (ts := [23]) rfl) (fun hp => Ob_c tAdWAgain rfl) ?_; clear Z a; intro a Z
 refine s_ob Z (v := .bool ((decide (m > 60)) || (decide (m_2 > 60)))) rfl rfl (by decide) rfl (Ob_pick rfl rfl rfl rfl (pick_or _ _)) ?_; clear Z a; intro a Z
 refine s_runk tAdWAgain Z 1 rfl rfl ?_; clear Z a; intro a Z
 refine g_ob Z (p := (!((decide (m > 60)) || (decide (m_2 > 60))))) (v := v1_own) (S' := [(0, v1_own)]) rfl rfl rfl (wantB_f _) rfl (by decide) (fun hp hS => hS.sub (ts := [0]) rfl) (fun hp => Ob_c tAdWAgain rfl) ?_; clear Z a; intro a Z
 refine g_call Z (p := (!((decide (m > 60)) || (decide (m_2 > 60))))) (v := .int .i64 r0) (S' := [(27, v1_own)]) (caps := #[]) fn_17_YAdWAgain rfl rfl rfl (wantB_f _) rfl (by decide) (fun hp hS => (hS.conv (t := 27) rfl (cond_t hp)).sub (ts := [27]) rfl) rfl rfl rfl rfl (fun hp => (have hq := c_ref08_Right (gif_in hx3 hp) ((H).pick0 (js := [(0, true)]) rfl rfl); plainC hq)) ?_; clear Z a; intro a w3 hb Z
 replace H : Hf I D w I1 w3 [SlC NEEntry v1_own own, SlC NEEntry v2_other other] := H.blw hb
 clear hb
 refine g_ob Z (p := (!((decide (m > 60)) || (decide (m_2 > 60))))) (v := .bool (r0 != 0)) (S' := [(28, .int .i64 r0)]) rfl rfl rfl (wantB_f _) rfl (by decide) (fun hp hS => (hS.conv (t := 28) rfl (cond_t hp)).sub (ts := [28]) rfl) (fun hp => Ob_c tAdWAgain rfl) ?_; clear Z a; intro a Z
 refine s_ob Z (v := .bool (((decide (m > 60)) || (decide (m_2 > 60))) || (r0 != 0))) rfl rfl (by decide) rfl (Ob_pick rfl rfl rfl rfl (pick_or _ _)) ?_; clear Z a; intro a Z
 refine s_runk tAdWAgain Z 1 rfl rfl ?_; clear Z a; intro a Z
 refine g_ob Z (p := (!(((decide (m > 60)) || (decide (m_2 > 60))) || (r0 != 0)))) (v := v2_other) (S' := [(1, v2_other)]) rfl rfl rfl (wantB_f _) rfl (by decide) (fun hp hS => hS.sub (ts := [1]) rfl) (fun hp => Ob_c tAdWAgain rfl) ?_; clear Z a; intro a Z
 refine g_call Z (p := (!(((decide (m > 60)) || (decide (m_2 > 60))) || (r0 != 0)))) (v := .int .i64 r0_2) (S' := [(32, v2_other)]) (caps := #[]) fn_17_YAdWAgain rfl rfl rfl (wantB_f _) rfl (by decide) (fun hp hS => (hS.conv (t := 32) rfl (cond_t hp)).sub (ts := [32]) rfl) rfl rfl rfl rfl (fun hp => (have hq := c_ref08_Right (gif_in hx4 hp) ((H).pick0 (js := [(1, true)]) rfl rfl); plainC hq)) ?_; clear Z a; intro a w4 hb Z
 replace H : Hf I D w I1 w4 [SlC NEEntry v1_own own, SlC NEEntry v2_other other] := H.blw hb
 clear hb
 refine g_ob Z (p := (!(((decide (m > 60)) || (decide (m_2 > 60))) || (r0 != 0)))) (v := .bool (r0_2 != 0)) (S' := [(33, .int .i64 r0_2)]) rfl rfl rfl (wantB_f _) rfl (by decide) (fun hp hS => (hS.conv (t := 33) rfl (cond_t hp)).sub (ts := [33]) rfl) (fun hp => Ob_c tAdWAgain rfl) ?_; clear Z a; intro a Z
 refine s_ob Z (v := .bool ((((decide (m > 60)) || (decide (m_2 > 60))) || (r0 != 0)) || (r0_2 != 0))) rfl rfl (by decide) rfl (Ob_pick rfl rfl rfl rfl (pick_or _ _)) ?_; clear Z a; intro a Z
 refine s_end Z [0, 1, 2, 6, 35] rfl ?_; clear Z; intro Z
 refine p_then ?_
 refine f_cond Z rfl (fun hc1 => ?_) (fun hc1 => ?_)
 ·replace hF := ite_t hc1 hF
  refine wp_seq ?_
  obtain ⟨a0, hx5, hF⟩ := bnd_in hF
  refine f_region Z ?_; clear Z; intro Z
  refine h_call Z H (js := []) rfl (caps := #[]) fn_8_YAdWAgain rfl rfl rfl rfl rfl (by decide) rfl rfl (fun D1 hS => have hq := c_law18_awake hx5 hS; hq) ?_; clear Z a; intro vv a w5 D2 hr hF2 Z
  obtain ⟨rfl, I2, K⟩ := hr
  have H : Hf I D w I2 w5 [SlC NEEntry v1_own own, SlC NEEntry v2_other other] := hF2 K
  clear hF2 K
  refine s_runk tAdWAgain Z 1 rfl rfl ?_; clear Z a; intro a Z
  refine s_end Z [0, 1, 2, 6] rfl ?_; clear Z; intro Z
  refine p_then (wp_ret ?_)
  refine p_then_r ?_
  obtain rfl := some_in hF
  exact f_ret Z (run_results1 rfl Z rfl) ⟨rfl, I2, (H.sub [] rfl).eq rfl⟩
 ·replace hF := ite_f hc1 hF
  refine wp_skip ?_
  refine p_then (wp_seq ?_)
  obtain ⟨t, hx6, hF⟩ := bnd_in hF
  refine f_region Z ?_; clear Z; intro Z
  refine s_runk tAdWAgain Z 2 rfl rfl ?_; clear Z a; intro a Z
  refine h_call Z H (js := [(0, true), (1, true)]) rfl (caps := #[]) fn_9_YAdWAgain rfl rfl rfl rfl rfl (by decide) rfl rfl (fun D1 hS => have hq := c_adopt_Take hx6 hS; hq) ?_; clear Z a; intro vv a w6 D2 hr hF2 Z
  obtain ⟨q1, rfl, I3, K⟩ := hr
  have H : Hf I D w I3 w6 [SlC NENote q1 t.1, SlC NEEntry v1_own own, SlC NEEntry v2_other other] := hF2 K
  clear hF2 K
  refine s_runk tAdWAgain Z 5 rfl rfl ?_; clear Z a; intro a Z
  refine s_end Z [0, 1, 2, 6, 7, 8] rfl ?_; clear Z; intro Z
  refine p_then (wp_seq ?_)
  obtain ⟨l, hx7, hF⟩ := bnd_in hF
  refine f_region Z ?_; clear Z; intro Z
  refine s_runk tAdWAgain Z 2 rfl rfl ?_; clear Z a; intro a Z
  refine h_call Z H (js := [(1, true), (0, true)]) rfl (caps := #[]) fn_18_YAdWAgain rfl rfl rfl rfl rfl (by decide) rfl rfl (fun D1 hS => have hq := c_law18_laid hx7 hS; hq) ?_; clear Z a; intro vv a w7 D2 hr hF2 Z
  obtain ⟨q2, rfl, I4, K⟩ := hr
  have H : Hf I D w I4 w7 [SlC NEEntry q2 l.1, SlC NENote q1 t.1, SlC NEEntry v1_own own, SlC NEEntry v2_other other] := hF2 K
  clear hF2 K
  refine s_runk tAdWAgain Z 5 rfl rfl ?_; clear Z a; intro a Z
  refine s_end Z [0, 1, 2, 6, 8, 9, 10] rfl ?_; clear Z; intro Z
  refine p_then (wp_seq ?_)
  refine wp_seq (f_region Z ?_); clear Z; intro Z
  refine s_runk tAdWAgain Z 3 rfl rfl ?_; clear Z a; intro a Z
  refine g_ob Z (p := (!(!l.2))) (v := .int .i64 t.2) (S' := [(8, .int .i64 t.2)]) rfl rfl rfl (wantB_f _) rfl (by decide) (fun hp hS => hS.sub (ts := [8]) rfl) (fun hp => Ob_c tAdWAgain rfl) ?_; clear Z a; intro a Z
  refine g_ob Z (p := (!(!l.2))) (v := v2_other) (S' := [(1, v2_other)]) rfl rfl rfl (wantB_f _) rfl (by decide) (fun hp hS => hS.sub (ts := [1]) rfl) (fun hp => Ob_c tAdWAgain rfl) ?_; clear Z a; intro a Z
  refine g_ob Z (p := (!(!l.2))) (v := .int .i64 (other.length : Int)) (S' := [(53, v2_other)]) rfl rfl rfl (wantB_f _) rfl (by decide) (fun hp hS => (hS.conv (t := 53) rfl (cond_t hp)).sub (ts := [53]) rfl) (fun hp => Ob_slen tAdWAgain rfl rfl rfl (H.slshape 3 rfl)) ?_; clear Z a; intro a Z
  refine g_ob Z (p := (!(!l.2))) (v := .bool (t.2 != (other.length : Int))) (S' := [(52, .int .i64 t.2), (54, .int .i64 (other.length : Int))]) rfl rfl rfl (wantB_f _) rfl (by decide) (fun hp hS => ((hS.conv (t := 52) rfl (cond_t hp)).conv (t := 54) rfl (cond_t hp)).sub (ts := [52, 54]) rfl) (fun hp => Ob_c tAdWAgain rfl) ?_; clear Z a; intro a Z
  refine s_ob Z (v := .bool ((!l.2) || (t.2 != (other.length : Int)))) rfl rfl (by decide) rfl (Ob_pick rfl rfl rfl rfl (pick_or _ _)) ?_; clear Z a; intro a Z
  refine s_end Z [0, 1, 2, 6, 8, 9, 56] rfl ?_; clear Z; intro Z
  refine p_then ?_
  refine f_cond Z rfl (fun hc2 => ?_) (fun hc2 => ?_)
  ·replace hF := ite_t hc2 hF
   refine wp_seq (f_region Z ?_); clear Z; intro Z
   refine s_runk tAdWAgain Z 1 rfl rfl ?_; clear Z a; intro a Z
   refine s_end Z [0, 1, 2, 6, 8, 9] rfl ?_; clear Z; intro Z
   refine p_then (wp_ret ?_)
   refine p_then_r ?_
   obtain rfl := some_in hF
   exact f_ret Z (run_results1 rfl Z rfl) ⟨rfl, I4, (H.sub [] rfl).eq rfl⟩
  ·replace hF := ite_f hc2 hF
   refine wp_skip ?_
   refine p_then (wp_seq ?_)
   obtain ⟨hg1, hF⟩ := chk_in hF
   obtain ⟨hg2, hF⟩ := chk_in hF
   obtain ⟨hg3, hF⟩ := chk_in hF
   refine f_region Z ?_; clear Z; intro Z
   refine s_runk tAdWAgain Z 1 rfl rfl ?_; clear Z a; intro a Z
   refine s_ob Z (v := .int .i64 from_) rfl rfl (by decide) rfl (Ob_conv rfl rfl (run_convi Try.underlying5 Try.underlying3 _ _ (wrI hg1) _)) ?_; clear Z a; intro a Z
   refine s_runk tAdWAgain Z 1 rfl rfl ?_; clear Z a; intro a Z
   refine s_ob Z (v := .int .i64 (other.length : Int)) rfl rfl (by decide) rfl (Ob_slen tAdWAgain rfl rfl rfl (H.slshape 3 rfl)) ?_; clear Z a; intro a Z
   refine s_ob Z (v := .int .i64 ((other.length : Int) + 1)) rfl rfl (by decide) rfl (Ob_add rfl rfl rfl (wrI hg2)) ?_; clear Z a; intro a Z
   refine s_ob Z (v := .int .i64 (from_.tmod ((other.length : Int) + 1))) rfl rfl (by decide) rfl (Ob_rem rfl rfl rfl hg3 rfl) ?_; clear Z a; intro a Z
   refine s_runk tAdWAgain Z 1 rfl rfl ?_; clear Z a; intro a Z
   refine s_end Z [0, 1, 6, 8, 9, 11] rfl ?_; clear Z; intro Z
   refine p_then (wp_seq ?_)
   obtain ⟨t_2, hx8, hF⟩ := bnd_in hF
   refine f_region Z ?_; clear Z; intro Z
   refine s_runk tAdWAgain Z 2 rfl rfl ?_; clear Z a; intro a Z
   refine h_call Z H (js := [(0, true), (3, true)]) rfl (caps := #[]) fn_9_YAdWAgain rfl rfl rfl rfl rfl (by decide) rfl rfl (fun D1 hS => have hq := c_adopt_Take hx8 hS; hq) ?_; clear Z a; intro vv a w8 D2 hr hF2 Z
   obtain ⟨q3, rfl, I5, K⟩ := hr
   have H : Hf I D w I5 w8 [SlC NENote q3 t_2.1, SlC NEEntry q2 l.1, SlC NENote q1 t.1, SlC NEEntry v1_own own, SlC NEEntry v2_other other] := hF2 K
   clear hF2 K
   refine s_runk tAdWAgain Z 5 rfl rfl ?_; clear Z a; intro a Z
   refine s_end Z [0, 1, 6, 8, 9, 11, 12, 13] rfl ?_; clear Z; intro Z
   refine p_then (wp_seq ?_)
   obtain ⟨hg4, hF⟩ := chk_in hF
   obtain ⟨t_3, hx9, hF⟩ := bnd_in hF
   refine f_region Z ?_; clear Z; intro Z
   refine s_runk tAdWAgain Z 5 rfl rfl ?_; clear Z a; intro a Z
   replace H : Hf I D w I5 w8 [SlC NEEntry (subV v2_other ((from_.tmod ((other.length : Int) + 1)).toNat) other.length 4) (other.drop ((from_.tmod ((other.length : Int) + 1)).toNat)), SlC NENote q3 t_2.1, SlC NEEntry q2 l.1, SlC NENote q1 t.1, SlC NEEntry v1_own own, SlC NEEntry v2_other other] := H.slPart_from 4 rfl hg4 4 rfl
   refine s_ob Z (v := subV v2_other ((from_.tmod ((other.length : Int) + 1)).toNat) other.length 4) rfl rfl (by decide) rfl (Ob_sub_from tAdWAgain rfl rfl rfl rfl (H.slshape 5 rfl) hg4) ?_; clear Z a; intro a Z
   refine h_call Z H (js := [(2, true), (0, true)]) rfl (caps := #[]) fn_9_YAdWAgain rfl rfl rfl rfl rfl (by decide) rfl rfl (fun D1 hS => have hq := c_adopt_Take hx9 hS; hq) ?_; clear Z a; intro vv a w9 D2 hr hF2 Z
   obtain ⟨q4, rfl, I6, K⟩ := hr
   have H : Hf I D w I6 w9 [SlC NENote q4 t_3.1, SlC NEEntry (subV v2_other ((from_.tmod ((other.length : Int) + 1)).toNat) other.length 4) (other.drop ((from_.tmod ((other.length : Int) + 1)).toNat)), SlC NENote q3 t_2.1, SlC NEEntry q2 l.1, SlC NENote q1 t.1, SlC NEEntry v1_own own, SlC NEEntry v2_other other] := hF2 K
   clear hF2 K
   refine s_runk tAdWAgain Z 5 rfl rfl ?_; clear Z a; intro a Z
   refine s_end Z [0, 6, 8, 12, 13, 14, 15] rfl ?_; clear Z; intro Z
   refine p_then (wp_seq ?_)
   obtain ⟨t_4, hx10, hF⟩ := bnd_in hF
   refine f_region Z ?_; clear Z; intro Z
   refine s_runk tAdWAgain Z 2 rfl rfl ?_; clear Z a; intro a Z
   refine h_call Z H (js := [(5, true), (5, true)]) rfl (caps := #[]) fn_9_YAdWAgain rfl rfl rfl rfl rfl (by decide) rfl rfl (fun D1 hS => have hq := c_adopt_Take hx10 hS; hq) ?_; clear Z a; intro vv a w10 D2 hr hF2 Z
   obtain ⟨q5, rfl, I7, K⟩ := hr
   have H : Hf I D w I7 w10 [SlC NENote q5 t_4.1, SlC NENote q4 t_3.1, SlC NEEntry (subV v2_other ((from_.tmod ((other.length : Int) + 1)).toNat) other.length 4) (other.drop ((from_.tmod ((other.length : Int) + 1)).toNat)), SlC NENote q3 t_2.1, SlC NEEntry q2 l.1, SlC NENote q1 t.1, SlC NEEntry v1_own own, SlC NEEntry v2_other other] := hF2 K
   clear hF2 K
   refine s_runk tAdWAgain Z 5 rfl rfl ?_; clear Z a; intro a Z
   refine s_end Z [0, 6, 8, 12, 13, 14, 15, 16, 17] rfl ?_; clear Z; intro Z
   refine p_then (wp_seq ?_)
   obtain ⟨a0_2, hx11, hF⟩ := bnd_in hF
   refine f_region Z ?_; clear Z; intro Z
   refine s_runk tAdWAgain Z 1 rfl rfl ?_; clear Z a; intro a Z
   refine s_ob Z (v := .int .i64 (t_2.1.length : Int)) rfl rfl (by decide) rfl (Ob_slen tAdWAgain rfl rfl rfl (H.slshape 3 rfl)) ?_; clear Z a; intro a Z
   refine s_runk tAdWAgain Z 2 rfl rfl ?_; clear Z a; intro a Z
   refine g_ob Z (p := ((t_2.1.length : Int) == 0)) (v := .int .i64 t_2.2) (S' := [(13, .int .i64 t_2.2)]) rfl rfl rfl (wantB_t _) rfl (by decide) (fun hp hS => hS.sub (ts := [13]) rfl) (fun hp => Ob_c tAdWAgain rfl) ?_; clear Z a; intro a Z
   refine g_ob Z (p := ((t_2.1.length : Int) == 0)) (v := .int .i64 t.2) (S' := [(8, .int .i64 t.2)]) rfl rfl rfl (wantB_t _) rfl (by decide) (fun hp hS => hS.sub (ts := [8]) rfl) (fun hp => Ob_c tAdWAgain rfl) ?_; clear Z a; intro a Z
   refine g_ob Z (p := ((t_2.1.length : Int) == 0)) (v := .bool (t_2.2 == t.2)) (S' := [(89, .int .i64 t_2.2), (90, .int .i64 t.2)]) rfl rfl rfl (wantB_t _) rfl (by decide) (fun hp hS => ((hS.conv (t := 89) rfl (cond_t hp)).conv (t := 90) rfl (cond_t hp)).sub (ts := [89, 90]) rfl) (fun hp => Ob_c tAdWAgain rfl) ?_; clear Z a; intro a Z
   refine s_ob Z (v := .bool (((t_2.1.length : Int) == 0) && (t_2.2 == t.2))) rfl rfl (by decide) rfl (Ob_pick rfl rfl rfl rfl (pick_and _ _)) ?_; clear Z a; intro a Z
   refine s_runk tAdWAgain Z 1 rfl rfl ?_; clear Z a; intro a Z
   refine g_ob Z (p := (((t_2.1.length : Int) == 0) && (t_2.2 == t.2))) (v := q4) (S' := [(14, q4)]) rfl rfl rfl (wantB_t _) rfl (by decide) (fun hp hS => hS.sub (ts := [14]) rfl) (fun hp => Ob_c tAdWAgain rfl) ?_; clear Z a; intro a Z
   refine g_ob Z (p := (((t_2.1.length : Int) == 0) && (t_2.2 == t.2))) (v := .int .i64 (t_3.1.length : Int)) (S' := [(94, q4)]) rfl rfl rfl (wantB_t _) rfl (by decide) (fun hp hS => (hS.conv (t := 94) rfl (cond_t hp)).sub (ts := [94]) rfl) (fun hp => Ob_slen tAdWAgain rfl rfl rfl (H.slshape 1 rfl)) ?_; clear Z a; intro a Z
   refine g_ob Z (p := (((t_2.1.length : Int) == 0) && (t_2.2 == t.2))) (v := .bool ((t_3.1.length : Int) == 0)) (S' := [(95, .int .i64 (t_3.1.length : Int))]) rfl rfl rfl (wantB_t _) rfl (by decide) (fun hp hS => (hS.conv (t := 95) rfl (cond_t hp)).sub (ts := [95]) rfl) (fun hp => Ob_c tAdWAgain rfl) ?_; clear Z a; intro a Z
   refine s_ob Z (v := .bool ((((t_2.1.length : Int) == 0) && (t_2.2 == t.2)) && ((t_3.1.length : Int) == 0))) rfl rfl (by decide) rfl (Ob_pick rfl rfl rfl rfl (pick_and _ _)) ?_; clear Z a; intro a Z
   refine s_runk tAdWAgain Z 1 rfl rfl ?_; clear Z a; intro a Z
   refine g_ob Z (p := ((((t_2.1.length : Int) == 0) && (t_2.2 == t.2)) && ((t_3.1.length : Int) == 0))) (v := .int .i64 t_3.2) (S' := [(15, .int .i64 t_3.2)]) rfl rfl rfl (wantB_t _) rfl (by decide) (fun hp hS => hS.sub (ts := [15]) rfl) (fun hp => Ob_c tAdWAgain rfl) ?_; clear Z a; intro a Z
   refine g_ob Z (p := ((((t_2.1.length : Int) == 0) && (t_2.2 == t.2)) && ((t_3.1.length : Int) == 0))) (v := .int .i64 t.2) (S' := [(8, .int .i64 t.2)]) rfl rfl rfl (wantB_t _) rfl (by decide) (fun hp hS => hS.sub (ts := [8]) rfl) (fun hp => Ob_c tAdWAgain rfl) ?_; clear Z a; intro a Z
   refine g_ob Z (p := ((((t_2.1.length : Int) == 0) && (t_2.2 == t.2)) && ((t_3.1.length : Int) == 0))) (v := .bool (t_3.2 == t.2)) (S' := [(99, .int .i64 t_3.2), (100, .int .i64 t.2)]) rfl rfl rfl (wantB_t _) rfl (by decide) (fun hp hS => ((hS.conv (t := 99) rfl (cond_t hp)).conv (t := 100) rfl (cond_t hp)).sub (ts := [99, 100]) rfl) (fun hp => Ob_c tAdWAgain rfl) ?_; clear Z a; intro a Z
   refine s_ob Z (v := .bool (((((t_2.1.length : Int) == 0) && (t_2.2 == t.2)) && ((t_3.1.length : Int) == 0)) && (t_3.2 == t.2))) rfl rfl (by decide) rfl (Ob_pick rfl rfl rfl rfl (pick_and _ _)) ?_; clear Z a; intro a Z
   refine s_runk tAdWAgain Z 1 rfl rfl ?_; clear Z a; intro a Z
   refine g_ob Z (p := (((((t_2.1.length : Int) == 0) && (t_2.2 == t.2)) && ((t_3.1.length : Int) == 0)) && (t_3.2 == t.2))) (v := q5) (S' := [(16, q5)]) rfl rfl rfl (wantB_t _) rfl (by decide) (fun hp hS => hS.sub (ts := [16]) rfl) (fun hp => Ob_c tAdWAgain rfl) ?_; clear Z a; intro a Z
   refine g_ob Z (p := (((((t_2.1.length : Int) == 0) && (t_2.2 == t.2)) && ((t_3.1.length : Int) == 0)) && (t_3.2 == t.2))) (v := .int .i64 (t_4.1.length : Int)) (S' := [(104, q5)]) rfl rfl rfl (wantB_t _) rfl (by decide) (fun hp hS => (hS.conv (t := 104) rfl (cond_t hp)).sub (ts := [104]) rfl) (fun hp => Ob_slen tAdWAgain rfl rfl rfl (H.slshape 0 rfl)) ?_; clear Z a; intro a Z
   refine g_ob Z (p := (((((t_2.1.length : Int) == 0) && (t_2.2 == t.2)) && ((t_3.1.length : Int) == 0)) && (t_3.2 == t.2))) (v := .bool ((t_4.1.length : Int) == 0)) (S' := [(105, .int .i64 (t_4.1.length : Int))]) rfl rfl rfl (wantB_t _) rfl (by decide) (fun hp hS => (hS.conv (t := 105) rfl (cond_t hp)).sub (ts := [105]) rfl) (fun hp => Ob_c tAdWAgain rfl) ?_; clear Z a; intro a Z
   refine s_ob Z (v := .bool ((((((t_2.1.length : Int) == 0) && (t_2.2 == t.2)) && ((t_3.1.length : Int) == 0)) && (t_3.2 == t.2)) && ((t_4.1.length : Int) == 0))) rfl rfl (by decide) rfl (Ob_pick rfl rfl rfl rfl (pick_and _ _)) ?_; clear Z a; intro a Z
   refine s_runk tAdWAgain Z 1 rfl rfl ?_; clear Z a; intro a Z
   refine g_ob Z (p := ((((((t_2.1.length : Int) == 0) && (t_2.2 == t.2)) && ((t_3.1.length : Int) == 0)) && (t_3.2 == t.2)) && ((t_4.1.length : Int) == 0))) (v := .int .i64 t_4.2) (S' := [(17, .int .i64 t_4.2)]) rfl rfl rfl (wantB_t _) rfl (by decide) (fun hp hS => hS.sub (ts := [17]) rfl) (fun hp => Ob_c tAdWAgain rfl) ?_; clear Z a; intro a Z
   refine g_ob Z (p := ((((((t_2.1.length : Int) == 0) && (t_2.2 == t.2)) && ((t_3.1.length : Int) == 0)) && (t_3.2 == t.2)) && ((t_4.1.length : Int) == 0))) (v := v1_own) (S' := [(0, v1_own)]) rfl rfl rfl (wantB_t _) rfl (by decide) (fun hp hS => hS.sub (ts := [0]) rfl) (fun hp => Ob_c tAdWAgain rfl) ?_; clear Z a; intro a Z
   refine g_ob Z (p := ((((((t_2.1.length : Int) == 0) && (t_2.2 == t.2)) && ((t_3.1.length : Int) == 0)) && (t_3.2 == t.2)) && ((t_4.1.length : Int) == 0))) (v := .int .i64 (own.length : Int)) (S' := [(110, v1_own)]) rfl rfl rfl (wantB_t _) rfl (by decide) (fun hp hS => (hS.conv (t := 110) rfl (cond_t hp)).sub (ts := [110]) rfl) (fun hp => Ob_slen tAdWAgain rfl rfl rfl (H.slshape 6 rfl)) ?_; clear Z a; intro a Z
   refine g_ob Z (p := ((((((t_2.1.length : Int) == 0) && (t_2.2 == t.2)) && ((t_3.1.length : Int) == 0)) && (t_3.2 == t.2)) && ((t_4.1.length : Int) == 0))) (v := .bool (t_4.2 == (own.length : Int))) (S' := [(109, .int .i64 t_4.2), (111, .int .i64 (own.length : Int))]) rfl rfl rfl (wantB_t _) rfl (by decide) (fun hp hS => ((hS.conv (t := 109) rfl (cond_t hp)).conv (t := 111) rfl (cond_t hp)).sub (ts := [109, 111]) rfl) (fun hp => Ob_c tAdWAgain rfl) ?_; clear Z a; intro a Z
   refine s_ob Z (v := .bool (((((((t_2.1.length : Int) == 0) && (t_2.2 == t.2)) && ((t_3.1.length : Int) == 0)) && (t_3.2 == t.2)) && ((t_4.1.length : Int) == 0)) && (t_4.2 == (own.length : Int)))) rfl rfl (by decide) rfl (Ob_pick rfl rfl rfl rfl (pick_and _ _)) ?_; clear Z a; intro a Z
   refine s_runk tAdWAgain Z 1 rfl rfl ?_; clear Z a; intro a Z
   refine g_call Z (p := (((((((t_2.1.length : Int) == 0) && (t_2.2 == t.2)) && ((t_3.1.length : Int) == 0)) && (t_3.2 == t.2)) && ((t_4.1.length : Int) == 0)) && (t_4.2 == (own.length : Int)))) (v := .bool a0_2) (S' := []) (caps := #[]) fn_8_YAdWAgain rfl rfl rfl (wantB_t _) rfl (by decide) (fun hp hS => hS.sub (ts := []) rfl) rfl rfl rfl rfl (fun hp => (have hq := c_law18_awake (gif_in hx11 hp) ((H).pick0 (js := []) rfl rfl); plainC hq)) ?_; clear Z a; intro a w11 hb Z
   replace H : Hf I D w I7 w11 [SlC NENote q5 t_4.1, SlC NENote q4 t_3.1, SlC NEEntry (subV v2_other ((from_.tmod ((other.length : Int) + 1)).toNat) other.length 4) (other.drop ((from_.tmod ((other.length : Int) + 1)).toNat)), SlC NENote q3 t_2.1, SlC NEEntry q2 l.1, SlC NENote q1 t.1, SlC NEEntry v1_own own, SlC NEEntry v2_other other] := H.blw hb
   clear hb
   refine s_ob Z (v := .bool ((((((((t_2.1.length : Int) == 0) && (t_2.2 == t.2)) && ((t_3.1.length : Int) == 0)) && (t_3.2 == t.2)) && ((t_4.1.length : Int) == 0)) && (t_4.2 == (own.length : Int))) && a0_2)) rfl rfl (by decide) rfl (Ob_pick rfl rfl rfl rfl (pick_and _ _)) ?_; clear Z a; intro a Z
   refine s_runk tAdWAgain Z 1 rfl rfl ?_; clear Z a; intro a Z
   refine s_end Z [6] rfl ?_; clear Z; intro Z
   refine p_then (wp_ret ?_)
   obtain rfl := some_in hF
   exact f_ret Z (run_results1 rfl Z rfl) ⟨rfl, I7, (H.sub [] rfl).eq rfl⟩

end Go.Proofs.Ytdofpehcojboeaa
