/- Adopting: the law AdoptPlays walked. -/
import Derived.Test.YtdofpehcojboeaaYAd6
namespace Go.Proofs.Ytdofpehcojboeaa
open Go.RowKit
def tAdWPlaysL : TabL := ⟨[], [], [], [(22, (34, 4))], [(34, (4, true))]⟩

def tAdWPlays : Tab Try.prog := ⟨tAdWPlaysL, by kernel_rfl⟩

theorem fn_7_YAdWPlays : IsFn Try.prog 7 := ⟨_, Try.func7, by kernel_rfl, by kernel_rfl⟩

theorem fn_8_YAdWPlays : IsFn Try.prog 8 := ⟨_, Try.func8, by kernel_rfl, by kernel_rfl⟩

theorem fn_9_YAdWPlays : IsFn Try.prog 9 := ⟨_, Try.func9, by kernel_rfl, by kernel_rfl⟩

theorem fn_10_YAdWPlays : IsFn Try.prog 10 := ⟨_, Try.func10, by kernel_rfl, by kernel_rfl⟩

theorem fn_11_YAdWPlays : IsFn Try.prog 11 := ⟨_, Try.func11, by kernel_rfl, by kernel_rfl⟩

theorem fn_12_YAdWPlays : IsFn Try.prog 12 := ⟨_, Try.func12, by kernel_rfl, by kernel_rfl⟩

theorem fn_13_YAdWPlays : IsFn Try.prog 13 := ⟨_, Try.func13, by kernel_rfl, by kernel_rfl⟩

theorem fn_14_YAdWPlays : IsFn Try.prog 14 := ⟨_, Try.func14, by kernel_rfl, by kernel_rfl⟩

theorem fn_15_YAdWPlays : IsFn Try.prog 15 := ⟨_, Try.func15, by kernel_rfl, by kernel_rfl⟩

theorem fn_16_YAdWPlays : IsFn Try.prog 16 := ⟨_, Try.func16, by kernel_rfl, by kernel_rfl⟩

def F_law18_AdoptPlays_l1 (own : List EEntry) (other : List EEntry) (good : Int) (t : (List ENote) × Int) (t_2 : (List ENote) × Int) (rc : (Bool × Int) → Option Bool) (sg : Bool × Int) : Option Bool := match sg with | (ok, i) => if (decide (i < (other.length : Int))) = true then (if (ok) = true then (chk ((0 : Int) ≤ i ∧ i < (other.length : Int)) ((F_adopt_One own good ({ (other.getD (i).toNat default) with batch := ({ client := ((other.getD (i).toNat default).batch).client, req := ((other.getD (i).toNat default).batch).req, ops := ((other.getD (i).toNat default).batch).ops } : EBatch) } : EEntry)).bind fun o => (chk ((0 : Int) ≤ i ∧ i < (other.length : Int)) ((F_ref18_One own good ({ (other.getD (i).toNat default) with batch := ({ client := ((other.getD (i).toNat default).batch).client, req := ((other.getD (i).toNat default).batch).req, ops := ((other.getD (i).toNat default).batch).ops } : EBatch) } : EEntry)).bind fun o_2 => ((F_ref08_Same o o_2).bind fun s0 => (chk (inI (i + 1)) (rc (s0, i + 1)))))))) else (chk (inI (i + 1)) (rc (false, i + 1)))) else ((gif ok (F_law18_notes t.1 t_2.1) default).bind fun n0 => ((gif ((ok && n0) && (t.2 == t_2.2)) (F_adopt_Base own other) default).bind fun b => ((gif ((ok && n0) && (t.2 == t_2.2)) (F_ref18_Base own other) default).bind fun b_2 => ((gif (((ok && n0) && (t.2 == t_2.2)) && (b == b_2)) (F_law18_awake) default).bind fun a0_2 => (some ((((ok && n0) && (t.2 == t_2.2)) && (b == b_2)) && a0_2))))))

def F_law18_AdoptPlays (own : List EEntry) (other : List EEntry) (good : Int) (from_ : Int) : Option Bool := (F_law08_Much own).bind fun m => ((gif (!(decide (m > 80))) (F_law08_Much other) default).bind fun m_2 => (if (((decide (m > 80)) || (decide (m_2 > 80))) || (decide (from_ > 1000))) = true then ((F_law18_awake).bind fun a0 => (some a0)) else ((F_adopt_Take own good from_ other).bind fun t => ((F_ref18_Take own good from_ other).bind fun t_2 => (iter (F_law18_AdoptPlays_l1 own other good t t_2) FU (true, 0))))))

set_option maxHeartbeats 1000000 in
theorem c_law18_AdoptPlays {I D : Dm} {own : List EEntry} {v1_own : Value} {other : List EEntry} {v2_other : Value} {good : Int} {from_ : Int} {w : World} {rr : Bool} (hF : F_law18_AdoptPlays own other good from_ = some rr) (H : St I D w [SlC NEEntry v1_own own, SlC NEEntry v2_other other]) :
  Calls Try.prog 3 #[v1_own, v2_other, .int .i64 good, .int .i64 from_] w (Ret fun vv w' => vv = .bool rr ∧ ∃ I', Hf I D w I' w' []) := by
 replace H := H.hf
 unfold F_law18_AdoptPlays at hF
 refine f_enter 91 Try.func3 rfl rfl (Nat.le_of_ble_eq_true rfl) fun a Z => ?_
 replace Z := Z.sub (ts := [0, 1, 2, 3]) rfl
 refine wp_seq (f_region Z ?_); clear Z; intro Z
 refine s_runk tAdWPlays Z 1 rfl rfl ?_; clear Z a; intro a Z
 refine s_end Z [0, 1, 2, 3, 8] rfl ?_; clear Z; intro Z
 refine p_then (wp_seq ?_)
 refine wp_seq ?_
 obtain ⟨m, hx1, hF⟩ := bnd_in hF
 obtain ⟨m_2, hx2, hF⟩ := bnd_in hF
 refine f_region Z ?_; clear Z; intro Z
 refine s_runk tAdWPlays Z 1 rfl rfl ?_; clear Z a; intro a Z
 refine h_call Z H (js := [(0, true)]) rfl (caps := #[]) fn_7_YAdWPlays rfl rfl rfl rfl rfl (by decide) rfl rfl (fun D1 hS => have hq := c_law08_Much hx1 hS; hq) ?_; clear Z a; intro vv a w1 D2 hr hF2 Z
 obtain ⟨rfl, I1, K⟩ := hr
 have H : Hf I D w I1 w1 [SlC NEEntry v1_own own, SlC NEEntry v2_other other] := hF2 K
 clear hF2 K
 refine s_runk tAdWPlays Z 2 rfl rfl ?_; clear Z a; intro a Z
 refine g_ob Z (p := (!(decide (m > 80)))) (v := v2_other) (S' := [(1, v2_other)]) rfl rfl rfl (wantB_f _) rfl (by decide) (fun hp hS => hS.sub (ts := [1]) rfl) (fun hp => Ob_c tAdWPlays rfl) ?_; clear Z a; intro a Z
 refine g_call Z (p := (!(decide (m > 80)))) (v := .int .i64 m_2) (S' := [(19, v2_other)]) (caps := #[]) fn_7_YAdWPlays rfl rfl rfl (wantB_f _) rfl (by decide) (fun hp hS => (hS.conv (t := 19) rfl (cond_t hp)).sub (ts := [19]) rfl) rfl rfl rfl rfl (fun hp => (have hq := c_law08_Much (gif_in hx2 hp) ((H).pick0 (js := [(1, true)]) rfl rfl); plainC hq)) ?_; clear Z a; intro a w2 hb Z
 replace H : Hf I D w I1 w2 [SlC NEEntry v1_own own, SlC NEEntry v2_other other] := H.blw hb
 clear hb
 refine g_ob Z (p := (!(decide (m > 80)))) (v := .bool (decide (m_2 > 80))) (S' := [(20, .int .i64 m_2)]) rfl rfl rfl (wantB_f _) rfl (by decide) (fun hp hS => (hS.conv (t := 20) rfl (cond_t hp)).sub (ts := [20]) rfl) (fun hp => Ob_c tAdWPlays rfl) ?_; clear Z a; intro a Z
 refine s_ob Z (v := .bool ((decide (m > 80)) || (decide (m_2 > 80)))) rfl rfl (by decide) rfl (Ob_pick rfl rfl rfl rfl (pick_or _ _)) ?_; clear Z a; intro a Z
 refine s_runk tAdWPlays Z 1 rfl rfl ?_; clear Z a; intro a Z
 refine g_ob Z (p := (!((decide (m > 80)) || (decide (m_2 > 80))))) (v := .int .i64 from_) (S' := [(3, .int .i64 from_)]) rfl rfl rfl (wantB_f _) rfl (by decide) (fun hp hS => hS.sub (ts := [3]) rfl) (fun hp => Ob_c tAdWPlays rfl) ?_; clear Z a; intro a Z
 refine g_ob Z (p := (!((decide (m > 80)) || (decide (m_2 > 80))))) (v := .bool (decide (from_ > 1000))) (S' := [(24, .int .i64 from_)]) rfl rfl rfl (wantB_f _) rfl (by decide) (fun hp hS => (hS.conv (t := 24) rfl (cond_t hp)).sub (ts := [24]) rfl) (fun hp => Ob_c tAdWPlays rfl) ?_; clear Z a; intro a Z
 refine s_ob Z (v := .bool (((decide (m > 80)) || (decide (m_2 > 80))) || (decide (from_ > 1000)))) rfl rfl (by decide) rfl (Ob_pick rfl rfl rfl rfl (pick_or _ _)) ?_; clear Z a; intro a Z
 refine s_end Z [0, 1, 2, 3, 8, 26] rfl ?_; clear Z; intro Z
 refine p_then ?_
 refine f_cond Z rfl (fun hc1 => ?_) (fun hc1 => ?_)
 ·replace hF := ite_t hc1 hF
  refine wp_seq ?_
  obtain ⟨a0, hx3, hF⟩ := bnd_in hF
  refine f_region Z ?_; clear Z; intro Z
  refine h_call Z H (js := []) rfl (caps := #[]) fn_8_YAdWPlays rfl rfl rfl rfl rfl (by decide) rfl rfl (fun D1 hS => have hq := c_law18_awake hx3 hS; hq) ?_; clear Z a; intro vv a w3 D2 hr hF2 Z
  obtain ⟨rfl, I2, K⟩ := hr
  have H : Hf I D w I2 w3 [SlC NEEntry v1_own own, SlC NEEntry v2_other other] := hF2 K
  clear hF2 K
  refine s_runk tAdWPlays Z 1 rfl rfl ?_; clear Z a; intro a Z
  refine s_end Z [0, 1, 2, 3, 8] rfl ?_; clear Z; intro Z
  refine p_then (wp_ret ?_)
  refine p_then_r ?_
  obtain rfl := some_in hF
  exact f_ret Z (run_results1 rfl Z rfl) ⟨rfl, I2, (H.sub [] rfl).eq rfl⟩
 ·replace hF := ite_f hc1 hF
  refine wp_skip ?_
  refine p_then (wp_seq ?_)
  obtain ⟨t, hx4, hF⟩ := bnd_in hF
  refine f_region Z ?_; clear Z; intro Z
  refine s_runk tAdWPlays Z 4 rfl rfl ?_; clear Z a; intro a Z
  refine h_call Z H (js := [(0, true), (1, true)]) rfl (caps := #[]) fn_9_YAdWPlays rfl rfl rfl rfl rfl (by decide) rfl rfl (fun D1 hS => have hq := c_adopt_Take hx4 hS; hq) ?_; clear Z a; intro vv a w4 D2 hr hF2 Z
  obtain ⟨q1, rfl, I3, K⟩ := hr
  have H : Hf I D w I3 w4 [SlC NENote q1 t.1, SlC NEEntry v1_own own, SlC NEEntry v2_other other] := hF2 K
  clear hF2 K
  refine s_runk tAdWPlays Z 5 rfl rfl ?_; clear Z a; intro a Z
  refine s_end Z [0, 1, 2, 3, 8, 9, 10] rfl ?_; clear Z; intro Z
  refine p_then (wp_seq ?_)
  obtain ⟨t_2, hx5, hF⟩ := bnd_in hF
  refine f_region Z ?_; clear Z; intro Z
  refine s_runk tAdWPlays Z 4 rfl rfl ?_; clear Z a; intro a Z
  refine h_call Z H (js := [(1, true), (2, true)]) rfl (caps := #[]) fn_10_YAdWPlays rfl rfl rfl rfl rfl (by decide) rfl rfl (fun D1 hS => have hq := c_ref18_Take hx5 hS; hq) ?_; clear Z a; intro vv a w5 D2 hr hF2 Z
  obtain ⟨q2, rfl, I4, K⟩ := hr
  have H : Hf I D w I4 w5 [SlC NENote q2 t_2.1, SlC NENote q1 t.1, SlC NEEntry v1_own own, SlC NEEntry v2_other other] := hF2 K
  clear hF2 K
  refine s_runk tAdWPlays Z 5 rfl rfl ?_; clear Z a; intro a Z
  refine s_end Z [0, 1, 2, 8, 9, 10, 11, 12] rfl ?_; clear Z; intro Z
  refine p_then (wp_seq (f_region Z ?_)); clear Z; intro Z
  refine s_runk tAdWPlays Z 1 rfl rfl ?_; clear Z a; intro a Z
  refine s_end Z [0, 1, 2, 8, 9, 10, 11, 12, 13] rfl ?_; clear Z; intro Z
  refine p_then (wp_seq ?_)
  refine wp_seq (f_region Z ?_); clear Z; intro Z
  refine s_runk tAdWPlays Z 1 rfl rfl ?_; clear Z a; intro a Z
  refine s_end Z [0, 1, 2, 8, 9, 10, 11, 12, 13, 14] rfl ?_; clear Z; intro Z
  refine p_then (wp_block ?_)
  refine f_iter hF (fun sg a' w' => match sg with | (ok, i) => Sl 91 [(0, v1_own), (1, v2_other), (2, .int .i64 good), (8, .bool false), (9, q1), (10, .int .i64 t.2), (11, q2), (12, .int .i64 t_2.2), (13, .bool ok), (14, .int .i64 i)] a' ∧ ∃ I2, Hf I D w I2 w' [SlC NENote q2 t_2.1, SlC NENote q1 t.1, SlC NEEntry v1_own own, SlC NEEntry v2_other other]) ⟨Z.sub (ts := [0, 1, 2, 8, 9, 10, 11, 12, 13, 14]) rfl, ⟨I4, (H.sub [(0, true), (1, true), (2, true), (3, true)] rfl).eq rfl⟩⟩ ?_
  clear Z H hF a
  rintro rc ⟨ok, i⟩ a w6 ⟨Z, I5, H⟩ hF
  unfold F_law18_AdoptPlays_l1 at hF
  try dsimp only at hF
  refine wp_seq ?_
  refine wp_seq (f_region Z ?_); clear Z; intro Z
  refine s_runk tAdWPlays Z 2 rfl rfl ?_; clear Z a; intro a Z
  refine s_ob Z (v := .int .i64 (other.length : Int)) rfl rfl (by decide) rfl (Ob_slen tAdWPlays rfl rfl rfl (H.slshape 3 rfl)) ?_; clear Z a; intro a Z
  refine s_runk tAdWPlays Z 1 rfl rfl ?_; clear Z a; intro a Z
  refine s_end Z [0, 1, 2, 8, 9, 10, 11, 12, 13, 14, 44, 45, 46, 47] rfl ?_; clear Z; intro Z
  refine p_then ?_
  refine f_cond Z rfl (fun hc2 => ?_) (fun hc2 => ?_)
  ·replace hF := ite_t hc2 hF
   refine wp_skip ?_
   refine p_then (wp_seq ?_)
   refine wp_block ?_
   refine bsplit (ok) (fun hb1 => ?_) (fun hb1 => ?_)
   ·replace hF := ite_t hb1 hF
    obtain ⟨hg1, hF⟩ := chk_in hF
    obtain ⟨_, ⟨u1, rfl, L1⟩, H⟩ := H.elG 3 rfl (i) (NEEntry.dft _ _)
    replace H := H.addsl L1
    replace H : Hf I D w I5 w6 [SlC NEOp u1 (((other.getD (i).toNat default).batch).ops), AtG ((0 : Int) ≤ i ∧ i < (other.length : Int)) (blkOf v2_other) (oofOf v2_other + (i).toNat * 4) [.int .i64 (((other.getD (i).toNat default).batch).client), .int .i64 (((other.getD (i).toNat default).batch).req), u1, .int .u64 ((other.getD (i).toNat default).ts)], SlC NENote q2 t_2.1, SlC NENote q1 t.1, SlC NEEntry v1_own own, SlC NEEntry v2_other other] := H
    obtain ⟨o, hx6, hF⟩ := bnd_in hF
    obtain ⟨hg2, hF⟩ := chk_in hF
    obtain ⟨o_2, hx7, hF⟩ := bnd_in hF
    obtain ⟨s0, hx8, hF⟩ := bnd_in hF
    refine f_regionU Z (by kernel_rfl) (by kernel_rfl) (by decide) (by decide) [8, 15] [(0, [0]), (1, [0]), (3, [0]), (3, [0]), (3, [0]), (3, [0]), (51, [0]), (115, [0]), (255, [0]), (3, [0, 1]), (3, [0, 1]), (3, [0, 1]), (3, [0, 1]), (6147, [0, 1]), (14339, [0, 1]), (32767, [1]), (65535, [3]), (131071, [3]), (262143, [3])] (by kernel_rfl) (fun jj => jj) (by kernel_rfl) (fun jj rv vv => cond (Nat.blt jj 9) (cond (Nat.blt jj 4) (cond (Nat.blt jj 2) (cond (Nat.blt jj 1) (vv = .bool true) (vv = .bool true)) (cond (Nat.blt jj 3) (vv = v1_own) (vv = .int .i64 good))) (cond (Nat.blt jj 6) (cond (Nat.blt jj 5) (vv = v2_other) (vv = .int .i64 i)) (cond (Nat.blt jj 7) (vv = .pointer (some ⟨blkOf v2_other, oofOf v2_other + (i).toNat * 4, none⟩)) (cond (Nat.blt jj 8) (vv = .agg #[.int .i64 (((other.getD (i).toNat default).batch).client), .int .i64 (((other.getD (i).toNat default).batch).req), u1, .int .u64 ((other.getD (i).toNat default).ts)]) (vv = .agg #[.int .i64 o.batch.client, .int .i64 o.batch.req, (aggAt vv 2), .int .u64 o.ts]))))) (cond (Nat.blt jj 14) (cond (Nat.blt jj 11) (cond (Nat.blt jj 10) (vv = v1_own) (vv = .int .i64 good)) (cond (Nat.blt jj 12) (vv = v2_other) (cond (Nat.blt jj 13) (vv = .int .i64 i) (vv = .pointer (some ⟨blkOf v2_other, oofOf v2_other + (i).toNat * 4, none⟩))))) (cond (Nat.blt jj 16) (cond (Nat.blt jj 15) (vv = .agg #[.int .i64 (((other.getD (i).toNat default).batch).client), .int .i64 (((other.getD (i).toNat default).batch).req), u1, .int .u64 ((other.getD (i).toNat default).ts)]) (vv = .agg #[.int .i64 o_2.batch.client, .int .i64 o_2.batch.req, (aggAt vv 2), .int .u64 o_2.ts])) (cond (Nat.blt jj 17) (vv = .bool s0) (cond (Nat.blt jj 18) (vv = .bool s0) (vv = .bool s0)))))) (fun ss vals1 xw => match ss with | 0 => Gx I D w I5 w6 xw [SlC NEOp u1 (((other.getD (i).toNat default).batch).ops), AtG ((0 : Int) ≤ i ∧ i < (other.length : Int)) (blkOf v2_other) (oofOf v2_other + (i).toNat * 4) [.int .i64 (((other.getD (i).toNat default).batch).client), .int .i64 (((other.getD (i).toNat default).batch).req), u1, .int .u64 ((other.getD (i).toNat default).ts)], SlC NENote q2 t_2.1, SlC NENote q1 t.1, SlC NEEntry v1_own own, SlC NEEntry v2_other other] | 1 => Gx I D w I5 w6 xw [SlC NEOp (aggAt (vals1 8) 2) o.batch.ops, SlC NEOp u1 (((other.getD (i).toNat default).batch).ops), AtG ((0 : Int) ≤ i ∧ i < (other.length : Int)) (blkOf v2_other) (oofOf v2_other + (i).toNat * 4) [.int .i64 (((other.getD (i).toNat default).batch).client), .int .i64 (((other.getD (i).toNat default).batch).req), u1, .int .u64 ((other.getD (i).toNat default).ts)], SlC NENote q2 t_2.1, SlC NENote q1 t.1, SlC NEEntry v1_own own, SlC NEEntry v2_other other] | _ => Gx I D w I5 w6 xw [SlC NEOp (aggAt (vals1 15) 2) o_2.batch.ops, SlC NEOp (aggAt (vals1 8) 2) o.batch.ops, SlC NEOp u1 (((other.getD (i).toNat default).batch).ops), AtG ((0 : Int) ≤ i ∧ i < (other.length : Int)) (blkOf v2_other) (oofOf v2_other + (i).toNat * 4) [.int .i64 (((other.getD (i).toNat default).batch).client), .int .i64 (((other.getD (i).toNat default).batch).req), u1, .int .u64 ((other.getD (i).toNat default).ts)], SlC NENote q2 t_2.1, SlC NENote q1 t.1, SlC NEEntry v1_own own, SlC NEEntry v2_other other]) (fun _ => Gx.start H) ?_ ?_
    ·intro fr hfr hfe
     refine .cons (fun ss hs vals1 xw hG hV hU => ?_) ?_
     ·obtain rfl : ss = 0 := by simpa using hs
      rw [← hfe]
      have hS := (hfr vals1).sub (ts := [13]) (S' := [(13, vals1 18)]) rfl
      replace hS := hS.conv (t := 13) rfl (show vals1 18 = .bool ok from (hU 18 rfl).trans (orig_at Z rfl rfl))
      exact L_val hS rfl (Ob_bc (Ob_c tAdWPlays rfl) hb1) ⟨rfl, hG⟩
     refine .cons (fun ss hs vals1 xw hG hV hU => ?_) ?_
     ·obtain rfl : ss = 0 := by simpa using hs
      rw [← hfe]
      have hS := (hfr vals1).sub (ts := [50]) (S' := [(50, vals1 0)]) rfl
      replace hS := hS.conv (t := 50) rfl (show (vals1 0) = .bool true from hV 0 (by decide))
      exact L_val hS rfl (Ob_c tAdWPlays rfl) ⟨rfl, hG⟩
     refine .cons (fun ss hs vals1 xw hG hV hU => ?_) ?_
     ·obtain rfl : ss = 0 := by simpa using hs
      rw [← hfe]
      have hS := (hfr vals1).sub (ts := [51, 0]) (S' := [(51, vals1 1), (0, v1_own)]) rfl
      replace hS := hS.conv (t := 51) rfl (show (vals1 1) = .bool true from hV 1 (by decide))
      refine L_gw (p := true) hS rfl rfl rfl rfl (fun _ => ?_) (fun h => by cases h)
      exact L_val hS rfl (Ob_c tAdWPlays rfl) ⟨rfl, hG⟩
     refine .cons (fun ss hs vals1 xw hG hV hU => ?_) ?_
     ·obtain rfl : ss = 0 := by simpa using hs
      rw [← hfe]
      have hS := (hfr vals1).sub (ts := [51, 2]) (S' := [(51, vals1 1), (2, .int .i64 good)]) rfl
      replace hS := hS.conv (t := 51) rfl (show (vals1 1) = .bool true from hV 1 (by decide))
      refine L_gw (p := true) hS rfl rfl rfl rfl (fun _ => ?_) (fun h => by cases h)
      exact L_val hS rfl (Ob_c tAdWPlays rfl) ⟨rfl, hG⟩
     refine .cons (fun ss hs vals1 xw hG hV hU => ?_) ?_
     ·obtain rfl : ss = 0 := by simpa using hs
      rw [← hfe]
      have hS := (hfr vals1).sub (ts := [51, 1]) (S' := [(51, vals1 1), (1, v2_other)]) rfl
      replace hS := hS.conv (t := 51) rfl (show (vals1 1) = .bool true from hV 1 (by decide))
      refine L_gw (p := true) hS rfl rfl rfl rfl (fun _ => ?_) (fun h => by cases h)
      exact L_val hS rfl (Ob_c tAdWPlays rfl) ⟨rfl, hG⟩
     refine .cons (fun ss hs vals1 xw hG hV hU => ?_) ?_
     ·obtain rfl : ss = 0 := by simpa using hs
      rw [← hfe]
      have hS := (hfr vals1).sub (ts := [51, 14]) (S' := [(51, vals1 1), (14, .int .i64 i)]) rfl
      replace hS := hS.conv (t := 51) rfl (show (vals1 1) = .bool true from hV 1 (by decide))
      refine L_gw (p := true) hS rfl rfl rfl rfl (fun _ => ?_) (fun h => by cases h)
      exact L_val hS rfl (Ob_c tAdWPlays rfl) ⟨rfl, hG⟩
     refine .cons (fun ss hs vals1 xw hG hV hU => ?_) ?_
     ·obtain rfl : ss = 0 := by simpa using hs
      rw [← hfe]
      have hS := (hfr vals1).sub (ts := [54, 55, 51]) (S' := [(54, vals1 4), (55, vals1 5), (51, vals1 1)]) rfl
      replace hS := hS.conv (t := 54) rfl (show (vals1 4) = v2_other from hV 4 (by decide))
      replace hS := hS.conv (t := 55) rfl (show (vals1 5) = .int .i64 i from hV 5 (by decide))
      replace hS := hS.conv (t := 51) rfl (show (vals1 1) = .bool true from hV 1 (by decide))
      refine L_gw (p := true) hS rfl rfl rfl rfl (fun _ => ?_) (fun h => by cases h)
      obtain ⟨I2, hI2, H⟩ := Gx.ex hG
      exact L_val hS rfl (Ob_sidx tAdWPlays rfl rfl rfl rfl (slPl (H.sl 5 rfl) hg1) hg1) ⟨rfl, hG⟩
     refine .cons (fun ss hs vals1 xw hG hV hU => ?_) ?_
     ·obtain rfl : ss = 0 := by simpa using hs
      rw [← hfe]
      have hS := (hfr vals1).sub (ts := [56, 51]) (S' := [(56, vals1 6), (51, vals1 1)]) rfl
      replace hS := hS.conv (t := 56) rfl (show (vals1 6) = .pointer (some ⟨blkOf v2_other, oofOf v2_other + (i).toNat * 4, none⟩) from hV 6 (by decide))
      replace hS := hS.conv (t := 51) rfl (show (vals1 1) = .bool true from hV 1 (by decide))
      refine L_gw (p := true) hS rfl rfl rfl rfl (fun _ => ?_) (fun h => by cases h)
      obtain ⟨I2, hI2, H⟩ := Gx.ex hG
      exact L_val hS rfl (Ob_loads tAdWPlays rfl rfl rfl ((H.atg 1 rfl hg1).part 0 rfl)) ⟨rfl, hG⟩
     refine .cons (fun ss hs vals1 xw hG hV hU => ?_) ?_
     ·obtain rfl : ss = 0 := by simpa using hs
      rw [← hfe]
      have hS := (hfr vals1).sub (ts := [52, 53, 57, 51]) (S' := [(52, vals1 2), (53, vals1 3), (57, vals1 7), (51, vals1 1)]) rfl
      replace hS := hS.conv (t := 52) rfl (show (vals1 2) = v1_own from hV 2 (by decide))
      replace hS := hS.conv (t := 53) rfl (show (vals1 3) = .int .i64 good from hV 3 (by decide))
      replace hS := hS.conv (t := 57) rfl (show (vals1 7) = .agg #[.int .i64 (((other.getD (i).toNat default).batch).client), .int .i64 (((other.getD (i).toNat default).batch).req), u1, .int .u64 ((other.getD (i).toNat default).ts)] from hV 7 (by decide))
      replace hS := hS.conv (t := 51) rfl (show (vals1 1) = .bool true from hV 1 (by decide))
      refine L_gw (p := true) hS rfl rfl rfl rfl (fun _ => ?_) (fun h => by cases h)
      obtain ⟨I2, hI2, H⟩ := Gx.ex hG
      refine L_hcall H (js := [(4, true), (0, true)]) rfl (caps := #[]) hS fn_12_YAdWPlays rfl rfl rfl rfl rfl (fun D1 hS => have hq := c_adopt_One hx6 hS; hq) fun _ yw D1 hr hF2 => ?_
      obtain ⟨q0_, rfl, I3, K⟩ := hr
      obtain ⟨hK, H2⟩ := hF2 K
      exact ⟨rfl, Gx.go hG hI2 hK K.imm H2⟩
     refine .cons (fun ss hs vals1 xw hG hV hU => ?_) ?_
     ·obtain rfl | rfl : ss = 0 ∨ ss = 1 := by simpa using hs
      all_goals
      ·rw [← hfe]
       have hS := (hfr vals1).sub (ts := [51, 0]) (S' := [(51, vals1 1), (0, v1_own)]) rfl
       replace hS := hS.conv (t := 51) rfl (show (vals1 1) = .bool true from hV 1 (by decide))
       refine L_gw (p := true) hS rfl rfl rfl rfl (fun _ => ?_) (fun h => by cases h)
       exact L_val hS rfl (Ob_c tAdWPlays rfl) ⟨rfl, hG⟩
     refine .cons (fun ss hs vals1 xw hG hV hU => ?_) ?_
     ·obtain rfl | rfl : ss = 0 ∨ ss = 1 := by simpa using hs
      all_goals
      ·rw [← hfe]
       have hS := (hfr vals1).sub (ts := [51, 2]) (S' := [(51, vals1 1), (2, .int .i64 good)]) rfl
       replace hS := hS.conv (t := 51) rfl (show (vals1 1) = .bool true from hV 1 (by decide))
       refine L_gw (p := true) hS rfl rfl rfl rfl (fun _ => ?_) (fun h => by cases h)
       exact L_val hS rfl (Ob_c tAdWPlays rfl) ⟨rfl, hG⟩
     refine .cons (fun ss hs vals1 xw hG hV hU => ?_) ?_
     ·obtain rfl | rfl : ss = 0 ∨ ss = 1 := by simpa using hs
      all_goals
      ·rw [← hfe]
       have hS := (hfr vals1).sub (ts := [51, 1]) (S' := [(51, vals1 1), (1, v2_other)]) rfl
       replace hS := hS.conv (t := 51) rfl (show (vals1 1) = .bool true from hV 1 (by decide))
       refine L_gw (p := true) hS rfl rfl rfl rfl (fun _ => ?_) (fun h => by cases h)
       exact L_val hS rfl (Ob_c tAdWPlays rfl) ⟨rfl, hG⟩
     refine .cons (fun ss hs vals1 xw hG hV hU => ?_) ?_
     ·obtain rfl | rfl : ss = 0 ∨ ss = 1 := by simpa using hs
      all_goals
      ·rw [← hfe]
       have hS := (hfr vals1).sub (ts := [51, 14]) (S' := [(51, vals1 1), (14, .int .i64 i)]) rfl
       replace hS := hS.conv (t := 51) rfl (show (vals1 1) = .bool true from hV 1 (by decide))
       refine L_gw (p := true) hS rfl rfl rfl rfl (fun _ => ?_) (fun h => by cases h)
       exact L_val hS rfl (Ob_c tAdWPlays rfl) ⟨rfl, hG⟩
     refine .cons (fun ss hs vals1 xw hG hV hU => ?_) ?_
     ·obtain rfl | rfl : ss = 0 ∨ ss = 1 := by simpa using hs
      ·rw [← hfe]
       have hS := (hfr vals1).sub (ts := [61, 62, 51]) (S' := [(61, vals1 11), (62, vals1 12), (51, vals1 1)]) rfl
       replace hS := hS.conv (t := 61) rfl (show (vals1 11) = v2_other from hV 11 (by decide))
       replace hS := hS.conv (t := 62) rfl (show (vals1 12) = .int .i64 i from hV 12 (by decide))
       replace hS := hS.conv (t := 51) rfl (show (vals1 1) = .bool true from hV 1 (by decide))
       refine L_gw (p := true) hS rfl rfl rfl rfl (fun _ => ?_) (fun h => by cases h)
       obtain ⟨I2, hI2, H⟩ := Gx.ex hG
       exact L_val hS rfl (Ob_sidx tAdWPlays rfl rfl rfl rfl (slPl (H.sl 5 rfl) hg2) hg2) ⟨rfl, hG⟩
      ·rw [← hfe]
       have hS := (hfr vals1).sub (ts := [61, 62, 51]) (S' := [(61, vals1 11), (62, vals1 12), (51, vals1 1)]) rfl
       replace hS := hS.conv (t := 61) rfl (show (vals1 11) = v2_other from hV 11 (by decide))
       replace hS := hS.conv (t := 62) rfl (show (vals1 12) = .int .i64 i from hV 12 (by decide))
       replace hS := hS.conv (t := 51) rfl (show (vals1 1) = .bool true from hV 1 (by decide))
       refine L_gw (p := true) hS rfl rfl rfl rfl (fun _ => ?_) (fun h => by cases h)
       obtain ⟨I2, hI2, H⟩ := Gx.ex hG
       exact L_val hS rfl (Ob_sidx tAdWPlays rfl rfl rfl rfl (slPl (H.sl 6 rfl) hg2) hg2) ⟨rfl, hG⟩
     refine .cons (fun ss hs vals1 xw hG hV hU => ?_) ?_
     ·obtain rfl | rfl : ss = 0 ∨ ss = 1 := by simpa using hs
      ·rw [← hfe]
       have hS := (hfr vals1).sub (ts := [63, 51]) (S' := [(63, vals1 13), (51, vals1 1)]) rfl
       replace hS := hS.conv (t := 63) rfl (show (vals1 13) = .pointer (some ⟨blkOf v2_other, oofOf v2_other + (i).toNat * 4, none⟩) from hV 13 (by decide))
       replace hS := hS.conv (t := 51) rfl (show (vals1 1) = .bool true from hV 1 (by decide))
       refine L_gw (p := true) hS rfl rfl rfl rfl (fun _ => ?_) (fun h => by cases h)
       obtain ⟨I2, hI2, H⟩ := Gx.ex hG
       exact L_val hS rfl (Ob_loads tAdWPlays rfl rfl rfl ((H.atg 1 rfl hg2).part 0 rfl)) ⟨rfl, hG⟩
      ·rw [← hfe]
       have hS := (hfr vals1).sub (ts := [63, 51]) (S' := [(63, vals1 13), (51, vals1 1)]) rfl
       replace hS := hS.conv (t := 63) rfl (show (vals1 13) = .pointer (some ⟨blkOf v2_other, oofOf v2_other + (i).toNat * 4, none⟩) from hV 13 (by decide))
       replace hS := hS.conv (t := 51) rfl (show (vals1 1) = .bool true from hV 1 (by decide))
       refine L_gw (p := true) hS rfl rfl rfl rfl (fun _ => ?_) (fun h => by cases h)
       obtain ⟨I2, hI2, H⟩ := Gx.ex hG
       exact L_val hS rfl (Ob_loads tAdWPlays rfl rfl rfl ((H.atg 2 rfl hg2).part 0 rfl)) ⟨rfl, hG⟩
     refine .cons (fun ss hs vals1 xw hG hV hU => ?_) ?_
     ·obtain rfl : ss = 1 := by simpa using hs
      rw [← hfe]
      have hS := (hfr vals1).sub (ts := [59, 60, 64, 51]) (S' := [(59, vals1 9), (60, vals1 10), (64, vals1 14), (51, vals1 1)]) rfl
      replace hS := hS.conv (t := 59) rfl (show (vals1 9) = v1_own from hV 9 (by decide))
      replace hS := hS.conv (t := 60) rfl (show (vals1 10) = .int .i64 good from hV 10 (by decide))
      replace hS := hS.conv (t := 64) rfl (show (vals1 14) = .agg #[.int .i64 (((other.getD (i).toNat default).batch).client), .int .i64 (((other.getD (i).toNat default).batch).req), u1, .int .u64 ((other.getD (i).toNat default).ts)] from hV 14 (by decide))
      replace hS := hS.conv (t := 51) rfl (show (vals1 1) = .bool true from hV 1 (by decide))
      refine L_gw (p := true) hS rfl rfl rfl rfl (fun _ => ?_) (fun h => by cases h)
      obtain ⟨I2, hI2, H⟩ := Gx.ex hG
      refine L_hcall H (js := [(5, true), (1, true)]) rfl (caps := #[]) hS fn_13_YAdWPlays rfl rfl rfl rfl rfl (fun D1 hS => have hq := c_ref18_One hx7 hS; hq) fun _ yw D1 hr hF2 => ?_
      obtain ⟨q0_, rfl, I3, K⟩ := hr
      obtain ⟨hK, H2⟩ := hF2 K
      exact ⟨rfl, Gx.go hG hI2 hK K.imm H2⟩
     refine .cons (fun ss hs vals1 xw hG hV hU => ?_) ?_
     ·obtain rfl : ss = 3 := by simpa using hs
      rw [← hfe]
      have hS := (hfr vals1).sub (ts := [58, 65, 51]) (S' := [(58, vals1 8), (65, vals1 15), (51, vals1 1)]) rfl
      replace hS := hS.conv (t := 58) rfl (show (vals1 8) = .agg #[.int .i64 o.batch.client, .int .i64 o.batch.req, (aggAt (vals1 8) 2), .int .u64 o.ts] from hV 8 (by decide))
      replace hS := hS.conv (t := 65) rfl (show (vals1 15) = .agg #[.int .i64 o_2.batch.client, .int .i64 o_2.batch.req, (aggAt (vals1 15) 2), .int .u64 o_2.ts] from hV 15 (by decide))
      replace hS := hS.conv (t := 51) rfl (show (vals1 1) = .bool true from hV 1 (by decide))
      refine L_gw (p := true) hS rfl rfl rfl rfl (fun _ => ?_) (fun h => by cases h)
      obtain ⟨I2, hI2, H⟩ := Gx.ex hG
      refine L_call (caps := #[]) hS fn_11_YAdWPlays rfl rfl rfl rfl rfl ((have hq := c_ref08_Same hx8 ((H).pick0 (js := [(1, true), (0, true)]) rfl rfl); plainC hq)) fun r yw hr => ?_
      obtain ⟨rfl, hb⟩ := hr
      exact ⟨rfl, Gx.blw hG hb⟩
     refine .cons (fun ss hs vals1 xw hG hV hU => ?_) ?_
     ·obtain rfl : ss = 3 := by simpa using hs
      rw [← hfe]
      have hS := (hfr vals1).sub (ts := [51, 66]) (S' := [(51, vals1 1), (66, vals1 16)]) rfl
      replace hS := hS.conv (t := 51) rfl (show (vals1 1) = .bool true from hV 1 (by decide))
      replace hS := hS.conv (t := 66) rfl (show (vals1 16) = .bool s0 from hV 16 (by decide))
      exact L_val hS rfl (Ob_pick rfl rfl rfl rfl rfl) ⟨rfl, hG⟩
     refine .cons (fun ss hs vals1 xw hG hV hU => ?_) ?_
     ·obtain rfl : ss = 3 := by simpa using hs
      rw [← hfe]
      have hS := (hfr vals1).sub (ts := [67]) (S' := [(67, vals1 17)]) rfl
      replace hS := hS.conv (t := 67) rfl (show (vals1 17) = .bool s0 from hV 17 (by decide))
      exact L_val hS rfl (Ob_c tAdWPlays rfl) ⟨rfl, hG⟩
     exact .nil
    ·intro vals1 a w7 Z hG hV
     replace Z := Z.sub (ts := [0, 1, 2, 8, 9, 10, 11, 12, 13, 14, 44, 45, 46, 47, 50, 51, 52, 53, 54, 55, 56, 57, 58, 59, 60, 61, 62, 63, 64, 65, 66, 67]) (S' := [(0, v1_own), (1, v2_other), (2, .int .i64 good), (8, .bool false), (9, q1), (10, .int .i64 t.2), (11, q2), (12, .int .i64 t_2.2), (13, vals1 18), (14, .int .i64 i), (44, .int .i64 i), (45, v2_other), (46, .int .i64 (other.length : Int)), (47, .bool (decide (i < (other.length : Int)))), (50, vals1 0), (51, vals1 1), (52, vals1 2), (53, vals1 3), (54, vals1 4), (55, vals1 5), (56, vals1 6), (57, vals1 7), (58, vals1 8), (59, vals1 9), (60, vals1 10), (61, vals1 11), (62, vals1 12), (63, vals1 13), (64, vals1 14), (65, vals1 15), (66, vals1 16), (67, vals1 17)]) rfl
     replace Z := Z.conv (t := 13) rfl (show (vals1 18) = .bool s0 from hV 18 (by decide))
     replace Z := Z.conv (t := 50) rfl (show (vals1 0) = .bool true from hV 0 (by decide))
     replace Z := Z.conv (t := 51) rfl (show (vals1 1) = .bool true from hV 1 (by decide))
     replace Z := Z.conv (t := 52) rfl (show (vals1 2) = v1_own from hV 2 (by decide))
     replace Z := Z.conv (t := 53) rfl (show (vals1 3) = .int .i64 good from hV 3 (by decide))
     replace Z := Z.conv (t := 54) rfl (show (vals1 4) = v2_other from hV 4 (by decide))
     replace Z := Z.conv (t := 55) rfl (show (vals1 5) = .int .i64 i from hV 5 (by decide))
     replace Z := Z.conv (t := 56) rfl (show (vals1 6) = .pointer (some ⟨blkOf v2_other, oofOf v2_other + (i).toNat * 4, none⟩) from hV 6 (by decide))
     replace Z := Z.conv (t := 57) rfl (show (vals1 7) = .agg #[.int .i64 (((other.getD (i).toNat default).batch).client), .int .i64 (((other.getD (i).toNat default).batch).req), u1, .int .u64 ((other.getD (i).toNat default).ts)] from hV 7 (by decide))
     replace Z := Z.conv (t := 58) rfl (show (vals1 8) = .agg #[.int .i64 o.batch.client, .int .i64 o.batch.req, (aggAt (vals1 8) 2), .int .u64 o.ts] from hV 8 (by decide))
     replace Z := Z.conv (t := 59) rfl (show (vals1 9) = v1_own from hV 9 (by decide))
     replace Z := Z.conv (t := 60) rfl (show (vals1 10) = .int .i64 good from hV 10 (by decide))
     replace Z := Z.conv (t := 61) rfl (show (vals1 11) = v2_other from hV 11 (by decide))
     replace Z := Z.conv (t := 62) rfl (show (vals1 12) = .int .i64 i from hV 12 (by decide))
     replace Z := Z.conv (t := 63) rfl (show (vals1 13) = .pointer (some ⟨blkOf v2_other, oofOf v2_other + (i).toNat * 4, none⟩) from hV 13 (by decide))
     replace Z := Z.conv (t := 64) rfl (show (vals1 14) = .agg #[.int .i64 (((other.getD (i).toNat default).batch).client), .int .i64 (((other.getD (i).toNat default).batch).req), u1, .int .u64 ((other.getD (i).toNat default).ts)] from hV 14 (by decide))
     replace Z := Z.conv (t := 65) rfl (show (vals1 15) = .agg #[.int .i64 o_2.batch.client, .int .i64 o_2.batch.req, (aggAt (vals1 15) 2), .int .u64 o_2.ts] from hV 15 (by decide))
     replace Z := Z.conv (t := 66) rfl (show (vals1 16) = .bool s0 from hV 16 (by decide))
     replace Z := Z.conv (t := 67) rfl (show (vals1 17) = .bool s0 from hV 17 (by decide))
     obtain ⟨I6, _, H⟩ := Gx.ex hG
     clear hG hV
     replace Z := Z.sub (ts := [0, 1, 2, 8, 9, 10, 11, 12, 13, 14, 44, 45, 46, 47, 50, 51, 52, 53, 54, 55, 56, 57, 58, 59, 60, 61, 62, 63, 64, 65, 66, 67]) rfl
     replace H : Hf I D w I6 w7 [SlC NEOp (aggAt (vals1 15) 2) o_2.batch.ops, SlC NEOp (aggAt (vals1 8) 2) o.batch.ops, SlC NEOp u1 (((other.getD (i).toNat default).batch).ops), AtG ((0 : Int) ≤ i ∧ i < (other.length : Int)) (blkOf v2_other) (oofOf v2_other + (i).toNat * 4) [.int .i64 (((other.getD (i).toNat default).batch).client), .int .i64 (((other.getD (i).toNat default).batch).req), u1, .int .u64 ((other.getD (i).toNat default).ts)], SlC NENote q2 t_2.1, SlC NENote q1 t.1, SlC NEEntry v1_own own, SlC NEEntry v2_other other] := H
     refine p_blk ?_
     refine p_then ?_
     obtain ⟨hg3, hF⟩ := chk_in hF
     refine f_region Z ?_; clear Z; intro Z
     refine s_runk tAdWPlays Z 1 rfl rfl ?_; clear Z a; intro a Z
     refine s_ob Z (v := .int .i64 (i + 1)) rfl rfl (by decide) rfl (Ob_add rfl rfl rfl (wrI hg3)) ?_; clear Z a; intro a Z
     refine s_runk tAdWPlays Z 1 rfl rfl ?_; clear Z a; intro a Z
     refine s_end Z [0, 1, 2, 8, 9, 10, 11, 12, 13, 14, 44, 45, 46, 47, 50, 51, 52, 53, 54, 55, 56, 57, 58, 59, 60, 61, 62, 63, 64, 65, 66, 67, 48, 49] rfl ?_; clear Z; intro Z
     refine p_then ?_
     exact ⟨(s0, i + 1), ⟨Z.sub (ts := [0, 1, 2, 8, 9, 10, 11, 12, 13, 14]) rfl, ⟨I6, (H.sub [(4, true), (5, true), (6, true), (7, true)] rfl).eq rfl⟩⟩, hF⟩
   ·replace hF := ite_f hb1 hF
    refine f_regionU Z (by kernel_rfl) (by kernel_rfl) (by decide) (by decide) [] [(0, [0]), (1, [0]), (3, [0]), (3, [0]), (3, [0]), (3, [0]), (51, [0]), (115, [0]), (255, [0]), (3, [0]), (3, [0]), (3, [0]), (3, [0]), (6147, [0]), (14339, [0]), (32767, [0]), (65535, [0]), (131071, [0]), (262143, [0])] (by kernel_rfl) (fun jj => jj) (by kernel_rfl) (fun jj rv vv => cond (Nat.blt jj 9) (cond (Nat.blt jj 4) (cond (Nat.blt jj 2) (cond (Nat.blt jj 1) (vv = .bool false) (vv = .bool false)) (cond (Nat.blt jj 3) (vv = undef) (vv = undef))) (cond (Nat.blt jj 6) (cond (Nat.blt jj 5) (vv = undef) (vv = undef)) (cond (Nat.blt jj 7) (vv = undef) (cond (Nat.blt jj 8) (vv = undef) (vv = undef))))) (cond (Nat.blt jj 14) (cond (Nat.blt jj 11) (cond (Nat.blt jj 10) (vv = undef) (vv = undef)) (cond (Nat.blt jj 12) (vv = undef) (cond (Nat.blt jj 13) (vv = undef) (vv = undef)))) (cond (Nat.blt jj 16) (cond (Nat.blt jj 15) (vv = undef) (vv = undef)) (cond (Nat.blt jj 17) (vv = undef) (cond (Nat.blt jj 18) (vv = .bool false) (vv = .bool false)))))) (fun ss vals2 xw => match ss with | _ => Gx I D w I5 w6 xw [SlC NENote q2 t_2.1, SlC NENote q1 t.1, SlC NEEntry v1_own own, SlC NEEntry v2_other other]) (fun _ => Gx.start H) ?_ ?_
    ·intro fr hfr hfe
     refine .cons (fun ss hs vals2 xw hG hV hU => ?_) ?_
     ·obtain rfl : ss = 0 := by simpa using hs
      rw [← hfe]
      have hS := (hfr vals2).sub (ts := [13]) (S' := [(13, vals2 18)]) rfl
      replace hS := hS.conv (t := 13) rfl (show vals2 18 = .bool ok from (hU 18 rfl).trans (orig_at Z rfl rfl))
      exact L_val hS rfl (Ob_bc (Ob_c tAdWPlays rfl) hb1) ⟨rfl, hG⟩
     refine .cons (fun ss hs vals2 xw hG hV hU => ?_) ?_
     ·obtain rfl : ss = 0 := by simpa using hs
      rw [← hfe]
      have hS := (hfr vals2).sub (ts := [50]) (S' := [(50, vals2 0)]) rfl
      replace hS := hS.conv (t := 50) rfl (show (vals2 0) = .bool false from hV 0 (by decide))
      exact L_val hS rfl (Ob_c tAdWPlays rfl) ⟨rfl, hG⟩
     refine .cons (fun ss hs vals2 xw hG hV hU => ?_) ?_
     ·obtain rfl : ss = 0 := by simpa using hs
      rw [← hfe]
      have hS := (hfr vals2).sub (ts := [51, 0]) (S' := [(51, vals2 1), (0, v1_own)]) rfl
      replace hS := hS.conv (t := 51) rfl (show (vals2 1) = .bool false from hV 1 (by decide))
      exact L_gw (p := false) hS rfl rfl rfl rfl (fun h => by cases h) (fun _ => ⟨rfl, hG⟩)
     refine .cons (fun ss hs vals2 xw hG hV hU => ?_) ?_
     ·obtain rfl : ss = 0 := by simpa using hs
      rw [← hfe]
      have hS := (hfr vals2).sub (ts := [51, 2]) (S' := [(51, vals2 1), (2, .int .i64 good)]) rfl
      replace hS := hS.conv (t := 51) rfl (show (vals2 1) = .bool false from hV 1 (by decide))
      exact L_gw (p := false) hS rfl rfl rfl rfl (fun h => by cases h) (fun _ => ⟨rfl, hG⟩)
     refine .cons (fun ss hs vals2 xw hG hV hU => ?_) ?_
     ·obtain rfl : ss = 0 := by simpa using hs
      rw [← hfe]
      have hS := (hfr vals2).sub (ts := [51, 1]) (S' := [(51, vals2 1), (1, v2_other)]) rfl
      replace hS := hS.conv (t := 51) rfl (show (vals2 1) = .bool false from hV 1 (by decide))
      exact L_gw (p := false) hS rfl rfl rfl rfl (fun h => by cases h) (fun _ => ⟨rfl, hG⟩)
     refine .cons (fun ss hs vals2 xw hG hV hU => ?_) ?_
     ·obtain rfl : ss = 0 := by simpa using hs
      rw [← hfe]
      have hS := (hfr vals2).sub (ts := [51, 14]) (S' := [(51, vals2 1), (14, .int .i64 i)]) rfl
      replace hS := hS.conv (t := 51) rfl (show (vals2 1) = .bool false from hV 1 (by decide))
      exact L_gw (p := false) hS rfl rfl rfl rfl (fun h => by cases h) (fun _ => ⟨rfl, hG⟩)
     refine .cons (fun ss hs vals2 xw hG hV hU => ?_) ?_
     ·obtain rfl : ss = 0 := by simpa using hs
      rw [← hfe]
      have hS := (hfr vals2).sub (ts := [54, 55, 51]) (S' := [(54, vals2 4), (55, vals2 5), (51, vals2 1)]) rfl
      replace hS := hS.conv (t := 54) rfl (show (vals2 4) = undef from hV 4 (by decide))
      replace hS := hS.conv (t := 55) rfl (show (vals2 5) = undef from hV 5 (by decide))
      replace hS := hS.conv (t := 51) rfl (show (vals2 1) = .bool false from hV 1 (by decide))
      exact L_gw (p := false) hS rfl rfl rfl rfl (fun h => by cases h) (fun _ => ⟨rfl, hG⟩)
     refine .cons (fun ss hs vals2 xw hG hV hU => ?_) ?_
     ·obtain rfl : ss = 0 := by simpa using hs
      rw [← hfe]
      have hS := (hfr vals2).sub (ts := [56, 51]) (S' := [(56, vals2 6), (51, vals2 1)]) rfl
      replace hS := hS.conv (t := 56) rfl (show (vals2 6) = undef from hV 6 (by decide))
      replace hS := hS.conv (t := 51) rfl (show (vals2 1) = .bool false from hV 1 (by decide))
      exact L_gw (p := false) hS rfl rfl rfl rfl (fun h => by cases h) (fun _ => ⟨rfl, hG⟩)
     refine .cons (fun ss hs vals2 xw hG hV hU => ?_) ?_
     ·obtain rfl : ss = 0 := by simpa using hs
      rw [← hfe]
      have hS := (hfr vals2).sub (ts := [52, 53, 57, 51]) (S' := [(52, vals2 2), (53, vals2 3), (57, vals2 7), (51, vals2 1)]) rfl
      replace hS := hS.conv (t := 52) rfl (show (vals2 2) = undef from hV 2 (by decide))
      replace hS := hS.conv (t := 53) rfl (show (vals2 3) = undef from hV 3 (by decide))
      replace hS := hS.conv (t := 57) rfl (show (vals2 7) = undef from hV 7 (by decide))
      replace hS := hS.conv (t := 51) rfl (show (vals2 1) = .bool false from hV 1 (by decide))
      exact L_gw (p := false) hS rfl rfl rfl rfl (fun h => by cases h) (fun _ => ⟨rfl, hG⟩)
     refine .cons (fun ss hs vals2 xw hG hV hU => ?_) ?_
     ·obtain rfl : ss = 0 := by simpa using hs
      rw [← hfe]
      have hS := (hfr vals2).sub (ts := [51, 0]) (S' := [(51, vals2 1), (0, v1_own)]) rfl
      replace hS := hS.conv (t := 51) rfl (show (vals2 1) = .bool false from hV 1 (by decide))
      exact L_gw (p := false) hS rfl rfl rfl rfl (fun h => by cases h) (fun _ => ⟨rfl, hG⟩)
     refine .cons (fun ss hs vals2 xw hG hV hU => ?_) ?_
     ·obtain rfl : ss = 0 := by simpa using hs
      rw [← hfe]
      have hS := (hfr vals2).sub (ts := [51, 2]) (S' := [(51, vals2 1), (2, .int .i64 good)]) rfl
      replace hS := hS.conv (t := 51) rfl (show (vals2 1) = .bool false from hV 1 (by decide))
      exact L_gw (p := false) hS rfl rfl rfl rfl (fun h => by cases h) (fun _ => ⟨rfl, hG⟩)
     refine .cons (fun ss hs vals2 xw hG hV hU => ?_) ?_
     ·obtain rfl : ss = 0 := by simpa using hs
      rw [← hfe]
      have hS := (hfr vals2).sub (ts := [51, 1]) (S' := [(51, vals2 1), (1, v2_other)]) rfl
      replace hS := hS.conv (t := 51) rfl (show (vals2 1) = .bool false from hV 1 (by decide))
      exact L_gw (p := false) hS rfl rfl rfl rfl (fun h => by cases h) (fun _ => ⟨rfl, hG⟩)
     refine .cons (fun ss hs vals2 xw hG hV hU => ?_) ?_
     ·obtain rfl : ss = 0 := by simpa using hs
      rw [← hfe]
      have hS := (hfr vals2).sub (ts := [51, 14]) (S' := [(51, vals2 1), (14, .int .i64 i)]) rfl
      replace hS := hS.conv (t := 51) rfl (show (vals2 1) = .bool false from hV 1 (by decide))
      exact L_gw (p := false) hS rfl rfl rfl rfl (fun h => by cases h) (fun _ => ⟨rfl, hG⟩)
     refine .cons (fun ss hs vals2 xw hG hV hU => ?_) ?_
     ·obtain rfl : ss = 0 := by simpa using hs
      rw [← hfe]
      have hS := (hfr vals2).sub (ts := [61, 62, 51]) (S' := [(61, vals2 11), (62, vals2 12), (51, vals2 1)]) rfl
      replace hS := hS.conv (t := 61) rfl (show (vals2 11) = undef from hV 11 (by decide))
      replace hS := hS.conv (t := 62) rfl (show (vals2 12) = undef from hV 12 (by decide))
      replace hS := hS.conv (t := 51) rfl (show (vals2 1) = .bool false from hV 1 (by decide))
      exact L_gw (p := false) hS rfl rfl rfl rfl (fun h => by cases h) (fun _ => ⟨rfl, hG⟩)
     refine .cons (fun ss hs vals2 xw hG hV hU => ?_) ?_
     ·obtain rfl : ss = 0 := by simpa using hs
      rw [← hfe]
      have hS := (hfr vals2).sub (ts := [63, 51]) (S' := [(63, vals2 13), (51, vals2 1)]) rfl
      replace hS := hS.conv (t := 63) rfl (show (vals2 13) = undef from hV 13 (by decide))
      replace hS := hS.conv (t := 51) rfl (show (vals2 1) = .bool false from hV 1 (by decide))
      exact L_gw (p := false) hS rfl rfl rfl rfl (fun h => by cases h) (fun _ => ⟨rfl, hG⟩)
     refine .cons (fun ss hs vals2 xw hG hV hU => ?_) ?_
     ·obtain rfl : ss = 0 := by simpa using hs
      rw [← hfe]
      have hS := (hfr vals2).sub (ts := [59, 60, 64, 51]) (S' := [(59, vals2 9), (60, vals2 10), (64, vals2 14), (51, vals2 1)]) rfl
      replace hS := hS.conv (t := 59) rfl (show (vals2 9) = undef from hV 9 (by decide))
      replace hS := hS.conv (t := 60) rfl (show (vals2 10) = undef from hV 10 (by decide))
      replace hS := hS.conv (t := 64) rfl (show (vals2 14) = undef from hV 14 (by decide))
      replace hS := hS.conv (t := 51) rfl (show (vals2 1) = .bool false from hV 1 (by decide))
      exact L_gw (p := false) hS rfl rfl rfl rfl (fun h => by cases h) (fun _ => ⟨rfl, hG⟩)
     refine .cons (fun ss hs vals2 xw hG hV hU => ?_) ?_
     ·obtain rfl : ss = 0 := by simpa using hs
      rw [← hfe]
      have hS := (hfr vals2).sub (ts := [58, 65, 51]) (S' := [(58, vals2 8), (65, vals2 15), (51, vals2 1)]) rfl
      replace hS := hS.conv (t := 58) rfl (show (vals2 8) = undef from hV 8 (by decide))
      replace hS := hS.conv (t := 65) rfl (show (vals2 15) = undef from hV 15 (by decide))
      replace hS := hS.conv (t := 51) rfl (show (vals2 1) = .bool false from hV 1 (by decide))
      exact L_gw (p := false) hS rfl rfl rfl rfl (fun h => by cases h) (fun _ => ⟨rfl, hG⟩)
     refine .cons (fun ss hs vals2 xw hG hV hU => ?_) ?_
     ·obtain rfl : ss = 0 := by simpa using hs
      rw [← hfe]
      have hS := (hfr vals2).sub (ts := [51, 66]) (S' := [(51, vals2 1), (66, vals2 16)]) rfl
      replace hS := hS.conv (t := 51) rfl (show (vals2 1) = .bool false from hV 1 (by decide))
      replace hS := hS.conv (t := 66) rfl (show (vals2 16) = undef from hV 16 (by decide))
      exact L_val hS rfl (Ob_pick rfl rfl rfl rfl rfl) ⟨rfl, hG⟩
     refine .cons (fun ss hs vals2 xw hG hV hU => ?_) ?_
     ·obtain rfl : ss = 0 := by simpa using hs
      rw [← hfe]
      have hS := (hfr vals2).sub (ts := [67]) (S' := [(67, vals2 17)]) rfl
      replace hS := hS.conv (t := 67) rfl (show (vals2 17) = .bool false from hV 17 (by decide))
      exact L_val hS rfl (Ob_c tAdWPlays rfl) ⟨rfl, hG⟩
     exact .nil
    ·intro vals2 a w8 Z hG hV
     replace Z := Z.sub (ts := [0, 1, 2, 8, 9, 10, 11, 12, 13, 14, 44, 45, 46, 47, 50, 51, 67]) (S' := [(0, v1_own), (1, v2_other), (2, .int .i64 good), (8, .bool false), (9, q1), (10, .int .i64 t.2), (11, q2), (12, .int .i64 t_2.2), (13, vals2 18), (14, .int .i64 i), (44, .int .i64 i), (45, v2_other), (46, .int .i64 (other.length : Int)), (47, .bool (decide (i < (other.length : Int)))), (50, vals2 0), (51, vals2 1), (67, vals2 17)]) rfl
     replace Z := Z.conv (t := 13) rfl (show (vals2 18) = .bool false from hV 18 (by decide))
     replace Z := Z.conv (t := 50) rfl (show (vals2 0) = .bool false from hV 0 (by decide))
     replace Z := Z.conv (t := 51) rfl (show (vals2 1) = .bool false from hV 1 (by decide))
     replace Z := Z.conv (t := 67) rfl (show (vals2 17) = .bool false from hV 17 (by decide))
     obtain ⟨I7, _, H⟩ := Gx.ex hG
     clear hG hV
     replace Z := Z.sub (ts := [0, 1, 2, 8, 9, 10, 11, 12, 13, 14, 44, 45, 46, 47, 50, 51, 67]) rfl
     replace H : Hf I D w I7 w8 [SlC NENote q2 t_2.1, SlC NENote q1 t.1, SlC NEEntry v1_own own, SlC NEEntry v2_other other] := H
     refine p_blk ?_
     refine p_then ?_
     obtain ⟨hg4, hF⟩ := chk_in hF
     refine f_region Z ?_; clear Z; intro Z
     refine s_runk tAdWPlays Z 1 rfl rfl ?_; clear Z a; intro a Z
     refine s_ob Z (v := .int .i64 (i + 1)) rfl rfl (by decide) rfl (Ob_add rfl rfl rfl (wrI hg4)) ?_; clear Z a; intro a Z
     refine s_runk tAdWPlays Z 1 rfl rfl ?_; clear Z a; intro a Z
     refine s_end Z [0, 1, 2, 8, 9, 10, 11, 12, 13, 14, 44, 45, 46, 47, 50, 51, 67, 48, 49] rfl ?_; clear Z; intro Z
     refine p_then ?_
     exact ⟨(false, i + 1), ⟨Z.sub (ts := [0, 1, 2, 8, 9, 10, 11, 12, 13, 14]) rfl, ⟨I7, (H.sub [(0, true), (1, true), (2, true), (3, true)] rfl).eq rfl⟩⟩, hF⟩
  ·replace hF := ite_f hc2 hF
   refine wp_exit ?_
   refine p_then_x ?_
   refine p_then_x ?_
   refine f_exit_here ?_
   refine p_then (wp_seq ?_)
   obtain ⟨n0, hx9, hF⟩ := bnd_in hF
   obtain ⟨b, hx10, hF⟩ := bnd_in hF
   obtain ⟨b_2, hx11, hF⟩ := bnd_in hF
   obtain ⟨a0_2, hx12, hF⟩ := bnd_in hF
   refine f_region Z ?_; clear Z; intro Z
   refine s_runk tAdWPlays Z 2 rfl rfl ?_; clear Z a; intro a Z
   refine g_ob Z (p := ok) (v := q1) (S' := [(9, q1)]) rfl rfl rfl (wantB_t _) rfl (by decide) (fun hp hS => hS.sub (ts := [9]) rfl) (fun hp => Ob_c tAdWPlays rfl) ?_; clear Z a; intro a Z
   refine g_ob Z (p := ok) (v := q2) (S' := [(11, q2)]) rfl rfl rfl (wantB_t _) rfl (by decide) (fun hp hS => hS.sub (ts := [11]) rfl) (fun hp => Ob_c tAdWPlays rfl) ?_; clear Z a; intro a Z
   refine g_call Z (p := ok) (v := .bool n0) (S' := [(70, q1), (71, q2)]) (caps := #[]) fn_14_YAdWPlays rfl rfl rfl (wantB_t _) rfl (by decide) (fun hp hS => ((hS.conv (t := 70) rfl (cond_t hp)).conv (t := 71) rfl (cond_t hp)).sub (ts := [70, 71]) rfl) rfl rfl rfl rfl (fun hp => (have hq := c_law18_notes (gif_in hx9 hp) ((H).pick0 (js := [(1, true), (0, true)]) rfl rfl); plainC hq)) ?_; clear Z a; intro a w9 hb Z
   replace H : Hf I D w I5 w9 [SlC NENote q2 t_2.1, SlC NENote q1 t.1, SlC NEEntry v1_own own, SlC NEEntry v2_other other] := H.blw hb
   clear hb
   refine s_ob Z (v := .bool (ok && n0)) rfl rfl (by decide) rfl (Ob_pick rfl rfl rfl rfl (pick_and _ _)) ?_; clear Z a; intro a Z
   refine s_runk tAdWPlays Z 1 rfl rfl ?_; clear Z a; intro a Z
   refine g_ob Z (p := (ok && n0)) (v := .int .i64 t.2) (S' := [(10, .int .i64 t.2)]) rfl rfl rfl (wantB_t _) rfl (by decide) (fun hp hS => hS.sub (ts := [10]) rfl) (fun hp => Ob_c tAdWPlays rfl) ?_; clear Z a; intro a Z
   refine g_ob Z (p := (ok && n0)) (v := .int .i64 t_2.2) (S' := [(12, .int .i64 t_2.2)]) rfl rfl rfl (wantB_t _) rfl (by decide) (fun hp hS => hS.sub (ts := [12]) rfl) (fun hp => Ob_c tAdWPlays rfl) ?_; clear Z a; intro a Z
   refine g_ob Z (p := (ok && n0)) (v := .bool (t.2 == t_2.2)) (S' := [(75, .int .i64 t.2), (76, .int .i64 t_2.2)]) rfl rfl rfl (wantB_t _) rfl (by decide) (fun hp hS => ((hS.conv (t := 75) rfl (cond_t hp)).conv (t := 76) rfl (cond_t hp)).sub (ts := [75, 76]) rfl) (fun hp => Ob_c tAdWPlays rfl) ?_; clear Z a; intro a Z
   refine s_ob Z (v := .bool ((ok && n0) && (t.2 == t_2.2))) rfl rfl (by decide) rfl (Ob_pick rfl rfl rfl rfl (pick_and _ _)) ?_; clear Z a; intro a Z
   refine s_runk tAdWPlays Z 1 rfl rfl ?_; clear Z a; intro a Z
   refine g_ob Z (p := ((ok && n0) && (t.2 == t_2.2))) (v := v1_own) (S' := [(0, v1_own)]) rfl rfl rfl (wantB_t _) rfl (by decide) (fun hp hS => hS.sub (ts := [0]) rfl) (fun hp => Ob_c tAdWPlays rfl) ?_; clear Z a; intro a Z
   refine g_ob Z (p := ((ok && n0) && (t.2 == t_2.2))) (v := v2_other) (S' := [(1, v2_other)]) rfl rfl rfl (wantB_t _) rfl (by decide) (fun hp hS => hS.sub (ts := [1]) rfl) (fun hp => Ob_c tAdWPlays rfl) ?_; clear Z a; intro a Z
   refine g_call Z (p := ((ok && n0) && (t.2 == t_2.2))) (v := .int .i64 b) (S' := [(80, v1_own), (81, v2_other)]) (caps := #[]) fn_15_YAdWPlays rfl rfl rfl (wantB_t _) rfl (by decide) (fun hp hS => ((hS.conv (t := 80) rfl (cond_t hp)).conv (t := 81) rfl (cond_t hp)).sub (ts := [80, 81]) rfl) rfl rfl rfl rfl (fun hp => (have hq := c_adopt_Base (gif_in hx10 hp) ((H).pick0 (js := [(2, true), (3, true)]) rfl rfl); plainC hq)) ?_; clear Z a; intro a w10 hb Z
   replace H : Hf I D w I5 w10 [SlC NENote q2 t_2.1, SlC NENote q1 t.1, SlC NEEntry v1_own own, SlC NEEntry v2_other other] := H.blw hb
   clear hb
   refine g_ob Z (p := ((ok && n0) && (t.2 == t_2.2))) (v := v1_own) (S' := [(0, v1_own)]) rfl rfl rfl (wantB_t _) rfl (by decide) (fun hp hS => hS.sub (ts := [0]) rfl) (fun hp => Ob_c tAdWPlays rfl) ?_; clear Z a; intro a Z
   refine g_ob Z (p := ((ok && n0) && (t.2 == t_2.2))) (v := v2_other) (S' := [(1, v2_other)]) rfl rfl rfl (wantB_t _) rfl (by decide) (fun hp hS => hS.sub (ts := [1]) rfl) (fun hp => Ob_c tAdWPlays rfl) ?_; clear Z a; intro a Z
   refine g_call Z (p := ((ok && n0) && (t.2 == t_2.2))) (v := .int .i64 b_2) (S' := [(83, v1_own), (84, v2_other)]) (caps := #[]) fn_16_YAdWPlays rfl rfl rfl (wantB_t _) rfl (by decide) (fun hp hS => ((hS.conv (t := 83) rfl (cond_t hp)).conv (t := 84) rfl (cond_t hp)).sub (ts := [83, 84]) rfl) rfl rfl rfl rfl (fun hp => (have hq := c_ref18_Base (gif_in hx11 hp) ((H).pick0 (js := [(2, true), (3, true)]) rfl rfl); plainC hq)) ?_; clear Z a; intro a w11 hb Z
   replace H : Hf I D w I5 w11 [SlC NENote q2 t_2.1, SlC NENote q1 t.1, SlC NEEntry v1_own own, SlC NEEntry v2_other other] := H.blw hb
   clear hb
   refine g_ob Z (p := ((ok && n0) && (t.2 == t_2.2))) (v := .bool (b == b_2)) (S' := [(82, .int .i64 b), (85, .int .i64 b_2)]) rfl rfl rfl (wantB_t _) rfl (by decide) (fun hp hS => ((hS.conv (t := 82) rfl (cond_t hp)).conv (t := 85) rfl (cond_t hp)).sub (ts := [82, 85]) rfl) (fun hp => Ob_c tAdWPlays rfl) ?_; clear Z a; intro a Z
   refine s_ob Z (v := .bool (((ok && n0) && (t.2 == t_2.2)) && (b == b_2))) rfl rfl (by decide) rfl (Ob_pick rfl rfl rfl rfl (pick_and _ _)) ?_; clear Z a; intro a Z
   refine s_runk tAdWPlays Z 1 rfl rfl ?_; clear Z a; intro a Z
   refine g_call Z (p := (((ok && n0) && (t.2 == t_2.2)) && (b == b_2))) (v := .bool a0_2) (S' := []) (caps := #[]) fn_8_YAdWPlays rfl rfl rfl (wantB_t _) rfl (by decide) (fun hp hS => hS.sub (ts := []) rfl) rfl rfl rfl rfl (fun hp => (have hq := c_law18_awake (gif_in hx12 hp) ((H).pick0 (js := []) rfl rfl); plainC hq)) ?_; clear Z a; intro a w12 hb Z
   replace H : Hf I D w I5 w12 [SlC NENote q2 t_2.1, SlC NENote q1 t.1, SlC NEEntry v1_own own, SlC NEEntry v2_other other] := H.blw hb
   clear hb
   refine s_ob Z (v := .bool ((((ok && n0) && (t.2 == t_2.2)) && (b == b_2)) && a0_2)) rfl rfl (by decide) rfl (Ob_pick rfl rfl rfl rfl (pick_and _ _)) ?_; clear Z a; intro a Z
   refine s_runk tAdWPlays Z 1 rfl rfl ?_; clear Z a; intro a Z
   refine s_end Z [8] rfl ?_; clear Z; intro Z
   refine p_then (wp_ret ?_)
   obtain rfl := some_in hF
   exact f_ret Z (run_results1 rfl Z rfl) ⟨rfl, I5, (H.sub [] rfl).eq rfl⟩

end Go.Proofs.Ytdofpehcojboeaa
