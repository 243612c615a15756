/- Adopting: the law AdoptAgreed walked. -/
import Derived.Test.YtdofpehcojboeaaYAd6
namespace Go.Proofs.Ytdofpehcojboeaa
open Go.RowKit
def tAdWAgreedL : TabL := ⟨[(34817, 3), (55297, 1)], [], [], [(22, (34, 4)), (25, (54, 18))], [(3, (1, false)), (32, (1, false)), (34, (4, true))]⟩

def tAdWAgreed : Tab Try.prog := ⟨tAdWAgreedL, by kernel_rfl⟩

theorem fn_7_YAdWAgreed : IsFn Try.prog 7 := ⟨_, Try.func7, by kernel_rfl, by kernel_rfl⟩

theorem fn_8_YAdWAgreed : IsFn Try.prog 8 := ⟨_, Try.func8, by kernel_rfl, by kernel_rfl⟩

theorem fn_9_YAdWAgreed : IsFn Try.prog 9 := ⟨_, Try.func9, by kernel_rfl, by kernel_rfl⟩

theorem fn_11_YAdWAgreed : IsFn Try.prog 11 := ⟨_, Try.func11, by kernel_rfl, by kernel_rfl⟩

theorem fn_15_YAdWAgreed : IsFn Try.prog 15 := ⟨_, Try.func15, by kernel_rfl, by kernel_rfl⟩

theorem fn_17_YAdWAgreed : IsFn Try.prog 17 := ⟨_, Try.func17, by kernel_rfl, by kernel_rfl⟩

theorem fn_18_YAdWAgreed : IsFn Try.prog 18 := ⟨_, Try.func18, by kernel_rfl, by kernel_rfl⟩

theorem fn_19_YAdWAgreed : IsFn Try.prog 19 := ⟨_, Try.func19, by kernel_rfl, by kernel_rfl⟩

theorem fn_20_YAdWAgreed : IsFn Try.prog 20 := ⟨_, Try.func20, by kernel_rfl, by kernel_rfl⟩

def F_ref08_SameAll_l1 (a0 : List EEntry) (b : List EEntry) (rc : Int → Option Bool) (sg : Int) : Option Bool := match sg with | i => if ((decide (i < (a0.length : Int))) && (decide (i < (b.length : Int)))) = true then (chk ((0 : Int) ≤ i ∧ i < (a0.length : Int)) (chk ((0 : Int) ≤ i ∧ i < (b.length : Int)) ((F_ref08_Same ({ (a0.getD (i).toNat default) with batch := ({ client := ((a0.getD (i).toNat default).batch).client, req := ((a0.getD (i).toNat default).batch).req, ops := ((a0.getD (i).toNat default).batch).ops } : EBatch) } : EEntry) ({ (b.getD (i).toNat default) with batch := ({ client := ((b.getD (i).toNat default).batch).client, req := ((b.getD (i).toNat default).batch).req, ops := ((b.getD (i).toNat default).batch).ops } : EBatch) } : EEntry)).bind fun s0 => (if (!s0) = true then (some false) else (chk (inI (i + 1)) (rc (i + 1))))))) else (some true)

def F_ref08_SameAll (a0 : List EEntry) (b : List EEntry) : Option Bool := if ((a0.length : Int) != (b.length : Int)) = true then (some false) else (iter (F_ref08_SameAll_l1 a0 b) FU 0)

set_option maxHeartbeats 1000000 in
theorem c_ref08_SameAll {I D : Dm} {a0 : List EEntry} {v1_a0 : Value} {b : List EEntry} {v2_b : Value} {w : World} {rr : Bool} (hF : F_ref08_SameAll a0 b = some rr) (H : St I D w [SlC NEEntry v1_a0 a0, SlC NEEntry v2_b b]) :
  Calls Try.prog 20 #[v1_a0, v2_b] w (Ret fun vv w' => vv = .bool rr ∧ ∃ I', Hf I D w I' w' []) := by
 replace H := H.hf
 unfold F_ref08_SameAll at hF
 refine f_enter 33 Try.func20 rfl rfl (Nat.le_of_ble_eq_true rfl) fun a Z => ?_
 replace Z := Z.sub (ts := [0, 1]) rfl
 refine wp_seq (f_region Z ?_); clear Z; intro Z
 refine s_runk tAdWAgreed Z 1 rfl rfl ?_; clear Z a; intro a Z
 refine s_end Z [0, 1, 4] rfl ?_; clear Z; intro Z
 refine p_then (wp_seq ?_)
 refine wp_seq (f_region Z ?_); clear Z; intro Z
 refine s_runk tAdWAgreed Z 1 rfl rfl ?_; clear Z a; intro a Z
 refine s_ob Z (v := .int .i64 (a0.length : Int)) rfl rfl (by decide) rfl (Ob_slen tAdWAgreed rfl rfl rfl (H.slshape 0 rfl)) ?_; clear Z a; intro a Z
 refine s_runk tAdWAgreed Z 1 rfl rfl ?_; clear Z a; intro a Z
 refine s_ob Z (v := .int .i64 (b.length : Int)) rfl rfl (by decide) rfl (Ob_slen tAdWAgreed rfl rfl rfl (H.slshape 1 rfl)) ?_; clear Z a; intro a Z
 refine s_runk tAdWAgreed Z 1 rfl rfl ?_; clear Z a; intro a Z
 refine s_end Z [0, 1, 4, 10] rfl ?_; clear Z; intro Z
 refine p_then ?_
 refine f_cond Z rfl (fun hc1 => ?_) (fun hc1 => ?_)
 ·replace hF := ite_t hc1 hF
  refine wp_seq (f_region Z ?_); clear Z; intro Z
  refine s_runk tAdWAgreed Z 1 rfl rfl ?_; clear Z a; intro a Z
  refine s_end Z [0, 1, 4] rfl ?_; clear Z; intro Z
  refine p_then (wp_ret ?_)
  refine p_then_r ?_
  obtain rfl := some_in hF
  exact f_ret Z (run_results1 rfl Z rfl) ⟨rfl, I, (H.sub [] rfl).eq rfl⟩
 ·replace hF := ite_f hc1 hF
  refine wp_skip ?_
  refine p_then (wp_seq ?_)
  refine wp_seq (f_region Z ?_); clear Z; intro Z
  refine s_runk tAdWAgreed Z 1 rfl rfl ?_; clear Z a; intro a Z
  refine s_end Z [0, 1, 4, 5] rfl ?_; clear Z; intro Z
  refine p_then (wp_block ?_)
  refine f_iter hF (fun sg a' w' => match sg with | i => Sl 33 [(0, v1_a0), (1, v2_b), (4, .bool false), (5, .int .i64 i)] a' ∧ ∃ I2, Hf I D w I2 w' [SlC NEEntry v1_a0 a0, SlC NEEntry v2_b b]) ⟨Z.sub (ts := [0, 1, 4, 5]) rfl, ⟨I, (H.sub [(0, true), (1, true)] rfl).eq rfl⟩⟩ ?_
  clear Z H hF a
  rintro rc i a w1 ⟨Z, I1, H⟩ hF
  unfold F_ref08_SameAll_l1 at hF
  try dsimp only at hF
  refine wp_seq ?_
  refine wp_seq (f_region Z ?_); clear Z; intro Z
  refine s_runk tAdWAgreed Z 2 rfl rfl ?_; clear Z a; intro a Z
  refine s_ob Z (v := .int .i64 (a0.length : Int)) rfl rfl (by decide) rfl (Ob_slen tAdWAgreed rfl rfl rfl (H.slshape 0 rfl)) ?_; clear Z a; intro a Z
  refine s_runk tAdWAgreed Z 2 rfl rfl ?_; clear Z a; intro a Z
  refine g_ob Z (p := (decide (i < (a0.length : Int)))) (v := .int .i64 i) (S' := [(5, .int .i64 i)]) rfl rfl rfl (wantB_t _) rfl (by decide) (fun hp hS => hS.sub (ts := [5]) rfl) (fun hp => Ob_c tAdWAgreed rfl) ?_; clear Z a; intro a Z
  refine g_ob Z (p := (decide (i < (a0.length : Int)))) (v := v2_b) (S' := [(1, v2_b)]) rfl rfl rfl (wantB_t _) rfl (by decide) (fun hp hS => hS.sub (ts := [1]) rfl) (fun hp => Ob_c tAdWAgreed rfl) ?_; clear Z a; intro a Z
  refine g_ob Z (p := (decide (i < (a0.length : Int)))) (v := .int .i64 (b.length : Int)) (S' := [(17, v2_b)]) rfl rfl rfl (wantB_t _) rfl (by decide) (fun hp hS => (hS.conv (t := 17) rfl (cond_t hp)).sub (ts := [17]) rfl) (fun hp => Ob_slen tAdWAgreed rfl rfl rfl (H.slshape 1 rfl)) ?_; clear Z a; intro a Z
  refine g_ob Z (p := (decide (i < (a0.length : Int)))) (v := .bool (decide (i < (b.length : Int)))) (S' := [(16, .int .i64 i), (18, .int .i64 (b.length : Int))]) rfl rfl rfl (wantB_t _) rfl (by decide) (fun hp hS => ((hS.conv (t := 16) rfl (cond_t hp)).conv (t := 18) rfl (cond_t hp)).sub (ts := [16, 18]) rfl) (fun hp => Ob_c tAdWAgreed rfl) ?_; clear Z a; intro a Z
  refine s_ob Z (v := .bool ((decide (i < (a0.length : Int))) && (decide (i < (b.length : Int))))) rfl rfl (by decide) rfl (Ob_pick rfl rfl rfl rfl (pick_and _ _)) ?_; clear Z a; intro a Z
  refine s_end Z [0, 1, 4, 5, 11, 12, 13, 14, 15, 20] rfl ?_; clear Z; intro Z
  refine p_then ?_
  refine f_cond Z rfl (fun hc2 => ?_) (fun hc2 => ?_)
  ·replace hF := ite_t hc2 hF
   refine wp_skip ?_
   refine p_then (wp_seq ?_)
   refine wp_block ?_
   refine wp_seq ?_
   obtain ⟨hg1, hF⟩ := chk_in hF
   obtain ⟨_, ⟨u1, rfl, L1⟩, H⟩ := H.elG 0 rfl (i) (NEEntry.dft _ _)
   replace H := H.addsl L1
   replace H : Hf I D w I1 w1 [SlC NEOp u1 (((a0.getD (i).toNat default).batch).ops), AtG ((0 : Int) ≤ i ∧ i < (a0.length : Int)) (blkOf v1_a0) (oofOf v1_a0 + (i).toNat * 4) [.int .i64 (((a0.getD (i).toNat default).batch).client), .int .i64 (((a0.getD (i).toNat default).batch).req), u1, .int .u64 ((a0.getD (i).toNat default).ts)], SlC NEEntry v1_a0 a0, SlC NEEntry v2_b b] := H
   obtain ⟨hg2, hF⟩ := chk_in hF
   obtain ⟨_, ⟨u2, rfl, L2⟩, H⟩ := H.elG 3 rfl (i) (NEEntry.dft _ _)
   replace H := H.addsl L2
   replace H : Hf I D w I1 w1 [SlC NEOp u2 (((b.getD (i).toNat default).batch).ops), AtG ((0 : Int) ≤ i ∧ i < (b.length : Int)) (blkOf v2_b) (oofOf v2_b + (i).toNat * 4) [.int .i64 (((b.getD (i).toNat default).batch).client), .int .i64 (((b.getD (i).toNat default).batch).req), u2, .int .u64 ((b.getD (i).toNat default).ts)], SlC NEOp u1 (((a0.getD (i).toNat default).batch).ops), AtG ((0 : Int) ≤ i ∧ i < (a0.length : Int)) (blkOf v1_a0) (oofOf v1_a0 + (i).toNat * 4) [.int .i64 (((a0.getD (i).toNat default).batch).client), .int .i64 (((a0.getD (i).toNat default).batch).req), u1, .int .u64 ((a0.getD (i).toNat default).ts)], SlC NEEntry v1_a0 a0, SlC NEEntry v2_b b] := H
   obtain ⟨s0, hx1, hF⟩ := bnd_in hF
   refine f_quietd (by kernel_rfl) (by kernel_rfl) Z ?_; clear Z; intro Z
   refine q_runk tAdWAgreed Z 2 rfl rfl ?_; clear Z a; intro a Z
   refine q_ob Z (v := .pointer (some ⟨blkOf v1_a0, oofOf v1_a0 + (i).toNat * 4, none⟩)) rfl rfl (by decide) rfl (fun _ hw => Ob_sidx tAdWAgreed rfl rfl rfl rfl (slPl ((H.blw hw).sl 4 rfl) hg1) hg1) ?_; clear Z a; intro a Z
   refine q_ob Z (v := .agg #[.int .i64 (((a0.getD (i).toNat default).batch).client), .int .i64 (((a0.getD (i).toNat default).batch).req), u1, .int .u64 ((a0.getD (i).toNat default).ts)]) rfl rfl (by decide) rfl (fun _ hw => Ob_loads tAdWAgreed rfl rfl rfl (((H.blw hw).atg 3 rfl hg1).part 0 rfl)) ?_; clear Z a; intro a Z
   refine q_runk tAdWAgreed Z 2 rfl rfl ?_; clear Z a; intro a Z
   refine q_ob Z (v := .pointer (some ⟨blkOf v2_b, oofOf v2_b + (i).toNat * 4, none⟩)) rfl rfl (by decide) rfl (fun _ hw => Ob_sidx tAdWAgreed rfl rfl rfl rfl (slPl ((H.blw hw).sl 5 rfl) hg2) hg2) ?_; clear Z a; intro a Z
   refine q_ob Z (v := .agg #[.int .i64 (((b.getD (i).toNat default).batch).client), .int .i64 (((b.getD (i).toNat default).batch).req), u2, .int .u64 ((b.getD (i).toNat default).ts)]) rfl rfl (by decide) rfl (fun _ hw => Ob_loads tAdWAgreed rfl rfl rfl (((H.blw hw).atg 1 rfl hg2).part 0 rfl)) ?_; clear Z a; intro a Z
   refine q_call Z (caps := #[]) fn_11_YAdWAgreed rfl rfl rfl rfl rfl (by decide) rfl rfl (fun _ hw => (have hq := c_ref08_Same hx1 (((H.blw hw)).pick0 (js := [(2, true), (0, true)]) rfl rfl); plainC hq)) ?_; clear Z a; intro a Z
   refine q_runk tAdWAgreed Z 1 rfl rfl ?_; clear Z a; intro a Z
   refine q_end Z [0, 1, 4, 5, 11, 12, 13, 14, 15, 20, 23, 24, 25, 26, 27, 28, 29, 30, 31, 32] rfl ?_; clear Z; intro w2 hb Z
   replace H : Hf I D w I1 w2 [SlC NEOp u2 (((b.getD (i).toNat default).batch).ops), AtG ((0 : Int) ≤ i ∧ i < (b.length : Int)) (blkOf v2_b) (oofOf v2_b + (i).toNat * 4) [.int .i64 (((b.getD (i).toNat default).batch).client), .int .i64 (((b.getD (i).toNat default).batch).req), u2, .int .u64 ((b.getD (i).toNat default).ts)], SlC NEOp u1 (((a0.getD (i).toNat default).batch).ops), AtG ((0 : Int) ≤ i ∧ i < (a0.length : Int)) (blkOf v1_a0) (oofOf v1_a0 + (i).toNat * 4) [.int .i64 (((a0.getD (i).toNat default).batch).client), .int .i64 (((a0.getD (i).toNat default).batch).req), u1, .int .u64 ((a0.getD (i).toNat default).ts)], SlC NEEntry v1_a0 a0, SlC NEEntry v2_b b] := H.blw hb
   clear hb
   refine p_then ?_
   refine f_cond Z rfl (fun hc3 => ?_) (fun hc3 => ?_)
   ·replace hF := ite_t hc3 hF
    refine wp_seq (f_region Z ?_); clear Z; intro Z
    refine s_runk tAdWAgreed Z 1 rfl rfl ?_; clear Z a; intro a Z
    refine s_end Z [0, 1, 4, 5, 11, 12, 13, 14, 15, 20, 23, 24, 25, 26, 27, 28, 29, 30, 31, 32] rfl ?_; clear Z; intro Z
    refine p_then (wp_ret ?_)
    refine p_blk_r ?_
    refine p_then_r ?_
    refine p_then_r ?_
    refine p_blk_r ?_
    refine p_then_r ?_
    obtain rfl := some_in hF
    exact f_ret Z (run_results1 rfl Z rfl) ⟨rfl, I1, (H.sub [] rfl).eq rfl⟩
   ·replace hF := ite_f hc3 hF
    refine wp_skip ?_
    refine p_blk ?_
    refine p_then ?_
    obtain ⟨hg3, hF⟩ := chk_in hF
    refine f_region Z ?_; clear Z; intro Z
    refine s_runk tAdWAgreed Z 1 rfl rfl ?_; clear Z a; intro a Z
    refine s_ob Z (v := .int .i64 (i + 1)) rfl rfl (by decide) rfl (Ob_add rfl rfl rfl (wrI hg3)) ?_; clear Z a; intro a Z
    refine s_runk tAdWAgreed Z 1 rfl rfl ?_; clear Z a; intro a Z
    refine s_end Z [0, 1, 4, 5, 11, 12, 13, 14, 15, 20, 23, 24, 25, 26, 27, 28, 29, 30, 31, 32, 21, 22] rfl ?_; clear Z; intro Z
    refine p_then ?_
    exact ⟨(i + 1), ⟨Z.sub (ts := [0, 1, 4, 5]) rfl, ⟨I1, (H.sub [(4, true), (5, true)] rfl).eq rfl⟩⟩, hF⟩
  ·replace hF := ite_f hc2 hF
   refine wp_exit ?_
   refine p_then_x ?_
   refine p_then_x ?_
   refine f_exit_here ?_
   refine p_then (wp_seq (f_region Z ?_)); clear Z; intro Z
   refine s_runk tAdWAgreed Z 1 rfl rfl ?_; clear Z a; intro a Z
   refine s_end Z [4] rfl ?_; clear Z; intro Z
   refine p_then (wp_ret ?_)
   obtain rfl := some_in hF
   exact f_ret Z (run_results1 rfl Z rfl) ⟨rfl, I1, (H.sub [] rfl).eq rfl⟩

def F_law18_AdoptAgreed_l2 (own : List EEntry) (other : List EEntry) (k : Int) (t_2 : (List ENote) × Int) (rc_2 : Int → Option Bool) (sg : Int) : Option Bool := match sg with | i => if (decide (i < (t_2.1.length : Int))) = true then (chk ((0 : Int) ≤ i ∧ i < (t_2.1.length : Int)) (if (decide ((t_2.1.getD (i).toNat default).n < k)) = true then (some false) else (chk (inI (i + 1)) (rc_2 (i + 1))))) else ((F_law18_laid own t_2.1).bind fun l => (chk ((0 : Int) ≤ k ∧ k ≤ (l.1.length : Int)) (chk ((0 : Int) ≤ k ∧ k ≤ (own.length : Int)) ((gif (l.2 && (decide ((l.1.length : Int) ≥ k))) (F_ref08_SameAll (l.1.take ((k).toNat)) (own.take ((k).toNat))) default).bind fun s0 => ((gif ((l.2 && (decide ((l.1.length : Int) ≥ k))) && s0) (F_adopt_Base own other) default).bind fun b => ((gif (((l.2 && (decide ((l.1.length : Int) ≥ k))) && s0) && (decide (b ≥ k))) (F_law18_awake) default).bind fun a0_2 => (some ((((l.2 && (decide ((l.1.length : Int) ≥ k))) && s0) && (decide (b ≥ k))) && a0_2))))))))

def F_law18_AdoptAgreed_l1 (own : List EEntry) (other : List EEntry) (rc : Int → Option Bool) (sg : Int) : Option Bool := match sg with | k => chk (((decide (k < (own.length : Int))) && (decide (k < (other.length : Int)))) = true → (0 : Int) ≤ k ∧ k < (own.length : Int)) (chk (((decide (k < (own.length : Int))) && (decide (k < (other.length : Int)))) = true → (0 : Int) ≤ k ∧ k < (other.length : Int)) ((gif ((decide (k < (own.length : Int))) && (decide (k < (other.length : Int)))) (F_ref08_Twins ({ (own.getD (k).toNat default) with batch := ({ client := ((own.getD (k).toNat default).batch).client, req := ((own.getD (k).toNat default).batch).req, ops := ((own.getD (k).toNat default).batch).ops } : EBatch) } : EEntry) ({ (other.getD (k).toNat default) with batch := ({ client := ((other.getD (k).toNat default).batch).client, req := ((other.getD (k).toNat default).batch).req, ops := ((other.getD (k).toNat default).batch).ops } : EBatch) } : EEntry)) default).bind fun t => (chk ((((decide (k < (own.length : Int))) && (decide (k < (other.length : Int)))) && t) = true → (0 : Int) ≤ k ∧ k < (own.length : Int)) (chk ((((decide (k < (own.length : Int))) && (decide (k < (other.length : Int)))) && t) = true → (0 : Int) ≤ k ∧ k < (other.length : Int)) (if ((((decide (k < (own.length : Int))) && (decide (k < (other.length : Int)))) && t) && (((own.getD (k).toNat default).ts) == ((other.getD (k).toNat default).ts))) = true then (chk (inI (k + 1)) (rc (k + 1))) else ((F_adopt_Take own 0 0 other).bind fun t_2 => (iter (F_law18_AdoptAgreed_l2 own other k t_2) FU 0)))))))

def F_law18_AdoptAgreed (own : List EEntry) (other : List EEntry) : Option Bool := (F_law08_Much own).bind fun m => ((gif (!(decide (m > 60))) (F_law08_Much other) default).bind fun m_2 => ((gif (!((decide (m > 60)) || (decide (m_2 > 60)))) (F_ref08_Right own) default).bind fun r0 => ((gif (!(((decide (m > 60)) || (decide (m_2 > 60))) || (r0 != 0))) (F_ref08_Right other) default).bind fun r0_2 => (if ((((decide (m > 60)) || (decide (m_2 > 60))) || (r0 != 0)) || (r0_2 != 0)) = true then ((F_law18_awake).bind fun a0 => (some a0)) else (iter (F_law18_AdoptAgreed_l1 own other) FU 0)))))

set_option maxHeartbeats 1000000 in
theorem c_law18_AdoptAgreed {I D : Dm} {own : List EEntry} {v1_own : Value} {other : List EEntry} {v2_other : Value} {w : World} {rr : Bool} (hF : F_law18_AdoptAgreed own other = some rr) (H : St I D w [SlC NEEntry v1_own own, SlC NEEntry v2_other other]) :
  Calls Try.prog 6 #[v1_own, v2_other] w (Ret fun vv w' => vv = .bool rr ∧ ∃ I', Hf I D w I' w' []) := by
 replace H := H.hf
 unfold F_law18_AdoptAgreed at hF
 refine f_enter 117 Try.func6 rfl rfl (Nat.le_of_ble_eq_true rfl) fun a Z => ?_
 replace Z := Z.sub (ts := [0, 1]) rfl
 refine wp_seq (f_region Z ?_); clear Z; intro Z
 refine s_runk tAdWAgreed Z 1 rfl rfl ?_; clear Z a; intro a Z
 refine s_end Z [0, 1, 4] rfl ?_; clear Z; intro Z
 refine p_then (wp_seq ?_)
 refine wp_seq ?_
 obtain ⟨m, hx1, hF⟩ := bnd_in hF
 obtain ⟨m_2, hx2, hF⟩ := bnd_in hF
 obtain ⟨r0, hx3, hF⟩ := bnd_in hF
 obtain ⟨r0_2, hx4, hF⟩ := bnd_in hF
 refine f_region Z ?_; clear Z; intro Z
 refine s_runk tAdWAgreed Z 1 rfl rfl ?_; clear Z a; intro a Z
 refine h_call Z H (js := [(0, true)]) rfl (caps := #[]) fn_7_YAdWAgreed rfl rfl rfl rfl rfl (by decide) rfl rfl (fun D1 hS => have hq := c_law08_Much hx1 hS; hq) ?_; clear Z a; intro vv a w1 D2 hr hF2 Z
 obtain ⟨rfl, I1, K⟩ := hr
 have H : Hf I D w I1 w1 [SlC NEEntry v1_own own, SlC NEEntry v2_other other] := hF2 K
 clear hF2 K
 refine s_runk tAdWAgreed Z 2 rfl rfl ?_; clear Z a; intro a Z
 refine g_ob Z (p := (!(decide (m > 60)))) (v := v2_other) (S' := [(1, v2_other)]) rfl rfl rfl (wantB_f _) rfl (by decide) (fun hp hS => hS.sub (ts := [1]) rfl) (fun hp => Ob_c tAdWAgreed rfl) ?_; clear Z a; intro a Z
 refine g_call Z (p := (!(decide (m > 60)))) (v := .int .i64 m_2) (S' := [(15, v2_other)]) (caps := #[]) fn_7_YAdWAgreed rfl rfl rfl (wantB_f _) rfl (by decide) (fun hp hS => (hS.conv (t := 15) rfl (cond_t hp)).sub (ts := [15]) rfl) rfl rfl rfl rfl (fun hp => (have hq := c_law08_Much (gif_in hx2 hp) ((H).pick0 (js := [(1, true)]) rfl rfl); plainC hq)) ?_; clear Z a; intro a w2 hb Z
 replace H : Hf I D w I1 w2 [SlC NEEntry v1_own own, SlC NEEntry v2_other other] := H.blw hb
 clear hb
 refine g_ob Z (p := (!(decide (m > 60)))) (v := .bool (decide (m_2 > 60))) (S' := [(16, .int .i64 m_2)]) rfl rfl rfl (wantB_f _) rfl (by decide) (fun hp hS => (hS.conv (t := 16) rfl (cond_t hp)).sub (ts := [16]) rfl) (fun hp => Ob_c tAdWAgreed rfl) ?_; clear Z a; intro a Z
 refine s_ob Z (v := .bool ((decide (m > 60)) || (decide (m_2 > 60)))) rfl rfl (by decide) rfl (Ob_pick rfl rfl rfl rfl (pick_or _ _)) ?_; clear Z a; intro a Z
 refine s_runk tAdWAgreed Z 1 rfl rfl ?_; clear Z a; intro a Z
 refine g_ob Z (p := (!((decide (m > 60)) || (decide (m_2 > 60))))) (v := v1_own) (S' := [(0, v1_own)]) rfl rfl rfl (wantB_f _) rfl (by decide) (fun hp hS => hS.sub (ts := [0]) rfl) (fun hp => Ob_c tAdWAgreed rfl) ?_; clear Z a; intro a Z
 refine g_call Z (p := (!((decide (m > 60)) || (decide (m_2 > 60))))) (v := .int .i64 r0) (S' := [(20, v1_own)]) (caps := #[]) fn_17_YAdWAgreed rfl rfl rfl (wantB_f _) rfl (by decide) (fun hp hS => (hS.conv (t := 20) rfl (cond_t hp)).sub (ts := [20]) rfl) rfl rfl rfl rfl (fun hp => (have hq := c_ref08_Right (gif_in hx3 hp) ((H).pick0 (js := [(0, true)]) rfl rfl); plainC hq)) ?_; clear Z a; intro a w3 hb Z
 replace H : Hf I D w I1 w3 [SlC NEEntry v1_own own, SlC NEEntry v2_other other] := H.blw hb
 clear hb
 refine g_ob Z (p := (!((decide (m > 60)) || (decide (m_2 > 60))))) (v := .bool (r0 != 0)) (S' := [(21, .int .i64 r0)]) rfl rfl rfl (wantB_f _) rfl (by decide) (fun hp hS => (hS.conv (t := 21) rfl (cond_t hp)).sub (ts := [21]) rfl) (fun hp => Ob_c tAdWAgreed rfl) ?_; clear Z a; intro a Z
 refine s_ob Z (v := .bool (((decide (m > 60)) || (decide (m_2 > 60))) || (r0 != 0))) rfl rfl (by decide) rfl (Ob_pick rfl rfl rfl rfl (pick_or _ _)) ?_; clear Z a; intro a Z
 refine s_runk tAdWAgreed Z 1 rfl rfl ?_; clear Z a; intro a Z
 refine g_ob Z (p := (!(((decide (m > 60)) || (decide (m_2 > 60))) || (r0 != 0)))) (v := v2_other) (S' := [(1, v2_other)]) rfl rfl rfl (wantB_f _) rfl (by decide) (fun hp hS => hS.sub (ts := [1]) rfl) (fun hp => Ob_c tAdWAgreed rfl) ?_; clear Z a; intro a Z
 refine g_call Z (p := (!(((decide (m > 60)) || (decide (m_2 > 60))) || (r0 != 0)))) (v := .int .i64 r0_2) (S' := [(25, v2_other)]) (caps := #[]) fn_17_YAdWAgreed rfl rfl rfl (wantB_f _) rfl (by decide) (fun hp hS => (hS.conv (t := 25) rfl (cond_t hp)).sub (ts := [25]) rfl) rfl rfl rfl rfl (fun hp => (have hq := c_ref08_Right (gif_in hx4 hp) ((H).pick0 (js := [(1, true)]) rfl rfl); plainC hq)) ?_; clear Z a; intro a w4 hb Z
 replace H : Hf I D w I1 w4 [SlC NEEntry v1_own own, SlC NEEntry v2_other other] := H.blw hb
 clear hb
 refine g_ob Z (p := (!(((decide (m > 60)) || (decide (m_2 > 60))) || (r0 != 0)))) (v := .bool (r0_2 != 0)) (S' := [(26, .int .i64 r0_2)]) rfl rfl rfl (wantB_f _) rfl (by decide) (fun hp hS => (hS.conv (t := 26) rfl (cond_t hp)).sub (ts := [26]) rfl) (fun hp => Ob_c tAdWAgreed rfl) ?_; clear Z a; intro a Z
 refine s_ob Z (v := .bool ((((decide (m > 60)) || (decide (m_2 > 60))) || (r0 != 0)) || (r0_2 != 0))) rfl rfl (by decide) rfl (Ob_pick rfl rfl rfl rfl (pick_or _ _)) ?_; clear Z a; intro a Z
 refine s_end Z [0, 1, 4, 28] rfl ?_; clear Z; intro Z
 refine p_then ?_
 refine f_cond Z rfl (fun hc1 => ?_) (fun hc1 => ?_)
 ·replace hF := ite_t hc1 hF
  refine wp_seq ?_
  obtain ⟨a0, hx5, hF⟩ := bnd_in hF
  refine f_region Z ?_; clear Z; intro Z
  refine h_call Z H (js := []) rfl (caps := #[]) fn_8_YAdWAgreed rfl rfl rfl rfl rfl (by decide) rfl rfl (fun D1 hS => have hq := c_law18_awake hx5 hS; hq) ?_; clear Z a; intro vv a w5 D2 hr hF2 Z
  obtain ⟨rfl, I2, K⟩ := hr
  have H : Hf I D w I2 w5 [SlC NEEntry v1_own own, SlC NEEntry v2_other other] := hF2 K
  clear hF2 K
  refine s_runk tAdWAgreed Z 1 rfl rfl ?_; clear Z a; intro a Z
  refine s_end Z [0, 1, 4] rfl ?_; clear Z; intro Z
  refine p_then (wp_ret ?_)
  refine p_then_r ?_
  obtain rfl := some_in hF
  exact f_ret Z (run_results1 rfl Z rfl) ⟨rfl, I2, (H.sub [] rfl).eq rfl⟩
 ·replace hF := ite_f hc1 hF
  refine wp_skip ?_
  refine p_then (wp_seq (f_region Z ?_)); clear Z; intro Z
  refine s_runk tAdWAgreed Z 1 rfl rfl ?_; clear Z a; intro a Z
  refine s_end Z [0, 1, 4, 5] rfl ?_; clear Z; intro Z
  refine p_then (wp_seq ?_)
  refine wp_block ?_
  refine f_iter hF (fun sg a' w' => match sg with | k => Sl 117 [(0, v1_own), (1, v2_other), (4, .bool false), (5, .int .i64 k)] a' ∧ ∃ I2, Hf I D w I2 w' [SlC NEEntry v1_own own, SlC NEEntry v2_other other]) ⟨Z.sub (ts := [0, 1, 4, 5]) rfl, ⟨I1, (H.sub [(0, true), (1, true)] rfl).eq rfl⟩⟩ ?_
  clear Z H hF a
  rintro rc k a w6 ⟨Z, I3, H⟩ hF
  unfold F_law18_AdoptAgreed_l1 at hF
  try dsimp only at hF
  refine wp_seq ?_
  refine wp_seq ?_
  obtain ⟨hg1, hF⟩ := chk_in hF
  obtain ⟨_, ⟨u1, rfl, L1⟩, H⟩ := H.elG 0 rfl (k) (NEEntry.dft _ _)
  replace H := H.addsl L1
  replace H : Hf I D w I3 w6 [SlC NEOp u1 (((own.getD (k).toNat default).batch).ops), AtG ((0 : Int) ≤ k ∧ k < (own.length : Int)) (blkOf v1_own) (oofOf v1_own + (k).toNat * 4) [.int .i64 (((own.getD (k).toNat default).batch).client), .int .i64 (((own.getD (k).toNat default).batch).req), u1, .int .u64 ((own.getD (k).toNat default).ts)], SlC NEEntry v1_own own, SlC NEEntry v2_other other] := H
  obtain ⟨hg2, hF⟩ := chk_in hF
  obtain ⟨_, ⟨u2, rfl, L2⟩, H⟩ := H.elG 3 rfl (k) (NEEntry.dft _ _)
  replace H := H.addsl L2
  replace H : Hf I D w I3 w6 [SlC NEOp u2 (((other.getD (k).toNat default).batch).ops), AtG ((0 : Int) ≤ k ∧ k < (other.length : Int)) (blkOf v2_other) (oofOf v2_other + (k).toNat * 4) [.int .i64 (((other.getD (k).toNat default).batch).client), .int .i64 (((other.getD (k).toNat default).batch).req), u2, .int .u64 ((other.getD (k).toNat default).ts)], SlC NEOp u1 (((own.getD (k).toNat default).batch).ops), AtG ((0 : Int) ≤ k ∧ k < (own.length : Int)) (blkOf v1_own) (oofOf v1_own + (k).toNat * 4) [.int .i64 (((own.getD (k).toNat default).batch).client), .int .i64 (((own.getD (k).toNat default).batch).req), u1, .int .u64 ((own.getD (k).toNat default).ts)], SlC NEEntry v1_own own, SlC NEEntry v2_other other] := H
  obtain ⟨t, hx6, hF⟩ := bnd_in hF
  obtain ⟨hg3, hF⟩ := chk_in hF
  obtain ⟨hg4, hF⟩ := chk_in hF
  refine f_quietd (by kernel_rfl) (by kernel_rfl) Z ?_; clear Z; intro Z
  refine q_runk tAdWAgreed Z 2 rfl rfl ?_; clear Z a; intro a Z
  refine q_ob Z (v := .int .i64 (own.length : Int)) rfl rfl (by decide) rfl (fun _ hw => Ob_slen tAdWAgreed rfl rfl rfl ((H.blw hw).slshape 4 rfl)) ?_; clear Z a; intro a Z
  refine q_runk tAdWAgreed Z 2 rfl rfl ?_; clear Z a; intro a Z
  refine gq_ob Z (p := (decide (k < (own.length : Int)))) (v := .int .i64 k) (S' := [(5, .int .i64 k)]) rfl rfl rfl (wantB_t _) rfl (by decide) (fun hp hS => hS.sub (ts := [5]) rfl) (fun hp _ hw => Ob_c tAdWAgreed rfl) ?_; clear Z a; intro a Z
  refine gq_ob Z (p := (decide (k < (own.length : Int)))) (v := v2_other) (S' := [(1, v2_other)]) rfl rfl rfl (wantB_t _) rfl (by decide) (fun hp hS => hS.sub (ts := [1]) rfl) (fun hp _ hw => Ob_c tAdWAgreed rfl) ?_; clear Z a; intro a Z
  refine gq_ob Z (p := (decide (k < (own.length : Int)))) (v := .int .i64 (other.length : Int)) (S' := [(36, v2_other)]) rfl rfl rfl (wantB_t _) rfl (by decide) (fun hp hS => (hS.conv (t := 36) rfl (cond_t hp)).sub (ts := [36]) rfl) (fun hp _ hw => Ob_slen tAdWAgreed rfl rfl rfl ((H.blw hw).slshape 5 rfl)) ?_; clear Z a; intro a Z
  refine gq_ob Z (p := (decide (k < (own.length : Int)))) (v := .bool (decide (k < (other.length : Int)))) (S' := [(35, .int .i64 k), (37, .int .i64 (other.length : Int))]) rfl rfl rfl (wantB_t _) rfl (by decide) (fun hp hS => ((hS.conv (t := 35) rfl (cond_t hp)).conv (t := 37) rfl (cond_t hp)).sub (ts := [35, 37]) rfl) (fun hp _ hw => Ob_c tAdWAgreed rfl) ?_; clear Z a; intro a Z
  refine q_ob Z (v := .bool ((decide (k < (own.length : Int))) && (decide (k < (other.length : Int))))) rfl rfl (by decide) rfl (fun _ hw => Ob_pick rfl rfl rfl rfl (pick_and _ _)) ?_; clear Z a; intro a Z
  refine q_runk tAdWAgreed Z 1 rfl rfl ?_; clear Z a; intro a Z
  refine gq_ob Z (p := ((decide (k < (own.length : Int))) && (decide (k < (other.length : Int))))) (v := v1_own) (S' := [(0, v1_own)]) rfl rfl rfl (wantB_t _) rfl (by decide) (fun hp hS => hS.sub (ts := [0]) rfl) (fun hp _ hw => Ob_c tAdWAgreed rfl) ?_; clear Z a; intro a Z
  refine gq_ob Z (p := ((decide (k < (own.length : Int))) && (decide (k < (other.length : Int))))) (v := .int .i64 k) (S' := [(5, .int .i64 k)]) rfl rfl rfl (wantB_t _) rfl (by decide) (fun hp hS => hS.sub (ts := [5]) rfl) (fun hp _ hw => Ob_c tAdWAgreed rfl) ?_; clear Z a; intro a Z
  refine gq_ob Z (p := ((decide (k < (own.length : Int))) && (decide (k < (other.length : Int))))) (v := .pointer (some ⟨blkOf v1_own, oofOf v1_own + (k).toNat * 4, none⟩)) (S' := [(41, v1_own), (42, .int .i64 k)]) rfl rfl rfl (wantB_t _) rfl (by decide) (fun hp hS => ((hS.conv (t := 41) rfl (cond_t hp)).conv (t := 42) rfl (cond_t hp)).sub (ts := [41, 42]) rfl) (fun hp _ hw => Ob_sidx tAdWAgreed rfl rfl rfl rfl (slPl ((H.blw hw).sl 4 rfl) (hg1 hp)) (hg1 hp)) ?_; clear Z a; intro a Z
  refine gq_ob Z (p := ((decide (k < (own.length : Int))) && (decide (k < (other.length : Int))))) (v := .agg #[.int .i64 (((own.getD (k).toNat default).batch).client), .int .i64 (((own.getD (k).toNat default).batch).req), u1, .int .u64 ((own.getD (k).toNat default).ts)]) (S' := [(43, .pointer (some ⟨blkOf v1_own, oofOf v1_own + (k).toNat * 4, none⟩))]) rfl rfl rfl (wantB_t _) rfl (by decide) (fun hp hS => (hS.conv (t := 43) rfl (cond_t hp)).sub (ts := [43]) rfl) (fun hp _ hw => Ob_loads tAdWAgreed rfl rfl rfl (((H.blw hw).atg 3 rfl (hg1 hp)).part 0 rfl)) ?_; clear Z a; intro a Z
  refine gq_ob Z (p := ((decide (k < (own.length : Int))) && (decide (k < (other.length : Int))))) (v := v2_other) (S' := [(1, v2_other)]) rfl rfl rfl (wantB_t _) rfl (by decide) (fun hp hS => hS.sub (ts := [1]) rfl) (fun hp _ hw => Ob_c tAdWAgreed rfl) ?_; clear Z a; intro a Z
  refine gq_ob Z (p := ((decide (k < (own.length : Int))) && (decide (k < (other.length : Int))))) (v := .int .i64 k) (S' := [(5, .int .i64 k)]) rfl rfl rfl (wantB_t _) rfl (by decide) (fun hp hS => hS.sub (ts := [5]) rfl) (fun hp _ hw => Ob_c tAdWAgreed rfl) ?_; clear Z a; intro a Z
  refine gq_ob Z (p := ((decide (k < (own.length : Int))) && (decide (k < (other.length : Int))))) (v := .pointer (some ⟨blkOf v2_other, oofOf v2_other + (k).toNat * 4, none⟩)) (S' := [(45, v2_other), (46, .int .i64 k)]) rfl rfl rfl (wantB_t _) rfl (by decide) (fun hp hS => ((hS.conv (t := 45) rfl (cond_t hp)).conv (t := 46) rfl (cond_t hp)).sub (ts := [45, 46]) rfl) (fun hp _ hw => Ob_sidx tAdWAgreed rfl rfl rfl rfl (slPl ((H.blw hw).sl 5 rfl) (hg2 hp)) (hg2 hp)) ?_; clear Z a; intro a Z
  refine gq_ob Z (p := ((decide (k < (own.length : Int))) && (decide (k < (other.length : Int))))) (v := .agg #[.int .i64 (((other.getD (k).toNat default).batch).client), .int .i64 (((other.getD (k).toNat default).batch).req), u2, .int .u64 ((other.getD (k).toNat default).ts)]) (S' := [(47, .pointer (some ⟨blkOf v2_other, oofOf v2_other + (k).toNat * 4, none⟩))]) rfl rfl rfl (wantB_t _) rfl (by decide) (fun hp hS => (hS.conv (t := 47) rfl (cond_t hp)).sub (ts := [47]) rfl) (fun hp _ hw => Ob_loads tAdWAgreed rfl rfl rfl (((H.blw hw).atg 1 rfl (hg2 hp)).part 0 rfl)) ?_; clear Z a; intro a Z
  refine gq_call Z (p := ((decide (k < (own.length : Int))) && (decide (k < (other.length : Int))))) (v := .bool t) (S' := [(44, .agg #[.int .i64 (((own.getD (k).toNat default).batch).client), .int .i64 (((own.getD (k).toNat default).batch).req), u1, .int .u64 ((own.getD (k).toNat default).ts)]), (48, .agg #[.int .i64 (((other.getD (k).toNat default).batch).client), .int .i64 (((other.getD (k).toNat default).batch).req), u2, .int .u64 ((other.getD (k).toNat default).ts)])]) (caps := #[]) fn_19_YAdWAgreed rfl rfl rfl (wantB_t _) rfl (by decide) (fun hp hS => ((hS.conv (t := 44) rfl (cond_t hp)).conv (t := 48) rfl (cond_t hp)).sub (ts := [44, 48]) rfl) rfl rfl rfl rfl (fun hp _ hw => (have hq := c_ref08_Twins (gif_in hx6 hp) (((H.blw hw)).pick0 (js := [(2, true), (0, true)]) rfl rfl); plainC hq)) ?_; clear Z a; intro a Z
  refine q_ob Z (v := .bool (((decide (k < (own.length : Int))) && (decide (k < (other.length : Int)))) && t)) rfl rfl (by decide) rfl (fun _ hw => Ob_pick rfl rfl rfl rfl (pick_and _ _)) ?_; clear Z a; intro a Z
  refine q_runk tAdWAgreed Z 1 rfl rfl ?_; clear Z a; intro a Z
  refine gq_ob Z (p := (((decide (k < (own.length : Int))) && (decide (k < (other.length : Int)))) && t)) (v := v1_own) (S' := [(0, v1_own)]) rfl rfl rfl (wantB_t _) rfl (by decide) (fun hp hS => hS.sub (ts := [0]) rfl) (fun hp _ hw => Ob_c tAdWAgreed rfl) ?_; clear Z a; intro a Z
  refine gq_ob Z (p := (((decide (k < (own.length : Int))) && (decide (k < (other.length : Int)))) && t)) (v := .int .i64 k) (S' := [(5, .int .i64 k)]) rfl rfl rfl (wantB_t _) rfl (by decide) (fun hp hS => hS.sub (ts := [5]) rfl) (fun hp _ hw => Ob_c tAdWAgreed rfl) ?_; clear Z a; intro a Z
  refine gq_ob Z (p := (((decide (k < (own.length : Int))) && (decide (k < (other.length : Int)))) && t)) (v := .pointer (some ⟨blkOf v1_own, oofOf v1_own + (k).toNat * 4, none⟩)) (S' := [(52, v1_own), (53, .int .i64 k)]) rfl rfl rfl (wantB_t _) rfl (by decide) (fun hp hS => ((hS.conv (t := 52) rfl (cond_t hp)).conv (t := 53) rfl (cond_t hp)).sub (ts := [52, 53]) rfl) (fun hp _ hw => Ob_sidx tAdWAgreed rfl rfl rfl rfl (slPl ((H.blw hw).sl 4 rfl) (hg3 hp)) (hg3 hp)) ?_; clear Z a; intro a Z
  refine gq_ob Z (p := (((decide (k < (own.length : Int))) && (decide (k < (other.length : Int)))) && t)) (v := .pointer (some ⟨blkOf v1_own, oofOf v1_own + (k).toNat * 4 + 3, none⟩)) (S' := [(54, .pointer (some ⟨blkOf v1_own, oofOf v1_own + (k).toNat * 4, none⟩))]) rfl rfl rfl (wantB_t _) rfl (by decide) (fun hp hS => (hS.conv (t := 54) rfl (cond_t hp)).sub (ts := [54]) rfl) (fun hp _ hw => Ob_c tAdWAgreed rfl) ?_; clear Z a; intro a Z
  refine gq_ob Z (p := (((decide (k < (own.length : Int))) && (decide (k < (other.length : Int)))) && t)) (v := .int .u64 ((own.getD (k).toNat default).ts)) (S' := [(55, .pointer (some ⟨blkOf v1_own, oofOf v1_own + (k).toNat * 4 + 3, none⟩))]) rfl rfl rfl (wantB_t _) rfl (by decide) (fun hp hS => (hS.conv (t := 55) rfl (cond_t hp)).sub (ts := [55]) rfl) (fun hp _ hw => Ob_load tAdWAgreed rfl rfl rfl (((H.blw hw).atg 3 rfl (hg3 hp)) 3 _ rfl)) ?_; clear Z a; intro a Z
  refine gq_ob Z (p := (((decide (k < (own.length : Int))) && (decide (k < (other.length : Int)))) && t)) (v := v2_other) (S' := [(1, v2_other)]) rfl rfl rfl (wantB_t _) rfl (by decide) (fun hp hS => hS.sub (ts := [1]) rfl) (fun hp _ hw => Ob_c tAdWAgreed rfl) ?_; clear Z a; intro a Z
  refine gq_ob Z (p := (((decide (k < (own.length : Int))) && (decide (k < (other.length : Int)))) && t)) (v := .int .i64 k) (S' := [(5, .int .i64 k)]) rfl rfl rfl (wantB_t _) rfl (by decide) (fun hp hS => hS.sub (ts := [5]) rfl) (fun hp _ hw => Ob_c tAdWAgreed rfl) ?_; clear Z a; intro a Z
  refine gq_ob Z (p := (((decide (k < (own.length : Int))) && (decide (k < (other.length : Int)))) && t)) (v := .pointer (some ⟨blkOf v2_other, oofOf v2_other + (k).toNat * 4, none⟩)) (S' := [(57, v2_other), (58, .int .i64 k)]) rfl rfl rfl (wantB_t _) rfl (by decide) (fun hp hS => ((hS.conv (t := 57) rfl (cond_t hp)).conv (t := 58) rfl (cond_t hp)).sub (ts := [57, 58]) rfl) (fun hp _ hw => Ob_sidx tAdWAgreed rfl rfl rfl rfl (slPl ((H.blw hw).sl 5 rfl) (hg4 hp)) (hg4 hp)) ?_; clear Z a; intro a Z
  refine gq_ob Z (p := (((decide (k < (own.length : Int))) && (decide (k < (other.length : Int)))) && t)) (v := .pointer (some ⟨blkOf v2_other, oofOf v2_other + (k).toNat * 4 + 3, none⟩)) (S' := [(59, .pointer (some ⟨blkOf v2_other, oofOf v2_other + (k).toNat * 4, none⟩))]) rfl rfl rfl (wantB_t _) rfl (by decide) (fun hp hS => (hS.conv (t := 59) rfl (cond_t hp)).sub (ts := [59]) rfl) (fun hp _ hw => Ob_c tAdWAgreed rfl) ?_; clear Z a; intro a Z
  refine gq_ob Z (p := (((decide (k < (own.length : Int))) && (decide (k < (other.length : Int)))) && t)) (v := .int .u64 ((other.getD (k).toNat default).ts)) (S' := [(60, .pointer (some ⟨blkOf v2_other, oofOf v2_other + (k).toNat * 4 + 3, none⟩))]) rfl rfl rfl (wantB_t _) rfl (by decide) (fun hp hS => (hS.conv (t := 60) rfl (cond_t hp)).sub (ts := [60]) rfl) (fun hp _ hw => Ob_load tAdWAgreed rfl rfl rfl (((H.blw hw).atg 1 rfl (hg4 hp)) 3 _ rfl)) ?_; clear Z a; intro a Z
  refine gq_ob Z (p := (((decide (k < (own.length : Int))) && (decide (k < (other.length : Int)))) && t)) (v := .bool (((own.getD (k).toNat default).ts) == ((other.getD (k).toNat default).ts))) (S' := [(56, .int .u64 ((own.getD (k).toNat default).ts)), (61, .int .u64 ((other.getD (k).toNat default).ts))]) rfl rfl rfl (wantB_t _) rfl (by decide) (fun hp hS => ((hS.conv (t := 56) rfl (cond_t hp)).conv (t := 61) rfl (cond_t hp)).sub (ts := [56, 61]) rfl) (fun hp _ hw => Ob_c tAdWAgreed rfl) ?_; clear Z a; intro a Z
  refine q_ob Z (v := .bool ((((decide (k < (own.length : Int))) && (decide (k < (other.length : Int)))) && t) && (((own.getD (k).toNat default).ts) == ((other.getD (k).toNat default).ts)))) rfl rfl (by decide) rfl (fun _ hw => Ob_pick rfl rfl rfl rfl (pick_and _ _)) ?_; clear Z a; intro a Z
  refine q_end Z [0, 1, 4, 5, 30, 31, 32, 33, 34, 39, 40, 50, 51, 63] rfl ?_; clear Z; intro w7 hb Z
  replace H : Hf I D w I3 w7 [SlC NEOp u2 (((other.getD (k).toNat default).batch).ops), AtG ((0 : Int) ≤ k ∧ k < (other.length : Int)) (blkOf v2_other) (oofOf v2_other + (k).toNat * 4) [.int .i64 (((other.getD (k).toNat default).batch).client), .int .i64 (((other.getD (k).toNat default).batch).req), u2, .int .u64 ((other.getD (k).toNat default).ts)], SlC NEOp u1 (((own.getD (k).toNat default).batch).ops), AtG ((0 : Int) ≤ k ∧ k < (own.length : Int)) (blkOf v1_own) (oofOf v1_own + (k).toNat * 4) [.int .i64 (((own.getD (k).toNat default).batch).client), .int .i64 (((own.getD (k).toNat default).batch).req), u1, .int .u64 ((own.getD (k).toNat default).ts)], SlC NEEntry v1_own own, SlC NEEntry v2_other other] := H.blw hb
  clear hb
  refine p_then ?_
  refine f_cond Z rfl (fun hc2 => ?_) (fun hc2 => ?_)
  ·replace hF := ite_t hc2 hF
   refine wp_skip ?_
   refine p_then (wp_block ?_)
   obtain ⟨hg5, hF⟩ := chk_in hF
   refine f_region Z ?_; clear Z; intro Z
   refine s_runk tAdWAgreed Z 1 rfl rfl ?_; clear Z a; intro a Z
   refine s_ob Z (v := .int .i64 (k + 1)) rfl rfl (by decide) rfl (Ob_add rfl rfl rfl (wrI hg5)) ?_; clear Z a; intro a Z
   refine s_runk tAdWAgreed Z 1 rfl rfl ?_; clear Z a; intro a Z
   refine s_end Z [0, 1, 4, 5, 30, 31, 32, 33, 34, 39, 40, 50, 51, 63, 64, 65] rfl ?_; clear Z; intro Z
   refine p_blk ?_
   refine p_then ?_
   exact ⟨(k + 1), ⟨Z.sub (ts := [0, 1, 4, 5]) rfl, ⟨I3, (H.sub [(4, true), (5, true)] rfl).eq rfl⟩⟩, hF⟩
  ·replace hF := ite_f hc2 hF
   refine wp_exit ?_
   refine p_then_x ?_
   refine p_then_x ?_
   refine f_exit_here ?_
   refine p_then (wp_seq ?_)
   obtain ⟨t_2, hx7, hF⟩ := bnd_in hF
   refine f_region Z ?_; clear Z; intro Z
   refine s_runk tAdWAgreed Z 2 rfl rfl ?_; clear Z a; intro a Z
   refine h_call Z H (js := [(4, true), (5, true)]) rfl (caps := #[]) fn_9_YAdWAgreed rfl rfl rfl rfl rfl (by decide) rfl rfl (fun D1 hS => have hq := c_adopt_Take hx7 hS; hq) ?_; clear Z a; intro vv a w8 D2 hr hF2 Z
   obtain ⟨q1, rfl, I4, K⟩ := hr
   have H : Hf I D w I4 w8 [SlC NENote q1 t_2.1, SlC NEOp u2 (((other.getD (k).toNat default).batch).ops), AtG ((0 : Int) ≤ k ∧ k < (other.length : Int)) (blkOf v2_other) (oofOf v2_other + (k).toNat * 4) [.int .i64 (((other.getD (k).toNat default).batch).client), .int .i64 (((other.getD (k).toNat default).batch).req), u2, .int .u64 ((other.getD (k).toNat default).ts)], SlC NEOp u1 (((own.getD (k).toNat default).batch).ops), AtG ((0 : Int) ≤ k ∧ k < (own.length : Int)) (blkOf v1_own) (oofOf v1_own + (k).toNat * 4) [.int .i64 (((own.getD (k).toNat default).batch).client), .int .i64 (((own.getD (k).toNat default).batch).req), u1, .int .u64 ((own.getD (k).toNat default).ts)], SlC NEEntry v1_own own, SlC NEEntry v2_other other] := hF2 K
   clear hF2 K
   refine s_runk tAdWAgreed Z 5 rfl rfl ?_; clear Z a; intro a Z
   refine s_end Z [0, 1, 4, 5, 6] rfl ?_; clear Z; intro Z
   refine p_then (wp_seq ?_)
   refine wp_seq (f_region Z ?_); clear Z; intro Z
   refine s_runk tAdWAgreed Z 1 rfl rfl ?_; clear Z a; intro a Z
   refine s_end Z [0, 1, 4, 5, 6, 8] rfl ?_; clear Z; intro Z
   refine p_then (wp_block ?_)
   refine f_iter hF (fun sg a' w' => match sg with | i => Sl 117 [(0, v1_own), (1, v2_other), (4, .bool false), (5, .int .i64 k), (6, q1), (8, .int .i64 i)] a' ∧ ∃ I2, Hf I D w I2 w' [SlC NENote q1 t_2.1, SlC NEEntry v1_own own, SlC NEEntry v2_other other]) ⟨Z.sub (ts := [0, 1, 4, 5, 6, 8]) rfl, ⟨I4, (H.sub [(0, true), (5, true), (6, true)] rfl).eq rfl⟩⟩ ?_
   clear Z H hF a
   rintro rc_2 i a w9 ⟨Z, I5, H⟩ hF
   unfold F_law18_AdoptAgreed_l2 at hF
   try dsimp only at hF
   refine wp_seq ?_
   refine wp_seq (f_region Z ?_); clear Z; intro Z
   refine s_runk tAdWAgreed Z 2 rfl rfl ?_; clear Z a; intro a Z
   refine s_ob Z (v := .int .i64 (t_2.1.length : Int)) rfl rfl (by decide) rfl (Ob_slen tAdWAgreed rfl rfl rfl (H.slshape 0 rfl)) ?_; clear Z a; intro a Z
   refine s_runk tAdWAgreed Z 1 rfl rfl ?_; clear Z a; intro a Z
   refine s_end Z [0, 1, 4, 5, 6, 8, 72, 73, 74, 75] rfl ?_; clear Z; intro Z
   refine p_then ?_
   refine f_cond Z rfl (fun hc3 => ?_) (fun hc3 => ?_)
   ·replace hF := ite_t hc3 hF
    refine wp_skip ?_
    refine p_then (wp_seq ?_)
    refine wp_block ?_
    refine wp_seq ?_
    obtain ⟨hg6, hF⟩ := chk_in hF
    refine f_region Z ?_; clear Z; intro Z
    refine s_runk tAdWAgreed Z 2 rfl rfl ?_; clear Z a; intro a Z
    refine s_ob Z (v := .pointer (some ⟨blkOf q1, oofOf q1 + (i).toNat * 18, none⟩)) rfl rfl (by decide) rfl (Ob_sidx tAdWAgreed rfl rfl rfl rfl (slPl (H.sl 0 rfl) hg6) hg6) ?_; clear Z a; intro a Z
    refine s_runk tAdWAgreed Z 1 rfl rfl ?_; clear Z a; intro a Z
    obtain ⟨_, ⟨u3, u4, u5, rfl, L3, L4, L5⟩, H⟩ := H.elG 0 rfl (i) (NENote.dft _ _)
    replace H := H.addsl L3
    replace H := H.addsl L4
    replace H := H.addsl L5
    replace H : Hf I D w I5 w9 [SlC NEOp u5 ((((t_2.1.getD (i).toNat default).entry).batch).ops), SlC Ni64 u4 ((t_2.1.getD (i).toNat default).legit), SlC NEMember u3 (((t_2.1.getD (i).toNat default).conf).members), AtG ((0 : Int) ≤ i ∧ i < (t_2.1.length : Int)) (blkOf q1) (oofOf q1 + (i).toNat * 18) [.int .i64 ((t_2.1.getD (i).toNat default).k), .int .i64 ((t_2.1.getD (i).toNat default).n), .int .u64 ((t_2.1.getD (i).toNat default).at_), .int .i64 (((t_2.1.getD (i).toNat default).conf).epoch), u3, .int .u64 (((t_2.1.getD (i).toNat default).conf).floor), u4, .int .i64 ((((t_2.1.getD (i).toNat default).entry).batch).client), .int .i64 ((((t_2.1.getD (i).toNat default).entry).batch).req), u5, .int .u64 (((t_2.1.getD (i).toNat default).entry).ts), .int .i64 (((t_2.1.getD (i).toNat default).pin).id), .int .u64 (((t_2.1.getD (i).toNat default).pin).at_), .int .i64 (((t_2.1.getD (i).toNat default).pin).left), .int .i64 (((t_2.1.getD (i).toNat default).said).client), .int .i64 (((t_2.1.getD (i).toNat default).said).req), .int .i64 (((t_2.1.getD (i).toNat default).said).e), .int .i64 (((t_2.1.getD (i).toNat default).said).pin)], SlC NENote q1 t_2.1, SlC NEEntry v1_own own, SlC NEEntry v2_other other] := H
    refine s_ob Z (v := .int .i64 ((t_2.1.getD (i).toNat default).n)) rfl rfl (by decide) rfl (Ob_load tAdWAgreed rfl rfl rfl ((H.atg 3 rfl hg6) 1 _ rfl)) ?_; clear Z a; intro a Z
    refine s_runk tAdWAgreed Z 2 rfl rfl ?_; clear Z a; intro a Z
    refine s_end Z [0, 1, 4, 5, 6, 8, 72, 73, 74, 75, 78, 79, 80, 81, 82, 83, 84] rfl ?_; clear Z; intro Z
    refine p_then ?_
    refine f_cond Z rfl (fun hc4 => ?_) (fun hc4 => ?_)
    ·replace hF := ite_t hc4 hF
     refine wp_seq (f_region Z ?_); clear Z; intro Z
     refine s_runk tAdWAgreed Z 1 rfl rfl ?_; clear Z a; intro a Z
     refine s_end Z [0, 1, 4, 5, 6, 8, 72, 73, 74, 75, 78, 79, 80, 81, 82, 83, 84] rfl ?_; clear Z; intro Z
     refine p_then (wp_ret ?_)
     refine p_blk_r ?_
     refine p_then_r ?_
     refine p_then_r ?_
     refine p_blk_r ?_
     refine p_then_r ?_
     obtain rfl := some_in hF
     exact f_ret Z (run_results1 rfl Z rfl) ⟨rfl, I5, (H.sub [] rfl).eq rfl⟩
    ·replace hF := ite_f hc4 hF
     refine wp_skip ?_
     refine p_blk ?_
     refine p_then ?_
     obtain ⟨hg7, hF⟩ := chk_in hF
     refine f_region Z ?_; clear Z; intro Z
     refine s_runk tAdWAgreed Z 1 rfl rfl ?_; clear Z a; intro a Z
     refine s_ob Z (v := .int .i64 (i + 1)) rfl rfl (by decide) rfl (Ob_add rfl rfl rfl (wrI hg7)) ?_; clear Z a; intro a Z
     refine s_runk tAdWAgreed Z 1 rfl rfl ?_; clear Z a; intro a Z
     refine s_end Z [0, 1, 4, 5, 6, 8, 72, 73, 74, 75, 78, 79, 80, 81, 82, 83, 84, 76, 77] rfl ?_; clear Z; intro Z
     refine p_then ?_
     exact ⟨(i + 1), ⟨Z.sub (ts := [0, 1, 4, 5, 6, 8]) rfl, ⟨I5, (H.sub [(4, true), (5, true), (6, true)] rfl).eq rfl⟩⟩, hF⟩
   ·replace hF := ite_f hc3 hF
    refine wp_exit ?_
    refine p_then_x ?_
    refine p_then_x ?_
    refine f_exit_here ?_
    refine p_then (wp_seq ?_)
    obtain ⟨l, hx8, hF⟩ := bnd_in hF
    refine f_region Z ?_; clear Z; intro Z
    refine s_runk tAdWAgreed Z 2 rfl rfl ?_; clear Z a; intro a Z
    refine h_call Z H (js := [(1, true), (0, true)]) rfl (caps := #[]) fn_18_YAdWAgreed rfl rfl rfl rfl rfl (by decide) rfl rfl (fun D1 hS => have hq := c_law18_laid hx8 hS; hq) ?_; clear Z a; intro vv a w10 D2 hr hF2 Z
    obtain ⟨q2, rfl, I6, K⟩ := hr
    have H : Hf I D w I6 w10 [SlC NEEntry q2 l.1, SlC NENote q1 t_2.1, SlC NEEntry v1_own own, SlC NEEntry v2_other other] := hF2 K
    clear hF2 K
    refine s_runk tAdWAgreed Z 5 rfl rfl ?_; clear Z a; intro a Z
    refine s_end Z [0, 1, 4, 5, 9, 10] rfl ?_; clear Z; intro Z
    refine p_then (wp_seq ?_)
    obtain ⟨hg8, hF⟩ := chk_in hF
    replace H : Hf I D w I6 w10 [SlC NEEntry (subV q2 0 ((k).toNat) 4) (l.1.take ((k).toNat)), SlC NEEntry q2 l.1, SlC NENote q1 t_2.1, SlC NEEntry v1_own own, SlC NEEntry v2_other other] := H.slPart_to 0 rfl hg8 4 rfl
    obtain ⟨hg9, hF⟩ := chk_in hF
    replace H : Hf I D w I6 w10 [SlC NEEntry (subV v1_own 0 ((k).toNat) 4) (own.take ((k).toNat)), SlC NEEntry (subV q2 0 ((k).toNat) 4) (l.1.take ((k).toNat)), SlC NEEntry q2 l.1, SlC NENote q1 t_2.1, SlC NEEntry v1_own own, SlC NEEntry v2_other other] := H.slPart_to 3 rfl hg9 4 rfl
    obtain ⟨s0, hx9, hF⟩ := bnd_in hF
    obtain ⟨b, hx10, hF⟩ := bnd_in hF
    obtain ⟨a0_2, hx11, hF⟩ := bnd_in hF
    refine f_quietd (by kernel_rfl) (by kernel_rfl) Z ?_; clear Z; intro Z
    refine q_runk tAdWAgreed Z 2 rfl rfl ?_; clear Z a; intro a Z
    refine gq_ob Z (p := l.2) (v := q2) (S' := [(9, q2)]) rfl rfl rfl (wantB_t _) rfl (by decide) (fun hp hS => hS.sub (ts := [9]) rfl) (fun hp _ hw => Ob_c tAdWAgreed rfl) ?_; clear Z a; intro a Z
    refine gq_ob Z (p := l.2) (v := .int .i64 (l.1.length : Int)) (S' := [(93, q2)]) rfl rfl rfl (wantB_t _) rfl (by decide) (fun hp hS => (hS.conv (t := 93) rfl (cond_t hp)).sub (ts := [93]) rfl) (fun hp _ hw => Ob_slen tAdWAgreed rfl rfl rfl ((H.blw hw).slshape 2 rfl)) ?_; clear Z a; intro a Z
    refine gq_ob Z (p := l.2) (v := .int .i64 k) (S' := [(5, .int .i64 k)]) rfl rfl rfl (wantB_t _) rfl (by decide) (fun hp hS => hS.sub (ts := [5]) rfl) (fun hp _ hw => Ob_c tAdWAgreed rfl) ?_; clear Z a; intro a Z
    refine gq_ob Z (p := l.2) (v := .bool (decide ((l.1.length : Int) ≥ k))) (S' := [(94, .int .i64 (l.1.length : Int)), (95, .int .i64 k)]) rfl rfl rfl (wantB_t _) rfl (by decide) (fun hp hS => ((hS.conv (t := 94) rfl (cond_t hp)).conv (t := 95) rfl (cond_t hp)).sub (ts := [94, 95]) rfl) (fun hp _ hw => Ob_c tAdWAgreed rfl) ?_; clear Z a; intro a Z
    refine q_ob Z (v := .bool (l.2 && (decide ((l.1.length : Int) ≥ k)))) rfl rfl (by decide) rfl (fun _ hw => Ob_pick rfl rfl rfl rfl (pick_and _ _)) ?_; clear Z a; intro a Z
    refine q_runk tAdWAgreed Z 1 rfl rfl ?_; clear Z a; intro a Z
    refine gq_ob Z (p := (l.2 && (decide ((l.1.length : Int) ≥ k)))) (v := q2) (S' := [(9, q2)]) rfl rfl rfl (wantB_t _) rfl (by decide) (fun hp hS => hS.sub (ts := [9]) rfl) (fun hp _ hw => Ob_c tAdWAgreed rfl) ?_; clear Z a; intro a Z
    refine gq_ob Z (p := (l.2 && (decide ((l.1.length : Int) ≥ k)))) (v := .int .i64 k) (S' := [(5, .int .i64 k)]) rfl rfl rfl (wantB_t _) rfl (by decide) (fun hp hS => hS.sub (ts := [5]) rfl) (fun hp _ hw => Ob_c tAdWAgreed rfl) ?_; clear Z a; intro a Z
    refine gq_ob Z (p := (l.2 && (decide ((l.1.length : Int) ≥ k)))) (v := subV q2 0 ((k).toNat) 4) (S' := [(99, q2), (100, .int .i64 k)]) rfl rfl rfl (wantB_t _) rfl (by decide) (fun hp hS => ((hS.conv (t := 99) rfl (cond_t hp)).conv (t := 100) rfl (cond_t hp)).sub (ts := [99, 100]) rfl) (fun hp _ hw => Ob_sub_to tAdWAgreed rfl rfl rfl rfl ((H.blw hw).slshape 2 rfl) hg8) ?_; clear Z a; intro a Z
    refine gq_ob Z (p := (l.2 && (decide ((l.1.length : Int) ≥ k)))) (v := v1_own) (S' := [(0, v1_own)]) rfl rfl rfl (wantB_t _) rfl (by decide) (fun hp hS => hS.sub (ts := [0]) rfl) (fun hp _ hw => Ob_c tAdWAgreed rfl) ?_; clear Z a; intro a Z
    refine gq_ob Z (p := (l.2 && (decide ((l.1.length : Int) ≥ k)))) (v := .int .i64 k) (S' := [(5, .int .i64 k)]) rfl rfl rfl (wantB_t _) rfl (by decide) (fun hp hS => hS.sub (ts := [5]) rfl) (fun hp _ hw => Ob_c tAdWAgreed rfl) ?_; clear Z a; intro a Z
    refine gq_ob Z (p := (l.2 && (decide ((l.1.length : Int) ≥ k)))) (v := subV v1_own 0 ((k).toNat) 4) (S' := [(102, v1_own), (103, .int .i64 k)]) rfl rfl rfl (wantB_t _) rfl (by decide) (fun hp hS => ((hS.conv (t := 102) rfl (cond_t hp)).conv (t := 103) rfl (cond_t hp)).sub (ts := [102, 103]) rfl) (fun hp _ hw => Ob_sub_to tAdWAgreed rfl rfl rfl rfl ((H.blw hw).slshape 4 rfl) hg9) ?_; clear Z a; intro a Z
    refine gq_call Z (p := (l.2 && (decide ((l.1.length : Int) ≥ k)))) (v := .bool s0) (S' := [(101, subV q2 0 ((k).toNat) 4), (104, subV v1_own 0 ((k).toNat) 4)]) (caps := #[]) fn_20_YAdWAgreed rfl rfl rfl (wantB_t _) rfl (by decide) (fun hp hS => ((hS.conv (t := 101) rfl (cond_t hp)).conv (t := 104) rfl (cond_t hp)).sub (ts := [101, 104]) rfl) rfl rfl rfl rfl (fun hp _ hw => (have hq := c_ref08_SameAll (gif_in hx9 hp) (((H.blw hw)).pick0 (js := [(1, true), (0, true)]) rfl rfl); plainC hq)) ?_; clear Z a; intro a Z
    refine q_ob Z (v := .bool ((l.2 && (decide ((l.1.length : Int) ≥ k))) && s0)) rfl rfl (by decide) rfl (fun _ hw => Ob_pick rfl rfl rfl rfl (pick_and _ _)) ?_; clear Z a; intro a Z
    refine q_runk tAdWAgreed Z 1 rfl rfl ?_; clear Z a; intro a Z
    refine gq_ob Z (p := ((l.2 && (decide ((l.1.length : Int) ≥ k))) && s0)) (v := v1_own) (S' := [(0, v1_own)]) rfl rfl rfl (wantB_t _) rfl (by decide) (fun hp hS => hS.sub (ts := [0]) rfl) (fun hp _ hw => Ob_c tAdWAgreed rfl) ?_; clear Z a; intro a Z
    refine gq_ob Z (p := ((l.2 && (decide ((l.1.length : Int) ≥ k))) && s0)) (v := v2_other) (S' := [(1, v2_other)]) rfl rfl rfl (wantB_t _) rfl (by decide) (fun hp hS => hS.sub (ts := [1]) rfl) (fun hp _ hw => Ob_c tAdWAgreed rfl) ?_; clear Z a; intro a Z
    refine gq_call Z (p := ((l.2 && (decide ((l.1.length : Int) ≥ k))) && s0)) (v := .int .i64 b) (S' := [(108, v1_own), (109, v2_other)]) (caps := #[]) fn_15_YAdWAgreed rfl rfl rfl (wantB_t _) rfl (by decide) (fun hp hS => ((hS.conv (t := 108) rfl (cond_t hp)).conv (t := 109) rfl (cond_t hp)).sub (ts := [108, 109]) rfl) rfl rfl rfl rfl (fun hp _ hw => (have hq := c_adopt_Base (gif_in hx10 hp) (((H.blw hw)).pick0 (js := [(4, true), (5, true)]) rfl rfl); plainC hq)) ?_; clear Z a; intro a Z
    refine gq_ob Z (p := ((l.2 && (decide ((l.1.length : Int) ≥ k))) && s0)) (v := .int .i64 k) (S' := [(5, .int .i64 k)]) rfl rfl rfl (wantB_t _) rfl (by decide) (fun hp hS => hS.sub (ts := [5]) rfl) (fun hp _ hw => Ob_c tAdWAgreed rfl) ?_; clear Z a; intro a Z
    refine gq_ob Z (p := ((l.2 && (decide ((l.1.length : Int) ≥ k))) && s0)) (v := .bool (decide (b ≥ k))) (S' := [(110, .int .i64 b), (111, .int .i64 k)]) rfl rfl rfl (wantB_t _) rfl (by decide) (fun hp hS => ((hS.conv (t := 110) rfl (cond_t hp)).conv (t := 111) rfl (cond_t hp)).sub (ts := [110, 111]) rfl) (fun hp _ hw => Ob_c tAdWAgreed rfl) ?_; clear Z a; intro a Z
    refine q_ob Z (v := .bool (((l.2 && (decide ((l.1.length : Int) ≥ k))) && s0) && (decide (b ≥ k)))) rfl rfl (by decide) rfl (fun _ hw => Ob_pick rfl rfl rfl rfl (pick_and _ _)) ?_; clear Z a; intro a Z
    refine q_runk tAdWAgreed Z 1 rfl rfl ?_; clear Z a; intro a Z
    refine gq_call Z (p := (((l.2 && (decide ((l.1.length : Int) ≥ k))) && s0) && (decide (b ≥ k)))) (v := .bool a0_2) (S' := []) (caps := #[]) fn_8_YAdWAgreed rfl rfl rfl (wantB_t _) rfl (by decide) (fun hp hS => hS.sub (ts := []) rfl) rfl rfl rfl rfl (fun hp _ hw => (have hq := c_law18_awake (gif_in hx11 hp) (((H.blw hw)).pick0 (js := []) rfl rfl); plainC hq)) ?_; clear Z a; intro a Z
    refine q_ob Z (v := .bool ((((l.2 && (decide ((l.1.length : Int) ≥ k))) && s0) && (decide (b ≥ k))) && a0_2)) rfl rfl (by decide) rfl (fun _ hw => Ob_pick rfl rfl rfl rfl (pick_and _ _)) ?_; clear Z a; intro a Z
    refine q_runk tAdWAgreed Z 1 rfl rfl ?_; clear Z a; intro a Z
    refine q_end Z [4] rfl ?_; clear Z; intro w11 hb Z
    replace H : Hf I D w I6 w11 [SlC NEEntry (subV v1_own 0 ((k).toNat) 4) (own.take ((k).toNat)), SlC NEEntry (subV q2 0 ((k).toNat) 4) (l.1.take ((k).toNat)), SlC NEEntry q2 l.1, SlC NENote q1 t_2.1, SlC NEEntry v1_own own, SlC NEEntry v2_other other] := H.blw hb
    clear hb
    refine p_then (wp_ret ?_)
    obtain rfl := some_in hF
    exact f_ret Z (run_results1 rfl Z rfl) ⟨rfl, I6, (H.sub [] rfl).eq rfl⟩

end Go.Proofs.Ytdofpehcojboeaa
