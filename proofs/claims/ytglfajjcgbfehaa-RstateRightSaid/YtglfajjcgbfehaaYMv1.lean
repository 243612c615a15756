/- Many versions: reading. -/
import Derived.Test.YtglfajjcgbfehaaYMv
namespace Go.Proofs.Ytglfajjcgbfehaa
open Go.RowKit
structure EPair where
 key : ByteArray
 val : ByteArray

instance : Inhabited EPair := ⟨⟨ByteArray.empty, ByteArray.empty⟩⟩

def tMv1L : TabL := ⟨[(90112, 0), (97280, 0), (97281, 1), (97282, 2)], [], [], [(58, (97, 2)), (86, (95, 3)), (99, (9, 1))], [(4, (1, false)), (9, (1, false)), (27, (1, false)), (84, (1, false)), (95, (3, true)), (99, (1, false))]⟩

def tMv1 : Tab Try.prog := ⟨tMv1L, by kernel_rfl⟩

theorem fn_45_YMv1 : IsFn Try.prog 45 := ⟨_, Try.func45, by kernel_rfl, by kernel_rfl⟩

theorem fn_53_YMv1 : IsFn Try.prog 53 := ⟨_, Try.func53, by kernel_rfl, by kernel_rfl⟩

theorem fn_54_YMv1 : IsFn Try.prog 54 := ⟨_, Try.func54, by kernel_rfl, by kernel_rfl⟩

theorem fn_79_YMv1 : IsFn Try.prog 79 := ⟨_, Try.func79, by kernel_rfl, by kernel_rfl⟩

theorem fn_92_YMv1 : IsFn Try.prog 92 := ⟨_, Try.func92, by kernel_rfl, by kernel_rfl⟩

theorem fn_93_YMv1 : IsFn Try.prog 93 := ⟨_, Try.func93, by kernel_rfl, by kernel_rfl⟩

def F_vers_Right_l1 (l : List ECell) (rc : (Int × Int) → Option Bool) (sg : Int × Int) : Option Bool := match sg with | (ahead, x) => if (decide (x < (l.length : Int))) = true then (chk ((0 : Int) ≤ x ∧ x < (l.length : Int)) (if (decide ((l.getD (x).toNat default).ts ≤ ahead)) = true then (some false) else (chk (inI (x + 1)) (rc ((l.getD (x).toNat default).ts, x + 1))))) else (some true)

def F_vers_Right (l : List ECell) : Option Bool := iter (F_vers_Right_l1 l) FU (0, 0)

set_option maxHeartbeats 1000000 in
theorem c_vers_Right {I D : Dm} {l : List ECell} {v1_l : Value} {w : World} {rr : Bool} (hF : F_vers_Right l = some rr) (H : St I D w [SlC NECell v1_l l]) :
  Calls Try.prog 92 #[v1_l] w (Ret fun vv w' => vv = .bool rr ∧ ∃ I', Hf I D w I' w' []) := by
 replace H := H.hf
 unfold F_vers_Right at hF
 refine f_enter 19 Try.func92 rfl rfl (Nat.le_of_ble_eq_true rfl) fun a Z => ?_
 replace Z := Z.sub (ts := [0]) rfl
 refine wp_seq (f_region Z ?_); clear Z; intro Z
 refine s_runk tMv1 Z 1 rfl rfl ?_; clear Z a; intro a Z
 refine s_end Z [0, 2] rfl ?_; clear Z; intro Z
 refine p_then (wp_seq (f_region Z ?_)); clear Z; intro Z
 refine s_runk tMv1 Z 1 rfl rfl ?_; clear Z a; intro a Z
 refine s_end Z [0, 2, 3] rfl ?_; clear Z; intro Z
 refine p_then (wp_seq ?_)
 refine wp_seq (f_region Z ?_); clear Z; intro Z
 refine s_runk tMv1 Z 1 rfl rfl ?_; clear Z a; intro a Z
 refine s_ob Z (v := .int .i64 (l.length : Int)) rfl rfl (by decide) rfl (Ob_slen tMv1 rfl rfl rfl (H.slshape 0 rfl)) ?_; clear Z a; intro a Z
 refine s_runk tMv1 Z 1 rfl rfl ?_; clear Z a; intro a Z
 refine s_end Z [2, 3, 6, 7, 8] rfl ?_; clear Z; intro Z
 refine p_then (wp_block ?_)
 refine f_iter hF (fun sg a' w' => match sg with | (ahead, x) => Sl 19 [(2, .bool false), (3, .int .u64 ahead), (6, v1_l), (7, .int .i64 (l.length : Int)), (8, .int .i64 x)] a' ∧ ∃ I2, Hf I D w I2 w' [SlC NECell v1_l l]) ⟨Z.sub (ts := [2, 3, 6, 7, 8]) rfl, ⟨I, (H.sub [(0, true)] rfl).eq rfl⟩⟩ ?_
 clear Z H hF a
 rintro rc ⟨ahead, x⟩ a w1 ⟨Z, I1, H⟩ hF
 unfold F_vers_Right_l1 at hF
 try dsimp only at hF
 refine wp_seq (f_region Z ?_); clear Z; intro Z
 refine s_runk tMv1 Z 1 rfl rfl ?_; clear Z a; intro a Z
 refine s_end Z [2, 3, 6, 7, 8, 9] rfl ?_; clear Z; intro Z
 refine p_then (wp_seq ?_)
 refine f_cond Z rfl (fun hc1 => ?_) (fun hc1 => ?_)
 ·replace hF := ite_t hc1 hF
  refine wp_skip ?_
  refine p_then (wp_seq ?_)
  refine wp_block ?_
  refine wp_seq ?_
  obtain ⟨hg1, hF⟩ := chk_in hF
  refine f_region Z ?_; clear Z; intro Z
  refine s_ob Z (v := .pointer (some ⟨blkOf v1_l, oofOf v1_l + (x).toNat * 3, none⟩)) rfl rfl (by decide) rfl (Ob_sidx tMv1 rfl rfl rfl rfl (slPl (H.sl 0 rfl) hg1) hg1) ?_; clear Z a; intro a Z
  refine s_ob Z (v := .agg #[.int .u64 ((l.getD (x).toNat default).ts), .string ((l.getD (x).toNat default).val), .bool ((l.getD (x).toNat default).del)]) rfl rfl (by decide) rfl (Ob_loads tMv1 rfl rfl rfl ((slFl (H.sl 0 rfl) hg1).part 0 rfl)) ?_; clear Z a; intro a Z
  refine h_alloc Z H (cl := [.int .u64 0, .string ByteArray.empty, .bool false]) (z := .agg #[.int .u64 0, .string ByteArray.empty, .bool false]) rfl rfl rfl (by decide) rfl (by kernel_rfl) rfl ?_; clear Z a H; intro a w2 b1 H Z
  refine h_store tMv1 Z H 0 rfl rfl rfl rfl rfl rfl rfl rfl rfl (one_cons rfl (one_cons rfl (one_cons rfl one_nil))) (Nat.le_of_ble_eq_true rfl) rfl ?_; clear H; intro w3 H
  dsimp only [List.eraseIdx] at H
  refine s_end Z [2, 3, 6, 7, 8, 9, 10, 11, 5] rfl ?_; clear Z; intro Z
  refine p_then (wp_seq ?_)
  refine wp_seq (f_region Z ?_); clear Z; intro Z
  refine s_runk tMv1 Z 1 rfl rfl ?_; clear Z a; intro a Z
  refine s_ob Z (v := .int .u64 ((l.getD (x).toNat default).ts)) rfl rfl (by decide) rfl (Ob_load tMv1 rfl rfl rfl ((H.bx 0 rfl).cell 0 rfl)) ?_; clear Z a; intro a Z
  refine s_runk tMv1 Z 2 rfl rfl ?_; clear Z a; intro a Z
  refine s_end Z [2, 3, 6, 7, 8, 9, 10, 11, 5, 12, 13, 14, 15] rfl ?_; clear Z; intro Z
  refine p_then ?_
  refine f_cond Z rfl (fun hc2 => ?_) (fun hc2 => ?_)
  ·replace hF := ite_t hc2 hF
   refine wp_seq (f_region Z ?_); clear Z; intro Z
   refine s_runk tMv1 Z 1 rfl rfl ?_; clear Z a; intro a Z
   refine s_end Z [2, 3, 6, 7, 8, 9, 10, 11, 5, 12, 13, 14, 15] rfl ?_; clear Z; intro Z
   refine p_then (wp_ret ?_)
   refine p_then_r ?_
   refine p_blk_r ?_
   refine p_then_r ?_
   refine p_then_r ?_
   refine p_blk_r ?_
   refine p_then_r ?_
   obtain rfl := some_in hF
   exact f_ret Z (run_results1 rfl Z rfl) ⟨rfl, I1, (H.sub [] rfl).eq rfl⟩
  ·replace hF := ite_f hc2 hF
   refine wp_skip ?_
   refine p_then ?_
   refine f_region Z ?_; clear Z; intro Z
   refine s_runk tMv1 Z 1 rfl rfl ?_; clear Z a; intro a Z
   refine s_ob Z (v := .int .u64 ((l.getD (x).toNat default).ts)) rfl rfl (by decide) rfl (Ob_load tMv1 rfl rfl rfl ((H.bx 0 rfl).cell 0 rfl)) ?_; clear Z a; intro a Z
   refine s_runk tMv1 Z 1 rfl rfl ?_; clear Z a; intro a Z
   refine s_end Z [2, 3, 6, 7, 8, 9, 10, 11, 5, 12, 13, 14, 15, 16, 17] rfl ?_; clear Z; intro Z
   refine p_blk ?_
   refine p_then ?_
   obtain ⟨hg2, hF⟩ := chk_in hF
   refine f_region Z ?_; clear Z; intro Z
   refine s_ob Z (v := .int .i64 (x + 1)) rfl rfl (by decide) rfl (Ob_add rfl rfl rfl (wrI hg2)) ?_; clear Z a; intro a Z
   refine s_runk tMv1 Z 1 rfl rfl ?_; clear Z a; intro a Z
   refine s_end Z [2, 3, 6, 7, 8, 9, 10, 11, 5, 12, 13, 14, 15, 16, 17, 18] rfl ?_; clear Z; intro Z
   refine p_then ?_
   exact ⟨((l.getD (x).toNat default).ts, x + 1), ⟨Z.sub (ts := [2, 3, 6, 7, 8]) rfl, ⟨I1, (H.sub [(1, true)] rfl).eq rfl⟩⟩, hF⟩
 ·replace hF := ite_f hc1 hF
  refine wp_exit ?_
  refine p_then_x ?_
  refine p_then_x ?_
  refine f_exit_here ?_
  refine p_then (wp_seq (f_region Z ?_)); clear Z; intro Z
  refine s_runk tMv1 Z 1 rfl rfl ?_; clear Z a; intro a Z
  refine s_end Z [2] rfl ?_; clear Z; intro Z
  refine p_then (wp_ret ?_)
  obtain rfl := some_in hF
  exact f_ret Z (run_results1 rfl Z rfl) ⟨rfl, I1, (H.sub [] rfl).eq rfl⟩

def F_vers_scan_l1 (l : List ECell) (t : Int) (rc : Int → Option Int) (sg : Int) : Option Int := match sg with | n0 => chk ((decide (n0 > 0)) = true → inI (n0 - 1)) (chk ((decide (n0 > 0)) = true → (0 : Int) ≤ n0 - 1 ∧ n0 - 1 < (l.length : Int)) (if ((decide (n0 > 0)) && (decide ((l.getD (n0 - 1).toNat default).ts > t))) = true then (chk (inI (n0 - 1)) (rc (n0 - 1))) else (some n0)))

def F_vers_scan (l : List ECell) (t : Int) : Option Int := iter (F_vers_scan_l1 l t) FU (l.length : Int)

set_option maxHeartbeats 1000000 in
theorem c_vers_scan {I D : Dm} {l : List ECell} {v1_l : Value} {t : Int} {w : World} {rr : Int} (hF : F_vers_scan l t = some rr) (H : St I D w [SlC NECell v1_l l]) :
  Calls Try.prog 93 #[v1_l, .int .u64 t] w (Ret fun vv w' => vv = .int .i64 rr ∧ ∃ I', Hf I D w I' w' []) := by
 replace H := H.hf
 unfold F_vers_scan at hF
 refine f_enter 23 Try.func93 rfl rfl (Nat.le_of_ble_eq_true rfl) fun a Z => ?_
 replace Z := Z.sub (ts := [0, 1]) rfl
 refine wp_seq (f_region Z ?_); clear Z; intro Z
 refine s_runk tMv1 Z 1 rfl rfl ?_; clear Z a; intro a Z
 refine s_end Z [0, 1, 4] rfl ?_; clear Z; intro Z
 refine p_then (wp_seq (f_region Z ?_)); clear Z; intro Z
 refine s_runk tMv1 Z 1 rfl rfl ?_; clear Z a; intro a Z
 refine s_ob Z (v := .int .i64 (l.length : Int)) rfl rfl (by decide) rfl (Ob_slen tMv1 rfl rfl rfl (H.slshape 0 rfl)) ?_; clear Z a; intro a Z
 refine s_runk tMv1 Z 1 rfl rfl ?_; clear Z a; intro a Z
 refine s_end Z [0, 1, 4, 5] rfl ?_; clear Z; intro Z
 refine p_then (wp_seq ?_)
 refine wp_block ?_
 refine f_iter hF (fun sg a' w' => match sg with | n0 => Sl 23 [(0, v1_l), (1, .int .u64 t), (4, .int .i64 0), (5, .int .i64 n0)] a' ∧ ∃ I2, Hf I D w I2 w' [SlC NECell v1_l l]) ⟨Z.sub (ts := [0, 1, 4, 5]) rfl, ⟨I, (H.sub [(0, true)] rfl).eq rfl⟩⟩ ?_
 clear Z H hF a
 rintro rc n0 a w1 ⟨Z, I1, H⟩ hF
 unfold F_vers_scan_l1 at hF
 try dsimp only at hF
 refine wp_seq ?_
 refine wp_seq ?_
 obtain ⟨hg1, hF⟩ := chk_in hF
 obtain ⟨hg2, hF⟩ := chk_in hF
 refine f_region Z ?_; clear Z; intro Z
 refine s_runk tMv1 Z 3 rfl rfl ?_; clear Z a; intro a Z
 refine g_ob Z (p := (decide (n0 > 0))) (v := v1_l) (S' := [(0, v1_l)]) rfl rfl rfl (wantB_t _) rfl (by decide) (fun hp hS => hS.sub (ts := [0]) rfl) (fun hp => Ob_c tMv1 rfl) ?_; clear Z a; intro a Z
 refine g_ob Z (p := (decide (n0 > 0))) (v := .int .i64 n0) (S' := [(5, .int .i64 n0)]) rfl rfl rfl (wantB_t _) rfl (by decide) (fun hp hS => hS.sub (ts := [5]) rfl) (fun hp => Ob_c tMv1 rfl) ?_; clear Z a; intro a Z
 refine g_ob Z (p := (decide (n0 > 0))) (v := .int .i64 (n0 - 1)) (S' := [(12, .int .i64 n0)]) rfl rfl rfl (wantB_t _) rfl (by decide) (fun hp hS => (hS.conv (t := 12) rfl (cond_t hp)).sub (ts := [12]) rfl) (fun hp => Ob_sub rfl rfl rfl (wrI (hg1 hp))) ?_; clear Z a; intro a Z
 refine g_ob Z (p := (decide (n0 > 0))) (v := .pointer (some ⟨blkOf v1_l, oofOf v1_l + (n0 - 1).toNat * 3, none⟩)) (S' := [(11, v1_l), (13, .int .i64 (n0 - 1))]) rfl rfl rfl (wantB_t _) rfl (by decide) (fun hp hS => ((hS.conv (t := 11) rfl (cond_t hp)).conv (t := 13) rfl (cond_t hp)).sub (ts := [11, 13]) rfl) (fun hp => Ob_sidx tMv1 rfl rfl rfl rfl (slPl (H.sl 0 rfl) (hg2 hp)) (hg2 hp)) ?_; clear Z a; intro a Z
 refine g_ob Z (p := (decide (n0 > 0))) (v := .pointer (some ⟨blkOf v1_l, oofOf v1_l + (n0 - 1).toNat * 3, none⟩)) (S' := [(14, .pointer (some ⟨blkOf v1_l, oofOf v1_l + (n0 - 1).toNat * 3, none⟩))]) rfl rfl rfl (wantB_t _) rfl (by decide) (fun hp hS => (hS.conv (t := 14) rfl (cond_t hp)).sub (ts := [14]) rfl) (fun hp => Ob_c tMv1 rfl) ?_; clear Z a; intro a Z
 refine g_ob Z (p := (decide (n0 > 0))) (v := .int .u64 ((l.getD (n0 - 1).toNat default).ts)) (S' := [(15, .pointer (some ⟨blkOf v1_l, oofOf v1_l + (n0 - 1).toNat * 3, none⟩))]) rfl rfl rfl (wantB_t _) rfl (by decide) (fun hp hS => (hS.conv (t := 15) rfl (cond_t hp)).sub (ts := [15]) rfl) (fun hp => Ob_load tMv1 rfl rfl rfl ((slFl (H.sl 0 rfl) (hg2 hp)) 0 _ rfl)) ?_; clear Z a; intro a Z
 refine g_ob Z (p := (decide (n0 > 0))) (v := .int .u64 t) (S' := [(1, .int .u64 t)]) rfl rfl rfl (wantB_t _) rfl (by decide) (fun hp hS => hS.sub (ts := [1]) rfl) (fun hp => Ob_c tMv1 rfl) ?_; clear Z a; intro a Z
 refine g_ob Z (p := (decide (n0 > 0))) (v := .bool (decide ((l.getD (n0 - 1).toNat default).ts > t))) (S' := [(16, .int .u64 ((l.getD (n0 - 1).toNat default).ts)), (17, .int .u64 t)]) rfl rfl rfl (wantB_t _) rfl (by decide) (fun hp hS => ((hS.conv (t := 16) rfl (cond_t hp)).conv (t := 17) rfl (cond_t hp)).sub (ts := [16, 17]) rfl) (fun hp => Ob_c tMv1 rfl) ?_; clear Z a; intro a Z
 refine s_ob Z (v := .bool ((decide (n0 > 0)) && (decide ((l.getD (n0 - 1).toNat default).ts > t)))) rfl rfl (by decide) rfl (Ob_pick rfl rfl rfl rfl (pick_and _ _)) ?_; clear Z a; intro a Z
 refine s_end Z [0, 1, 4, 5, 8, 9, 10, 19] rfl ?_; clear Z; intro Z
 refine p_then ?_
 refine f_cond Z rfl (fun hc1 => ?_) (fun hc1 => ?_)
 ·replace hF := ite_t hc1 hF
  refine wp_skip ?_
  refine p_then (wp_block ?_)
  obtain ⟨hg3, hF⟩ := chk_in hF
  refine f_region Z ?_; clear Z; intro Z
  refine s_runk tMv1 Z 1 rfl rfl ?_; clear Z a; intro a Z
  refine s_ob Z (v := .int .i64 (n0 - 1)) rfl rfl (by decide) rfl (Ob_sub rfl rfl rfl (wrI hg3)) ?_; clear Z a; intro a Z
  refine s_runk tMv1 Z 1 rfl rfl ?_; clear Z a; intro a Z
  refine s_end Z [0, 1, 4, 5, 8, 9, 10, 19, 20, 21] rfl ?_; clear Z; intro Z
  refine p_blk ?_
  refine p_then ?_
  exact ⟨(n0 - 1), ⟨Z.sub (ts := [0, 1, 4, 5]) rfl, ⟨I1, (H.sub [(0, true)] rfl).eq rfl⟩⟩, hF⟩
 ·replace hF := ite_f hc1 hF
  refine wp_exit ?_
  refine p_then_x ?_
  refine p_then_x ?_
  refine f_exit_here ?_
  refine p_then (wp_seq (f_region Z ?_)); clear Z; intro Z
  refine s_runk tMv1 Z 2 rfl rfl ?_; clear Z a; intro a Z
  refine s_end Z [4] rfl ?_; clear Z; intro Z
  refine p_then (wp_ret ?_)
  obtain rfl := some_in hF
  exact f_ret Z (run_results1 rfl Z rfl) ⟨rfl, I1, (H.sub [] rfl).eq rfl⟩

def F_vers_upto_k2 (rc : (Int × Int) → Option Int) (from__2 : Int) (to__2 : Int) : Option Int := rc (from__2, to__2)

def F_vers_upto_l1 (l : List ECell) (t : Int) (rc : (Int × Int) → Option Int) (sg : Int × Int) : Option Int := match sg with | (from_, to_) => if (from_ == to_) = true then (some from_) else (chk (inI (to_ - from_)) (chk (inI ((to_ - from_).tdiv 2)) (chk (inI (from_ + ((to_ - from_).tdiv 2))) (chk ((0 : Int) ≤ from_ + ((to_ - from_).tdiv 2) ∧ from_ + ((to_ - from_).tdiv 2) < (l.length : Int)) (if (decide ((l.getD (from_ + ((to_ - from_).tdiv 2)).toNat default).ts > t)) = true then (F_vers_upto_k2 rc from_ (from_ + ((to_ - from_).tdiv 2))) else (chk (inI (from_ + ((to_ - from_).tdiv 2) + 1)) (F_vers_upto_k2 rc (from_ + ((to_ - from_).tdiv 2) + 1) to_)))))))

def F_vers_upto (l : List ECell) (t : Int) : Option Int := (F_vers_Right l).bind fun r0 => (if (!r0) = true then ((F_vers_scan l t).bind fun s0 => (some s0)) else (iter (F_vers_upto_l1 l t) FU (0, (l.length : Int))))

set_option maxHeartbeats 1000000 in
theorem c_vers_upto {I D : Dm} {l : List ECell} {v1_l : Value} {t : Int} {w : World} {rr : Int} (hF : F_vers_upto l t = some rr) (H : St I D w [SlC NECell v1_l l]) :
  Calls Try.prog 79 #[v1_l, .int .u64 t] w (Ret fun vv w' => vv = .int .i64 rr ∧ ∃ I', Hf I D w I' w' []) := by
 replace H := H.hf
 unfold F_vers_upto at hF
 refine f_enter 36 Try.func79 rfl rfl (Nat.le_of_ble_eq_true rfl) fun a Z => ?_
 replace Z := Z.sub (ts := [0, 1]) rfl
 refine wp_seq (f_region Z ?_); clear Z; intro Z
 refine s_runk tMv1 Z 1 rfl rfl ?_; clear Z a; intro a Z
 refine s_end Z [0, 1, 4] rfl ?_; clear Z; intro Z
 refine p_then ?_
 refine f_scope (l := 0) rfl ?_
 refine wp_seq ?_
 refine wp_seq ?_
 obtain ⟨r0, hx1, hF⟩ := bnd_in hF
 refine f_region Z ?_; clear Z; intro Z
 refine s_runk tMv1 Z 1 rfl rfl ?_; clear Z a; intro a Z
 refine h_call Z H (js := [(0, true)]) rfl (caps := #[]) fn_92_YMv1 rfl rfl rfl rfl rfl (by decide) rfl rfl (fun D1 hS => have hq := c_vers_Right hx1 hS; hq) ?_; clear Z a; intro vv a w1 D2 hr hF2 Z
 obtain ⟨rfl, I1, K⟩ := hr
 have H : Hf I D w I1 w1 [SlC NECell v1_l l] := hF2 K
 clear hF2 K
 refine s_runk tMv1 Z 1 rfl rfl ?_; clear Z a; intro a Z
 refine s_end Z [0, 1, 4, 10] rfl ?_; clear Z; intro Z
 refine p_then ?_
 refine f_cond Z rfl (fun hc1 => ?_) (fun hc1 => ?_)
 ·replace hF := ite_t hc1 hF
  refine wp_seq ?_
  obtain ⟨s0, hx2, hF⟩ := bnd_in hF
  refine f_region Z ?_; clear Z; intro Z
  refine s_runk tMv1 Z 2 rfl rfl ?_; clear Z a; intro a Z
  refine h_call Z H (js := [(0, true)]) rfl (caps := #[]) fn_93_YMv1 rfl rfl rfl rfl rfl (by decide) rfl rfl (fun D1 hS => have hq := c_vers_scan hx2 hS; hq) ?_; clear Z a; intro vv a w2 D2 hr hF2 Z
  obtain ⟨rfl, I2, K⟩ := hr
  have H : Hf I D w I2 w2 [SlC NECell v1_l l] := hF2 K
  clear hF2 K
  refine s_runk tMv1 Z 1 rfl rfl ?_; clear Z a; intro a Z
  refine s_end Z [0, 1, 4] rfl ?_; clear Z; intro Z
  refine p_then (wp_ret ?_)
  refine p_then_r ?_
  refine p_jump_r ?_
  obtain rfl := some_in hF
  exact f_ret Z (run_results1 rfl Z rfl) ⟨rfl, I2, (H.sub [] rfl).eq rfl⟩
 ·replace hF := ite_f hc1 hF
  refine wp_skip ?_
  refine p_then (wp_seq (f_region Z ?_)); clear Z; intro Z
  refine s_runk tMv1 Z 1 rfl rfl ?_; clear Z a; intro a Z
  refine s_ob Z (v := .int .i64 (l.length : Int)) rfl rfl (by decide) rfl (Ob_slen tMv1 rfl rfl rfl (H.slshape 0 rfl)) ?_; clear Z a; intro a Z
  refine s_runk tMv1 Z 2 rfl rfl ?_; clear Z a; intro a Z
  refine s_end Z [0, 1, 4, 5, 6] rfl ?_; clear Z; intro Z
  refine p_then ?_
  refine f_label hF (fun sg a' w' => match sg with | (from_, to_) => Sl 36 [(0, v1_l), (1, .int .u64 t), (4, .int .i64 0), (5, .int .i64 from_), (6, .int .i64 to_)] a' ∧ ∃ I2, Hf I D w I2 w' [SlC NECell v1_l l]) ⟨Z.sub (ts := [0, 1, 4, 5, 6]) rfl, ⟨I1, (H.sub [(0, true)] rfl).eq rfl⟩⟩ ?_
  clear Z H hF a
  rintro rc ⟨from_, to_⟩ a w3 ⟨Z, I3, H⟩ hF
  unfold F_vers_upto_l1 at hF
  try dsimp only at hF
  refine wp_seq ?_
  refine wp_seq (f_region Z ?_); clear Z; intro Z
  refine s_runk tMv1 Z 3 rfl rfl ?_; clear Z a; intro a Z
  refine s_end Z [0, 1, 4, 5, 6, 16, 17, 18] rfl ?_; clear Z; intro Z
  refine p_then ?_
  refine f_cond Z rfl (fun hc2 => ?_) (fun hc2 => ?_)
  ·replace hF := ite_t hc2 hF
   refine wp_seq (f_region Z ?_); clear Z; intro Z
   refine s_runk tMv1 Z 2 rfl rfl ?_; clear Z a; intro a Z
   refine s_end Z [0, 1, 4, 5, 6, 16, 17, 18, 19] rfl ?_; clear Z; intro Z
   refine p_then (wp_ret ?_)
   refine p_then_r ?_
   refine p_jump_r ?_
   obtain rfl := some_in hF
   exact f_ret Z (run_results1 rfl Z rfl) ⟨rfl, I3, (H.sub [] rfl).eq rfl⟩
  ·replace hF := ite_f hc2 hF
   refine wp_skip ?_
   refine p_then ?_
   refine f_cut (fun a' w' => ∃ (from__2 : Int) (to__2 : Int), Sl 36 [(0, v1_l), (1, .int .u64 t), (4, .int .i64 0), (5, .int .i64 from__2), (6, .int .i64 to__2), (7, .int .i64 (from_ + ((to_ - from_).tdiv 2))), (16, .int .i64 from_), (17, .int .i64 to_), (18, .bool (from_ == to_)), (20, .int .i64 from_), (21, .int .i64 to_), (22, .int .i64 from_), (23, .int .i64 (to_ - from_)), (24, .int .i64 ((to_ - from_).tdiv 2)), (25, .int .i64 (from_ + ((to_ - from_).tdiv 2))), (26, v1_l), (27, .int .i64 (from_ + ((to_ - from_).tdiv 2))), (28, .pointer (some ⟨blkOf v1_l, oofOf v1_l + (from_ + ((to_ - from_).tdiv 2)).toNat * 3, none⟩)), (29, .pointer (some ⟨blkOf v1_l, oofOf v1_l + (from_ + ((to_ - from_).tdiv 2)).toNat * 3, none⟩)), (30, .int .u64 ((l.getD (from_ + ((to_ - from_).tdiv 2)).toNat default).ts)), (31, .int .u64 t), (32, .bool (decide ((l.getD (from_ + ((to_ - from_).tdiv 2)).toNat default).ts > t)))] a' ∧ (∃ I2, Hf I D w I2 w' [SlC NECell v1_l l]) ∧ F_vers_upto_k2 rc from__2 to__2 = some rr) ?_ ?_
   ·rintro a w4 ⟨from__2, to__2, Z, ⟨I4, H⟩, hF⟩
    unfold F_vers_upto_k2 at hF
    try dsimp only at hF
    refine wp_goto ?_
    refine p_jump_g ?_
    exact ⟨(from__2, to__2), ⟨Z.sub (ts := [0, 1, 4, 5, 6]) rfl, ⟨I4, (H.sub [(0, true)] rfl).eq rfl⟩⟩, hF⟩
   ·skip
    refine wp_seq ?_
    obtain ⟨hg1, hF⟩ := chk_in hF
    obtain ⟨hg2, hF⟩ := chk_in hF
    obtain ⟨hg3, hF⟩ := chk_in hF
    refine f_region Z ?_; clear Z; intro Z
    refine s_runk tMv1 Z 3 rfl rfl ?_; clear Z a; intro a Z
    refine s_ob Z (v := .int .i64 (to_ - from_)) rfl rfl (by decide) rfl (Ob_sub rfl rfl rfl (wrI hg1)) ?_; clear Z a; intro a Z
    refine s_ob Z (v := .int .i64 ((to_ - from_).tdiv 2)) rfl rfl (by decide) rfl (Ob_quo rfl rfl rfl (by decide) (wrI hg2)) ?_; clear Z a; intro a Z
    refine s_ob Z (v := .int .i64 (from_ + ((to_ - from_).tdiv 2))) rfl rfl (by decide) rfl (Ob_add rfl rfl rfl (wrI hg3)) ?_; clear Z a; intro a Z
    refine s_runk tMv1 Z 1 rfl rfl ?_; clear Z a; intro a Z
    refine s_end Z [0, 1, 4, 5, 6, 16, 17, 18, 20, 21, 22, 23, 24, 25, 7] rfl ?_; clear Z; intro Z
    refine p_then (wp_seq ?_)
    obtain ⟨hg4, hF⟩ := chk_in hF
    refine f_region Z ?_; clear Z; intro Z
    refine s_runk tMv1 Z 2 rfl rfl ?_; clear Z a; intro a Z
    refine s_ob Z (v := .pointer (some ⟨blkOf v1_l, oofOf v1_l + (from_ + ((to_ - from_).tdiv 2)).toNat * 3, none⟩)) rfl rfl (by decide) rfl (Ob_sidx tMv1 rfl rfl rfl rfl (slPl (H.sl 0 rfl) hg4) hg4) ?_; clear Z a; intro a Z
    refine s_runk tMv1 Z 1 rfl rfl ?_; clear Z a; intro a Z
    refine s_ob Z (v := .int .u64 ((l.getD (from_ + ((to_ - from_).tdiv 2)).toNat default).ts)) rfl rfl (by decide) rfl (Ob_load tMv1 rfl rfl rfl ((slFl (H.sl 0 rfl) hg4) 0 _ rfl)) ?_; clear Z a; intro a Z
    refine s_runk tMv1 Z 2 rfl rfl ?_; clear Z a; intro a Z
    refine s_end Z [0, 1, 4, 5, 6, 16, 17, 18, 20, 21, 22, 23, 24, 25, 7, 26, 27, 28, 29, 30, 31, 32] rfl ?_; clear Z; intro Z
    refine p_then ?_
    refine f_cond Z rfl (fun hc3 => ?_) (fun hc3 => ?_)
    ·replace hF := ite_t hc3 hF
     refine f_region Z ?_; clear Z; intro Z
     refine s_runk tMv1 Z 2 rfl rfl ?_; clear Z a; intro a Z
     refine s_end Z [0, 1, 4, 5, 6, 16, 17, 18, 20, 21, 22, 23, 24, 25, 7, 26, 27, 28, 29, 30, 31, 32, 33] rfl ?_; clear Z; intro Z
     refine p_then ?_
     exact ⟨from_, from_ + ((to_ - from_).tdiv 2), Z.sub (ts := [0, 1, 4, 5, 6, 7, 16, 17, 18, 20, 21, 22, 23, 24, 25, 26, 27, 28, 29, 30, 31, 32]) rfl, ⟨I3, (H.sub [(0, true)] rfl).eq rfl⟩, hF⟩
    ·replace hF := ite_f hc3 hF
     obtain ⟨hg5, hF⟩ := chk_in hF
     refine f_region Z ?_; clear Z; intro Z
     refine s_runk tMv1 Z 1 rfl rfl ?_; clear Z a; intro a Z
     refine s_ob Z (v := .int .i64 (from_ + ((to_ - from_).tdiv 2) + 1)) rfl rfl (by decide) rfl (Ob_add rfl rfl rfl (wrI hg5)) ?_; clear Z a; intro a Z
     refine s_runk tMv1 Z 1 rfl rfl ?_; clear Z a; intro a Z
     refine s_end Z [0, 1, 4, 5, 6, 16, 17, 18, 20, 21, 22, 23, 24, 25, 7, 26, 27, 28, 29, 30, 31, 32, 34, 35] rfl ?_; clear Z; intro Z
     refine p_then ?_
     exact ⟨from_ + ((to_ - from_).tdiv 2) + 1, to_, Z.sub (ts := [0, 1, 4, 5, 6, 7, 16, 17, 18, 20, 21, 22, 23, 24, 25, 26, 27, 28, 29, 30, 31, 32]) rfl, ⟨I3, (H.sub [(0, true)] rfl).eq rfl⟩, hF⟩

def F_vers_At (l : List ECell) (t : Int) : Option (ByteArray × Bool) := (F_vers_upto l t).bind fun u => (chk ((!(u == 0)) = true → inI (u - 1)) (chk ((!(u == 0)) = true → (0 : Int) ≤ u - 1 ∧ u - 1 < (l.length : Int)) (if ((u == 0) || ((l.getD (u - 1).toNat default).del)) = true then (some (⟨#[]⟩, false)) else (chk (inI (u - 1)) (chk ((0 : Int) ≤ u - 1 ∧ u - 1 < (l.length : Int)) (some ((l.getD (u - 1).toNat default).val, true)))))))

set_option maxHeartbeats 1000000 in
theorem c_vers_At {I D : Dm} {l : List ECell} {v1_l : Value} {t : Int} {w : World} {rr : ByteArray × Bool} (hF : F_vers_At l t = some rr) (H : St I D w [SlC NECell v1_l l]) :
  Calls Try.prog 54 #[v1_l, .int .u64 t] w (Ret fun vv w' => vv = .tuple #[.string rr.1, .bool rr.2] ∧ ∃ I', Hf I D w I' w' []) := by
 replace H := H.hf
 unfold F_vers_At at hF
 refine f_enter 26 Try.func54 rfl rfl (Nat.le_of_ble_eq_true rfl) fun a Z => ?_
 replace Z := Z.sub (ts := [0, 1]) rfl
 refine wp_seq (f_region Z ?_); clear Z; intro Z
 refine s_runk tMv1 Z 2 rfl rfl ?_; clear Z a; intro a Z
 refine s_end Z [0, 1, 4, 5] rfl ?_; clear Z; intro Z
 refine p_then (wp_seq ?_)
 obtain ⟨u, hx1, hF⟩ := bnd_in hF
 refine f_region Z ?_; clear Z; intro Z
 refine s_runk tMv1 Z 2 rfl rfl ?_; clear Z a; intro a Z
 refine h_call Z H (js := [(0, true)]) rfl (caps := #[]) fn_79_YMv1 rfl rfl rfl rfl rfl (by decide) rfl rfl (fun D1 hS => have hq := c_vers_upto hx1 hS; hq) ?_; clear Z a; intro vv a w1 D2 hr hF2 Z
 obtain ⟨rfl, I1, K⟩ := hr
 have H : Hf I D w I1 w1 [SlC NECell v1_l l] := hF2 K
 clear hF2 K
 refine s_runk tMv1 Z 1 rfl rfl ?_; clear Z a; intro a Z
 refine s_end Z [0, 4, 5, 6] rfl ?_; clear Z; intro Z
 refine p_then (wp_seq ?_)
 refine wp_seq ?_
 obtain ⟨hg1, hF⟩ := chk_in hF
 obtain ⟨hg2, hF⟩ := chk_in hF
 refine f_region Z ?_; clear Z; intro Z
 refine s_runk tMv1 Z 3 rfl rfl ?_; clear Z a; intro a Z
 refine g_ob Z (p := (!(u == 0))) (v := v1_l) (S' := [(0, v1_l)]) rfl rfl rfl (wantB_f _) rfl (by decide) (fun hp hS => hS.sub (ts := [0]) rfl) (fun hp => Ob_c tMv1 rfl) ?_; clear Z a; intro a Z
 refine g_ob Z (p := (!(u == 0))) (v := .int .i64 u) (S' := [(6, .int .i64 u)]) rfl rfl rfl (wantB_f _) rfl (by decide) (fun hp hS => hS.sub (ts := [6]) rfl) (fun hp => Ob_c tMv1 rfl) ?_; clear Z a; intro a Z
 refine g_ob Z (p := (!(u == 0))) (v := .int .i64 (u - 1)) (S' := [(14, .int .i64 u)]) rfl rfl rfl (wantB_f _) rfl (by decide) (fun hp hS => (hS.conv (t := 14) rfl (cond_t hp)).sub (ts := [14]) rfl) (fun hp => Ob_sub rfl rfl rfl (wrI (hg1 hp))) ?_; clear Z a; intro a Z
 refine g_ob Z (p := (!(u == 0))) (v := .pointer (some ⟨blkOf v1_l, oofOf v1_l + (u - 1).toNat * 3, none⟩)) (S' := [(13, v1_l), (15, .int .i64 (u - 1))]) rfl rfl rfl (wantB_f _) rfl (by decide) (fun hp hS => ((hS.conv (t := 13) rfl (cond_t hp)).conv (t := 15) rfl (cond_t hp)).sub (ts := [13, 15]) rfl) (fun hp => Ob_sidx tMv1 rfl rfl rfl rfl (slPl (H.sl 0 rfl) (hg2 hp)) (hg2 hp)) ?_; clear Z a; intro a Z
 refine g_ob Z (p := (!(u == 0))) (v := .pointer (some ⟨blkOf v1_l, oofOf v1_l + (u - 1).toNat * 3 + 2, none⟩)) (S' := [(16, .pointer (some ⟨blkOf v1_l, oofOf v1_l + (u - 1).toNat * 3, none⟩))]) rfl rfl rfl (wantB_f _) rfl (by decide) (fun hp hS => (hS.conv (t := 16) rfl (cond_t hp)).sub (ts := [16]) rfl) (fun hp => Ob_c tMv1 rfl) ?_; clear Z a; intro a Z
 refine g_ob Z (p := (!(u == 0))) (v := .bool ((l.getD (u - 1).toNat default).del)) (S' := [(17, .pointer (some ⟨blkOf v1_l, oofOf v1_l + (u - 1).toNat * 3 + 2, none⟩))]) rfl rfl rfl (wantB_f _) rfl (by decide) (fun hp hS => (hS.conv (t := 17) rfl (cond_t hp)).sub (ts := [17]) rfl) (fun hp => Ob_load tMv1 rfl rfl rfl ((slFl (H.sl 0 rfl) (hg2 hp)) 2 _ rfl)) ?_; clear Z a; intro a Z
 refine s_ob Z (v := .bool ((u == 0) || ((l.getD (u - 1).toNat default).del))) rfl rfl (by decide) rfl (Ob_pick rfl rfl rfl rfl (pick_or _ _)) ?_; clear Z a; intro a Z
 refine s_end Z [0, 4, 5, 6, 19] rfl ?_; clear Z; intro Z
 refine p_then ?_
 refine f_cond Z rfl (fun hc1 => ?_) (fun hc1 => ?_)
 ·replace hF := ite_t hc1 hF
  refine wp_seq (f_region Z ?_); clear Z; intro Z
  refine s_runk tMv1 Z 2 rfl rfl ?_; clear Z a; intro a Z
  refine s_end Z [0, 4, 5, 6] rfl ?_; clear Z; intro Z
  refine p_then (wp_ret ?_)
  refine p_then_r ?_
  obtain rfl := some_in hF
  exact f_ret Z (run_results2 rfl Z rfl rfl) ⟨rfl, I1, (H.sub [] rfl).eq rfl⟩
 ·replace hF := ite_f hc1 hF
  refine wp_skip ?_
  refine p_then (wp_seq ?_)
  obtain ⟨hg3, hF⟩ := chk_in hF
  obtain ⟨hg4, hF⟩ := chk_in hF
  refine f_region Z ?_; clear Z; intro Z
  refine s_runk tMv1 Z 2 rfl rfl ?_; clear Z a; intro a Z
  refine s_ob Z (v := .int .i64 (u - 1)) rfl rfl (by decide) rfl (Ob_sub rfl rfl rfl (wrI hg3)) ?_; clear Z a; intro a Z
  refine s_ob Z (v := .pointer (some ⟨blkOf v1_l, oofOf v1_l + (u - 1).toNat * 3, none⟩)) rfl rfl (by decide) rfl (Ob_sidx tMv1 rfl rfl rfl rfl (slPl (H.sl 0 rfl) hg4) hg4) ?_; clear Z a; intro a Z
  refine s_runk tMv1 Z 1 rfl rfl ?_; clear Z a; intro a Z
  refine s_ob Z (v := .string ((l.getD (u - 1).toNat default).val)) rfl rfl (by decide) rfl (Ob_load tMv1 rfl rfl rfl ((slFl (H.sl 0 rfl) hg4) 1 _ rfl)) ?_; clear Z a; intro a Z
  refine s_runk tMv1 Z 2 rfl rfl ?_; clear Z a; intro a Z
  refine s_end Z [4, 5] rfl ?_; clear Z; intro Z
  refine p_then (wp_ret ?_)
  obtain rfl := some_in hF
  exact f_ret Z (run_results2 rfl Z rfl rfl) ⟨rfl, I1, (H.sub [] rfl).eq rfl⟩

def F_mvcc_Store_Get (s0 : Emvcc_Store) (k : ByteArray) (t : Int) : Option (ByteArray × Bool × Emvcc_Store) := (F_mvcc_Store_none s0).bind fun n0 => (if (n0) = true then (some (⟨#[]⟩, false, s0)) else (optE s0.t ((F_tree_Tree_api_Cell_Get_nil k).bind fun n0_2 => ((F_vers_At n0_2.1 t).bind fun a0 => (some (a0.1, a0.2, ({ s0 with t := none } : Emvcc_Store))))) (fun x => (F_tree_Tree_api_Cell_Get x k).bind fun g => ((F_vers_At g.1 t).bind fun a0_2 => (some (a0_2.1, a0_2.2, ({ s0 with t := some x } : Emvcc_Store)))))))

set_option maxHeartbeats 1000000 in
theorem c_mvcc_Store_Get {I D : Dm} {b_s0 : Nat} {s0 : Emvcc_Store} {k : ByteArray} {t : Int} {w : World} {rr : ByteArray × Bool × Emvcc_Store} (hF : F_mvcc_Store_Get s0 k t = some rr) (H : St I D w [OEmvcc_Store b_s0 s0]) :
  Calls Try.prog 28 #[.pointer (some ⟨b_s0, 0, none⟩), .string k, .int .u64 t] w (Ret fun vv w' => vv = .tuple #[.string rr.1, .bool rr.2.1] ∧ ∃ I', Hf I D w I' w' [OEmvcc_Store b_s0 rr.2.2]) := by
 replace H := H.hf
 unfold F_mvcc_Store_Get at hF
 refine f_enter 26 Try.func28 rfl rfl (Nat.le_of_ble_eq_true rfl) fun a Z => ?_
 replace Z := Z.sub (ts := [0, 1, 2]) rfl
 refine wp_seq (f_region Z ?_); clear Z; intro Z
 refine s_runk tMv1 Z 2 rfl rfl ?_; clear Z a; intro a Z
 refine s_end Z [0, 1, 2, 6, 7] rfl ?_; clear Z; intro Z
 refine p_then (wp_seq ?_)
 refine wp_seq ?_
 obtain ⟨n0, hx1, hF⟩ := bnd_in hF
 refine f_region Z ?_; clear Z; intro Z
 refine s_runk tMv1 Z 1 rfl rfl ?_; clear Z a; intro a Z
 refine h_call Z H (js := [(0, false)]) rfl (caps := #[]) fn_45_YMv1 rfl rfl rfl rfl rfl (by decide) rfl rfl (fun D1 hS => have hq := c_mvcc_Store_none hx1 hS; hq) ?_; clear Z a; intro vv a w1 D2 hr hF2 Z
 obtain ⟨rfl, I1, K⟩ := hr
 have H : Hf I D w I1 w1 [OEmvcc_Store b_s0 s0] := hF2 K
 clear hF2 K
 refine s_end Z [0, 1, 2, 6, 7, 11] rfl ?_; clear Z; intro Z
 refine p_then ?_
 refine f_cond Z rfl (fun hc1 => ?_) (fun hc1 => ?_)
 ·replace hF := ite_t hc1 hF
  refine wp_seq (f_region Z ?_); clear Z; intro Z
  refine s_runk tMv1 Z 2 rfl rfl ?_; clear Z a; intro a Z
  refine s_end Z [0, 1, 2, 6, 7] rfl ?_; clear Z; intro Z
  refine p_then (wp_ret ?_)
  refine p_then_r ?_
  obtain rfl := some_in hF
  exact f_ret Z (run_results2 rfl Z rfl rfl) ⟨rfl, I1, (H.sub [(0, false)] rfl).eq rfl⟩
 ·replace hF := ite_f hc1 hF
  refine wp_skip ?_
  refine p_then (wp_seq ?_)
  obtain ⟨v1, H⟩ := H.openX 0 rfl
  replace H : Hf I D w I1 w1 [BxC b_s0 88 [v1, .int .u64 s0.last, .int .i64 s0.n], PtC OEtree_Tree_api_Cell v1 s0.t] := H
  rcases optE_in hF with ⟨ho1, hF⟩ | ⟨x, ho1, hF⟩
  ·obtain ⟨hv, H⟩ := H.optN 1 rfl ho1
   subst hv
   replace H : Hf I D w I1 w1 [BxC b_s0 88 [.pointer none, .int .u64 s0.last, .int .i64 s0.n]] := H
   obtain ⟨n0_2, hx2, hF⟩ := bnd_in hF
   refine f_region Z ?_; clear Z; intro Z
   refine s_runk tMv1 Z 3 rfl rfl ?_; clear Z a; intro a Z
   refine s_ob Z (v := .pointer none) rfl rfl (by decide) rfl (Ob_load tMv1 rfl rfl rfl ((H.bx 0 rfl).cell 0 rfl)) ?_; clear Z a; intro a Z
   refine s_runk tMv1 Z 1 rfl rfl ?_; clear Z a; intro a Z
   refine h_call Z H (js := []) rfl (caps := #[]) fn_53_YMv1 rfl rfl rfl rfl rfl (by decide) rfl rfl (fun D1 hS => have hq := c_tree_Tree_api_Cell_Get_nil hx2 hS; hq) ?_; clear Z a; intro vv a w2 D2 hr hF2 Z
   obtain ⟨q1, rfl, I2, K⟩ := hr
   have H : Hf I D w I2 w2 [SlC NECell q1 n0_2.1, BxC b_s0 88 [.pointer none, .int .u64 s0.last, .int .i64 s0.n]] := hF2 K
   clear hF2 K
   refine s_runk tMv1 Z 5 rfl rfl ?_; clear Z a; intro a Z
   refine s_end Z [2, 6, 7, 8] rfl ?_; clear Z; intro Z
   refine p_then (wp_seq ?_)
   obtain ⟨a0, hx3, hF⟩ := bnd_in hF
   refine f_region Z ?_; clear Z; intro Z
   refine s_runk tMv1 Z 2 rfl rfl ?_; clear Z a; intro a Z
   refine h_call Z H (js := [(0, true)]) rfl (caps := #[]) fn_54_YMv1 rfl rfl rfl rfl rfl (by decide) rfl rfl (fun D1 hS => have hq := c_vers_At hx3 hS; hq) ?_; clear Z a; intro vv a w3 D2 hr hF2 Z
   obtain ⟨rfl, I3, K⟩ := hr
   have H : Hf I D w I3 w3 [SlC NECell q1 n0_2.1, BxC b_s0 88 [.pointer none, .int .u64 s0.last, .int .i64 s0.n]] := hF2 K
   clear hF2 K
   refine s_runk tMv1 Z 4 rfl rfl ?_; clear Z a; intro a Z
   refine s_end Z [6, 7] rfl ?_; clear Z; intro Z
   refine p_then (wp_ret ?_)
   replace H : Hf I D w I3 w3 [PtC OEtree_Tree_api_Cell (.pointer none) none, SlC NECell q1 n0_2.1, BxC b_s0 88 [.pointer none, .int .u64 s0.last, .int .i64 s0.n]] := H.mkN OEtree_Tree_api_Cell
   replace H : Hf I D w I3 w3 [OEmvcc_Store b_s0 ({ s0 with t := none } : Emvcc_Store), SlC NECell q1 n0_2.1] := H.shutX (.pointer none) [(2, false), (0, false)] rfl
   obtain rfl := some_in hF
   exact f_ret Z (run_results2 rfl Z rfl rfl) ⟨rfl, I3, (H.sub [(0, false)] rfl).eq rfl⟩
  ·obtain ⟨b1, hv, H⟩ := H.optS 1 rfl ho1
   subst hv
   replace H : Hf I D w I1 w1 [OEtree_Tree_api_Cell b1 x, BxC b_s0 88 [.pointer (some ⟨b1, 0, none⟩), .int .u64 s0.last, .int .i64 s0.n]] := H
   obtain ⟨g, hx4, hF⟩ := bnd_in hF
   refine f_region Z ?_; clear Z; intro Z
   refine s_runk tMv1 Z 3 rfl rfl ?_; clear Z a; intro a Z
   refine s_ob Z (v := .pointer (some ⟨b1, 0, none⟩)) rfl rfl (by decide) rfl (Ob_load tMv1 rfl rfl rfl ((H.bx 1 rfl).cell 0 rfl)) ?_; clear Z a; intro a Z
   refine s_runk tMv1 Z 1 rfl rfl ?_; clear Z a; intro a Z
   refine h_call Z H (js := [(0, false)]) rfl (caps := #[]) fn_53_YMv1 rfl rfl rfl rfl rfl (by decide) rfl rfl (fun D1 hS => have hq := c_tree_Tree_api_Cell_Get hx4 hS; hq) ?_; clear Z a; intro vv a w4 D2 hr hF2 Z
   obtain ⟨q2, rfl, I4, K⟩ := hr
   have H : Hf I D w I4 w4 [OEtree_Tree_api_Cell b1 x, SlC NECell q2 g.1, BxC b_s0 88 [.pointer (some ⟨b1, 0, none⟩), .int .u64 s0.last, .int .i64 s0.n]] := hF2 K
   clear hF2 K
   refine s_runk tMv1 Z 5 rfl rfl ?_; clear Z a; intro a Z
   refine s_end Z [2, 6, 7, 8] rfl ?_; clear Z; intro Z
   refine p_then (wp_seq ?_)
   obtain ⟨a0_2, hx5, hF⟩ := bnd_in hF
   refine f_region Z ?_; clear Z; intro Z
   refine s_runk tMv1 Z 2 rfl rfl ?_; clear Z a; intro a Z
   refine h_call Z H (js := [(1, true)]) rfl (caps := #[]) fn_54_YMv1 rfl rfl rfl rfl rfl (by decide) rfl rfl (fun D1 hS => have hq := c_vers_At hx5 hS; hq) ?_; clear Z a; intro vv a w5 D2 hr hF2 Z
   obtain ⟨rfl, I5, K⟩ := hr
   have H : Hf I D w I5 w5 [OEtree_Tree_api_Cell b1 x, SlC NECell q2 g.1, BxC b_s0 88 [.pointer (some ⟨b1, 0, none⟩), .int .u64 s0.last, .int .i64 s0.n]] := hF2 K
   clear hF2 K
   refine s_runk tMv1 Z 4 rfl rfl ?_; clear Z a; intro a Z
   refine s_end Z [6, 7] rfl ?_; clear Z; intro Z
   refine p_then (wp_ret ?_)
   replace H : Hf I D w I5 w5 [PtC OEtree_Tree_api_Cell (.pointer (some ⟨b1, 0, none⟩)) (some x), SlC NECell q2 g.1, BxC b_s0 88 [.pointer (some ⟨b1, 0, none⟩), .int .u64 s0.last, .int .i64 s0.n]] := H.mkS (K := OEtree_Tree_api_Cell) 0 rfl
   replace H : Hf I D w I5 w5 [OEmvcc_Store b_s0 ({ s0 with t := some x } : Emvcc_Store), SlC NECell q2 g.1] := H.shutX (.pointer (some ⟨b1, 0, none⟩)) [(2, false), (0, false)] rfl
   obtain rfl := some_in hF
   exact f_ret Z (run_results2 rfl Z rfl rfl) ⟨rfl, I5, (H.sub [(0, false)] rfl).eq rfl⟩

end Go.Proofs.Ytglfajjcgbfehaa
