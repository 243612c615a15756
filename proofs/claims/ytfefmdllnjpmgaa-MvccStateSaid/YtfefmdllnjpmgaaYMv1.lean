/- Many versions: reading. -/
import Derived.Test.YtfefmdllnjpmgaaYMv
namespace Go.Proofs.Ytfefmdllnjpmgaa
open Go.RowKit
def tMv1L : TabL := ⟨[(58368, 0), (58370, 2), (72704, 0), (72705, 1), (72706, 2)], [], [], [(33, (39, 2)), (62, (71, 3)), (73, (9, 1))], [(3, (1, false)), (4, (1, false)), (9, (1, false)), (23, (1, false)), (55, (1, false)), (71, (3, true)), (73, (1, false))]⟩

def tMv1 : Tab Try.prog := ⟨tMv1L, by kernel_rfl⟩

theorem fn_23_YMv1 : IsFn Try.prog 23 := ⟨_, Try.func23, by kernel_rfl, by kernel_rfl⟩

theorem fn_25_YMv1 : IsFn Try.prog 25 := ⟨_, Try.func25, by kernel_rfl, by kernel_rfl⟩

theorem fn_27_YMv1 : IsFn Try.prog 27 := ⟨_, Try.func27, by kernel_rfl, by kernel_rfl⟩

theorem fn_30_YMv1 : IsFn Try.prog 30 := ⟨_, Try.func30, by kernel_rfl, by kernel_rfl⟩

theorem fn_31_YMv1 : IsFn Try.prog 31 := ⟨_, Try.func31, by kernel_rfl, by kernel_rfl⟩

theorem fn_40_YMv1 : IsFn Try.prog 40 := ⟨_, Try.func40, by kernel_rfl, by kernel_rfl⟩

theorem fn_42_YMv1 : IsFn Try.prog 42 := ⟨_, Try.func42, by kernel_rfl, by kernel_rfl⟩

theorem fn_45_YMv1 : IsFn Try.prog 45 := ⟨_, Try.func45, by kernel_rfl, by kernel_rfl⟩

theorem fn_48_YMv1 : IsFn Try.prog 48 := ⟨_, Try.func48, by kernel_rfl, by kernel_rfl⟩

theorem fn_55_YMv1 : IsFn Try.prog 55 := ⟨_, Try.func55, by kernel_rfl, by kernel_rfl⟩

theorem fn_57_YMv1 : IsFn Try.prog 57 := ⟨_, Try.func57, by kernel_rfl, by kernel_rfl⟩

theorem fn_58_YMv1 : IsFn Try.prog 58 := ⟨_, Try.func58, by kernel_rfl, by kernel_rfl⟩

theorem E_33_YMv1 : Elem Try.prog 33 39 2 32 := ⟨Try.underlying33, by
 have h : (Try.prog.info? 39).map (fun i => (i.zero, i.size, i.bytes)) = some (some (.agg #[.string ByteArray.empty, .string ByteArray.empty]), 2, 32) := by kernel_rfl
 obtain ⟨i, hi, h1⟩ := Option.map_eq_some_iff.1 h
 simp only [Prod.mk.injEq] at h1
 exact ⟨i, _, hi, h1.1, h1.2.1, h1.2.2, by rfl⟩, by decide⟩

theorem E_73_YMv1 : Elem Try.prog 73 9 1 16 := ⟨Try.underlying73, by
 have h : (Try.prog.info? 9).map (fun i => (i.zero, i.size, i.bytes)) = some (some (.string ByteArray.empty), 1, 16) := by kernel_rfl
 obtain ⟨i, hi, h1⟩ := Option.map_eq_some_iff.1 h
 simp only [Prod.mk.injEq] at h1
 exact ⟨i, _, hi, h1.1, h1.2.1, h1.2.2, by rfl⟩, by decide⟩

def F_vers_Right_l1 (l : List ECell) (rc : (Int × Int) → Option Bool) (sg : Int × Int) : Option Bool := match sg with | (ahead, x) => if (decide (x < (l.length : Int))) = true then (chk ((0 : Int) ≤ x ∧ x < (l.length : Int)) (if (decide ((l.getD (x).toNat default).ts ≤ ahead)) = true then (some false) else (chk (inI (x + 1)) (rc ((l.getD (x).toNat default).ts, x + 1))))) else (some true)

def F_vers_Right (l : List ECell) : Option Bool := iter (F_vers_Right_l1 l) FU (0, 0)

set_option maxHeartbeats 1000000 in
theorem c_vers_Right {I D : Dm} {l : List ECell} {v1_l : Value} {w : World} {rr : Bool} (hF : F_vers_Right l = some rr) (H : St I D w [SlC NECell v1_l l]) :
  Calls Try.prog 57 #[v1_l] w (Ret fun vv w' => vv = .bool rr ∧ ∃ I', Hf I D w I' w' []) := by
 replace H := H.hf
 unfold F_vers_Right at hF
 refine f_enter 19 Try.func57 rfl rfl (Nat.le_of_ble_eq_true rfl) fun a Z => ?_
 replace Z := Z.sub (ts := [0]) rfl
 refine wp_seq (f_region Z ?_); clear Z; intro Z
 refine s_runk tMv1 Z 1 rfl rfl ?_; clear Z a; intro a Z
 refine s_end Z [0, 2] rfl ?_; clear Z; intro Z
 refine p_then (wp_seq (f_region Z ?_)); clear Z; intro Z
 refine s_runk tMv1 Z 1 rfl rfl ?_; clear Z a; intro a Z
 refine s_end Z [0, 2, 3] rfl ?_; clear Z; intro Z
 refine p_then (wp_seq ?_)
 refine wp_seq (f_region Z ?_); clear Z; intro Z
 refine s_runk tMv1 Z 1 rfl rfl ?_; clear Z a; intro a Z
 refine s_ob Z (v := .int .i64 (l.length : Int)) rfl rfl (by decide) rfl (Ob_slen tMv1 rfl rfl rfl (H.slshape 0 rfl)) ?_; clear Z a; intro a Z
 refine s_runk tMv1 Z 1 rfl rfl ?_; clear Z a; intro a Z
 refine s_end Z [2, 3, 6, 7, 8] rfl ?_; clear Z; intro Z
 refine p_then (wp_block ?_)
 refine f_iter hF (fun sg a' w' => match sg with | (ahead, x) => Sl 19 [(2, .bool false), (3, .int .u64 ahead), (6, v1_l), (7, .int .i64 (l.length : Int)), (8, .int .i64 x)] a' ∧ ∃ I2, Hf I D w I2 w' [SlC NECell v1_l l]) ⟨Z.sub (ts := [2, 3, 6, 7, 8]) rfl, ⟨I, (H.sub [(0, true)] rfl).eq rfl⟩⟩ ?_
 clear Z H hF a
 rintro rc ⟨ahead, x⟩ a w1 ⟨Z, I1, H⟩ hF
 unfold F_vers_Right_l1 at hF
 try dsimp only at hF
 refine wp_seq (f_region Z ?_); clear Z; intro Z
 refine s_runk tMv1 Z 1 rfl rfl ?_; clear Z a; intro a Z
 refine s_end Z [2, 3, 6, 7, 8, 9] rfl ?_; clear Z; intro Z
 refine p_then (wp_seq ?_)
 refine f_cond Z rfl (fun hc1 => ?_) (fun hc1 => ?_)
 ·replace hF := ite_t hc1 hF
  refine wp_skip ?_
  refine p_then (wp_seq ?_)
  refine wp_block ?_
  refine wp_seq ?_
  obtain ⟨hg1, hF⟩ := chk_in hF
  refine f_region Z ?_; clear Z; intro Z
  refine s_ob Z (v := .pointer (some ⟨blkOf v1_l, oofOf v1_l + (x).toNat * 3, none⟩)) rfl rfl (by decide) rfl (Ob_sidx tMv1 rfl rfl rfl rfl (slPl (H.sl 0 rfl) hg1) hg1) ?_; clear Z a; intro a Z
  refine s_ob Z (v := .agg #[.int .u64 ((l.getD (x).toNat default).ts), .string ((l.getD (x).toNat default).val), .bool ((l.getD (x).toNat default).del)]) rfl rfl (by decide) rfl (Ob_loads tMv1 rfl rfl rfl ((slFl (H.sl 0 rfl) hg1).part 0 rfl)) ?_; clear Z a; intro a Z
  refine h_alloc Z H (cl := [.int .u64 0, .string ByteArray.empty, .bool false]) (z := .agg #[.int .u64 0, .string ByteArray.empty, .bool false]) rfl rfl rfl (by decide) rfl (by kernel_rfl) rfl ?_; clear Z a H; intro a w2 b1 H Z
  refine h_store tMv1 Z H 0 rfl rfl rfl rfl rfl rfl rfl rfl rfl (one_cons rfl (one_cons rfl (one_cons rfl one_nil))) (Nat.le_of_ble_eq_true rfl) rfl ?_; clear H; intro w3 H
  dsimp only [List.eraseIdx] at H
  refine s_end Z [2, 3, 6, 7, 8, 9, 10, 11, 5] rfl ?_; clear Z; intro Z
  refine p_then (wp_seq ?_)
  refine wp_seq (f_region Z ?_); clear Z; intro Z
  refine s_runk tMv1 Z 1 rfl rfl ?_; clear Z a; intro a Z
  refine s_ob Z (v := .int .u64 ((l.getD (x).toNat default).ts)) rfl rfl (by decide) rfl (Ob_load tMv1 rfl rfl rfl ((H.bx 0 rfl).cell 0 rfl)) ?_; clear Z a; intro a Z
  refine s_runk tMv1 Z 2 rfl rfl ?_; clear Z a; intro a Z
  refine s_end Z [2, 3, 6, 7, 8, 9, 10, 11, 5, 12, 13, 14, 15] rfl ?_; clear Z; intro Z
  refine p_then ?_
  refine f_cond Z rfl (fun hc2 => ?_) (fun hc2 => ?_)
  ·replace hF := ite_t hc2 hF
   refine wp_seq (f_region Z ?_); clear Z; intro Z
   refine s_runk tMv1 Z 1 rfl rfl ?_; clear Z a; intro a Z
   refine s_end Z [2, 3, 6, 7, 8, 9, 10, 11, 5, 12, 13, 14, 15] rfl ?_; clear Z; intro Z
   refine p_then (wp_ret ?_)
   refine p_then_r ?_
   refine p_blk_r ?_
   refine p_then_r ?_
   refine p_then_r ?_
   refine p_blk_r ?_
   refine p_then_r ?_
   obtain rfl := some_in hF
   exact f_ret Z (run_results1 rfl Z rfl) ⟨rfl, I1, (H.sub [] rfl).eq rfl⟩
  ·replace hF := ite_f hc2 hF
   refine wp_skip ?_
   refine p_then ?_
   refine f_region Z ?_; clear Z; intro Z
   refine s_runk tMv1 Z 1 rfl rfl ?_; clear Z a; intro a Z
   refine s_ob Z (v := .int .u64 ((l.getD (x).toNat default).ts)) rfl rfl (by decide) rfl (Ob_load tMv1 rfl rfl rfl ((H.bx 0 rfl).cell 0 rfl)) ?_; clear Z a; intro a Z
   refine s_runk tMv1 Z 1 rfl rfl ?_; clear Z a; intro a Z
   refine s_end Z [2, 3, 6, 7, 8, 9, 10, 11, 5, 12, 13, 14, 15, 16, 17] rfl ?_; clear Z; intro Z
   refine p_blk ?_
   refine p_then ?_
   obtain ⟨hg2, hF⟩ := chk_in hF
   refine f_region Z ?_; clear Z; intro Z
   refine s_ob Z (v := .int .i64 (x + 1)) rfl rfl (by decide) rfl (Ob_add rfl rfl rfl (wrI hg2)) ?_; clear Z a; intro a Z
   refine s_runk tMv1 Z 1 rfl rfl ?_; clear Z a; intro a Z
   refine s_end Z [2, 3, 6, 7, 8, 9, 10, 11, 5, 12, 13, 14, 15, 16, 17, 18] rfl ?_; clear Z; intro Z
   refine p_then ?_
   exact ⟨((l.getD (x).toNat default).ts, x + 1), ⟨Z.sub (ts := [2, 3, 6, 7, 8]) rfl, ⟨I1, (H.sub [(1, true)] rfl).eq rfl⟩⟩, hF⟩
 ·replace hF := ite_f hc1 hF
  refine wp_exit ?_
  refine p_then_x ?_
  refine p_then_x ?_
  refine f_exit_here ?_
  refine p_then (wp_seq (f_region Z ?_)); clear Z; intro Z
  refine s_runk tMv1 Z 1 rfl rfl ?_; clear Z a; intro a Z
  refine s_end Z [2] rfl ?_; clear Z; intro Z
  refine p_then (wp_ret ?_)
  obtain rfl := some_in hF
  exact f_ret Z (run_results1 rfl Z rfl) ⟨rfl, I1, (H.sub [] rfl).eq rfl⟩

def F_vers_scan_l1 (l : List ECell) (t : Int) (rc : Int → Option Int) (sg : Int) : Option Int := match sg with | n0 => chk ((decide (n0 > 0)) = true → inI (n0 - 1)) (chk ((decide (n0 > 0)) = true → (0 : Int) ≤ n0 - 1 ∧ n0 - 1 < (l.length : Int)) (if ((decide (n0 > 0)) && (decide ((l.getD (n0 - 1).toNat default).ts > t))) = true then (chk (inI (n0 - 1)) (rc (n0 - 1))) else (some n0)))

def F_vers_scan (l : List ECell) (t : Int) : Option Int := iter (F_vers_scan_l1 l t) FU (l.length : Int)

set_option maxHeartbeats 1000000 in
theorem c_vers_scan {I D : Dm} {l : List ECell} {v1_l : Value} {t : Int} {w : World} {rr : Int} (hF : F_vers_scan l t = some rr) (H : St I D w [SlC NECell v1_l l]) :
  Calls Try.prog 58 #[v1_l, .int .u64 t] w (Ret fun vv w' => vv = .int .i64 rr ∧ ∃ I', Hf I D w I' w' []) := by
 replace H := H.hf
 unfold F_vers_scan at hF
 refine f_enter 23 Try.func58 rfl rfl (Nat.le_of_ble_eq_true rfl) fun a Z => ?_
 replace Z := Z.sub (ts := [0, 1]) rfl
 refine wp_seq (f_region Z ?_); clear Z; intro Z
 refine s_runk tMv1 Z 1 rfl rfl ?_; clear Z a; intro a Z
 refine s_end Z [0, 1, 4] rfl ?_; clear Z; intro Z
 refine p_then (wp_seq (f_region Z ?_)); clear Z; intro Z
 refine s_runk tMv1 Z 1 rfl rfl ?_; clear Z a; intro a Z
 refine s_ob Z (v := .int .i64 (l.length : Int)) rfl rfl (by decide) rfl (Ob_slen tMv1 rfl rfl rfl (H.slshape 0 rfl)) ?_; clear Z a; intro a Z
 refine s_runk tMv1 Z 1 rfl rfl ?_; clear Z a; intro a Z
 refine s_end Z [0, 1, 4, 5] rfl ?_; clear Z; intro Z
 refine p_then (wp_seq ?_)
 refine wp_block ?_
 refine f_iter hF (fun sg a' w' => match sg with | n0 => Sl 23 [(0, v1_l), (1, .int .u64 t), (4, .int .i64 0), (5, .int .i64 n0)] a' ∧ ∃ I2, Hf I D w I2 w' [SlC NECell v1_l l]) ⟨Z.sub (ts := [0, 1, 4, 5]) rfl, ⟨I, (H.sub [(0, true)] rfl).eq rfl⟩⟩ ?_
 clear Z H hF a
 rintro rc n0 a w1 ⟨Z, I1, H⟩ hF
 unfold F_vers_scan_l1 at hF
 try dsimp only at hF
 refine wp_seq ?_
 refine wp_seq ?_
 obtain ⟨hg1, hF⟩ := chk_in hF
 obtain ⟨hg2, hF⟩ := chk_in hF
 refine f_region Z ?_; clear Z; intro Z
 refine s_runk tMv1 Z 3 rfl rfl ?_; clear Z a; intro a Z
 refine g_ob Z (p := (decide (n0 > 0))) (v := v1_l) (S' := [(0, v1_l)]) rfl rfl rfl (wantB_t _) rfl (by decide) (fun hp hS => hS.sub (ts := [0]) rfl) (fun hp => Ob_c tMv1 rfl) ?_; clear Z a; intro a Z
 refine g_ob Z (p := (decide (n0 > 0))) (v := .int .i64 n0) (S' := [(5, .int .i64 n0)]) rfl rfl rfl (wantB_t _) rfl (by decide) (fun hp hS => hS.sub (ts := [5]) rfl) (fun hp => Ob_c tMv1 rfl) ?_; clear Z a; intro a Z
 refine g_ob Z (p := (decide (n0 > 0))) (v := .int .i64 (n0 - 1)) (S' := [(12, .int .i64 n0)]) rfl rfl rfl (wantB_t _) rfl (by decide) (fun hp hS => (hS.conv (t := 12) rfl (cond_t hp)).sub (ts := [12]) rfl) (fun hp => Ob_sub rfl rfl rfl (wrI (hg1 hp))) ?_; clear Z a; intro a Z
 refine g_ob Z (p := (decide (n0 > 0))) (v := .pointer (some ⟨blkOf v1_l, oofOf v1_l + (n0 - 1).toNat * 3, none⟩)) (S' := [(11, v1_l), (13, .int .i64 (n0 - 1))]) rfl rfl rfl (wantB_t _) rfl (by decide) (fun hp hS => ((hS.conv (t := 11) rfl (cond_t hp)).conv (t := 13) rfl (cond_t hp)).sub (ts := [11, 13]) rfl) (fun hp => Ob_sidx tMv1 rfl rfl rfl rfl (slPl (H.sl 0 rfl) (hg2 hp)) (hg2 hp)) ?_; clear Z a; intro a Z
 refine g_ob Z (p := (decide (n0 > 0))) (v := .pointer (some ⟨blkOf v1_l, oofOf v1_l + (n0 - 1).toNat * 3, none⟩)) (S' := [(14, .pointer (some ⟨blkOf v1_l, oofOf v1_l + (n0 - 1).toNat * 3, none⟩))]) rfl rfl rfl (wantB_t _) rfl (by decide) (fun hp hS => (hS.conv (t := 14) rfl (cond_t hp)).sub (ts := [14]) rfl) (fun hp => Ob_c tMv1 rfl) ?_; clear Z a; intro a Z
 refine g_ob Z (p := (decide (n0 > 0))) (v := .int .u64 ((l.getD (n0 - 1).toNat default).ts)) (S' := [(15, .pointer (some ⟨blkOf v1_l, oofOf v1_l + (n0 - 1).toNat * 3, none⟩))]) rfl rfl rfl (wantB_t _) rfl (by decide) (fun hp hS => (hS.conv (t := 15) rfl (cond_t hp)).sub (ts := [15]) rfl) (fun hp => Ob_load tMv1 rfl rfl rfl ((slFl (H.sl 0 rfl) (hg2 hp)) 0 _ rfl)) ?_; clear Z a; intro a Z
 refine g_ob Z (p := (decide (n0 > 0))) (v := .int .u64 t) (S' := [(1, .int .u64 t)]) rfl rfl rfl (wantB_t _) rfl (by decide) (fun hp hS => hS.sub (ts := [1]) rfl) (fun hp => Ob_c tMv1 rfl) ?_; clear Z a; intro a Z
 refine g_ob Z (p := (decide (n0 > 0))) (v := .bool (decide ((l.getD (n0 - 1).toNat default).ts > t))) (S' := [(16, .int .u64 ((l.getD (n0 - 1).toNat default).ts)), (17, .int .u64 t)]) rfl rfl rfl (wantB_t _) rfl (by decide) (fun hp hS => ((hS.conv (t := 16) rfl (cond_t hp)).conv (t := 17) rfl (cond_t hp)).sub (ts := [16, 17]) rfl) (fun hp => Ob_c tMv1 rfl) ?_; clear Z a; intro a Z
 refine s_ob Z (v := .bool ((decide (n0 > 0)) && (decide ((l.getD (n0 - 1).toNat default).ts > t)))) rfl rfl (by decide) rfl (Ob_pick rfl rfl rfl rfl (pick_and _ _)) ?_; clear Z a; intro a Z
 refine s_end Z [0, 1, 4, 5, 8, 9, 10, 19] rfl ?_; clear Z; intro Z
 refine p_then ?_
 refine f_cond Z rfl (fun hc1 => ?_) (fun hc1 => ?_)
 ·replace hF := ite_t hc1 hF
  refine wp_skip ?_
  refine p_then (wp_block ?_)
  obtain ⟨hg3, hF⟩ := chk_in hF
  refine f_region Z ?_; clear Z; intro Z
  refine s_runk tMv1 Z 1 rfl rfl ?_; clear Z a; intro a Z
  refine s_ob Z (v := .int .i64 (n0 - 1)) rfl rfl (by decide) rfl (Ob_sub rfl rfl rfl (wrI hg3)) ?_; clear Z a; intro a Z
  refine s_runk tMv1 Z 1 rfl rfl ?_; clear Z a; intro a Z
  refine s_end Z [0, 1, 4, 5, 8, 9, 10, 19, 20, 21] rfl ?_; clear Z; intro Z
  refine p_blk ?_
  refine p_then ?_
  exact ⟨(n0 - 1), ⟨Z.sub (ts := [0, 1, 4, 5]) rfl, ⟨I1, (H.sub [(0, true)] rfl).eq rfl⟩⟩, hF⟩
 ·replace hF := ite_f hc1 hF
  refine wp_exit ?_
  refine p_then_x ?_
  refine p_then_x ?_
  refine f_exit_here ?_
  refine p_then (wp_seq (f_region Z ?_)); clear Z; intro Z
  refine s_runk tMv1 Z 2 rfl rfl ?_; clear Z a; intro a Z
  refine s_end Z [4] rfl ?_; clear Z; intro Z
  refine p_then (wp_ret ?_)
  obtain rfl := some_in hF
  exact f_ret Z (run_results1 rfl Z rfl) ⟨rfl, I1, (H.sub [] rfl).eq rfl⟩

def F_vers_upto_k2 (rc : (Int × Int) → Option Int) (from__2 : Int) (to__2 : Int) : Option Int := rc (from__2, to__2)

def F_vers_upto_l1 (l : List ECell) (t : Int) (rc : (Int × Int) → Option Int) (sg : Int × Int) : Option Int := match sg with | (from_, to_) => if (from_ == to_) = true then (some from_) else (chk (inI (to_ - from_)) (chk (inI ((to_ - from_).tdiv 2)) (chk (inI (from_ + ((to_ - from_).tdiv 2))) (chk ((0 : Int) ≤ from_ + ((to_ - from_).tdiv 2) ∧ from_ + ((to_ - from_).tdiv 2) < (l.length : Int)) (if (decide ((l.getD (from_ + ((to_ - from_).tdiv 2)).toNat default).ts > t)) = true then (F_vers_upto_k2 rc from_ (from_ + ((to_ - from_).tdiv 2))) else (chk (inI (from_ + ((to_ - from_).tdiv 2) + 1)) (F_vers_upto_k2 rc (from_ + ((to_ - from_).tdiv 2) + 1) to_)))))))

def F_vers_upto (l : List ECell) (t : Int) : Option Int := (F_vers_Right l).bind fun r0 => (if (!r0) = true then ((F_vers_scan l t).bind fun s0 => (some s0)) else (iter (F_vers_upto_l1 l t) FU (0, (l.length : Int))))

set_option maxHeartbeats 1000000 in
theorem c_vers_upto {I D : Dm} {l : List ECell} {v1_l : Value} {t : Int} {w : World} {rr : Int} (hF : F_vers_upto l t = some rr) (H : St I D w [SlC NECell v1_l l]) :
  Calls Try.prog 48 #[v1_l, .int .u64 t] w (Ret fun vv w' => vv = .int .i64 rr ∧ ∃ I', Hf I D w I' w' []) := by
 replace H := H.hf
 unfold F_vers_upto at hF
 refine f_enter 36 Try.func48 rfl rfl (Nat.le_of_ble_eq_true rfl) fun a Z => ?_
 replace Z := Z.sub (ts := [0, 1]) rfl
 refine wp_seq (f_region Z ?_); clear Z; intro Z
 refine s_runk tMv1 Z 1 rfl rfl ?_; clear Z a; intro a Z
 refine s_end Z [0, 1, 4] rfl ?_; clear Z; intro Z
 refine p_then ?_
 refine f_scope (l := 0) rfl ?_
 refine wp_seq ?_
 refine wp_seq ?_
 obtain ⟨r0, hx1, hF⟩ := bnd_in hF
 refine f_region Z ?_; clear Z; intro Z
 refine s_runk tMv1 Z 1 rfl rfl ?_; clear Z a; intro a Z
 refine h_call Z H (js := [(0, true)]) rfl (caps := #[]) fn_57_YMv1 rfl rfl rfl rfl rfl (by decide) rfl rfl (fun D1 hS => have hq := c_vers_Right hx1 hS; hq) ?_; clear Z a; intro vv a w1 D2 hr hF2 Z
 obtain ⟨rfl, I1, K⟩ := hr
 have H : Hf I D w I1 w1 [SlC NECell v1_l l] := hF2 K
 clear hF2 K
 refine s_runk tMv1 Z 1 rfl rfl ?_; clear Z a; intro a Z
 refine s_end Z [0, 1, 4, 10] rfl ?_; clear Z; intro Z
 refine p_then ?_
 refine f_cond Z rfl (fun hc1 => ?_) (fun hc1 => ?_)
 ·replace hF := ite_t hc1 hF
  refine wp_seq ?_
  obtain ⟨s0, hx2, hF⟩ := bnd_in hF
  refine f_region Z ?_; clear Z; intro Z
  refine s_runk tMv1 Z 2 rfl rfl ?_; clear Z a; intro a Z
  refine h_call Z H (js := [(0, true)]) rfl (caps := #[]) fn_58_YMv1 rfl rfl rfl rfl rfl (by decide) rfl rfl (fun D1 hS => have hq := c_vers_scan hx2 hS; hq) ?_; clear Z a; intro vv a w2 D2 hr hF2 Z
  obtain ⟨rfl, I2, K⟩ := hr
  have H : Hf I D w I2 w2 [SlC NECell v1_l l] := hF2 K
  clear hF2 K
  refine s_runk tMv1 Z 1 rfl rfl ?_; clear Z a; intro a Z
  refine s_end Z [0, 1, 4] rfl ?_; clear Z; intro Z
  refine p_then (wp_ret ?_)
  refine p_then_r ?_
  refine p_jump_r ?_
  obtain rfl := some_in hF
  exact f_ret Z (run_results1 rfl Z rfl) ⟨rfl, I2, (H.sub [] rfl).eq rfl⟩
 ·replace hF := ite_f hc1 hF
  refine wp_skip ?_
  refine p_then (wp_seq (f_region Z ?_)); clear Z; intro Z
  refine s_runk tMv1 Z 1 rfl rfl ?_; clear Z a; intro a Z
  refine s_ob Z (v := .int .i64 (l.length : Int)) rfl rfl (by decide) rfl (Ob_slen tMv1 rfl rfl rfl (H.slshape 0 rfl)) ?_; clear Z a; intro a Z
  refine s_runk tMv1 Z 2 rfl rfl ?_; clear Z a; intro a Z
  refine s_end Z [0, 1, 4, 5, 6] rfl ?_; clear Z; intro Z
  refine p_then ?_
  refine f_label hF (fun sg a' w' => match sg with | (from_, to_) => Sl 36 [(0, v1_l), (1, .int .u64 t), (4, .int .i64 0), (5, .int .i64 from_), (6, .int .i64 to_)] a' ∧ ∃ I2, Hf I D w I2 w' [SlC NECell v1_l l]) ⟨Z.sub (ts := [0, 1, 4, 5, 6]) rfl, ⟨I1, (H.sub [(0, true)] rfl).eq rfl⟩⟩ ?_
  clear Z H hF a
  rintro rc ⟨from_, to_⟩ a w3 ⟨Z, I3, H⟩ hF
  unfold F_vers_upto_l1 at hF
  try dsimp only at hF
  refine wp_seq ?_
  refine wp_seq (f_region Z ?_); clear Z; intro Z
  refine s_runk tMv1 Z 3 rfl rfl ?_; clear Z a; intro a Z
  refine s_end Z [0, 1, 4, 5, 6, 16, 17, 18] rfl ?_; clear Z; intro Z
  refine p_then ?_
  refine f_cond Z rfl (fun hc2 => ?_) (fun hc2 => ?_)
  ·replace hF := ite_t hc2 hF
   refine wp_seq (f_region Z ?_); clear Z; intro Z
   refine s_runk tMv1 Z 2 rfl rfl ?_; clear Z a; intro a Z
   refine s_end Z [0, 1, 4, 5, 6, 16, 17, 18, 19] rfl ?_; clear Z; intro Z
   refine p_then (wp_ret ?_)
   refine p_then_r ?_
   refine p_jump_r ?_
   obtain rfl := some_in hF
   exact f_ret Z (run_results1 rfl Z rfl) ⟨rfl, I3, (H.sub [] rfl).eq rfl⟩
  ·replace hF := ite_f hc2 hF
   refine wp_skip ?_
   refine p_then ?_
   refine f_cut (fun a' w' => ∃ (from__2 : Int) (to__2 : Int), Sl 36 [(0, v1_l), (1, .int .u64 t), (4, .int .i64 0), (5, .int .i64 from__2), (6, .int .i64 to__2), (7, .int .i64 (from_ + ((to_ - from_).tdiv 2))), (16, .int .i64 from_), (17, .int .i64 to_), (18, .bool (from_ == to_)), (20, .int .i64 from_), (21, .int .i64 to_), (22, .int .i64 from_), (23, .int .i64 (to_ - from_)), (24, .int .i64 ((to_ - from_).tdiv 2)), (25, .int .i64 (from_ + ((to_ - from_).tdiv 2))), (26, v1_l), (27, .int .i64 (from_ + ((to_ - from_).tdiv 2))), (28, .pointer (some ⟨blkOf v1_l, oofOf v1_l + (from_ + ((to_ - from_).tdiv 2)).toNat * 3, none⟩)), (29, .pointer (some ⟨blkOf v1_l, oofOf v1_l + (from_ + ((to_ - from_).tdiv 2)).toNat * 3, none⟩)), (30, .int .u64 ((l.getD (from_ + ((to_ - from_).tdiv 2)).toNat default).ts)), (31, .int .u64 t), (32, .bool (decide ((l.getD (from_ + ((to_ - from_).tdiv 2)).toNat default).ts > t)))] a' ∧ (∃ I2, Hf I D w I2 w' [SlC NECell v1_l l]) ∧ F_vers_upto_k2 rc from__2 to__2 = some rr) ?_ ?_
   ·rintro a w4 ⟨from__2, to__2, Z, ⟨I4, H⟩, hF⟩
    unfold F_vers_upto_k2 at hF
    try dsimp only at hF
    refine wp_goto ?_
    refine p_jump_g ?_
    exact ⟨(from__2, to__2), ⟨Z.sub (ts := [0, 1, 4, 5, 6]) rfl, ⟨I4, (H.sub [(0, true)] rfl).eq rfl⟩⟩, hF⟩
   ·skip
    refine wp_seq ?_
    obtain ⟨hg1, hF⟩ := chk_in hF
    obtain ⟨hg2, hF⟩ := chk_in hF
    obtain ⟨hg3, hF⟩ := chk_in hF
    refine f_region Z ?_; clear Z; intro Z
    refine s_runk tMv1 Z 3 rfl rfl ?_; clear Z a; intro a Z
    refine s_ob Z (v := .int .i64 (to_ - from_)) rfl rfl (by decide) rfl (Ob_sub rfl rfl rfl (wrI hg1)) ?_; clear Z a; intro a Z
    refine s_ob Z (v := .int .i64 ((to_ - from_).tdiv 2)) rfl rfl (by decide) rfl (Ob_quo rfl rfl rfl (by decide) (wrI hg2)) ?_; clear Z a; intro a Z
    refine s_ob Z (v := .int .i64 (from_ + ((to_ - from_).tdiv 2))) rfl rfl (by decide) rfl (Ob_add rfl rfl rfl (wrI hg3)) ?_; clear Z a; intro a Z
    refine s_runk tMv1 Z 1 rfl rfl ?_; clear Z a; intro a Z
    refine s_end Z [0, 1, 4, 5, 6, 16, 17, 18, 20, 21, 22, 23, 24, 25, 7] rfl ?_; clear Z; intro Z
    refine p_then (wp_seq ?_)
    obtain ⟨hg4, hF⟩ := chk_in hF
    refine f_region Z ?_; clear Z; intro Z
    refine s_runk tMv1 Z 2 rfl rfl ?_; clear Z a; intro a Z
    refine s_ob Z (v := .pointer (some ⟨blkOf v1_l, oofOf v1_l + (from_ + ((to_ - from_).tdiv 2)).toNat * 3, none⟩)) rfl rfl (by decide) rfl (Ob_sidx tMv1 rfl rfl rfl rfl (slPl (H.sl 0 rfl) hg4) hg4) ?_; clear Z a; intro a Z
    refine s_runk tMv1 Z 1 rfl rfl ?_; clear Z a; intro a Z
    refine s_ob Z (v := .int .u64 ((l.getD (from_ + ((to_ - from_).tdiv 2)).toNat default).ts)) rfl rfl (by decide) rfl (Ob_load tMv1 rfl rfl rfl ((slFl (H.sl 0 rfl) hg4) 0 _ rfl)) ?_; clear Z a; intro a Z
    refine s_runk tMv1 Z 2 rfl rfl ?_; clear Z a; intro a Z
    refine s_end Z [0, 1, 4, 5, 6, 16, 17, 18, 20, 21, 22, 23, 24, 25, 7, 26, 27, 28, 29, 30, 31, 32] rfl ?_; clear Z; intro Z
    refine p_then ?_
    refine f_cond Z rfl (fun hc3 => ?_) (fun hc3 => ?_)
    ·replace hF := ite_t hc3 hF
     refine f_region Z ?_; clear Z; intro Z
     refine s_runk tMv1 Z 2 rfl rfl ?_; clear Z a; intro a Z
     refine s_end Z [0, 1, 4, 5, 6, 16, 17, 18, 20, 21, 22, 23, 24, 25, 7, 26, 27, 28, 29, 30, 31, 32, 33] rfl ?_; clear Z; intro Z
     refine p_then ?_
     exact ⟨from_, from_ + ((to_ - from_).tdiv 2), Z.sub (ts := [0, 1, 4, 5, 6, 7, 16, 17, 18, 20, 21, 22, 23, 24, 25, 26, 27, 28, 29, 30, 31, 32]) rfl, ⟨I3, (H.sub [(0, true)] rfl).eq rfl⟩, hF⟩
    ·replace hF := ite_f hc3 hF
     obtain ⟨hg5, hF⟩ := chk_in hF
     refine f_region Z ?_; clear Z; intro Z
     refine s_runk tMv1 Z 1 rfl rfl ?_; clear Z a; intro a Z
     refine s_ob Z (v := .int .i64 (from_ + ((to_ - from_).tdiv 2) + 1)) rfl rfl (by decide) rfl (Ob_add rfl rfl rfl (wrI hg5)) ?_; clear Z a; intro a Z
     refine s_runk tMv1 Z 1 rfl rfl ?_; clear Z a; intro a Z
     refine s_end Z [0, 1, 4, 5, 6, 16, 17, 18, 20, 21, 22, 23, 24, 25, 7, 26, 27, 28, 29, 30, 31, 32, 34, 35] rfl ?_; clear Z; intro Z
     refine p_then ?_
     exact ⟨from_ + ((to_ - from_).tdiv 2) + 1, to_, Z.sub (ts := [0, 1, 4, 5, 6, 7, 16, 17, 18, 20, 21, 22, 23, 24, 25, 26, 27, 28, 29, 30, 31, 32]) rfl, ⟨I3, (H.sub [(0, true)] rfl).eq rfl⟩, hF⟩

def F_vers_At (l : List ECell) (t : Int) : Option (ByteArray × Bool) := (F_vers_upto l t).bind fun u => (chk ((!(u == 0)) = true → inI (u - 1)) (chk ((!(u == 0)) = true → (0 : Int) ≤ u - 1 ∧ u - 1 < (l.length : Int)) (if ((u == 0) || ((l.getD (u - 1).toNat default).del)) = true then (some (⟨#[]⟩, false)) else (chk (inI (u - 1)) (chk ((0 : Int) ≤ u - 1 ∧ u - 1 < (l.length : Int)) (some ((l.getD (u - 1).toNat default).val, true)))))))

set_option maxHeartbeats 1000000 in
theorem c_vers_At {I D : Dm} {l : List ECell} {v1_l : Value} {t : Int} {w : World} {rr : ByteArray × Bool} (hF : F_vers_At l t = some rr) (H : St I D w [SlC NECell v1_l l]) :
  Calls Try.prog 40 #[v1_l, .int .u64 t] w (Ret fun vv w' => vv = .tuple #[.string rr.1, .bool rr.2] ∧ ∃ I', Hf I D w I' w' []) := by
 replace H := H.hf
 unfold F_vers_At at hF
 refine f_enter 26 Try.func40 rfl rfl (Nat.le_of_ble_eq_true rfl) fun a Z => ?_
 replace Z := Z.sub (ts := [0, 1]) rfl
 refine wp_seq (f_region Z ?_); clear Z; intro Z
 refine s_runk tMv1 Z 2 rfl rfl ?_; clear Z a; intro a Z
 refine s_end Z [0, 1, 4, 5] rfl ?_; clear Z; intro Z
 refine p_then (wp_seq ?_)
 obtain ⟨u, hx1, hF⟩ := bnd_in hF
 refine f_region Z ?_; clear Z; intro Z
 refine s_runk tMv1 Z 2 rfl rfl ?_; clear Z a; intro a Z
 refine h_call Z H (js := [(0, true)]) rfl (caps := #[]) fn_48_YMv1 rfl rfl rfl rfl rfl (by decide) rfl rfl (fun D1 hS => have hq := c_vers_upto hx1 hS; hq) ?_; clear Z a; intro vv a w1 D2 hr hF2 Z
 obtain ⟨rfl, I1, K⟩ := hr
 have H : Hf I D w I1 w1 [SlC NECell v1_l l] := hF2 K
 clear hF2 K
 refine s_runk tMv1 Z 1 rfl rfl ?_; clear Z a; intro a Z
 refine s_end Z [0, 4, 5, 6] rfl ?_; clear Z; intro Z
 refine p_then (wp_seq ?_)
 refine wp_seq ?_
 obtain ⟨hg1, hF⟩ := chk_in hF
 obtain ⟨hg2, hF⟩ := chk_in hF
 refine f_region Z ?_; clear Z; intro Z
 refine s_runk tMv1 Z 3 rfl rfl ?_; clear Z a; intro a Z
 refine g_ob Z (p := (!(u == 0))) (v := v1_l) (S' := [(0, v1_l)]) rfl rfl rfl (wantB_f _) rfl (by decide) (fun hp hS => hS.sub (ts := [0]) rfl) (fun hp => Ob_c tMv1 rfl) ?_; clear Z a; intro a Z
 refine g_ob Z (p := (!(u == 0))) (v := .int .i64 u) (S' := [(6, .int .i64 u)]) rfl rfl rfl (wantB_f _) rfl (by decide) (fun hp hS => hS.sub (ts := [6]) rfl) (fun hp => Ob_c tMv1 rfl) ?_; clear Z a; intro a Z
 refine g_ob Z (p := (!(u == 0))) (v := .int .i64 (u - 1)) (S' := [(14, .int .i64 u)]) rfl rfl rfl (wantB_f _) rfl (by decide) (fun hp hS => (hS.conv (t := 14) rfl (cond_t hp)).sub (ts := [14]) rfl) (fun hp => Ob_sub rfl rfl rfl (wrI (hg1 hp))) ?_; clear Z a; intro a Z
 refine g_ob Z (p := (!(u == 0))) (v := .pointer (some ⟨blkOf v1_l, oofOf v1_l + (u - 1).toNat * 3, none⟩)) (S' := [(13, v1_l), (15, .int .i64 (u - 1))]) rfl rfl rfl (wantB_f _) rfl (by decide) (fun hp hS => ((hS.conv (t := 13) rfl (cond_t hp)).conv (t := 15) rfl (cond_t hp)).sub (ts := [13, 15]) rfl) (fun hp => Ob_sidx tMv1 rfl rfl rfl rfl (slPl (H.sl 0 rfl) (hg2 hp)) (hg2 hp)) ?_; clear Z a; intro a Z
 refine g_ob Z (p := (!(u == 0))) (v := .pointer (some ⟨blkOf v1_l, oofOf v1_l + (u - 1).toNat * 3 + 2, none⟩)) (S' := [(16, .pointer (some ⟨blkOf v1_l, oofOf v1_l + (u - 1).toNat * 3, none⟩))]) rfl rfl rfl (wantB_f _) rfl (by decide) (fun hp hS => (hS.conv (t := 16) rfl (cond_t hp)).sub (ts := [16]) rfl) (fun hp => Ob_c tMv1 rfl) ?_; clear Z a; intro a Z
 refine g_ob Z (p := (!(u == 0))) (v := .bool ((l.getD (u - 1).toNat default).del)) (S' := [(17, .pointer (some ⟨blkOf v1_l, oofOf v1_l + (u - 1).toNat * 3 + 2, none⟩))]) rfl rfl rfl (wantB_f _) rfl (by decide) (fun hp hS => (hS.conv (t := 17) rfl (cond_t hp)).sub (ts := [17]) rfl) (fun hp => Ob_load tMv1 rfl rfl rfl ((slFl (H.sl 0 rfl) (hg2 hp)) 2 _ rfl)) ?_; clear Z a; intro a Z
 refine s_ob Z (v := .bool ((u == 0) || ((l.getD (u - 1).toNat default).del))) rfl rfl (by decide) rfl (Ob_pick rfl rfl rfl rfl (pick_or _ _)) ?_; clear Z a; intro a Z
 refine s_end Z [0, 4, 5, 6, 19] rfl ?_; clear Z; intro Z
 refine p_then ?_
 refine f_cond Z rfl (fun hc1 => ?_) (fun hc1 => ?_)
 ·replace hF := ite_t hc1 hF
  refine wp_seq (f_region Z ?_); clear Z; intro Z
  refine s_runk tMv1 Z 2 rfl rfl ?_; clear Z a; intro a Z
  refine s_end Z [0, 4, 5, 6] rfl ?_; clear Z; intro Z
  refine p_then (wp_ret ?_)
  refine p_then_r ?_
  obtain rfl := some_in hF
  exact f_ret Z (run_results2 rfl Z rfl rfl) ⟨rfl, I1, (H.sub [] rfl).eq rfl⟩
 ·replace hF := ite_f hc1 hF
  refine wp_skip ?_
  refine p_then (wp_seq ?_)
  obtain ⟨hg3, hF⟩ := chk_in hF
  obtain ⟨hg4, hF⟩ := chk_in hF
  refine f_region Z ?_; clear Z; intro Z
  refine s_runk tMv1 Z 2 rfl rfl ?_; clear Z a; intro a Z
  refine s_ob Z (v := .int .i64 (u - 1)) rfl rfl (by decide) rfl (Ob_sub rfl rfl rfl (wrI hg3)) ?_; clear Z a; intro a Z
  refine s_ob Z (v := .pointer (some ⟨blkOf v1_l, oofOf v1_l + (u - 1).toNat * 3, none⟩)) rfl rfl (by decide) rfl (Ob_sidx tMv1 rfl rfl rfl rfl (slPl (H.sl 0 rfl) hg4) hg4) ?_; clear Z a; intro a Z
  refine s_runk tMv1 Z 1 rfl rfl ?_; clear Z a; intro a Z
  refine s_ob Z (v := .string ((l.getD (u - 1).toNat default).val)) rfl rfl (by decide) rfl (Ob_load tMv1 rfl rfl rfl ((slFl (H.sl 0 rfl) hg4) 1 _ rfl)) ?_; clear Z a; intro a Z
  refine s_runk tMv1 Z 2 rfl rfl ?_; clear Z a; intro a Z
  refine s_end Z [4, 5] rfl ?_; clear Z; intro Z
  refine p_then (wp_ret ?_)
  obtain rfl := some_in hF
  exact f_ret Z (run_results2 rfl Z rfl rfl) ⟨rfl, I1, (H.sub [] rfl).eq rfl⟩

def F_mvcc_Store_Get (s0 : Emvcc_Store) (k : ByteArray) (t : Int) : Option (ByteArray × Bool × Emvcc_Store) := (F_mvcc_Store_none s0).bind fun n0 => (if (n0) = true then (some (⟨#[]⟩, false, s0)) else (optE s0.t ((F_tree_Tree_api_Cell_Get_nil k).bind fun n0_2 => ((F_vers_At n0_2.1 t).bind fun a0 => (some (a0.1, a0.2, ({ s0 with t := none } : Emvcc_Store))))) (fun x => (F_tree_Tree_api_Cell_Get x k).bind fun g => ((F_vers_At g.1 t).bind fun a0_2 => (some (a0_2.1, a0_2.2, ({ s0 with t := some x } : Emvcc_Store)))))))

set_option maxHeartbeats 1000000 in
theorem c_mvcc_Store_Get {I D : Dm} {b_s0 : Nat} {s0 : Emvcc_Store} {k : ByteArray} {t : Int} {w : World} {rr : ByteArray × Bool × Emvcc_Store} (hF : F_mvcc_Store_Get s0 k t = some rr) (H : St I D w [OEmvcc_Store b_s0 s0]) :
  Calls Try.prog 23 #[.pointer (some ⟨b_s0, 0, none⟩), .string k, .int .u64 t] w (Ret fun vv w' => vv = .tuple #[.string rr.1, .bool rr.2.1] ∧ ∃ I', Hf I D w I' w' [OEmvcc_Store b_s0 rr.2.2]) := by
 replace H := H.hf
 unfold F_mvcc_Store_Get at hF
 refine f_enter 26 Try.func23 rfl rfl (Nat.le_of_ble_eq_true rfl) fun a Z => ?_
 replace Z := Z.sub (ts := [0, 1, 2]) rfl
 refine wp_seq (f_region Z ?_); clear Z; intro Z
 refine s_runk tMv1 Z 2 rfl rfl ?_; clear Z a; intro a Z
 refine s_end Z [0, 1, 2, 6, 7] rfl ?_; clear Z; intro Z
 refine p_then (wp_seq ?_)
 refine wp_seq ?_
 obtain ⟨n0, hx1, hF⟩ := bnd_in hF
 refine f_region Z ?_; clear Z; intro Z
 refine s_runk tMv1 Z 1 rfl rfl ?_; clear Z a; intro a Z
 refine h_call Z H (js := [(0, false)]) rfl (caps := #[]) fn_25_YMv1 rfl rfl rfl rfl rfl (by decide) rfl rfl (fun D1 hS => have hq := c_mvcc_Store_none hx1 hS; hq) ?_; clear Z a; intro vv a w1 D2 hr hF2 Z
 obtain ⟨rfl, I1, K⟩ := hr
 have H : Hf I D w I1 w1 [OEmvcc_Store b_s0 s0] := hF2 K
 clear hF2 K
 refine s_end Z [0, 1, 2, 6, 7, 11] rfl ?_; clear Z; intro Z
 refine p_then ?_
 refine f_cond Z rfl (fun hc1 => ?_) (fun hc1 => ?_)
 ·replace hF := ite_t hc1 hF
  refine wp_seq (f_region Z ?_); clear Z; intro Z
  refine s_runk tMv1 Z 2 rfl rfl ?_; clear Z a; intro a Z
  refine s_end Z [0, 1, 2, 6, 7] rfl ?_; clear Z; intro Z
  refine p_then (wp_ret ?_)
  refine p_then_r ?_
  obtain rfl := some_in hF
  exact f_ret Z (run_results2 rfl Z rfl rfl) ⟨rfl, I1, (H.sub [(0, false)] rfl).eq rfl⟩
 ·replace hF := ite_f hc1 hF
  refine wp_skip ?_
  refine p_then (wp_seq ?_)
  obtain ⟨v1, H⟩ := H.openX 0 rfl
  replace H : Hf I D w I1 w1 [BxC b_s0 57 [v1, .int .u64 s0.last, .int .i64 s0.n], PtC OEtree_Tree_api_Cell v1 s0.t] := H
  rcases optE_in hF with ⟨ho1, hF⟩ | ⟨x, ho1, hF⟩
  ·obtain ⟨hv, H⟩ := H.optN 1 rfl ho1
   subst hv
   replace H : Hf I D w I1 w1 [BxC b_s0 57 [.pointer none, .int .u64 s0.last, .int .i64 s0.n]] := H
   obtain ⟨n0_2, hx2, hF⟩ := bnd_in hF
   refine f_region Z ?_; clear Z; intro Z
   refine s_runk tMv1 Z 3 rfl rfl ?_; clear Z a; intro a Z
   refine s_ob Z (v := .pointer none) rfl rfl (by decide) rfl (Ob_load tMv1 rfl rfl rfl ((H.bx 0 rfl).cell 0 rfl)) ?_; clear Z a; intro a Z
   refine s_runk tMv1 Z 1 rfl rfl ?_; clear Z a; intro a Z
   refine h_call Z H (js := []) rfl (caps := #[]) fn_27_YMv1 rfl rfl rfl rfl rfl (by decide) rfl rfl (fun D1 hS => have hq := c_tree_Tree_api_Cell_Get_nil hx2 hS; hq) ?_; clear Z a; intro vv a w2 D2 hr hF2 Z
   obtain ⟨q1, rfl, I2, K⟩ := hr
   have H : Hf I D w I2 w2 [SlC NECell q1 n0_2.1, BxC b_s0 57 [.pointer none, .int .u64 s0.last, .int .i64 s0.n]] := hF2 K
   clear hF2 K
   refine s_runk tMv1 Z 5 rfl rfl ?_; clear Z a; intro a Z
   refine s_end Z [2, 6, 7, 8] rfl ?_; clear Z; intro Z
   refine p_then (wp_seq ?_)
   obtain ⟨a0, hx3, hF⟩ := bnd_in hF
   refine f_region Z ?_; clear Z; intro Z
   refine s_runk tMv1 Z 2 rfl rfl ?_; clear Z a; intro a Z
   refine h_call Z H (js := [(0, true)]) rfl (caps := #[]) fn_40_YMv1 rfl rfl rfl rfl rfl (by decide) rfl rfl (fun D1 hS => have hq := c_vers_At hx3 hS; hq) ?_; clear Z a; intro vv a w3 D2 hr hF2 Z
   obtain ⟨rfl, I3, K⟩ := hr
   have H : Hf I D w I3 w3 [SlC NECell q1 n0_2.1, BxC b_s0 57 [.pointer none, .int .u64 s0.last, .int .i64 s0.n]] := hF2 K
   clear hF2 K
   refine s_runk tMv1 Z 4 rfl rfl ?_; clear Z a; intro a Z
   refine s_end Z [6, 7] rfl ?_; clear Z; intro Z
   refine p_then (wp_ret ?_)
   replace H : Hf I D w I3 w3 [PtC OEtree_Tree_api_Cell (.pointer none) none, SlC NECell q1 n0_2.1, BxC b_s0 57 [.pointer none, .int .u64 s0.last, .int .i64 s0.n]] := H.mkN OEtree_Tree_api_Cell
   replace H : Hf I D w I3 w3 [OEmvcc_Store b_s0 ({ s0 with t := none } : Emvcc_Store), SlC NECell q1 n0_2.1] := H.shutX (.pointer none) [(2, false), (0, false)] rfl
   obtain rfl := some_in hF
   exact f_ret Z (run_results2 rfl Z rfl rfl) ⟨rfl, I3, (H.sub [(0, false)] rfl).eq rfl⟩
  ·obtain ⟨b1, hv, H⟩ := H.optS 1 rfl ho1
   subst hv
   replace H : Hf I D w I1 w1 [OEtree_Tree_api_Cell b1 x, BxC b_s0 57 [.pointer (some ⟨b1, 0, none⟩), .int .u64 s0.last, .int .i64 s0.n]] := H
   obtain ⟨g, hx4, hF⟩ := bnd_in hF
   refine f_region Z ?_; clear Z; intro Z
   refine s_runk tMv1 Z 3 rfl rfl ?_; clear Z a; intro a Z
   refine s_ob Z (v := .pointer (some ⟨b1, 0, none⟩)) rfl rfl (by decide) rfl (Ob_load tMv1 rfl rfl rfl ((H.bx 1 rfl).cell 0 rfl)) ?_; clear Z a; intro a Z
   refine s_runk tMv1 Z 1 rfl rfl ?_; clear Z a; intro a Z
   refine h_call Z H (js := [(0, false)]) rfl (caps := #[]) fn_27_YMv1 rfl rfl rfl rfl rfl (by decide) rfl rfl (fun D1 hS => have hq := c_tree_Tree_api_Cell_Get hx4 hS; hq) ?_; clear Z a; intro vv a w4 D2 hr hF2 Z
   obtain ⟨q2, rfl, I4, K⟩ := hr
   have H : Hf I D w I4 w4 [OEtree_Tree_api_Cell b1 x, SlC NECell q2 g.1, BxC b_s0 57 [.pointer (some ⟨b1, 0, none⟩), .int .u64 s0.last, .int .i64 s0.n]] := hF2 K
   clear hF2 K
   refine s_runk tMv1 Z 5 rfl rfl ?_; clear Z a; intro a Z
   refine s_end Z [2, 6, 7, 8] rfl ?_; clear Z; intro Z
   refine p_then (wp_seq ?_)
   obtain ⟨a0_2, hx5, hF⟩ := bnd_in hF
   refine f_region Z ?_; clear Z; intro Z
   refine s_runk tMv1 Z 2 rfl rfl ?_; clear Z a; intro a Z
   refine h_call Z H (js := [(1, true)]) rfl (caps := #[]) fn_40_YMv1 rfl rfl rfl rfl rfl (by decide) rfl rfl (fun D1 hS => have hq := c_vers_At hx5 hS; hq) ?_; clear Z a; intro vv a w5 D2 hr hF2 Z
   obtain ⟨rfl, I5, K⟩ := hr
   have H : Hf I D w I5 w5 [OEtree_Tree_api_Cell b1 x, SlC NECell q2 g.1, BxC b_s0 57 [.pointer (some ⟨b1, 0, none⟩), .int .u64 s0.last, .int .i64 s0.n]] := hF2 K
   clear hF2 K
   refine s_runk tMv1 Z 4 rfl rfl ?_; clear Z a; intro a Z
   refine s_end Z [6, 7] rfl ?_; clear Z; intro Z
   refine p_then (wp_ret ?_)
   replace H : Hf I D w I5 w5 [PtC OEtree_Tree_api_Cell (.pointer (some ⟨b1, 0, none⟩)) (some x), SlC NECell q2 g.1, BxC b_s0 57 [.pointer (some ⟨b1, 0, none⟩), .int .u64 s0.last, .int .i64 s0.n]] := H.mkS (K := OEtree_Tree_api_Cell) 0 rfl
   replace H : Hf I D w I5 w5 [OEmvcc_Store b_s0 ({ s0 with t := some x } : Emvcc_Store), SlC NECell q2 g.1] := H.shutX (.pointer (some ⟨b1, 0, none⟩)) [(2, false), (0, false)] rfl
   obtain rfl := some_in hF
   exact f_ret Z (run_results2 rfl Z rfl rfl) ⟨rfl, I5, (H.sub [(0, false)] rfl).eq rfl⟩

def F_tree_Tree_api_Cell_from_nil (k : ByteArray) : Option ByteArray := some k

set_option maxHeartbeats 1000000 in
theorem c_tree_Tree_api_Cell_from_nil {I D : Dm} {k : ByteArray} {w : World} {rr : ByteArray} (hF : F_tree_Tree_api_Cell_from_nil k = some rr) (H : St I D w []) :
  Calls Try.prog 45 #[.pointer none, .string k] w (Ret fun vv w' => ∃ g1 g2 : Nat, vv = .func (.func 55) #[] #[.pointer (some ⟨g1, 0, none⟩), .pointer (some ⟨g2, 0, none⟩)] ∧ ∃ I', Hf I D w I' w' [BxC g1 55 [.pointer none], BxC g2 9 [.string rr]]) := by
 replace H := H.hf
 unfold F_tree_Tree_api_Cell_from_nil at hF
 refine f_enter 6 Try.func45 rfl rfl (Nat.le_of_ble_eq_true rfl) fun a Z => ?_
 replace Z := Z.sub (ts := [0, 1]) rfl
 refine wp_seq (f_region Z ?_); clear Z; intro Z
 refine h_boxv Z H (cl := [.pointer none]) rfl rfl rfl (by decide) rfl rfl rfl ?_; clear Z a H; intro a w1 b1 H Z
 refine h_boxv Z H (cl := [.string k]) rfl rfl rfl (by decide) rfl rfl rfl ?_; clear Z a H; intro a w2 b2 H Z
 refine s_runk tMv1 Z 1 rfl rfl ?_; clear Z a; intro a Z
 refine s_end Z [2, 3, 4] rfl ?_; clear Z; intro Z
 refine p_then (wp_seq (f_region Z ?_)); clear Z; intro Z
 refine s_runk tMv1 Z 2 rfl rfl ?_; clear Z a; intro a Z
 refine s_end Z [4] rfl ?_; clear Z; intro Z
 refine p_then (wp_ret ?_)
 obtain rfl := some_in hF
 exact f_ret Z (run_results1 rfl Z rfl) ⟨b1, b2, rfl, I, (H.sub [(1, false), (0, false)] rfl).eq rfl⟩

def F_tree_Tree_api_Cell_from_1_nil {σ : Type} (y : ByteArray → σ → Option (Bool × σ)) (x0 : Bool × σ) (p2 : ByteArray) : Option (Bool × σ) := (F_tree_Tree_api_Cell_none_nil).bind fun n0 => (if (!n0) = true then (none) else (some x0))

set_option maxHeartbeats 1000000 in
theorem c_tree_Tree_api_Cell_from_1_nil {σ : Type} {I D : Dm} {Y : Bool × σ → Ch} {y : ByteArray → σ → Option (Bool × σ)} {x0 : Bool × σ} {ly : Nat} {b_p1 : Nat} {b_p2 : Nat} {p2 : ByteArray} {w : World} {rr : Bool × σ} (hy : YieldOk Try.prog ly Y (fun (e_ : ByteArray) (v_ : Unit) => .string e_) (fun (e_ : ByteArray) (v_ : Unit) => []) y) (hF : F_tree_Tree_api_Cell_from_1_nil y x0 p2 = some rr) (H : St I D w [BxC b_p1 55 [.pointer none], BxC b_p2 9 [.string p2], Y x0]) :
  Calls Try.prog 55 #[.func (.yield ly) #[] #[], .pointer (some ⟨b_p1, 0, none⟩), .pointer (some ⟨b_p2, 0, none⟩)] w (Ret fun vv w' => vv = .tuple #[] ∧ ∃ I', Hf I D w I' w' [BxC b_p1 55 [.pointer none], BxC b_p2 9 [.string p2], Y rr]) := by
 replace H := H.hf
 unfold F_tree_Tree_api_Cell_from_1_nil at hF
 refine f_enter 14 Try.func55 rfl rfl (Nat.le_of_ble_eq_true rfl) fun a Z => ?_
 replace Z := Z.sub (ts := [0, 1, 2]) rfl
 refine wp_seq ?_
 obtain ⟨n0, hx1, hF⟩ := bnd_in hF
 refine f_region Z ?_; clear Z; intro Z
 refine s_ob Z (v := .pointer none) rfl rfl (by decide) rfl (Ob_load tMv1 rfl rfl rfl ((H.bx 0 rfl).cell 0 rfl)) ?_; clear Z a; intro a Z
 refine h_call Z H (js := []) rfl (caps := #[]) fn_42_YMv1 rfl rfl rfl rfl rfl (by decide) rfl rfl (fun D1 hS => have hq := c_tree_Tree_api_Cell_none_nil hx1 hS; hq) ?_; clear Z a; intro vv a w1 D2 hr hF2 Z
 obtain ⟨rfl, I1, K⟩ := hr
 have H : Hf I D w I1 w1 [BxC b_p1 55 [.pointer none], BxC b_p2 9 [.string p2], Y x0] := hF2 K
 clear hF2 K
 refine s_runk tMv1 Z 1 rfl rfl ?_; clear Z a; intro a Z
 refine s_end Z [0, 1, 2, 6] rfl ?_; clear Z; intro Z
 refine p_then ?_
 refine f_cond Z rfl (fun hc1 => ?_) (fun hc1 => ?_)
 ·replace hF := ite_t hc1 hF
  cases hF
 ·replace hF := ite_f hc1 hF
  refine wp_skip ?_
  obtain rfl := some_in hF
  exact f_fall Z (run_results0 rfl) ⟨rfl, I1, (H.sub [(0, false), (0, false), (0, false)] rfl).eq rfl⟩

def F_tree_Tree_api_Cell_Keys_nil_y1 (to_ : ByteArray) (e_ : ByteArray) (sg : (List ByteArray)) : Option (Bool × (List ByteArray)) := match sg with | out => if ((!seqB to_ ⟨#[]⟩) && (!sltB e_ to_)) = true then (some (false, out)) else (chk (((out.length + [e_].length : Nat) : Int) * 16 ≤ 140737488355328) (some (true, (out ++ [e_]))))

def F_tree_Tree_api_Cell_Keys_nil (from_ : ByteArray) (to_ : ByteArray) : Option (List ByteArray) := (F_tree_Tree_api_Cell_from_nil from_).bind fun n0 => ((F_tree_Tree_api_Cell_from_1_nil (F_tree_Tree_api_Cell_Keys_nil_y1 to_) (true, ([] : List ByteArray)) n0).bind fun r0 => (if (r0.1) = true then (some r0.2) else (some r0.2)))

set_option maxHeartbeats 1000000 in
theorem c_tree_Tree_api_Cell_Keys_nil {I D : Dm} {from_ : ByteArray} {to_ : ByteArray} {w : World} {rr : List ByteArray} (hF : F_tree_Tree_api_Cell_Keys_nil from_ to_ = some rr) (H : St I D w []) :
  Calls Try.prog 30 #[.pointer none, .string from_, .string to_] w (Ret fun vv w' => ∃ q1 : Value, vv = q1 ∧ ∃ I', Hf I D w I' w' [SlC NS q1 rr]) := by
 replace H := H.hf
 unfold F_tree_Tree_api_Cell_Keys_nil at hF
 refine f_enterM 25 Try.func30 rfl rfl (Nat.le_of_ble_eq_true rfl) fun a Z => ?_
 replace Z := Z.sub (ts := [0, 1, 2]) rfl
 refine wp_seq (f_region Z ?_); clear Z; intro Z
 refine h_boxv Z H (cl := [.string to_]) rfl rfl rfl (by decide) rfl rfl rfl ?_; clear Z a H; intro a w1 b1 H Z
 refine s_runk tMv1 Z 1 rfl rfl ?_; clear Z a; intro a Z
 refine s_end Z [0, 1, 5, 6] rfl ?_; clear Z; intro Z
 refine p_then (wp_seq (f_region Z ?_)); clear Z; intro Z
 refine h_alloc Z H (cl := [.slice none 0 0]) (z := .slice none 0 0) rfl rfl rfl (by decide) rfl (by kernel_rfl) rfl ?_; clear Z a H; intro a w2 b2 H Z
 refine s_end Z [0, 1, 5, 6, 7] rfl ?_; clear Z; intro Z
 refine p_then (wp_seq ?_)
 refine wp_seq ?_
 obtain ⟨n0, hx1, hF⟩ := bnd_in hF
 refine f_region Z ?_; clear Z; intro Z
 refine s_runk tMv1 Z 2 rfl rfl ?_; clear Z a; intro a Z
 refine h_call Z H (js := []) rfl (caps := #[]) fn_45_YMv1 rfl rfl rfl rfl rfl (by decide) rfl rfl (fun D1 hS => have hq := c_tree_Tree_api_Cell_from_nil hx1 hS; hq) ?_; clear Z a; intro vv a w3 D2 hr hF2 Z
 obtain ⟨g1, g2, rfl, I1, K⟩ := hr
 have H : Hf I D w I1 w3 [BxC g1 55 [.pointer none], BxC g2 9 [.string n0], BxC b2 73 [.slice none 0 0], BxC b1 9 [.string to_]] := hF2 K
 clear hF2 K
 refine s_end Z [5, 6, 7, 11] rfl ?_; clear Z; intro Z
 refine p_then (wp_block ?_)
 replace H : Hf I D w I1 w3 [OwC NS 9 (.slice none 0 0) ([] : List ByteArray), BxC g1 55 [.pointer none], BxC g2 9 [.string n0], BxC b2 73 [.slice none 0 0], BxC b1 9 [.string to_]] := H.nilow NS 9
 replace H := Hf.shutX (f := fun (xv_ : Value) => [BxC b1 9 [.string to_], BxC b2 73 [xv_], OwC NS 9 xv_ ([] : List ByteArray)]) (.slice none 0 0) H [(4, false), (3, false), (0, false)] rfl
 obtain ⟨r0, hx2, hF⟩ := bnd_in hF
 refine f_rangeFunc (KC := (fun (sg_ : (List ByteArray)) => ExC fun (xv_ : Value) => [BxC b1 9 [.string to_], BxC b2 73 [xv_], OwC NS 9 xv_ sg_])) (s0 := ([] : List ByteArray)) (enc := (fun (e_ : ByteArray) (v_ : Unit) => .string e_)) (ech := (fun (e_ : ByteArray) (v_ : Unit) => [])) (c0 := .exit 0) (rr := r0) Z H (js := [(0, false), (0, false), (0, false)]) rfl [BxC g1 55 [.pointer none], BxC g2 9 [.string n0]] fn_55_YMv1 rfl (by decide) ?_ (fun L Y hyk hS => have hq := c_tree_Tree_api_Cell_from_1_nil hyk hx2 hS; Ret.mono hq fun _ _ h => h.2) ?_
 ·clear hF H Z
  intro m I D w L D0 fn tm e_ v_ sg_ rr a hF Z H
  obtain ⟨out, rfl⟩ : ∃ x_, x_ = sg_ := ⟨_, rfl⟩
  obtain ⟨v1, H⟩ := H.openX 1 rfl
  replace H : Hf I D w I w [BxC b1 9 [.string to_], BxC b2 73 [v1], OwC NS 9 v1 out, LpC L (lrec fn tm #[12] _ _ D0 .ready none)] := H
  unfold F_tree_Tree_api_Cell_Keys_nil_y1 at hF; try dsimp only at hF
  refine f_regionI (by kernel_rfl) (by rintro ⟨_, _, h⟩; exact h) Z ?_; clear Z; intro Z
  refine s_runk tMv1 Z 1 rfl rfl ?_; clear Z a; intro a Z
  refine s_end Z [5, 6, 7, 11, 12, 8] rfl ?_; clear Z; intro Z
  refine p_begin H 3 rfl fun w5 H => ?_
  replace H : Hf I D w I w5 [LpC L (lrec fn tm #[12] _ _ D0 .busy none), BxC b1 9 [.string to_], BxC b2 73 [v1], OwC NS 9 v1 out] := H
  refine wpIn_block ?_
  refine wpIn_seq ?_
  refine wpIn_seq ?_
  refine f_regionI (by kernel_rfl) (by rintro ⟨_, _, h⟩; exact h) Z ?_; clear Z; intro Z
  refine s_ob Z (v := .string to_) rfl rfl (by decide) rfl (Ob_load tMv1 rfl rfl rfl ((H.bx 1 rfl).cell 0 rfl)) ?_; clear Z a; intro a Z
  refine s_runk tMv1 Z 2 rfl rfl ?_; clear Z a; intro a Z
  refine g_ob Z (p := (!seqB to_ ⟨#[]⟩)) (v := .string e_) (S' := [(8, .string e_)]) rfl rfl rfl (wantB_t _) rfl (by decide) (fun hp hS => hS.sub (ts := [8]) rfl) (fun hp => Ob_c tMv1 rfl) ?_; clear Z a; intro a Z
  refine g_ob Z (p := (!seqB to_ ⟨#[]⟩)) (v := .string to_) (S' := [(5, .pointer (some ⟨b1, 0, none⟩))]) rfl rfl rfl (wantB_t _) rfl (by decide) (fun hp hS => hS.sub (ts := [5]) rfl) (fun hp => Ob_load tMv1 rfl rfl rfl ((H.bx 1 rfl).cell 0 rfl)) ?_; clear Z a; intro a Z
  refine g_ob Z (p := (!seqB to_ ⟨#[]⟩)) (v := .bool (!sltB e_ to_)) (S' := [(16, .string e_), (17, .string to_)]) rfl rfl rfl (wantB_t _) rfl (by decide) (fun hp hS => ((hS.conv (t := 16) rfl (cond_t hp)).conv (t := 17) rfl (cond_t hp)).sub (ts := [16, 17]) rfl) (fun hp => Ob_c tMv1 rfl) ?_; clear Z a; intro a Z
  refine s_ob Z (v := .bool ((!seqB to_ ⟨#[]⟩) && (!sltB e_ to_))) rfl rfl (by decide) rfl (Ob_pick rfl rfl rfl rfl (pick_and _ _)) ?_; clear Z a; intro a Z
  refine s_end Z [5, 6, 7, 11, 12, 8, 13, 14, 15, 19] rfl ?_; clear Z; intro Z
  refine p_then ?_
  refine f_condI Z rfl (fun hc1 => ?_) (fun hc1 => ?_)
  ·replace hF := ite_t hc1 hF
   refine wpIn_exit ?_
   refine p_then_x ?_
   refine f_exit_out (by decide) ?_
   refine y_exit H 0 rfl fun w6 H => ?_
   obtain rfl := some_in hF
   exact ⟨rfl, I, ((Hf.shutX (f := fun (xv_ : Value) => [BxC b1 9 [.string to_], BxC b2 73 [xv_], OwC NS 9 xv_ out]) v1 H [(1, false), (1, false), (1, false)] rfl).sub [(1, false), (0, false)] rfl).eq rfl⟩
  ·replace hF := ite_f hc1 hF
   refine wpIn_skip ?_
   refine p_then ?_
   obtain ⟨hg1, hF⟩ := chk_in hF
   refine f_regionI (by kernel_rfl) (by rintro ⟨_, _, h⟩; exact h) Z ?_; clear Z; intro Z
   refine s_ob Z (v := v1) rfl rfl (by decide) rfl (Ob_load tMv1 rfl rfl rfl ((H.bx 2 rfl).cell 0 rfl)) ?_; clear Z a; intro a Z
   refine s_runk tMv1 Z 1 rfl rfl ?_; clear Z a; intro a Z
   refine h_bslice Z H (vs := [(0, .string e_)]) (cl := [.string e_]) (e := 9) rfl rfl rfl (by decide) rfl rfl (fun w => run_bslice (z := .string ByteArray.empty) (m := 1) Try.underlying73 (by kernel_rfl) rfl rfl (by decide) (by simp [Instr.fill, Value.cells]) w) ?_; clear Z a H; intro a w7 b3 H Z
   refine h_appO Z H 4 E_73_YMv1 [e_] rfl rfl rfl rfl rfl (by decide) rfl rfl rfl (slRep2.box1 (H.bx 0 rfl) ⟨rfl, trivial⟩) hg1 (by decide) ?_; clear Z a H; intro v2 a w8 H Z
   dsimp only [List.eraseIdx] at H
   replace H : Hf I D w I w8 [OwC NS 9 v2 (out ++ [e_]), LpC L (lrec fn tm #[12] _ _ D0 .busy none), BxC b1 9 [.string to_], BxC b2 73 [v1]] := H.sub [(0, false), (1, false), (1, false), (1, false)] rfl
   refine h_store tMv1 Z H 3 rfl rfl rfl rfl rfl rfl (slS.cells (H.owshape 0 rfl)) rfl rfl (one_cons (slS.one (H.owshape 0 rfl)) one_nil) (Nat.le_of_ble_eq_true rfl) rfl ?_; clear H; intro w9 H
   dsimp only [List.eraseIdx] at H
   refine s_end Z [5, 6, 7, 11, 12, 8, 13, 14, 15, 19, 20, 21, 22, 23] rfl ?_; clear Z; intro Z
   refine p_blk ?_
   refine y_norm H 2 rfl fun w10 H => ?_
   obtain rfl := some_in hF
   exact ⟨rfl, I, ((Hf.shutX (f := fun (xv_ : Value) => [BxC b1 9 [.string to_], BxC b2 73 [xv_], OwC NS 9 xv_ (out ++ [e_])]) v2 H [(3, false), (1, false), (1, false)] rfl).sub [(1, false), (0, false)] rfl).eq rfl⟩
 ·intro D0_1 a w11 I3 Z H
  obtain ⟨v3, H⟩ := H.openX 1 rfl
  replace H : Hf I D w I3 w11 [BxC b1 9 [.string to_], BxC b2 73 [v3], OwC NS 9 v3 r0.2, DfC D0_1, BxC g1 55 [.pointer none], BxC g2 9 [.string n0]] := H
  refine ⟨fun hc2 => ?_, fun hc2 => ?_⟩
  ·replace hF := ite_t hc2 hF
   refine p_blk ?_
   refine p_then (wp_seq (f_region Z ?_)); clear Z; intro Z
   refine s_ob Z (v := v3) rfl rfl (by decide) rfl (Ob_load tMv1 rfl rfl rfl ((H.bx 1 rfl).cell 0 rfl)) ?_; clear Z a; intro a Z
   refine s_runk tMv1 Z 1 rfl rfl ?_; clear Z a; intro a Z
   refine s_end Z [6] rfl ?_; clear Z; intro Z
   refine p_then (wp_ret ?_)
   refine f_retM Z H 3 rfl fun w12 H => ?_
   replace H : Hf I D w I3 w12 [ObC D0_1 (.deferred none), BxC b1 9 [.string to_], BxC b2 73 [v3], OwC NS 9 v3 r0.2, BxC g1 55 [.pointer none], BxC g2 9 [.string n0]] := H
   obtain ⟨I4, _, H⟩ := H.frzow 3 rfl
   replace H : Hf I D w I4 w12 [SlC NS v3 r0.2, ObC D0_1 (.deferred none), BxC b1 9 [.string to_], BxC b2 73 [v3], BxC g1 55 [.pointer none], BxC g2 9 [.string n0]] := H
   obtain rfl := some_in hF
   exact ⟨_, (run_results1 rfl Z rfl), v3, rfl, I4, (H.sub [(0, true)] rfl).eq rfl⟩
  ·replace hF := ite_f hc2 hF
   refine wp_exit ?_
   refine f_exit_here ?_
   refine p_then (wp_seq (f_region Z ?_)); clear Z; intro Z
   refine s_ob Z (v := v3) rfl rfl (by decide) rfl (Ob_load tMv1 rfl rfl rfl ((H.bx 1 rfl).cell 0 rfl)) ?_; clear Z a; intro a Z
   refine s_runk tMv1 Z 1 rfl rfl ?_; clear Z a; intro a Z
   refine s_end Z [6] rfl ?_; clear Z; intro Z
   refine p_then (wp_ret ?_)
   refine f_retM Z H 3 rfl fun w13 H => ?_
   replace H : Hf I D w I3 w13 [ObC D0_1 (.deferred none), BxC b1 9 [.string to_], BxC b2 73 [v3], OwC NS 9 v3 r0.2, BxC g1 55 [.pointer none], BxC g2 9 [.string n0]] := H
   obtain ⟨I5, _, H⟩ := H.frzow 3 rfl
   replace H : Hf I D w I5 w13 [SlC NS v3 r0.2, ObC D0_1 (.deferred none), BxC b1 9 [.string to_], BxC b2 73 [v3], BxC g1 55 [.pointer none], BxC g2 9 [.string n0]] := H
   obtain rfl := some_in hF
   exact ⟨_, (run_results1 rfl Z rfl), v3, rfl, I5, (H.sub [(0, true)] rfl).eq rfl⟩

def F_keys_In (k : ByteArray) (from_ : ByteArray) (to_ : ByteArray) : Option Bool := if (sltB k from_) = true then (some false) else (some ((seqB to_ ⟨#[]⟩) || (sltB k to_)))

set_option maxHeartbeats 1000000 in
theorem c_keys_In {I D : Dm} {k : ByteArray} {from_ : ByteArray} {to_ : ByteArray} {w : World} {rr : Bool} (hF : F_keys_In k from_ to_ = some rr) (H : St I D w []) :
  Calls Try.prog 31 #[.string k, .string from_, .string to_] w (Ret fun vv w' => vv = .bool rr ∧ ∃ I', Hf I D w I' w' []) := by
 replace H := H.hf
 unfold F_keys_In at hF
 refine f_enter 17 Try.func31 rfl rfl (Nat.le_of_ble_eq_true rfl) fun a Z => ?_
 replace Z := Z.sub (ts := [0, 1, 2]) rfl
 refine wp_seq (f_region Z ?_); clear Z; intro Z
 refine s_runk tMv1 Z 1 rfl rfl ?_; clear Z a; intro a Z
 refine s_end Z [0, 1, 2, 6] rfl ?_; clear Z; intro Z
 refine p_then (wp_seq ?_)
 refine wp_seq (f_region Z ?_); clear Z; intro Z
 refine s_runk tMv1 Z 3 rfl rfl ?_; clear Z a; intro a Z
 refine s_end Z [0, 2, 6, 9] rfl ?_; clear Z; intro Z
 refine p_then ?_
 refine f_cond Z rfl (fun hc1 => ?_) (fun hc1 => ?_)
 ·replace hF := ite_t hc1 hF
  refine wp_seq (f_region Z ?_); clear Z; intro Z
  refine s_runk tMv1 Z 1 rfl rfl ?_; clear Z a; intro a Z
  refine s_end Z [0, 2, 6] rfl ?_; clear Z; intro Z
  refine p_then (wp_ret ?_)
  refine p_then_r ?_
  obtain rfl := some_in hF
  exact f_ret Z (run_results1 rfl Z rfl) ⟨rfl, I, (H.sub [] rfl).eq rfl⟩
 ·replace hF := ite_f hc1 hF
  refine wp_skip ?_
  refine p_then (wp_seq (f_region Z ?_)); clear Z; intro Z
  refine s_runk tMv1 Z 3 rfl rfl ?_; clear Z a; intro a Z
  refine g_ob Z (p := (!(seqB to_ ⟨#[]⟩))) (v := .string k) (S' := [(0, .string k)]) rfl rfl rfl (wantB_f _) rfl (by decide) (fun hp hS => hS.sub (ts := [0]) rfl) (fun hp => Ob_c tMv1 rfl) ?_; clear Z a; intro a Z
  refine g_ob Z (p := (!(seqB to_ ⟨#[]⟩))) (v := .string to_) (S' := [(2, .string to_)]) rfl rfl rfl (wantB_f _) rfl (by decide) (fun hp hS => hS.sub (ts := [2]) rfl) (fun hp => Ob_c tMv1 rfl) ?_; clear Z a; intro a Z
  refine g_ob Z (p := (!(seqB to_ ⟨#[]⟩))) (v := .bool (sltB k to_)) (S' := [(13, .string k), (14, .string to_)]) rfl rfl rfl (wantB_f _) rfl (by decide) (fun hp hS => ((hS.conv (t := 13) rfl (cond_t hp)).conv (t := 14) rfl (cond_t hp)).sub (ts := [13, 14]) rfl) (fun hp => Ob_c tMv1 rfl) ?_; clear Z a; intro a Z
  refine s_ob Z (v := .bool ((seqB to_ ⟨#[]⟩) || (sltB k to_))) rfl rfl (by decide) rfl (Ob_pick rfl rfl rfl rfl (pick_or _ _)) ?_; clear Z a; intro a Z
  refine s_runk tMv1 Z 1 rfl rfl ?_; clear Z a; intro a Z
  refine s_end Z [6] rfl ?_; clear Z; intro Z
  refine p_then (wp_ret ?_)
  obtain rfl := some_in hF
  exact f_ret Z (run_results1 rfl Z rfl) ⟨rfl, I, (H.sub [] rfl).eq rfl⟩

def F_mvcc_Store_Scan_k1 (out : List EPair) (more : Bool) (s0_2 : Emvcc_Store) : Option ((List EPair) × Bool × Emvcc_Store) := some (out, more, s0_2)

def F_mvcc_Store_Scan_k3 (x_2 : Int) (rc : ((List EPair) × Int × Emvcc_Store) → Option ((List EPair) × Bool × Emvcc_Store)) (out_3 : List EPair) (v : ByteArray) (ok : Bool) (x_0 : ByteArray) (x_1 : Bool) (x_0_2 : ByteArray) (x_1_2 : Bool) (x_3 : ByteArray) (x_4 : Bool) (x_5 : Bool) (x_6 : Bool) (x_7 : Bool) (x_8 : Bool) (x_9 : Bool) (s0_4 : Emvcc_Store) : Option ((List EPair) × Bool × Emvcc_Store) := chk (inI (x_2 + 1)) (rc (out_3, x_2 + 1, s0_4))

def F_mvcc_Store_Scan_l2 (from_ : ByteArray) (to_ : ByteArray) (t : Int) (most : Int) (n0_2 : List ByteArray) (rc : ((List EPair) × Int × Emvcc_Store) → Option ((List EPair) × Bool × Emvcc_Store)) (sg : (List EPair) × Int × Emvcc_Store) : Option ((List EPair) × Bool × Emvcc_Store) := match sg with | (out_2, x_2, s0_3) => if (decide (x_2 < (n0_2.length : Int))) = true then (chk ((0 : Int) ≤ x_2 ∧ x_2 < (n0_2.length : Int)) ((F_mvcc_Store_Get s0_3 (n0_2.getD (x_2).toNat default) t).bind fun g => ((gif (!(!g.2.1)) (F_keys_In (n0_2.getD (x_2).toNat default) from_ to_) default).bind fun i => (if ((!g.2.1) || (!i)) = true then (F_mvcc_Store_Scan_k3 x_2 rc out_2 g.1 g.2.1 g.1 g.2.1 g.1 g.2.1 g.1 g.2.1 ((!g.2.1) || (!i)) g.2.1 (!g.2.1) (!g.2.1) ((!g.2.1) || (!i)) g.2.2) else (if (decide ((out_2.length : Int) ≥ most)) = true then (F_mvcc_Store_Scan_k1 out_2 true g.2.2) else (chk (((out_2.length + [({ key := (n0_2.getD (x_2).toNat default), val := g.1 } : EPair)].length : Nat) : Int) * 32 ≤ 140737488355328) (F_mvcc_Store_Scan_k3 x_2 rc (out_2 ++ [({ key := (n0_2.getD (x_2).toNat default), val := g.1 } : EPair)]) g.1 g.2.1 g.1 g.2.1 g.1 g.2.1 g.1 g.2.1 ((!g.2.1) || (!i)) g.2.1 (!g.2.1) (!g.2.1) ((!g.2.1) || (!i)) g.2.2))))))) else (F_mvcc_Store_Scan_k1 out_2 false s0_3)

def F_mvcc_Store_Scan_k5 (x_10 : Int) (rc_2 : ((List EPair) × Int × Emvcc_Store) → Option ((List EPair) × Bool × Emvcc_Store)) (out_5 : List EPair) (v_2 : ByteArray) (ok_2 : Bool) (x_0_3 : ByteArray) (x_1_3 : Bool) (x_0_4 : ByteArray) (x_1_4 : Bool) (x_11 : ByteArray) (x_12 : Bool) (x_13 : Bool) (x_14 : Bool) (x_15 : Bool) (x_16 : Bool) (x_17 : Bool) (s0_6 : Emvcc_Store) : Option ((List EPair) × Bool × Emvcc_Store) := chk (inI (x_10 + 1)) (rc_2 (out_5, x_10 + 1, s0_6))

def F_mvcc_Store_Scan_l4 (from_ : ByteArray) (to_ : ByteArray) (t : Int) (most : Int) (k : (List ByteArray) × Etree_Tree_api_Cell) (rc_2 : ((List EPair) × Int × Emvcc_Store) → Option ((List EPair) × Bool × Emvcc_Store)) (sg : (List EPair) × Int × Emvcc_Store) : Option ((List EPair) × Bool × Emvcc_Store) := match sg with | (out_4, x_10, s0_5) => if (decide (x_10 < (k.1.length : Int))) = true then (chk ((0 : Int) ≤ x_10 ∧ x_10 < (k.1.length : Int)) ((F_mvcc_Store_Get s0_5 (k.1.getD (x_10).toNat default) t).bind fun g_2 => ((gif (!(!g_2.2.1)) (F_keys_In (k.1.getD (x_10).toNat default) from_ to_) default).bind fun i_2 => (if ((!g_2.2.1) || (!i_2)) = true then (F_mvcc_Store_Scan_k5 x_10 rc_2 out_4 g_2.1 g_2.2.1 g_2.1 g_2.2.1 g_2.1 g_2.2.1 g_2.1 g_2.2.1 ((!g_2.2.1) || (!i_2)) g_2.2.1 (!g_2.2.1) (!g_2.2.1) ((!g_2.2.1) || (!i_2)) g_2.2.2) else (if (decide ((out_4.length : Int) ≥ most)) = true then (F_mvcc_Store_Scan_k1 out_4 true g_2.2.2) else (chk (((out_4.length + [({ key := (k.1.getD (x_10).toNat default), val := g_2.1 } : EPair)].length : Nat) : Int) * 32 ≤ 140737488355328) (F_mvcc_Store_Scan_k5 x_10 rc_2 (out_4 ++ [({ key := (k.1.getD (x_10).toNat default), val := g_2.1 } : EPair)]) g_2.1 g_2.2.1 g_2.1 g_2.2.1 g_2.1 g_2.2.1 g_2.1 g_2.2.1 ((!g_2.2.1) || (!i_2)) g_2.2.1 (!g_2.2.1) (!g_2.2.1) ((!g_2.2.1) || (!i_2)) g_2.2.2))))))) else (F_mvcc_Store_Scan_k1 out_4 false s0_5)

def F_mvcc_Store_Scan (s0 : Emvcc_Store) (from_ : ByteArray) (to_ : ByteArray) (t : Int) (most : Int) : Option ((List EPair) × Bool × Emvcc_Store) := (F_mvcc_Store_none s0).bind fun n0 => (if (n0) = true then (some (([] : List EPair), false, s0)) else (optE s0.t ((F_tree_Tree_api_Cell_Keys_nil from_ to_).bind fun n0_2 => (iter (F_mvcc_Store_Scan_l2 from_ to_ t most n0_2) FU (([] : List EPair), 0, ({ s0 with t := none } : Emvcc_Store)))) (fun x => (F_tree_Tree_api_Cell_Keys x from_ to_).bind fun k => (iter (F_mvcc_Store_Scan_l4 from_ to_ t most k) FU (([] : List EPair), 0, ({ s0 with t := some k.2 } : Emvcc_Store))))))

set_option maxHeartbeats 1000000 in
theorem c_mvcc_Store_Scan {I D : Dm} {b_s0 : Nat} {s0 : Emvcc_Store} {from_ : ByteArray} {to_ : ByteArray} {t : Int} {most : Int} {w : World} {rr : (List EPair) × Bool × Emvcc_Store} (hF : F_mvcc_Store_Scan s0 from_ to_ t most = some rr) (H : St I D w [OEmvcc_Store b_s0 s0]) :
  Calls Try.prog 12 #[.pointer (some ⟨b_s0, 0, none⟩), .string from_, .string to_, .int .u64 t, .int .i64 most] w (Ret fun vv w' => ∃ q1 : Value, vv = .tuple #[q1, .bool rr.2.1] ∧ ∃ I', Hf I D w I' w' [OEmvcc_Store b_s0 rr.2.2, SlC NEPair q1 rr.1]) := by
 replace H := H.hf
 unfold F_mvcc_Store_Scan at hF
 refine f_enter 63 Try.func12 rfl rfl (Nat.le_of_ble_eq_true rfl) fun a Z => ?_
 replace Z := Z.sub (ts := [0, 1, 2, 3, 4]) rfl
 refine wp_seq (f_region Z ?_); clear Z; intro Z
 refine s_runk tMv1 Z 2 rfl rfl ?_; clear Z a; intro a Z
 refine s_end Z [0, 1, 2, 3, 4, 10, 11] rfl ?_; clear Z; intro Z
 refine p_then ?_
 refine wp_scope_straight ?_
 refine wp_seq ?_
 refine wp_seq ?_
 obtain ⟨n0, hx1, hF⟩ := bnd_in hF
 refine f_region Z ?_; clear Z; intro Z
 refine s_runk tMv1 Z 1 rfl rfl ?_; clear Z a; intro a Z
 refine h_call Z H (js := [(0, false)]) rfl (caps := #[]) fn_25_YMv1 rfl rfl rfl rfl rfl (by decide) rfl rfl (fun D1 hS => have hq := c_mvcc_Store_none hx1 hS; hq) ?_; clear Z a; intro vv a w1 D2 hr hF2 Z
 obtain ⟨rfl, I1, K⟩ := hr
 have H : Hf I D w I1 w1 [OEmvcc_Store b_s0 s0] := hF2 K
 clear hF2 K
 refine s_end Z [0, 1, 2, 3, 4, 10, 11, 19] rfl ?_; clear Z; intro Z
 refine p_then ?_
 refine f_cond Z rfl (fun hc1 => ?_) (fun hc1 => ?_)
 ·replace hF := ite_t hc1 hF
  refine wp_seq (f_region Z ?_); clear Z; intro Z
  refine s_runk tMv1 Z 2 rfl rfl ?_; clear Z a; intro a Z
  refine s_end Z [0, 1, 2, 3, 4, 10, 11] rfl ?_; clear Z; intro Z
  refine p_then (wp_ret ?_)
  refine p_then_r ?_
  refine p_scp_r ?_
  replace H : Hf I D w I1 w1 [SlC NEPair (.slice none 0 0) ([] : List EPair), OEmvcc_Store b_s0 s0] := H.slNil NEPair
  obtain rfl := some_in hF
  exact f_ret Z (run_results2 rfl Z rfl rfl) ⟨.slice none 0 0, rfl, I1, (H.sub [(1, false), (0, true)] rfl).eq rfl⟩
 ·replace hF := ite_f hc1 hF
  refine wp_skip ?_
  refine p_then (wp_seq (f_region Z ?_)); clear Z; intro Z
  refine s_runk tMv1 Z 1 rfl rfl ?_; clear Z a; intro a Z
  refine s_end Z [0, 1, 2, 3, 4, 10, 11, 12] rfl ?_; clear Z; intro Z
  refine p_then (wp_seq (f_region Z ?_)); clear Z; intro Z
  refine s_runk tMv1 Z 1 rfl rfl ?_; clear Z a; intro a Z
  refine s_end Z [0, 1, 2, 3, 4, 10, 11, 12, 13] rfl ?_; clear Z; intro Z
  refine p_then (wp_seq ?_)
  refine wp_label ?_
  refine p_then ?_
  refine f_cut (fun a' w' => ∃ (out : List EPair) (more : Bool) (s0_2 : Emvcc_Store), ∃ v1 : Value, Sl 63 [(10, .slice none 0 0), (11, .bool false), (12, v1), (13, .bool more)] a' ∧ (∃ I2, Hf I D w I2 w' [OEmvcc_Store b_s0 s0_2, OwC NEPair 39 v1 out]) ∧ F_mvcc_Store_Scan_k1 out more s0_2 = some rr) ?_ ?_
  ·rintro a w2 ⟨out, more, s0_2, v1, Z, ⟨I2, H⟩, hF⟩
   unfold F_mvcc_Store_Scan_k1 at hF
   try dsimp only at hF
   refine wp_seq (f_region Z ?_); clear Z; intro Z
   refine s_runk tMv1 Z 4 rfl rfl ?_; clear Z a; intro a Z
   refine s_end Z [10, 11] rfl ?_; clear Z; intro Z
   refine p_then (wp_ret ?_)
   refine p_scp_r ?_
   obtain ⟨I3, _, H⟩ := H.frzow 1 rfl
   replace H : Hf I D w I3 w2 [SlC NEPair v1 out, OEmvcc_Store b_s0 s0_2] := H
   obtain rfl := some_in hF
   exact f_ret Z (run_results2 rfl Z rfl rfl) ⟨v1, rfl, I3, (H.sub [(1, false), (0, true)] rfl).eq rfl⟩
  ·skip
   refine wp_seq ?_
   obtain ⟨v2, H⟩ := H.openX 0 rfl
   replace H : Hf I D w I1 w1 [BxC b_s0 57 [v2, .int .u64 s0.last, .int .i64 s0.n], PtC OEtree_Tree_api_Cell v2 s0.t] := H
   rcases optE_in hF with ⟨ho1, hF⟩ | ⟨x, ho1, hF⟩
   ·obtain ⟨hv, H⟩ := H.optN 1 rfl ho1
    subst hv
    replace H : Hf I D w I1 w1 [BxC b_s0 57 [.pointer none, .int .u64 s0.last, .int .i64 s0.n]] := H
    obtain ⟨n0_2, hx2, hF⟩ := bnd_in hF
    refine f_region Z ?_; clear Z; intro Z
    refine s_runk tMv1 Z 3 rfl rfl ?_; clear Z a; intro a Z
    refine s_ob Z (v := .pointer none) rfl rfl (by decide) rfl (Ob_load tMv1 rfl rfl rfl ((H.bx 0 rfl).cell 0 rfl)) ?_; clear Z a; intro a Z
    refine s_runk tMv1 Z 2 rfl rfl ?_; clear Z a; intro a Z
    refine h_call Z H (js := []) rfl (caps := #[]) fn_30_YMv1 rfl rfl rfl rfl rfl (by decide) rfl rfl (fun D1 hS => have hq := c_tree_Tree_api_Cell_Keys_nil hx2 hS; hq) ?_; clear Z a; intro vv a w3 D2 hr hF2 Z
    obtain ⟨q1, hvv, I4, K⟩ := hr; obtain rfl := hvv.symm
    have H : Hf I D w I4 w3 [SlC NS q1 n0_2, BxC b_s0 57 [.pointer none, .int .u64 s0.last, .int .i64 s0.n]] := hF2 K
    clear hF2 K
    refine s_ob Z (v := .int .i64 (n0_2.length : Int)) rfl rfl (by decide) rfl (Ob_slen tMv1 rfl rfl rfl (H.slshape 0 rfl)) ?_; clear Z a; intro a Z
    refine s_runk tMv1 Z 1 rfl rfl ?_; clear Z a; intro a Z
    refine s_end Z [0, 1, 2, 3, 4, 10, 11, 12, 13, 26, 27, 28] rfl ?_; clear Z; intro Z
    refine p_then (wp_block ?_)
    replace H : Hf I D w I4 w3 [PtC OEtree_Tree_api_Cell (.pointer none) none, SlC NS q1 n0_2, BxC b_s0 57 [.pointer none, .int .u64 s0.last, .int .i64 s0.n]] := H.mkN OEtree_Tree_api_Cell
    replace H : Hf I D w I4 w3 [OEmvcc_Store b_s0 ({ s0 with t := none } : Emvcc_Store), SlC NS q1 n0_2] := H.shutX (.pointer none) [(2, false), (0, false)] rfl
    replace H : Hf I D w I4 w3 [OwC NEPair 39 (.slice none 0 0) ([] : List EPair), OEmvcc_Store b_s0 ({ s0 with t := none } : Emvcc_Store), SlC NS q1 n0_2] := H.nilow NEPair 39
    refine f_iter hF (fun sg a' w' => match sg with | (out_2, x_2, s0_3) => ∃ v3 : Value, Sl 63 [(0, .pointer (some ⟨b_s0, 0, none⟩)), (1, .string from_), (2, .string to_), (3, .int .u64 t), (4, .int .i64 most), (10, .slice none 0 0), (11, .bool false), (12, v3), (13, .bool false), (26, q1), (27, .int .i64 (n0_2.length : Int)), (28, .int .i64 x_2)] a' ∧ ∃ I2, Hf I D w I2 w' [OEmvcc_Store b_s0 s0_3, SlC NS q1 n0_2, OwC NEPair 39 v3 out_2]) ⟨.slice none 0 0, Z.sub (ts := [0, 1, 2, 3, 4, 10, 11, 12, 13, 26, 27, 28]) rfl, ⟨I4, (H.sub [(1, false), (1, true), (0, false)] rfl).eq rfl⟩⟩ ?_
    clear Z H hF a
    rintro rc ⟨out_2, x_2, s0_3⟩ a w4 ⟨v3, Z, I5, H⟩ hF
    unfold F_mvcc_Store_Scan_l2 at hF
    try dsimp only at hF
    refine wp_seq (f_region Z ?_); clear Z; intro Z
    refine s_runk tMv1 Z 1 rfl rfl ?_; clear Z a; intro a Z
    refine s_end Z [0, 1, 2, 3, 4, 10, 11, 12, 13, 26, 27, 28, 29] rfl ?_; clear Z; intro Z
    refine p_then (wp_seq ?_)
    refine f_cond Z rfl (fun hc2 => ?_) (fun hc2 => ?_)
    ·replace hF := ite_t hc2 hF
     refine wp_skip ?_
     refine p_then ?_
     refine f_cut (fun a' w' => ∃ (out_3 : List EPair) (v : ByteArray) (ok : Bool) (x_0 : ByteArray) (x_1 : Bool) (x_0_2 : ByteArray) (x_1_2 : Bool) (x_3 : ByteArray) (x_4 : Bool) (x_5 : Bool) (x_6 : Bool) (x_7 : Bool) (x_8 : Bool) (x_9 : Bool) (s0_4 : Emvcc_Store), ∃ v4 : Value, Sl 63 [(0, .pointer (some ⟨b_s0, 0, none⟩)), (1, .string from_), (2, .string to_), (3, .int .u64 t), (4, .int .i64 most), (10, .slice none 0 0), (11, .bool false), (12, v4), (13, .bool false), (15, .string (n0_2.getD (x_2).toNat default)), (16, .string v), (17, .bool ok), (26, q1), (27, .int .i64 (n0_2.length : Int)), (28, .int .i64 x_2), (29, .bool (decide (x_2 < (n0_2.length : Int)))), (30, .pointer (some ⟨blkOf q1, oofOf q1 + (x_2).toNat * 1, none⟩)), (31, .string (n0_2.getD (x_2).toNat default)), (32, .tuple #[.string x_0, .bool x_1]), (33, .pointer (some ⟨b_s0, 0, none⟩)), (34, .string (n0_2.getD (x_2).toNat default)), (35, .int .u64 t), (36, .tuple #[.string x_0_2, .bool x_1_2]), (37, .string x_3), (38, .bool x_4), (39, .bool x_5), (40, .bool x_6), (41, .bool x_7), (42, .bool x_8), (48, .bool x_9)] a' ∧ (∃ I2, Hf I D w I2 w' [OEmvcc_Store b_s0 s0_4, SlC NS q1 n0_2, OwC NEPair 39 v4 out_3]) ∧ F_mvcc_Store_Scan_k3 x_2 rc out_3 v ok x_0 x_1 x_0_2 x_1_2 x_3 x_4 x_5 x_6 x_7 x_8 x_9 s0_4 = some rr) ?_ ?_
     ·rintro a w5 ⟨out_3, v, ok, x_0, x_1, x_0_2, x_1_2, x_3, x_4, x_5, x_6, x_7, x_8, x_9, s0_4, v4, Z, ⟨I6, H⟩, hF⟩
      unfold F_mvcc_Store_Scan_k3 at hF
      try dsimp only at hF
      obtain ⟨hg1, hF⟩ := chk_in hF
      refine f_region Z ?_; clear Z; intro Z
      refine s_ob Z (v := .int .i64 (x_2 + 1)) rfl rfl (by decide) rfl (Ob_add rfl rfl rfl (wrI hg1)) ?_; clear Z a; intro a Z
      refine s_runk tMv1 Z 1 rfl rfl ?_; clear Z a; intro a Z
      refine s_end Z [0, 1, 2, 3, 4, 10, 11, 12, 13, 15, 16, 17, 26, 27, 28, 29, 30, 31, 32, 33, 34, 35, 36, 37, 38, 39, 40, 41, 42, 48, 60] rfl ?_; clear Z; intro Z
      refine p_then ?_
      exact ⟨(out_3, x_2 + 1, s0_4), ⟨v4, Z.sub (ts := [0, 1, 2, 3, 4, 10, 11, 12, 13, 26, 27, 28]) rfl, ⟨I6, (H.sub [(0, false), (0, true), (1, false)] rfl).eq rfl⟩⟩, hF⟩
     ·skip
      refine wp_block ?_
      refine wp_seq ?_
      obtain ⟨hg2, hF⟩ := chk_in hF
      refine f_region Z ?_; clear Z; intro Z
      refine s_ob Z (v := .pointer (some ⟨blkOf q1, oofOf q1 + (x_2).toNat * 1, none⟩)) rfl rfl (by decide) rfl (Ob_sidx tMv1 rfl rfl rfl rfl (slPl (H.sl 1 rfl) hg2) hg2) ?_; clear Z a; intro a Z
      refine s_ob Z (v := .string (n0_2.getD (x_2).toNat default)) rfl rfl (by decide) rfl (Ob_load tMv1 rfl rfl rfl ((slFl (H.sl 1 rfl) hg2) 0 _ rfl)) ?_; clear Z a; intro a Z
      refine s_runk tMv1 Z 1 rfl rfl ?_; clear Z a; intro a Z
      refine s_end Z [0, 1, 2, 3, 4, 10, 11, 12, 13, 26, 27, 28, 29, 30, 31, 15] rfl ?_; clear Z; intro Z
      refine p_then (wp_seq ?_)
      obtain ⟨g, hx3, hF⟩ := bnd_in hF
      refine f_region Z ?_; clear Z; intro Z
      refine s_runk tMv1 Z 3 rfl rfl ?_; clear Z a; intro a Z
      refine h_call Z H (js := [(0, false)]) rfl (caps := #[]) fn_23_YMv1 rfl rfl rfl rfl rfl (by decide) rfl rfl (fun D1 hS => have hq := c_mvcc_Store_Get hx3 hS; hq) ?_; clear Z a; intro vv a w6 D2 hr hF2 Z
      obtain ⟨rfl, I7, K⟩ := hr
      have H : Hf I D w I7 w6 [OEmvcc_Store b_s0 g.2.2, SlC NS q1 n0_2, OwC NEPair 39 v3 out_2] := hF2 K
      clear hF2 K
      refine s_runk tMv1 Z 5 rfl rfl ?_; clear Z a; intro a Z
      refine s_end Z [0, 1, 2, 3, 4, 10, 11, 12, 13, 26, 27, 28, 29, 30, 31, 15, 33, 34, 35, 36, 32, 37, 38, 16, 17] rfl ?_; clear Z; intro Z
      refine p_then (wp_seq ?_)
      refine wp_block ?_
      refine wp_seq ?_
      obtain ⟨i, hx4, hF⟩ := bnd_in hF
      refine f_region Z ?_; clear Z; intro Z
      refine s_runk tMv1 Z 3 rfl rfl ?_; clear Z a; intro a Z
      refine g_ob Z (p := (!(!g.2.1))) (v := .string (n0_2.getD (x_2).toNat default)) (S' := [(15, .string (n0_2.getD (x_2).toNat default))]) rfl rfl rfl (wantB_f _) rfl (by decide) (fun hp hS => hS.sub (ts := [15]) rfl) (fun hp => Ob_c tMv1 rfl) ?_; clear Z a; intro a Z
      refine g_ob Z (p := (!(!g.2.1))) (v := .string from_) (S' := [(1, .string from_)]) rfl rfl rfl (wantB_f _) rfl (by decide) (fun hp hS => hS.sub (ts := [1]) rfl) (fun hp => Ob_c tMv1 rfl) ?_; clear Z a; intro a Z
      refine g_ob Z (p := (!(!g.2.1))) (v := .string to_) (S' := [(2, .string to_)]) rfl rfl rfl (wantB_f _) rfl (by decide) (fun hp hS => hS.sub (ts := [2]) rfl) (fun hp => Ob_c tMv1 rfl) ?_; clear Z a; intro a Z
      refine g_call Z (p := (!(!g.2.1))) (v := .bool i) (S' := [(43, .string (n0_2.getD (x_2).toNat default)), (44, .string from_), (45, .string to_)]) (caps := #[]) fn_31_YMv1 rfl rfl rfl (wantB_f _) rfl (by decide) (fun hp hS => (((hS.conv (t := 43) rfl (cond_t hp)).conv (t := 44) rfl (cond_t hp)).conv (t := 45) rfl (cond_t hp)).sub (ts := [43, 44, 45]) rfl) rfl rfl rfl rfl (fun hp => have hq := c_keys_In (gif_in hx4 hp) (H.pick0 (js := []) rfl rfl); plainC hq) ?_; clear Z a; intro a w7 hb Z
      replace H : Hf I D w I7 w7 [OEmvcc_Store b_s0 g.2.2, SlC NS q1 n0_2, OwC NEPair 39 v3 out_2] := H.blw hb
      clear hb
      refine g_ob Z (p := (!(!g.2.1))) (v := .bool (!i)) (S' := [(46, .bool i)]) rfl rfl rfl (wantB_f _) rfl (by decide) (fun hp hS => (hS.conv (t := 46) rfl (cond_t hp)).sub (ts := [46]) rfl) (fun hp => Ob_c tMv1 rfl) ?_; clear Z a; intro a Z
      refine s_ob Z (v := .bool ((!g.2.1) || (!i))) rfl rfl (by decide) rfl (Ob_pick rfl rfl rfl rfl (pick_or _ _)) ?_; clear Z a; intro a Z
      refine s_runk tMv1 Z 1 rfl rfl ?_; clear Z a; intro a Z
      refine s_end Z [0, 1, 2, 3, 4, 10, 11, 12, 13, 26, 27, 28, 29, 30, 31, 15, 33, 34, 35, 36, 32, 37, 38, 16, 17, 40, 41, 42, 48, 39] rfl ?_; clear Z; intro Z
      refine p_then ?_
      refine f_cond Z rfl (fun hc3 => ?_) (fun hc3 => ?_)
      ·replace hF := ite_t hc3 hF
       refine wp_exit ?_
       refine f_exit_out (by decide) ?_
       refine p_then_x ?_
       refine f_exit_here ?_
       refine p_then ?_
       exact ⟨out_2, g.1, g.2.1, g.1, g.2.1, g.1, g.2.1, g.1, g.2.1, (!g.2.1) || (!i), g.2.1, !g.2.1, !g.2.1, (!g.2.1) || (!i), g.2.2, v3, Z.sub (ts := [0, 1, 2, 3, 4, 10, 11, 12, 13, 15, 16, 17, 26, 27, 28, 29, 30, 31, 32, 33, 34, 35, 36, 37, 38, 39, 40, 41, 42, 48]) rfl, ⟨I7, (H.sub [(0, false), (0, true), (1, false)] rfl).eq rfl⟩, hF⟩
      ·replace hF := ite_f hc3 hF
       refine wp_seq (f_region Z ?_); clear Z; intro Z
       refine s_runk tMv1 Z 1 rfl rfl ?_; clear Z a; intro a Z
       refine s_ob Z (v := .int .i64 (out_2.length : Int)) rfl rfl (by decide) rfl (Ob_slen tMv1 rfl rfl rfl (H.owshape 2 rfl)) ?_; clear Z a; intro a Z
       refine s_runk tMv1 Z 3 rfl rfl ?_; clear Z a; intro a Z
       refine s_end Z [0, 1, 2, 3, 4, 10, 11, 12, 13, 26, 27, 28, 29, 30, 31, 15, 33, 34, 35, 36, 32, 37, 38, 16, 17, 40, 41, 42, 48, 39, 50, 51, 52, 53, 49] rfl ?_; clear Z; intro Z
       refine p_then ?_
       refine f_cond Z rfl (fun hc4 => ?_) (fun hc4 => ?_)
       ·replace hF := ite_t hc4 hF
        refine wp_seq (f_region Z ?_); clear Z; intro Z
        refine s_runk tMv1 Z 1 rfl rfl ?_; clear Z a; intro a Z
        refine s_end Z [0, 1, 2, 3, 4, 10, 11, 12, 13, 26, 27, 28, 29, 30, 31, 15, 33, 34, 35, 36, 32, 37, 38, 16, 17, 40, 41, 42, 48, 39, 50, 51, 52, 53, 49] rfl ?_; clear Z; intro Z
        refine p_then ?_
        refine wp_exit ?_
        refine f_exit_out (by decide) ?_
        refine p_then_x ?_
        refine f_exit_out (by decide) ?_
        refine p_then_x ?_
        refine p_then_x ?_
        refine f_exit_here ?_
        refine p_then ?_
        exact ⟨out_2, true, g.2.2, v3, Z.sub (ts := [10, 11, 12, 13]) rfl, ⟨I7, (H.sub [(0, false), (1, false)] rfl).eq rfl⟩, hF⟩
       ·replace hF := ite_f hc4 hF
        refine wp_skip ?_
        refine p_blk ?_
        refine p_then ?_
        obtain ⟨hg3, hF⟩ := chk_in hF
        refine f_region Z ?_; clear Z; intro Z
        refine s_runk tMv1 Z 3 rfl rfl ?_; clear Z a; intro a Z
        refine s_ob Z (v := .agg #[.string (n0_2.getD (x_2).toNat default), .string g.1]) rfl rfl (by decide) rfl (Ob_build (vs := [(0, .string (n0_2.getD (x_2).toNat default)), (1, .string g.1)]) rfl rfl (by go_simp <;> rfl)) ?_; clear Z a; intro a Z
        refine h_bslice Z H (vs := [(0, .agg #[.string (n0_2.getD (x_2).toNat default), .string g.1])]) (cl := [.string (n0_2.getD (x_2).toNat default), .string g.1]) (e := 39) rfl rfl rfl (by decide) rfl rfl (fun w => run_bslice (z := .agg #[.string ByteArray.empty, .string ByteArray.empty]) (m := 2) Try.underlying33 (by kernel_rfl) rfl rfl (by decide) (by simp [Instr.fill, Value.cells]) w) ?_; clear Z a H; intro a w8 b2 H Z
        refine h_appO Z H 3 E_33_YMv1 [({ key := (n0_2.getD (x_2).toNat default), val := g.1 } : EPair)] rfl rfl rfl rfl rfl (by decide) rfl rfl rfl (slRep2.box1 (H.bx 0 rfl) ⟨rfl, trivial⟩) hg3 (by decide) ?_; clear Z a H; intro v5 a w9 H Z
        dsimp only [List.eraseIdx] at H
        replace H : Hf I D w I7 w9 [OwC NEPair 39 v5 (out_2 ++ [({ key := (n0_2.getD (x_2).toNat default), val := g.1 } : EPair)]), OEmvcc_Store b_s0 g.2.2, SlC NS q1 n0_2] := H.sub [(0, false), (1, false), (1, true)] rfl
        refine s_runk tMv1 Z 1 rfl rfl ?_; clear Z a; intro a Z
        refine s_end Z [0, 1, 2, 3, 4, 10, 11, 12, 13, 26, 27, 28, 29, 30, 31, 15, 33, 34, 35, 36, 32, 37, 38, 16, 17, 40, 41, 42, 48, 39, 50, 51, 52, 53, 49, 54, 55, 56, 57, 58, 59] rfl ?_; clear Z; intro Z
        refine p_blk ?_
        refine p_then ?_
        exact ⟨out_2 ++ [({ key := (n0_2.getD (x_2).toNat default), val := g.1 } : EPair)], g.1, g.2.1, g.1, g.2.1, g.1, g.2.1, g.1, g.2.1, (!g.2.1) || (!i), g.2.1, !g.2.1, !g.2.1, (!g.2.1) || (!i), g.2.2, v5, Z.sub (ts := [0, 1, 2, 3, 4, 10, 11, 12, 13, 15, 16, 17, 26, 27, 28, 29, 30, 31, 32, 33, 34, 35, 36, 37, 38, 39, 40, 41, 42, 48]) rfl, ⟨I7, (H.sub [(1, false), (1, true), (0, false)] rfl).eq rfl⟩, hF⟩
    ·replace hF := ite_f hc2 hF
     refine wp_exit ?_
     refine p_then_x ?_
     refine p_then_x ?_
     refine f_exit_here ?_
     refine p_then ?_
     exact ⟨out_2, false, s0_3, v3, Z.sub (ts := [10, 11, 12, 13]) rfl, ⟨I5, (H.sub [(0, false), (1, false)] rfl).eq rfl⟩, hF⟩
   ·obtain ⟨b1, hv, H⟩ := H.optS 1 rfl ho1
    subst hv
    replace H : Hf I D w I1 w1 [OEtree_Tree_api_Cell b1 x, BxC b_s0 57 [.pointer (some ⟨b1, 0, none⟩), .int .u64 s0.last, .int .i64 s0.n]] := H
    obtain ⟨k, hx5, hF⟩ := bnd_in hF
    refine f_region Z ?_; clear Z; intro Z
    refine s_runk tMv1 Z 3 rfl rfl ?_; clear Z a; intro a Z
    refine s_ob Z (v := .pointer (some ⟨b1, 0, none⟩)) rfl rfl (by decide) rfl (Ob_load tMv1 rfl rfl rfl ((H.bx 1 rfl).cell 0 rfl)) ?_; clear Z a; intro a Z
    refine s_runk tMv1 Z 2 rfl rfl ?_; clear Z a; intro a Z
    refine h_call Z H (js := [(0, false)]) rfl (caps := #[]) fn_30_YMv1 rfl rfl rfl rfl rfl (by decide) rfl rfl (fun D1 hS => have hq := c_tree_Tree_api_Cell_Keys hx5 hS; hq) ?_; clear Z a; intro vv a w10 D2 hr hF2 Z
    obtain ⟨q2, hvv, I8, K⟩ := hr; obtain rfl := hvv.symm
    have H : Hf I D w I8 w10 [OEtree_Tree_api_Cell b1 k.2, SlC NS q2 k.1, BxC b_s0 57 [.pointer (some ⟨b1, 0, none⟩), .int .u64 s0.last, .int .i64 s0.n]] := hF2 K
    clear hF2 K
    refine s_ob Z (v := .int .i64 (k.1.length : Int)) rfl rfl (by decide) rfl (Ob_slen tMv1 rfl rfl rfl (H.slshape 1 rfl)) ?_; clear Z a; intro a Z
    refine s_runk tMv1 Z 1 rfl rfl ?_; clear Z a; intro a Z
    refine s_end Z [0, 1, 2, 3, 4, 10, 11, 12, 13, 26, 27, 28] rfl ?_; clear Z; intro Z
    refine p_then (wp_block ?_)
    replace H : Hf I D w I8 w10 [PtC OEtree_Tree_api_Cell (.pointer (some ⟨b1, 0, none⟩)) (some k.2), SlC NS q2 k.1, BxC b_s0 57 [.pointer (some ⟨b1, 0, none⟩), .int .u64 s0.last, .int .i64 s0.n]] := H.mkS (K := OEtree_Tree_api_Cell) 0 rfl
    replace H : Hf I D w I8 w10 [OEmvcc_Store b_s0 ({ s0 with t := some k.2 } : Emvcc_Store), SlC NS q2 k.1] := H.shutX (.pointer (some ⟨b1, 0, none⟩)) [(2, false), (0, false)] rfl
    replace H : Hf I D w I8 w10 [OwC NEPair 39 (.slice none 0 0) ([] : List EPair), OEmvcc_Store b_s0 ({ s0 with t := some k.2 } : Emvcc_Store), SlC NS q2 k.1] := H.nilow NEPair 39
    refine f_iter hF (fun sg a' w' => match sg with | (out_4, x_10, s0_5) => ∃ v6 : Value, Sl 63 [(0, .pointer (some ⟨b_s0, 0, none⟩)), (1, .string from_), (2, .string to_), (3, .int .u64 t), (4, .int .i64 most), (10, .slice none 0 0), (11, .bool false), (12, v6), (13, .bool false), (26, q2), (27, .int .i64 (k.1.length : Int)), (28, .int .i64 x_10)] a' ∧ ∃ I2, Hf I D w I2 w' [OEmvcc_Store b_s0 s0_5, SlC NS q2 k.1, OwC NEPair 39 v6 out_4]) ⟨.slice none 0 0, Z.sub (ts := [0, 1, 2, 3, 4, 10, 11, 12, 13, 26, 27, 28]) rfl, ⟨I8, (H.sub [(1, false), (1, true), (0, false)] rfl).eq rfl⟩⟩ ?_
    clear Z H hF a
    rintro rc_2 ⟨out_4, x_10, s0_5⟩ a w11 ⟨v6, Z, I9, H⟩ hF
    unfold F_mvcc_Store_Scan_l4 at hF
    try dsimp only at hF
    refine wp_seq (f_region Z ?_); clear Z; intro Z
    refine s_runk tMv1 Z 1 rfl rfl ?_; clear Z a; intro a Z
    refine s_end Z [0, 1, 2, 3, 4, 10, 11, 12, 13, 26, 27, 28, 29] rfl ?_; clear Z; intro Z
    refine p_then (wp_seq ?_)
    refine f_cond Z rfl (fun hc5 => ?_) (fun hc5 => ?_)
    ·replace hF := ite_t hc5 hF
     refine wp_skip ?_
     refine p_then ?_
     refine f_cut (fun a' w' => ∃ (out_5 : List EPair) (v_2 : ByteArray) (ok_2 : Bool) (x_0_3 : ByteArray) (x_1_3 : Bool) (x_0_4 : ByteArray) (x_1_4 : Bool) (x_11 : ByteArray) (x_12 : Bool) (x_13 : Bool) (x_14 : Bool) (x_15 : Bool) (x_16 : Bool) (x_17 : Bool) (s0_6 : Emvcc_Store), ∃ v7 : Value, Sl 63 [(0, .pointer (some ⟨b_s0, 0, none⟩)), (1, .string from_), (2, .string to_), (3, .int .u64 t), (4, .int .i64 most), (10, .slice none 0 0), (11, .bool false), (12, v7), (13, .bool false), (15, .string (k.1.getD (x_10).toNat default)), (16, .string v_2), (17, .bool ok_2), (26, q2), (27, .int .i64 (k.1.length : Int)), (28, .int .i64 x_10), (29, .bool (decide (x_10 < (k.1.length : Int)))), (30, .pointer (some ⟨blkOf q2, oofOf q2 + (x_10).toNat * 1, none⟩)), (31, .string (k.1.getD (x_10).toNat default)), (32, .tuple #[.string x_0_3, .bool x_1_3]), (33, .pointer (some ⟨b_s0, 0, none⟩)), (34, .string (k.1.getD (x_10).toNat default)), (35, .int .u64 t), (36, .tuple #[.string x_0_4, .bool x_1_4]), (37, .string x_11), (38, .bool x_12), (39, .bool x_13), (40, .bool x_14), (41, .bool x_15), (42, .bool x_16), (48, .bool x_17)] a' ∧ (∃ I2, Hf I D w I2 w' [OEmvcc_Store b_s0 s0_6, SlC NS q2 k.1, OwC NEPair 39 v7 out_5]) ∧ F_mvcc_Store_Scan_k5 x_10 rc_2 out_5 v_2 ok_2 x_0_3 x_1_3 x_0_4 x_1_4 x_11 x_12 x_13 x_14 x_15 x_16 x_17 s0_6 = some rr) ?_ ?_
     ·rintro a w12 ⟨out_5, v_2, ok_2, x_0_3, x_1_3, x_0_4, x_1_4, x_11, x_12, x_13, x_14, x_15, x_16, x_17, s0_6, v7, Z, ⟨I10, H⟩, hF⟩
      unfold F_mvcc_Store_Scan_k5 at hF
      try dsimp only at hF
      obtain ⟨hg4, hF⟩ := chk_in hF
      refine f_region Z ?_; clear Z; intro Z
      refine s_ob Z (v := .int .i64 (x_10 + 1)) rfl rfl (by decide) rfl (Ob_add rfl rfl rfl (wrI hg4)) ?_; clear Z a; intro a Z
      refine s_runk tMv1 Z 1 rfl rfl ?_; clear Z a; intro a Z
      refine s_end Z [0, 1, 2, 3, 4, 10, 11, 12, 13, 15, 16, 17, 26, 27, 28, 29, 30, 31, 32, 33, 34, 35, 36, 37, 38, 39, 40, 41, 42, 48, 60] rfl ?_; clear Z; intro Z
      refine p_then ?_
      exact ⟨(out_5, x_10 + 1, s0_6), ⟨v7, Z.sub (ts := [0, 1, 2, 3, 4, 10, 11, 12, 13, 26, 27, 28]) rfl, ⟨I10, (H.sub [(0, false), (0, true), (1, false)] rfl).eq rfl⟩⟩, hF⟩
     ·skip
      refine wp_block ?_
      refine wp_seq ?_
      obtain ⟨hg5, hF⟩ := chk_in hF
      refine f_region Z ?_; clear Z; intro Z
      refine s_ob Z (v := .pointer (some ⟨blkOf q2, oofOf q2 + (x_10).toNat * 1, none⟩)) rfl rfl (by decide) rfl (Ob_sidx tMv1 rfl rfl rfl rfl (slPl (H.sl 1 rfl) hg5) hg5) ?_; clear Z a; intro a Z
      refine s_ob Z (v := .string (k.1.getD (x_10).toNat default)) rfl rfl (by decide) rfl (Ob_load tMv1 rfl rfl rfl ((slFl (H.sl 1 rfl) hg5) 0 _ rfl)) ?_; clear Z a; intro a Z
      refine s_runk tMv1 Z 1 rfl rfl ?_; clear Z a; intro a Z
      refine s_end Z [0, 1, 2, 3, 4, 10, 11, 12, 13, 26, 27, 28, 29, 30, 31, 15] rfl ?_; clear Z; intro Z
      refine p_then (wp_seq ?_)
      obtain ⟨g_2, hx6, hF⟩ := bnd_in hF
      refine f_region Z ?_; clear Z; intro Z
      refine s_runk tMv1 Z 3 rfl rfl ?_; clear Z a; intro a Z
      refine h_call Z H (js := [(0, false)]) rfl (caps := #[]) fn_23_YMv1 rfl rfl rfl rfl rfl (by decide) rfl rfl (fun D1 hS => have hq := c_mvcc_Store_Get hx6 hS; hq) ?_; clear Z a; intro vv a w13 D2 hr hF2 Z
      obtain ⟨rfl, I11, K⟩ := hr
      have H : Hf I D w I11 w13 [OEmvcc_Store b_s0 g_2.2.2, SlC NS q2 k.1, OwC NEPair 39 v6 out_4] := hF2 K
      clear hF2 K
      refine s_runk tMv1 Z 5 rfl rfl ?_; clear Z a; intro a Z
      refine s_end Z [0, 1, 2, 3, 4, 10, 11, 12, 13, 26, 27, 28, 29, 30, 31, 15, 33, 34, 35, 36, 32, 37, 38, 16, 17] rfl ?_; clear Z; intro Z
      refine p_then (wp_seq ?_)
      refine wp_block ?_
      refine wp_seq ?_
      obtain ⟨i_2, hx7, hF⟩ := bnd_in hF
      refine f_region Z ?_; clear Z; intro Z
      refine s_runk tMv1 Z 3 rfl rfl ?_; clear Z a; intro a Z
      refine g_ob Z (p := (!(!g_2.2.1))) (v := .string (k.1.getD (x_10).toNat default)) (S' := [(15, .string (k.1.getD (x_10).toNat default))]) rfl rfl rfl (wantB_f _) rfl (by decide) (fun hp hS => hS.sub (ts := [15]) rfl) (fun hp => Ob_c tMv1 rfl) ?_; clear Z a; intro a Z
      refine g_ob Z (p := (!(!g_2.2.1))) (v := .string from_) (S' := [(1, .string from_)]) rfl rfl rfl (wantB_f _) rfl (by decide) (fun hp hS => hS.sub (ts := [1]) rfl) (fun hp => Ob_c tMv1 rfl) ?_; clear Z a; intro a Z
      refine g_ob Z (p := (!(!g_2.2.1))) (v := .string to_) (S' := [(2, .string to_)]) rfl rfl rfl (wantB_f _) rfl (by decide) (fun hp hS => hS.sub (ts := [2]) rfl) (fun hp => Ob_c tMv1 rfl) ?_; clear Z a; intro a Z
      refine g_call Z (p := (!(!g_2.2.1))) (v := .bool i_2) (S' := [(43, .string (k.1.getD (x_10).toNat default)), (44, .string from_), (45, .string to_)]) (caps := #[]) fn_31_YMv1 rfl rfl rfl (wantB_f _) rfl (by decide) (fun hp hS => (((hS.conv (t := 43) rfl (cond_t hp)).conv (t := 44) rfl (cond_t hp)).conv (t := 45) rfl (cond_t hp)).sub (ts := [43, 44, 45]) rfl) rfl rfl rfl rfl (fun hp => have hq := c_keys_In (gif_in hx7 hp) (H.pick0 (js := []) rfl rfl); plainC hq) ?_; clear Z a; intro a w14 hb Z
      replace H : Hf I D w I11 w14 [OEmvcc_Store b_s0 g_2.2.2, SlC NS q2 k.1, OwC NEPair 39 v6 out_4] := H.blw hb
      clear hb
      refine g_ob Z (p := (!(!g_2.2.1))) (v := .bool (!i_2)) (S' := [(46, .bool i_2)]) rfl rfl rfl (wantB_f _) rfl (by decide) (fun hp hS => (hS.conv (t := 46) rfl (cond_t hp)).sub (ts := [46]) rfl) (fun hp => Ob_c tMv1 rfl) ?_; clear Z a; intro a Z
      refine s_ob Z (v := .bool ((!g_2.2.1) || (!i_2))) rfl rfl (by decide) rfl (Ob_pick rfl rfl rfl rfl (pick_or _ _)) ?_; clear Z a; intro a Z
      refine s_runk tMv1 Z 1 rfl rfl ?_; clear Z a; intro a Z
      refine s_end Z [0, 1, 2, 3, 4, 10, 11, 12, 13, 26, 27, 28, 29, 30, 31, 15, 33, 34, 35, 36, 32, 37, 38, 16, 17, 40, 41, 42, 48, 39] rfl ?_; clear Z; intro Z
      refine p_then ?_
      refine f_cond Z rfl (fun hc6 => ?_) (fun hc6 => ?_)
      ·replace hF := ite_t hc6 hF
       refine wp_exit ?_
       refine f_exit_out (by decide) ?_
       refine p_then_x ?_
       refine f_exit_here ?_
       refine p_then ?_
       exact ⟨out_4, g_2.1, g_2.2.1, g_2.1, g_2.2.1, g_2.1, g_2.2.1, g_2.1, g_2.2.1, (!g_2.2.1) || (!i_2), g_2.2.1, !g_2.2.1, !g_2.2.1, (!g_2.2.1) || (!i_2), g_2.2.2, v6, Z.sub (ts := [0, 1, 2, 3, 4, 10, 11, 12, 13, 15, 16, 17, 26, 27, 28, 29, 30, 31, 32, 33, 34, 35, 36, 37, 38, 39, 40, 41, 42, 48]) rfl, ⟨I11, (H.sub [(0, false), (0, true), (1, false)] rfl).eq rfl⟩, hF⟩
      ·replace hF := ite_f hc6 hF
       refine wp_seq (f_region Z ?_); clear Z; intro Z
       refine s_runk tMv1 Z 1 rfl rfl ?_; clear Z a; intro a Z
       refine s_ob Z (v := .int .i64 (out_4.length : Int)) rfl rfl (by decide) rfl (Ob_slen tMv1 rfl rfl rfl (H.owshape 2 rfl)) ?_; clear Z a; intro a Z
       refine s_runk tMv1 Z 3 rfl rfl ?_; clear Z a; intro a Z
       refine s_end Z [0, 1, 2, 3, 4, 10, 11, 12, 13, 26, 27, 28, 29, 30, 31, 15, 33, 34, 35, 36, 32, 37, 38, 16, 17, 40, 41, 42, 48, 39, 50, 51, 52, 53, 49] rfl ?_; clear Z; intro Z
       refine p_then ?_
       refine f_cond Z rfl (fun hc7 => ?_) (fun hc7 => ?_)
       ·replace hF := ite_t hc7 hF
        refine wp_seq (f_region Z ?_); clear Z; intro Z
        refine s_runk tMv1 Z 1 rfl rfl ?_; clear Z a; intro a Z
        refine s_end Z [0, 1, 2, 3, 4, 10, 11, 12, 13, 26, 27, 28, 29, 30, 31, 15, 33, 34, 35, 36, 32, 37, 38, 16, 17, 40, 41, 42, 48, 39, 50, 51, 52, 53, 49] rfl ?_; clear Z; intro Z
        refine p_then ?_
        refine wp_exit ?_
        refine f_exit_out (by decide) ?_
        refine p_then_x ?_
        refine f_exit_out (by decide) ?_
        refine p_then_x ?_
        refine p_then_x ?_
        refine f_exit_here ?_
        refine p_then ?_
        exact ⟨out_4, true, g_2.2.2, v6, Z.sub (ts := [10, 11, 12, 13]) rfl, ⟨I11, (H.sub [(0, false), (1, false)] rfl).eq rfl⟩, hF⟩
       ·replace hF := ite_f hc7 hF
        refine wp_skip ?_
        refine p_blk ?_
        refine p_then ?_
        obtain ⟨hg6, hF⟩ := chk_in hF
        refine f_region Z ?_; clear Z; intro Z
        refine s_runk tMv1 Z 3 rfl rfl ?_; clear Z a; intro a Z
        refine s_ob Z (v := .agg #[.string (k.1.getD (x_10).toNat default), .string g_2.1]) rfl rfl (by decide) rfl (Ob_build (vs := [(0, .string (k.1.getD (x_10).toNat default)), (1, .string g_2.1)]) rfl rfl (by go_simp <;> rfl)) ?_; clear Z a; intro a Z
        refine h_bslice Z H (vs := [(0, .agg #[.string (k.1.getD (x_10).toNat default), .string g_2.1])]) (cl := [.string (k.1.getD (x_10).toNat default), .string g_2.1]) (e := 39) rfl rfl rfl (by decide) rfl rfl (fun w => run_bslice (z := .agg #[.string ByteArray.empty, .string ByteArray.empty]) (m := 2) Try.underlying33 (by kernel_rfl) rfl rfl (by decide) (by simp [Instr.fill, Value.cells]) w) ?_; clear Z a H; intro a w15 b3 H Z
        refine h_appO Z H 3 E_33_YMv1 [({ key := (k.1.getD (x_10).toNat default), val := g_2.1 } : EPair)] rfl rfl rfl rfl rfl (by decide) rfl rfl rfl (slRep2.box1 (H.bx 0 rfl) ⟨rfl, trivial⟩) hg6 (by decide) ?_; clear Z a H; intro v8 a w16 H Z
        dsimp only [List.eraseIdx] at H
        replace H : Hf I D w I11 w16 [OwC NEPair 39 v8 (out_4 ++ [({ key := (k.1.getD (x_10).toNat default), val := g_2.1 } : EPair)]), OEmvcc_Store b_s0 g_2.2.2, SlC NS q2 k.1] := H.sub [(0, false), (1, false), (1, true)] rfl
        refine s_runk tMv1 Z 1 rfl rfl ?_; clear Z a; intro a Z
        refine s_end Z [0, 1, 2, 3, 4, 10, 11, 12, 13, 26, 27, 28, 29, 30, 31, 15, 33, 34, 35, 36, 32, 37, 38, 16, 17, 40, 41, 42, 48, 39, 50, 51, 52, 53, 49, 54, 55, 56, 57, 58, 59] rfl ?_; clear Z; intro Z
        refine p_blk ?_
        refine p_then ?_
        exact ⟨out_4 ++ [({ key := (k.1.getD (x_10).toNat default), val := g_2.1 } : EPair)], g_2.1, g_2.2.1, g_2.1, g_2.2.1, g_2.1, g_2.2.1, g_2.1, g_2.2.1, (!g_2.2.1) || (!i_2), g_2.2.1, !g_2.2.1, !g_2.2.1, (!g_2.2.1) || (!i_2), g_2.2.2, v8, Z.sub (ts := [0, 1, 2, 3, 4, 10, 11, 12, 13, 15, 16, 17, 26, 27, 28, 29, 30, 31, 32, 33, 34, 35, 36, 37, 38, 39, 40, 41, 42, 48]) rfl, ⟨I11, (H.sub [(1, false), (1, true), (0, false)] rfl).eq rfl⟩, hF⟩
    ·replace hF := ite_f hc5 hF
     refine wp_exit ?_
     refine p_then_x ?_
     refine p_then_x ?_
     refine f_exit_here ?_
     refine p_then ?_
     exact ⟨out_4, false, s0_5, v6, Z.sub (ts := [10, 11, 12, 13]) rfl, ⟨I9, (H.sub [(0, false), (1, false)] rfl).eq rfl⟩, hF⟩

end Go.Proofs.Ytfefmdllnjpmgaa
