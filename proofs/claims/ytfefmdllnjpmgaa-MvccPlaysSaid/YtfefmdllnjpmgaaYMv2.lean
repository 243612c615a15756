/- Many versions: the document's store. -/
import Derived.Test.YtfefmdllnjpmgaaYMv1
import Derived.Test.YtfefmdllnjpmgaaYQU
import Derived.Test.YtfefmdllnjpmgaaYRw
namespace Go.Proofs.Ytfefmdllnjpmgaa
open Go.RowKit
def OEref16_Store (b : Nat) (x : Eref16_Store) : Ch := ExC fun (p : Value) => [BxC b 46 (cEref16_Store x p), OwC NEref16_Row 83 p x.l]

def tMv2L : TabL := ⟨[(39936, 0), (39937, 1), (47104, 0), (47105, 1), (61440, 0), (61441, 1), (61442, 2), (66560, 0), (66561, 1), (66562, 2), (72704, 0), (72705, 1), (72706, 2), (84992, 0), (84993, 1)], [9], [], [(30, (60, 3)), (33, (39, 2)), (44, (83, 2)), (62, (71, 3)), (73, (9, 1)), (76, (5, 1))], [(3, (1, false)), (4, (1, false)), (5, (1, false)), (9, (1, false)), (23, (1, false)), (30, (1, false)), (39, (2, true)), (44, (1, false)), (60, (3, true)), (62, (1, false)), (65, (3, true)), (71, (3, true))]⟩

def tMv2 : Tab Try.prog := ⟨tMv2L, by kernel_rfl⟩

theorem fn_22_YMv2 : IsFn Try.prog 22 := ⟨_, Try.func22, by kernel_rfl, by kernel_rfl⟩

theorem fn_33_YMv2 : IsFn Try.prog 33 := ⟨_, Try.func33, by kernel_rfl, by kernel_rfl⟩

theorem fn_34_YMv2 : IsFn Try.prog 34 := ⟨_, Try.func34, by kernel_rfl, by kernel_rfl⟩

theorem fn_37_YMv2 : IsFn Try.prog 37 := ⟨_, Try.func37, by kernel_rfl, by kernel_rfl⟩

theorem fn_47_YMv2 : IsFn Try.prog 47 := ⟨_, Try.func47, by kernel_rfl, by kernel_rfl⟩

theorem fn_50_YMv2 : IsFn Try.prog 50 := ⟨_, Try.func50, by kernel_rfl, by kernel_rfl⟩

theorem fn_51_YMv2 : IsFn Try.prog 51 := ⟨_, Try.func51, by kernel_rfl, by kernel_rfl⟩

theorem fn_52_YMv2 : IsFn Try.prog 52 := ⟨_, Try.func52, by kernel_rfl, by kernel_rfl⟩

theorem E_33_YMv2 : Elem Try.prog 33 39 2 32 := ⟨Try.underlying33, by
 have h : (Try.prog.info? 39).map (fun i => (i.zero, i.size, i.bytes)) = some (some (.agg #[.string ByteArray.empty, .string ByteArray.empty]), 2, 32) := by kernel_rfl
 obtain ⟨i, hi, h1⟩ := Option.map_eq_some_iff.1 h
 simp only [Prod.mk.injEq] at h1
 exact ⟨i, _, hi, h1.1, h1.2.1, h1.2.2, by rfl⟩, by decide⟩

theorem E_44_YMv2 : Elem Try.prog 44 83 2 40 := ⟨Try.underlying44, by
 have h : (Try.prog.info? 83).map (fun i => (i.zero, i.size, i.bytes)) = some (some (.agg #[.string ByteArray.empty, .slice none 0 0]), 2, 40) := by kernel_rfl
 obtain ⟨i, hi, h1⟩ := Option.map_eq_some_iff.1 h
 simp only [Prod.mk.injEq] at h1
 exact ⟨i, _, hi, h1.1, h1.2.1, h1.2.2, by rfl⟩, by decide⟩

theorem E_62_YMv2 : Elem Try.prog 62 71 3 32 := ⟨Try.underlying62, by
 have h : (Try.prog.info? 71).map (fun i => (i.zero, i.size, i.bytes)) = some (some (.agg #[.int .u64 0, .string ByteArray.empty, .bool false]), 3, 32) := by kernel_rfl
 obtain ⟨i, hi, h1⟩ := Option.map_eq_some_iff.1 h
 simp only [Prod.mk.injEq] at h1
 exact ⟨i, _, hi, h1.1, h1.2.1, h1.2.2, by rfl⟩, by decide⟩

theorem neq_EPair (x y : EPair) (w : World) : (binOp .neq 39 (.agg (cEPair x).toArray) (.agg (cEPair y).toArray)).run Try.prog w = .ok (.bool (!eqEPair x y)) w := by
 have h1 := run_equalIn_struct (P := Try.prog) w 9999 39 (cEPair x).toArray (cEPair y).toArray (by rw [fieldsOf_of Try.underlying39]; exact Try.underlying39) (by kernel_rfl)
 rw [run_neq_struct, h1, fieldsOf_of Try.underlying39]
 simp [Op.eqFields, part, isAgg, cEPair, beqS, eqEPair, seqB_eq, run_underlying Try.underlying9, run_equalIn_string w 9998 9 _ _ Try.underlying9]
 try ((repeat' split) <;> simp_all)

theorem eqg_EPair (op : BinOp) (x y : Operand) (a b : Array Value) (w : World) : (eqGuard op 39 x y (.agg a) (.agg b)).run Try.prog w = .ok () w := run_eqGuard_agg (by kernel_rfl) op x y a b w

def F_ref14_last_l1 (l : List ECell) (t : Int) (rc : Int → Option Int) (sg : Int) : Option Int := match sg with | i => if (decide (i ≥ 0)) = true then (chk ((0 : Int) ≤ i ∧ i < (l.length : Int)) (if (decide ((l.getD (i).toNat default).ts ≤ t)) = true then (some i) else (chk (inI (i - 1)) (rc (i - 1))))) else (some (-1))

def F_ref14_last (l : List ECell) (t : Int) : Option Int := chk (inI ((l.length : Int) - 1)) (iter (F_ref14_last_l1 l t) FU ((l.length : Int) - 1))

set_option maxHeartbeats 1000000 in
theorem c_ref14_last {I D : Dm} {l : List ECell} {v1_l : Value} {t : Int} {w : World} {rr : Int} (hF : F_ref14_last l t = some rr) (H : St I D w [SlC NECell v1_l l]) :
  Calls Try.prog 50 #[v1_l, .int .u64 t] w (Ret fun vv w' => vv = .int .i64 rr ∧ ∃ I', Hf I D w I' w' []) := by
 replace H := H.hf
 unfold F_ref14_last at hF
 refine f_enter 21 Try.func50 rfl rfl (Nat.le_of_ble_eq_true rfl) fun a Z => ?_
 replace Z := Z.sub (ts := [0, 1]) rfl
 refine wp_seq (f_region Z ?_); clear Z; intro Z
 refine s_runk tMv2 Z 1 rfl rfl ?_; clear Z a; intro a Z
 refine s_end Z [0, 1, 4] rfl ?_; clear Z; intro Z
 refine p_then (wp_seq ?_)
 refine wp_seq ?_
 obtain ⟨hg1, hF⟩ := chk_in hF
 refine f_region Z ?_; clear Z; intro Z
 refine s_runk tMv2 Z 1 rfl rfl ?_; clear Z a; intro a Z
 refine s_ob Z (v := .int .i64 (l.length : Int)) rfl rfl (by decide) rfl (Ob_slen tMv2 rfl rfl rfl (H.slshape 0 rfl)) ?_; clear Z a; intro a Z
 refine s_ob Z (v := .int .i64 ((l.length : Int) - 1)) rfl rfl (by decide) rfl (Ob_sub rfl rfl rfl (wrI hg1)) ?_; clear Z a; intro a Z
 refine s_runk tMv2 Z 1 rfl rfl ?_; clear Z a; intro a Z
 refine s_end Z [0, 1, 4, 5] rfl ?_; clear Z; intro Z
 refine p_then (wp_block ?_)
 refine f_iter hF (fun sg a' w' => match sg with | i => Sl 21 [(0, v1_l), (1, .int .u64 t), (4, .int .i64 0), (5, .int .i64 i)] a' ∧ ∃ I2, Hf I D w I2 w' [SlC NECell v1_l l]) ⟨Z.sub (ts := [0, 1, 4, 5]) rfl, ⟨I, (H.sub [(0, true)] rfl).eq rfl⟩⟩ ?_
 clear Z H hF a
 rintro rc i a w1 ⟨Z, I1, H⟩ hF
 unfold F_ref14_last_l1 at hF
 try dsimp only at hF
 refine wp_seq ?_
 refine wp_seq (f_region Z ?_); clear Z; intro Z
 refine s_runk tMv2 Z 2 rfl rfl ?_; clear Z a; intro a Z
 refine s_end Z [0, 1, 4, 5, 9, 10] rfl ?_; clear Z; intro Z
 refine p_then ?_
 refine f_cond Z rfl (fun hc1 => ?_) (fun hc1 => ?_)
 ·replace hF := ite_t hc1 hF
  refine wp_skip ?_
  refine p_then (wp_seq ?_)
  refine wp_block ?_
  refine wp_seq ?_
  obtain ⟨hg2, hF⟩ := chk_in hF
  refine f_region Z ?_; clear Z; intro Z
  refine s_runk tMv2 Z 2 rfl rfl ?_; clear Z a; intro a Z
  refine s_ob Z (v := .pointer (some ⟨blkOf v1_l, oofOf v1_l + (i).toNat * 3, none⟩)) rfl rfl (by decide) rfl (Ob_sidx tMv2 rfl rfl rfl rfl (slPl (H.sl 0 rfl) hg2) hg2) ?_; clear Z a; intro a Z
  refine s_runk tMv2 Z 1 rfl rfl ?_; clear Z a; intro a Z
  refine s_ob Z (v := .int .u64 ((l.getD (i).toNat default).ts)) rfl rfl (by decide) rfl (Ob_load tMv2 rfl rfl rfl ((slFl (H.sl 0 rfl) hg2) 0 _ rfl)) ?_; clear Z a; intro a Z
  refine s_runk tMv2 Z 2 rfl rfl ?_; clear Z a; intro a Z
  refine s_end Z [0, 1, 4, 5, 9, 10, 13, 14, 15, 16, 17, 18, 19] rfl ?_; clear Z; intro Z
  refine p_then ?_
  refine f_cond Z rfl (fun hc2 => ?_) (fun hc2 => ?_)
  ·replace hF := ite_t hc2 hF
   refine wp_seq (f_region Z ?_); clear Z; intro Z
   refine s_runk tMv2 Z 2 rfl rfl ?_; clear Z a; intro a Z
   refine s_end Z [0, 1, 4, 5, 9, 10, 13, 14, 15, 16, 17, 18, 19, 20] rfl ?_; clear Z; intro Z
   refine p_then (wp_ret ?_)
   refine p_blk_r ?_
   refine p_then_r ?_
   refine p_then_r ?_
   refine p_blk_r ?_
   refine p_then_r ?_
   obtain rfl := some_in hF
   exact f_ret Z (run_results1 rfl Z rfl) ⟨rfl, I1, (H.sub [] rfl).eq rfl⟩
  ·replace hF := ite_f hc2 hF
   refine wp_skip ?_
   refine p_blk ?_
   refine p_then ?_
   obtain ⟨hg3, hF⟩ := chk_in hF
   refine f_region Z ?_; clear Z; intro Z
   refine s_runk tMv2 Z 1 rfl rfl ?_; clear Z a; intro a Z
   refine s_ob Z (v := .int .i64 (i - 1)) rfl rfl (by decide) rfl (Ob_sub rfl rfl rfl (wrI hg3)) ?_; clear Z a; intro a Z
   refine s_runk tMv2 Z 1 rfl rfl ?_; clear Z a; intro a Z
   refine s_end Z [0, 1, 4, 5, 9, 10, 13, 14, 15, 16, 17, 18, 19, 11, 12] rfl ?_; clear Z; intro Z
   refine p_then ?_
   exact ⟨(i - 1), ⟨Z.sub (ts := [0, 1, 4, 5]) rfl, ⟨I1, (H.sub [(0, true)] rfl).eq rfl⟩⟩, hF⟩
 ·replace hF := ite_f hc1 hF
  refine wp_exit ?_
  refine p_then_x ?_
  refine p_then_x ?_
  refine f_exit_here ?_
  refine p_then (wp_seq (f_region Z ?_)); clear Z; intro Z
  refine s_runk tMv2 Z 1 rfl rfl ?_; clear Z a; intro a Z
  refine s_end Z [4] rfl ?_; clear Z; intro Z
  refine p_then (wp_ret ?_)
  obtain rfl := some_in hF
  exact f_ret Z (run_results1 rfl Z rfl) ⟨rfl, I1, (H.sub [] rfl).eq rfl⟩

def F_ref14_At (l : List ECell) (t : Int) : Option (ByteArray × Bool) := (F_ref14_last l t).bind fun l_2 => (chk ((!(decide (l_2 < 0))) = true → (0 : Int) ≤ l_2 ∧ l_2 < (l.length : Int)) (if ((decide (l_2 < 0)) || ((l.getD (l_2).toNat default).del)) = true then (some (⟨#[]⟩, false)) else (chk ((0 : Int) ≤ l_2 ∧ l_2 < (l.length : Int)) (some ((l.getD (l_2).toNat default).val, true)))))

set_option maxHeartbeats 1000000 in
theorem c_ref14_At {I D : Dm} {l : List ECell} {v1_l : Value} {t : Int} {w : World} {rr : ByteArray × Bool} (hF : F_ref14_At l t = some rr) (H : St I D w [SlC NECell v1_l l]) :
  Calls Try.prog 51 #[v1_l, .int .u64 t] w (Ret fun vv w' => vv = .tuple #[.string rr.1, .bool rr.2] ∧ ∃ I', Hf I D w I' w' []) := by
 replace H := H.hf
 unfold F_ref14_At at hF
 refine f_enter 24 Try.func51 rfl rfl (Nat.le_of_ble_eq_true rfl) fun a Z => ?_
 replace Z := Z.sub (ts := [0, 1]) rfl
 refine wp_seq (f_region Z ?_); clear Z; intro Z
 refine s_runk tMv2 Z 2 rfl rfl ?_; clear Z a; intro a Z
 refine s_end Z [0, 1, 4, 5] rfl ?_; clear Z; intro Z
 refine p_then (wp_seq ?_)
 obtain ⟨l_2, hx1, hF⟩ := bnd_in hF
 refine f_region Z ?_; clear Z; intro Z
 refine s_runk tMv2 Z 2 rfl rfl ?_; clear Z a; intro a Z
 refine h_call Z H (js := [(0, true)]) rfl (caps := #[]) fn_50_YMv2 rfl rfl rfl rfl rfl (by decide) rfl rfl (fun D1 hS => have hq := c_ref14_last hx1 hS; hq) ?_; clear Z a; intro vv a w1 D2 hr hF2 Z
 obtain ⟨rfl, I1, K⟩ := hr
 have H : Hf I D w I1 w1 [SlC NECell v1_l l] := hF2 K
 clear hF2 K
 refine s_runk tMv2 Z 1 rfl rfl ?_; clear Z a; intro a Z
 refine s_end Z [0, 4, 5, 6] rfl ?_; clear Z; intro Z
 refine p_then (wp_seq ?_)
 refine wp_seq ?_
 obtain ⟨hg1, hF⟩ := chk_in hF
 refine f_region Z ?_; clear Z; intro Z
 refine s_runk tMv2 Z 3 rfl rfl ?_; clear Z a; intro a Z
 refine g_ob Z (p := (!(decide (l_2 < 0)))) (v := v1_l) (S' := [(0, v1_l)]) rfl rfl rfl (wantB_f _) rfl (by decide) (fun hp hS => hS.sub (ts := [0]) rfl) (fun hp => Ob_c tMv2 rfl) ?_; clear Z a; intro a Z
 refine g_ob Z (p := (!(decide (l_2 < 0)))) (v := .int .i64 l_2) (S' := [(6, .int .i64 l_2)]) rfl rfl rfl (wantB_f _) rfl (by decide) (fun hp hS => hS.sub (ts := [6]) rfl) (fun hp => Ob_c tMv2 rfl) ?_; clear Z a; intro a Z
 refine g_ob Z (p := (!(decide (l_2 < 0)))) (v := .pointer (some ⟨blkOf v1_l, oofOf v1_l + (l_2).toNat * 3, none⟩)) (S' := [(13, v1_l), (14, .int .i64 l_2)]) rfl rfl rfl (wantB_f _) rfl (by decide) (fun hp hS => ((hS.conv (t := 13) rfl (cond_t hp)).conv (t := 14) rfl (cond_t hp)).sub (ts := [13, 14]) rfl) (fun hp => Ob_sidx tMv2 rfl rfl rfl rfl (slPl (H.sl 0 rfl) (hg1 hp)) (hg1 hp)) ?_; clear Z a; intro a Z
 refine g_ob Z (p := (!(decide (l_2 < 0)))) (v := .pointer (some ⟨blkOf v1_l, oofOf v1_l + (l_2).toNat * 3 + 2, none⟩)) (S' := [(15, .pointer (some ⟨blkOf v1_l, oofOf v1_l + (l_2).toNat * 3, none⟩))]) rfl rfl rfl (wantB_f _) rfl (by decide) (fun hp hS => (hS.conv (t := 15) rfl (cond_t hp)).sub (ts := [15]) rfl) (fun hp => Ob_c tMv2 rfl) ?_; clear Z a; intro a Z
 refine g_ob Z (p := (!(decide (l_2 < 0)))) (v := .bool ((l.getD (l_2).toNat default).del)) (S' := [(16, .pointer (some ⟨blkOf v1_l, oofOf v1_l + (l_2).toNat * 3 + 2, none⟩))]) rfl rfl rfl (wantB_f _) rfl (by decide) (fun hp hS => (hS.conv (t := 16) rfl (cond_t hp)).sub (ts := [16]) rfl) (fun hp => Ob_load tMv2 rfl rfl rfl ((slFl (H.sl 0 rfl) (hg1 hp)) 2 _ rfl)) ?_; clear Z a; intro a Z
 refine s_ob Z (v := .bool ((decide (l_2 < 0)) || ((l.getD (l_2).toNat default).del))) rfl rfl (by decide) rfl (Ob_pick rfl rfl rfl rfl (pick_or _ _)) ?_; clear Z a; intro a Z
 refine s_end Z [0, 4, 5, 6, 18] rfl ?_; clear Z; intro Z
 refine p_then ?_
 refine f_cond Z rfl (fun hc1 => ?_) (fun hc1 => ?_)
 ·replace hF := ite_t hc1 hF
  refine wp_seq (f_region Z ?_); clear Z; intro Z
  refine s_runk tMv2 Z 2 rfl rfl ?_; clear Z a; intro a Z
  refine s_end Z [0, 4, 5, 6] rfl ?_; clear Z; intro Z
  refine p_then (wp_ret ?_)
  refine p_then_r ?_
  obtain rfl := some_in hF
  exact f_ret Z (run_results2 rfl Z rfl rfl) ⟨rfl, I1, (H.sub [] rfl).eq rfl⟩
 ·replace hF := ite_f hc1 hF
  refine wp_skip ?_
  refine p_then (wp_seq ?_)
  obtain ⟨hg2, hF⟩ := chk_in hF
  refine f_region Z ?_; clear Z; intro Z
  refine s_runk tMv2 Z 2 rfl rfl ?_; clear Z a; intro a Z
  refine s_ob Z (v := .pointer (some ⟨blkOf v1_l, oofOf v1_l + (l_2).toNat * 3, none⟩)) rfl rfl (by decide) rfl (Ob_sidx tMv2 rfl rfl rfl rfl (slPl (H.sl 0 rfl) hg2) hg2) ?_; clear Z a; intro a Z
  refine s_runk tMv2 Z 1 rfl rfl ?_; clear Z a; intro a Z
  refine s_ob Z (v := .string ((l.getD (l_2).toNat default).val)) rfl rfl (by decide) rfl (Ob_load tMv2 rfl rfl rfl ((slFl (H.sl 0 rfl) hg2) 1 _ rfl)) ?_; clear Z a; intro a Z
  refine s_runk tMv2 Z 2 rfl rfl ?_; clear Z a; intro a Z
  refine s_end Z [4, 5] rfl ?_; clear Z; intro Z
  refine p_then (wp_ret ?_)
  obtain rfl := some_in hF
  exact f_ret Z (run_results2 rfl Z rfl rfl) ⟨rfl, I1, (H.sub [] rfl).eq rfl⟩

def F_ref14_Prune_k1 (l : List ECell) (i : Int) : Option (List ECell) := chk ((0 : Int) ≤ i ∧ i ≤ (l.length : Int)) (chk (((([] : List ECell).length + (l.drop ((i).toNat)).length : Nat) : Int) * 32 ≤ 140737488355328) (some ([] ++ (l.drop ((i).toNat)))))

def F_ref14_Prune (l : List ECell) (h : Int) : Option (List ECell) := (F_ref14_last l h).bind fun l_2 => (chk ((!(decide (l_2 < 0))) = true → (0 : Int) ≤ l_2 ∧ l_2 < (l.length : Int)) (if ((decide (l_2 < 0)) || ((l.getD (l_2).toNat default).del)) = true then (chk (inI (l_2 + 1)) (F_ref14_Prune_k1 l (l_2 + 1))) else (F_ref14_Prune_k1 l l_2)))

set_option maxHeartbeats 1000000 in
theorem c_ref14_Prune {I D : Dm} {l : List ECell} {v1_l : Value} {h : Int} {w : World} {rr : List ECell} (hF : F_ref14_Prune l h = some rr) (H : St I D w [SlC NECell v1_l l]) :
  Calls Try.prog 37 #[v1_l, .int .u64 h] w (Ret fun vv w' => ∃ q1 : Value, vv = q1 ∧ ∃ I', Hf I D w I' w' [SlC NECell q1 rr]) := by
 replace H := H.hf
 unfold F_ref14_Prune at hF
 refine f_enter 25 Try.func37 rfl rfl (Nat.le_of_ble_eq_true rfl) fun a Z => ?_
 replace Z := Z.sub (ts := [0, 1]) rfl
 refine wp_seq (f_region Z ?_); clear Z; intro Z
 refine s_runk tMv2 Z 1 rfl rfl ?_; clear Z a; intro a Z
 refine s_end Z [0, 1, 4] rfl ?_; clear Z; intro Z
 refine p_then (wp_seq ?_)
 obtain ⟨l_2, hx1, hF⟩ := bnd_in hF
 refine f_region Z ?_; clear Z; intro Z
 refine s_runk tMv2 Z 2 rfl rfl ?_; clear Z a; intro a Z
 refine h_call Z H (js := [(0, true)]) rfl (caps := #[]) fn_50_YMv2 rfl rfl rfl rfl rfl (by decide) rfl rfl (fun D1 hS => have hq := c_ref14_last hx1 hS; hq) ?_; clear Z a; intro vv a w1 D2 hr hF2 Z
 obtain ⟨rfl, I1, K⟩ := hr
 have H : Hf I D w I1 w1 [SlC NECell v1_l l] := hF2 K
 clear hF2 K
 refine s_runk tMv2 Z 1 rfl rfl ?_; clear Z a; intro a Z
 refine s_end Z [0, 4, 5] rfl ?_; clear Z; intro Z
 refine p_then ?_
 refine f_cut (fun a' w' => ∃ (i : Int), Sl 25 [(0, v1_l), (4, .slice none 0 0), (5, .int .i64 i)] a' ∧ (∃ I2, Hf I D w I2 w' [SlC NECell v1_l l]) ∧ F_ref14_Prune_k1 l i = some rr) ?_ ?_
 ·rintro a w2 ⟨i, Z, ⟨I2, H⟩, hF⟩
  unfold F_ref14_Prune_k1 at hF
  try dsimp only at hF
  refine wp_seq ?_
  obtain ⟨hg1, hF⟩ := chk_in hF
  obtain ⟨hg2, hF⟩ := chk_in hF
  refine f_region Z ?_; clear Z; intro Z
  refine h_bslice Z H (vs := []) (cl := []) (e := 71) rfl rfl rfl (by decide) rfl rfl (fun w => run_bslice (z := .agg #[.int .u64 0, .string ByteArray.empty, .bool false]) (m := 3) Try.underlying62 (by kernel_rfl) rfl rfl (by decide) (by simp [Instr.fill, Value.cells]) w) ?_; clear Z a H; intro a w3 b1 H Z
  refine s_runk tMv2 Z 2 rfl rfl ?_; clear Z a; intro a Z
  replace H : Hf I D w I2 w3 [SlC NECell (subV v1_l ((i).toNat) l.length 3) (l.drop ((i).toNat)), BxC b1 71 [], SlC NECell v1_l l] := H.slPart_from 1 rfl hg1 3 rfl
  refine s_ob Z (v := subV v1_l ((i).toNat) l.length 3) rfl rfl (by decide) rfl (Ob_sub_from tMv2 rfl rfl rfl rfl (H.slshape 2 rfl) hg1) ?_; clear Z a; intro a Z
  replace H : Hf I D w I2 w3 [OwC NECell 71 (.slice (some ⟨b1, 0, none⟩) 0 0) [], SlC NECell (subV v1_l ((i).toNat) l.length 3) (l.drop ((i).toNat)), SlC NECell v1_l l] := H.emptyow 1 rfl NECell
  refine h_appO Z H 0 E_62_YMv2 (l.drop ((i).toNat)) rfl rfl rfl rfl rfl (by decide) rfl rfl rfl (H.sl2 1 rfl) hg2 (by decide) ?_; clear Z a H; intro v2 a w4 H Z
  dsimp only [List.eraseIdx] at H
  refine s_runk tMv2 Z 1 rfl rfl ?_; clear Z a; intro a Z
  refine s_end Z [4] rfl ?_; clear Z; intro Z
  refine p_then (wp_ret ?_)
  obtain ⟨I3, _, H⟩ := H.frzow 0 rfl
  replace H : Hf I D w I3 w4 [SlC NECell v2 ([] ++ (l.drop ((i).toNat))), SlC NECell (subV v1_l ((i).toNat) l.length 3) (l.drop ((i).toNat)), SlC NECell v1_l l] := H
  obtain rfl := some_in hF
  exact f_ret Z (run_results1 rfl Z rfl) ⟨v2, rfl, I3, (H.sub [(0, true)] rfl).eq rfl⟩
 ·skip
  refine wp_seq ?_
  obtain ⟨hg3, hF⟩ := chk_in hF
  refine f_region Z ?_; clear Z; intro Z
  refine s_runk tMv2 Z 3 rfl rfl ?_; clear Z a; intro a Z
  refine g_ob Z (p := (!(decide (l_2 < 0)))) (v := v1_l) (S' := [(0, v1_l)]) rfl rfl rfl (wantB_f _) rfl (by decide) (fun hp hS => hS.sub (ts := [0]) rfl) (fun hp => Ob_c tMv2 rfl) ?_; clear Z a; intro a Z
  refine g_ob Z (p := (!(decide (l_2 < 0)))) (v := .int .i64 l_2) (S' := [(5, .int .i64 l_2)]) rfl rfl rfl (wantB_f _) rfl (by decide) (fun hp hS => hS.sub (ts := [5]) rfl) (fun hp => Ob_c tMv2 rfl) ?_; clear Z a; intro a Z
  refine g_ob Z (p := (!(decide (l_2 < 0)))) (v := .pointer (some ⟨blkOf v1_l, oofOf v1_l + (l_2).toNat * 3, none⟩)) (S' := [(12, v1_l), (13, .int .i64 l_2)]) rfl rfl rfl (wantB_f _) rfl (by decide) (fun hp hS => ((hS.conv (t := 12) rfl (cond_t hp)).conv (t := 13) rfl (cond_t hp)).sub (ts := [12, 13]) rfl) (fun hp => Ob_sidx tMv2 rfl rfl rfl rfl (slPl (H.sl 0 rfl) (hg3 hp)) (hg3 hp)) ?_; clear Z a; intro a Z
  refine g_ob Z (p := (!(decide (l_2 < 0)))) (v := .pointer (some ⟨blkOf v1_l, oofOf v1_l + (l_2).toNat * 3 + 2, none⟩)) (S' := [(14, .pointer (some ⟨blkOf v1_l, oofOf v1_l + (l_2).toNat * 3, none⟩))]) rfl rfl rfl (wantB_f _) rfl (by decide) (fun hp hS => (hS.conv (t := 14) rfl (cond_t hp)).sub (ts := [14]) rfl) (fun hp => Ob_c tMv2 rfl) ?_; clear Z a; intro a Z
  refine g_ob Z (p := (!(decide (l_2 < 0)))) (v := .bool ((l.getD (l_2).toNat default).del)) (S' := [(15, .pointer (some ⟨blkOf v1_l, oofOf v1_l + (l_2).toNat * 3 + 2, none⟩))]) rfl rfl rfl (wantB_f _) rfl (by decide) (fun hp hS => (hS.conv (t := 15) rfl (cond_t hp)).sub (ts := [15]) rfl) (fun hp => Ob_load tMv2 rfl rfl rfl ((slFl (H.sl 0 rfl) (hg3 hp)) 2 _ rfl)) ?_; clear Z a; intro a Z
  refine s_ob Z (v := .bool ((decide (l_2 < 0)) || ((l.getD (l_2).toNat default).del))) rfl rfl (by decide) rfl (Ob_pick rfl rfl rfl rfl (pick_or _ _)) ?_; clear Z a; intro a Z
  refine s_end Z [0, 4, 5, 17] rfl ?_; clear Z; intro Z
  refine p_then ?_
  refine f_cond Z rfl (fun hc1 => ?_) (fun hc1 => ?_)
  ·replace hF := ite_t hc1 hF
   obtain ⟨hg4, hF⟩ := chk_in hF
   refine f_region Z ?_; clear Z; intro Z
   refine s_runk tMv2 Z 1 rfl rfl ?_; clear Z a; intro a Z
   refine s_ob Z (v := .int .i64 (l_2 + 1)) rfl rfl (by decide) rfl (Ob_add rfl rfl rfl (wrI hg4)) ?_; clear Z a; intro a Z
   refine s_runk tMv2 Z 1 rfl rfl ?_; clear Z a; intro a Z
   refine s_end Z [0, 4, 5] rfl ?_; clear Z; intro Z
   refine p_then ?_
   exact ⟨l_2 + 1, Z.sub (ts := [0, 4, 5]) rfl, ⟨I1, (H.sub [(0, true)] rfl).eq rfl⟩, hF⟩
  ·replace hF := ite_f hc1 hF
   refine wp_skip ?_
   refine p_then ?_
   exact ⟨l_2, Z.sub (ts := [0, 4, 5]) rfl, ⟨I1, (H.sub [(0, true)] rfl).eq rfl⟩, hF⟩

def F_ref16_Store_Get_l1 (s0 : Eref16_Store) (k : ByteArray) (t : Int) (rc : Int → Option (ByteArray × Bool)) (sg : Int) : Option (ByteArray × Bool) := match sg with | i => if (decide (i < (s0.l.length : Int))) = true then (chk ((0 : Int) ≤ i ∧ i < (s0.l.length : Int)) (if (seqB ((s0.l.getD (i).toNat default).k) k) = true then (chk ((0 : Int) ≤ i ∧ i < (s0.l.length : Int)) ((F_ref14_At ((s0.l.getD (i).toNat default).l) t).bind fun a0 => (some (a0.1, a0.2)))) else (chk (inI (i + 1)) (rc (i + 1))))) else (some (⟨#[]⟩, false))

def F_ref16_Store_Get (s0 : Eref16_Store) (k : ByteArray) (t : Int) : Option (ByteArray × Bool) := iter (F_ref16_Store_Get_l1 s0 k t) FU 0

set_option maxHeartbeats 1000000 in
theorem c_ref16_Store_Get {I D : Dm} {b_s0 : Nat} {s0 : Eref16_Store} {k : ByteArray} {t : Int} {w : World} {rr : ByteArray × Bool} (hF : F_ref16_Store_Get s0 k t = some rr) (H : St I D w [OEref16_Store b_s0 s0]) :
  Calls Try.prog 38 #[.pointer (some ⟨b_s0, 0, none⟩), .string k, .int .u64 t] w (Ret fun vv w' => vv = .tuple #[.string rr.1, .bool rr.2] ∧ ∃ I', Hf I D w I' w' [OEref16_Store b_s0 s0]) := by
 replace H := H.hf
 unfold F_ref16_Store_Get at hF
 refine f_enter 40 Try.func38 rfl rfl (Nat.le_of_ble_eq_true rfl) fun a Z => ?_
 replace Z := Z.sub (ts := [0, 1, 2]) rfl
 refine wp_seq (f_region Z ?_); clear Z; intro Z
 refine s_runk tMv2 Z 2 rfl rfl ?_; clear Z a; intro a Z
 refine s_end Z [0, 1, 2, 6, 7] rfl ?_; clear Z; intro Z
 refine p_then (wp_seq ?_)
 refine wp_seq (f_region Z ?_); clear Z; intro Z
 refine s_runk tMv2 Z 1 rfl rfl ?_; clear Z a; intro a Z
 refine s_end Z [0, 1, 2, 6, 7, 8] rfl ?_; clear Z; intro Z
 refine p_then (wp_block ?_)
 refine f_iter hF (fun sg a' w' => match sg with | i => Sl 40 [(0, .pointer (some ⟨b_s0, 0, none⟩)), (1, .string k), (2, .int .u64 t), (6, .string ⟨#[]⟩), (7, .bool false), (8, .int .i64 i)] a' ∧ ∃ I2, Hf I D w I2 w' [OEref16_Store b_s0 s0]) ⟨Z.sub (ts := [0, 1, 2, 6, 7, 8]) rfl, ⟨I, (H.sub [(0, false)] rfl).eq rfl⟩⟩ ?_
 clear Z H hF a
 rintro rc i a w1 ⟨Z, I1, H⟩ hF
 unfold F_ref16_Store_Get_l1 at hF
 try dsimp only at hF
 refine wp_seq ?_
 refine wp_seq (f_region Z ?_); clear Z; intro Z
 refine s_runk tMv2 Z 4 rfl rfl ?_; clear Z a; intro a Z
 obtain ⟨v1, H⟩ := H.openX 0 rfl
 replace H : Hf I D w I1 w1 [BxC b_s0 46 [v1, .int .u64 s0.last], OwC NEref16_Row 83 v1 s0.l] := H
 refine s_ob Z (v := v1) rfl rfl (by decide) rfl (Ob_load tMv2 rfl rfl rfl ((H.bx 0 rfl).cell 0 rfl)) ?_; clear Z a; intro a Z
 refine s_ob Z (v := .int .i64 (s0.l.length : Int)) rfl rfl (by decide) rfl (Ob_slen tMv2 rfl rfl rfl (H.owshape 1 rfl)) ?_; clear Z a; intro a Z
 refine s_runk tMv2 Z 1 rfl rfl ?_; clear Z a; intro a Z
 refine s_end Z [0, 1, 2, 6, 7, 8, 9, 10, 11, 12, 13, 14, 15] rfl ?_; clear Z; intro Z
 refine p_then ?_
 refine f_cond Z rfl (fun hc1 => ?_) (fun hc1 => ?_)
 ·replace hF := ite_t hc1 hF
  refine wp_skip ?_
  refine p_then (wp_seq ?_)
  refine wp_block ?_
  refine wp_seq ?_
  obtain ⟨hg1, hF⟩ := chk_in hF
  refine f_region Z ?_; clear Z; intro Z
  refine s_runk tMv2 Z 3 rfl rfl ?_; clear Z a; intro a Z
  refine s_ob Z (v := v1) rfl rfl (by decide) rfl (Ob_load tMv2 rfl rfl rfl ((H.bx 0 rfl).cell 0 rfl)) ?_; clear Z a; intro a Z
  refine s_runk tMv2 Z 1 rfl rfl ?_; clear Z a; intro a Z
  refine s_ob Z (v := .pointer (some ⟨blkOf v1, oofOf v1 + (i).toNat * 2, none⟩)) rfl rfl (by decide) rfl (Ob_sidx tMv2 rfl rfl rfl rfl (slPl (H.owA 1 rfl) hg1) hg1) ?_; clear Z a; intro a Z
  refine s_runk tMv2 Z 1 rfl rfl ?_; clear Z a; intro a Z
  obtain ⟨_, ⟨u1, rfl, L1⟩, hat1⟩ := H.owEl 1 rfl hg1
  replace H : Hf I D w I1 w1 [SlC NECell u1 ((s0.l.getD (i).toNat default).l), BxC b_s0 46 [v1, .int .u64 s0.last], OwC NEref16_Row 83 v1 s0.l] := H.addsl L1
  refine s_ob Z (v := .string ((s0.l.getD (i).toNat default).k)) rfl rfl (by decide) rfl (Ob_load tMv2 rfl rfl rfl (hat1 0 _ rfl)) ?_; clear Z a; intro a Z
  refine s_runk tMv2 Z 2 rfl rfl ?_; clear Z a; intro a Z
  refine s_end Z [0, 1, 2, 6, 7, 8, 9, 10, 11, 12, 13, 14, 15, 18, 19, 20, 21, 22, 23, 24, 25, 26, 27] rfl ?_; clear Z; intro Z
  refine p_then ?_
  refine f_cond Z rfl (fun hc2 => ?_) (fun hc2 => ?_)
  ·replace hF := ite_t hc2 hF
   refine wp_seq ?_
   obtain ⟨hg2, hF⟩ := chk_in hF
   obtain ⟨a0, hx1, hF⟩ := bnd_in hF
   refine f_region Z ?_; clear Z; intro Z
   refine s_runk tMv2 Z 3 rfl rfl ?_; clear Z a; intro a Z
   refine s_ob Z (v := v1) rfl rfl (by decide) rfl (Ob_load tMv2 rfl rfl rfl ((H.bx 1 rfl).cell 0 rfl)) ?_; clear Z a; intro a Z
   refine s_runk tMv2 Z 1 rfl rfl ?_; clear Z a; intro a Z
   refine s_ob Z (v := .pointer (some ⟨blkOf v1, oofOf v1 + (i).toNat * 2, none⟩)) rfl rfl (by decide) rfl (Ob_sidx tMv2 rfl rfl rfl rfl (slPl (H.owA 2 rfl) hg2) hg2) ?_; clear Z a; intro a Z
   refine s_runk tMv2 Z 1 rfl rfl ?_; clear Z a; intro a Z
   obtain ⟨_, ⟨u2, rfl, L2⟩, hat2⟩ := H.owEl 2 rfl hg2
   replace H : Hf I D w I1 w1 [SlC NECell u2 ((s0.l.getD (i).toNat default).l), SlC NECell u1 ((s0.l.getD (i).toNat default).l), BxC b_s0 46 [v1, .int .u64 s0.last], OwC NEref16_Row 83 v1 s0.l] := H.addsl L2
   refine s_ob Z (v := u2) rfl rfl (by decide) rfl (Ob_load tMv2 rfl rfl rfl (hat2 1 _ rfl)) ?_; clear Z a; intro a Z
   refine s_runk tMv2 Z 1 rfl rfl ?_; clear Z a; intro a Z
   refine h_call Z H (js := [(0, true)]) rfl (caps := #[]) fn_51_YMv2 rfl rfl rfl rfl rfl (by decide) rfl rfl (fun D1 hS => have hq := c_ref14_At hx1 hS; hq) ?_; clear Z a; intro vv a w2 D2 hr hF2 Z
   obtain ⟨rfl, I2, K⟩ := hr
   have H : Hf I D w I2 w2 [SlC NECell u2 ((s0.l.getD (i).toNat default).l), SlC NECell u1 ((s0.l.getD (i).toNat default).l), BxC b_s0 46 [v1, .int .u64 s0.last], OwC NEref16_Row 83 v1 s0.l] := hF2 K
   clear hF2 K
   refine s_runk tMv2 Z 4 rfl rfl ?_; clear Z a; intro a Z
   refine s_end Z [0, 1, 2, 6, 7, 8, 9, 10, 11, 12, 13, 14, 15, 18, 19, 20, 21, 22, 23, 24, 25, 26, 27, 28, 29, 30, 31, 32, 33, 34, 35, 36, 37, 38, 39] rfl ?_; clear Z; intro Z
   refine p_then (wp_ret ?_)
   refine p_blk_r ?_
   refine p_then_r ?_
   refine p_then_r ?_
   refine p_blk_r ?_
   refine p_then_r ?_
   replace H : Hf I D w I2 w2 [OEref16_Store b_s0 s0, SlC NECell u2 ((s0.l.getD (i).toNat default).l), SlC NECell u1 ((s0.l.getD (i).toNat default).l)] := H.shutX (v1) [(2, false), (2, false)] rfl
   obtain rfl := some_in hF
   exact f_ret Z (run_results2 rfl Z rfl rfl) ⟨rfl, I2, (H.sub [(0, false)] rfl).eq rfl⟩
  ·replace hF := ite_f hc2 hF
   refine wp_skip ?_
   refine p_blk ?_
   refine p_then ?_
   obtain ⟨hg3, hF⟩ := chk_in hF
   refine f_region Z ?_; clear Z; intro Z
   refine s_runk tMv2 Z 1 rfl rfl ?_; clear Z a; intro a Z
   refine s_ob Z (v := .int .i64 (i + 1)) rfl rfl (by decide) rfl (Ob_add rfl rfl rfl (wrI hg3)) ?_; clear Z a; intro a Z
   refine s_runk tMv2 Z 1 rfl rfl ?_; clear Z a; intro a Z
   refine s_end Z [0, 1, 2, 6, 7, 8, 9, 10, 11, 12, 13, 14, 15, 18, 19, 20, 21, 22, 23, 24, 25, 26, 27, 16, 17] rfl ?_; clear Z; intro Z
   refine p_then ?_
   replace H : Hf I D w I1 w1 [OEref16_Store b_s0 s0, SlC NECell u1 ((s0.l.getD (i).toNat default).l)] := H.shutX (v1) [(1, false), (1, false)] rfl
   exact ⟨(i + 1), ⟨Z.sub (ts := [0, 1, 2, 6, 7, 8]) rfl, ⟨I1, (H.sub [(0, false)] rfl).eq rfl⟩⟩, hF⟩
 ·replace hF := ite_f hc1 hF
  refine wp_exit ?_
  refine p_then_x ?_
  refine p_then_x ?_
  refine f_exit_here ?_
  refine p_then (wp_seq (f_region Z ?_)); clear Z; intro Z
  refine s_runk tMv2 Z 2 rfl rfl ?_; clear Z a; intro a Z
  refine s_end Z [6, 7] rfl ?_; clear Z; intro Z
  refine p_then (wp_ret ?_)
  replace H : Hf I D w I1 w1 [OEref16_Store b_s0 s0] := H.shutX (v1) [(0, false), (0, false)] rfl
  obtain rfl := some_in hF
  exact f_ret Z (run_results2 rfl Z rfl rfl) ⟨rfl, I1, (H.sub [(0, false)] rfl).eq rfl⟩

def F_ref16_Store_Cells_l1 (s0 : Eref16_Store) (rc : (Int × Int) → Option Int) (sg : Int × Int) : Option Int := match sg with | (n0, i) => if (decide (i < (s0.l.length : Int))) = true then (chk ((0 : Int) ≤ i ∧ i < (s0.l.length : Int)) (chk (inI (n0 + (((s0.l.getD (i).toNat default).l).length : Int))) (chk (inI (i + 1)) (rc (n0 + (((s0.l.getD (i).toNat default).l).length : Int), i + 1))))) else (some n0)

def F_ref16_Store_Cells (s0 : Eref16_Store) : Option Int := iter (F_ref16_Store_Cells_l1 s0) FU (0, 0)

set_option maxHeartbeats 1000000 in
theorem c_ref16_Store_Cells {I D : Dm} {b_s0 : Nat} {s0 : Eref16_Store} {w : World} {rr : Int} (hF : F_ref16_Store_Cells s0 = some rr) (H : St I D w [OEref16_Store b_s0 s0]) :
  Calls Try.prog 22 #[.pointer (some ⟨b_s0, 0, none⟩)] w (Ret fun vv w' => vv = .int .i64 rr ∧ ∃ I', Hf I D w I' w' [OEref16_Store b_s0 s0]) := by
 replace H := H.hf
 unfold F_ref16_Store_Cells at hF
 refine f_enter 26 Try.func22 rfl rfl (Nat.le_of_ble_eq_true rfl) fun a Z => ?_
 replace Z := Z.sub (ts := [0]) rfl
 refine wp_seq (f_region Z ?_); clear Z; intro Z
 refine s_runk tMv2 Z 1 rfl rfl ?_; clear Z a; intro a Z
 refine s_end Z [0, 2] rfl ?_; clear Z; intro Z
 refine p_then (wp_seq (f_region Z ?_)); clear Z; intro Z
 refine s_runk tMv2 Z 1 rfl rfl ?_; clear Z a; intro a Z
 refine s_end Z [0, 2, 3] rfl ?_; clear Z; intro Z
 refine p_then (wp_seq ?_)
 refine wp_seq (f_region Z ?_); clear Z; intro Z
 refine s_runk tMv2 Z 1 rfl rfl ?_; clear Z a; intro a Z
 refine s_end Z [0, 2, 3, 4] rfl ?_; clear Z; intro Z
 refine p_then (wp_block ?_)
 refine f_iter hF (fun sg a' w' => match sg with | (n0, i) => Sl 26 [(0, .pointer (some ⟨b_s0, 0, none⟩)), (2, .int .i64 0), (3, .int .i64 n0), (4, .int .i64 i)] a' ∧ ∃ I2, Hf I D w I2 w' [OEref16_Store b_s0 s0]) ⟨Z.sub (ts := [0, 2, 3, 4]) rfl, ⟨I, (H.sub [(0, false)] rfl).eq rfl⟩⟩ ?_
 clear Z H hF a
 rintro rc ⟨n0, i⟩ a w1 ⟨Z, I1, H⟩ hF
 unfold F_ref16_Store_Cells_l1 at hF
 try dsimp only at hF
 refine wp_seq ?_
 refine wp_seq (f_region Z ?_); clear Z; intro Z
 refine s_runk tMv2 Z 4 rfl rfl ?_; clear Z a; intro a Z
 obtain ⟨v1, H⟩ := H.openX 0 rfl
 replace H : Hf I D w I1 w1 [BxC b_s0 46 [v1, .int .u64 s0.last], OwC NEref16_Row 83 v1 s0.l] := H
 refine s_ob Z (v := v1) rfl rfl (by decide) rfl (Ob_load tMv2 rfl rfl rfl ((H.bx 0 rfl).cell 0 rfl)) ?_; clear Z a; intro a Z
 refine s_ob Z (v := .int .i64 (s0.l.length : Int)) rfl rfl (by decide) rfl (Ob_slen tMv2 rfl rfl rfl (H.owshape 1 rfl)) ?_; clear Z a; intro a Z
 refine s_runk tMv2 Z 1 rfl rfl ?_; clear Z a; intro a Z
 refine s_end Z [0, 2, 3, 4, 5, 6, 7, 8, 9, 10, 11] rfl ?_; clear Z; intro Z
 refine p_then ?_
 refine f_cond Z rfl (fun hc1 => ?_) (fun hc1 => ?_)
 ·replace hF := ite_t hc1 hF
  refine wp_skip ?_
  refine p_then (wp_seq ?_)
  refine wp_block ?_
  obtain ⟨hg1, hF⟩ := chk_in hF
  obtain ⟨hg2, hF⟩ := chk_in hF
  refine f_region Z ?_; clear Z; intro Z
  refine s_runk tMv2 Z 4 rfl rfl ?_; clear Z a; intro a Z
  refine s_ob Z (v := v1) rfl rfl (by decide) rfl (Ob_load tMv2 rfl rfl rfl ((H.bx 0 rfl).cell 0 rfl)) ?_; clear Z a; intro a Z
  refine s_runk tMv2 Z 1 rfl rfl ?_; clear Z a; intro a Z
  refine s_ob Z (v := .pointer (some ⟨blkOf v1, oofOf v1 + (i).toNat * 2, none⟩)) rfl rfl (by decide) rfl (Ob_sidx tMv2 rfl rfl rfl rfl (slPl (H.owA 1 rfl) hg1) hg1) ?_; clear Z a; intro a Z
  refine s_runk tMv2 Z 1 rfl rfl ?_; clear Z a; intro a Z
  obtain ⟨_, ⟨u1, rfl, L1⟩, hat1⟩ := H.owEl 1 rfl hg1
  replace H : Hf I D w I1 w1 [SlC NECell u1 ((s0.l.getD (i).toNat default).l), BxC b_s0 46 [v1, .int .u64 s0.last], OwC NEref16_Row 83 v1 s0.l] := H.addsl L1
  refine s_ob Z (v := u1) rfl rfl (by decide) rfl (Ob_load tMv2 rfl rfl rfl (hat1 1 _ rfl)) ?_; clear Z a; intro a Z
  refine s_ob Z (v := .int .i64 (((s0.l.getD (i).toNat default).l).length : Int)) rfl rfl (by decide) rfl (Ob_slen tMv2 rfl rfl rfl (H.slshape 0 rfl)) ?_; clear Z a; intro a Z
  refine s_ob Z (v := .int .i64 (n0 + (((s0.l.getD (i).toNat default).l).length : Int))) rfl rfl (by decide) rfl (Ob_add rfl rfl rfl (wrI hg2)) ?_; clear Z a; intro a Z
  refine s_runk tMv2 Z 1 rfl rfl ?_; clear Z a; intro a Z
  refine s_end Z [0, 2, 3, 4, 5, 6, 7, 8, 9, 10, 11, 14, 15, 16, 17, 18, 19, 20, 21, 22, 23, 24] rfl ?_; clear Z; intro Z
  refine p_blk ?_
  refine p_then ?_
  obtain ⟨hg3, hF⟩ := chk_in hF
  refine f_region Z ?_; clear Z; intro Z
  refine s_runk tMv2 Z 1 rfl rfl ?_; clear Z a; intro a Z
  refine s_ob Z (v := .int .i64 (i + 1)) rfl rfl (by decide) rfl (Ob_add rfl rfl rfl (wrI hg3)) ?_; clear Z a; intro a Z
  refine s_runk tMv2 Z 1 rfl rfl ?_; clear Z a; intro a Z
  refine s_end Z [0, 2, 3, 4, 5, 6, 7, 8, 9, 10, 11, 14, 15, 16, 17, 18, 19, 20, 21, 22, 23, 24, 12, 13] rfl ?_; clear Z; intro Z
  refine p_then ?_
  replace H : Hf I D w I1 w1 [OEref16_Store b_s0 s0, SlC NECell u1 ((s0.l.getD (i).toNat default).l)] := H.shutX (v1) [(1, false), (1, false)] rfl
  exact ⟨(n0 + (((s0.l.getD (i).toNat default).l).length : Int), i + 1), ⟨Z.sub (ts := [0, 2, 3, 4]) rfl, ⟨I1, (H.sub [(0, false)] rfl).eq rfl⟩⟩, hF⟩
 ·replace hF := ite_f hc1 hF
  refine wp_exit ?_
  refine p_then_x ?_
  refine p_then_x ?_
  refine f_exit_here ?_
  refine p_then (wp_seq (f_region Z ?_)); clear Z; intro Z
  refine s_runk tMv2 Z 2 rfl rfl ?_; clear Z a; intro a Z
  refine s_end Z [2] rfl ?_; clear Z; intro Z
  refine p_then (wp_ret ?_)
  replace H : Hf I D w I1 w1 [OEref16_Store b_s0 s0] := H.shutX (v1) [(0, false), (0, false)] rfl
  obtain rfl := some_in hF
  exact f_ret Z (run_results1 rfl Z rfl) ⟨rfl, I1, (H.sub [(0, false)] rfl).eq rfl⟩

def F_ref05_In (k : ByteArray) (from_ : ByteArray) (to_ : ByteArray) : Option Bool := some ((!sltB k from_) && ((seqB to_ ⟨#[]⟩) || (sltB k to_)))

set_option maxHeartbeats 1000000 in
theorem c_ref05_In {I D : Dm} {k : ByteArray} {from_ : ByteArray} {to_ : ByteArray} {w : World} {rr : Bool} (hF : F_ref05_In k from_ to_ = some rr) (H : St I D w []) :
  Calls Try.prog 52 #[.string k, .string from_, .string to_] w (Ret fun vv w' => vv = .bool rr ∧ ∃ I', Hf I D w I' w' []) := by
 replace H := H.hf
 unfold F_ref05_In at hF
 refine f_enter 19 Try.func52 rfl rfl (Nat.le_of_ble_eq_true rfl) fun a Z => ?_
 replace Z := Z.sub (ts := [0, 1, 2]) rfl
 refine wp_seq (f_region Z ?_); clear Z; intro Z
 refine s_runk tMv2 Z 1 rfl rfl ?_; clear Z a; intro a Z
 refine s_end Z [0, 1, 2, 6] rfl ?_; clear Z; intro Z
 refine p_then (wp_seq (f_region Z ?_)); clear Z; intro Z
 refine s_runk tMv2 Z 4 rfl rfl ?_; clear Z a; intro a Z
 refine g_ob Z (p := (!sltB k from_)) (v := .string to_) (S' := [(2, .string to_)]) rfl rfl rfl (wantB_t _) rfl (by decide) (fun hp hS => hS.sub (ts := [2]) rfl) (fun hp => Ob_c tMv2 rfl) ?_; clear Z a; intro a Z
 refine g_ob Z (p := (!sltB k from_)) (v := .bool (seqB to_ ⟨#[]⟩)) (S' := [(11, .string to_)]) rfl rfl rfl (wantB_t _) rfl (by decide) (fun hp hS => (hS.conv (t := 11) rfl (cond_t hp)).sub (ts := [11]) rfl) (fun hp => Ob_c tMv2 rfl) ?_; clear Z a; intro a Z
 refine g_ob Z (p := (!sltB k from_)) (v := .bool (seqB to_ ⟨#[]⟩)) (S' := [(12, .bool (seqB to_ ⟨#[]⟩))]) rfl rfl rfl (wantB_t _) rfl (by decide) (fun hp hS => (hS.conv (t := 12) rfl (cond_t hp)).sub (ts := [12]) rfl) (fun hp => Ob_c tMv2 rfl) ?_; clear Z a; intro a Z
 refine g_ob Z (p := ((!sltB k from_) && (!(seqB to_ ⟨#[]⟩)))) (v := .string k) (S' := [(0, .string k)]) rfl rfl rfl (wantB_cf _ _) rfl (by decide) (fun hp hS => hS.sub (ts := [0]) rfl) (fun hp => Ob_c tMv2 rfl) ?_; clear Z a; intro a Z
 refine g_ob Z (p := ((!sltB k from_) && (!(seqB to_ ⟨#[]⟩)))) (v := .string to_) (S' := [(2, .string to_)]) rfl rfl rfl (wantB_cf _ _) rfl (by decide) (fun hp hS => hS.sub (ts := [2]) rfl) (fun hp => Ob_c tMv2 rfl) ?_; clear Z a; intro a Z
 refine g_ob Z (p := ((!sltB k from_) && (!(seqB to_ ⟨#[]⟩)))) (v := .bool (sltB k to_)) (S' := [(14, .string k), (15, .string to_)]) rfl rfl rfl (wantB_cf _ _) rfl (by decide) (fun hp hS => ((hS.conv (t := 14) rfl (cond_t hp)).conv (t := 15) rfl (cond_t hp)).sub (ts := [14, 15]) rfl) (fun hp => Ob_c tMv2 rfl) ?_; clear Z a; intro a Z
 refine g_ob Z (p := (!sltB k from_)) (v := .bool ((seqB to_ ⟨#[]⟩) || (sltB k to_))) (S' := [(13, .bool (seqB to_ ⟨#[]⟩)), (16, cond ((!sltB k from_) && (!(seqB to_ ⟨#[]⟩))) (.bool (sltB k to_)) undef)]) rfl rfl rfl (wantB_t _) rfl (by decide) (fun hp hS => (hS.conv (t := 13) rfl (cond_t hp)).sub (ts := [13, 16]) rfl) (fun hp => Ob_pick rfl rfl rfl rfl (pick_orp _ _ hp)) ?_; clear Z a; intro a Z
 refine s_ob Z (v := .bool ((!sltB k from_) && ((seqB to_ ⟨#[]⟩) || (sltB k to_)))) rfl rfl (by decide) rfl (Ob_pick rfl rfl rfl rfl (pick_and _ _)) ?_; clear Z a; intro a Z
 refine s_runk tMv2 Z 1 rfl rfl ?_; clear Z a; intro a Z
 refine s_end Z [6] rfl ?_; clear Z; intro Z
 refine p_then (wp_ret ?_)
 obtain rfl := some_in hF
 exact f_ret Z (run_results1 rfl Z rfl) ⟨rfl, I, (H.sub [] rfl).eq rfl⟩

def F_ref16_Store_Scan_k2 (i : Int) (rc : ((List EPair) × Int) → Option ((List EPair) × Bool)) (out_2 : List EPair) (v : ByteArray) (ok : Bool) (x_0 : ByteArray) (x_1 : Bool) (x : List ECell) (x_0_2 : ByteArray) (x_1_2 : Bool) (x_2 : ByteArray) (x_3 : Bool) (x_4 : Bool) (x_5 : Bool) (x_6 : Bool) (x_7 : Bool) : Option ((List EPair) × Bool) := chk (inI (i + 1)) (rc (out_2, i + 1))

def F_ref16_Store_Scan_l1 (s0 : Eref16_Store) (from_ : ByteArray) (to_ : ByteArray) (t : Int) (most : Int) (rc : ((List EPair) × Int) → Option ((List EPair) × Bool)) (sg : (List EPair) × Int) : Option ((List EPair) × Bool) := match sg with | (out, i) => if (decide (i < (s0.l.length : Int))) = true then (chk ((0 : Int) ≤ i ∧ i < (s0.l.length : Int)) ((F_ref14_At ((s0.l.getD (i).toNat default).l) t).bind fun a0 => (chk ((!(!a0.2)) = true → (0 : Int) ≤ i ∧ i < (s0.l.length : Int)) ((gif (!(!a0.2)) (F_ref05_In ((s0.l.getD (i).toNat default).k) from_ to_) default).bind fun i_2 => (if ((!a0.2) || (!i_2)) = true then (F_ref16_Store_Scan_k2 i rc out a0.1 a0.2 a0.1 a0.2 ((s0.l.getD (i).toNat default).l) a0.1 a0.2 a0.1 a0.2 a0.2 (!a0.2) (!a0.2) ((!a0.2) || (!i_2))) else (if (decide ((out.length : Int) ≥ max most 0)) = true then (some (out, true)) else (chk ((0 : Int) ≤ i ∧ i < (s0.l.length : Int)) (chk (((out.length + [({ key := (s0.l.getD (i).toNat default).k, val := a0.1 } : EPair)].length : Nat) : Int) * 32 ≤ 140737488355328) (F_ref16_Store_Scan_k2 i rc (out ++ [({ key := (s0.l.getD (i).toNat default).k, val := a0.1 } : EPair)]) a0.1 a0.2 a0.1 a0.2 ((s0.l.getD (i).toNat default).l) a0.1 a0.2 a0.1 a0.2 a0.2 (!a0.2) (!a0.2) ((!a0.2) || (!i_2))))))))))) else (some (out, false))

def F_ref16_Store_Scan (s0 : Eref16_Store) (from_ : ByteArray) (to_ : ByteArray) (t : Int) (most : Int) : Option ((List EPair) × Bool) := iter (F_ref16_Store_Scan_l1 s0 from_ to_ t most) FU (([] : List EPair), 0)

set_option maxHeartbeats 1000000 in
theorem c_ref16_Store_Scan {I D : Dm} {b_s0 : Nat} {s0 : Eref16_Store} {from_ : ByteArray} {to_ : ByteArray} {t : Int} {most : Int} {w : World} {rr : (List EPair) × Bool} (hF : F_ref16_Store_Scan s0 from_ to_ t most = some rr) (H : St I D w [OEref16_Store b_s0 s0]) :
  Calls Try.prog 39 #[.pointer (some ⟨b_s0, 0, none⟩), .string from_, .string to_, .int .u64 t, .int .i64 most] w (Ret fun vv w' => ∃ q1 : Value, vv = .tuple #[q1, .bool rr.2] ∧ ∃ I', Hf I D w I' w' [OEref16_Store b_s0 s0, SlC NEPair q1 rr.1]) := by
 replace H := H.hf
 unfold F_ref16_Store_Scan at hF
 refine f_enter 74 Try.func39 rfl rfl (Nat.le_of_ble_eq_true rfl) fun a Z => ?_
 replace Z := Z.sub (ts := [0, 1, 2, 3, 4]) rfl
 refine wp_seq (f_region Z ?_); clear Z; intro Z
 refine s_runk tMv2 Z 2 rfl rfl ?_; clear Z a; intro a Z
 refine s_end Z [0, 1, 2, 3, 4, 10, 11] rfl ?_; clear Z; intro Z
 refine p_then (wp_seq (f_region Z ?_)); clear Z; intro Z
 refine s_runk tMv2 Z 1 rfl rfl ?_; clear Z a; intro a Z
 refine s_end Z [0, 1, 2, 3, 4, 10, 11, 12] rfl ?_; clear Z; intro Z
 refine p_then (wp_seq ?_)
 refine wp_seq (f_region Z ?_); clear Z; intro Z
 refine s_runk tMv2 Z 1 rfl rfl ?_; clear Z a; intro a Z
 refine s_end Z [0, 1, 2, 3, 4, 10, 11, 12, 13] rfl ?_; clear Z; intro Z
 refine p_then (wp_block ?_)
 replace H : Hf I D w I w [OwC NEPair 39 (.slice none 0 0) ([] : List EPair), OEref16_Store b_s0 s0] := H.nilow NEPair 39
 refine f_iter hF (fun sg a' w' => match sg with | (out, i) => ∃ v1 : Value, Sl 74 [(0, .pointer (some ⟨b_s0, 0, none⟩)), (1, .string from_), (2, .string to_), (3, .int .u64 t), (4, .int .i64 most), (10, .slice none 0 0), (11, .bool false), (12, v1), (13, .int .i64 i)] a' ∧ ∃ I2, Hf I D w I2 w' [OEref16_Store b_s0 s0, OwC NEPair 39 v1 out]) ⟨.slice none 0 0, Z.sub (ts := [0, 1, 2, 3, 4, 10, 11, 12, 13]) rfl, ⟨I, (H.sub [(1, false), (0, false)] rfl).eq rfl⟩⟩ ?_
 clear Z H hF a
 rintro rc ⟨out, i⟩ a w1 ⟨v1, Z, I1, H⟩ hF
 unfold F_ref16_Store_Scan_l1 at hF
 try dsimp only at hF
 refine wp_seq ?_
 refine wp_seq (f_region Z ?_); clear Z; intro Z
 refine s_runk tMv2 Z 4 rfl rfl ?_; clear Z a; intro a Z
 obtain ⟨v2, H⟩ := H.openX 0 rfl
 replace H : Hf I D w I1 w1 [BxC b_s0 46 [v2, .int .u64 s0.last], OwC NEref16_Row 83 v2 s0.l, OwC NEPair 39 v1 out] := H
 refine s_ob Z (v := v2) rfl rfl (by decide) rfl (Ob_load tMv2 rfl rfl rfl ((H.bx 0 rfl).cell 0 rfl)) ?_; clear Z a; intro a Z
 refine s_ob Z (v := .int .i64 (s0.l.length : Int)) rfl rfl (by decide) rfl (Ob_slen tMv2 rfl rfl rfl (H.owshape 1 rfl)) ?_; clear Z a; intro a Z
 refine s_runk tMv2 Z 1 rfl rfl ?_; clear Z a; intro a Z
 refine s_end Z [0, 1, 2, 3, 4, 10, 11, 12, 13, 16, 17, 18, 19, 20, 21, 22] rfl ?_; clear Z; intro Z
 refine p_then ?_
 refine f_cond Z rfl (fun hc1 => ?_) (fun hc1 => ?_)
 ·replace hF := ite_t hc1 hF
  refine wp_skip ?_
  refine p_then ?_
  refine f_cut (fun a' w' => ∃ (out_2 : List EPair) (v : ByteArray) (ok : Bool) (x_0 : ByteArray) (x_1 : Bool) (x : List ECell) (x_0_2 : ByteArray) (x_1_2 : Bool) (x_2 : ByteArray) (x_3 : Bool) (x_4 : Bool) (x_5 : Bool) (x_6 : Bool) (x_7 : Bool), ∃ v3 v4 : Value, Sl 74 [(0, .pointer (some ⟨b_s0, 0, none⟩)), (1, .string from_), (2, .string to_), (3, .int .u64 t), (4, .int .i64 most), (10, .slice none 0 0), (11, .bool false), (12, v3), (13, .int .i64 i), (14, .string v), (15, .bool ok), (16, .int .i64 i), (17, .pointer (some ⟨b_s0, 0, none⟩)), (18, .pointer (some ⟨b_s0, 0, none⟩)), (19, .pointer (some ⟨b_s0, 0, none⟩)), (20, v2), (21, .int .i64 (s0.l.length : Int)), (22, .bool (decide (i < (s0.l.length : Int)))), (25, .tuple #[.string x_0, .bool x_1]), (26, .pointer (some ⟨b_s0, 0, none⟩)), (27, .pointer (some ⟨b_s0, 0, none⟩)), (28, .pointer (some ⟨b_s0, 0, none⟩)), (29, v2), (30, .int .i64 i), (31, .pointer (some ⟨blkOf v2, oofOf v2 + (i).toNat * 2, none⟩)), (32, .pointer (some ⟨blkOf v2, oofOf v2 + (i).toNat * 2 + 1, none⟩)), (33, v4), (34, .int .u64 t), (35, .tuple #[.string x_0_2, .bool x_1_2]), (36, .string x_2), (37, .bool x_3), (38, .bool x_4), (39, .bool x_5), (40, .bool x_6), (53, .bool x_7)] a' ∧ (∃ I2, Hf I D w I2 w' [BxC b_s0 46 [v2, .int .u64 s0.last], OwC NEref16_Row 83 v2 s0.l, OwC NEPair 39 v3 out_2, SlC NECell v4 x]) ∧ F_ref16_Store_Scan_k2 i rc out_2 v ok x_0 x_1 x x_0_2 x_1_2 x_2 x_3 x_4 x_5 x_6 x_7 = some rr) ?_ ?_
  ·rintro a w2 ⟨out_2, v, ok, x_0, x_1, x, x_0_2, x_1_2, x_2, x_3, x_4, x_5, x_6, x_7, v3, v4, Z, ⟨I2, H⟩, hF⟩
   unfold F_ref16_Store_Scan_k2 at hF
   try dsimp only at hF
   obtain ⟨hg1, hF⟩ := chk_in hF
   refine f_region Z ?_; clear Z; intro Z
   refine s_runk tMv2 Z 1 rfl rfl ?_; clear Z a; intro a Z
   refine s_ob Z (v := .int .i64 (i + 1)) rfl rfl (by decide) rfl (Ob_add rfl rfl rfl (wrI hg1)) ?_; clear Z a; intro a Z
   refine s_runk tMv2 Z 1 rfl rfl ?_; clear Z a; intro a Z
   refine s_end Z [0, 1, 2, 3, 4, 10, 11, 12, 13, 14, 15, 16, 17, 18, 19, 20, 21, 22, 25, 26, 27, 28, 29, 30, 31, 32, 33, 34, 35, 36, 37, 38, 39, 40, 53, 23, 24] rfl ?_; clear Z; intro Z
   refine p_then ?_
   replace H : Hf I D w I2 w2 [OEref16_Store b_s0 s0, OwC NEPair 39 v3 out_2, SlC NECell v4 x] := H.shutX (v2) [(0, false), (0, false)] rfl
   exact ⟨(out_2, i + 1), ⟨v3, Z.sub (ts := [0, 1, 2, 3, 4, 10, 11, 12, 13]) rfl, ⟨I2, (H.sub [(0, false), (0, false)] rfl).eq rfl⟩⟩, hF⟩
  ·skip
   refine wp_block ?_
   refine wp_seq ?_
   obtain ⟨hg2, hF⟩ := chk_in hF
   obtain ⟨a0, hx1, hF⟩ := bnd_in hF
   refine f_region Z ?_; clear Z; intro Z
   refine s_runk tMv2 Z 3 rfl rfl ?_; clear Z a; intro a Z
   refine s_ob Z (v := v2) rfl rfl (by decide) rfl (Ob_load tMv2 rfl rfl rfl ((H.bx 0 rfl).cell 0 rfl)) ?_; clear Z a; intro a Z
   refine s_runk tMv2 Z 1 rfl rfl ?_; clear Z a; intro a Z
   refine s_ob Z (v := .pointer (some ⟨blkOf v2, oofOf v2 + (i).toNat * 2, none⟩)) rfl rfl (by decide) rfl (Ob_sidx tMv2 rfl rfl rfl rfl (slPl (H.owA 1 rfl) hg2) hg2) ?_; clear Z a; intro a Z
   refine s_runk tMv2 Z 1 rfl rfl ?_; clear Z a; intro a Z
   obtain ⟨_, ⟨u1, rfl, L1⟩, hat1⟩ := H.owEl 1 rfl hg2
   replace H : Hf I D w I1 w1 [SlC NECell u1 ((s0.l.getD (i).toNat default).l), BxC b_s0 46 [v2, .int .u64 s0.last], OwC NEref16_Row 83 v2 s0.l, OwC NEPair 39 v1 out] := H.addsl L1
   refine s_ob Z (v := u1) rfl rfl (by decide) rfl (Ob_load tMv2 rfl rfl rfl (hat1 1 _ rfl)) ?_; clear Z a; intro a Z
   refine s_runk tMv2 Z 1 rfl rfl ?_; clear Z a; intro a Z
   refine h_call Z H (js := [(0, true)]) rfl (caps := #[]) fn_51_YMv2 rfl rfl rfl rfl rfl (by decide) rfl rfl (fun D1 hS => have hq := c_ref14_At hx1 hS; hq) ?_; clear Z a; intro vv a w3 D2 hr hF2 Z
   obtain ⟨rfl, I3, K⟩ := hr
   have H : Hf I D w I3 w3 [SlC NECell u1 ((s0.l.getD (i).toNat default).l), BxC b_s0 46 [v2, .int .u64 s0.last], OwC NEref16_Row 83 v2 s0.l, OwC NEPair 39 v1 out] := hF2 K
   clear hF2 K
   refine s_runk tMv2 Z 5 rfl rfl ?_; clear Z a; intro a Z
   refine s_end Z [0, 1, 2, 3, 4, 10, 11, 12, 13, 16, 17, 18, 19, 20, 21, 22, 26, 27, 28, 29, 30, 31, 32, 33, 34, 35, 25, 36, 37, 14, 15] rfl ?_; clear Z; intro Z
   refine p_then (wp_seq ?_)
   refine wp_seq ?_
   obtain ⟨hg3, hF⟩ := chk_in hF
   obtain ⟨i_2, hx2, hF⟩ := bnd_in hF
   refine f_region Z ?_; clear Z; intro Z
   refine s_runk tMv2 Z 3 rfl rfl ?_; clear Z a; intro a Z
   refine g_ob Z (p := (!(!a0.2))) (v := .pointer (some ⟨b_s0, 0, none⟩)) (S' := [(0, .pointer (some ⟨b_s0, 0, none⟩))]) rfl rfl rfl (wantB_f _) rfl (by decide) (fun hp hS => hS.sub (ts := [0]) rfl) (fun hp => Ob_c tMv2 rfl) ?_; clear Z a; intro a Z
   refine g_ob Z (p := (!(!a0.2))) (v := .pointer (some ⟨b_s0, 0, none⟩)) (S' := [(41, .pointer (some ⟨b_s0, 0, none⟩))]) rfl rfl rfl (wantB_f _) rfl (by decide) (fun hp hS => (hS.conv (t := 41) rfl (cond_t hp)).sub (ts := [41]) rfl) (fun hp => Ob_c tMv2 rfl) ?_; clear Z a; intro a Z
   refine g_ob Z (p := (!(!a0.2))) (v := .pointer (some ⟨b_s0, 0, none⟩)) (S' := [(42, .pointer (some ⟨b_s0, 0, none⟩))]) rfl rfl rfl (wantB_f _) rfl (by decide) (fun hp hS => (hS.conv (t := 42) rfl (cond_t hp)).sub (ts := [42]) rfl) (fun hp => Ob_c tMv2 rfl) ?_; clear Z a; intro a Z
   refine g_ob Z (p := (!(!a0.2))) (v := v2) (S' := [(43, .pointer (some ⟨b_s0, 0, none⟩))]) rfl rfl rfl (wantB_f _) rfl (by decide) (fun hp hS => (hS.conv (t := 43) rfl (cond_t hp)).sub (ts := [43]) rfl) (fun hp => Ob_load tMv2 rfl rfl rfl ((H.bx 1 rfl).cell 0 rfl)) ?_; clear Z a; intro a Z
   refine g_ob Z (p := (!(!a0.2))) (v := .int .i64 i) (S' := [(13, .int .i64 i)]) rfl rfl rfl (wantB_f _) rfl (by decide) (fun hp hS => hS.sub (ts := [13]) rfl) (fun hp => Ob_c tMv2 rfl) ?_; clear Z a; intro a Z
   refine g_ob Z (p := (!(!a0.2))) (v := .pointer (some ⟨blkOf v2, oofOf v2 + (i).toNat * 2, none⟩)) (S' := [(44, v2), (45, .int .i64 i)]) rfl rfl rfl (wantB_f _) rfl (by decide) (fun hp hS => ((hS.conv (t := 44) rfl (cond_t hp)).conv (t := 45) rfl (cond_t hp)).sub (ts := [44, 45]) rfl) (fun hp => Ob_sidx tMv2 rfl rfl rfl rfl (slPl (H.owA 2 rfl) (hg3 hp)) (hg3 hp)) ?_; clear Z a; intro a Z
   refine g_ob Z (p := (!(!a0.2))) (v := .pointer (some ⟨blkOf v2, oofOf v2 + (i).toNat * 2, none⟩)) (S' := [(46, .pointer (some ⟨blkOf v2, oofOf v2 + (i).toNat * 2, none⟩))]) rfl rfl rfl (wantB_f _) rfl (by decide) (fun hp hS => (hS.conv (t := 46) rfl (cond_t hp)).sub (ts := [46]) rfl) (fun hp => Ob_c tMv2 rfl) ?_; clear Z a; intro a Z
   obtain ⟨_, ⟨u2, rfl, L2⟩, hat2⟩ := H.owElG 2 rfl (i) (NEref16_Row.dft _ _)
   replace H : Hf I D w I3 w3 [SlC NECell u2 ((s0.l.getD (i).toNat default).l), SlC NECell u1 ((s0.l.getD (i).toNat default).l), BxC b_s0 46 [v2, .int .u64 s0.last], OwC NEref16_Row 83 v2 s0.l, OwC NEPair 39 v1 out] := H.addsl L2
   refine g_ob Z (p := (!(!a0.2))) (v := .string ((s0.l.getD (i).toNat default).k)) (S' := [(47, .pointer (some ⟨blkOf v2, oofOf v2 + (i).toNat * 2, none⟩))]) rfl rfl rfl (wantB_f _) rfl (by decide) (fun hp hS => (hS.conv (t := 47) rfl (cond_t hp)).sub (ts := [47]) rfl) (fun hp => Ob_load tMv2 rfl rfl rfl ((hat2 (hg3 hp)) 0 _ rfl)) ?_; clear Z a; intro a Z
   refine g_ob Z (p := (!(!a0.2))) (v := .string from_) (S' := [(1, .string from_)]) rfl rfl rfl (wantB_f _) rfl (by decide) (fun hp hS => hS.sub (ts := [1]) rfl) (fun hp => Ob_c tMv2 rfl) ?_; clear Z a; intro a Z
   refine g_ob Z (p := (!(!a0.2))) (v := .string to_) (S' := [(2, .string to_)]) rfl rfl rfl (wantB_f _) rfl (by decide) (fun hp hS => hS.sub (ts := [2]) rfl) (fun hp => Ob_c tMv2 rfl) ?_; clear Z a; intro a Z
   refine g_call Z (p := (!(!a0.2))) (v := .bool i_2) (S' := [(48, .string ((s0.l.getD (i).toNat default).k)), (49, .string from_), (50, .string to_)]) (caps := #[]) fn_52_YMv2 rfl rfl rfl (wantB_f _) rfl (by decide) (fun hp hS => (((hS.conv (t := 48) rfl (cond_t hp)).conv (t := 49) rfl (cond_t hp)).conv (t := 50) rfl (cond_t hp)).sub (ts := [48, 49, 50]) rfl) rfl rfl rfl rfl (fun hp => have hq := c_ref05_In (gif_in hx2 hp) (H.pick0 (js := []) rfl rfl); plainC hq) ?_; clear Z a; intro a w4 hb Z
   replace H : Hf I D w I3 w4 [SlC NECell u2 ((s0.l.getD (i).toNat default).l), SlC NECell u1 ((s0.l.getD (i).toNat default).l), BxC b_s0 46 [v2, .int .u64 s0.last], OwC NEref16_Row 83 v2 s0.l, OwC NEPair 39 v1 out] := H.blw hb
   clear hb
   refine g_ob Z (p := (!(!a0.2))) (v := .bool (!i_2)) (S' := [(51, .bool i_2)]) rfl rfl rfl (wantB_f _) rfl (by decide) (fun hp hS => (hS.conv (t := 51) rfl (cond_t hp)).sub (ts := [51]) rfl) (fun hp => Ob_c tMv2 rfl) ?_; clear Z a; intro a Z
   refine s_ob Z (v := .bool ((!a0.2) || (!i_2))) rfl rfl (by decide) rfl (Ob_pick rfl rfl rfl rfl (pick_or _ _)) ?_; clear Z a; intro a Z
   refine s_end Z [0, 1, 2, 3, 4, 10, 11, 12, 13, 16, 17, 18, 19, 20, 21, 22, 26, 27, 28, 29, 30, 31, 32, 33, 34, 35, 25, 36, 37, 14, 15, 38, 39, 40, 53] rfl ?_; clear Z; intro Z
   refine p_then ?_
   refine f_cond Z rfl (fun hc2 => ?_) (fun hc2 => ?_)
   ·replace hF := ite_t hc2 hF
    refine wp_exit ?_
    refine p_then_x ?_
    refine f_exit_here ?_
    refine p_then ?_
    exact ⟨out, a0.1, a0.2, a0.1, a0.2, (s0.l.getD (i).toNat default).l, a0.1, a0.2, a0.1, a0.2, a0.2, !a0.2, !a0.2, (!a0.2) || (!i_2), v1, u1, Z.sub (ts := [0, 1, 2, 3, 4, 10, 11, 12, 13, 14, 15, 16, 17, 18, 19, 20, 21, 22, 25, 26, 27, 28, 29, 30, 31, 32, 33, 34, 35, 36, 37, 38, 39, 40, 53]) rfl, ⟨I3, (H.sub [(2, false), (2, false), (2, false), (1, true)] rfl).eq rfl⟩, hF⟩
   ·replace hF := ite_f hc2 hF
    refine wp_skip ?_
    refine p_then (wp_seq ?_)
    refine wp_seq (f_region Z ?_); clear Z; intro Z
    refine s_runk tMv2 Z 1 rfl rfl ?_; clear Z a; intro a Z
    refine s_ob Z (v := .int .i64 (out.length : Int)) rfl rfl (by decide) rfl (Ob_slen tMv2 rfl rfl rfl (H.owshape 4 rfl)) ?_; clear Z a; intro a Z
    refine s_runk tMv2 Z 3 rfl rfl ?_; clear Z a; intro a Z
    refine s_end Z [0, 1, 2, 3, 4, 10, 11, 12, 13, 16, 17, 18, 19, 20, 21, 22, 26, 27, 28, 29, 30, 31, 32, 33, 34, 35, 25, 36, 37, 14, 15, 38, 39, 40, 53, 54, 55, 56, 57, 58] rfl ?_; clear Z; intro Z
    refine p_then ?_
    refine f_cond Z rfl (fun hc3 => ?_) (fun hc3 => ?_)
    ·replace hF := ite_t hc3 hF
     refine wp_seq (f_region Z ?_); clear Z; intro Z
     refine s_runk tMv2 Z 3 rfl rfl ?_; clear Z a; intro a Z
     refine s_end Z [0, 1, 2, 3, 4, 10, 11, 12, 13, 16, 17, 18, 19, 20, 21, 22, 26, 27, 28, 29, 30, 31, 32, 33, 34, 35, 25, 36, 37, 14, 15, 38, 39, 40, 53, 54, 55, 56, 57, 58, 59] rfl ?_; clear Z; intro Z
     refine p_then (wp_ret ?_)
     refine p_then_r ?_
     refine p_blk_r ?_
     refine p_then_r ?_
     refine p_then_r ?_
     refine p_blk_r ?_
     refine p_then_r ?_
     obtain ⟨I4, _, H⟩ := H.frzow 4 rfl
     replace H : Hf I D w I4 w4 [SlC NEPair v1 out, SlC NECell u2 ((s0.l.getD (i).toNat default).l), SlC NECell u1 ((s0.l.getD (i).toNat default).l), BxC b_s0 46 [v2, .int .u64 s0.last], OwC NEref16_Row 83 v2 s0.l] := H
     replace H : Hf I D w I4 w4 [OEref16_Store b_s0 s0, SlC NEPair v1 out, SlC NECell u2 ((s0.l.getD (i).toNat default).l), SlC NECell u1 ((s0.l.getD (i).toNat default).l)] := H.shutX (v2) [(3, false), (3, false)] rfl
     obtain rfl := some_in hF
     exact f_ret Z (run_results2 rfl Z rfl rfl) ⟨v1, rfl, I4, (H.sub [(0, false), (0, true)] rfl).eq rfl⟩
    ·replace hF := ite_f hc3 hF
     refine wp_skip ?_
     refine p_then ?_
     obtain ⟨hg4, hF⟩ := chk_in hF
     obtain ⟨hg5, hF⟩ := chk_in hF
     refine f_region Z ?_; clear Z; intro Z
     refine s_runk tMv2 Z 4 rfl rfl ?_; clear Z a; intro a Z
     refine s_ob Z (v := v2) rfl rfl (by decide) rfl (Ob_load tMv2 rfl rfl rfl ((H.bx 2 rfl).cell 0 rfl)) ?_; clear Z a; intro a Z
     refine s_runk tMv2 Z 1 rfl rfl ?_; clear Z a; intro a Z
     refine s_ob Z (v := .pointer (some ⟨blkOf v2, oofOf v2 + (i).toNat * 2, none⟩)) rfl rfl (by decide) rfl (Ob_sidx tMv2 rfl rfl rfl rfl (slPl (H.owA 3 rfl) hg4) hg4) ?_; clear Z a; intro a Z
     refine s_runk tMv2 Z 1 rfl rfl ?_; clear Z a; intro a Z
     obtain ⟨_, ⟨u3, rfl, L3⟩, hat3⟩ := H.owEl 3 rfl hg4
     replace H : Hf I D w I3 w4 [SlC NECell u3 ((s0.l.getD (i).toNat default).l), SlC NECell u2 ((s0.l.getD (i).toNat default).l), SlC NECell u1 ((s0.l.getD (i).toNat default).l), BxC b_s0 46 [v2, .int .u64 s0.last], OwC NEref16_Row 83 v2 s0.l, OwC NEPair 39 v1 out] := H.addsl L3
     refine s_ob Z (v := .string ((s0.l.getD (i).toNat default).k)) rfl rfl (by decide) rfl (Ob_load tMv2 rfl rfl rfl (hat3 0 _ rfl)) ?_; clear Z a; intro a Z
     refine s_runk tMv2 Z 1 rfl rfl ?_; clear Z a; intro a Z
     refine s_ob Z (v := .agg #[.string ((s0.l.getD (i).toNat default).k), .string a0.1]) rfl rfl (by decide) rfl (Ob_build (vs := [(0, .string ((s0.l.getD (i).toNat default).k)), (1, .string a0.1)]) rfl rfl (by go_simp <;> rfl)) ?_; clear Z a; intro a Z
     refine h_bslice Z H (vs := [(0, .agg #[.string ((s0.l.getD (i).toNat default).k), .string a0.1])]) (cl := [.string ((s0.l.getD (i).toNat default).k), .string a0.1]) (e := 39) rfl rfl rfl (by decide) rfl rfl (fun w => run_bslice (z := .agg #[.string ByteArray.empty, .string ByteArray.empty]) (m := 2) Try.underlying33 (by kernel_rfl) rfl rfl (by decide) (by simp [Instr.fill, Value.cells]) w) ?_; clear Z a H; intro a w5 b1 H Z
     refine h_appO Z H 6 E_33_YMv2 [({ key := (s0.l.getD (i).toNat default).k, val := a0.1 } : EPair)] rfl rfl rfl rfl rfl (by decide) rfl rfl rfl (slRep2.box1 (H.bx 0 rfl) ⟨rfl, trivial⟩) hg5 (by decide) ?_; clear Z a H; intro v5 a w6 H Z
     dsimp only [List.eraseIdx] at H
     replace H : Hf I D w I3 w6 [OwC NEPair 39 v5 (out ++ [({ key := (s0.l.getD (i).toNat default).k, val := a0.1 } : EPair)]), SlC NECell u3 ((s0.l.getD (i).toNat default).l), SlC NECell u2 ((s0.l.getD (i).toNat default).l), SlC NECell u1 ((s0.l.getD (i).toNat default).l), BxC b_s0 46 [v2, .int .u64 s0.last], OwC NEref16_Row 83 v2 s0.l] := H.sub [(0, false), (1, true), (2, true), (3, true), (4, false), (4, false)] rfl
     refine s_runk tMv2 Z 1 rfl rfl ?_; clear Z a; intro a Z
     refine s_end Z [0, 1, 2, 3, 4, 10, 11, 12, 13, 16, 17, 18, 19, 20, 21, 22, 26, 27, 28, 29, 30, 31, 32, 33, 34, 35, 25, 36, 37, 14, 15, 38, 39, 40, 53, 54, 55, 56, 57, 58, 60, 61, 62, 63, 64, 65, 66, 67, 68, 69, 70, 71, 72] rfl ?_; clear Z; intro Z
     refine p_blk ?_
     refine p_then ?_
     exact ⟨out ++ [({ key := (s0.l.getD (i).toNat default).k, val := a0.1 } : EPair)], a0.1, a0.2, a0.1, a0.2, (s0.l.getD (i).toNat default).l, a0.1, a0.2, a0.1, a0.2, a0.2, !a0.2, !a0.2, (!a0.2) || (!i_2), v5, u1, Z.sub (ts := [0, 1, 2, 3, 4, 10, 11, 12, 13, 14, 15, 16, 17, 18, 19, 20, 21, 22, 25, 26, 27, 28, 29, 30, 31, 32, 33, 34, 35, 36, 37, 38, 39, 40, 53]) rfl, ⟨I3, (H.sub [(4, false), (4, false), (0, false), (2, true)] rfl).eq rfl⟩, hF⟩
 ·replace hF := ite_f hc1 hF
  refine wp_exit ?_
  refine p_then_x ?_
  refine p_then_x ?_
  refine f_exit_here ?_
  refine p_then (wp_seq (f_region Z ?_)); clear Z; intro Z
  refine s_runk tMv2 Z 3 rfl rfl ?_; clear Z a; intro a Z
  refine s_end Z [10, 11] rfl ?_; clear Z; intro Z
  refine p_then (wp_ret ?_)
  obtain ⟨I5, _, H⟩ := H.frzow 2 rfl
  replace H : Hf I D w I5 w1 [SlC NEPair v1 out, BxC b_s0 46 [v2, .int .u64 s0.last], OwC NEref16_Row 83 v2 s0.l] := H
  replace H : Hf I D w I5 w1 [OEref16_Store b_s0 s0, SlC NEPair v1 out] := H.shutX (v2) [(1, false), (1, false)] rfl
  obtain rfl := some_in hF
  exact f_ret Z (run_results2 rfl Z rfl rfl) ⟨v1, rfl, I5, (H.sub [(0, false), (0, true)] rfl).eq rfl⟩

def F_ref16_Store_Prune_k2 (i : Int) (rc : ((List Eref16_Row) × Int) → Option (Int × Eref16_Store)) (out_2 : List Eref16_Row) (l : List ECell) (x : List ECell) (x_2 : Int) (x_3 : Bool) : Option (Int × Eref16_Store) := chk (inI (i + 1)) (rc (out_2, i + 1))

def F_ref16_Store_Prune_l1 (s0 : Eref16_Store) (h : Int) (c : Int) (rc : ((List Eref16_Row) × Int) → Option (Int × Eref16_Store)) (sg : (List Eref16_Row) × Int) : Option (Int × Eref16_Store) := match sg with | (out, i) => if (decide (i < (s0.l.length : Int))) = true then (chk ((0 : Int) ≤ i ∧ i < (s0.l.length : Int)) ((F_ref14_Prune ((s0.l.getD (i).toNat default).l) h).bind fun p => (if (decide ((p.length : Int) > 0)) = true then (chk ((0 : Int) ≤ i ∧ i < (s0.l.length : Int)) (chk (((out.length + [({ (s0.l.getD (i).toNat default) with l := p } : Eref16_Row)].length : Nat) : Int) * 40 ≤ 140737488355328) (F_ref16_Store_Prune_k2 i rc (out ++ [({ (s0.l.getD (i).toNat default) with l := p } : Eref16_Row)]) p ((s0.l.getD (i).toNat default).l) (p.length : Int) (decide ((p.length : Int) > 0))))) else (F_ref16_Store_Prune_k2 i rc out p ((s0.l.getD (i).toNat default).l) (p.length : Int) (decide ((p.length : Int) > 0)))))) else ((F_ref16_Store_Cells ({ s0 with l := out } : Eref16_Store)).bind fun c_2 => (chk (inI (c - c_2)) (some (c - c_2, ({ s0 with l := out } : Eref16_Store)))))

def F_ref16_Store_Prune (s0 : Eref16_Store) (h : Int) : Option (Int × Eref16_Store) := (F_ref16_Store_Cells s0).bind fun c => (iter (F_ref16_Store_Prune_l1 s0 h c) FU (([] : List Eref16_Row), 0))

set_option maxHeartbeats 1000000 in
theorem c_ref16_Store_Prune {I D : Dm} {b_s0 : Nat} {s0 : Eref16_Store} {h : Int} {w : World} {rr : Int × Eref16_Store} (hF : F_ref16_Store_Prune s0 h = some rr) (H : St I D w [OEref16_Store b_s0 s0]) :
  Calls Try.prog 18 #[.pointer (some ⟨b_s0, 0, none⟩), .int .u64 h] w (Ret fun vv w' => vv = .int .i64 rr.1 ∧ ∃ I', Hf I D w I' w' [OEref16_Store b_s0 rr.2]) := by
 replace H := H.hf
 unfold F_ref16_Store_Prune at hF
 refine f_enter 54 Try.func18 rfl rfl (Nat.le_of_ble_eq_true rfl) fun a Z => ?_
 replace Z := Z.sub (ts := [0, 1]) rfl
 refine wp_seq (f_region Z ?_); clear Z; intro Z
 refine s_runk tMv2 Z 1 rfl rfl ?_; clear Z a; intro a Z
 refine s_end Z [0, 1, 4] rfl ?_; clear Z; intro Z
 refine p_then (wp_seq ?_)
 obtain ⟨c, hx1, hF⟩ := bnd_in hF
 refine f_region Z ?_; clear Z; intro Z
 refine s_runk tMv2 Z 1 rfl rfl ?_; clear Z a; intro a Z
 refine h_call Z H (js := [(0, false)]) rfl (caps := #[]) fn_22_YMv2 rfl rfl rfl rfl rfl (by decide) rfl rfl (fun D1 hS => have hq := c_ref16_Store_Cells hx1 hS; hq) ?_; clear Z a; intro vv a w1 D2 hr hF2 Z
 obtain ⟨rfl, I1, K⟩ := hr
 have H : Hf I D w I1 w1 [OEref16_Store b_s0 s0] := hF2 K
 clear hF2 K
 refine s_runk tMv2 Z 1 rfl rfl ?_; clear Z a; intro a Z
 refine s_end Z [0, 1, 4, 5] rfl ?_; clear Z; intro Z
 refine p_then (wp_seq (f_region Z ?_)); clear Z; intro Z
 refine s_runk tMv2 Z 1 rfl rfl ?_; clear Z a; intro a Z
 refine s_end Z [0, 1, 4, 5, 6] rfl ?_; clear Z; intro Z
 refine p_then (wp_seq ?_)
 refine wp_seq (f_region Z ?_); clear Z; intro Z
 refine s_runk tMv2 Z 1 rfl rfl ?_; clear Z a; intro a Z
 refine s_end Z [0, 1, 4, 5, 6, 7] rfl ?_; clear Z; intro Z
 refine p_then (wp_block ?_)
 replace H : Hf I D w I1 w1 [OwC NEref16_Row 83 (.slice none 0 0) ([] : List Eref16_Row), OEref16_Store b_s0 s0] := H.nilow NEref16_Row 83
 refine f_iter hF (fun sg a' w' => match sg with | (out, i) => ∃ v1 : Value, Sl 54 [(0, .pointer (some ⟨b_s0, 0, none⟩)), (1, .int .u64 h), (4, .int .i64 0), (5, .int .i64 c), (6, v1), (7, .int .i64 i)] a' ∧ ∃ I2, Hf I D w I2 w' [OEref16_Store b_s0 s0, OwC NEref16_Row 83 v1 out]) ⟨.slice none 0 0, Z.sub (ts := [0, 1, 4, 5, 6, 7]) rfl, ⟨I1, (H.sub [(1, false), (0, false)] rfl).eq rfl⟩⟩ ?_
 clear Z H hF a
 rintro rc ⟨out, i⟩ a w2 ⟨v1, Z, I2, H⟩ hF
 unfold F_ref16_Store_Prune_l1 at hF
 try dsimp only at hF
 refine wp_seq ?_
 refine wp_seq (f_region Z ?_); clear Z; intro Z
 refine s_runk tMv2 Z 4 rfl rfl ?_; clear Z a; intro a Z
 obtain ⟨v2, H⟩ := H.openX 0 rfl
 replace H : Hf I D w I2 w2 [BxC b_s0 46 [v2, .int .u64 s0.last], OwC NEref16_Row 83 v2 s0.l, OwC NEref16_Row 83 v1 out] := H
 refine s_ob Z (v := v2) rfl rfl (by decide) rfl (Ob_load tMv2 rfl rfl rfl ((H.bx 0 rfl).cell 0 rfl)) ?_; clear Z a; intro a Z
 refine s_ob Z (v := .int .i64 (s0.l.length : Int)) rfl rfl (by decide) rfl (Ob_slen tMv2 rfl rfl rfl (H.owshape 1 rfl)) ?_; clear Z a; intro a Z
 refine s_runk tMv2 Z 1 rfl rfl ?_; clear Z a; intro a Z
 refine s_end Z [0, 1, 4, 5, 6, 7, 11, 12, 13, 14, 15, 16, 17] rfl ?_; clear Z; intro Z
 refine p_then ?_
 refine f_cond Z rfl (fun hc1 => ?_) (fun hc1 => ?_)
 ·replace hF := ite_t hc1 hF
  refine wp_skip ?_
  refine p_then ?_
  refine f_cut (fun a' w' => ∃ (out_2 : List Eref16_Row) (l : List ECell) (x : List ECell) (x_2 : Int) (x_3 : Bool), ∃ v3 v4 v5 : Value, Sl 54 [(0, .pointer (some ⟨b_s0, 0, none⟩)), (1, .int .u64 h), (4, .int .i64 0), (5, .int .i64 c), (6, v3), (7, .int .i64 i), (8, v4), (11, .int .i64 i), (12, .pointer (some ⟨b_s0, 0, none⟩)), (13, .pointer (some ⟨b_s0, 0, none⟩)), (14, .pointer (some ⟨b_s0, 0, none⟩)), (15, v2), (16, .int .i64 (s0.l.length : Int)), (17, .bool (decide (i < (s0.l.length : Int)))), (20, .pointer (some ⟨b_s0, 0, none⟩)), (21, .pointer (some ⟨b_s0, 0, none⟩)), (22, .pointer (some ⟨b_s0, 0, none⟩)), (23, v2), (24, .int .i64 i), (25, .pointer (some ⟨blkOf v2, oofOf v2 + (i).toNat * 2, none⟩)), (26, .pointer (some ⟨blkOf v2, oofOf v2 + (i).toNat * 2 + 1, none⟩)), (27, v5), (28, .int .u64 h), (29, v4), (30, v4), (31, .int .i64 x_2), (32, .bool x_3)] a' ∧ (∃ I2, Hf I D w I2 w' [BxC b_s0 46 [v2, .int .u64 s0.last], OwC NEref16_Row 83 v2 s0.l, OwC NEref16_Row 83 v3 out_2, SlC NECell v4 l, SlC NECell v5 x]) ∧ F_ref16_Store_Prune_k2 i rc out_2 l x x_2 x_3 = some rr) ?_ ?_
  ·rintro a w3 ⟨out_2, l, x, x_2, x_3, v3, v4, v5, Z, ⟨I3, H⟩, hF⟩
   unfold F_ref16_Store_Prune_k2 at hF
   try dsimp only at hF
   obtain ⟨hg1, hF⟩ := chk_in hF
   refine f_region Z ?_; clear Z; intro Z
   refine s_runk tMv2 Z 1 rfl rfl ?_; clear Z a; intro a Z
   refine s_ob Z (v := .int .i64 (i + 1)) rfl rfl (by decide) rfl (Ob_add rfl rfl rfl (wrI hg1)) ?_; clear Z a; intro a Z
   refine s_runk tMv2 Z 1 rfl rfl ?_; clear Z a; intro a Z
   refine s_end Z [0, 1, 4, 5, 6, 7, 8, 11, 12, 13, 14, 15, 16, 17, 20, 21, 22, 23, 24, 25, 26, 27, 28, 29, 30, 31, 32, 18, 19] rfl ?_; clear Z; intro Z
   refine p_then ?_
   replace H : Hf I D w I3 w3 [OEref16_Store b_s0 s0, OwC NEref16_Row 83 v3 out_2, SlC NECell v4 l, SlC NECell v5 x] := H.shutX (v2) [(0, false), (0, false)] rfl
   exact ⟨(out_2, i + 1), ⟨v3, Z.sub (ts := [0, 1, 4, 5, 6, 7]) rfl, ⟨I3, (H.sub [(0, false), (0, false)] rfl).eq rfl⟩⟩, hF⟩
  ·skip
   refine wp_block ?_
   refine wp_seq ?_
   obtain ⟨hg2, hF⟩ := chk_in hF
   obtain ⟨p, hx2, hF⟩ := bnd_in hF
   refine f_region Z ?_; clear Z; intro Z
   refine s_runk tMv2 Z 3 rfl rfl ?_; clear Z a; intro a Z
   refine s_ob Z (v := v2) rfl rfl (by decide) rfl (Ob_load tMv2 rfl rfl rfl ((H.bx 0 rfl).cell 0 rfl)) ?_; clear Z a; intro a Z
   refine s_runk tMv2 Z 1 rfl rfl ?_; clear Z a; intro a Z
   refine s_ob Z (v := .pointer (some ⟨blkOf v2, oofOf v2 + (i).toNat * 2, none⟩)) rfl rfl (by decide) rfl (Ob_sidx tMv2 rfl rfl rfl rfl (slPl (H.owA 1 rfl) hg2) hg2) ?_; clear Z a; intro a Z
   refine s_runk tMv2 Z 1 rfl rfl ?_; clear Z a; intro a Z
   obtain ⟨_, ⟨u1, rfl, L1⟩, hat1⟩ := H.owEl 1 rfl hg2
   replace H : Hf I D w I2 w2 [SlC NECell u1 ((s0.l.getD (i).toNat default).l), BxC b_s0 46 [v2, .int .u64 s0.last], OwC NEref16_Row 83 v2 s0.l, OwC NEref16_Row 83 v1 out] := H.addsl L1
   refine s_ob Z (v := u1) rfl rfl (by decide) rfl (Ob_load tMv2 rfl rfl rfl (hat1 1 _ rfl)) ?_; clear Z a; intro a Z
   refine s_runk tMv2 Z 1 rfl rfl ?_; clear Z a; intro a Z
   refine h_call Z H (js := [(0, true)]) rfl (caps := #[]) fn_37_YMv2 rfl rfl rfl rfl rfl (by decide) rfl rfl (fun D1 hS => have hq := c_ref14_Prune hx2 hS; hq) ?_; clear Z a; intro vv a w4 D2 hr hF2 Z
   obtain ⟨q1, hvv, I4, K⟩ := hr; obtain rfl := hvv.symm
   have H : Hf I D w I4 w4 [SlC NECell q1 p, SlC NECell u1 ((s0.l.getD (i).toNat default).l), BxC b_s0 46 [v2, .int .u64 s0.last], OwC NEref16_Row 83 v2 s0.l, OwC NEref16_Row 83 v1 out] := hF2 K
   clear hF2 K
   refine s_runk tMv2 Z 1 rfl rfl ?_; clear Z a; intro a Z
   refine s_end Z [0, 1, 4, 5, 6, 7, 11, 12, 13, 14, 15, 16, 17, 20, 21, 22, 23, 24, 25, 26, 27, 28, 29, 8] rfl ?_; clear Z; intro Z
   refine p_then (wp_seq (f_region Z ?_)); clear Z; intro Z
   refine s_runk tMv2 Z 1 rfl rfl ?_; clear Z a; intro a Z
   refine s_ob Z (v := .int .i64 (p.length : Int)) rfl rfl (by decide) rfl (Ob_slen tMv2 rfl rfl rfl (H.slshape 0 rfl)) ?_; clear Z a; intro a Z
   refine s_runk tMv2 Z 1 rfl rfl ?_; clear Z a; intro a Z
   refine s_end Z [0, 1, 4, 5, 6, 7, 11, 12, 13, 14, 15, 16, 17, 20, 21, 22, 23, 24, 25, 26, 27, 28, 29, 8, 30, 31, 32] rfl ?_; clear Z; intro Z
   refine p_then ?_
   refine f_cond Z rfl (fun hc2 => ?_) (fun hc2 => ?_)
   ·replace hF := ite_t hc2 hF
    obtain ⟨hg3, hF⟩ := chk_in hF
    obtain ⟨hg4, hF⟩ := chk_in hF
    refine f_region Z ?_; clear Z; intro Z
    refine s_runk tMv2 Z 4 rfl rfl ?_; clear Z a; intro a Z
    refine s_ob Z (v := v2) rfl rfl (by decide) rfl (Ob_load tMv2 rfl rfl rfl ((H.bx 2 rfl).cell 0 rfl)) ?_; clear Z a; intro a Z
    refine s_runk tMv2 Z 1 rfl rfl ?_; clear Z a; intro a Z
    refine s_ob Z (v := .pointer (some ⟨blkOf v2, oofOf v2 + (i).toNat * 2, none⟩)) rfl rfl (by decide) rfl (Ob_sidx tMv2 rfl rfl rfl rfl (slPl (H.owA 3 rfl) hg3) hg3) ?_; clear Z a; intro a Z
    refine s_runk tMv2 Z 1 rfl rfl ?_; clear Z a; intro a Z
    obtain ⟨_, ⟨u2, rfl, L2⟩, hat2⟩ := H.owEl 3 rfl hg3
    replace H : Hf I D w I4 w4 [SlC NECell u2 ((s0.l.getD (i).toNat default).l), SlC NECell q1 p, SlC NECell u1 ((s0.l.getD (i).toNat default).l), BxC b_s0 46 [v2, .int .u64 s0.last], OwC NEref16_Row 83 v2 s0.l, OwC NEref16_Row 83 v1 out] := H.addsl L2
    refine s_ob Z (v := .string ((s0.l.getD (i).toNat default).k)) rfl rfl (by decide) rfl (Ob_load tMv2 rfl rfl rfl (hat2 0 _ rfl)) ?_; clear Z a; intro a Z
    refine s_runk tMv2 Z 1 rfl rfl ?_; clear Z a; intro a Z
    refine s_ob Z (v := .agg #[.string ((s0.l.getD (i).toNat default).k), q1]) rfl rfl (by decide) rfl (Ob_build (vs := [(0, .string ((s0.l.getD (i).toNat default).k)), (1, q1)]) rfl rfl (by obtain ⟨_, _, e, _⟩ := (H.slshape 1 rfl); rw [e]; clear e; go_simp <;> rfl)) ?_; clear Z a; intro a Z
    refine h_bslice Z H (vs := [(0, .agg #[.string ((s0.l.getD (i).toNat default).k), q1])]) (cl := [.string ((s0.l.getD (i).toNat default).k), q1]) (e := 83) rfl rfl rfl (by decide) rfl rfl (fun w => run_bslice (z := .agg #[.string ByteArray.empty, .slice none 0 0]) (m := 2) Try.underlying44 (by kernel_rfl) rfl rfl (by decide) (by simp [Instr.fill, Value.cells]) w) ?_; clear Z a H; intro a w5 b1 H Z
    refine h_appO Z H 6 E_44_YMv2 [({ (s0.l.getD (i).toNat default) with l := p } : Eref16_Row)] rfl rfl rfl rfl rfl (by decide) rfl rfl rfl (slRep2.box1 (H.bx 0 rfl) ⟨_, rfl, (H.sl 2 rfl)⟩) hg4 (by decide) ?_; clear Z a H; intro v6 a w6 H Z
    dsimp only [List.eraseIdx] at H
    replace H : Hf I D w I4 w6 [OwC NEref16_Row 83 v6 (out ++ [({ (s0.l.getD (i).toNat default) with l := p } : Eref16_Row)]), SlC NECell u2 ((s0.l.getD (i).toNat default).l), SlC NECell q1 p, SlC NECell u1 ((s0.l.getD (i).toNat default).l), BxC b_s0 46 [v2, .int .u64 s0.last], OwC NEref16_Row 83 v2 s0.l] := H.sub [(0, false), (1, true), (2, true), (3, true), (4, false), (4, false)] rfl
    refine s_runk tMv2 Z 1 rfl rfl ?_; clear Z a; intro a Z
    refine s_end Z [0, 1, 4, 5, 6, 7, 11, 12, 13, 14, 15, 16, 17, 20, 21, 22, 23, 24, 25, 26, 27, 28, 29, 8, 30, 31, 32, 33, 34, 35, 36, 37, 38, 39, 40, 41, 42, 43, 44, 45] rfl ?_; clear Z; intro Z
    refine p_blk ?_
    refine p_then ?_
    exact ⟨out ++ [({ (s0.l.getD (i).toNat default) with l := p } : Eref16_Row)], p, (s0.l.getD (i).toNat default).l, (p.length : Int), decide ((p.length : Int) > 0), v6, q1, u1, Z.sub (ts := [0, 1, 4, 5, 6, 7, 8, 11, 12, 13, 14, 15, 16, 17, 20, 21, 22, 23, 24, 25, 26, 27, 28, 29, 30, 31, 32]) rfl, ⟨I4, (H.sub [(4, false), (4, false), (0, false), (1, true), (2, true)] rfl).eq rfl⟩, hF⟩
   ·replace hF := ite_f hc2 hF
    refine wp_skip ?_
    refine p_blk ?_
    refine p_then ?_
    exact ⟨out, p, (s0.l.getD (i).toNat default).l, (p.length : Int), decide ((p.length : Int) > 0), v1, q1, u1, Z.sub (ts := [0, 1, 4, 5, 6, 7, 8, 11, 12, 13, 14, 15, 16, 17, 20, 21, 22, 23, 24, 25, 26, 27, 28, 29, 30, 31, 32]) rfl, ⟨I4, (H.sub [(2, false), (2, false), (2, false), (0, true), (1, true)] rfl).eq rfl⟩, hF⟩
 ·replace hF := ite_f hc1 hF
  refine wp_exit ?_
  refine p_then_x ?_
  refine p_then_x ?_
  refine f_exit_here ?_
  refine p_then (wp_seq (f_region Z ?_)); clear Z; intro Z
  refine s_runk tMv2 Z 4 rfl rfl ?_; clear Z a; intro a Z
  refine h_store tMv2 Z H 0 rfl rfl rfl rfl rfl rfl (slS.cells (H.owshape 2 rfl)) rfl rfl (one_cons (slS.one (H.owshape 2 rfl)) one_nil) (Nat.le_of_ble_eq_true rfl) rfl ?_; clear H; intro w7 H
  dsimp only [List.eraseIdx] at H
  refine s_end Z [0, 4, 5] rfl ?_; clear Z; intro Z
  refine p_then (wp_seq ?_)
  obtain ⟨c_2, hx3, hF⟩ := bnd_in hF
  obtain ⟨hg5, hF⟩ := chk_in hF
  refine f_region Z ?_; clear Z; intro Z
  refine s_runk tMv2 Z 2 rfl rfl ?_; clear Z a; intro a Z
  replace H : Hf I D w I2 w7 [OEref16_Store b_s0 ({ s0 with l := out } : Eref16_Store), OwC NEref16_Row 83 v2 s0.l] := H.shutX (v1) [(0, false), (1, false)] rfl
  refine h_call Z H (js := [(0, false)]) rfl (caps := #[]) fn_22_YMv2 rfl rfl rfl rfl rfl (by decide) rfl rfl (fun D1 hS => have hq := c_ref16_Store_Cells hx3 hS; hq) ?_; clear Z a; intro vv a w8 D2 hr hF2 Z
  obtain ⟨rfl, I5, K⟩ := hr
  have H : Hf I D w I5 w8 [OEref16_Store b_s0 ({ s0 with l := out } : Eref16_Store), OwC NEref16_Row 83 v2 s0.l] := hF2 K
  clear hF2 K
  refine s_ob Z (v := .int .i64 (c - c_2)) rfl rfl (by decide) rfl (Ob_sub rfl rfl rfl (wrI hg5)) ?_; clear Z a; intro a Z
  refine s_runk tMv2 Z 1 rfl rfl ?_; clear Z a; intro a Z
  refine s_end Z [4] rfl ?_; clear Z; intro Z
  refine p_then (wp_ret ?_)
  obtain rfl := some_in hF
  exact f_ret Z (run_results1 rfl Z rfl) ⟨rfl, I5, (H.sub [(0, false)] rfl).eq rfl⟩

def F_ref16_Store_lay_k2 (s0 : Eref16_Store) (c : ECell) (i : Int) (s_l : List Eref16_Row) : Option Eref16_Store := chk ((0 : Int) ≤ i ∧ i < (s_l.length : Int)) (chk (((([] : List ECell).length + ((s_l.getD (i).toNat default).l).length : Nat) : Int) * 32 ≤ 140737488355328) (chk ((((([] : List ECell) ++ ((s_l.getD (i).toNat default).l)).length + [c].length : Nat) : Int) * 32 ≤ 140737488355328) (chk ((0 : Int) ≤ i ∧ i < (s_l.length : Int)) (some ({ s0 with l := s_l.set (i).toNat ({ (s_l.getD (i).toNat default) with l := (([] : List ECell) ++ ((s_l.getD (i).toNat default).l)) ++ [c] } : Eref16_Row) } : Eref16_Store)))))

def F_ref16_Store_lay_l1 (s0 : Eref16_Store) (k : ByteArray) (c : ECell) (rc : Int → Option Eref16_Store) (sg : Int) : Option Eref16_Store := match sg with | i => chk ((decide (i < (s0.l.length : Int))) = true → (0 : Int) ≤ i ∧ i < (s0.l.length : Int)) (if ((decide (i < (s0.l.length : Int))) && (sltB ((s0.l.getD (i).toNat default).k) k)) = true then (chk (inI (i + 1)) (rc (i + 1))) else (chk ((!(i == (s0.l.length : Int))) = true → (0 : Int) ≤ i ∧ i < (s0.l.length : Int)) (if ((i == (s0.l.length : Int)) || (!seqB ((s0.l.getD (i).toNat default).k) k)) = true then (chk ((0 : Int) ≤ i ∧ i ≤ (s0.l.length : Int)) (chk (((([] : List Eref16_Row).length + (s0.l.take ((i).toNat)).length : Nat) : Int) * 40 ≤ 140737488355328) (chk (((([] ++ (s0.l.take ((i).toNat))).length + [({ k := k, l := ([] : List ECell) } : Eref16_Row)].length : Nat) : Int) * 40 ≤ 140737488355328) (chk ((0 : Int) ≤ i ∧ i ≤ (s0.l.length : Int)) (chk ((((([] ++ (s0.l.take ((i).toNat))) ++ [({ k := k, l := ([] : List ECell) } : Eref16_Row)]).length + (s0.l.drop ((i).toNat)).length : Nat) : Int) * 40 ≤ 140737488355328) (F_ref16_Store_lay_k2 s0 c i ((([] ++ (s0.l.take ((i).toNat))) ++ [({ k := k, l := ([] : List ECell) } : Eref16_Row)]) ++ (s0.l.drop ((i).toNat))))))))) else (F_ref16_Store_lay_k2 s0 c i s0.l))))

def F_ref16_Store_lay (s0 : Eref16_Store) (k : ByteArray) (c : ECell) : Option Eref16_Store := iter (F_ref16_Store_lay_l1 s0 k c) FU 0

set_option maxHeartbeats 1000000 in
theorem c_ref16_Store_lay {I D : Dm} {b_s0 : Nat} {s0 : Eref16_Store} {k : ByteArray} {c : ECell} {w : World} {rr : Eref16_Store} (hF : F_ref16_Store_lay s0 k c = some rr) (H : St I D w [OEref16_Store b_s0 s0]) :
  Calls Try.prog 34 #[.pointer (some ⟨b_s0, 0, none⟩), .string k, .agg #[.int .u64 c.ts, .string c.val, .bool c.del]] w (Ret fun vv w' => vv = .tuple #[] ∧ ∃ I', Hf I D w I' w' [OEref16_Store b_s0 rr]) := by
 replace H := H.hf
 unfold F_ref16_Store_lay at hF
 refine f_enter 94 Try.func34 rfl rfl (Nat.le_of_ble_eq_true rfl) fun a Z => ?_
 replace Z := Z.sub (ts := [0, 1, 2]) rfl
 refine wp_seq (f_region Z ?_); clear Z; intro Z
 refine h_boxv Z H (cl := [.int .u64 c.ts, .string c.val, .bool c.del]) rfl rfl rfl (by decide) rfl rfl rfl ?_; clear Z a H; intro a w1 b1 H Z
 refine s_end Z [0, 1, 5] rfl ?_; clear Z; intro Z
 refine p_then (wp_seq (f_region Z ?_)); clear Z; intro Z
 refine s_runk tMv2 Z 1 rfl rfl ?_; clear Z a; intro a Z
 refine s_end Z [0, 1, 5, 6] rfl ?_; clear Z; intro Z
 refine p_then (wp_seq ?_)
 refine wp_block ?_
 refine f_iter hF (fun sg a' w' => match sg with | i => Sl 94 [(0, .pointer (some ⟨b_s0, 0, none⟩)), (1, .string k), (5, .pointer (some ⟨b1, 0, none⟩)), (6, .int .i64 i)] a' ∧ ∃ I2, Hf I D w I2 w' [OEref16_Store b_s0 s0, BxC b1 71 [.int .u64 c.ts, .string c.val, .bool c.del]]) ⟨Z.sub (ts := [0, 1, 5, 6]) rfl, ⟨I, (H.sub [(1, false), (0, false)] rfl).eq rfl⟩⟩ ?_
 clear Z H hF a
 rintro rc i a w2 ⟨Z, I1, H⟩ hF
 unfold F_ref16_Store_lay_l1 at hF
 try dsimp only at hF
 refine wp_seq ?_
 refine wp_seq ?_
 obtain ⟨hg1, hF⟩ := chk_in hF
 refine f_region Z ?_; clear Z; intro Z
 refine s_runk tMv2 Z 4 rfl rfl ?_; clear Z a; intro a Z
 obtain ⟨v1, H⟩ := H.openX 0 rfl
 replace H : Hf I D w I1 w2 [BxC b_s0 46 [v1, .int .u64 s0.last], OwC NEref16_Row 83 v1 s0.l, BxC b1 71 [.int .u64 c.ts, .string c.val, .bool c.del]] := H
 refine s_ob Z (v := v1) rfl rfl (by decide) rfl (Ob_load tMv2 rfl rfl rfl ((H.bx 0 rfl).cell 0 rfl)) ?_; clear Z a; intro a Z
 refine s_ob Z (v := .int .i64 (s0.l.length : Int)) rfl rfl (by decide) rfl (Ob_slen tMv2 rfl rfl rfl (H.owshape 1 rfl)) ?_; clear Z a; intro a Z
 refine s_runk tMv2 Z 2 rfl rfl ?_; clear Z a; intro a Z
 refine g_ob Z (p := (decide (i < (s0.l.length : Int)))) (v := .pointer (some ⟨b_s0, 0, none⟩)) (S' := [(0, .pointer (some ⟨b_s0, 0, none⟩))]) rfl rfl rfl (wantB_t _) rfl (by decide) (fun hp hS => hS.sub (ts := [0]) rfl) (fun hp => Ob_c tMv2 rfl) ?_; clear Z a; intro a Z
 refine g_ob Z (p := (decide (i < (s0.l.length : Int)))) (v := .pointer (some ⟨b_s0, 0, none⟩)) (S' := [(17, .pointer (some ⟨b_s0, 0, none⟩))]) rfl rfl rfl (wantB_t _) rfl (by decide) (fun hp hS => (hS.conv (t := 17) rfl (cond_t hp)).sub (ts := [17]) rfl) (fun hp => Ob_c tMv2 rfl) ?_; clear Z a; intro a Z
 refine g_ob Z (p := (decide (i < (s0.l.length : Int)))) (v := .pointer (some ⟨b_s0, 0, none⟩)) (S' := [(18, .pointer (some ⟨b_s0, 0, none⟩))]) rfl rfl rfl (wantB_t _) rfl (by decide) (fun hp hS => (hS.conv (t := 18) rfl (cond_t hp)).sub (ts := [18]) rfl) (fun hp => Ob_c tMv2 rfl) ?_; clear Z a; intro a Z
 refine g_ob Z (p := (decide (i < (s0.l.length : Int)))) (v := v1) (S' := [(19, .pointer (some ⟨b_s0, 0, none⟩))]) rfl rfl rfl (wantB_t _) rfl (by decide) (fun hp hS => (hS.conv (t := 19) rfl (cond_t hp)).sub (ts := [19]) rfl) (fun hp => Ob_load tMv2 rfl rfl rfl ((H.bx 0 rfl).cell 0 rfl)) ?_; clear Z a; intro a Z
 refine g_ob Z (p := (decide (i < (s0.l.length : Int)))) (v := .int .i64 i) (S' := [(6, .int .i64 i)]) rfl rfl rfl (wantB_t _) rfl (by decide) (fun hp hS => hS.sub (ts := [6]) rfl) (fun hp => Ob_c tMv2 rfl) ?_; clear Z a; intro a Z
 refine g_ob Z (p := (decide (i < (s0.l.length : Int)))) (v := .pointer (some ⟨blkOf v1, oofOf v1 + (i).toNat * 2, none⟩)) (S' := [(20, v1), (21, .int .i64 i)]) rfl rfl rfl (wantB_t _) rfl (by decide) (fun hp hS => ((hS.conv (t := 20) rfl (cond_t hp)).conv (t := 21) rfl (cond_t hp)).sub (ts := [20, 21]) rfl) (fun hp => Ob_sidx tMv2 rfl rfl rfl rfl (slPl (H.owA 1 rfl) (hg1 hp)) (hg1 hp)) ?_; clear Z a; intro a Z
 refine g_ob Z (p := (decide (i < (s0.l.length : Int)))) (v := .pointer (some ⟨blkOf v1, oofOf v1 + (i).toNat * 2, none⟩)) (S' := [(22, .pointer (some ⟨blkOf v1, oofOf v1 + (i).toNat * 2, none⟩))]) rfl rfl rfl (wantB_t _) rfl (by decide) (fun hp hS => (hS.conv (t := 22) rfl (cond_t hp)).sub (ts := [22]) rfl) (fun hp => Ob_c tMv2 rfl) ?_; clear Z a; intro a Z
 obtain ⟨_, ⟨u1, rfl, L1⟩, hat1⟩ := H.owElG 1 rfl (i) (NEref16_Row.dft _ _)
 replace H : Hf I D w I1 w2 [SlC NECell u1 ((s0.l.getD (i).toNat default).l), BxC b_s0 46 [v1, .int .u64 s0.last], OwC NEref16_Row 83 v1 s0.l, BxC b1 71 [.int .u64 c.ts, .string c.val, .bool c.del]] := H.addsl L1
 refine g_ob Z (p := (decide (i < (s0.l.length : Int)))) (v := .string ((s0.l.getD (i).toNat default).k)) (S' := [(23, .pointer (some ⟨blkOf v1, oofOf v1 + (i).toNat * 2, none⟩))]) rfl rfl rfl (wantB_t _) rfl (by decide) (fun hp hS => (hS.conv (t := 23) rfl (cond_t hp)).sub (ts := [23]) rfl) (fun hp => Ob_load tMv2 rfl rfl rfl ((hat1 (hg1 hp)) 0 _ rfl)) ?_; clear Z a; intro a Z
 refine g_ob Z (p := (decide (i < (s0.l.length : Int)))) (v := .string k) (S' := [(1, .string k)]) rfl rfl rfl (wantB_t _) rfl (by decide) (fun hp hS => hS.sub (ts := [1]) rfl) (fun hp => Ob_c tMv2 rfl) ?_; clear Z a; intro a Z
 refine g_ob Z (p := (decide (i < (s0.l.length : Int)))) (v := .bool (sltB ((s0.l.getD (i).toNat default).k) k)) (S' := [(24, .string ((s0.l.getD (i).toNat default).k)), (25, .string k)]) rfl rfl rfl (wantB_t _) rfl (by decide) (fun hp hS => ((hS.conv (t := 24) rfl (cond_t hp)).conv (t := 25) rfl (cond_t hp)).sub (ts := [24, 25]) rfl) (fun hp => Ob_c tMv2 rfl) ?_; clear Z a; intro a Z
 refine s_ob Z (v := .bool ((decide (i < (s0.l.length : Int))) && (sltB ((s0.l.getD (i).toNat default).k) k))) rfl rfl (by decide) rfl (Ob_pick rfl rfl rfl rfl (pick_and _ _)) ?_; clear Z a; intro a Z
 refine s_end Z [0, 1, 5, 6, 9, 10, 11, 12, 13, 14, 15, 16, 27] rfl ?_; clear Z; intro Z
 refine p_then ?_
 refine f_cond Z rfl (fun hc1 => ?_) (fun hc1 => ?_)
 ·replace hF := ite_t hc1 hF
  refine wp_skip ?_
  refine p_then (wp_block ?_)
  obtain ⟨hg2, hF⟩ := chk_in hF
  refine f_region Z ?_; clear Z; intro Z
  refine s_runk tMv2 Z 1 rfl rfl ?_; clear Z a; intro a Z
  refine s_ob Z (v := .int .i64 (i + 1)) rfl rfl (by decide) rfl (Ob_add rfl rfl rfl (wrI hg2)) ?_; clear Z a; intro a Z
  refine s_runk tMv2 Z 1 rfl rfl ?_; clear Z a; intro a Z
  refine s_end Z [0, 1, 5, 6, 9, 10, 11, 12, 13, 14, 15, 16, 27, 28, 29] rfl ?_; clear Z; intro Z
  refine p_blk ?_
  refine p_then ?_
  replace H : Hf I D w I1 w2 [OEref16_Store b_s0 s0, SlC NECell u1 ((s0.l.getD (i).toNat default).l), BxC b1 71 [.int .u64 c.ts, .string c.val, .bool c.del]] := H.shutX (v1) [(1, false), (1, false)] rfl
  exact ⟨(i + 1), ⟨Z.sub (ts := [0, 1, 5, 6]) rfl, ⟨I1, (H.sub [(0, false), (1, false)] rfl).eq rfl⟩⟩, hF⟩
 ·replace hF := ite_f hc1 hF
  refine wp_exit ?_
  refine p_then_x ?_
  refine p_then_x ?_
  refine f_exit_here ?_
  refine p_then ?_
  refine f_cut (fun a' w' => ∃ (s_l : List Eref16_Row), ∃ v2 : Value, Sl 94 [(0, .pointer (some ⟨b_s0, 0, none⟩)), (5, .pointer (some ⟨b1, 0, none⟩)), (6, .int .i64 i)] a' ∧ (∃ I2, Hf I D w I2 w' [BxC b_s0 46 [v2, .int .u64 s0.last], BxC b1 71 [.int .u64 c.ts, .string c.val, .bool c.del], OwC NEref16_Row 83 v2 s_l]) ∧ F_ref16_Store_lay_k2 s0 c i s_l = some rr) ?_ ?_
  ·rintro a w3 ⟨s_l, v2, Z, ⟨I2, H⟩, hF⟩
   unfold F_ref16_Store_lay_k2 at hF
   try dsimp only at hF
   refine wp_seq ?_
   obtain ⟨css1, hl1, H⟩ := H.rwOpen 2 rfl
   replace H : Hf I D w I2 w3 [RpsC NEref16_Row css1 s_l, OwC (Rraw 2) 83 v2 css1, BxC b_s0 46 [v2, .int .u64 s0.last], BxC b1 71 [.int .u64 c.ts, .string c.val, .bool c.del]] := H
   obtain ⟨_, ⟨u2, rfl, L2⟩, hcs1⟩ := H.rwG 0 rfl (i) (NEref16_Row.dft _ _)
   replace H : Hf I D w I2 w3 [SlC NECell u2 ((s_l.getD (i).toNat default).l), RpsC NEref16_Row css1 s_l, OwC (Rraw 2) 83 v2 css1, BxC b_s0 46 [v2, .int .u64 s0.last], BxC b1 71 [.int .u64 c.ts, .string c.val, .bool c.del]] := H.addsl L2
   obtain ⟨hg3, hF⟩ := chk_in hF
   obtain ⟨hg4, hF⟩ := chk_in hF
   obtain ⟨hg5, hF⟩ := chk_in hF
   refine f_regionG Z (by kernel_rfl) (by kernel_rfl) (by decide) (by decide) [0, 9, 11, 12] [(0, [0, 4]), (0, [0, 1, 4, 5]), (2, [0, 1, 4, 5]), (6, [0, 1, 4, 5]), (14, [0, 1, 4, 5]), (0, [0, 1, 4, 5]), (62, [0, 1, 4, 5]), (126, [0, 1, 4, 5]), (254, [0, 1, 4, 5]), (511, [1, 5]), (0, [0, 1, 3]), (1024, [0, 1, 3]), (4095, [7]), (8191, [15])] (by kernel_rfl) (fun jj => match jj with | 13 => 12 | _ => jj) (by kernel_rfl) (fun jj rv vv => cond (Nat.blt jj 7) (cond (Nat.blt jj 3) (cond (Nat.blt jj 1) (vv = .slice (some ⟨blkOf vv, 0, none⟩) 0 0) (cond (Nat.blt jj 2) (vv = .pointer (some ⟨b_s0, 0, none⟩)) (vv = .pointer (some ⟨b_s0, 0, none⟩)))) (cond (Nat.blt jj 5) (cond (Nat.blt jj 4) (vv = .pointer (some ⟨b_s0, 0, none⟩)) (vv = v2)) (cond (Nat.blt jj 6) (vv = .int .i64 i) (vv = .pointer (some ⟨blkOf v2, oofOf v2 + (i).toNat * 2, none⟩))))) (cond (Nat.blt jj 10) (cond (Nat.blt jj 8) (vv = .pointer (some ⟨blkOf v2, oofOf v2 + (i).toNat * 2 + 1, none⟩)) (cond (Nat.blt jj 9) (vv = u2) (True))) (cond (Nat.blt jj 12) (cond (Nat.blt jj 11) (vv = .agg #[.int .u64 c.ts, .string c.val, .bool c.del]) (vv = .slice (some ⟨blkOf vv, 0, none⟩) 1 1)) (cond (Nat.blt jj 13) (True) (vv = rv))))) (fun ss vals1 xw => match ss with | 0 => Gx I D w I2 w3 xw [SlC NECell u2 ((s_l.getD (i).toNat default).l), RpsC NEref16_Row css1 s_l, OwC (Rraw 2) 83 v2 css1, BxC b_s0 46 [v2, .int .u64 s0.last], BxC b1 71 [.int .u64 c.ts, .string c.val, .bool c.del]] | 1 => Gx I D w I2 w3 xw [BxC (blkOf (vals1 0)) 71 [], SlC NECell u2 ((s_l.getD (i).toNat default).l), RpsC NEref16_Row css1 s_l, OwC (Rraw 2) 83 v2 css1, BxC b_s0 46 [v2, .int .u64 s0.last], BxC b1 71 [.int .u64 c.ts, .string c.val, .bool c.del]] | 3 => Gx I D w I2 w3 xw [OwC NECell 71 (vals1 9) (([] : List ECell) ++ ((s_l.getD (i).toNat default).l)), SlC NECell u2 ((s_l.getD (i).toNat default).l), RpsC NEref16_Row css1 s_l, OwC (Rraw 2) 83 v2 css1, BxC b_s0 46 [v2, .int .u64 s0.last], BxC b1 71 [.int .u64 c.ts, .string c.val, .bool c.del]] | 4 => Gx I D w I2 w3 xw [BxC (blkOf (vals1 11)) 71 [.int .u64 c.ts, .string c.val, .bool c.del], SlC NECell u2 ((s_l.getD (i).toNat default).l), RpsC NEref16_Row css1 s_l, OwC (Rraw 2) 83 v2 css1, BxC b_s0 46 [v2, .int .u64 s0.last], BxC b1 71 [.int .u64 c.ts, .string c.val, .bool c.del]] | 5 => Gx I D w I2 w3 xw [BxC (blkOf (vals1 11)) 71 [.int .u64 c.ts, .string c.val, .bool c.del], BxC (blkOf (vals1 0)) 71 [], SlC NECell u2 ((s_l.getD (i).toNat default).l), RpsC NEref16_Row css1 s_l, OwC (Rraw 2) 83 v2 css1, BxC b_s0 46 [v2, .int .u64 s0.last], BxC b1 71 [.int .u64 c.ts, .string c.val, .bool c.del]] | 7 => Gx I D w I2 w3 xw [BxC (blkOf (vals1 11)) 71 [.int .u64 c.ts, .string c.val, .bool c.del], OwC NECell 71 (vals1 9) (([] : List ECell) ++ ((s_l.getD (i).toNat default).l)), SlC NECell u2 ((s_l.getD (i).toNat default).l), RpsC NEref16_Row css1 s_l, OwC (Rraw 2) 83 v2 css1, BxC b_s0 46 [v2, .int .u64 s0.last], BxC b1 71 [.int .u64 c.ts, .string c.val, .bool c.del]] | _ => Gx I D w I2 w3 xw [OwC NECell 71 (vals1 12) ((([] : List ECell) ++ ((s_l.getD (i).toNat default).l)) ++ [c]), SlC NECell u2 ((s_l.getD (i).toNat default).l), RpsC NEref16_Row css1 s_l, OwC (Rraw 2) 83 v2 css1, BxC b_s0 46 [v2, .int .u64 s0.last], BxC b1 71 [.int .u64 c.ts, .string c.val, .bool c.del]]) (fun _ => Gx.start H) ?_ ?_
   ·intro fr hfr hfe
    refine .cons (fun ss hs vals1 xw hG hV => ?_) ?_
    ·obtain rfl | rfl : ss = 0 ∨ ss = 4 := by simpa using hs
     ·rw [← hfe]
      have hS := (hfr vals1).sub (ts := []) (S' := []) rfl
      obtain ⟨I2, hI2, H⟩ := Gx.ex hG
      exact L_bslice H (vs := []) (cl := []) (e := 71) hS rfl rfl rfl (fun w => run_bslice (z := .agg #[.int .u64 0, .string ByteArray.empty, .bool false]) (m := 3) Try.underlying62 (by kernel_rfl) rfl rfl (by decide) (by simp [Instr.fill, Value.cells]) w) fun yw b hK H => ⟨rfl, Gx.go hG hI2 hK (fun _ h => h) H⟩
     ·rw [← hfe]
      have hS := (hfr vals1).sub (ts := []) (S' := []) rfl
      obtain ⟨I2, hI2, H⟩ := Gx.ex hG
      exact L_bslice H (vs := []) (cl := []) (e := 71) hS rfl rfl rfl (fun w => run_bslice (z := .agg #[.int .u64 0, .string ByteArray.empty, .bool false]) (m := 3) Try.underlying62 (by kernel_rfl) rfl rfl (by decide) (by simp [Instr.fill, Value.cells]) w) fun yw b hK H => ⟨rfl, Gx.go hG hI2 hK (fun _ h => h) (Hf.sub H [(1, false), (0, false), (0, true), (1, true), (2, false), (2, false), (2, false)] rfl)⟩
    refine .cons (fun ss hs vals1 xw hG hV => ?_) ?_
    ·obtain rfl | rfl | rfl | rfl : ss = 0 ∨ ss = 1 ∨ ss = 4 ∨ ss = 5 := by simpa using hs
     all_goals
     ·rw [← hfe]
      have hS := (hfr vals1).sub (ts := [0]) (S' := [(0, .pointer (some ⟨b_s0, 0, none⟩))]) rfl
      exact L_val hS rfl (Ob_c tMv2 rfl) ⟨rfl, hG⟩
    refine .cons (fun ss hs vals1 xw hG hV => ?_) ?_
    ·obtain rfl | rfl | rfl | rfl : ss = 0 ∨ ss = 1 ∨ ss = 4 ∨ ss = 5 := by simpa using hs
     all_goals
     ·rw [← hfe]
      have hS := (hfr vals1).sub (ts := [74]) (S' := [(74, vals1 1)]) rfl
      replace hS := hS.conv (t := 74) rfl (show (vals1 1) = .pointer (some ⟨b_s0, 0, none⟩) from hV 1 (by decide))
      exact L_val hS rfl (Ob_c tMv2 rfl) ⟨rfl, hG⟩
    refine .cons (fun ss hs vals1 xw hG hV => ?_) ?_
    ·obtain rfl | rfl | rfl | rfl : ss = 0 ∨ ss = 1 ∨ ss = 4 ∨ ss = 5 := by simpa using hs
     all_goals
     ·rw [← hfe]
      have hS := (hfr vals1).sub (ts := [75]) (S' := [(75, vals1 2)]) rfl
      replace hS := hS.conv (t := 75) rfl (show (vals1 2) = .pointer (some ⟨b_s0, 0, none⟩) from hV 2 (by decide))
      exact L_val hS rfl (Ob_c tMv2 rfl) ⟨rfl, hG⟩
    refine .cons (fun ss hs vals1 xw hG hV => ?_) ?_
    ·obtain rfl | rfl | rfl | rfl : ss = 0 ∨ ss = 1 ∨ ss = 4 ∨ ss = 5 := by simpa using hs
     ·rw [← hfe]
      have hS := (hfr vals1).sub (ts := [76]) (S' := [(76, vals1 3)]) rfl
      replace hS := hS.conv (t := 76) rfl (show (vals1 3) = .pointer (some ⟨b_s0, 0, none⟩) from hV 3 (by decide))
      obtain ⟨I2, hI2, H⟩ := Gx.ex hG
      exact L_val hS rfl (Ob_load tMv2 rfl rfl rfl ((H.bx 3 rfl).cell 0 rfl)) ⟨rfl, hG⟩
     ·rw [← hfe]
      have hS := (hfr vals1).sub (ts := [76]) (S' := [(76, vals1 3)]) rfl
      replace hS := hS.conv (t := 76) rfl (show (vals1 3) = .pointer (some ⟨b_s0, 0, none⟩) from hV 3 (by decide))
      obtain ⟨I2, hI2, H⟩ := Gx.ex hG
      exact L_val hS rfl (Ob_load tMv2 rfl rfl rfl ((H.bx 4 rfl).cell 0 rfl)) ⟨rfl, hG⟩
     ·rw [← hfe]
      have hS := (hfr vals1).sub (ts := [76]) (S' := [(76, vals1 3)]) rfl
      replace hS := hS.conv (t := 76) rfl (show (vals1 3) = .pointer (some ⟨b_s0, 0, none⟩) from hV 3 (by decide))
      obtain ⟨I2, hI2, H⟩ := Gx.ex hG
      exact L_val hS rfl (Ob_load tMv2 rfl rfl rfl ((H.bx 4 rfl).cell 0 rfl)) ⟨rfl, hG⟩
     ·rw [← hfe]
      have hS := (hfr vals1).sub (ts := [76]) (S' := [(76, vals1 3)]) rfl
      replace hS := hS.conv (t := 76) rfl (show (vals1 3) = .pointer (some ⟨b_s0, 0, none⟩) from hV 3 (by decide))
      obtain ⟨I2, hI2, H⟩ := Gx.ex hG
      exact L_val hS rfl (Ob_load tMv2 rfl rfl rfl ((H.bx 5 rfl).cell 0 rfl)) ⟨rfl, hG⟩
    refine .cons (fun ss hs vals1 xw hG hV => ?_) ?_
    ·obtain rfl | rfl | rfl | rfl : ss = 0 ∨ ss = 1 ∨ ss = 4 ∨ ss = 5 := by simpa using hs
     all_goals
     ·rw [← hfe]
      have hS := (hfr vals1).sub (ts := [6]) (S' := [(6, .int .i64 i)]) rfl
      exact L_val hS rfl (Ob_c tMv2 rfl) ⟨rfl, hG⟩
    refine .cons (fun ss hs vals1 xw hG hV => ?_) ?_
    ·obtain rfl | rfl | rfl | rfl : ss = 0 ∨ ss = 1 ∨ ss = 4 ∨ ss = 5 := by simpa using hs
     ·rw [← hfe]
      have hS := (hfr vals1).sub (ts := [77, 78]) (S' := [(77, vals1 4), (78, vals1 5)]) rfl
      replace hS := hS.conv (t := 77) rfl (show (vals1 4) = v2 from hV 4 (by decide))
      replace hS := hS.conv (t := 78) rfl (show (vals1 5) = .int .i64 i from hV 5 (by decide))
      obtain ⟨I2, hI2, H⟩ := Gx.ex hG
      exact L_val hS rfl (Ob_sidx tMv2 rfl rfl rfl rfl (slPl (H.rwA 2 1 rfl rfl rfl) hg3) hg3) ⟨rfl, hG⟩
     ·rw [← hfe]
      have hS := (hfr vals1).sub (ts := [77, 78]) (S' := [(77, vals1 4), (78, vals1 5)]) rfl
      replace hS := hS.conv (t := 77) rfl (show (vals1 4) = v2 from hV 4 (by decide))
      replace hS := hS.conv (t := 78) rfl (show (vals1 5) = .int .i64 i from hV 5 (by decide))
      obtain ⟨I2, hI2, H⟩ := Gx.ex hG
      exact L_val hS rfl (Ob_sidx tMv2 rfl rfl rfl rfl (slPl (H.rwA 3 2 rfl rfl rfl) hg3) hg3) ⟨rfl, hG⟩
     ·rw [← hfe]
      have hS := (hfr vals1).sub (ts := [77, 78]) (S' := [(77, vals1 4), (78, vals1 5)]) rfl
      replace hS := hS.conv (t := 77) rfl (show (vals1 4) = v2 from hV 4 (by decide))
      replace hS := hS.conv (t := 78) rfl (show (vals1 5) = .int .i64 i from hV 5 (by decide))
      obtain ⟨I2, hI2, H⟩ := Gx.ex hG
      exact L_val hS rfl (Ob_sidx tMv2 rfl rfl rfl rfl (slPl (H.rwA 3 2 rfl rfl rfl) hg3) hg3) ⟨rfl, hG⟩
     ·rw [← hfe]
      have hS := (hfr vals1).sub (ts := [77, 78]) (S' := [(77, vals1 4), (78, vals1 5)]) rfl
      replace hS := hS.conv (t := 77) rfl (show (vals1 4) = v2 from hV 4 (by decide))
      replace hS := hS.conv (t := 78) rfl (show (vals1 5) = .int .i64 i from hV 5 (by decide))
      obtain ⟨I2, hI2, H⟩ := Gx.ex hG
      exact L_val hS rfl (Ob_sidx tMv2 rfl rfl rfl rfl (slPl (H.rwA 4 3 rfl rfl rfl) hg3) hg3) ⟨rfl, hG⟩
    refine .cons (fun ss hs vals1 xw hG hV => ?_) ?_
    ·obtain rfl | rfl | rfl | rfl : ss = 0 ∨ ss = 1 ∨ ss = 4 ∨ ss = 5 := by simpa using hs
     all_goals
     ·rw [← hfe]
      have hS := (hfr vals1).sub (ts := [79]) (S' := [(79, vals1 6)]) rfl
      replace hS := hS.conv (t := 79) rfl (show (vals1 6) = .pointer (some ⟨blkOf v2, oofOf v2 + (i).toNat * 2, none⟩) from hV 6 (by decide))
      exact L_val hS rfl (Ob_c tMv2 rfl) ⟨rfl, hG⟩
    refine .cons (fun ss hs vals1 xw hG hV => ?_) ?_
    ·obtain rfl | rfl | rfl | rfl : ss = 0 ∨ ss = 1 ∨ ss = 4 ∨ ss = 5 := by simpa using hs
     ·rw [← hfe]
      have hS := (hfr vals1).sub (ts := [80]) (S' := [(80, vals1 7)]) rfl
      replace hS := hS.conv (t := 80) rfl (show (vals1 7) = .pointer (some ⟨blkOf v2, oofOf v2 + (i).toNat * 2 + 1, none⟩) from hV 7 (by decide))
      obtain ⟨I2, hI2, H⟩ := Gx.ex hG
      exact L_val hS rfl (Ob_load tMv2 rfl rfl rfl ((H.rwAt 2 rfl hl1 hg3 (hcs1 hg3)) 1 _ rfl)) ⟨rfl, hG⟩
     ·rw [← hfe]
      have hS := (hfr vals1).sub (ts := [80]) (S' := [(80, vals1 7)]) rfl
      replace hS := hS.conv (t := 80) rfl (show (vals1 7) = .pointer (some ⟨blkOf v2, oofOf v2 + (i).toNat * 2 + 1, none⟩) from hV 7 (by decide))
      obtain ⟨I2, hI2, H⟩ := Gx.ex hG
      exact L_val hS rfl (Ob_load tMv2 rfl rfl rfl ((H.rwAt 3 rfl hl1 hg3 (hcs1 hg3)) 1 _ rfl)) ⟨rfl, hG⟩
     ·rw [← hfe]
      have hS := (hfr vals1).sub (ts := [80]) (S' := [(80, vals1 7)]) rfl
      replace hS := hS.conv (t := 80) rfl (show (vals1 7) = .pointer (some ⟨blkOf v2, oofOf v2 + (i).toNat * 2 + 1, none⟩) from hV 7 (by decide))
      obtain ⟨I2, hI2, H⟩ := Gx.ex hG
      exact L_val hS rfl (Ob_load tMv2 rfl rfl rfl ((H.rwAt 3 rfl hl1 hg3 (hcs1 hg3)) 1 _ rfl)) ⟨rfl, hG⟩
     ·rw [← hfe]
      have hS := (hfr vals1).sub (ts := [80]) (S' := [(80, vals1 7)]) rfl
      replace hS := hS.conv (t := 80) rfl (show (vals1 7) = .pointer (some ⟨blkOf v2, oofOf v2 + (i).toNat * 2 + 1, none⟩) from hV 7 (by decide))
      obtain ⟨I2, hI2, H⟩ := Gx.ex hG
      exact L_val hS rfl (Ob_load tMv2 rfl rfl rfl ((H.rwAt 4 rfl hl1 hg3 (hcs1 hg3)) 1 _ rfl)) ⟨rfl, hG⟩
    refine .cons (fun ss hs vals1 xw hG hV => ?_) ?_
    ·obtain rfl | rfl : ss = 1 ∨ ss = 5 := by simpa using hs
     ·rw [← hfe]
      have hS := (hfr vals1).sub (ts := [73, 81]) (S' := [(73, vals1 0), (81, vals1 8)]) rfl
      replace hS := hS.conv (t := 73) rfl (show (vals1 0) = .slice (some ⟨blkOf (vals1 0), 0, none⟩) 0 0 from hV 0 (by decide))
      replace hS := hS.conv (t := 81) rfl (show (vals1 8) = u2 from hV 8 (by decide))
      obtain ⟨I2, hI2, H⟩ := Gx.ex hG
      replace H := H.emptyow 0 rfl NECell
      exact L_appO H 0 E_62_YMv2 ((s_l.getD (i).toNat default).l) rfl rfl hS rfl rfl rfl rfl (H.sl2 1 rfl) hg4 (by decide) fun v yw hK H => ⟨trivial, Gx.go hG hI2 hK (fun _ h => h) H⟩
     ·rw [← hfe]
      have hS := (hfr vals1).sub (ts := [73, 81]) (S' := [(73, vals1 0), (81, vals1 8)]) rfl
      replace hS := hS.conv (t := 73) rfl (show (vals1 0) = .slice (some ⟨blkOf (vals1 0), 0, none⟩) 0 0 from hV 0 (by decide))
      replace hS := hS.conv (t := 81) rfl (show (vals1 8) = u2 from hV 8 (by decide))
      obtain ⟨I2, hI2, H⟩ := Gx.ex hG
      replace H := H.emptyow 1 rfl NECell
      exact L_appO H 0 E_62_YMv2 ((s_l.getD (i).toNat default).l) rfl rfl hS rfl rfl rfl rfl (H.sl2 2 rfl) hg4 (by decide) fun v yw hK H => ⟨trivial, Gx.go hG hI2 hK (fun _ h => h) (Hf.sub H [(1, false), (0, false), (0, true), (1, true), (2, false), (2, false), (2, false)] rfl)⟩
    refine .cons (fun ss hs vals1 xw hG hV => ?_) ?_
    ·obtain rfl | rfl | rfl : ss = 0 ∨ ss = 1 ∨ ss = 3 := by simpa using hs
     ·rw [← hfe]
      have hS := (hfr vals1).sub (ts := [5]) (S' := [(5, .pointer (some ⟨b1, 0, none⟩))]) rfl
      obtain ⟨I2, hI2, H⟩ := Gx.ex hG
      exact L_val hS rfl (Ob_loads tMv2 rfl rfl rfl ((H.bx 4 rfl).part 0 rfl)) ⟨rfl, hG⟩
     ·rw [← hfe]
      have hS := (hfr vals1).sub (ts := [5]) (S' := [(5, .pointer (some ⟨b1, 0, none⟩))]) rfl
      obtain ⟨I2, hI2, H⟩ := Gx.ex hG
      exact L_val hS rfl (Ob_loads tMv2 rfl rfl rfl ((H.bx 5 rfl).part 0 rfl)) ⟨rfl, hG⟩
     ·rw [← hfe]
      have hS := (hfr vals1).sub (ts := [5]) (S' := [(5, .pointer (some ⟨b1, 0, none⟩))]) rfl
      obtain ⟨I2, hI2, H⟩ := Gx.ex hG
      exact L_val hS rfl (Ob_loads tMv2 rfl rfl rfl ((H.bx 5 rfl).part 0 rfl)) ⟨rfl, hG⟩
    refine .cons (fun ss hs vals1 xw hG hV => ?_) ?_
    ·obtain rfl | rfl | rfl : ss = 0 ∨ ss = 1 ∨ ss = 3 := by simpa using hs
     all_goals
     ·rw [← hfe]
      have hS := (hfr vals1).sub (ts := [83]) (S' := [(83, vals1 10)]) rfl
      replace hS := hS.conv (t := 83) rfl (show (vals1 10) = .agg #[.int .u64 c.ts, .string c.val, .bool c.del] from hV 10 (by decide))
      obtain ⟨I2, hI2, H⟩ := Gx.ex hG
      exact L_bslice H (vs := [(0, .agg #[.int .u64 c.ts, .string c.val, .bool c.del])]) (cl := [.int .u64 c.ts, .string c.val, .bool c.del]) (e := 71) hS rfl rfl rfl (fun w => run_bslice (z := .agg #[.int .u64 0, .string ByteArray.empty, .bool false]) (m := 3) Try.underlying62 (by kernel_rfl) rfl rfl (by decide) (by simp [Instr.fill, Value.cells]) w) fun yw b hK H => ⟨rfl, Gx.go hG hI2 hK (fun _ h => h) H⟩
    refine .cons (fun ss hs vals1 xw hG hV => ?_) ?_
    ·obtain rfl : ss = 7 := by simpa using hs
     rw [← hfe]
     have hS := (hfr vals1).sub (ts := [82, 84]) (S' := [(82, vals1 9), (84, vals1 11)]) rfl
     replace hS := hS.conv (t := 84) rfl (show (vals1 11) = .slice (some ⟨blkOf (vals1 11), 0, none⟩) 1 1 from hV 11 (by decide))
     obtain ⟨I2, hI2, H⟩ := Gx.ex hG
     exact L_appO H 1 E_62_YMv2 [c] rfl rfl hS rfl rfl rfl rfl (slRep2.box1 (H.bx 0 rfl) ⟨rfl, trivial⟩) hg5 (by decide) fun v yw hK H => ⟨trivial, Gx.go hG hI2 hK (fun _ h => h) (H.sub [(0, false), (1, true), (2, true), (3, false), (3, false), (3, false)] rfl)⟩
    refine .cons (fun ss hs vals1 xw hG hV => ?_) ?_
    ·obtain rfl : ss = 15 := by simpa using hs
     rw [← hfe]
     have hS := (hfr vals1).sub (ts := [85]) (S' := [(85, vals1 12)]) rfl
     exact L_val hS rfl (Ob_c tMv2 rfl) ⟨rfl, hG⟩
    exact .nil
   ·intro vals1 a w4 Z hG hV
    replace Z := Z.sub (ts := [0, 6, 8]) (S' := [(0, .pointer (some ⟨b_s0, 0, none⟩)), (6, .int .i64 i), (8, vals1 13)]) rfl
    replace Z := Z.conv (t := 8) rfl (show (vals1 13) = (vals1 12) from hV 13 (by decide))
    obtain ⟨I3, _, H⟩ := Gx.ex hG
    clear hG hV
    replace Z := Z.sub (ts := [0, 6, 8]) rfl
    replace H : Hf I D w I3 w4 [OwC NECell 71 (vals1 12) ((([] : List ECell) ++ ((s_l.getD (i).toNat default).l)) ++ [c]), SlC NECell u2 ((s_l.getD (i).toNat default).l), RpsC NEref16_Row css1 s_l, OwC (Rraw 2) 83 v2 css1, BxC b_s0 46 [v2, .int .u64 s0.last], BxC b1 71 [.int .u64 c.ts, .string c.val, .bool c.del]] := H
    replace H : Hf I D w I3 w4 [OwC NEref16_Row 83 v2 s_l, OwC NECell 71 (vals1 12) ((([] : List ECell) ++ ((s_l.getD (i).toNat default).l)) ++ [c]), SlC NECell u2 ((s_l.getD (i).toNat default).l), BxC b_s0 46 [v2, .int .u64 s0.last], BxC b1 71 [.int .u64 c.ts, .string c.val, .bool c.del]] := (H.rwShut 3 2 rfl rfl rfl).erase 3 rfl
    refine p_then ?_
    obtain ⟨hg6, hF⟩ := chk_in hF
    refine f_region Z ?_; clear Z; intro Z
    refine s_runk tMv2 Z 3 rfl rfl ?_; clear Z a; intro a Z
    refine s_ob Z (v := v2) rfl rfl (by decide) rfl (Ob_load tMv2 rfl rfl rfl ((H.bx 3 rfl).cell 0 rfl)) ?_; clear Z a; intro a Z
    refine s_runk tMv2 Z 2 rfl rfl ?_; clear Z a; intro a Z
    refine s_ob Z (v := .pointer (some ⟨blkOf v2, oofOf v2 + (i).toNat * 2, none⟩)) rfl rfl (by decide) rfl (Ob_sidx tMv2 rfl rfl rfl rfl (slPl (H.owA 0 rfl) hg6) hg6) ?_; clear Z a; intro a Z
    refine s_runk tMv2 Z 1 rfl rfl ?_; clear Z a; intro a Z
    obtain ⟨I4, _, H⟩ := H.frzow 1 rfl
    replace H : Hf I D w I4 w4 [SlC NECell (vals1 12) ((([] : List ECell) ++ ((s_l.getD (i).toNat default).l)) ++ [c]), OwC NEref16_Row 83 v2 s_l, SlC NECell u2 ((s_l.getD (i).toNat default).l), BxC b_s0 46 [v2, .int .u64 s0.last], BxC b1 71 [.int .u64 c.ts, .string c.val, .bool c.del]] := H
    refine h_setR tMv2 Z H 1 (z := i) (d := default) 1 ({ (s_l.getD (i).toNat default) with l := (([] : List ECell) ++ ((s_l.getD (i).toNat default).l)) ++ [c] } : Eref16_Row) rfl hg6 rfl rfl rfl 2 rfl rfl (slS.one (H.slshape 0 rfl)) rfl rfl (by decide) (fun cl ⟨s0_, e, h0_⟩ => ⟨(vals1 12), by rw [e]; rfl, (H.sl 0 rfl)⟩) ?_; clear H; intro w6 H
    dsimp only [List.eraseIdx] at H
    refine s_end Z [] rfl ?_; clear Z; intro Z
    replace H : Hf I D w I4 w6 [OEref16_Store b_s0 ({ s0 with l := s_l.set (i).toNat ({ (s_l.getD (i).toNat default) with l := (([] : List ECell) ++ ((s_l.getD (i).toNat default).l)) ++ [c] } : Eref16_Row) } : Eref16_Store), SlC NECell (vals1 12) ((([] : List ECell) ++ ((s_l.getD (i).toNat default).l)) ++ [c]), SlC NECell u2 ((s_l.getD (i).toNat default).l), BxC b1 71 [.int .u64 c.ts, .string c.val, .bool c.del]] := H.shutX (v2) [(3, false), (0, false)] rfl
    obtain rfl := some_in hF
    exact f_fall Z (run_results0 rfl) ⟨rfl, I4, (H.sub [(0, false)] rfl).eq rfl⟩
  ·skip
   refine wp_seq ?_
   obtain ⟨hg7, hF⟩ := chk_in hF
   refine f_region Z ?_; clear Z; intro Z
   refine s_runk tMv2 Z 4 rfl rfl ?_; clear Z a; intro a Z
   refine s_ob Z (v := v1) rfl rfl (by decide) rfl (Ob_load tMv2 rfl rfl rfl ((H.bx 1 rfl).cell 0 rfl)) ?_; clear Z a; intro a Z
   refine s_ob Z (v := .int .i64 (s0.l.length : Int)) rfl rfl (by decide) rfl (Ob_slen tMv2 rfl rfl rfl (H.owshape 2 rfl)) ?_; clear Z a; intro a Z
   refine s_runk tMv2 Z 2 rfl rfl ?_; clear Z a; intro a Z
   refine g_ob Z (p := (!(i == (s0.l.length : Int)))) (v := .pointer (some ⟨b_s0, 0, none⟩)) (S' := [(0, .pointer (some ⟨b_s0, 0, none⟩))]) rfl rfl rfl (wantB_f _) rfl (by decide) (fun hp hS => hS.sub (ts := [0]) rfl) (fun hp => Ob_c tMv2 rfl) ?_; clear Z a; intro a Z
   refine g_ob Z (p := (!(i == (s0.l.length : Int)))) (v := .pointer (some ⟨b_s0, 0, none⟩)) (S' := [(38, .pointer (some ⟨b_s0, 0, none⟩))]) rfl rfl rfl (wantB_f _) rfl (by decide) (fun hp hS => (hS.conv (t := 38) rfl (cond_t hp)).sub (ts := [38]) rfl) (fun hp => Ob_c tMv2 rfl) ?_; clear Z a; intro a Z
   refine g_ob Z (p := (!(i == (s0.l.length : Int)))) (v := .pointer (some ⟨b_s0, 0, none⟩)) (S' := [(39, .pointer (some ⟨b_s0, 0, none⟩))]) rfl rfl rfl (wantB_f _) rfl (by decide) (fun hp hS => (hS.conv (t := 39) rfl (cond_t hp)).sub (ts := [39]) rfl) (fun hp => Ob_c tMv2 rfl) ?_; clear Z a; intro a Z
   refine g_ob Z (p := (!(i == (s0.l.length : Int)))) (v := v1) (S' := [(40, .pointer (some ⟨b_s0, 0, none⟩))]) rfl rfl rfl (wantB_f _) rfl (by decide) (fun hp hS => (hS.conv (t := 40) rfl (cond_t hp)).sub (ts := [40]) rfl) (fun hp => Ob_load tMv2 rfl rfl rfl ((H.bx 1 rfl).cell 0 rfl)) ?_; clear Z a; intro a Z
   refine g_ob Z (p := (!(i == (s0.l.length : Int)))) (v := .int .i64 i) (S' := [(6, .int .i64 i)]) rfl rfl rfl (wantB_f _) rfl (by decide) (fun hp hS => hS.sub (ts := [6]) rfl) (fun hp => Ob_c tMv2 rfl) ?_; clear Z a; intro a Z
   refine g_ob Z (p := (!(i == (s0.l.length : Int)))) (v := .pointer (some ⟨blkOf v1, oofOf v1 + (i).toNat * 2, none⟩)) (S' := [(41, v1), (42, .int .i64 i)]) rfl rfl rfl (wantB_f _) rfl (by decide) (fun hp hS => ((hS.conv (t := 41) rfl (cond_t hp)).conv (t := 42) rfl (cond_t hp)).sub (ts := [41, 42]) rfl) (fun hp => Ob_sidx tMv2 rfl rfl rfl rfl (slPl (H.owA 2 rfl) (hg7 hp)) (hg7 hp)) ?_; clear Z a; intro a Z
   refine g_ob Z (p := (!(i == (s0.l.length : Int)))) (v := .pointer (some ⟨blkOf v1, oofOf v1 + (i).toNat * 2, none⟩)) (S' := [(43, .pointer (some ⟨blkOf v1, oofOf v1 + (i).toNat * 2, none⟩))]) rfl rfl rfl (wantB_f _) rfl (by decide) (fun hp hS => (hS.conv (t := 43) rfl (cond_t hp)).sub (ts := [43]) rfl) (fun hp => Ob_c tMv2 rfl) ?_; clear Z a; intro a Z
   obtain ⟨_, ⟨u3, rfl, L3⟩, hat2⟩ := H.owElG 2 rfl (i) (NEref16_Row.dft _ _)
   replace H : Hf I D w I1 w2 [SlC NECell u3 ((s0.l.getD (i).toNat default).l), SlC NECell u1 ((s0.l.getD (i).toNat default).l), BxC b_s0 46 [v1, .int .u64 s0.last], OwC NEref16_Row 83 v1 s0.l, BxC b1 71 [.int .u64 c.ts, .string c.val, .bool c.del]] := H.addsl L3
   refine g_ob Z (p := (!(i == (s0.l.length : Int)))) (v := .string ((s0.l.getD (i).toNat default).k)) (S' := [(44, .pointer (some ⟨blkOf v1, oofOf v1 + (i).toNat * 2, none⟩))]) rfl rfl rfl (wantB_f _) rfl (by decide) (fun hp hS => (hS.conv (t := 44) rfl (cond_t hp)).sub (ts := [44]) rfl) (fun hp => Ob_load tMv2 rfl rfl rfl ((hat2 (hg7 hp)) 0 _ rfl)) ?_; clear Z a; intro a Z
   refine g_ob Z (p := (!(i == (s0.l.length : Int)))) (v := .string k) (S' := [(1, .string k)]) rfl rfl rfl (wantB_f _) rfl (by decide) (fun hp hS => hS.sub (ts := [1]) rfl) (fun hp => Ob_c tMv2 rfl) ?_; clear Z a; intro a Z
   refine g_ob Z (p := (!(i == (s0.l.length : Int)))) (v := .bool (!seqB ((s0.l.getD (i).toNat default).k) k)) (S' := [(45, .string ((s0.l.getD (i).toNat default).k)), (46, .string k)]) rfl rfl rfl (wantB_f _) rfl (by decide) (fun hp hS => ((hS.conv (t := 45) rfl (cond_t hp)).conv (t := 46) rfl (cond_t hp)).sub (ts := [45, 46]) rfl) (fun hp => Ob_c tMv2 rfl) ?_; clear Z a; intro a Z
   refine s_ob Z (v := .bool ((i == (s0.l.length : Int)) || (!seqB ((s0.l.getD (i).toNat default).k) k))) rfl rfl (by decide) rfl (Ob_pick rfl rfl rfl rfl (pick_or _ _)) ?_; clear Z a; intro a Z
   refine s_end Z [0, 1, 5, 6, 48] rfl ?_; clear Z; intro Z
   refine p_then ?_
   refine f_cond Z rfl (fun hc2 => ?_) (fun hc2 => ?_)
   ·replace hF := ite_t hc2 hF
    refine wp_seq ?_
    obtain ⟨hg8, hF⟩ := chk_in hF
    obtain ⟨hg9, hF⟩ := chk_in hF
    obtain ⟨hg10, hF⟩ := chk_in hF
    refine f_region Z ?_; clear Z; intro Z
    refine h_bslice Z H (vs := []) (cl := []) (e := 83) rfl rfl rfl (by decide) rfl rfl (fun w => run_bslice (z := .agg #[.string ByteArray.empty, .slice none 0 0]) (m := 2) Try.underlying44 (by kernel_rfl) rfl rfl (by decide) (by simp [Instr.fill, Value.cells]) w) ?_; clear Z a H; intro a w7 b2 H Z
    refine s_runk tMv2 Z 3 rfl rfl ?_; clear Z a; intro a Z
    refine s_ob Z (v := v1) rfl rfl (by decide) rfl (Ob_load tMv2 rfl rfl rfl ((H.bx 3 rfl).cell 0 rfl)) ?_; clear Z a; intro a Z
    refine s_runk tMv2 Z 1 rfl rfl ?_; clear Z a; intro a Z
    refine s_ob Z (v := subV v1 0 ((i).toNat) 2) rfl rfl (by decide) rfl (Ob_sub_to tMv2 rfl rfl rfl rfl (H.owshape 4 rfl) hg8) ?_; clear Z a; intro a Z
    replace H : Hf I D w I1 w7 [OwC NEref16_Row 83 (.slice (some ⟨b2, 0, none⟩) 0 0) [], SlC NECell u3 ((s0.l.getD (i).toNat default).l), SlC NECell u1 ((s0.l.getD (i).toNat default).l), BxC b_s0 46 [v1, .int .u64 s0.last], OwC NEref16_Row 83 v1 s0.l, BxC b1 71 [.int .u64 c.ts, .string c.val, .bool c.del]] := H.emptyow 0 rfl NEref16_Row
    refine h_appO Z H 0 E_44_YMv2 (s0.l.take ((i).toNat)) rfl rfl rfl rfl rfl (by decide) rfl rfl rfl ((H.ow2 4 rfl).part_to hg8 2 rfl) hg9 (by decide) ?_; clear Z a H; intro v3 a w8 H Z
    dsimp only [List.eraseIdx] at H
    refine s_runk tMv2 Z 1 rfl rfl ?_; clear Z a; intro a Z
    refine s_ob Z (v := .agg #[.string k, .slice none 0 0]) rfl rfl (by decide) rfl (Ob_build (vs := [(0, .string k)]) rfl rfl (by go_simp <;> rfl)) ?_; clear Z a; intro a Z
    refine h_bslice Z H (vs := [(0, .agg #[.string k, .slice none 0 0])]) (cl := [.string k, .slice none 0 0]) (e := 83) rfl rfl rfl (by decide) rfl rfl (fun w => run_bslice (z := .agg #[.string ByteArray.empty, .slice none 0 0]) (m := 2) Try.underlying44 (by kernel_rfl) rfl rfl (by decide) (by simp [Instr.fill, Value.cells]) w) ?_; clear Z a H; intro a w9 b3 H Z
    replace H : Hf I D w I1 w9 [SlC NECell (.slice none 0 0) ([] : List ECell), BxC b3 83 [.string k, .slice none 0 0], OwC NEref16_Row 83 v3 ([] ++ (s0.l.take ((i).toNat))), SlC NECell u3 ((s0.l.getD (i).toNat default).l), SlC NECell u1 ((s0.l.getD (i).toNat default).l), BxC b_s0 46 [v1, .int .u64 s0.last], OwC NEref16_Row 83 v1 s0.l, BxC b1 71 [.int .u64 c.ts, .string c.val, .bool c.del]] := H.slNil NECell
    refine h_appO Z H 2 E_44_YMv2 [({ k := k, l := ([] : List ECell) } : Eref16_Row)] rfl rfl rfl rfl rfl (by decide) rfl rfl rfl (slRep2.box1 (H.bx 1 rfl) ⟨_, rfl, (H.sl 0 rfl)⟩) hg10 (by decide) ?_; clear Z a H; intro v4 a w10 H Z
    dsimp only [List.eraseIdx] at H
    replace H : Hf I D w I1 w10 [OwC NEref16_Row 83 v4 (([] ++ (s0.l.take ((i).toNat))) ++ [({ k := k, l := ([] : List ECell) } : Eref16_Row)]), SlC NECell (.slice none 0 0) ([] : List ECell), SlC NECell u3 ((s0.l.getD (i).toNat default).l), SlC NECell u1 ((s0.l.getD (i).toNat default).l), BxC b_s0 46 [v1, .int .u64 s0.last], OwC NEref16_Row 83 v1 s0.l, BxC b1 71 [.int .u64 c.ts, .string c.val, .bool c.del]] := H.sub [(0, false), (0, true), (2, true), (3, true), (4, false), (4, false), (4, false)] rfl
    refine s_runk tMv2 Z 1 rfl rfl ?_; clear Z a; intro a Z
    refine s_end Z [0, 5, 6, 7] rfl ?_; clear Z; intro Z
    refine p_then (wp_seq ?_)
    obtain ⟨hg11, hF⟩ := chk_in hF
    obtain ⟨hg12, hF⟩ := chk_in hF
    refine f_region Z ?_; clear Z; intro Z
    refine s_runk tMv2 Z 4 rfl rfl ?_; clear Z a; intro a Z
    refine s_ob Z (v := v1) rfl rfl (by decide) rfl (Ob_load tMv2 rfl rfl rfl ((H.bx 4 rfl).cell 0 rfl)) ?_; clear Z a; intro a Z
    refine s_runk tMv2 Z 1 rfl rfl ?_; clear Z a; intro a Z
    refine s_ob Z (v := subV v1 ((i).toNat) s0.l.length 2) rfl rfl (by decide) rfl (Ob_sub_from tMv2 rfl rfl rfl rfl (H.owshape 5 rfl) hg11) ?_; clear Z a; intro a Z
    refine h_appO Z H 0 E_44_YMv2 (s0.l.drop ((i).toNat)) rfl rfl rfl rfl rfl (by decide) rfl rfl rfl ((H.ow2 5 rfl).part_from hg11 2 rfl) hg12 (by decide) ?_; clear Z a H; intro v5 a w11 H Z
    dsimp only [List.eraseIdx] at H
    refine s_runk tMv2 Z 1 rfl rfl ?_; clear Z a; intro a Z
    refine s_end Z [0, 5, 6, 7] rfl ?_; clear Z; intro Z
    refine p_then ?_
    refine f_region Z ?_; clear Z; intro Z
    refine s_runk tMv2 Z 4 rfl rfl ?_; clear Z a; intro a Z
    refine h_store tMv2 Z H 4 rfl rfl rfl rfl rfl rfl (slS.cells (H.owshape 0 rfl)) rfl rfl (one_cons (slS.one (H.owshape 0 rfl)) one_nil) (Nat.le_of_ble_eq_true rfl) rfl ?_; clear H; intro w12 H
    dsimp only [List.eraseIdx] at H
    refine s_end Z [0, 5, 6] rfl ?_; clear Z; intro Z
    refine p_then ?_
    exact ⟨(([] ++ (s0.l.take ((i).toNat))) ++ [({ k := k, l := ([] : List ECell) } : Eref16_Row)]) ++ (s0.l.drop ((i).toNat)), v5, Z.sub (ts := [0, 5, 6]) rfl, ⟨I1, (H.sub [(0, false), (5, false), (0, false)] rfl).eq rfl⟩, hF⟩
   ·replace hF := ite_f hc2 hF
    refine wp_skip ?_
    refine p_then ?_
    exact ⟨s0.l, v1, Z.sub (ts := [0, 5, 6]) rfl, ⟨I1, (H.sub [(2, false), (3, false), (2, false)] rfl).eq rfl⟩, hF⟩

def F_ref05_Check (k : ByteArray) : Option Int := if ((decide ((k.size : Int) < 1)) || (decide ((k.size : Int) > 8))) = true then (some 10) else (some 0)

set_option maxHeartbeats 1000000 in
theorem c_ref05_Check {I D : Dm} {k : ByteArray} {w : World} {rr : Int} (hF : F_ref05_Check k = some rr) (H : St I D w []) :
  Calls Try.prog 47 #[.string k] w (Ret fun vv w' => vv = .int .i64 rr ∧ ∃ I', Hf I D w I' w' []) := by
 replace H := H.hf
 unfold F_ref05_Check at hF
 refine f_enter 11 Try.func47 rfl rfl (Nat.le_of_ble_eq_true rfl) fun a Z => ?_
 replace Z := Z.sub (ts := [0]) rfl
 refine wp_seq (f_region Z ?_); clear Z; intro Z
 refine s_runk tMv2 Z 1 rfl rfl ?_; clear Z a; intro a Z
 refine s_end Z [0, 2] rfl ?_; clear Z; intro Z
 refine p_then (wp_seq ?_)
 refine wp_seq (f_region Z ?_); clear Z; intro Z
 refine s_runk tMv2 Z 4 rfl rfl ?_; clear Z a; intro a Z
 refine g_ob Z (p := (!(decide ((k.size : Int) < 1)))) (v := .string k) (S' := [(0, .string k)]) rfl rfl rfl (wantB_f _) rfl (by decide) (fun hp hS => hS.sub (ts := [0]) rfl) (fun hp => Ob_c tMv2 rfl) ?_; clear Z a; intro a Z
 refine g_ob Z (p := (!(decide ((k.size : Int) < 1)))) (v := .int .i64 (k.size : Int)) (S' := [(7, .string k)]) rfl rfl rfl (wantB_f _) rfl (by decide) (fun hp hS => (hS.conv (t := 7) rfl (cond_t hp)).sub (ts := [7]) rfl) (fun hp => Ob_c tMv2 rfl) ?_; clear Z a; intro a Z
 refine g_ob Z (p := (!(decide ((k.size : Int) < 1)))) (v := .bool (decide ((k.size : Int) > 8))) (S' := [(8, .int .i64 (k.size : Int))]) rfl rfl rfl (wantB_f _) rfl (by decide) (fun hp hS => (hS.conv (t := 8) rfl (cond_t hp)).sub (ts := [8]) rfl) (fun hp => Ob_c tMv2 rfl) ?_; clear Z a; intro a Z
 refine s_ob Z (v := .bool ((decide ((k.size : Int) < 1)) || (decide ((k.size : Int) > 8)))) rfl rfl (by decide) rfl (Ob_pick rfl rfl rfl rfl (pick_or _ _)) ?_; clear Z a; intro a Z
 refine s_end Z [2, 10] rfl ?_; clear Z; intro Z
 refine p_then ?_
 refine f_cond Z rfl (fun hc1 => ?_) (fun hc1 => ?_)
 ·replace hF := ite_t hc1 hF
  refine wp_seq (f_region Z ?_); clear Z; intro Z
  refine s_runk tMv2 Z 1 rfl rfl ?_; clear Z a; intro a Z
  refine s_end Z [2] rfl ?_; clear Z; intro Z
  refine p_then (wp_ret ?_)
  refine p_then_r ?_
  obtain rfl := some_in hF
  exact f_ret Z (run_results1 rfl Z rfl) ⟨rfl, I, (H.sub [] rfl).eq rfl⟩
 ·replace hF := ite_f hc1 hF
  refine wp_skip ?_
  refine p_then (wp_seq (f_region Z ?_)); clear Z; intro Z
  refine s_runk tMv2 Z 1 rfl rfl ?_; clear Z a; intro a Z
  refine s_end Z [2] rfl ?_; clear Z; intro Z
  refine p_then (wp_ret ?_)
  obtain rfl := some_in hF
  exact f_ret Z (run_results1 rfl Z rfl) ⟨rfl, I, (H.sub [] rfl).eq rfl⟩

def F_ref06_Check_l1 (b : EBatch) (rc : Int → Option Int) (sg : Int) : Option Int := match sg with | i => if (decide (i < (b.ops.length : Int))) = true then (chk ((0 : Int) ≤ i ∧ i < (b.ops.length : Int)) ((F_ref05_Check ((b.ops.getD (i).toNat default).key)).bind fun c => (if (c != 0) = true then (some 10) else (if (decide ((((b.ops.getD (i).toNat default).val).size : Int) > 8)) = true then (some 3) else (if (((b.ops.getD (i).toNat default).del) && (!seqB ((b.ops.getD (i).toNat default).val) ⟨#[]⟩)) = true then (some 4) else (chk ((decide (i > 0)) = true → inI (i - 1)) (chk ((decide (i > 0)) = true → (0 : Int) ≤ i - 1 ∧ i - 1 < (b.ops.length : Int)) (if ((decide (i > 0)) && (!sltB ((b.ops.getD (i - 1).toNat default).key) ((b.ops.getD (i).toNat default).key))) = true then (some 18) else (chk (inI (i + 1)) (rc (i + 1))))))))))) else (some 0)

def F_ref06_Check (b : EBatch) : Option Int := if ((decide (b.client < 0)) || (decide (b.client ≥ 3))) = true then (some 1) else (if ((decide (b.req < 1)) || (decide (b.req > 1073741824))) = true then (some 5) else (if (decide ((b.ops.length : Int) > 4)) = true then (some 6) else (iter (F_ref06_Check_l1 b) FU 0)))

set_option maxHeartbeats 1000000 in
theorem c_ref06_Check {I D : Dm} {b : EBatch} {v1_b : Value} {w : World} {rr : Int} (hF : F_ref06_Check b = some rr) (H : St I D w [SlC NEOp v1_b b.ops]) :
  Calls Try.prog 33 #[.agg #[.int .i64 b.client, .int .i64 b.req, v1_b]] w (Ret fun vv w' => vv = .int .i64 rr ∧ ∃ I', Hf I D w I' w' []) := by
 replace H := H.hf
 unfold F_ref06_Check at hF
 refine f_enter 66 Try.func33 rfl rfl (Nat.le_of_ble_eq_true rfl) fun a Z => ?_
 replace Z := Z.sub (ts := [0]) rfl
 refine wp_seq (f_region Z ?_); clear Z; intro Z
 refine h_boxv Z H (cl := [.int .i64 b.client, .int .i64 b.req, v1_b]) rfl rfl rfl (by decide) rfl rfl rfl ?_; clear Z a H; intro a w1 b1 H Z
 refine s_runk tMv2 Z 1 rfl rfl ?_; clear Z a; intro a Z
 refine s_end Z [1, 2] rfl ?_; clear Z; intro Z
 refine p_then (wp_seq ?_)
 refine wp_seq (f_region Z ?_); clear Z; intro Z
 refine s_runk tMv2 Z 1 rfl rfl ?_; clear Z a; intro a Z
 refine s_ob Z (v := .int .i64 b.client) rfl rfl (by decide) rfl (Ob_load tMv2 rfl rfl rfl ((H.bx 0 rfl).cell 0 rfl)) ?_; clear Z a; intro a Z
 refine s_runk tMv2 Z 2 rfl rfl ?_; clear Z a; intro a Z
 refine g_ob Z (p := (!(decide (b.client < 0)))) (v := .pointer (some ⟨b1, 0, none⟩)) (S' := [(1, .pointer (some ⟨b1, 0, none⟩))]) rfl rfl rfl (wantB_f _) rfl (by decide) (fun hp hS => hS.sub (ts := [1]) rfl) (fun hp => Ob_c tMv2 rfl) ?_; clear Z a; intro a Z
 refine g_ob Z (p := (!(decide (b.client < 0)))) (v := .int .i64 b.client) (S' := [(9, .pointer (some ⟨b1, 0, none⟩))]) rfl rfl rfl (wantB_f _) rfl (by decide) (fun hp hS => (hS.conv (t := 9) rfl (cond_t hp)).sub (ts := [9]) rfl) (fun hp => Ob_load tMv2 rfl rfl rfl ((H.bx 0 rfl).cell 0 rfl)) ?_; clear Z a; intro a Z
 refine g_ob Z (p := (!(decide (b.client < 0)))) (v := .bool (decide (b.client ≥ 3))) (S' := [(10, .int .i64 b.client)]) rfl rfl rfl (wantB_f _) rfl (by decide) (fun hp hS => (hS.conv (t := 10) rfl (cond_t hp)).sub (ts := [10]) rfl) (fun hp => Ob_c tMv2 rfl) ?_; clear Z a; intro a Z
 refine s_ob Z (v := .bool ((decide (b.client < 0)) || (decide (b.client ≥ 3)))) rfl rfl (by decide) rfl (Ob_pick rfl rfl rfl rfl (pick_or _ _)) ?_; clear Z a; intro a Z
 refine s_end Z [1, 2, 12] rfl ?_; clear Z; intro Z
 refine p_then ?_
 refine f_cond Z rfl (fun hc1 => ?_) (fun hc1 => ?_)
 ·replace hF := ite_t hc1 hF
  refine wp_seq (f_region Z ?_); clear Z; intro Z
  refine s_runk tMv2 Z 1 rfl rfl ?_; clear Z a; intro a Z
  refine s_end Z [1, 2] rfl ?_; clear Z; intro Z
  refine p_then (wp_ret ?_)
  refine p_then_r ?_
  obtain rfl := some_in hF
  exact f_ret Z (run_results1 rfl Z rfl) ⟨rfl, I, (H.sub [] rfl).eq rfl⟩
 ·replace hF := ite_f hc1 hF
  refine wp_skip ?_
  refine p_then (wp_seq ?_)
  refine wp_seq (f_region Z ?_); clear Z; intro Z
  refine s_runk tMv2 Z 1 rfl rfl ?_; clear Z a; intro a Z
  refine s_ob Z (v := .int .i64 b.req) rfl rfl (by decide) rfl (Ob_load tMv2 rfl rfl rfl ((H.bx 0 rfl).cell 1 rfl)) ?_; clear Z a; intro a Z
  refine s_runk tMv2 Z 2 rfl rfl ?_; clear Z a; intro a Z
  refine g_ob Z (p := (!(decide (b.req < 1)))) (v := .pointer (some ⟨b1, 1, none⟩)) (S' := [(1, .pointer (some ⟨b1, 0, none⟩))]) rfl rfl rfl (wantB_f _) rfl (by decide) (fun hp hS => hS.sub (ts := [1]) rfl) (fun hp => Ob_c tMv2 rfl) ?_; clear Z a; intro a Z
  refine g_ob Z (p := (!(decide (b.req < 1)))) (v := .int .i64 b.req) (S' := [(17, .pointer (some ⟨b1, 1, none⟩))]) rfl rfl rfl (wantB_f _) rfl (by decide) (fun hp hS => (hS.conv (t := 17) rfl (cond_t hp)).sub (ts := [17]) rfl) (fun hp => Ob_load tMv2 rfl rfl rfl ((H.bx 0 rfl).cell 1 rfl)) ?_; clear Z a; intro a Z
  refine g_ob Z (p := (!(decide (b.req < 1)))) (v := .bool (decide (b.req > 1073741824))) (S' := [(18, .int .i64 b.req)]) rfl rfl rfl (wantB_f _) rfl (by decide) (fun hp hS => (hS.conv (t := 18) rfl (cond_t hp)).sub (ts := [18]) rfl) (fun hp => Ob_c tMv2 rfl) ?_; clear Z a; intro a Z
  refine s_ob Z (v := .bool ((decide (b.req < 1)) || (decide (b.req > 1073741824)))) rfl rfl (by decide) rfl (Ob_pick rfl rfl rfl rfl (pick_or _ _)) ?_; clear Z a; intro a Z
  refine s_end Z [1, 2, 20] rfl ?_; clear Z; intro Z
  refine p_then ?_
  refine f_cond Z rfl (fun hc2 => ?_) (fun hc2 => ?_)
  ·replace hF := ite_t hc2 hF
   refine wp_seq (f_region Z ?_); clear Z; intro Z
   refine s_runk tMv2 Z 1 rfl rfl ?_; clear Z a; intro a Z
   refine s_end Z [1, 2] rfl ?_; clear Z; intro Z
   refine p_then (wp_ret ?_)
   refine p_then_r ?_
   obtain rfl := some_in hF
   exact f_ret Z (run_results1 rfl Z rfl) ⟨rfl, I, (H.sub [] rfl).eq rfl⟩
  ·replace hF := ite_f hc2 hF
   refine wp_skip ?_
   refine p_then (wp_seq ?_)
   refine wp_seq (f_region Z ?_); clear Z; intro Z
   refine s_runk tMv2 Z 1 rfl rfl ?_; clear Z a; intro a Z
   refine s_ob Z (v := v1_b) rfl rfl (by decide) rfl (Ob_load tMv2 rfl rfl rfl ((H.bx 0 rfl).cell 2 rfl)) ?_; clear Z a; intro a Z
   refine s_ob Z (v := .int .i64 (b.ops.length : Int)) rfl rfl (by decide) rfl (Ob_slen tMv2 rfl rfl rfl (H.slshape 1 rfl)) ?_; clear Z a; intro a Z
   refine s_runk tMv2 Z 1 rfl rfl ?_; clear Z a; intro a Z
   refine s_end Z [1, 2, 24] rfl ?_; clear Z; intro Z
   refine p_then ?_
   refine f_cond Z rfl (fun hc3 => ?_) (fun hc3 => ?_)
   ·replace hF := ite_t hc3 hF
    refine wp_seq (f_region Z ?_); clear Z; intro Z
    refine s_runk tMv2 Z 1 rfl rfl ?_; clear Z a; intro a Z
    refine s_end Z [1, 2] rfl ?_; clear Z; intro Z
    refine p_then (wp_ret ?_)
    refine p_then_r ?_
    obtain rfl := some_in hF
    exact f_ret Z (run_results1 rfl Z rfl) ⟨rfl, I, (H.sub [] rfl).eq rfl⟩
   ·replace hF := ite_f hc3 hF
    refine wp_skip ?_
    refine p_then (wp_seq ?_)
    refine wp_seq (f_region Z ?_); clear Z; intro Z
    refine s_runk tMv2 Z 1 rfl rfl ?_; clear Z a; intro a Z
    refine s_end Z [1, 2, 3] rfl ?_; clear Z; intro Z
    refine p_then (wp_block ?_)
    refine f_iter hF (fun sg a' w' => match sg with | i => Sl 66 [(1, .pointer (some ⟨b1, 0, none⟩)), (2, .int .i64 0), (3, .int .i64 i)] a' ∧ ∃ I2, Hf I D w I2 w' [BxC b1 65 [.int .i64 b.client, .int .i64 b.req, v1_b], SlC NEOp v1_b b.ops]) ⟨Z.sub (ts := [1, 2, 3]) rfl, ⟨I, (H.sub [(0, false), (0, true)] rfl).eq rfl⟩⟩ ?_
    clear Z H hF a
    rintro rc i a w2 ⟨Z, I1, H⟩ hF
    unfold F_ref06_Check_l1 at hF
    try dsimp only at hF
    refine wp_seq ?_
    refine wp_seq (f_region Z ?_); clear Z; intro Z
    refine s_runk tMv2 Z 2 rfl rfl ?_; clear Z a; intro a Z
    refine s_ob Z (v := v1_b) rfl rfl (by decide) rfl (Ob_load tMv2 rfl rfl rfl ((H.bx 0 rfl).cell 2 rfl)) ?_; clear Z a; intro a Z
    refine s_ob Z (v := .int .i64 (b.ops.length : Int)) rfl rfl (by decide) rfl (Ob_slen tMv2 rfl rfl rfl (H.slshape 1 rfl)) ?_; clear Z a; intro a Z
    refine s_runk tMv2 Z 1 rfl rfl ?_; clear Z a; intro a Z
    refine s_end Z [1, 2, 3, 25, 26, 27, 28, 29] rfl ?_; clear Z; intro Z
    refine p_then ?_
    refine f_cond Z rfl (fun hc4 => ?_) (fun hc4 => ?_)
    ·replace hF := ite_t hc4 hF
     refine wp_skip ?_
     refine p_then (wp_seq ?_)
     refine wp_block ?_
     refine wp_seq ?_
     obtain ⟨hg1, hF⟩ := chk_in hF
     refine f_region Z ?_; clear Z; intro Z
     refine s_runk tMv2 Z 1 rfl rfl ?_; clear Z a; intro a Z
     refine s_ob Z (v := v1_b) rfl rfl (by decide) rfl (Ob_load tMv2 rfl rfl rfl ((H.bx 0 rfl).cell 2 rfl)) ?_; clear Z a; intro a Z
     refine s_runk tMv2 Z 1 rfl rfl ?_; clear Z a; intro a Z
     refine s_ob Z (v := .pointer (some ⟨blkOf v1_b, oofOf v1_b + (i).toNat * 3, none⟩)) rfl rfl (by decide) rfl (Ob_sidx tMv2 rfl rfl rfl rfl (slPl (H.sl 1 rfl) hg1) hg1) ?_; clear Z a; intro a Z
     refine s_ob Z (v := .agg #[.string ((b.ops.getD (i).toNat default).key), .string ((b.ops.getD (i).toNat default).val), .bool ((b.ops.getD (i).toNat default).del)]) rfl rfl (by decide) rfl (Ob_loads tMv2 rfl rfl rfl ((slFl (H.sl 1 rfl) hg1).part 0 rfl)) ?_; clear Z a; intro a Z
     refine h_alloc Z H (cl := [.string ByteArray.empty, .string ByteArray.empty, .bool false]) (z := .agg #[.string ByteArray.empty, .string ByteArray.empty, .bool false]) rfl rfl rfl (by decide) rfl (by kernel_rfl) rfl ?_; clear Z a H; intro a w3 b2 H Z
     refine h_store tMv2 Z H 0 rfl rfl rfl rfl rfl rfl rfl rfl rfl (one_cons rfl (one_cons rfl (one_cons rfl one_nil))) (Nat.le_of_ble_eq_true rfl) rfl ?_; clear H; intro w4 H
     dsimp only [List.eraseIdx] at H
     refine s_end Z [1, 2, 3, 25, 26, 27, 28, 29, 32, 33, 34, 35, 36, 4] rfl ?_; clear Z; intro Z
     refine p_then (wp_seq ?_)
     refine wp_seq ?_
     obtain ⟨c, hx1, hF⟩ := bnd_in hF
     refine f_region Z ?_; clear Z; intro Z
     refine s_runk tMv2 Z 1 rfl rfl ?_; clear Z a; intro a Z
     refine s_ob Z (v := .string ((b.ops.getD (i).toNat default).key)) rfl rfl (by decide) rfl (Ob_load tMv2 rfl rfl rfl ((H.bx 0 rfl).cell 0 rfl)) ?_; clear Z a; intro a Z
     refine h_call Z H (js := []) rfl (caps := #[]) fn_47_YMv2 rfl rfl rfl rfl rfl (by decide) rfl rfl (fun D1 hS => have hq := c_ref05_Check hx1 hS; hq) ?_; clear Z a; intro vv a w5 D2 hr hF2 Z
     obtain ⟨rfl, I2, K⟩ := hr
     have H : Hf I D w I2 w5 [BxC b2 60 [.string ((b.ops.getD (i).toNat default).key), .string ((b.ops.getD (i).toNat default).val), .bool ((b.ops.getD (i).toNat default).del)], BxC b1 65 [.int .i64 b.client, .int .i64 b.req, v1_b], SlC NEOp v1_b b.ops] := hF2 K
     clear hF2 K
     refine s_runk tMv2 Z 1 rfl rfl ?_; clear Z a; intro a Z
     refine s_end Z [1, 2, 3, 25, 26, 27, 28, 29, 32, 33, 34, 35, 36, 4, 37, 38, 39, 40] rfl ?_; clear Z; intro Z
     refine p_then ?_
     refine f_cond Z rfl (fun hc5 => ?_) (fun hc5 => ?_)
     ·replace hF := ite_t hc5 hF
      refine wp_seq (f_region Z ?_); clear Z; intro Z
      refine s_runk tMv2 Z 1 rfl rfl ?_; clear Z a; intro a Z
      refine s_end Z [1, 2, 3, 25, 26, 27, 28, 29, 32, 33, 34, 35, 36, 4, 37, 38, 39, 40] rfl ?_; clear Z; intro Z
      refine p_then (wp_ret ?_)
      refine p_then_r ?_
      refine p_blk_r ?_
      refine p_then_r ?_
      refine p_then_r ?_
      refine p_blk_r ?_
      refine p_then_r ?_
      obtain rfl := some_in hF
      exact f_ret Z (run_results1 rfl Z rfl) ⟨rfl, I2, (H.sub [] rfl).eq rfl⟩
     ·replace hF := ite_f hc5 hF
      refine wp_skip ?_
      refine p_then (wp_seq ?_)
      refine wp_seq (f_region Z ?_); clear Z; intro Z
      refine s_runk tMv2 Z 1 rfl rfl ?_; clear Z a; intro a Z
      refine s_ob Z (v := .string ((b.ops.getD (i).toNat default).val)) rfl rfl (by decide) rfl (Ob_load tMv2 rfl rfl rfl ((H.bx 0 rfl).cell 1 rfl)) ?_; clear Z a; intro a Z
      refine s_runk tMv2 Z 2 rfl rfl ?_; clear Z a; intro a Z
      refine s_end Z [1, 2, 3, 25, 26, 27, 28, 29, 32, 33, 34, 35, 36, 4, 37, 38, 39, 40, 41, 42, 43, 44] rfl ?_; clear Z; intro Z
      refine p_then ?_
      refine f_cond Z rfl (fun hc6 => ?_) (fun hc6 => ?_)
      ·replace hF := ite_t hc6 hF
       refine wp_seq (f_region Z ?_); clear Z; intro Z
       refine s_runk tMv2 Z 1 rfl rfl ?_; clear Z a; intro a Z
       refine s_end Z [1, 2, 3, 25, 26, 27, 28, 29, 32, 33, 34, 35, 36, 4, 37, 38, 39, 40, 41, 42, 43, 44] rfl ?_; clear Z; intro Z
       refine p_then (wp_ret ?_)
       refine p_then_r ?_
       refine p_blk_r ?_
       refine p_then_r ?_
       refine p_then_r ?_
       refine p_blk_r ?_
       refine p_then_r ?_
       obtain rfl := some_in hF
       exact f_ret Z (run_results1 rfl Z rfl) ⟨rfl, I2, (H.sub [] rfl).eq rfl⟩
      ·replace hF := ite_f hc6 hF
       refine wp_skip ?_
       refine p_then (wp_seq ?_)
       refine wp_seq (f_region Z ?_); clear Z; intro Z
       refine s_runk tMv2 Z 1 rfl rfl ?_; clear Z a; intro a Z
       refine s_ob Z (v := .bool ((b.ops.getD (i).toNat default).del)) rfl rfl (by decide) rfl (Ob_load tMv2 rfl rfl rfl ((H.bx 0 rfl).cell 2 rfl)) ?_; clear Z a; intro a Z
       refine s_runk tMv2 Z 1 rfl rfl ?_; clear Z a; intro a Z
       refine g_ob Z (p := ((b.ops.getD (i).toNat default).del)) (v := .pointer (some ⟨b2, 1, none⟩)) (S' := [(4, .pointer (some ⟨b2, 0, none⟩))]) rfl rfl rfl (wantB_t _) rfl (by decide) (fun hp hS => hS.sub (ts := [4]) rfl) (fun hp => Ob_c tMv2 rfl) ?_; clear Z a; intro a Z
       refine g_ob Z (p := ((b.ops.getD (i).toNat default).del)) (v := .string ((b.ops.getD (i).toNat default).val)) (S' := [(48, .pointer (some ⟨b2, 1, none⟩))]) rfl rfl rfl (wantB_t _) rfl (by decide) (fun hp hS => (hS.conv (t := 48) rfl (cond_t hp)).sub (ts := [48]) rfl) (fun hp => Ob_load tMv2 rfl rfl rfl ((H.bx 0 rfl).cell 1 rfl)) ?_; clear Z a; intro a Z
       refine g_ob Z (p := ((b.ops.getD (i).toNat default).del)) (v := .bool (!seqB ((b.ops.getD (i).toNat default).val) ⟨#[]⟩)) (S' := [(49, .string ((b.ops.getD (i).toNat default).val))]) rfl rfl rfl (wantB_t _) rfl (by decide) (fun hp hS => (hS.conv (t := 49) rfl (cond_t hp)).sub (ts := [49]) rfl) (fun hp => Ob_c tMv2 rfl) ?_; clear Z a; intro a Z
       refine s_ob Z (v := .bool (((b.ops.getD (i).toNat default).del) && (!seqB ((b.ops.getD (i).toNat default).val) ⟨#[]⟩))) rfl rfl (by decide) rfl (Ob_pick rfl rfl rfl rfl (pick_and _ _)) ?_; clear Z a; intro a Z
       refine s_end Z [1, 2, 3, 25, 26, 27, 28, 29, 32, 33, 34, 35, 36, 4, 37, 38, 39, 40, 41, 42, 43, 44, 45, 46, 47, 51] rfl ?_; clear Z; intro Z
       refine p_then ?_
       refine f_cond Z rfl (fun hc7 => ?_) (fun hc7 => ?_)
       ·replace hF := ite_t hc7 hF
        refine wp_seq (f_region Z ?_); clear Z; intro Z
        refine s_runk tMv2 Z 1 rfl rfl ?_; clear Z a; intro a Z
        refine s_end Z [1, 2, 3, 25, 26, 27, 28, 29, 32, 33, 34, 35, 36, 4, 37, 38, 39, 40, 41, 42, 43, 44, 45, 46, 47, 51] rfl ?_; clear Z; intro Z
        refine p_then (wp_ret ?_)
        refine p_then_r ?_
        refine p_blk_r ?_
        refine p_then_r ?_
        refine p_then_r ?_
        refine p_blk_r ?_
        refine p_then_r ?_
        obtain rfl := some_in hF
        exact f_ret Z (run_results1 rfl Z rfl) ⟨rfl, I2, (H.sub [] rfl).eq rfl⟩
       ·replace hF := ite_f hc7 hF
        refine wp_skip ?_
        refine p_then (wp_seq ?_)
        obtain ⟨hg2, hF⟩ := chk_in hF
        obtain ⟨hg3, hF⟩ := chk_in hF
        refine f_quietd (by kernel_rfl) (by kernel_rfl) Z ?_; clear Z; intro Z
        refine q_runk tMv2 Z 3 rfl rfl ?_; clear Z a; intro a Z
        refine gq_ob Z (p := (decide (i > 0))) (v := .pointer (some ⟨b1, 2, none⟩)) (S' := [(1, .pointer (some ⟨b1, 0, none⟩))]) rfl rfl rfl (wantB_t _) rfl (by decide) (fun hp hS => hS.sub (ts := [1]) rfl) (fun hp _ hw => Ob_c tMv2 rfl) ?_; clear Z a; intro a Z
        refine gq_ob Z (p := (decide (i > 0))) (v := v1_b) (S' := [(55, .pointer (some ⟨b1, 2, none⟩))]) rfl rfl rfl (wantB_t _) rfl (by decide) (fun hp hS => (hS.conv (t := 55) rfl (cond_t hp)).sub (ts := [55]) rfl) (fun hp _ hw => Ob_load tMv2 rfl rfl rfl (((H.blw hw).bx 1 rfl).cell 2 rfl)) ?_; clear Z a; intro a Z
        refine gq_ob Z (p := (decide (i > 0))) (v := .int .i64 i) (S' := [(3, .int .i64 i)]) rfl rfl rfl (wantB_t _) rfl (by decide) (fun hp hS => hS.sub (ts := [3]) rfl) (fun hp _ hw => Ob_c tMv2 rfl) ?_; clear Z a; intro a Z
        refine gq_ob Z (p := (decide (i > 0))) (v := .int .i64 (i - 1)) (S' := [(57, .int .i64 i)]) rfl rfl rfl (wantB_t _) rfl (by decide) (fun hp hS => (hS.conv (t := 57) rfl (cond_t hp)).sub (ts := [57]) rfl) (fun hp _ hw => Ob_sub rfl rfl rfl (wrI (hg2 hp))) ?_; clear Z a; intro a Z
        refine gq_ob Z (p := (decide (i > 0))) (v := .pointer (some ⟨blkOf v1_b, oofOf v1_b + (i - 1).toNat * 3, none⟩)) (S' := [(56, v1_b), (58, .int .i64 (i - 1))]) rfl rfl rfl (wantB_t _) rfl (by decide) (fun hp hS => ((hS.conv (t := 56) rfl (cond_t hp)).conv (t := 58) rfl (cond_t hp)).sub (ts := [56, 58]) rfl) (fun hp _ hw => Ob_sidx tMv2 rfl rfl rfl rfl (slPl ((H.blw hw).sl 2 rfl) (hg3 hp)) (hg3 hp)) ?_; clear Z a; intro a Z
        refine gq_ob Z (p := (decide (i > 0))) (v := .pointer (some ⟨blkOf v1_b, oofOf v1_b + (i - 1).toNat * 3, none⟩)) (S' := [(59, .pointer (some ⟨blkOf v1_b, oofOf v1_b + (i - 1).toNat * 3, none⟩))]) rfl rfl rfl (wantB_t _) rfl (by decide) (fun hp hS => (hS.conv (t := 59) rfl (cond_t hp)).sub (ts := [59]) rfl) (fun hp _ hw => Ob_c tMv2 rfl) ?_; clear Z a; intro a Z
        refine gq_ob Z (p := (decide (i > 0))) (v := .string ((b.ops.getD (i - 1).toNat default).key)) (S' := [(60, .pointer (some ⟨blkOf v1_b, oofOf v1_b + (i - 1).toNat * 3, none⟩))]) rfl rfl rfl (wantB_t _) rfl (by decide) (fun hp hS => (hS.conv (t := 60) rfl (cond_t hp)).sub (ts := [60]) rfl) (fun hp _ hw => Ob_load tMv2 rfl rfl rfl ((slFl ((H.blw hw).sl 2 rfl) (hg3 hp)) 0 _ rfl)) ?_; clear Z a; intro a Z
        refine gq_ob Z (p := (decide (i > 0))) (v := .pointer (some ⟨b2, 0, none⟩)) (S' := [(4, .pointer (some ⟨b2, 0, none⟩))]) rfl rfl rfl (wantB_t _) rfl (by decide) (fun hp hS => hS.sub (ts := [4]) rfl) (fun hp _ hw => Ob_c tMv2 rfl) ?_; clear Z a; intro a Z
        refine gq_ob Z (p := (decide (i > 0))) (v := .string ((b.ops.getD (i).toNat default).key)) (S' := [(62, .pointer (some ⟨b2, 0, none⟩))]) rfl rfl rfl (wantB_t _) rfl (by decide) (fun hp hS => (hS.conv (t := 62) rfl (cond_t hp)).sub (ts := [62]) rfl) (fun hp _ hw => Ob_load tMv2 rfl rfl rfl (((H.blw hw).bx 0 rfl).cell 0 rfl)) ?_; clear Z a; intro a Z
        refine gq_ob Z (p := (decide (i > 0))) (v := .bool (!sltB ((b.ops.getD (i - 1).toNat default).key) ((b.ops.getD (i).toNat default).key))) (S' := [(61, .string ((b.ops.getD (i - 1).toNat default).key)), (63, .string ((b.ops.getD (i).toNat default).key))]) rfl rfl rfl (wantB_t _) rfl (by decide) (fun hp hS => ((hS.conv (t := 61) rfl (cond_t hp)).conv (t := 63) rfl (cond_t hp)).sub (ts := [61, 63]) rfl) (fun hp _ hw => Ob_c tMv2 rfl) ?_; clear Z a; intro a Z
        refine q_ob Z (v := .bool ((decide (i > 0)) && (!sltB ((b.ops.getD (i - 1).toNat default).key) ((b.ops.getD (i).toNat default).key)))) rfl rfl (by decide) rfl (fun _ hw => Ob_pick rfl rfl rfl rfl (pick_and _ _)) ?_; clear Z a; intro a Z
        refine q_end Z [1, 2, 3, 25, 26, 27, 28, 29, 32, 33, 34, 35, 36, 4, 37, 38, 39, 40, 41, 42, 43, 44, 45, 46, 47, 51, 52, 53, 54, 65] rfl ?_; clear Z; intro w6 hb Z
        replace H : Hf I D w I2 w6 [BxC b2 60 [.string ((b.ops.getD (i).toNat default).key), .string ((b.ops.getD (i).toNat default).val), .bool ((b.ops.getD (i).toNat default).del)], BxC b1 65 [.int .i64 b.client, .int .i64 b.req, v1_b], SlC NEOp v1_b b.ops] := H.blw hb
        clear hb
        refine p_then ?_
        refine f_cond Z rfl (fun hc8 => ?_) (fun hc8 => ?_)
        ·replace hF := ite_t hc8 hF
         refine wp_seq (f_region Z ?_); clear Z; intro Z
         refine s_runk tMv2 Z 1 rfl rfl ?_; clear Z a; intro a Z
         refine s_end Z [1, 2, 3, 25, 26, 27, 28, 29, 32, 33, 34, 35, 36, 4, 37, 38, 39, 40, 41, 42, 43, 44, 45, 46, 47, 51, 52, 53, 54, 65] rfl ?_; clear Z; intro Z
         refine p_then (wp_ret ?_)
         refine p_blk_r ?_
         refine p_then_r ?_
         refine p_then_r ?_
         refine p_blk_r ?_
         refine p_then_r ?_
         obtain rfl := some_in hF
         exact f_ret Z (run_results1 rfl Z rfl) ⟨rfl, I2, (H.sub [] rfl).eq rfl⟩
        ·replace hF := ite_f hc8 hF
         refine wp_skip ?_
         refine p_blk ?_
         refine p_then ?_
         obtain ⟨hg4, hF⟩ := chk_in hF
         refine f_region Z ?_; clear Z; intro Z
         refine s_runk tMv2 Z 1 rfl rfl ?_; clear Z a; intro a Z
         refine s_ob Z (v := .int .i64 (i + 1)) rfl rfl (by decide) rfl (Ob_add rfl rfl rfl (wrI hg4)) ?_; clear Z a; intro a Z
         refine s_runk tMv2 Z 1 rfl rfl ?_; clear Z a; intro a Z
         refine s_end Z [1, 2, 3, 25, 26, 27, 28, 29, 32, 33, 34, 35, 36, 4, 37, 38, 39, 40, 41, 42, 43, 44, 45, 46, 47, 51, 52, 53, 54, 65, 30, 31] rfl ?_; clear Z; intro Z
         refine p_then ?_
         exact ⟨(i + 1), ⟨Z.sub (ts := [1, 2, 3]) rfl, ⟨I2, (H.sub [(1, false), (1, true)] rfl).eq rfl⟩⟩, hF⟩
    ·replace hF := ite_f hc4 hF
     refine wp_exit ?_
     refine p_then_x ?_
     refine p_then_x ?_
     refine f_exit_here ?_
     refine p_then (wp_seq (f_region Z ?_)); clear Z; intro Z
     refine s_runk tMv2 Z 1 rfl rfl ?_; clear Z a; intro a Z
     refine s_end Z [2] rfl ?_; clear Z; intro Z
     refine p_then (wp_ret ?_)
     obtain rfl := some_in hF
     exact f_ret Z (run_results1 rfl Z rfl) ⟨rfl, I1, (H.sub [] rfl).eq rfl⟩

def F_ref16_Store_Put_l1 (ts : Int) (l : List EOp) (rc : (Int × Eref16_Store) → Option (Int × Eref16_Store)) (sg : Int × Eref16_Store) : Option (Int × Eref16_Store) := match sg with | (i, s0_2) => if (decide (i < (l.length : Int))) = true then (chk ((0 : Int) ≤ i ∧ i < (l.length : Int)) (chk ((0 : Int) ≤ i ∧ i < (l.length : Int)) (chk ((0 : Int) ≤ i ∧ i < (l.length : Int)) ((F_ref16_Store_lay s0_2 ((l.getD (i).toNat default).key) ({ ts := ts, val := (l.getD (i).toNat default).val, del := (l.getD (i).toNat default).del } : ECell)).bind fun l_2 => (chk (inI (i + 1)) (rc (i + 1, l_2))))))) else (some (0, ({ s0_2 with last := ts } : Eref16_Store)))

def F_ref16_Store_Put (s0 : Eref16_Store) (ts : Int) (l : List EOp) : Option (Int × Eref16_Store) := if (ts == 0) = true then (some (5, s0)) else (if (decide (ts ≤ s0.last)) = true then (some (18, s0)) else ((F_ref06_Check ({ client := 0, req := 1, ops := l } : EBatch)).bind fun c => (if (c != 0) = true then (some (c, s0)) else (iter (F_ref16_Store_Put_l1 ts l) FU (0, s0)))))

set_option maxHeartbeats 1000000 in
theorem c_ref16_Store_Put {I D : Dm} {b_s0 : Nat} {s0 : Eref16_Store} {ts : Int} {l : List EOp} {v1_l : Value} {w : World} {rr : Int × Eref16_Store} (hF : F_ref16_Store_Put s0 ts l = some rr) (H : St I D w [OEref16_Store b_s0 s0, SlC NEOp v1_l l]) :
  Calls Try.prog 16 #[.pointer (some ⟨b_s0, 0, none⟩), .int .u64 ts, v1_l] w (Ret fun vv w' => vv = .int .i64 rr.1 ∧ ∃ I', Hf I D w I' w' [OEref16_Store b_s0 rr.2]) := by
 replace H := H.hf
 unfold F_ref16_Store_Put at hF
 refine f_enter 52 Try.func16 rfl rfl (Nat.le_of_ble_eq_true rfl) fun a Z => ?_
 replace Z := Z.sub (ts := [0, 1, 2]) rfl
 refine wp_seq (f_region Z ?_); clear Z; intro Z
 refine s_runk tMv2 Z 1 rfl rfl ?_; clear Z a; intro a Z
 refine s_end Z [0, 1, 2, 6] rfl ?_; clear Z; intro Z
 refine p_then (wp_seq ?_)
 refine wp_seq (f_region Z ?_); clear Z; intro Z
 refine s_runk tMv2 Z 2 rfl rfl ?_; clear Z a; intro a Z
 refine s_end Z [0, 1, 2, 6, 10] rfl ?_; clear Z; intro Z
 refine p_then ?_
 refine f_cond Z rfl (fun hc1 => ?_) (fun hc1 => ?_)
 ·replace hF := ite_t hc1 hF
  refine wp_seq (f_region Z ?_); clear Z; intro Z
  refine s_runk tMv2 Z 1 rfl rfl ?_; clear Z a; intro a Z
  refine s_end Z [0, 1, 2, 6] rfl ?_; clear Z; intro Z
  refine p_then (wp_ret ?_)
  refine p_then_r ?_
  obtain rfl := some_in hF
  exact f_ret Z (run_results1 rfl Z rfl) ⟨rfl, I, (H.sub [(0, false)] rfl).eq rfl⟩
 ·replace hF := ite_f hc1 hF
  refine wp_skip ?_
  refine p_then (wp_seq ?_)
  refine wp_seq (f_region Z ?_); clear Z; intro Z
  refine s_runk tMv2 Z 4 rfl rfl ?_; clear Z a; intro a Z
  obtain ⟨v2, H⟩ := H.openX 0 rfl
  replace H : Hf I D w I w [BxC b_s0 46 [v2, .int .u64 s0.last], OwC NEref16_Row 83 v2 s0.l, SlC NEOp v1_l l] := H
  refine s_ob Z (v := .int .u64 s0.last) rfl rfl (by decide) rfl (Ob_load tMv2 rfl rfl rfl ((H.bx 0 rfl).cell 1 rfl)) ?_; clear Z a; intro a Z
  refine s_runk tMv2 Z 1 rfl rfl ?_; clear Z a; intro a Z
  refine s_end Z [0, 1, 2, 6, 16] rfl ?_; clear Z; intro Z
  refine p_then ?_
  refine f_cond Z rfl (fun hc2 => ?_) (fun hc2 => ?_)
  ·replace hF := ite_t hc2 hF
   refine wp_seq (f_region Z ?_); clear Z; intro Z
   refine s_runk tMv2 Z 1 rfl rfl ?_; clear Z a; intro a Z
   refine s_end Z [0, 1, 2, 6] rfl ?_; clear Z; intro Z
   refine p_then (wp_ret ?_)
   refine p_then_r ?_
   replace H : Hf I D w I w [OEref16_Store b_s0 s0, SlC NEOp v1_l l] := H.shutX (v2) [(0, false), (0, false)] rfl
   obtain rfl := some_in hF
   exact f_ret Z (run_results1 rfl Z rfl) ⟨rfl, I, (H.sub [(0, false)] rfl).eq rfl⟩
  ·replace hF := ite_f hc2 hF
   refine wp_skip ?_
   refine p_then (wp_seq ?_)
   refine wp_seq ?_
   obtain ⟨c, hx1, hF⟩ := bnd_in hF
   refine f_region Z ?_; clear Z; intro Z
   refine s_runk tMv2 Z 1 rfl rfl ?_; clear Z a; intro a Z
   refine s_ob Z (v := .agg #[.int .i64 0, .int .i64 1, v1_l]) rfl rfl (by decide) rfl (Ob_build (vs := [(1, .int .i64 1), (2, v1_l)]) rfl rfl (by obtain ⟨_, _, e, _⟩ := (H.slshape 2 rfl); rw [e]; clear e; go_simp <;> rfl)) ?_; clear Z a; intro a Z
   refine h_call Z H (js := [(2, true)]) rfl (caps := #[]) fn_33_YMv2 rfl rfl rfl rfl rfl (by decide) rfl rfl (fun D1 hS => have hq := c_ref06_Check hx1 hS; hq) ?_; clear Z a; intro vv a w1 D2 hr hF2 Z
   obtain ⟨rfl, I1, K⟩ := hr
   have H : Hf I D w I1 w1 [BxC b_s0 46 [v2, .int .u64 s0.last], OwC NEref16_Row 83 v2 s0.l, SlC NEOp v1_l l] := hF2 K
   clear hF2 K
   refine s_runk tMv2 Z 1 rfl rfl ?_; clear Z a; intro a Z
   refine s_end Z [0, 1, 2, 6, 7] rfl ?_; clear Z; intro Z
   refine p_then (wp_seq (f_region Z ?_)); clear Z; intro Z
   refine s_runk tMv2 Z 2 rfl rfl ?_; clear Z a; intro a Z
   refine s_end Z [0, 1, 2, 6, 7, 21] rfl ?_; clear Z; intro Z
   refine p_then ?_
   refine f_cond Z rfl (fun hc3 => ?_) (fun hc3 => ?_)
   ·replace hF := ite_t hc3 hF
    refine wp_seq (f_region Z ?_); clear Z; intro Z
    refine s_runk tMv2 Z 2 rfl rfl ?_; clear Z a; intro a Z
    refine s_end Z [0, 1, 2, 6] rfl ?_; clear Z; intro Z
    refine p_then (wp_ret ?_)
    refine p_then_r ?_
    replace H : Hf I D w I1 w1 [OEref16_Store b_s0 s0, SlC NEOp v1_l l] := H.shutX (v2) [(0, false), (0, false)] rfl
    obtain rfl := some_in hF
    exact f_ret Z (run_results1 rfl Z rfl) ⟨rfl, I1, (H.sub [(0, false)] rfl).eq rfl⟩
   ·replace hF := ite_f hc3 hF
    refine wp_skip ?_
    refine p_then (wp_seq ?_)
    refine wp_seq (f_region Z ?_); clear Z; intro Z
    refine s_runk tMv2 Z 1 rfl rfl ?_; clear Z a; intro a Z
    refine s_end Z [0, 1, 2, 6, 8] rfl ?_; clear Z; intro Z
    refine p_then (wp_block ?_)
    replace H : Hf I D w I1 w1 [OEref16_Store b_s0 s0, SlC NEOp v1_l l] := H.shutX (v2) [(0, false), (0, false)] rfl
    refine f_iter hF (fun sg a' w' => match sg with | (i, s0_2) => Sl 52 [(0, .pointer (some ⟨b_s0, 0, none⟩)), (1, .int .u64 ts), (2, v1_l), (6, .int .i64 0), (8, .int .i64 i)] a' ∧ ∃ I2, Hf I D w I2 w' [OEref16_Store b_s0 s0_2, SlC NEOp v1_l l]) ⟨Z.sub (ts := [0, 1, 2, 6, 8]) rfl, ⟨I1, (H.sub [(0, false), (0, true)] rfl).eq rfl⟩⟩ ?_
    clear Z H hF a
    rintro rc ⟨i, s0_2⟩ a w2 ⟨Z, I2, H⟩ hF
    unfold F_ref16_Store_Put_l1 at hF
    try dsimp only at hF
    refine wp_seq ?_
    refine wp_seq (f_region Z ?_); clear Z; intro Z
    refine s_runk tMv2 Z 2 rfl rfl ?_; clear Z a; intro a Z
    refine s_ob Z (v := .int .i64 (l.length : Int)) rfl rfl (by decide) rfl (Ob_slen tMv2 rfl rfl rfl (H.slshape 1 rfl)) ?_; clear Z a; intro a Z
    refine s_runk tMv2 Z 1 rfl rfl ?_; clear Z a; intro a Z
    refine s_end Z [0, 1, 2, 6, 8, 23, 24, 25, 26] rfl ?_; clear Z; intro Z
    refine p_then ?_
    refine f_cond Z rfl (fun hc4 => ?_) (fun hc4 => ?_)
    ·replace hF := ite_t hc4 hF
     refine wp_skip ?_
     refine p_then (wp_seq ?_)
     refine wp_block ?_
     obtain ⟨hg1, hF⟩ := chk_in hF
     obtain ⟨hg2, hF⟩ := chk_in hF
     obtain ⟨hg3, hF⟩ := chk_in hF
     obtain ⟨l_2, hx2, hF⟩ := bnd_in hF
     refine f_quietS 18 (by kernel_rfl) (by kernel_rfl) (by kernel_rfl) (by kernel_rfl) (by kernel_rfl) Z ?_; clear Z; intro Z
     refine q_runk tMv2 Z 3 rfl rfl ?_; clear Z a; intro a Z
     refine q_ob Z (v := .pointer (some ⟨blkOf v1_l, oofOf v1_l + (i).toNat * 3, none⟩)) rfl rfl (by decide) rfl (fun _ hw => Ob_sidx tMv2 rfl rfl rfl rfl (slPl ((H.blw hw).sl 1 rfl) hg1) hg1) ?_; clear Z a; intro a Z
     refine q_runk tMv2 Z 1 rfl rfl ?_; clear Z a; intro a Z
     refine q_ob Z (v := .string ((l.getD (i).toNat default).key)) rfl rfl (by decide) rfl (fun _ hw => Ob_load tMv2 rfl rfl rfl ((slFl ((H.blw hw).sl 1 rfl) hg1) 0 _ rfl)) ?_; clear Z a; intro a Z
     refine q_runk tMv2 Z 3 rfl rfl ?_; clear Z a; intro a Z
     refine q_ob Z (v := .pointer (some ⟨blkOf v1_l, oofOf v1_l + (i).toNat * 3, none⟩)) rfl rfl (by decide) rfl (fun _ hw => Ob_sidx tMv2 rfl rfl rfl rfl (slPl ((H.blw hw).sl 1 rfl) hg2) hg2) ?_; clear Z a; intro a Z
     refine q_runk tMv2 Z 1 rfl rfl ?_; clear Z a; intro a Z
     refine q_ob Z (v := .string ((l.getD (i).toNat default).val)) rfl rfl (by decide) rfl (fun _ hw => Ob_load tMv2 rfl rfl rfl ((slFl ((H.blw hw).sl 1 rfl) hg2) 1 _ rfl)) ?_; clear Z a; intro a Z
     refine q_runk tMv2 Z 2 rfl rfl ?_; clear Z a; intro a Z
     refine q_ob Z (v := .pointer (some ⟨blkOf v1_l, oofOf v1_l + (i).toNat * 3, none⟩)) rfl rfl (by decide) rfl (fun _ hw => Ob_sidx tMv2 rfl rfl rfl rfl (slPl ((H.blw hw).sl 1 rfl) hg3) hg3) ?_; clear Z a; intro a Z
     refine q_runk tMv2 Z 1 rfl rfl ?_; clear Z a; intro a Z
     refine q_ob Z (v := .bool ((l.getD (i).toNat default).del)) rfl rfl (by decide) rfl (fun _ hw => Ob_load tMv2 rfl rfl rfl ((slFl ((H.blw hw).sl 1 rfl) hg3) 2 _ rfl)) ?_; clear Z a; intro a Z
     refine q_ob Z (v := .agg #[.int .u64 ts, .string ((l.getD (i).toNat default).val), .bool ((l.getD (i).toNat default).del)]) rfl rfl (by decide) rfl (fun _ hw => Ob_build (vs := [(0, .int .u64 ts), (1, .string ((l.getD (i).toNat default).val)), (2, .bool ((l.getD (i).toNat default).del))]) rfl rfl (by go_simp <;> rfl)) ?_; clear Z a; intro a Z
     refine q_endS Z [0, 1, 2, 6, 8, 23, 24, 25, 26, 29, 30, 31, 32, 33, 34, 35, 36, 37, 38, 39, 40, 41, 42, 43, 44, 45, 46] rfl ?_; clear Z; intro w3 hb Z
     replace H : Hf I D w I2 w3 [OEref16_Store b_s0 s0_2, SlC NEOp v1_l l] := H.blw hb
     clear hb
     refine h_call Z H (js := [(0, false)]) rfl (caps := #[]) fn_34_YMv2 rfl rfl rfl rfl rfl (by decide) rfl rfl (fun D1 hS => have hq := c_ref16_Store_lay hx2 hS; hq) ?_; clear Z a; intro vv a w4 D2 hr hF2 Z
     obtain ⟨rfl, I3, K⟩ := hr
     have H : Hf I D w I3 w4 [OEref16_Store b_s0 l_2, SlC NEOp v1_l l] := hF2 K
     clear hF2 K
     refine s_end Z [0, 1, 2, 6, 8, 23, 24, 25, 26, 29, 30, 31, 32, 33, 34, 35, 36, 37, 38, 39, 40, 41, 42, 43, 44, 45, 46] rfl ?_; clear Z; intro Z
     refine p_blk ?_
     refine p_then ?_
     obtain ⟨hg4, hF⟩ := chk_in hF
     refine f_region Z ?_; clear Z; intro Z
     refine s_runk tMv2 Z 1 rfl rfl ?_; clear Z a; intro a Z
     refine s_ob Z (v := .int .i64 (i + 1)) rfl rfl (by decide) rfl (Ob_add rfl rfl rfl (wrI hg4)) ?_; clear Z a; intro a Z
     refine s_runk tMv2 Z 1 rfl rfl ?_; clear Z a; intro a Z
     refine s_end Z [0, 1, 2, 6, 8, 23, 24, 25, 26, 29, 30, 31, 32, 33, 34, 35, 36, 37, 38, 39, 40, 41, 42, 43, 44, 45, 46, 27, 28] rfl ?_; clear Z; intro Z
     refine p_then ?_
     exact ⟨(i + 1, l_2), ⟨Z.sub (ts := [0, 1, 2, 6, 8]) rfl, ⟨I3, (H.sub [(0, false), (0, true)] rfl).eq rfl⟩⟩, hF⟩
    ·replace hF := ite_f hc4 hF
     refine wp_exit ?_
     refine p_then_x ?_
     refine p_then_x ?_
     refine f_exit_here ?_
     refine p_then (wp_seq (f_region Z ?_)); clear Z; intro Z
     refine s_runk tMv2 Z 4 rfl rfl ?_; clear Z a; intro a Z
     obtain ⟨v3, H⟩ := H.openX 0 rfl
     replace H : Hf I D w I2 w2 [BxC b_s0 46 [v3, .int .u64 s0_2.last], OwC NEref16_Row 83 v3 s0_2.l, SlC NEOp v1_l l] := H
     refine h_store tMv2 Z H 0 rfl rfl rfl rfl rfl rfl rfl rfl rfl (one_cons rfl one_nil) (Nat.le_of_ble_eq_true rfl) rfl ?_; clear H; intro w5 H
     dsimp only [List.eraseIdx] at H
     refine s_end Z [6] rfl ?_; clear Z; intro Z
     refine p_then (wp_seq (f_region Z ?_)); clear Z; intro Z
     refine s_runk tMv2 Z 1 rfl rfl ?_; clear Z a; intro a Z
     refine s_end Z [6] rfl ?_; clear Z; intro Z
     refine p_then (wp_ret ?_)
     replace H : Hf I D w I2 w5 [OEref16_Store b_s0 ({ s0_2 with last := ts } : Eref16_Store), SlC NEOp v1_l l] := H.shutX (v3) [(0, false), (0, false)] rfl
     obtain rfl := some_in hF
     exact f_ret Z (run_results1 rfl Z rfl) ⟨rfl, I2, (H.sub [(0, false)] rfl).eq rfl⟩

def F_ref06_SamePairs_l1 (a0 : List EPair) (b : List EPair) (rc : Int → Option Bool) (sg : Int) : Option Bool := match sg with | i => if ((decide (i < (a0.length : Int))) && (decide (i < (b.length : Int)))) = true then (chk ((0 : Int) ≤ i ∧ i < (a0.length : Int)) (chk ((0 : Int) ≤ i ∧ i < (b.length : Int)) (if (!eqEPair (a0.getD (i).toNat default) (b.getD (i).toNat default)) = true then (some false) else (chk (inI (i + 1)) (rc (i + 1)))))) else (some true)

def F_ref06_SamePairs (a0 : List EPair) (b : List EPair) : Option Bool := if ((a0.length : Int) != (b.length : Int)) = true then (some false) else (iter (F_ref06_SamePairs_l1 a0 b) FU 0)

set_option maxHeartbeats 1000000 in
theorem c_ref06_SamePairs {I D : Dm} {a0 : List EPair} {v1_a0 : Value} {b : List EPair} {v2_b : Value} {w : World} {rr : Bool} (hF : F_ref06_SamePairs a0 b = some rr) (H : St I D w [SlC NEPair v1_a0 a0, SlC NEPair v2_b b]) :
  Calls Try.prog 13 #[v1_a0, v2_b] w (Ret fun vv w' => vv = .bool rr ∧ ∃ I', Hf I D w I' w' []) := by
 replace H := H.hf
 unfold F_ref06_SamePairs at hF
 refine f_enter 32 Try.func13 rfl rfl (Nat.le_of_ble_eq_true rfl) fun a Z => ?_
 replace Z := Z.sub (ts := [0, 1]) rfl
 refine wp_seq (f_region Z ?_); clear Z; intro Z
 refine s_runk tMv2 Z 1 rfl rfl ?_; clear Z a; intro a Z
 refine s_end Z [0, 1, 4] rfl ?_; clear Z; intro Z
 refine p_then (wp_seq ?_)
 refine wp_seq (f_region Z ?_); clear Z; intro Z
 refine s_runk tMv2 Z 1 rfl rfl ?_; clear Z a; intro a Z
 refine s_ob Z (v := .int .i64 (a0.length : Int)) rfl rfl (by decide) rfl (Ob_slen tMv2 rfl rfl rfl (H.slshape 0 rfl)) ?_; clear Z a; intro a Z
 refine s_runk tMv2 Z 1 rfl rfl ?_; clear Z a; intro a Z
 refine s_ob Z (v := .int .i64 (b.length : Int)) rfl rfl (by decide) rfl (Ob_slen tMv2 rfl rfl rfl (H.slshape 1 rfl)) ?_; clear Z a; intro a Z
 refine s_runk tMv2 Z 1 rfl rfl ?_; clear Z a; intro a Z
 refine s_end Z [0, 1, 4, 10] rfl ?_; clear Z; intro Z
 refine p_then ?_
 refine f_cond Z rfl (fun hc1 => ?_) (fun hc1 => ?_)
 ·replace hF := ite_t hc1 hF
  refine wp_seq (f_region Z ?_); clear Z; intro Z
  refine s_runk tMv2 Z 1 rfl rfl ?_; clear Z a; intro a Z
  refine s_end Z [0, 1, 4] rfl ?_; clear Z; intro Z
  refine p_then (wp_ret ?_)
  refine p_then_r ?_
  obtain rfl := some_in hF
  exact f_ret Z (run_results1 rfl Z rfl) ⟨rfl, I, (H.sub [] rfl).eq rfl⟩
 ·replace hF := ite_f hc1 hF
  refine wp_skip ?_
  refine p_then (wp_seq ?_)
  refine wp_seq (f_region Z ?_); clear Z; intro Z
  refine s_runk tMv2 Z 1 rfl rfl ?_; clear Z a; intro a Z
  refine s_end Z [0, 1, 4, 5] rfl ?_; clear Z; intro Z
  refine p_then (wp_block ?_)
  refine f_iter hF (fun sg a' w' => match sg with | i => Sl 32 [(0, v1_a0), (1, v2_b), (4, .bool false), (5, .int .i64 i)] a' ∧ ∃ I2, Hf I D w I2 w' [SlC NEPair v1_a0 a0, SlC NEPair v2_b b]) ⟨Z.sub (ts := [0, 1, 4, 5]) rfl, ⟨I, (H.sub [(0, true), (1, true)] rfl).eq rfl⟩⟩ ?_
  clear Z H hF a
  rintro rc i a w1 ⟨Z, I1, H⟩ hF
  unfold F_ref06_SamePairs_l1 at hF
  try dsimp only at hF
  refine wp_seq ?_
  refine wp_seq (f_region Z ?_); clear Z; intro Z
  refine s_runk tMv2 Z 2 rfl rfl ?_; clear Z a; intro a Z
  refine s_ob Z (v := .int .i64 (a0.length : Int)) rfl rfl (by decide) rfl (Ob_slen tMv2 rfl rfl rfl (H.slshape 0 rfl)) ?_; clear Z a; intro a Z
  refine s_runk tMv2 Z 2 rfl rfl ?_; clear Z a; intro a Z
  refine g_ob Z (p := (decide (i < (a0.length : Int)))) (v := .int .i64 i) (S' := [(5, .int .i64 i)]) rfl rfl rfl (wantB_t _) rfl (by decide) (fun hp hS => hS.sub (ts := [5]) rfl) (fun hp => Ob_c tMv2 rfl) ?_; clear Z a; intro a Z
  refine g_ob Z (p := (decide (i < (a0.length : Int)))) (v := v2_b) (S' := [(1, v2_b)]) rfl rfl rfl (wantB_t _) rfl (by decide) (fun hp hS => hS.sub (ts := [1]) rfl) (fun hp => Ob_c tMv2 rfl) ?_; clear Z a; intro a Z
  refine g_ob Z (p := (decide (i < (a0.length : Int)))) (v := .int .i64 (b.length : Int)) (S' := [(17, v2_b)]) rfl rfl rfl (wantB_t _) rfl (by decide) (fun hp hS => (hS.conv (t := 17) rfl (cond_t hp)).sub (ts := [17]) rfl) (fun hp => Ob_slen tMv2 rfl rfl rfl (H.slshape 1 rfl)) ?_; clear Z a; intro a Z
  refine g_ob Z (p := (decide (i < (a0.length : Int)))) (v := .bool (decide (i < (b.length : Int)))) (S' := [(16, .int .i64 i), (18, .int .i64 (b.length : Int))]) rfl rfl rfl (wantB_t _) rfl (by decide) (fun hp hS => ((hS.conv (t := 16) rfl (cond_t hp)).conv (t := 18) rfl (cond_t hp)).sub (ts := [16, 18]) rfl) (fun hp => Ob_c tMv2 rfl) ?_; clear Z a; intro a Z
  refine s_ob Z (v := .bool ((decide (i < (a0.length : Int))) && (decide (i < (b.length : Int))))) rfl rfl (by decide) rfl (Ob_pick rfl rfl rfl rfl (pick_and _ _)) ?_; clear Z a; intro a Z
  refine s_end Z [0, 1, 4, 5, 11, 12, 13, 14, 15, 20] rfl ?_; clear Z; intro Z
  refine p_then ?_
  refine f_cond Z rfl (fun hc2 => ?_) (fun hc2 => ?_)
  ·replace hF := ite_t hc2 hF
   refine wp_skip ?_
   refine p_then (wp_seq ?_)
   refine wp_block ?_
   refine wp_seq ?_
   obtain ⟨hg1, hF⟩ := chk_in hF
   obtain ⟨hg2, hF⟩ := chk_in hF
   refine f_quietd (by kernel_rfl) (by kernel_rfl) Z ?_; clear Z; intro Z
   refine q_runk tMv2 Z 2 rfl rfl ?_; clear Z a; intro a Z
   refine q_ob Z (v := .pointer (some ⟨blkOf v1_a0, oofOf v1_a0 + (i).toNat * 2, none⟩)) rfl rfl (by decide) rfl (fun _ hw => Ob_sidx tMv2 rfl rfl rfl rfl (slPl ((H.blw hw).sl 0 rfl) hg1) hg1) ?_; clear Z a; intro a Z
   refine q_ob Z (v := .agg #[.string ((a0.getD (i).toNat default).key), .string ((a0.getD (i).toNat default).val)]) rfl rfl (by decide) rfl (fun _ hw => Ob_loads tMv2 rfl rfl rfl ((slFl ((H.blw hw).sl 0 rfl) hg1).part 0 rfl)) ?_; clear Z a; intro a Z
   refine q_runk tMv2 Z 2 rfl rfl ?_; clear Z a; intro a Z
   refine q_ob Z (v := .pointer (some ⟨blkOf v2_b, oofOf v2_b + (i).toNat * 2, none⟩)) rfl rfl (by decide) rfl (fun _ hw => Ob_sidx tMv2 rfl rfl rfl rfl (slPl ((H.blw hw).sl 1 rfl) hg2) hg2) ?_; clear Z a; intro a Z
   refine q_ob Z (v := .agg #[.string ((b.getD (i).toNat default).key), .string ((b.getD (i).toNat default).val)]) rfl rfl (by decide) rfl (fun _ hw => Ob_loads tMv2 rfl rfl rfl ((slFl ((H.blw hw).sl 1 rfl) hg2).part 0 rfl)) ?_; clear Z a; intro a Z
   refine q_ob Z (v := .bool (!eqEPair (a0.getD (i).toNat default) (b.getD (i).toNat default))) rfl rfl (by decide) rfl (fun _ hw => Ob_bin rfl rfl rfl (eqg_EPair _ _ _ _ _ _) (neq_EPair (a0.getD (i).toNat default) (b.getD (i).toNat default) _)) ?_; clear Z a; intro a Z
   refine q_end Z [0, 1, 4, 5, 11, 12, 13, 14, 15, 20, 23, 24, 25, 26, 27, 28, 29, 30, 31] rfl ?_; clear Z; intro w2 hb Z
   replace H : Hf I D w I1 w2 [SlC NEPair v1_a0 a0, SlC NEPair v2_b b] := H.blw hb
   clear hb
   refine p_then ?_
   refine f_cond Z rfl (fun hc3 => ?_) (fun hc3 => ?_)
   ·replace hF := ite_t hc3 hF
    refine wp_seq (f_region Z ?_); clear Z; intro Z
    refine s_runk tMv2 Z 1 rfl rfl ?_; clear Z a; intro a Z
    refine s_end Z [0, 1, 4, 5, 11, 12, 13, 14, 15, 20, 23, 24, 25, 26, 27, 28, 29, 30, 31] rfl ?_; clear Z; intro Z
    refine p_then (wp_ret ?_)
    refine p_blk_r ?_
    refine p_then_r ?_
    refine p_then_r ?_
    refine p_blk_r ?_
    refine p_then_r ?_
    obtain rfl := some_in hF
    exact f_ret Z (run_results1 rfl Z rfl) ⟨rfl, I1, (H.sub [] rfl).eq rfl⟩
   ·replace hF := ite_f hc3 hF
    refine wp_skip ?_
    refine p_blk ?_
    refine p_then ?_
    obtain ⟨hg3, hF⟩ := chk_in hF
    refine f_region Z ?_; clear Z; intro Z
    refine s_runk tMv2 Z 1 rfl rfl ?_; clear Z a; intro a Z
    refine s_ob Z (v := .int .i64 (i + 1)) rfl rfl (by decide) rfl (Ob_add rfl rfl rfl (wrI hg3)) ?_; clear Z a; intro a Z
    refine s_runk tMv2 Z 1 rfl rfl ?_; clear Z a; intro a Z
    refine s_end Z [0, 1, 4, 5, 11, 12, 13, 14, 15, 20, 23, 24, 25, 26, 27, 28, 29, 30, 31, 21, 22] rfl ?_; clear Z; intro Z
    refine p_then ?_
    exact ⟨(i + 1), ⟨Z.sub (ts := [0, 1, 4, 5]) rfl, ⟨I1, (H.sub [(0, true), (1, true)] rfl).eq rfl⟩⟩, hF⟩
  ·replace hF := ite_f hc2 hF
   refine wp_exit ?_
   refine p_then_x ?_
   refine p_then_x ?_
   refine f_exit_here ?_
   refine p_then (wp_seq (f_region Z ?_)); clear Z; intro Z
   refine s_runk tMv2 Z 1 rfl rfl ?_; clear Z a; intro a Z
   refine s_end Z [4] rfl ?_; clear Z; intro Z
   refine p_then (wp_ret ?_)
   obtain rfl := some_in hF
   exact f_ret Z (run_results1 rfl Z rfl) ⟨rfl, I1, (H.sub [] rfl).eq rfl⟩

end Go.Proofs.Ytfefmdllnjpmgaa
