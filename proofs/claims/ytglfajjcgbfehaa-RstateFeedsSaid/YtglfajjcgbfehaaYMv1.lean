/- Many versions: reading. -/
import Derived.Test.YtglfajjcgbfehaaYMv
namespace Go.Proofs.Ytglfajjcgbfehaa
open Go.RowKit
structure EPair where
 key : ByteArray
 val : ByteArray

instance : Inhabited EPair := ⟨⟨ByteArray.empty, ByteArray.empty⟩⟩

def eqEPair (x y : EPair) : Bool := (seqB x.key y.key) && (seqB x.val y.val)

theorem eqEPair_iff {x y : EPair} : eqEPair x y = true ↔ x = y := by cases x; cases y; simp [eqEPair, seqB_iff, and_assoc]

def cEPair (x : EPair) : List Value := [.string x.key, .string x.val]

def NEPair : Rp EPair := Rp.flat 2 (fun _ => True) (fun x => cEPair x) (fun _ => rfl) (fun x c hc => by simp only [cEPair, List.mem_cons, List.not_mem_nil, or_false] at hc; rcases hc with rfl | rfl <;> rfl)

def tMv1L : TabL := ⟨[(90112, 0), (97280, 0), (97281, 1), (97282, 2)], [], [], [(58, (97, 2)), (86, (95, 3)), (99, (9, 1))], [(4, (1, false)), (9, (1, false)), (27, (1, false)), (84, (1, false)), (95, (3, true)), (99, (1, false))]⟩

def tMv1 : Tab Try.prog := ⟨tMv1L, by kernel_rfl⟩

theorem fn_28_YMv1 : IsFn Try.prog 28 := ⟨_, Try.func28, by kernel_rfl, by kernel_rfl⟩

theorem fn_45_YMv1 : IsFn Try.prog 45 := ⟨_, Try.func45, by kernel_rfl, by kernel_rfl⟩

theorem fn_46_YMv1 : IsFn Try.prog 46 := ⟨_, Try.func46, by kernel_rfl, by kernel_rfl⟩

theorem fn_47_YMv1 : IsFn Try.prog 47 := ⟨_, Try.func47, by kernel_rfl, by kernel_rfl⟩

theorem fn_53_YMv1 : IsFn Try.prog 53 := ⟨_, Try.func53, by kernel_rfl, by kernel_rfl⟩

theorem fn_54_YMv1 : IsFn Try.prog 54 := ⟨_, Try.func54, by kernel_rfl, by kernel_rfl⟩

theorem fn_76_YMv1 : IsFn Try.prog 76 := ⟨_, Try.func76, by kernel_rfl, by kernel_rfl⟩

theorem fn_78_YMv1 : IsFn Try.prog 78 := ⟨_, Try.func78, by kernel_rfl, by kernel_rfl⟩

theorem fn_79_YMv1 : IsFn Try.prog 79 := ⟨_, Try.func79, by kernel_rfl, by kernel_rfl⟩

theorem fn_90_YMv1 : IsFn Try.prog 90 := ⟨_, Try.func90, by kernel_rfl, by kernel_rfl⟩

theorem fn_92_YMv1 : IsFn Try.prog 92 := ⟨_, Try.func92, by kernel_rfl, by kernel_rfl⟩

theorem fn_93_YMv1 : IsFn Try.prog 93 := ⟨_, Try.func93, by kernel_rfl, by kernel_rfl⟩

theorem E_58_YMv1 : Elem Try.prog 58 97 2 32 := ⟨Try.underlying58, by
 have h : (Try.prog.info? 97).map (fun i => (i.zero, i.size, i.bytes)) = some (some (.agg #[.string ByteArray.empty, .string ByteArray.empty]), 2, 32) := by kernel_rfl
 obtain ⟨i, hi, h1⟩ := Option.map_eq_some_iff.1 h
 simp only [Prod.mk.injEq] at h1
 exact ⟨i, _, hi, h1.1, h1.2.1, h1.2.2, by rfl⟩, by decide⟩

theorem E_99_YMv1 : Elem Try.prog 99 9 1 16 := ⟨Try.underlying99, by
 have h : (Try.prog.info? 9).map (fun i => (i.zero, i.size, i.bytes)) = some (some (.string ByteArray.empty), 1, 16) := by kernel_rfl
 obtain ⟨i, hi, h1⟩ := Option.map_eq_some_iff.1 h
 simp only [Prod.mk.injEq] at h1
 exact ⟨i, _, hi, h1.1, h1.2.1, h1.2.2, by rfl⟩, by decide⟩

def F_vers_Right_l1 (l : List ECell) (rc : (Int × Int) → Option Bool) (sg : Int × Int) : Option Bool := match sg with | (ahead, x) => if (decide (x < (l.length : Int))) = true then (chk ((0 : Int) ≤ x ∧ x < (l.length : Int)) (if (decide ((l.getD (x).toNat default).ts ≤ ahead)) = true then (some false) else (chk (inI (x + 1)) (rc ((l.getD (x).toNat default).ts, x + 1))))) else (some true)

def F_vers_Right (l : List ECell) : Option Bool := iter (F_vers_Right_l1 l) FU (0, 0)

set_option maxHeartbeats 1000000 in
theorem c_vers_Right {I D : Dm} {l : List ECell} {v1_l : Value} {w : World} {rr : Bool} (hF : F_vers_Right l = some rr) (H : St I D w [SlC NECell v1_l l]) :
  Calls Try.prog 92 #[v1_l] w (Ret fun vv w' => vv = vT rr ∧ ∃ I', Hf I D w I' w' []) := by
 replace H := H.hf
 unfold F_vers_Right at hF
 refine f_enter 19 Try.func92 rfl rfl (Nat.le_of_ble_eq_true rfl) fun a Z => ?_
 replace Z := Z.sub (ts := [0]) rfl
 refine wp_seq (f_region Z ?_); clear Z; intro Z
 refine s_runk tMv1 Z 1 rfl rfl fun a Z => ?_
 refine s_end Z [0, 2] rfl fun Z => ?_
 refine p_then (wp_seq (f_region Z ?_)); clear Z; intro Z
 refine s_runk tMv1 Z 1 rfl rfl fun a Z => ?_
 refine s_end Z [0, 2, 3] rfl fun Z => ?_
 refine p_then (wp_seq ?_)
 refine wp_seq (f_region Z ?_); clear Z; intro Z
 refine s_runk tMv1 Z 1 rfl rfl fun a Z => ?_
 refine sO Z (vI (ln l)) rfl (Ob_slen tMv1 rfl rfl rfl (H.slshape 0 rfl)) fun a Z => ?_
 refine s_runk tMv1 Z 1 rfl rfl fun a Z => ?_
 refine s_end Z [2, 3, 6, 7, 8] rfl fun Z => ?_
 refine p_then (wp_block ?_)
 refine f_iter hF (fun sg a' w' => match sg with | (ahead, x) => Sl 19 [(2, vT false), (3, vU ahead), (6, v1_l), (7, vI (ln l)), (8, vI x)] a' ∧ ∃ I2, Hf I D w I2 w' [SlC NECell v1_l l]) ⟨Z.sub (ts := [2, 3, 6, 7, 8]) rfl, ⟨I, (H.sub [(0, true)] rfl).eq rfl⟩⟩ ?_
 rintro rc ⟨ahead, x⟩ a w1 ⟨Z, I1, H⟩ hF
 unfold F_vers_Right_l1 at hF
 try dsimp only at hF
 refine wp_seq (f_region Z ?_); clear Z; intro Z
 refine s_runk tMv1 Z 1 rfl rfl fun a Z => ?_
 refine s_end Z [2, 3, 6, 7, 8, 9] rfl fun Z => ?_
 refine p_then (wp_seq ?_)
 refine f_cond Z rfl (fun hc1 => ?_) (fun hc1 => ?_)
 ·replace hF := ite_t hc1 hF
  refine wp_skip ?_
  refine p_then (wp_seq ?_)
  refine wp_block ?_
  refine wp_seq ?_
  obtain ⟨hg1, hF⟩ := chk_in hF
  refine f_region Z fun Z => ?_
  refine sO Z (.pointer (some ⟨blkOf v1_l, oofOf v1_l + (x).toNat * 3, none⟩)) rfl (Ob_sidx tMv1 rfl rfl rfl rfl (slPl (H.sl 0 rfl) hg1) hg1) fun a Z => ?_
  refine sO Z (.agg #[vU ((gi l x).ts), vS ((gi l x).val), vT ((gi l x).del)]) rfl (oA tMv1 rfl rfl ((slFl (H.sl 0 rfl) hg1).part 0 rfl)) fun a Z => ?_
  refine hA Z H [vU 0, vS ByteArray.empty, vT false] rfl rfl (by kernel_rfl) fun a w2 b1 H Z => ?_
  refine hT tMv1 Z H 0 rfl rfl rfl rfl rfl (onR 3 rfl one_nil) (Nat.le_of_ble_eq_true rfl) rfl fun w3 H => ?_
  dsimp only [List.eraseIdx] at H
  refine s_end Z [2, 3, 6, 7, 8, 9, 10, 11, 5] rfl fun Z => ?_
  refine p_then (wp_seq ?_)
  refine wp_seq (f_region Z ?_); clear Z; intro Z
  refine s_runk tMv1 Z 1 rfl rfl fun a Z => ?_
  refine sO Z _ rfl (oL tMv1 rfl rfl (H.bc 0 0 rfl rfl)) fun a Z => ?_
  refine s_runk tMv1 Z 2 rfl rfl fun a Z => ?_
  refine s_end Z [2, 3, 6, 7, 8, 9, 10, 11, 5, 12, 13, 14, 15] rfl fun Z => ?_
  refine p_then ?_
  refine f_cond Z rfl (fun hc2 => ?_) (fun hc2 => ?_)
  ·replace hF := ite_t hc2 hF
   refine wp_seq (f_region Z ?_); clear Z; intro Z
   refine s_runk tMv1 Z 1 rfl rfl fun a Z => ?_
   refine s_end Z [2, 3, 6, 7, 8, 9, 10, 11, 5, 12, 13, 14, 15] rfl fun Z => ?_
   refine p_then (wp_ret ?_)
   refine p_then_r ?_
   refine p_blk_r ?_
   refine p_then_r ?_
   refine p_then_r ?_
   refine p_blk_r ?_
   refine p_then_r ?_
   obtain rfl := some_in hF
   exact f_ret Z (run_results1 rfl Z rfl) ⟨rfl, I1, (H.sub [] rfl).eq rfl⟩
  ·replace hF := ite_f hc2 hF
   refine wp_skip ?_
   refine p_then ?_
   refine f_region Z fun Z => ?_
   refine s_runk tMv1 Z 1 rfl rfl fun a Z => ?_
   refine sO Z _ rfl (oL tMv1 rfl rfl (H.bc 0 0 rfl rfl)) fun a Z => ?_
   refine s_runk tMv1 Z 1 rfl rfl fun a Z => ?_
   refine s_end Z [2, 3, 6, 7, 8, 9, 10, 11, 5, 12, 13, 14, 15, 16, 17] rfl fun Z => ?_
   refine p_blk ?_
   refine p_then ?_
   obtain ⟨hg2, hF⟩ := chk_in hF
   refine f_region Z fun Z => ?_
   refine sO Z (vI (x + 1)) rfl (Ob_add rfl rfl rfl (wrI hg2)) fun a Z => ?_
   refine s_runk tMv1 Z 1 rfl rfl fun a Z => ?_
   refine s_end Z [2, 3, 6, 7, 8, 9, 10, 11, 5, 12, 13, 14, 15, 16, 17, 18] rfl fun Z => ?_
   refine p_then ?_
   exact ⟨((gi l x).ts, x + 1), ⟨Z.sub (ts := [2, 3, 6, 7, 8]) rfl, ⟨I1, (H.sub [(1, true)] rfl).eq rfl⟩⟩, hF⟩
 ·replace hF := ite_f hc1 hF
  refine wp_exit ?_
  refine p_then_x ?_
  refine p_then_x ?_
  refine f_exit_here ?_
  refine p_then (wp_seq (f_region Z ?_)); clear Z; intro Z
  refine s_runk tMv1 Z 1 rfl rfl fun a Z => ?_
  refine s_end Z [2] rfl fun Z => ?_
  refine p_then (wp_ret ?_)
  obtain rfl := some_in hF
  exact f_ret Z (run_results1 rfl Z rfl) ⟨rfl, I1, (H.sub [] rfl).eq rfl⟩

def F_vers_scan_l1 (l : List ECell) (t : Int) (rc : Int → Option Int) (sg : Int) : Option Int := match sg with | n0 => chk ((decide (n0 > 0)) = true → inI (n0 - 1)) (chk ((decide (n0 > 0)) = true → (0 : Int) ≤ n0 - 1 ∧ n0 - 1 < (l.length : Int)) (if ((decide (n0 > 0)) && (decide ((l.getD (n0 - 1).toNat default).ts > t))) = true then (chk (inI (n0 - 1)) (rc (n0 - 1))) else (some n0)))

def F_vers_scan (l : List ECell) (t : Int) : Option Int := iter (F_vers_scan_l1 l t) FU (l.length : Int)

set_option maxHeartbeats 1000000 in
theorem c_vers_scan {I D : Dm} {l : List ECell} {v1_l : Value} {t : Int} {w : World} {rr : Int} (hF : F_vers_scan l t = some rr) (H : St I D w [SlC NECell v1_l l]) :
  Calls Try.prog 93 #[v1_l, vU t] w (Ret fun vv w' => vv = vI rr ∧ ∃ I', Hf I D w I' w' []) := by
 replace H := H.hf
 unfold F_vers_scan at hF
 refine f_enter 23 Try.func93 rfl rfl (Nat.le_of_ble_eq_true rfl) fun a Z => ?_
 replace Z := Z.sub (ts := [0, 1]) rfl
 refine wp_seq (f_region Z ?_); clear Z; intro Z
 refine s_runk tMv1 Z 1 rfl rfl fun a Z => ?_
 refine s_end Z [0, 1, 4] rfl fun Z => ?_
 refine p_then (wp_seq (f_region Z ?_)); clear Z; intro Z
 refine s_runk tMv1 Z 1 rfl rfl fun a Z => ?_
 refine sO Z (vI (ln l)) rfl (Ob_slen tMv1 rfl rfl rfl (H.slshape 0 rfl)) fun a Z => ?_
 refine s_runk tMv1 Z 1 rfl rfl fun a Z => ?_
 refine s_end Z [0, 1, 4, 5] rfl fun Z => ?_
 refine p_then (wp_seq ?_)
 refine wp_block ?_
 refine f_iter hF (fun sg a' w' => match sg with | n0 => Sl 23 [(0, v1_l), (1, vU t), (4, vI 0), (5, vI n0)] a' ∧ ∃ I2, Hf I D w I2 w' [SlC NECell v1_l l]) ⟨Z.sub (ts := [0, 1, 4, 5]) rfl, ⟨I, (H.sub [(0, true)] rfl).eq rfl⟩⟩ ?_
 rintro rc n0 a w1 ⟨Z, I1, H⟩ hF
 unfold F_vers_scan_l1 at hF
 try dsimp only at hF
 refine wp_seq ?_
 refine wp_seq ?_
 obtain ⟨hg1, hF⟩ := chk_in hF
 obtain ⟨hg2, hF⟩ := chk_in hF
 refine f_region Z fun Z => ?_
 refine s_runk tMv1 Z 3 rfl rfl fun a Z => ?_
 refine gO Z v1_l rfl (wantB_t _) (.n 0 rfl .z) (fun hp => Ob_c tMv1 rfl) fun a Z => ?_
 refine gO Z (vI n0) rfl (wantB_t _) (.n 5 rfl .z) (fun hp => Ob_c tMv1 rfl) fun a Z => ?_
 refine gO Z (vI (n0 - 1)) rfl (wantB_t _) (.c 12 rfl id .z) (fun hp => Ob_sub rfl rfl rfl (wrI (hg1 hp))) fun a Z => ?_
 refine gO Z (.pointer (some ⟨blkOf v1_l, oofOf v1_l + (n0 - 1).toNat * 3, none⟩)) rfl (wantB_t _) (.c 11 rfl id (.c 13 rfl id .z)) (fun hp => Ob_sidx tMv1 rfl rfl rfl rfl (slPl (H.sl 0 rfl) (hg2 hp)) (hg2 hp)) fun a Z => ?_
 refine gO Z (.pointer (some ⟨blkOf v1_l, oofOf v1_l + (n0 - 1).toNat * 3, none⟩)) rfl (wantB_t _) (.c 14 rfl id .z) (fun hp => Ob_c tMv1 rfl) fun a Z => ?_
 refine gO Z (vU ((l.getD (n0 - 1).toNat default).ts)) rfl (wantB_t _) (.c 15 rfl id .z) (fun hp => oL tMv1 rfl rfl ((slFl (H.sl 0 rfl) (hg2 hp)) 0 _ rfl)) fun a Z => ?_
 refine gO Z (vU t) rfl (wantB_t _) (.n 1 rfl .z) (fun hp => Ob_c tMv1 rfl) fun a Z => ?_
 refine gO Z (vT (decide ((l.getD (n0 - 1).toNat default).ts > t))) rfl (wantB_t _) (.c 16 rfl id (.c 17 rfl id .z)) (fun hp => Ob_c tMv1 rfl) fun a Z => ?_
 refine sO Z (vT ((decide (n0 > 0)) && (decide ((l.getD (n0 - 1).toNat default).ts > t)))) rfl (Ob_pick rfl rfl rfl rfl (pick_and _ _)) fun a Z => ?_
 refine s_end Z [0, 1, 4, 5, 8, 9, 10, 19] rfl fun Z => ?_
 refine p_then ?_
 refine f_cond Z rfl (fun hc1 => ?_) (fun hc1 => ?_)
 ·replace hF := ite_t hc1 hF
  refine wp_skip ?_
  refine p_then (wp_block ?_)
  obtain ⟨hg3, hF⟩ := chk_in hF
  refine f_region Z fun Z => ?_
  refine s_runk tMv1 Z 1 rfl rfl fun a Z => ?_
  refine sO Z (vI (n0 - 1)) rfl (Ob_sub rfl rfl rfl (wrI hg3)) fun a Z => ?_
  refine s_runk tMv1 Z 1 rfl rfl fun a Z => ?_
  refine s_end Z [0, 1, 4, 5, 8, 9, 10, 19, 20, 21] rfl fun Z => ?_
  refine p_blk ?_
  refine p_then ?_
  exact ⟨(n0 - 1), ⟨Z.sub (ts := [0, 1, 4, 5]) rfl, ⟨I1, (H.sub [(0, true)] rfl).eq rfl⟩⟩, hF⟩
 ·replace hF := ite_f hc1 hF
  refine wp_exit ?_
  refine p_then_x ?_
  refine p_then_x ?_
  refine f_exit_here ?_
  refine p_then (wp_seq (f_region Z ?_)); clear Z; intro Z
  refine s_runk tMv1 Z 2 rfl rfl fun a Z => ?_
  refine s_end Z [4] rfl fun Z => ?_
  refine p_then (wp_ret ?_)
  obtain rfl := some_in hF
  exact f_ret Z (run_results1 rfl Z rfl) ⟨rfl, I1, (H.sub [] rfl).eq rfl⟩

def F_vers_upto_k2 (rc : (Int × Int) → Option Int) (from__2 : Int) (to__2 : Int) : Option Int := rc (from__2, to__2)

def F_vers_upto_l1 (l : List ECell) (t : Int) (rc : (Int × Int) → Option Int) (sg : Int × Int) : Option Int := match sg with | (from_, to_) => if (from_ == to_) = true then (some from_) else (chk (inI (to_ - from_)) (chk (inI ((to_ - from_).tdiv 2)) (chk (inI (from_ + ((to_ - from_).tdiv 2))) (chk ((0 : Int) ≤ from_ + ((to_ - from_).tdiv 2) ∧ from_ + ((to_ - from_).tdiv 2) < (l.length : Int)) (if (decide ((l.getD (from_ + ((to_ - from_).tdiv 2)).toNat default).ts > t)) = true then (F_vers_upto_k2 rc from_ (from_ + ((to_ - from_).tdiv 2))) else (chk (inI (from_ + ((to_ - from_).tdiv 2) + 1)) (F_vers_upto_k2 rc (from_ + ((to_ - from_).tdiv 2) + 1) to_)))))))

def F_vers_upto (l : List ECell) (t : Int) : Option Int := (F_vers_Right l).bind fun r0 => (if (!r0) = true then ((F_vers_scan l t).bind fun s0 => (some s0)) else (iter (F_vers_upto_l1 l t) FU (0, (l.length : Int))))

set_option maxHeartbeats 1000000 in
theorem c_vers_upto {I D : Dm} {l : List ECell} {v1_l : Value} {t : Int} {w : World} {rr : Int} (hF : F_vers_upto l t = some rr) (H : St I D w [SlC NECell v1_l l]) :
  Calls Try.prog 79 #[v1_l, vU t] w (Ret fun vv w' => vv = vI rr ∧ ∃ I', Hf I D w I' w' []) := by
 replace H := H.hf
 unfold F_vers_upto at hF
 refine f_enter 36 Try.func79 rfl rfl (Nat.le_of_ble_eq_true rfl) fun a Z => ?_
 replace Z := Z.sub (ts := [0, 1]) rfl
 refine wp_seq (f_region Z ?_); clear Z; intro Z
 refine s_runk tMv1 Z 1 rfl rfl fun a Z => ?_
 refine s_end Z [0, 1, 4] rfl fun Z => ?_
 refine p_then ?_
 refine f_scope (l := 0) rfl ?_
 refine wp_seq ?_
 refine wp_seq ?_
 obtain ⟨r0, hx1, hF⟩ := bnd_in hF
 refine f_region Z fun Z => ?_
 refine s_runk tMv1 Z 1 rfl rfl fun a Z => ?_
 refine hC Z H [(0, true)] rfl #[] fn_92_YMv1 rfl rfl (fun D h => have q := c_vers_Right hx1 h; q) fun vv a w1 D2 hr hF2 Z => ?_
 obtain ⟨rfl, I1, K⟩ := hr
 have H := (hF2 K).nf rfl
 refine s_runk tMv1 Z 1 rfl rfl fun a Z => ?_
 refine s_end Z [0, 1, 4, 10] rfl fun Z => ?_
 refine p_then ?_
 refine f_cond Z rfl (fun hc1 => ?_) (fun hc1 => ?_)
 ·replace hF := ite_t hc1 hF
  refine wp_seq ?_
  obtain ⟨s0, hx2, hF⟩ := bnd_in hF
  refine f_region Z fun Z => ?_
  refine s_runk tMv1 Z 2 rfl rfl fun a Z => ?_
  refine hC Z H [(0, true)] rfl #[] fn_93_YMv1 rfl rfl (fun D h => have q := c_vers_scan hx2 h; q) fun vv a w2 D2 hr hF2 Z => ?_
  obtain ⟨rfl, I2, K⟩ := hr
  have H := (hF2 K).nf rfl
  refine s_runk tMv1 Z 1 rfl rfl fun a Z => ?_
  refine s_end Z [0, 1, 4] rfl fun Z => ?_
  refine p_then (wp_ret ?_)
  refine p_then_r ?_
  refine p_jump_r ?_
  obtain rfl := some_in hF
  exact f_ret Z (run_results1 rfl Z rfl) ⟨rfl, I2, (H.sub [] rfl).eq rfl⟩
 ·replace hF := ite_f hc1 hF
  refine wp_skip ?_
  refine p_then (wp_seq (f_region Z ?_)); clear Z; intro Z
  refine s_runk tMv1 Z 1 rfl rfl fun a Z => ?_
  refine sO Z (vI (ln l)) rfl (Ob_slen tMv1 rfl rfl rfl (H.slshape 0 rfl)) fun a Z => ?_
  refine s_runk tMv1 Z 2 rfl rfl fun a Z => ?_
  refine s_end Z [0, 1, 4, 5, 6] rfl fun Z => ?_
  refine p_then ?_
  refine f_label hF (fun sg a' w' => match sg with | (from_, to_) => Sl 36 [(0, v1_l), (1, vU t), (4, vI 0), (5, vI from_), (6, vI to_)] a' ∧ ∃ I2, Hf I D w I2 w' [SlC NECell v1_l l]) ⟨Z.sub (ts := [0, 1, 4, 5, 6]) rfl, ⟨I1, (H.sub [(0, true)] rfl).eq rfl⟩⟩ ?_
  rintro rc ⟨from_, to_⟩ a w3 ⟨Z, I3, H⟩ hF
  unfold F_vers_upto_l1 at hF
  try dsimp only at hF
  refine wp_seq ?_
  refine wp_seq (f_region Z ?_); clear Z; intro Z
  refine s_runk tMv1 Z 3 rfl rfl fun a Z => ?_
  refine s_end Z [0, 1, 4, 5, 6, 16, 17, 18] rfl fun Z => ?_
  refine p_then ?_
  refine f_cond Z rfl (fun hc2 => ?_) (fun hc2 => ?_)
  ·replace hF := ite_t hc2 hF
   refine wp_seq (f_region Z ?_); clear Z; intro Z
   refine s_runk tMv1 Z 2 rfl rfl fun a Z => ?_
   refine s_end Z [0, 1, 4, 5, 6, 16, 17, 18, 19] rfl fun Z => ?_
   refine p_then (wp_ret ?_)
   refine p_then_r ?_
   refine p_jump_r ?_
   obtain rfl := some_in hF
   exact f_ret Z (run_results1 rfl Z rfl) ⟨rfl, I3, (H.sub [] rfl).eq rfl⟩
  ·replace hF := ite_f hc2 hF
   refine wp_skip ?_
   refine p_then ?_
   refine f_cut (fun a' w' => ∃ (from__2 : Int) (to__2 : Int), Sl 36 [(0, v1_l), (1, vU t), (4, vI 0), (5, vI from__2), (6, vI to__2), (7, vI (from_ + ((to_ - from_).tdiv 2))), (16, vI from_), (17, vI to_), (18, vT (from_ == to_)), (20, vI from_), (21, vI to_), (22, vI from_), (23, vI (to_ - from_)), (24, vI ((to_ - from_).tdiv 2)), (25, vI (from_ + ((to_ - from_).tdiv 2))), (26, v1_l), (27, vI (from_ + ((to_ - from_).tdiv 2))), (28, .pointer (some ⟨blkOf v1_l, oofOf v1_l + (from_ + ((to_ - from_).tdiv 2)).toNat * 3, none⟩)), (29, .pointer (some ⟨blkOf v1_l, oofOf v1_l + (from_ + ((to_ - from_).tdiv 2)).toNat * 3, none⟩)), (30, vU ((l.getD (from_ + ((to_ - from_).tdiv 2)).toNat default).ts)), (31, vU t), (32, vT (decide ((l.getD (from_ + ((to_ - from_).tdiv 2)).toNat default).ts > t)))] a' ∧ (∃ I2, Hf I D w I2 w' [SlC NECell v1_l l]) ∧ F_vers_upto_k2 rc from__2 to__2 = some rr) ?_ ?_
   ·rintro a w4 ⟨from__2, to__2, Z, ⟨I4, H⟩, hF⟩
    unfold F_vers_upto_k2 at hF
    try dsimp only at hF
    refine wp_goto ?_
    refine p_jump_g ?_
    exact ⟨(from__2, to__2), ⟨Z.sub (ts := [0, 1, 4, 5, 6]) rfl, ⟨I4, (H.sub [(0, true)] rfl).eq rfl⟩⟩, hF⟩
   ·skip
    refine wp_seq ?_
    obtain ⟨hg1, hF⟩ := chk_in hF
    obtain ⟨hg2, hF⟩ := chk_in hF
    obtain ⟨hg3, hF⟩ := chk_in hF
    refine f_region Z fun Z => ?_
    refine s_runk tMv1 Z 3 rfl rfl fun a Z => ?_
    refine sO Z (vI (to_ - from_)) rfl (Ob_sub rfl rfl rfl (wrI hg1)) fun a Z => ?_
    refine sO Z (vI ((to_ - from_).tdiv 2)) rfl (Ob_quo rfl rfl rfl (by decide) (wrI hg2)) fun a Z => ?_
    refine sO Z (vI (from_ + ((to_ - from_).tdiv 2))) rfl (Ob_add rfl rfl rfl (wrI hg3)) fun a Z => ?_
    refine s_runk tMv1 Z 1 rfl rfl fun a Z => ?_
    refine s_end Z [0, 1, 4, 5, 6, 16, 17, 18, 20, 21, 22, 23, 24, 25, 7] rfl fun Z => ?_
    refine p_then (wp_seq ?_)
    obtain ⟨hg4, hF⟩ := chk_in hF
    refine f_region Z fun Z => ?_
    refine s_runk tMv1 Z 2 rfl rfl fun a Z => ?_
    refine sO Z (.pointer (some ⟨blkOf v1_l, oofOf v1_l + (from_ + ((to_ - from_).tdiv 2)).toNat * 3, none⟩)) rfl (Ob_sidx tMv1 rfl rfl rfl rfl (slPl (H.sl 0 rfl) hg4) hg4) fun a Z => ?_
    refine s_runk tMv1 Z 1 rfl rfl fun a Z => ?_
    refine sO Z (vU ((l.getD (from_ + ((to_ - from_).tdiv 2)).toNat default).ts)) rfl (oL tMv1 rfl rfl ((slFl (H.sl 0 rfl) hg4) 0 _ rfl)) fun a Z => ?_
    refine s_runk tMv1 Z 2 rfl rfl fun a Z => ?_
    refine s_end Z [0, 1, 4, 5, 6, 16, 17, 18, 20, 21, 22, 23, 24, 25, 7, 26, 27, 28, 29, 30, 31, 32] rfl fun Z => ?_
    refine p_then ?_
    refine f_cond Z rfl (fun hc3 => ?_) (fun hc3 => ?_)
    ·replace hF := ite_t hc3 hF
     refine f_region Z fun Z => ?_
     refine s_runk tMv1 Z 2 rfl rfl fun a Z => ?_
     refine s_end Z [0, 1, 4, 5, 6, 16, 17, 18, 20, 21, 22, 23, 24, 25, 7, 26, 27, 28, 29, 30, 31, 32, 33] rfl fun Z => ?_
     refine p_then ?_
     exact ⟨from_, from_ + ((to_ - from_).tdiv 2), Z.sub (ts := [0, 1, 4, 5, 6, 7, 16, 17, 18, 20, 21, 22, 23, 24, 25, 26, 27, 28, 29, 30, 31, 32]) rfl, ⟨I3, (H.sub [(0, true)] rfl).eq rfl⟩, hF⟩
    ·replace hF := ite_f hc3 hF
     obtain ⟨hg5, hF⟩ := chk_in hF
     refine f_region Z fun Z => ?_
     refine s_runk tMv1 Z 1 rfl rfl fun a Z => ?_
     refine sO Z (vI (from_ + ((to_ - from_).tdiv 2) + 1)) rfl (Ob_add rfl rfl rfl (wrI hg5)) fun a Z => ?_
     refine s_runk tMv1 Z 1 rfl rfl fun a Z => ?_
     refine s_end Z [0, 1, 4, 5, 6, 16, 17, 18, 20, 21, 22, 23, 24, 25, 7, 26, 27, 28, 29, 30, 31, 32, 34, 35] rfl fun Z => ?_
     refine p_then ?_
     exact ⟨from_ + ((to_ - from_).tdiv 2) + 1, to_, Z.sub (ts := [0, 1, 4, 5, 6, 7, 16, 17, 18, 20, 21, 22, 23, 24, 25, 26, 27, 28, 29, 30, 31, 32]) rfl, ⟨I3, (H.sub [(0, true)] rfl).eq rfl⟩, hF⟩

def F_vers_At (l : List ECell) (t : Int) : Option (ByteArray × Bool) := (F_vers_upto l t).bind fun u => (chk ((!(u == 0)) = true → inI (u - 1)) (chk ((!(u == 0)) = true → (0 : Int) ≤ u - 1 ∧ u - 1 < (l.length : Int)) (if ((u == 0) || ((l.getD (u - 1).toNat default).del)) = true then (some (⟨#[]⟩, false)) else (chk (inI (u - 1)) (chk ((0 : Int) ≤ u - 1 ∧ u - 1 < (l.length : Int)) (some ((l.getD (u - 1).toNat default).val, true)))))))

set_option maxHeartbeats 1000000 in
theorem c_vers_At {I D : Dm} {l : List ECell} {v1_l : Value} {t : Int} {w : World} {rr : ByteArray × Bool} (hF : F_vers_At l t = some rr) (H : St I D w [SlC NECell v1_l l]) :
  Calls Try.prog 54 #[v1_l, vU t] w (Ret fun vv w' => vv = .tuple #[vS rr.1, vT rr.2] ∧ ∃ I', Hf I D w I' w' []) := by
 replace H := H.hf
 unfold F_vers_At at hF
 refine f_enter 26 Try.func54 rfl rfl (Nat.le_of_ble_eq_true rfl) fun a Z => ?_
 replace Z := Z.sub (ts := [0, 1]) rfl
 refine wp_seq (f_region Z ?_); clear Z; intro Z
 refine s_runk tMv1 Z 2 rfl rfl fun a Z => ?_
 refine s_end Z [0, 1, 4, 5] rfl fun Z => ?_
 refine p_then (wp_seq ?_)
 obtain ⟨u, hx1, hF⟩ := bnd_in hF
 refine f_region Z fun Z => ?_
 refine s_runk tMv1 Z 2 rfl rfl fun a Z => ?_
 refine hC Z H [(0, true)] rfl #[] fn_79_YMv1 rfl rfl (fun D h => have q := c_vers_upto hx1 h; q) fun vv a w1 D2 hr hF2 Z => ?_
 obtain ⟨rfl, I1, K⟩ := hr
 have H := (hF2 K).nf rfl
 refine s_runk tMv1 Z 1 rfl rfl fun a Z => ?_
 refine s_end Z [0, 4, 5, 6] rfl fun Z => ?_
 refine p_then (wp_seq ?_)
 refine wp_seq ?_
 obtain ⟨hg1, hF⟩ := chk_in hF
 obtain ⟨hg2, hF⟩ := chk_in hF
 refine f_region Z fun Z => ?_
 refine s_runk tMv1 Z 3 rfl rfl fun a Z => ?_
 refine gO Z v1_l rfl (wantB_f _) (.n 0 rfl .z) (fun hp => Ob_c tMv1 rfl) fun a Z => ?_
 refine gO Z (vI u) rfl (wantB_f _) (.n 6 rfl .z) (fun hp => Ob_c tMv1 rfl) fun a Z => ?_
 refine gO Z (vI (u - 1)) rfl (wantB_f _) (.c 14 rfl id .z) (fun hp => Ob_sub rfl rfl rfl (wrI (hg1 hp))) fun a Z => ?_
 refine gO Z (.pointer (some ⟨blkOf v1_l, oofOf v1_l + (u - 1).toNat * 3, none⟩)) rfl (wantB_f _) (.c 13 rfl id (.c 15 rfl id .z)) (fun hp => Ob_sidx tMv1 rfl rfl rfl rfl (slPl (H.sl 0 rfl) (hg2 hp)) (hg2 hp)) fun a Z => ?_
 refine gO Z (.pointer (some ⟨blkOf v1_l, oofOf v1_l + (u - 1).toNat * 3 + 2, none⟩)) rfl (wantB_f _) (.c 16 rfl id .z) (fun hp => Ob_c tMv1 rfl) fun a Z => ?_
 refine gO Z (vT ((l.getD (u - 1).toNat default).del)) rfl (wantB_f _) (.c 17 rfl id .z) (fun hp => oL tMv1 rfl rfl ((slFl (H.sl 0 rfl) (hg2 hp)) 2 _ rfl)) fun a Z => ?_
 refine sO Z (vT ((u == 0) || ((l.getD (u - 1).toNat default).del))) rfl (Ob_pick rfl rfl rfl rfl (pick_or _ _)) fun a Z => ?_
 refine s_end Z [0, 4, 5, 6, 19] rfl fun Z => ?_
 refine p_then ?_
 refine f_cond Z rfl (fun hc1 => ?_) (fun hc1 => ?_)
 ·replace hF := ite_t hc1 hF
  refine wp_seq (f_region Z ?_); clear Z; intro Z
  refine s_runk tMv1 Z 2 rfl rfl fun a Z => ?_
  refine s_end Z [0, 4, 5, 6] rfl fun Z => ?_
  refine p_then (wp_ret ?_)
  refine p_then_r ?_
  obtain rfl := some_in hF
  exact f_ret Z (run_results2 rfl Z rfl rfl) ⟨rfl, I1, (H.sub [] rfl).eq rfl⟩
 ·replace hF := ite_f hc1 hF
  refine wp_skip ?_
  refine p_then (wp_seq ?_)
  obtain ⟨hg3, hF⟩ := chk_in hF
  obtain ⟨hg4, hF⟩ := chk_in hF
  refine f_region Z fun Z => ?_
  refine s_runk tMv1 Z 2 rfl rfl fun a Z => ?_
  refine sO Z (vI (u - 1)) rfl (Ob_sub rfl rfl rfl (wrI hg3)) fun a Z => ?_
  refine sO Z (.pointer (some ⟨blkOf v1_l, oofOf v1_l + (u - 1).toNat * 3, none⟩)) rfl (Ob_sidx tMv1 rfl rfl rfl rfl (slPl (H.sl 0 rfl) hg4) hg4) fun a Z => ?_
  refine s_runk tMv1 Z 1 rfl rfl fun a Z => ?_
  refine sO Z (vS ((l.getD (u - 1).toNat default).val)) rfl (oL tMv1 rfl rfl ((slFl (H.sl 0 rfl) hg4) 1 _ rfl)) fun a Z => ?_
  refine s_runk tMv1 Z 2 rfl rfl fun a Z => ?_
  refine s_end Z [4, 5] rfl fun Z => ?_
  refine p_then (wp_ret ?_)
  obtain rfl := some_in hF
  exact f_ret Z (run_results2 rfl Z rfl rfl) ⟨rfl, I1, (H.sub [] rfl).eq rfl⟩

def F_mvcc_Store_Get (s0 : Emvcc_Store) (k : ByteArray) (t : Int) : Option (ByteArray × Bool × Emvcc_Store) := (F_mvcc_Store_none s0).bind fun n0 => (if (n0) = true then (some (⟨#[]⟩, false, s0)) else (optE s0.t ((F_tree_Tree_api_Cell_Get_nil k).bind fun n0_2 => ((F_vers_At n0_2.1 t).bind fun a0 => (some (a0.1, a0.2, ({ s0 with t := none } : Emvcc_Store))))) (fun x => (F_tree_Tree_api_Cell_Get x k).bind fun g => ((F_vers_At g.1 t).bind fun a0_2 => (some (a0_2.1, a0_2.2, ({ s0 with t := some x } : Emvcc_Store)))))))

set_option maxHeartbeats 1000000 in
theorem c_mvcc_Store_Get {I D : Dm} {b_s0 : Nat} {s0 : Emvcc_Store} {k : ByteArray} {t : Int} {w : World} {rr : ByteArray × Bool × Emvcc_Store} (hF : F_mvcc_Store_Get s0 k t = some rr) (H : St I D w [OEmvcc_Store b_s0 s0]) :
  Calls Try.prog 28 #[pp b_s0 0, vS k, vU t] w (Ret fun vv w' => vv = .tuple #[vS rr.1, vT rr.2.1] ∧ ∃ I', Hf I D w I' w' [OEmvcc_Store b_s0 rr.2.2]) := by
 replace H := H.hf
 unfold F_mvcc_Store_Get at hF
 refine f_enter 26 Try.func28 rfl rfl (Nat.le_of_ble_eq_true rfl) fun a Z => ?_
 replace Z := Z.sub (ts := [0, 1, 2]) rfl
 refine wp_seq (f_region Z ?_); clear Z; intro Z
 refine s_runk tMv1 Z 2 rfl rfl fun a Z => ?_
 refine s_end Z [0, 1, 2, 6, 7] rfl fun Z => ?_
 refine p_then (wp_seq ?_)
 refine wp_seq ?_
 obtain ⟨n0, hx1, hF⟩ := bnd_in hF
 refine f_region Z fun Z => ?_
 refine s_runk tMv1 Z 1 rfl rfl fun a Z => ?_
 refine hC Z H [(0, false)] rfl #[] fn_45_YMv1 rfl rfl (fun D h => have q := c_mvcc_Store_none hx1 h; q) fun vv a w1 D2 hr hF2 Z => ?_
 obtain ⟨rfl, I1, K⟩ := hr
 have H := (hF2 K).nf rfl
 refine s_end Z [0, 1, 2, 6, 7, 11] rfl fun Z => ?_
 refine p_then ?_
 refine f_cond Z rfl (fun hc1 => ?_) (fun hc1 => ?_)
 ·replace hF := ite_t hc1 hF
  refine wp_seq (f_region Z ?_); clear Z; intro Z
  refine s_runk tMv1 Z 2 rfl rfl fun a Z => ?_
  refine s_end Z [0, 1, 2, 6, 7] rfl fun Z => ?_
  refine p_then (wp_ret ?_)
  refine p_then_r ?_
  obtain rfl := some_in hF
  exact f_ret Z (run_results2 rfl Z rfl rfl) ⟨rfl, I1, (H.sub [(0, false)] rfl).eq rfl⟩
 ·replace hF := ite_f hc1 hF
  refine wp_skip ?_
  refine p_then (wp_seq ?_)
  obtain ⟨v1, H⟩ := H.openX 0 rfl
  replace H := H.nf rfl; try dsimp only at H
  rcases optE_in hF with ⟨ho1, hF⟩ | ⟨x, ho1, hF⟩
  ·obtain ⟨hv, H⟩ := H.optN 1 rfl ho1
   (try have Zq25 := Z); subst hv; (try have Z := Zq25)
   replace H := H.nf rfl; try dsimp only at H
   obtain ⟨n0_2, hx2, hF⟩ := bnd_in hF
   refine f_region Z fun Z => ?_
   refine s_runk tMv1 Z 3 rfl rfl fun a Z => ?_
   refine sO Z _ rfl (oL tMv1 rfl rfl (H.bc 0 0 rfl rfl)) fun a Z => ?_
   refine s_runk tMv1 Z 1 rfl rfl fun a Z => ?_
   refine hC Z H [] rfl #[] fn_53_YMv1 rfl rfl (fun D h => have q := c_tree_Tree_api_Cell_Get_nil hx2 h; q) fun vv a w2 D2 hr hF2 Z => ?_
   obtain ⟨q1, rfl, I2, K⟩ := hr
   have H := (hF2 K).nf rfl
   refine s_runk tMv1 Z 5 rfl rfl fun a Z => ?_
   refine s_end Z [2, 6, 7, 8] rfl fun Z => ?_
   refine p_then (wp_seq ?_)
   obtain ⟨a0, hx3, hF⟩ := bnd_in hF
   refine f_region Z fun Z => ?_
   refine s_runk tMv1 Z 2 rfl rfl fun a Z => ?_
   refine hC Z H [(0, true)] rfl #[] fn_54_YMv1 rfl rfl (fun D h => have q := c_vers_At hx3 h; q) fun vv a w3 D2 hr hF2 Z => ?_
   obtain ⟨rfl, I3, K⟩ := hr
   have H := (hF2 K).nf rfl
   refine s_runk tMv1 Z 4 rfl rfl fun a Z => ?_
   refine s_end Z [6, 7] rfl fun Z => ?_
   refine p_then (wp_ret ?_)
   replace H := H.mkN OEtree_Tree_api_Cell
   replace H := H.sX (OEmvcc_Store b_s0 ({ s0 with t := none } : Emvcc_Store)) (nP) [(2, false), (0, false)] rfl rfl rfl
   obtain rfl := some_in hF
   exact f_ret Z (run_results2 rfl Z rfl rfl) ⟨rfl, I3, (H.sub [(0, false)] rfl).eq rfl⟩
  ·obtain ⟨b1, hv, H⟩ := H.optS 1 rfl ho1
   (try have Zq26 := Z); subst hv; (try have Z := Zq26)
   replace H := H.nf rfl; try dsimp only at H
   obtain ⟨g, hx4, hF⟩ := bnd_in hF
   refine f_region Z fun Z => ?_
   refine s_runk tMv1 Z 3 rfl rfl fun a Z => ?_
   refine sO Z _ rfl (oL tMv1 rfl rfl (H.bc 1 0 rfl rfl)) fun a Z => ?_
   refine s_runk tMv1 Z 1 rfl rfl fun a Z => ?_
   refine hC Z H [(0, false)] rfl #[] fn_53_YMv1 rfl rfl (fun D h => have q := c_tree_Tree_api_Cell_Get hx4 h; q) fun vv a w4 D2 hr hF2 Z => ?_
   obtain ⟨q2, rfl, I4, K⟩ := hr
   have H := (hF2 K).nf rfl
   refine s_runk tMv1 Z 5 rfl rfl fun a Z => ?_
   refine s_end Z [2, 6, 7, 8] rfl fun Z => ?_
   refine p_then (wp_seq ?_)
   obtain ⟨a0_2, hx5, hF⟩ := bnd_in hF
   refine f_region Z fun Z => ?_
   refine s_runk tMv1 Z 2 rfl rfl fun a Z => ?_
   refine hC Z H [(1, true)] rfl #[] fn_54_YMv1 rfl rfl (fun D h => have q := c_vers_At hx5 h; q) fun vv a w5 D2 hr hF2 Z => ?_
   obtain ⟨rfl, I5, K⟩ := hr
   have H := (hF2 K).nf rfl
   refine s_runk tMv1 Z 4 rfl rfl fun a Z => ?_
   refine s_end Z [6, 7] rfl fun Z => ?_
   refine p_then (wp_ret ?_)
   replace H := (H.mkS (K := OEtree_Tree_api_Cell) 0 rfl).nf rfl
   replace H := H.sX (OEmvcc_Store b_s0 ({ s0 with t := some x } : Emvcc_Store)) (pp b1 0) [(2, false), (0, false)] rfl rfl rfl
   obtain rfl := some_in hF
   exact f_ret Z (run_results2 rfl Z rfl rfl) ⟨rfl, I5, (H.sub [(0, false)] rfl).eq rfl⟩

def F_tree_Tree_api_Cell_from_nil (k : ByteArray) : Option ByteArray := some k

set_option maxHeartbeats 1000000 in
theorem c_tree_Tree_api_Cell_from_nil {I D : Dm} {k : ByteArray} {w : World} {rr : ByteArray} (hF : F_tree_Tree_api_Cell_from_nil k = some rr) (H : St I D w []) :
  Calls Try.prog 76 #[nP, vS k] w (Ret fun vv w' => ∃ g1 g2 : Nat, vv = .func (.func 90) #[] #[pp g1 0, pp g2 0] ∧ ∃ I', Hf I D w I' w' [BxC g1 84 [nP], BxC g2 9 [vS rr]]) := by
 replace H := H.hf
 unfold F_tree_Tree_api_Cell_from_nil at hF
 refine f_enter 6 Try.func76 rfl rfl (Nat.le_of_ble_eq_true rfl) fun a Z => ?_
 replace Z := Z.sub (ts := [0, 1]) rfl
 refine wp_seq (f_region Z ?_); clear Z; intro Z
 refine hB Z H [nP] rfl rfl rfl rfl fun a w1 b1 H Z => ?_
 refine hB Z H [vS k] rfl rfl rfl rfl fun a w2 b2 H Z => ?_
 refine s_runk tMv1 Z 1 rfl rfl fun a Z => ?_
 refine s_end Z [2, 3, 4] rfl fun Z => ?_
 refine p_then (wp_seq (f_region Z ?_)); clear Z; intro Z
 refine s_runk tMv1 Z 2 rfl rfl fun a Z => ?_
 refine s_end Z [4] rfl fun Z => ?_
 refine p_then (wp_ret ?_)
 obtain rfl := some_in hF
 exact f_ret Z (run_results1 rfl Z rfl) ⟨b1, b2, rfl, I, (H.sub [(1, false), (0, false)] rfl).eq rfl⟩

def F_tree_Tree_api_Cell_from_1_nil {σ : Type} (y : ByteArray → σ → Option (Bool × σ)) (x0 : Bool × σ) (p2 : ByteArray) : Option (Bool × σ) := (F_tree_Tree_api_Cell_none_nil).bind fun n0 => (if (!n0) = true then (none) else (some x0))

set_option maxHeartbeats 1000000 in
theorem c_tree_Tree_api_Cell_from_1_nil {σ : Type} {I D : Dm} {Y : Bool × σ → Ch} {y : ByteArray → σ → Option (Bool × σ)} {x0 : Bool × σ} {ly : Nat} {b_p1 : Nat} {b_p2 : Nat} {p2 : ByteArray} {w : World} {rr : Bool × σ} (hy : YieldOk Try.prog ly Y (fun (e_ : ByteArray) (v_ : Unit) => vS e_) (fun (e_ : ByteArray) (v_ : Unit) => []) y) (hF : F_tree_Tree_api_Cell_from_1_nil y x0 p2 = some rr) (H : St I D w [BxC b_p1 84 [nP], BxC b_p2 9 [vS p2], Y x0]) :
  Calls Try.prog 90 #[.func (.yield ly) #[] #[], pp b_p1 0, pp b_p2 0] w (Ret fun vv w' => vv = .tuple #[] ∧ ∃ I', Hf I D w I' w' [BxC b_p1 84 [nP], BxC b_p2 9 [vS p2], Y rr]) := by
 replace H := H.hf
 unfold F_tree_Tree_api_Cell_from_1_nil at hF
 refine f_enter 14 Try.func90 rfl rfl (Nat.le_of_ble_eq_true rfl) fun a Z => ?_
 replace Z := Z.sub (ts := [0, 1, 2]) rfl
 refine wp_seq ?_
 obtain ⟨n0, hx1, hF⟩ := bnd_in hF
 refine f_region Z fun Z => ?_
 refine sO Z _ rfl (oL tMv1 rfl rfl (H.bc 0 0 rfl rfl)) fun a Z => ?_
 refine hC Z H [] rfl #[] fn_78_YMv1 rfl rfl (fun D h => have q := c_tree_Tree_api_Cell_none_nil hx1 h; q) fun vv a w1 D2 hr hF2 Z => ?_
 obtain ⟨rfl, I1, K⟩ := hr
 have H := (hF2 K).nf rfl
 refine s_runk tMv1 Z 1 rfl rfl fun a Z => ?_
 refine s_end Z [0, 1, 2, 6] rfl fun Z => ?_
 refine p_then ?_
 refine f_cond Z rfl (fun hc1 => ?_) (fun hc1 => ?_)
 ·replace hF := ite_t hc1 hF
  cases hF
 ·replace hF := ite_f hc1 hF
  refine wp_skip ?_
  obtain rfl := some_in hF
  exact f_fall Z (run_results0 rfl) ⟨rfl, I1, (H.sub [(0, false), (0, false), (0, false)] rfl).eq rfl⟩

def F_tree_Tree_api_Cell_Keys_nil_y1 (to_ : ByteArray) (e_ : ByteArray) (sg : (List ByteArray)) : Option (Bool × (List ByteArray)) := match sg with | out => if ((!seqB to_ ⟨#[]⟩) && (!sltB e_ to_)) = true then (some (false, out)) else (chk (((out.length + [e_].length : Nat) : Int) * 16 ≤ 140737488355328) (some (true, (out ++ [e_]))))

def F_tree_Tree_api_Cell_Keys_nil (from_ : ByteArray) (to_ : ByteArray) : Option (List ByteArray) := (F_tree_Tree_api_Cell_from_nil from_).bind fun n0 => ((F_tree_Tree_api_Cell_from_1_nil (F_tree_Tree_api_Cell_Keys_nil_y1 to_) (true, ([] : List ByteArray)) n0).bind fun r0 => (if (r0.1) = true then (some r0.2) else (some r0.2)))

set_option maxHeartbeats 1000000 in
theorem c_tree_Tree_api_Cell_Keys_nil {I D : Dm} {from_ : ByteArray} {to_ : ByteArray} {w : World} {rr : List ByteArray} (hF : F_tree_Tree_api_Cell_Keys_nil from_ to_ = some rr) (H : St I D w []) :
  Calls Try.prog 46 #[nP, vS from_, vS to_] w (Ret fun vv w' => ∃ q1 : Value, vv = q1 ∧ ∃ I', Hf I D w I' w' [SlC NS q1 rr]) := by
 replace H := H.hf
 unfold F_tree_Tree_api_Cell_Keys_nil at hF
 refine f_enterM 25 Try.func46 rfl rfl (Nat.le_of_ble_eq_true rfl) fun a Z => ?_
 replace Z := Z.sub (ts := [0, 1, 2]) rfl
 refine wp_seq (f_region Z ?_); clear Z; intro Z
 refine hB Z H [vS to_] rfl rfl rfl rfl fun a w1 b1 H Z => ?_
 refine s_runk tMv1 Z 1 rfl rfl fun a Z => ?_
 refine s_end Z [0, 1, 5, 6] rfl fun Z => ?_
 refine p_then (wp_seq (f_region Z ?_)); clear Z; intro Z
 refine hA1 Z H (nS) rfl rfl (by kernel_rfl) rfl fun a w2 b2 H Z => ?_
 refine s_end Z [0, 1, 5, 6, 7] rfl fun Z => ?_
 refine p_then (wp_seq ?_)
 refine wp_seq ?_
 obtain ⟨n0, hx1, hF⟩ := bnd_in hF
 refine f_region Z fun Z => ?_
 refine s_runk tMv1 Z 2 rfl rfl fun a Z => ?_
 refine hC Z H [] rfl #[] fn_76_YMv1 rfl rfl (fun D h => have q := c_tree_Tree_api_Cell_from_nil hx1 h; q) fun vv a w3 D2 hr hF2 Z => ?_
 obtain ⟨g1, g2, rfl, I1, K⟩ := hr
 have H := (hF2 K).nf rfl
 refine s_end Z [5, 6, 7, 11] rfl fun Z => ?_
 refine p_then (wp_block ?_)
 replace H := H.nilow NS 9
 replace H := Hf.shutX (f := fun (xv_ : Value) => [BxC b1 9 [vS to_], BxC b2 99 [xv_], OwC NS 9 xv_ ([] : List ByteArray)]) (nS) H [(4, false), (3, false), (0, false)] rfl
 obtain ⟨r0, hx2, hF⟩ := bnd_in hF
 refine f_rangeFunc (KC := (fun (sg_ : (List ByteArray)) => ExC fun (xv_ : Value) => [BxC b1 9 [vS to_], BxC b2 99 [xv_], OwC NS 9 xv_ sg_])) (s0 := ([] : List ByteArray)) (enc := (fun (e_ : ByteArray) (v_ : Unit) => vS e_)) (ech := (fun (e_ : ByteArray) (v_ : Unit) => [])) (c0 := .exit 0) (rr := r0) Z H (js := [(0, false), (0, false), (0, false)]) rfl [BxC g1 84 [nP], BxC g2 9 [vS n0]] fn_90_YMv1 rfl (by decide) ?_ (fun L Y hyk hS => have hq := c_tree_Tree_api_Cell_from_1_nil hyk hx2 hS; Ret.mono hq fun _ _ h => h.2) ?_
 ·clear hF H Z
  intro m I D w L D0 fn tm e_ v_ sg_ rr a hF Z H
  obtain ⟨out, rfl⟩ : ∃ x_, x_ = sg_ := ⟨_, rfl⟩
  obtain ⟨v1, H⟩ := H.openX 1 rfl
  replace H := H.nf rfl; try dsimp only at H
  unfold F_tree_Tree_api_Cell_Keys_nil_y1 at hF; try dsimp only at hF
  refine f_regionI (by kernel_rfl) (by rintro ⟨_, _, h⟩; exact h) Z fun Z => ?_
  refine s_runk tMv1 Z 1 rfl rfl fun a Z => ?_
  refine s_end Z [5, 6, 7, 11, 12, 8] rfl fun Z => ?_
  refine p_begin H 3 rfl fun w5 H => ?_
  replace H := H.nf rfl; try dsimp only at H
  refine wpIn_block ?_
  refine wpIn_seq ?_
  refine wpIn_seq ?_
  refine f_regionI (by kernel_rfl) (by rintro ⟨_, _, h⟩; exact h) Z fun Z => ?_
  refine sO Z _ rfl (oL tMv1 rfl rfl (H.bc 1 0 rfl rfl)) fun a Z => ?_
  refine s_runk tMv1 Z 2 rfl rfl fun a Z => ?_
  refine gO Z (vS e_) rfl (wantB_t _) (.n 8 rfl .z) (fun hp => Ob_c tMv1 rfl) fun a Z => ?_
  refine gO Z _ rfl (wantB_t _) (.n 5 rfl .z) (fun hp => oL tMv1 rfl rfl (H.bc 1 0 rfl rfl)) fun a Z => ?_
  refine gO Z (vT (!sltB e_ to_)) rfl (wantB_t _) (.c 16 rfl id (.c 17 rfl id .z)) (fun hp => Ob_c tMv1 rfl) fun a Z => ?_
  refine sO Z (vT ((!seqB to_ ⟨#[]⟩) && (!sltB e_ to_))) rfl (Ob_pick rfl rfl rfl rfl (pick_and _ _)) fun a Z => ?_
  refine s_end Z [5, 6, 7, 11, 12, 8, 13, 14, 15, 19] rfl fun Z => ?_
  refine p_then ?_
  refine f_condI Z rfl (fun hc1 => ?_) (fun hc1 => ?_)
  ·replace hF := ite_t hc1 hF
   refine wpIn_exit ?_
   refine p_then_x ?_
   refine f_exit_out (by decide) ?_
   refine y_exit H 0 rfl fun w6 H => ?_
   obtain rfl := some_in hF
   exact ⟨rfl, I, ((Hf.shutX (f := fun (xv_ : Value) => [BxC b1 9 [vS to_], BxC b2 99 [xv_], OwC NS 9 xv_ out]) v1 H [(1, false), (1, false), (1, false)] rfl).sub [(1, false), (0, false)] rfl).eq rfl⟩
  ·replace hF := ite_f hc1 hF
   refine wpIn_skip ?_
   refine p_then ?_
   obtain ⟨hg1, hF⟩ := chk_in hF
   refine f_regionI (by kernel_rfl) (by rintro ⟨_, _, h⟩; exact h) Z fun Z => ?_
   refine sO Z _ rfl (oL tMv1 rfl rfl (H.bc 2 0 rfl rfl)) fun a Z => ?_
   refine s_runk tMv1 Z 1 rfl rfl fun a Z => ?_
   refine h_bslice Z H (vs := [(0, vS e_)]) (cl := [vS e_]) (e := 9) rfl rfl rfl (by decide) rfl rfl (fun w => run_bslice (z := vS ByteArray.empty) (m := 1) Try.underlying99 (by kernel_rfl) rfl rfl (by decide) (by simp [Instr.fill, Value.cells]) w) fun a w7 b3 H Z => ?_
   refine h_appO Z H 4 E_99_YMv1 [e_] rfl rfl rfl rfl rfl (by decide) rfl rfl rfl (slRep2.box1 (H.bx 0 rfl) ⟨rfl, trivial⟩) hg1 (by decide) fun v2 a w8 H Z => ?_
   dsimp only [List.eraseIdx] at H
   replace H := (H.sub [(0, false), (1, false), (1, false), (1, false)] rfl).nf rfl
   refine hT tMv1 Z H 3 rfl rfl (slS.cells (H.owshape 0 rfl)) rfl rfl (one_cons (slS.one (H.owshape 0 rfl)) one_nil) (Nat.le_of_ble_eq_true rfl) rfl fun w9 H => ?_
   dsimp only [List.eraseIdx] at H
   refine s_end Z [5, 6, 7, 11, 12, 8, 13, 14, 15, 19, 20, 21, 22, 23] rfl fun Z => ?_
   refine p_blk ?_
   refine y_norm H 2 rfl fun w10 H => ?_
   obtain rfl := some_in hF
   exact ⟨rfl, I, ((Hf.shutX (f := fun (xv_ : Value) => [BxC b1 9 [vS to_], BxC b2 99 [xv_], OwC NS 9 xv_ (out ++ [e_])]) v2 H [(3, false), (1, false), (1, false)] rfl).sub [(1, false), (0, false)] rfl).eq rfl⟩
 ·intro D0_1 a w11 I3 Z H
  obtain ⟨v3, H⟩ := H.openX 1 rfl
  replace H := H.nf rfl; try dsimp only at H
  refine ⟨fun hc2 => ?_, fun hc2 => ?_⟩
  ·replace hF := ite_t hc2 hF
   refine p_blk ?_
   refine p_then (wp_seq (f_region Z ?_)); clear Z; intro Z
   refine sO Z _ rfl (oL tMv1 rfl rfl (H.bc 1 0 rfl rfl)) fun a Z => ?_
   refine s_runk tMv1 Z 1 rfl rfl fun a Z => ?_
   refine s_end Z [6] rfl fun Z => ?_
   refine p_then (wp_ret ?_)
   refine f_retM Z H 3 rfl fun w12 H => ?_
   replace H := H.nf rfl; try dsimp only at H
   obtain ⟨I4, _, H⟩ := H.frzow 3 rfl
   replace H := H.nf rfl; try dsimp only at H
   obtain rfl := some_in hF
   exact ⟨_, (run_results1 rfl Z rfl), v3, rfl, I4, (H.sub [(0, true)] rfl).eq rfl⟩
  ·replace hF := ite_f hc2 hF
   refine wp_exit ?_
   refine f_exit_here ?_
   refine p_then (wp_seq (f_region Z ?_)); clear Z; intro Z
   refine sO Z _ rfl (oL tMv1 rfl rfl (H.bc 1 0 rfl rfl)) fun a Z => ?_
   refine s_runk tMv1 Z 1 rfl rfl fun a Z => ?_
   refine s_end Z [6] rfl fun Z => ?_
   refine p_then (wp_ret ?_)
   refine f_retM Z H 3 rfl fun w13 H => ?_
   replace H := H.nf rfl; try dsimp only at H
   obtain ⟨I5, _, H⟩ := H.frzow 3 rfl
   replace H := H.nf rfl; try dsimp only at H
   obtain rfl := some_in hF
   exact ⟨_, (run_results1 rfl Z rfl), v3, rfl, I5, (H.sub [(0, true)] rfl).eq rfl⟩

def F_keys_In (k : ByteArray) (from_ : ByteArray) (to_ : ByteArray) : Option Bool := if (sltB k from_) = true then (some false) else (some ((seqB to_ ⟨#[]⟩) || (sltB k to_)))

set_option maxHeartbeats 1000000 in
theorem c_keys_In {I D : Dm} {k : ByteArray} {from_ : ByteArray} {to_ : ByteArray} {w : World} {rr : Bool} (hF : F_keys_In k from_ to_ = some rr) (H : St I D w []) :
  Calls Try.prog 47 #[vS k, vS from_, vS to_] w (Ret fun vv w' => vv = vT rr ∧ ∃ I', Hf I D w I' w' []) := by
 replace H := H.hf
 unfold F_keys_In at hF
 refine f_enter 17 Try.func47 rfl rfl (Nat.le_of_ble_eq_true rfl) fun a Z => ?_
 replace Z := Z.sub (ts := [0, 1, 2]) rfl
 refine wp_seq (f_region Z ?_); clear Z; intro Z
 refine s_runk tMv1 Z 1 rfl rfl fun a Z => ?_
 refine s_end Z [0, 1, 2, 6] rfl fun Z => ?_
 refine p_then (wp_seq ?_)
 refine wp_seq (f_region Z ?_); clear Z; intro Z
 refine s_runk tMv1 Z 3 rfl rfl fun a Z => ?_
 refine s_end Z [0, 2, 6, 9] rfl fun Z => ?_
 refine p_then ?_
 refine f_cond Z rfl (fun hc1 => ?_) (fun hc1 => ?_)
 ·replace hF := ite_t hc1 hF
  refine wp_seq (f_region Z ?_); clear Z; intro Z
  refine s_runk tMv1 Z 1 rfl rfl fun a Z => ?_
  refine s_end Z [0, 2, 6] rfl fun Z => ?_
  refine p_then (wp_ret ?_)
  refine p_then_r ?_
  obtain rfl := some_in hF
  exact f_ret Z (run_results1 rfl Z rfl) ⟨rfl, I, (H.sub [] rfl).eq rfl⟩
 ·replace hF := ite_f hc1 hF
  refine wp_skip ?_
  refine p_then (wp_seq (f_region Z ?_)); clear Z; intro Z
  refine s_runk tMv1 Z 3 rfl rfl fun a Z => ?_
  refine gO Z (vS k) rfl (wantB_f _) (.n 0 rfl .z) (fun hp => Ob_c tMv1 rfl) fun a Z => ?_
  refine gO Z (vS to_) rfl (wantB_f _) (.n 2 rfl .z) (fun hp => Ob_c tMv1 rfl) fun a Z => ?_
  refine gO Z (vT (sltB k to_)) rfl (wantB_f _) (.c 13 rfl id (.c 14 rfl id .z)) (fun hp => Ob_c tMv1 rfl) fun a Z => ?_
  refine sO Z (vT ((seqB to_ ⟨#[]⟩) || (sltB k to_))) rfl (Ob_pick rfl rfl rfl rfl (pick_or _ _)) fun a Z => ?_
  refine s_runk tMv1 Z 1 rfl rfl fun a Z => ?_
  refine s_end Z [6] rfl fun Z => ?_
  refine p_then (wp_ret ?_)
  obtain rfl := some_in hF
  exact f_ret Z (run_results1 rfl Z rfl) ⟨rfl, I, (H.sub [] rfl).eq rfl⟩

def F_mvcc_Store_Scan_k1 (out : List EPair) (more : Bool) (s0_2 : Emvcc_Store) : Option ((List EPair) × Bool × Emvcc_Store) := some (out, more, s0_2)

def F_mvcc_Store_Scan_k3 (x_2 : Int) (rc : ((List EPair) × Int × Emvcc_Store) → Option ((List EPair) × Bool × Emvcc_Store)) (out_3 : List EPair) (v : ByteArray) (ok : Bool) (x_0 : ByteArray) (x_1 : Bool) (x_0_2 : ByteArray) (x_1_2 : Bool) (x_3 : ByteArray) (x_4 : Bool) (x_5 : Bool) (x_6 : Bool) (x_7 : Bool) (x_8 : Bool) (x_9 : Bool) (s0_4 : Emvcc_Store) : Option ((List EPair) × Bool × Emvcc_Store) := chk (inI (x_2 + 1)) (rc (out_3, x_2 + 1, s0_4))

def F_mvcc_Store_Scan_l2 (from_ : ByteArray) (to_ : ByteArray) (t : Int) (most : Int) (n0_2 : List ByteArray) (rc : ((List EPair) × Int × Emvcc_Store) → Option ((List EPair) × Bool × Emvcc_Store)) (sg : (List EPair) × Int × Emvcc_Store) : Option ((List EPair) × Bool × Emvcc_Store) := match sg with | (out_2, x_2, s0_3) => if (decide (x_2 < (n0_2.length : Int))) = true then (chk ((0 : Int) ≤ x_2 ∧ x_2 < (n0_2.length : Int)) ((F_mvcc_Store_Get s0_3 (n0_2.getD (x_2).toNat default) t).bind fun g => ((gif (!(!g.2.1)) (F_keys_In (n0_2.getD (x_2).toNat default) from_ to_) default).bind fun i => (if ((!g.2.1) || (!i)) = true then (F_mvcc_Store_Scan_k3 x_2 rc out_2 g.1 g.2.1 g.1 g.2.1 g.1 g.2.1 g.1 g.2.1 ((!g.2.1) || (!i)) g.2.1 (!g.2.1) (!g.2.1) ((!g.2.1) || (!i)) g.2.2) else (if (decide ((out_2.length : Int) ≥ most)) = true then (F_mvcc_Store_Scan_k1 out_2 true g.2.2) else (chk (((out_2.length + [({ key := (n0_2.getD (x_2).toNat default), val := g.1 } : EPair)].length : Nat) : Int) * 32 ≤ 140737488355328) (F_mvcc_Store_Scan_k3 x_2 rc (out_2 ++ [({ key := (n0_2.getD (x_2).toNat default), val := g.1 } : EPair)]) g.1 g.2.1 g.1 g.2.1 g.1 g.2.1 g.1 g.2.1 ((!g.2.1) || (!i)) g.2.1 (!g.2.1) (!g.2.1) ((!g.2.1) || (!i)) g.2.2))))))) else (F_mvcc_Store_Scan_k1 out_2 false s0_3)

def F_mvcc_Store_Scan_k5 (x_10 : Int) (rc_2 : ((List EPair) × Int × Emvcc_Store) → Option ((List EPair) × Bool × Emvcc_Store)) (out_5 : List EPair) (v_2 : ByteArray) (ok_2 : Bool) (x_0_3 : ByteArray) (x_1_3 : Bool) (x_0_4 : ByteArray) (x_1_4 : Bool) (x_11 : ByteArray) (x_12 : Bool) (x_13 : Bool) (x_14 : Bool) (x_15 : Bool) (x_16 : Bool) (x_17 : Bool) (s0_6 : Emvcc_Store) : Option ((List EPair) × Bool × Emvcc_Store) := chk (inI (x_10 + 1)) (rc_2 (out_5, x_10 + 1, s0_6))

def F_mvcc_Store_Scan_l4 (from_ : ByteArray) (to_ : ByteArray) (t : Int) (most : Int) (k : (List ByteArray) × Etree_Tree_api_Cell) (rc_2 : ((List EPair) × Int × Emvcc_Store) → Option ((List EPair) × Bool × Emvcc_Store)) (sg : (List EPair) × Int × Emvcc_Store) : Option ((List EPair) × Bool × Emvcc_Store) := match sg with | (out_4, x_10, s0_5) => if (decide (x_10 < (k.1.length : Int))) = true then (chk ((0 : Int) ≤ x_10 ∧ x_10 < (k.1.length : Int)) ((F_mvcc_Store_Get s0_5 (k.1.getD (x_10).toNat default) t).bind fun g_2 => ((gif (!(!g_2.2.1)) (F_keys_In (k.1.getD (x_10).toNat default) from_ to_) default).bind fun i_2 => (if ((!g_2.2.1) || (!i_2)) = true then (F_mvcc_Store_Scan_k5 x_10 rc_2 out_4 g_2.1 g_2.2.1 g_2.1 g_2.2.1 g_2.1 g_2.2.1 g_2.1 g_2.2.1 ((!g_2.2.1) || (!i_2)) g_2.2.1 (!g_2.2.1) (!g_2.2.1) ((!g_2.2.1) || (!i_2)) g_2.2.2) else (if (decide ((out_4.length : Int) ≥ most)) = true then (F_mvcc_Store_Scan_k1 out_4 true g_2.2.2) else (chk (((out_4.length + [({ key := (k.1.getD (x_10).toNat default), val := g_2.1 } : EPair)].length : Nat) : Int) * 32 ≤ 140737488355328) (F_mvcc_Store_Scan_k5 x_10 rc_2 (out_4 ++ [({ key := (k.1.getD (x_10).toNat default), val := g_2.1 } : EPair)]) g_2.1 g_2.2.1 g_2.1 g_2.2.1 g_2.1 g_2.2.1 g_2.1 g_2.2.1 ((!g_2.2.1) || (!i_2)) g_2.2.1 (!g_2.2.1) (!g_2.2.1) ((!g_2.2.1) || (!i_2)) g_2.2.2))))))) else (F_mvcc_Store_Scan_k1 out_4 false s0_5)

def F_mvcc_Store_Scan (s0 : Emvcc_Store) (from_ : ByteArray) (to_ : ByteArray) (t : Int) (most : Int) : Option ((List EPair) × Bool × Emvcc_Store) := (F_mvcc_Store_none s0).bind fun n0 => (if (n0) = true then (some (([] : List EPair), false, s0)) else (optE s0.t ((F_tree_Tree_api_Cell_Keys_nil from_ to_).bind fun n0_2 => (iter (F_mvcc_Store_Scan_l2 from_ to_ t most n0_2) FU (([] : List EPair), 0, ({ s0 with t := none } : Emvcc_Store)))) (fun x => (F_tree_Tree_api_Cell_Keys x from_ to_).bind fun k => (iter (F_mvcc_Store_Scan_l4 from_ to_ t most k) FU (([] : List EPair), 0, ({ s0 with t := some k.2 } : Emvcc_Store))))))

set_option maxHeartbeats 1000000 in
theorem c_mvcc_Store_Scan {I D : Dm} {b_s0 : Nat} {s0 : Emvcc_Store} {from_ : ByteArray} {to_ : ByteArray} {t : Int} {most : Int} {w : World} {rr : (List EPair) × Bool × Emvcc_Store} (hF : F_mvcc_Store_Scan s0 from_ to_ t most = some rr) (H : St I D w [OEmvcc_Store b_s0 s0]) :
  Calls Try.prog 18 #[pp b_s0 0, vS from_, vS to_, vU t, vI most] w (Ret fun vv w' => ∃ q1 : Value, vv = .tuple #[q1, vT rr.2.1] ∧ ∃ I', Hf I D w I' w' [OEmvcc_Store b_s0 rr.2.2, SlC NEPair q1 rr.1]) := by
 replace H := H.hf
 unfold F_mvcc_Store_Scan at hF
 refine f_enter 63 Try.func18 rfl rfl (Nat.le_of_ble_eq_true rfl) fun a Z => ?_
 replace Z := Z.sub (ts := [0, 1, 2, 3, 4]) rfl
 refine wp_seq (f_region Z ?_); clear Z; intro Z
 refine s_runk tMv1 Z 2 rfl rfl fun a Z => ?_
 refine s_end Z [0, 1, 2, 3, 4, 10, 11] rfl fun Z => ?_
 refine p_then ?_
 refine wp_scope_straight ?_
 refine wp_seq ?_
 refine wp_seq ?_
 obtain ⟨n0, hx1, hF⟩ := bnd_in hF
 refine f_region Z fun Z => ?_
 refine s_runk tMv1 Z 1 rfl rfl fun a Z => ?_
 refine hC Z H [(0, false)] rfl #[] fn_45_YMv1 rfl rfl (fun D h => have q := c_mvcc_Store_none hx1 h; q) fun vv a w1 D2 hr hF2 Z => ?_
 obtain ⟨rfl, I1, K⟩ := hr
 have H := (hF2 K).nf rfl
 refine s_end Z [0, 1, 2, 3, 4, 10, 11, 19] rfl fun Z => ?_
 refine p_then ?_
 refine f_cond Z rfl (fun hc1 => ?_) (fun hc1 => ?_)
 ·replace hF := ite_t hc1 hF
  refine wp_seq (f_region Z ?_); clear Z; intro Z
  refine s_runk tMv1 Z 2 rfl rfl fun a Z => ?_
  refine s_end Z [0, 1, 2, 3, 4, 10, 11] rfl fun Z => ?_
  refine p_then (wp_ret ?_)
  refine p_then_r ?_
  refine p_scp_r ?_
  replace H := H.slNil NEPair
  obtain rfl := some_in hF
  exact f_ret Z (run_results2 rfl Z rfl rfl) ⟨nS, rfl, I1, (H.sub [(1, false), (0, true)] rfl).eq rfl⟩
 ·replace hF := ite_f hc1 hF
  refine wp_skip ?_
  refine p_then (wp_seq (f_region Z ?_)); clear Z; intro Z
  refine s_runk tMv1 Z 1 rfl rfl fun a Z => ?_
  refine s_end Z [0, 1, 2, 3, 4, 10, 11, 12] rfl fun Z => ?_
  refine p_then (wp_seq (f_region Z ?_)); clear Z; intro Z
  refine s_runk tMv1 Z 1 rfl rfl fun a Z => ?_
  refine s_end Z [0, 1, 2, 3, 4, 10, 11, 12, 13] rfl fun Z => ?_
  refine p_then (wp_seq ?_)
  refine wp_label ?_
  refine p_then ?_
  refine f_cut (fun a' w' => ∃ (out : List EPair) (more : Bool) (s0_2 : Emvcc_Store), ∃ v1 : Value, Sl 63 [(10, nS), (11, vT false), (12, v1), (13, vT more)] a' ∧ (∃ I2, Hf I D w I2 w' [OEmvcc_Store b_s0 s0_2, OwC NEPair 97 v1 out]) ∧ F_mvcc_Store_Scan_k1 out more s0_2 = some rr) ?_ ?_
  ·rintro a w2 ⟨out, more, s0_2, v1, Z, ⟨I2, H⟩, hF⟩
   unfold F_mvcc_Store_Scan_k1 at hF
   try dsimp only at hF
   refine wp_seq (f_region Z ?_); clear Z; intro Z
   refine s_runk tMv1 Z 4 rfl rfl fun a Z => ?_
   refine s_end Z [10, 11] rfl fun Z => ?_
   refine p_then (wp_ret ?_)
   refine p_scp_r ?_
   obtain ⟨I3, _, H⟩ := H.frzow 1 rfl
   replace H := H.nf rfl; try dsimp only at H
   obtain rfl := some_in hF
   exact f_ret Z (run_results2 rfl Z rfl rfl) ⟨v1, rfl, I3, (H.sub [(1, false), (0, true)] rfl).eq rfl⟩
  ·skip
   refine wp_seq ?_
   obtain ⟨v2, H⟩ := H.openX 0 rfl
   replace H := H.nf rfl; try dsimp only at H
   rcases optE_in hF with ⟨ho1, hF⟩ | ⟨x, ho1, hF⟩
   ·obtain ⟨hv, H⟩ := H.optN 1 rfl ho1
    (try have Zq27 := Z); subst hv; (try have Z := Zq27)
    replace H := H.nf rfl; try dsimp only at H
    obtain ⟨n0_2, hx2, hF⟩ := bnd_in hF
    refine f_region Z fun Z => ?_
    refine s_runk tMv1 Z 3 rfl rfl fun a Z => ?_
    refine sO Z _ rfl (oL tMv1 rfl rfl (H.bc 0 0 rfl rfl)) fun a Z => ?_
    refine s_runk tMv1 Z 2 rfl rfl fun a Z => ?_
    refine hC Z H [] rfl #[] fn_46_YMv1 rfl rfl (fun D h => have q := c_tree_Tree_api_Cell_Keys_nil hx2 h; q) fun vv a w3 D2 hr hF2 Z => ?_
    obtain ⟨q1, hvv, I4, K⟩ := hr; obtain rfl := hvv.symm
    have H := (hF2 K).nf rfl
    refine sO Z (vI (ln n0_2)) rfl (Ob_slen tMv1 rfl rfl rfl (H.slshape 0 rfl)) fun a Z => ?_
    refine s_runk tMv1 Z 1 rfl rfl fun a Z => ?_
    refine s_end Z [0, 1, 2, 3, 4, 10, 11, 12, 13, 26, 27, 28] rfl fun Z => ?_
    refine p_then (wp_block ?_)
    replace H := H.mkN OEtree_Tree_api_Cell
    replace H := H.sX (OEmvcc_Store b_s0 ({ s0 with t := none } : Emvcc_Store)) (nP) [(2, false), (0, false)] rfl rfl rfl
    replace H := H.nilow NEPair 97
    refine f_iter hF (fun sg a' w' => match sg with | (out_2, x_2, s0_3) => ∃ v3 : Value, Sl 63 [(0, pp b_s0 0), (1, vS from_), (2, vS to_), (3, vU t), (4, vI most), (10, nS), (11, vT false), (12, v3), (13, vT false), (26, q1), (27, vI (ln n0_2)), (28, vI x_2)] a' ∧ ∃ I2, Hf I D w I2 w' [OEmvcc_Store b_s0 s0_3, SlC NS q1 n0_2, OwC NEPair 97 v3 out_2]) ⟨nS, Z.sub (ts := [0, 1, 2, 3, 4, 10, 11, 12, 13, 26, 27, 28]) rfl, ⟨I4, (H.sub [(1, false), (1, true), (0, false)] rfl).eq rfl⟩⟩ ?_
    rintro rc ⟨out_2, x_2, s0_3⟩ a w4 ⟨v3, Z, I5, H⟩ hF
    unfold F_mvcc_Store_Scan_l2 at hF
    try dsimp only at hF
    refine wp_seq (f_region Z ?_); clear Z; intro Z
    refine s_runk tMv1 Z 1 rfl rfl fun a Z => ?_
    refine s_end Z [0, 1, 2, 3, 4, 10, 11, 12, 13, 26, 27, 28, 29] rfl fun Z => ?_
    refine p_then (wp_seq ?_)
    refine f_cond Z rfl (fun hc2 => ?_) (fun hc2 => ?_)
    ·replace hF := ite_t hc2 hF
     refine wp_skip ?_
     refine p_then ?_
     refine f_cut (fun a' w' => ∃ (out_3 : List EPair) (v : ByteArray) (ok : Bool) (x_0 : ByteArray) (x_1 : Bool) (x_0_2 : ByteArray) (x_1_2 : Bool) (x_3 : ByteArray) (x_4 : Bool) (x_5 : Bool) (x_6 : Bool) (x_7 : Bool) (x_8 : Bool) (x_9 : Bool) (s0_4 : Emvcc_Store), ∃ v4 : Value, Sl 63 [(0, pp b_s0 0), (1, vS from_), (2, vS to_), (3, vU t), (4, vI most), (10, nS), (11, vT false), (12, v4), (13, vT false), (15, vS (gi n0_2 x_2)), (16, vS v), (17, vT ok), (26, q1), (27, vI (ln n0_2)), (28, vI x_2), (29, vT (decide (x_2 < (ln n0_2)))), (30, .pointer (some ⟨blkOf q1, oofOf q1 + (x_2).toNat * 1, none⟩)), (31, vS (gi n0_2 x_2)), (32, .tuple #[vS x_0, vT x_1]), (33, pp b_s0 0), (34, vS (gi n0_2 x_2)), (35, vU t), (36, .tuple #[vS x_0_2, vT x_1_2]), (37, vS x_3), (38, vT x_4), (39, vT x_5), (40, vT x_6), (41, vT x_7), (42, vT x_8), (48, vT x_9)] a' ∧ (∃ I2, Hf I D w I2 w' [OEmvcc_Store b_s0 s0_4, SlC NS q1 n0_2, OwC NEPair 97 v4 out_3]) ∧ F_mvcc_Store_Scan_k3 x_2 rc out_3 v ok x_0 x_1 x_0_2 x_1_2 x_3 x_4 x_5 x_6 x_7 x_8 x_9 s0_4 = some rr) ?_ ?_
     ·rintro a w5 ⟨out_3, v, ok, x_0, x_1, x_0_2, x_1_2, x_3, x_4, x_5, x_6, x_7, x_8, x_9, s0_4, v4, Z, ⟨I6, H⟩, hF⟩
      unfold F_mvcc_Store_Scan_k3 at hF
      try dsimp only at hF
      obtain ⟨hg1, hF⟩ := chk_in hF
      refine f_region Z fun Z => ?_
      refine sO Z (vI (x_2 + 1)) rfl (Ob_add rfl rfl rfl (wrI hg1)) fun a Z => ?_
      refine s_runk tMv1 Z 1 rfl rfl fun a Z => ?_
      refine s_end Z [0, 1, 2, 3, 4, 10, 11, 12, 13, 15, 16, 17, 26, 27, 28, 29, 30, 31, 32, 33, 34, 35, 36, 37, 38, 39, 40, 41, 42, 48, 60] rfl fun Z => ?_
      refine p_then ?_
      exact ⟨(out_3, x_2 + 1, s0_4), ⟨v4, Z.sub (ts := [0, 1, 2, 3, 4, 10, 11, 12, 13, 26, 27, 28]) rfl, ⟨I6, (H.sub [(0, false), (0, true), (1, false)] rfl).eq rfl⟩⟩, hF⟩
     ·skip
      refine wp_block ?_
      refine wp_seq ?_
      obtain ⟨hg2, hF⟩ := chk_in hF
      refine f_region Z fun Z => ?_
      refine sO Z (.pointer (some ⟨blkOf q1, oofOf q1 + (x_2).toNat * 1, none⟩)) rfl (Ob_sidx tMv1 rfl rfl rfl rfl (slPl (H.sl 1 rfl) hg2) hg2) fun a Z => ?_
      refine sO Z (vS (gi n0_2 x_2)) rfl (oL tMv1 rfl rfl ((slFl (H.sl 1 rfl) hg2) 0 _ rfl)) fun a Z => ?_
      refine s_runk tMv1 Z 1 rfl rfl fun a Z => ?_
      refine s_end Z [0, 1, 2, 3, 4, 10, 11, 12, 13, 26, 27, 28, 29, 30, 31, 15] rfl fun Z => ?_
      refine p_then (wp_seq ?_)
      obtain ⟨g, hx3, hF⟩ := bnd_in hF
      refine f_region Z fun Z => ?_
      refine s_runk tMv1 Z 3 rfl rfl fun a Z => ?_
      refine hC Z H [(0, false)] rfl #[] fn_28_YMv1 rfl rfl (fun D h => have q := c_mvcc_Store_Get hx3 h; q) fun vv a w6 D2 hr hF2 Z => ?_
      obtain ⟨rfl, I7, K⟩ := hr
      have H := (hF2 K).nf rfl
      refine s_runk tMv1 Z 5 rfl rfl fun a Z => ?_
      refine s_end Z [0, 1, 2, 3, 4, 10, 11, 12, 13, 26, 27, 28, 29, 30, 31, 15, 33, 34, 35, 36, 32, 37, 38, 16, 17] rfl fun Z => ?_
      refine p_then (wp_seq ?_)
      refine wp_block ?_
      refine wp_seq ?_
      obtain ⟨i, hx4, hF⟩ := bnd_in hF
      refine f_region Z fun Z => ?_
      refine s_runk tMv1 Z 3 rfl rfl fun a Z => ?_
      refine gO Z (vS (gi n0_2 x_2)) rfl (wantB_f _) (.n 15 rfl .z) (fun hp => Ob_c tMv1 rfl) fun a Z => ?_
      refine gO Z (vS from_) rfl (wantB_f _) (.n 1 rfl .z) (fun hp => Ob_c tMv1 rfl) fun a Z => ?_
      refine gO Z (vS to_) rfl (wantB_f _) (.n 2 rfl .z) (fun hp => Ob_c tMv1 rfl) fun a Z => ?_
      refine g_call Z (p := (!(!g.2.1))) (v := vT i) (S' := [(43, vS (gi n0_2 x_2)), (44, vS from_), (45, vS to_)]) (caps := #[]) fn_47_YMv1 rfl rfl rfl (wantB_f _) rfl (by decide) (fun hp hS => (((hS.conv (t := 43) rfl (cond_t hp)).conv (t := 44) rfl (cond_t hp)).conv (t := 45) rfl (cond_t hp)).sub (ts := [43, 44, 45]) rfl) rfl rfl rfl rfl (fun hp => (have hq := c_keys_In (gif_in hx4 hp) ((H).pick0 (js := []) rfl rfl); plainC hq)) fun a w7 hb Z => ?_
      replace H := H.blw hb
      clear hb
      refine gO Z (vT (!i)) rfl (wantB_f _) (.c 46 rfl id .z) (fun hp => Ob_c tMv1 rfl) fun a Z => ?_
      refine sO Z (vT ((!g.2.1) || (!i))) rfl (Ob_pick rfl rfl rfl rfl (pick_or _ _)) fun a Z => ?_
      refine s_runk tMv1 Z 1 rfl rfl fun a Z => ?_
      refine s_end Z [0, 1, 2, 3, 4, 10, 11, 12, 13, 26, 27, 28, 29, 30, 31, 15, 33, 34, 35, 36, 32, 37, 38, 16, 17, 40, 41, 42, 48, 39] rfl fun Z => ?_
      refine p_then ?_
      refine f_cond Z rfl (fun hc3 => ?_) (fun hc3 => ?_)
      ·replace hF := ite_t hc3 hF
       refine wp_exit ?_
       refine f_exit_out (by decide) ?_
       refine p_then_x ?_
       refine f_exit_here ?_
       refine p_then ?_
       exact ⟨out_2, g.1, g.2.1, g.1, g.2.1, g.1, g.2.1, g.1, g.2.1, (!g.2.1) || (!i), g.2.1, !g.2.1, !g.2.1, (!g.2.1) || (!i), g.2.2, v3, Z.sub (ts := [0, 1, 2, 3, 4, 10, 11, 12, 13, 15, 16, 17, 26, 27, 28, 29, 30, 31, 32, 33, 34, 35, 36, 37, 38, 39, 40, 41, 42, 48]) rfl, ⟨I7, (H.sub [(0, false), (0, true), (1, false)] rfl).eq rfl⟩, hF⟩
      ·replace hF := ite_f hc3 hF
       refine wp_seq (f_region Z ?_); clear Z; intro Z
       refine s_runk tMv1 Z 1 rfl rfl fun a Z => ?_
       refine sO Z (vI (ln out_2)) rfl (Ob_slen tMv1 rfl rfl rfl (H.owshape 2 rfl)) fun a Z => ?_
       refine s_runk tMv1 Z 3 rfl rfl fun a Z => ?_
       refine s_end Z [0, 1, 2, 3, 4, 10, 11, 12, 13, 26, 27, 28, 29, 30, 31, 15, 33, 34, 35, 36, 32, 37, 38, 16, 17, 40, 41, 42, 48, 39, 50, 51, 52, 53, 49] rfl fun Z => ?_
       refine p_then ?_
       refine f_cond Z rfl (fun hc4 => ?_) (fun hc4 => ?_)
       ·replace hF := ite_t hc4 hF
        refine wp_seq (f_region Z ?_); clear Z; intro Z
        refine s_runk tMv1 Z 1 rfl rfl fun a Z => ?_
        refine s_end Z [0, 1, 2, 3, 4, 10, 11, 12, 13, 26, 27, 28, 29, 30, 31, 15, 33, 34, 35, 36, 32, 37, 38, 16, 17, 40, 41, 42, 48, 39, 50, 51, 52, 53, 49] rfl fun Z => ?_
        refine p_then ?_
        refine wp_exit ?_
        refine f_exit_out (by decide) ?_
        refine p_then_x ?_
        refine f_exit_out (by decide) ?_
        refine p_then_x ?_
        refine p_then_x ?_
        refine f_exit_here ?_
        refine p_then ?_
        exact ⟨out_2, true, g.2.2, v3, Z.sub (ts := [10, 11, 12, 13]) rfl, ⟨I7, (H.sub [(0, false), (1, false)] rfl).eq rfl⟩, hF⟩
       ·replace hF := ite_f hc4 hF
        refine wp_skip ?_
        refine p_blk ?_
        refine p_then ?_
        obtain ⟨hg3, hF⟩ := chk_in hF
        refine f_region Z fun Z => ?_
        refine s_runk tMv1 Z 3 rfl rfl fun a Z => ?_
        refine sO Z (.agg #[vS (gi n0_2 x_2), vS g.1]) rfl (Ob_build (vs := [(0, vS (gi n0_2 x_2)), (1, vS g.1)]) rfl rfl (by go_simp <;> rfl)) fun a Z => ?_
        refine h_bslice Z H (vs := [(0, .agg #[vS (gi n0_2 x_2), vS g.1])]) (cl := [vS (gi n0_2 x_2), vS g.1]) (e := 97) rfl rfl rfl (by decide) rfl rfl (fun w => run_bslice (z := .agg #[vS ByteArray.empty, vS ByteArray.empty]) (m := 2) Try.underlying58 (by kernel_rfl) rfl rfl (by decide) (by simp [Instr.fill, Value.cells]) w) fun a w8 b2 H Z => ?_
        refine h_appO Z H 3 E_58_YMv1 [({ key := (gi n0_2 x_2), val := g.1 } : EPair)] rfl rfl rfl rfl rfl (by decide) rfl rfl rfl (slRep2.box1 (H.bx 0 rfl) ⟨rfl, trivial⟩) hg3 (by decide) fun v5 a w9 H Z => ?_
        dsimp only [List.eraseIdx] at H
        replace H := (H.sub [(0, false), (1, false), (1, true)] rfl).nf rfl
        refine s_runk tMv1 Z 1 rfl rfl fun a Z => ?_
        refine s_end Z [0, 1, 2, 3, 4, 10, 11, 12, 13, 26, 27, 28, 29, 30, 31, 15, 33, 34, 35, 36, 32, 37, 38, 16, 17, 40, 41, 42, 48, 39, 50, 51, 52, 53, 49, 54, 55, 56, 57, 58, 59] rfl fun Z => ?_
        refine p_blk ?_
        refine p_then ?_
        exact ⟨out_2 ++ [({ key := (gi n0_2 x_2), val := g.1 } : EPair)], g.1, g.2.1, g.1, g.2.1, g.1, g.2.1, g.1, g.2.1, (!g.2.1) || (!i), g.2.1, !g.2.1, !g.2.1, (!g.2.1) || (!i), g.2.2, v5, Z.sub (ts := [0, 1, 2, 3, 4, 10, 11, 12, 13, 15, 16, 17, 26, 27, 28, 29, 30, 31, 32, 33, 34, 35, 36, 37, 38, 39, 40, 41, 42, 48]) rfl, ⟨I7, (H.sub [(1, false), (1, true), (0, false)] rfl).eq rfl⟩, hF⟩
    ·replace hF := ite_f hc2 hF
     refine wp_exit ?_
     refine p_then_x ?_
     refine p_then_x ?_
     refine f_exit_here ?_
     refine p_then ?_
     exact ⟨out_2, false, s0_3, v3, Z.sub (ts := [10, 11, 12, 13]) rfl, ⟨I5, (H.sub [(0, false), (1, false)] rfl).eq rfl⟩, hF⟩
   ·obtain ⟨b1, hv, H⟩ := H.optS 1 rfl ho1
    (try have Zq28 := Z); subst hv; (try have Z := Zq28)
    replace H := H.nf rfl; try dsimp only at H
    obtain ⟨k, hx5, hF⟩ := bnd_in hF
    refine f_region Z fun Z => ?_
    refine s_runk tMv1 Z 3 rfl rfl fun a Z => ?_
    refine sO Z _ rfl (oL tMv1 rfl rfl (H.bc 1 0 rfl rfl)) fun a Z => ?_
    refine s_runk tMv1 Z 2 rfl rfl fun a Z => ?_
    refine hC Z H [(0, false)] rfl #[] fn_46_YMv1 rfl rfl (fun D h => have q := c_tree_Tree_api_Cell_Keys hx5 h; q) fun vv a w10 D2 hr hF2 Z => ?_
    obtain ⟨q2, hvv, I8, K⟩ := hr; obtain rfl := hvv.symm
    have H := (hF2 K).nf rfl
    refine sO Z (vI (ln k.1)) rfl (Ob_slen tMv1 rfl rfl rfl (H.slshape 1 rfl)) fun a Z => ?_
    refine s_runk tMv1 Z 1 rfl rfl fun a Z => ?_
    refine s_end Z [0, 1, 2, 3, 4, 10, 11, 12, 13, 26, 27, 28] rfl fun Z => ?_
    refine p_then (wp_block ?_)
    replace H := (H.mkS (K := OEtree_Tree_api_Cell) 0 rfl).nf rfl
    replace H := H.sX (OEmvcc_Store b_s0 ({ s0 with t := some k.2 } : Emvcc_Store)) (pp b1 0) [(2, false), (0, false)] rfl rfl rfl
    replace H := H.nilow NEPair 97
    refine f_iter hF (fun sg a' w' => match sg with | (out_4, x_10, s0_5) => ∃ v6 : Value, Sl 63 [(0, pp b_s0 0), (1, vS from_), (2, vS to_), (3, vU t), (4, vI most), (10, nS), (11, vT false), (12, v6), (13, vT false), (26, q2), (27, vI (ln k.1)), (28, vI x_10)] a' ∧ ∃ I2, Hf I D w I2 w' [OEmvcc_Store b_s0 s0_5, SlC NS q2 k.1, OwC NEPair 97 v6 out_4]) ⟨nS, Z.sub (ts := [0, 1, 2, 3, 4, 10, 11, 12, 13, 26, 27, 28]) rfl, ⟨I8, (H.sub [(1, false), (1, true), (0, false)] rfl).eq rfl⟩⟩ ?_
    rintro rc_2 ⟨out_4, x_10, s0_5⟩ a w11 ⟨v6, Z, I9, H⟩ hF
    unfold F_mvcc_Store_Scan_l4 at hF
    try dsimp only at hF
    refine wp_seq (f_region Z ?_); clear Z; intro Z
    refine s_runk tMv1 Z 1 rfl rfl fun a Z => ?_
    refine s_end Z [0, 1, 2, 3, 4, 10, 11, 12, 13, 26, 27, 28, 29] rfl fun Z => ?_
    refine p_then (wp_seq ?_)
    refine f_cond Z rfl (fun hc5 => ?_) (fun hc5 => ?_)
    ·replace hF := ite_t hc5 hF
     refine wp_skip ?_
     refine p_then ?_
     refine f_cut (fun a' w' => ∃ (out_5 : List EPair) (v_2 : ByteArray) (ok_2 : Bool) (x_0_3 : ByteArray) (x_1_3 : Bool) (x_0_4 : ByteArray) (x_1_4 : Bool) (x_11 : ByteArray) (x_12 : Bool) (x_13 : Bool) (x_14 : Bool) (x_15 : Bool) (x_16 : Bool) (x_17 : Bool) (s0_6 : Emvcc_Store), ∃ v7 : Value, Sl 63 [(0, pp b_s0 0), (1, vS from_), (2, vS to_), (3, vU t), (4, vI most), (10, nS), (11, vT false), (12, v7), (13, vT false), (15, vS (gi k.1 x_10)), (16, vS v_2), (17, vT ok_2), (26, q2), (27, vI (ln k.1)), (28, vI x_10), (29, vT (decide (x_10 < (ln k.1)))), (30, .pointer (some ⟨blkOf q2, oofOf q2 + (x_10).toNat * 1, none⟩)), (31, vS (gi k.1 x_10)), (32, .tuple #[vS x_0_3, vT x_1_3]), (33, pp b_s0 0), (34, vS (gi k.1 x_10)), (35, vU t), (36, .tuple #[vS x_0_4, vT x_1_4]), (37, vS x_11), (38, vT x_12), (39, vT x_13), (40, vT x_14), (41, vT x_15), (42, vT x_16), (48, vT x_17)] a' ∧ (∃ I2, Hf I D w I2 w' [OEmvcc_Store b_s0 s0_6, SlC NS q2 k.1, OwC NEPair 97 v7 out_5]) ∧ F_mvcc_Store_Scan_k5 x_10 rc_2 out_5 v_2 ok_2 x_0_3 x_1_3 x_0_4 x_1_4 x_11 x_12 x_13 x_14 x_15 x_16 x_17 s0_6 = some rr) ?_ ?_
     ·rintro a w12 ⟨out_5, v_2, ok_2, x_0_3, x_1_3, x_0_4, x_1_4, x_11, x_12, x_13, x_14, x_15, x_16, x_17, s0_6, v7, Z, ⟨I10, H⟩, hF⟩
      unfold F_mvcc_Store_Scan_k5 at hF
      try dsimp only at hF
      obtain ⟨hg4, hF⟩ := chk_in hF
      refine f_region Z fun Z => ?_
      refine sO Z (vI (x_10 + 1)) rfl (Ob_add rfl rfl rfl (wrI hg4)) fun a Z => ?_
      refine s_runk tMv1 Z 1 rfl rfl fun a Z => ?_
      refine s_end Z [0, 1, 2, 3, 4, 10, 11, 12, 13, 15, 16, 17, 26, 27, 28, 29, 30, 31, 32, 33, 34, 35, 36, 37, 38, 39, 40, 41, 42, 48, 60] rfl fun Z => ?_
      refine p_then ?_
      exact ⟨(out_5, x_10 + 1, s0_6), ⟨v7, Z.sub (ts := [0, 1, 2, 3, 4, 10, 11, 12, 13, 26, 27, 28]) rfl, ⟨I10, (H.sub [(0, false), (0, true), (1, false)] rfl).eq rfl⟩⟩, hF⟩
     ·skip
      refine wp_block ?_
      refine wp_seq ?_
      obtain ⟨hg5, hF⟩ := chk_in hF
      refine f_region Z fun Z => ?_
      refine sO Z (.pointer (some ⟨blkOf q2, oofOf q2 + (x_10).toNat * 1, none⟩)) rfl (Ob_sidx tMv1 rfl rfl rfl rfl (slPl (H.sl 1 rfl) hg5) hg5) fun a Z => ?_
      refine sO Z (vS (gi k.1 x_10)) rfl (oL tMv1 rfl rfl ((slFl (H.sl 1 rfl) hg5) 0 _ rfl)) fun a Z => ?_
      refine s_runk tMv1 Z 1 rfl rfl fun a Z => ?_
      refine s_end Z [0, 1, 2, 3, 4, 10, 11, 12, 13, 26, 27, 28, 29, 30, 31, 15] rfl fun Z => ?_
      refine p_then (wp_seq ?_)
      obtain ⟨g_2, hx6, hF⟩ := bnd_in hF
      refine f_region Z fun Z => ?_
      refine s_runk tMv1 Z 3 rfl rfl fun a Z => ?_
      refine hC Z H [(0, false)] rfl #[] fn_28_YMv1 rfl rfl (fun D h => have q := c_mvcc_Store_Get hx6 h; q) fun vv a w13 D2 hr hF2 Z => ?_
      obtain ⟨rfl, I11, K⟩ := hr
      have H := (hF2 K).nf rfl
      refine s_runk tMv1 Z 5 rfl rfl fun a Z => ?_
      refine s_end Z [0, 1, 2, 3, 4, 10, 11, 12, 13, 26, 27, 28, 29, 30, 31, 15, 33, 34, 35, 36, 32, 37, 38, 16, 17] rfl fun Z => ?_
      refine p_then (wp_seq ?_)
      refine wp_block ?_
      refine wp_seq ?_
      obtain ⟨i_2, hx7, hF⟩ := bnd_in hF
      refine f_region Z fun Z => ?_
      refine s_runk tMv1 Z 3 rfl rfl fun a Z => ?_
      refine gO Z (vS (gi k.1 x_10)) rfl (wantB_f _) (.n 15 rfl .z) (fun hp => Ob_c tMv1 rfl) fun a Z => ?_
      refine gO Z (vS from_) rfl (wantB_f _) (.n 1 rfl .z) (fun hp => Ob_c tMv1 rfl) fun a Z => ?_
      refine gO Z (vS to_) rfl (wantB_f _) (.n 2 rfl .z) (fun hp => Ob_c tMv1 rfl) fun a Z => ?_
      refine g_call Z (p := (!(!g_2.2.1))) (v := vT i_2) (S' := [(43, vS (gi k.1 x_10)), (44, vS from_), (45, vS to_)]) (caps := #[]) fn_47_YMv1 rfl rfl rfl (wantB_f _) rfl (by decide) (fun hp hS => (((hS.conv (t := 43) rfl (cond_t hp)).conv (t := 44) rfl (cond_t hp)).conv (t := 45) rfl (cond_t hp)).sub (ts := [43, 44, 45]) rfl) rfl rfl rfl rfl (fun hp => (have hq := c_keys_In (gif_in hx7 hp) ((H).pick0 (js := []) rfl rfl); plainC hq)) fun a w14 hb Z => ?_
      replace H := H.blw hb
      clear hb
      refine gO Z (vT (!i_2)) rfl (wantB_f _) (.c 46 rfl id .z) (fun hp => Ob_c tMv1 rfl) fun a Z => ?_
      refine sO Z (vT ((!g_2.2.1) || (!i_2))) rfl (Ob_pick rfl rfl rfl rfl (pick_or _ _)) fun a Z => ?_
      refine s_runk tMv1 Z 1 rfl rfl fun a Z => ?_
      refine s_end Z [0, 1, 2, 3, 4, 10, 11, 12, 13, 26, 27, 28, 29, 30, 31, 15, 33, 34, 35, 36, 32, 37, 38, 16, 17, 40, 41, 42, 48, 39] rfl fun Z => ?_
      refine p_then ?_
      refine f_cond Z rfl (fun hc6 => ?_) (fun hc6 => ?_)
      ·replace hF := ite_t hc6 hF
       refine wp_exit ?_
       refine f_exit_out (by decide) ?_
       refine p_then_x ?_
       refine f_exit_here ?_
       refine p_then ?_
       exact ⟨out_4, g_2.1, g_2.2.1, g_2.1, g_2.2.1, g_2.1, g_2.2.1, g_2.1, g_2.2.1, (!g_2.2.1) || (!i_2), g_2.2.1, !g_2.2.1, !g_2.2.1, (!g_2.2.1) || (!i_2), g_2.2.2, v6, Z.sub (ts := [0, 1, 2, 3, 4, 10, 11, 12, 13, 15, 16, 17, 26, 27, 28, 29, 30, 31, 32, 33, 34, 35, 36, 37, 38, 39, 40, 41, 42, 48]) rfl, ⟨I11, (H.sub [(0, false), (0, true), (1, false)] rfl).eq rfl⟩, hF⟩
      ·replace hF := ite_f hc6 hF
       refine wp_seq (f_region Z ?_); clear Z; intro Z
       refine s_runk tMv1 Z 1 rfl rfl fun a Z => ?_
       refine sO Z (vI (ln out_4)) rfl (Ob_slen tMv1 rfl rfl rfl (H.owshape 2 rfl)) fun a Z => ?_
       refine s_runk tMv1 Z 3 rfl rfl fun a Z => ?_
       refine s_end Z [0, 1, 2, 3, 4, 10, 11, 12, 13, 26, 27, 28, 29, 30, 31, 15, 33, 34, 35, 36, 32, 37, 38, 16, 17, 40, 41, 42, 48, 39, 50, 51, 52, 53, 49] rfl fun Z => ?_
       refine p_then ?_
       refine f_cond Z rfl (fun hc7 => ?_) (fun hc7 => ?_)
       ·replace hF := ite_t hc7 hF
        refine wp_seq (f_region Z ?_); clear Z; intro Z
        refine s_runk tMv1 Z 1 rfl rfl fun a Z => ?_
        refine s_end Z [0, 1, 2, 3, 4, 10, 11, 12, 13, 26, 27, 28, 29, 30, 31, 15, 33, 34, 35, 36, 32, 37, 38, 16, 17, 40, 41, 42, 48, 39, 50, 51, 52, 53, 49] rfl fun Z => ?_
        refine p_then ?_
        refine wp_exit ?_
        refine f_exit_out (by decide) ?_
        refine p_then_x ?_
        refine f_exit_out (by decide) ?_
        refine p_then_x ?_
        refine p_then_x ?_
        refine f_exit_here ?_
        refine p_then ?_
        exact ⟨out_4, true, g_2.2.2, v6, Z.sub (ts := [10, 11, 12, 13]) rfl, ⟨I11, (H.sub [(0, false), (1, false)] rfl).eq rfl⟩, hF⟩
       ·replace hF := ite_f hc7 hF
        refine wp_skip ?_
        refine p_blk ?_
        refine p_then ?_
        obtain ⟨hg6, hF⟩ := chk_in hF
        refine f_region Z fun Z => ?_
        refine s_runk tMv1 Z 3 rfl rfl fun a Z => ?_
        refine sO Z (.agg #[vS (gi k.1 x_10), vS g_2.1]) rfl (Ob_build (vs := [(0, vS (gi k.1 x_10)), (1, vS g_2.1)]) rfl rfl (by go_simp <;> rfl)) fun a Z => ?_
        refine h_bslice Z H (vs := [(0, .agg #[vS (gi k.1 x_10), vS g_2.1])]) (cl := [vS (gi k.1 x_10), vS g_2.1]) (e := 97) rfl rfl rfl (by decide) rfl rfl (fun w => run_bslice (z := .agg #[vS ByteArray.empty, vS ByteArray.empty]) (m := 2) Try.underlying58 (by kernel_rfl) rfl rfl (by decide) (by simp [Instr.fill, Value.cells]) w) fun a w15 b3 H Z => ?_
        refine h_appO Z H 3 E_58_YMv1 [({ key := (gi k.1 x_10), val := g_2.1 } : EPair)] rfl rfl rfl rfl rfl (by decide) rfl rfl rfl (slRep2.box1 (H.bx 0 rfl) ⟨rfl, trivial⟩) hg6 (by decide) fun v8 a w16 H Z => ?_
        dsimp only [List.eraseIdx] at H
        replace H := (H.sub [(0, false), (1, false), (1, true)] rfl).nf rfl
        refine s_runk tMv1 Z 1 rfl rfl fun a Z => ?_
        refine s_end Z [0, 1, 2, 3, 4, 10, 11, 12, 13, 26, 27, 28, 29, 30, 31, 15, 33, 34, 35, 36, 32, 37, 38, 16, 17, 40, 41, 42, 48, 39, 50, 51, 52, 53, 49, 54, 55, 56, 57, 58, 59] rfl fun Z => ?_
        refine p_blk ?_
        refine p_then ?_
        exact ⟨out_4 ++ [({ key := (gi k.1 x_10), val := g_2.1 } : EPair)], g_2.1, g_2.2.1, g_2.1, g_2.2.1, g_2.1, g_2.2.1, g_2.1, g_2.2.1, (!g_2.2.1) || (!i_2), g_2.2.1, !g_2.2.1, !g_2.2.1, (!g_2.2.1) || (!i_2), g_2.2.2, v8, Z.sub (ts := [0, 1, 2, 3, 4, 10, 11, 12, 13, 15, 16, 17, 26, 27, 28, 29, 30, 31, 32, 33, 34, 35, 36, 37, 38, 39, 40, 41, 42, 48]) rfl, ⟨I11, (H.sub [(1, false), (1, true), (0, false)] rfl).eq rfl⟩, hF⟩
    ·replace hF := ite_f hc5 hF
     refine wp_exit ?_
     refine p_then_x ?_
     refine p_then_x ?_
     refine f_exit_here ?_
     refine p_then ?_
     exact ⟨out_4, false, s0_5, v6, Z.sub (ts := [10, 11, 12, 13]) rfl, ⟨I9, (H.sub [(0, false), (1, false)] rfl).eq rfl⟩, hF⟩

end Go.Proofs.Ytglfajjcgbfehaa
