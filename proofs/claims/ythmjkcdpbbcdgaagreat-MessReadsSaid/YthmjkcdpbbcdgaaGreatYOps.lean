/- Keys and operations: what the program and the document compute. -/
import Derived.Test.YthmjkcdpbbcdgaaGreatYWire
namespace Go.Proofs.YthmjkcdpbbcdgaaGreat
open Go.RowKit
structure EOp where
 key : ByteArray
 val : ByteArray
 del : Bool

instance : Inhabited EOp := ⟨⟨ByteArray.empty, ByteArray.empty, false⟩⟩

def eqEOp (x y : EOp) : Bool := (seqB x.key y.key) && (seqB x.val y.val) && (x.del == y.del)

theorem eqEOp_iff {x y : EOp} : eqEOp x y = true ↔ x = y := by cases x; cases y; simp [eqEOp, seqB_iff, and_assoc]

def cEOp (x : EOp) : List Value := [.string x.key, .string x.val, .bool x.del]

def NEOp : Rp EOp := Rp.flat 3 (fun _ => True) (fun x => cEOp x) (fun _ => rfl) (fun x c hc => by simp only [cEOp, List.mem_cons, List.not_mem_nil, or_false] at hc; rcases hc with rfl | rfl | rfl <;> rfl)

structure EBatch where
 client : Int
 req : Int
 ops : List EOp

instance : Inhabited EBatch := ⟨⟨0, 0, []⟩⟩

def tOpsL : TabL := ⟨[(30720, 0), (30721, 1), (30722, 2), (144384, 0), (144385, 1), (144386, 2)], [9], [], [(28, (141, 3))], [(3, (1, false)), (4, (1, false)), (9, (1, false)), (28, (1, false)), (30, (3, true)), (78, (2, true)), (141, (3, true))]⟩

def tOps : Tab Tryz.prog := ⟨tOpsL, by kernel_rfl⟩

theorem fn_122_YOps : IsFn Tryz.prog 122 := ⟨_, Tryz.func122, by kernel_rfl, by kernel_rfl⟩

theorem fn_124_YOps : IsFn Tryz.prog 124 := ⟨_, Tryz.func124, by kernel_rfl, by kernel_rfl⟩

theorem fn_125_YOps : IsFn Tryz.prog 125 := ⟨_, Tryz.func125, by kernel_rfl, by kernel_rfl⟩

def F_keys_Check (k : ByteArray) : Option Int := if ((seqB k ⟨#[]⟩) || (decide ((k.size : Int) > 8))) = true then (some 10) else (some 0)

set_option maxHeartbeats 1000000 in
theorem c_keys_Check {I D : Dm} {k : ByteArray} {w : World} {rr : Int} (hF : F_keys_Check k = some rr) (H : St I D w []) :
  Calls Tryz.prog 124 #[vS k] w (Ret fun vv w' => vv = vI rr ∧ ∃ I', Hf I D w I' w' []) := by
 replace H := H.hf
 unfold F_keys_Check at hF
 refine f_enter 10 Tryz.func124 rfl rfl (Nat.le_of_ble_eq_true rfl) fun a Z => ?_
 replace Z := Z.sub (ts := [0]) rfl
 refine wp_seq (f_region Z ?_); clear Z; intro Z
 refine s_runk tOps Z 1 rfl rfl fun a Z => ?_
 refine s_end Z [0, 2] rfl fun Z => ?_
 refine p_then (wp_seq ?_)
 refine wp_seq (f_region Z ?_); clear Z; intro Z
 refine s_runk tOps Z 3 rfl rfl fun a Z => ?_
 refine gO Z (vS k) rfl (wantB_f _) (.n 0 rfl .z) (fun hp => Ob_c tOps rfl) fun a Z => ?_
 refine gO Z (vI (k.size : Int)) rfl (wantB_f _) (.c 6 rfl id .z) (fun hp => Ob_c tOps rfl) fun a Z => ?_
 refine gO Z (vT (decide ((k.size : Int) > 8))) rfl (wantB_f _) (.c 7 rfl id .z) (fun hp => Ob_c tOps rfl) fun a Z => ?_
 refine sO Z (vT ((seqB k ⟨#[]⟩) || (decide ((k.size : Int) > 8)))) rfl (Ob_pick rfl rfl rfl rfl (pick_or _ _)) fun a Z => ?_
 refine s_end Z [2, 9] rfl fun Z => ?_
 refine p_then ?_
 refine f_cond Z rfl (fun hc1 => ?_) (fun hc1 => ?_)
 ·replace hF := ite_t hc1 hF
  refine wp_seq (f_region Z ?_); clear Z; intro Z
  refine s_runk tOps Z 1 rfl rfl fun a Z => ?_
  refine s_end Z [2] rfl fun Z => ?_
  refine p_then (wp_ret ?_)
  refine p_then_r ?_
  obtain rfl := some_in hF
  exact f_ret Z (run_results1 rfl Z rfl) ⟨rfl, I, (H.sub [] rfl).eq rfl⟩
 ·replace hF := ite_f hc1 hF
  refine wp_skip ?_
  refine p_then (wp_seq (f_region Z ?_)); clear Z; intro Z
  refine s_runk tOps Z 1 rfl rfl fun a Z => ?_
  refine s_end Z [2] rfl fun Z => ?_
  refine p_then (wp_ret ?_)
  obtain rfl := some_in hF
  exact f_ret Z (run_results1 rfl Z rfl) ⟨rfl, I, (H.sub [] rfl).eq rfl⟩

def F_ref05_Check (k : ByteArray) : Option Int := if ((decide ((k.size : Int) < 1)) || (decide ((k.size : Int) > 8))) = true then (some 10) else (some 0)

set_option maxHeartbeats 1000000 in
theorem c_ref05_Check {I D : Dm} {k : ByteArray} {w : World} {rr : Int} (hF : F_ref05_Check k = some rr) (H : St I D w []) :
  Calls Tryz.prog 125 #[vS k] w (Ret fun vv w' => vv = vI rr ∧ ∃ I', Hf I D w I' w' []) := by
 replace H := H.hf
 unfold F_ref05_Check at hF
 refine f_enter 11 Tryz.func125 rfl rfl (Nat.le_of_ble_eq_true rfl) fun a Z => ?_
 replace Z := Z.sub (ts := [0]) rfl
 refine wp_seq (f_region Z ?_); clear Z; intro Z
 refine s_runk tOps Z 1 rfl rfl fun a Z => ?_
 refine s_end Z [0, 2] rfl fun Z => ?_
 refine p_then (wp_seq ?_)
 refine wp_seq (f_region Z ?_); clear Z; intro Z
 refine s_runk tOps Z 4 rfl rfl fun a Z => ?_
 refine gO Z (vS k) rfl (wantB_f _) (.n 0 rfl .z) (fun hp => Ob_c tOps rfl) fun a Z => ?_
 refine gO Z (vI (k.size : Int)) rfl (wantB_f _) (.c 7 rfl id .z) (fun hp => Ob_c tOps rfl) fun a Z => ?_
 refine gO Z (vT (decide ((k.size : Int) > 8))) rfl (wantB_f _) (.c 8 rfl id .z) (fun hp => Ob_c tOps rfl) fun a Z => ?_
 refine sO Z (vT ((decide ((k.size : Int) < 1)) || (decide ((k.size : Int) > 8)))) rfl (Ob_pick rfl rfl rfl rfl (pick_or _ _)) fun a Z => ?_
 refine s_end Z [2, 10] rfl fun Z => ?_
 refine p_then ?_
 refine f_cond Z rfl (fun hc1 => ?_) (fun hc1 => ?_)
 ·replace hF := ite_t hc1 hF
  refine wp_seq (f_region Z ?_); clear Z; intro Z
  refine s_runk tOps Z 1 rfl rfl fun a Z => ?_
  refine s_end Z [2] rfl fun Z => ?_
  refine p_then (wp_ret ?_)
  refine p_then_r ?_
  obtain rfl := some_in hF
  exact f_ret Z (run_results1 rfl Z rfl) ⟨rfl, I, (H.sub [] rfl).eq rfl⟩
 ·replace hF := ite_f hc1 hF
  refine wp_skip ?_
  refine p_then (wp_seq (f_region Z ?_)); clear Z; intro Z
  refine s_runk tOps Z 1 rfl rfl fun a Z => ?_
  refine s_end Z [2] rfl fun Z => ?_
  refine p_then (wp_ret ?_)
  obtain rfl := some_in hF
  exact f_ret Z (run_results1 rfl Z rfl) ⟨rfl, I, (H.sub [] rfl).eq rfl⟩

def F_ref06_Check_l1 (b : EBatch) (rc : Int → Option Int) (sg : Int) : Option Int := match sg with | i => if (decide (i < (b.ops.length : Int))) = true then (chk ((0 : Int) ≤ i ∧ i < (b.ops.length : Int)) ((F_ref05_Check ((b.ops.getD (i).toNat default).key)).bind fun c => (if (c != 0) = true then (some 10) else (if (decide ((((b.ops.getD (i).toNat default).val).size : Int) > 8)) = true then (some 3) else (if (((b.ops.getD (i).toNat default).del) && (!seqB ((b.ops.getD (i).toNat default).val) ⟨#[]⟩)) = true then (some 4) else (chk ((decide (i > 0)) = true → inI (i - 1)) (chk ((decide (i > 0)) = true → (0 : Int) ≤ i - 1 ∧ i - 1 < (b.ops.length : Int)) (if ((decide (i > 0)) && (!sltB ((b.ops.getD (i - 1).toNat default).key) ((b.ops.getD (i).toNat default).key))) = true then (some 18) else (chk (inI (i + 1)) (rc (i + 1))))))))))) else (some 0)

def F_ref06_Check (b : EBatch) : Option Int := if ((decide (b.client < 0)) || (decide (b.client ≥ 3))) = true then (some 1) else (if ((decide (b.req < 1)) || (decide (b.req > 1073741824))) = true then (some 5) else (if (decide ((b.ops.length : Int) > 4)) = true then (some 6) else (iter (F_ref06_Check_l1 b) FU 0)))

set_option maxHeartbeats 1000000 in
theorem c_ref06_Check {I D : Dm} {b : EBatch} {v1_b : Value} {w : World} {rr : Int} (hF : F_ref06_Check b = some rr) (H : St I D w [SlC NEOp v1_b b.ops]) :
  Calls Tryz.prog 99 #[.agg #[vI b.client, vI b.req, v1_b]] w (Ret fun vv w' => vv = vI rr ∧ ∃ I', Hf I D w I' w' []) := by
 replace H := H.hf
 unfold F_ref06_Check at hF
 refine f_enter 66 Tryz.func99 rfl rfl (Nat.le_of_ble_eq_true rfl) fun a Z => ?_
 replace Z := Z.sub (ts := [0]) rfl
 refine wp_seq (f_region Z ?_); clear Z; intro Z
 refine hB Z H [vI b.client, vI b.req, v1_b] rfl rfl rfl rfl fun a w1 b1 H Z => ?_
 refine s_runk tOps Z 1 rfl rfl fun a Z => ?_
 refine s_end Z [1, 2] rfl fun Z => ?_
 refine p_then (wp_seq ?_)
 refine wp_seq (f_region Z ?_); clear Z; intro Z
 refine s_runk tOps Z 1 rfl rfl fun a Z => ?_
 refine sO Z _ rfl (oL tOps rfl rfl (H.bc 0 0 rfl rfl)) fun a Z => ?_
 refine s_runk tOps Z 2 rfl rfl fun a Z => ?_
 refine gO Z (pp b1 0) rfl (wantB_f _) (.n 1 rfl .z) (fun hp => Ob_c tOps rfl) fun a Z => ?_
 refine gO Z _ rfl (wantB_f _) (.c 9 rfl id .z) (fun hp => oL tOps rfl rfl (H.bc 0 0 rfl rfl)) fun a Z => ?_
 refine gO Z (vT (decide (b.client ≥ 3))) rfl (wantB_f _) (.c 10 rfl id .z) (fun hp => Ob_c tOps rfl) fun a Z => ?_
 refine sO Z (vT ((decide (b.client < 0)) || (decide (b.client ≥ 3)))) rfl (Ob_pick rfl rfl rfl rfl (pick_or _ _)) fun a Z => ?_
 refine s_end Z [1, 2, 12] rfl fun Z => ?_
 refine p_then ?_
 refine f_cond Z rfl (fun hc1 => ?_) (fun hc1 => ?_)
 ·replace hF := ite_t hc1 hF
  refine wp_seq (f_region Z ?_); clear Z; intro Z
  refine s_runk tOps Z 1 rfl rfl fun a Z => ?_
  refine s_end Z [1, 2] rfl fun Z => ?_
  refine p_then (wp_ret ?_)
  refine p_then_r ?_
  obtain rfl := some_in hF
  exact f_ret Z (run_results1 rfl Z rfl) ⟨rfl, I, (H.sub [] rfl).eq rfl⟩
 ·replace hF := ite_f hc1 hF
  refine wp_skip ?_
  refine p_then (wp_seq ?_)
  refine wp_seq (f_region Z ?_); clear Z; intro Z
  refine s_runk tOps Z 1 rfl rfl fun a Z => ?_
  refine sO Z _ rfl (oL tOps rfl rfl (H.bc 0 1 rfl rfl)) fun a Z => ?_
  refine s_runk tOps Z 2 rfl rfl fun a Z => ?_
  refine gO Z (pp b1 1) rfl (wantB_f _) (.n 1 rfl .z) (fun hp => Ob_c tOps rfl) fun a Z => ?_
  refine gO Z _ rfl (wantB_f _) (.c 17 rfl id .z) (fun hp => oL tOps rfl rfl (H.bc 0 1 rfl rfl)) fun a Z => ?_
  refine gO Z (vT (decide (b.req > 1073741824))) rfl (wantB_f _) (.c 18 rfl id .z) (fun hp => Ob_c tOps rfl) fun a Z => ?_
  refine sO Z (vT ((decide (b.req < 1)) || (decide (b.req > 1073741824)))) rfl (Ob_pick rfl rfl rfl rfl (pick_or _ _)) fun a Z => ?_
  refine s_end Z [1, 2, 20] rfl fun Z => ?_
  refine p_then ?_
  refine f_cond Z rfl (fun hc2 => ?_) (fun hc2 => ?_)
  ·replace hF := ite_t hc2 hF
   refine wp_seq (f_region Z ?_); clear Z; intro Z
   refine s_runk tOps Z 1 rfl rfl fun a Z => ?_
   refine s_end Z [1, 2] rfl fun Z => ?_
   refine p_then (wp_ret ?_)
   refine p_then_r ?_
   obtain rfl := some_in hF
   exact f_ret Z (run_results1 rfl Z rfl) ⟨rfl, I, (H.sub [] rfl).eq rfl⟩
  ·replace hF := ite_f hc2 hF
   refine wp_skip ?_
   refine p_then (wp_seq ?_)
   refine wp_seq (f_region Z ?_); clear Z; intro Z
   refine s_runk tOps Z 1 rfl rfl fun a Z => ?_
   refine sO Z _ rfl (oL tOps rfl rfl (H.bc 0 2 rfl rfl)) fun a Z => ?_
   refine sO Z (vI (ln b.ops)) rfl (Ob_slen tOps rfl rfl rfl (H.slshape 1 rfl)) fun a Z => ?_
   refine s_runk tOps Z 1 rfl rfl fun a Z => ?_
   refine s_end Z [1, 2, 24] rfl fun Z => ?_
   refine p_then ?_
   refine f_cond Z rfl (fun hc3 => ?_) (fun hc3 => ?_)
   ·replace hF := ite_t hc3 hF
    refine wp_seq (f_region Z ?_); clear Z; intro Z
    refine s_runk tOps Z 1 rfl rfl fun a Z => ?_
    refine s_end Z [1, 2] rfl fun Z => ?_
    refine p_then (wp_ret ?_)
    refine p_then_r ?_
    obtain rfl := some_in hF
    exact f_ret Z (run_results1 rfl Z rfl) ⟨rfl, I, (H.sub [] rfl).eq rfl⟩
   ·replace hF := ite_f hc3 hF
    refine wp_skip ?_
    refine p_then (wp_seq ?_)
    refine wp_seq (f_region Z ?_); clear Z; intro Z
    refine s_runk tOps Z 1 rfl rfl fun a Z => ?_
    refine s_end Z [1, 2, 3] rfl fun Z => ?_
    refine p_then (wp_block ?_)
    refine f_iter hF (fun sg a' w' => match sg with | i => Sl 66 [(1, pp b1 0), (2, vI 0), (3, vI i)] a' ∧ ∃ I2, Hf I D w I2 w' [BxC b1 30 [vI b.client, vI b.req, v1_b], SlC NEOp v1_b b.ops]) ⟨Z.sub (ts := [1, 2, 3]) rfl, ⟨I, (H.sub [(0, false), (0, true)] rfl).eq rfl⟩⟩ ?_
    rintro rc i a w2 ⟨Z, I1, H⟩ hF
    unfold F_ref06_Check_l1 at hF
    try dsimp only at hF
    refine wp_seq ?_
    refine wp_seq (f_region Z ?_); clear Z; intro Z
    refine s_runk tOps Z 2 rfl rfl fun a Z => ?_
    refine sO Z _ rfl (oL tOps rfl rfl (H.bc 0 2 rfl rfl)) fun a Z => ?_
    refine sO Z (vI (ln b.ops)) rfl (Ob_slen tOps rfl rfl rfl (H.slshape 1 rfl)) fun a Z => ?_
    refine s_runk tOps Z 1 rfl rfl fun a Z => ?_
    refine s_end Z [1, 2, 3, 25, 26, 27, 28, 29] rfl fun Z => ?_
    refine p_then ?_
    refine f_cond Z rfl (fun hc4 => ?_) (fun hc4 => ?_)
    ·replace hF := ite_t hc4 hF
     refine wp_skip ?_
     refine p_then (wp_seq ?_)
     refine wp_block ?_
     refine wp_seq ?_
     obtain ⟨hg1, hF⟩ := chk_in hF
     refine f_region Z fun Z => ?_
     refine s_runk tOps Z 1 rfl rfl fun a Z => ?_
     refine sO Z _ rfl (oL tOps rfl rfl (H.bc 0 2 rfl rfl)) fun a Z => ?_
     refine s_runk tOps Z 1 rfl rfl fun a Z => ?_
     refine sO Z (.pointer (some ⟨blkOf v1_b, oofOf v1_b + (i).toNat * 3, none⟩)) rfl (Ob_sidx tOps rfl rfl rfl rfl (slPl (H.sl 1 rfl) hg1) hg1) fun a Z => ?_
     refine sO Z (.agg #[vS ((gi b.ops i).key), vS ((gi b.ops i).val), vT ((gi b.ops i).del)]) rfl (oA tOps rfl rfl ((slFl (H.sl 1 rfl) hg1).part 0 rfl)) fun a Z => ?_
     refine hA Z H [vS ByteArray.empty, vS ByteArray.empty, vT false] rfl rfl (by kernel_rfl) fun a w3 b2 H Z => ?_
     refine hT tOps Z H 0 rfl rfl rfl rfl rfl (onR 3 rfl one_nil) (Nat.le_of_ble_eq_true rfl) rfl fun w4 H => ?_
     dsimp only [List.eraseIdx] at H
     refine s_end Z [1, 2, 3, 25, 26, 27, 28, 29, 32, 33, 34, 35, 36, 4] rfl fun Z => ?_
     refine p_then (wp_seq ?_)
     refine wp_seq ?_
     obtain ⟨c, hx1, hF⟩ := bnd_in hF
     refine f_region Z fun Z => ?_
     refine s_runk tOps Z 1 rfl rfl fun a Z => ?_
     refine sO Z _ rfl (oL tOps rfl rfl (H.bc 0 0 rfl rfl)) fun a Z => ?_
     refine hC Z H [] rfl #[] fn_125_YOps rfl rfl (fun D h => have q := c_ref05_Check hx1 h; q) fun vv a w5 D2 hr hF2 Z => ?_
     obtain ⟨rfl, I2, K⟩ := hr
     have H := (hF2 K).nf rfl
     refine s_runk tOps Z 1 rfl rfl fun a Z => ?_
     refine s_end Z [1, 2, 3, 25, 26, 27, 28, 29, 32, 33, 34, 35, 36, 4, 37, 38, 39, 40] rfl fun Z => ?_
     refine p_then ?_
     refine f_cond Z rfl (fun hc5 => ?_) (fun hc5 => ?_)
     ·replace hF := ite_t hc5 hF
      refine wp_seq (f_region Z ?_); clear Z; intro Z
      refine s_runk tOps Z 1 rfl rfl fun a Z => ?_
      refine s_end Z [1, 2, 3, 25, 26, 27, 28, 29, 32, 33, 34, 35, 36, 4, 37, 38, 39, 40] rfl fun Z => ?_
      refine p_then (wp_ret ?_)
      refine p_then_r ?_
      refine p_blk_r ?_
      refine p_then_r ?_
      refine p_then_r ?_
      refine p_blk_r ?_
      refine p_then_r ?_
      obtain rfl := some_in hF
      exact f_ret Z (run_results1 rfl Z rfl) ⟨rfl, I2, (H.sub [] rfl).eq rfl⟩
     ·replace hF := ite_f hc5 hF
      refine wp_skip ?_
      refine p_then (wp_seq ?_)
      refine wp_seq (f_region Z ?_); clear Z; intro Z
      refine s_runk tOps Z 1 rfl rfl fun a Z => ?_
      refine sO Z _ rfl (oL tOps rfl rfl (H.bc 0 1 rfl rfl)) fun a Z => ?_
      refine s_runk tOps Z 2 rfl rfl fun a Z => ?_
      refine s_end Z [1, 2, 3, 25, 26, 27, 28, 29, 32, 33, 34, 35, 36, 4, 37, 38, 39, 40, 41, 42, 43, 44] rfl fun Z => ?_
      refine p_then ?_
      refine f_cond Z rfl (fun hc6 => ?_) (fun hc6 => ?_)
      ·replace hF := ite_t hc6 hF
       refine wp_seq (f_region Z ?_); clear Z; intro Z
       refine s_runk tOps Z 1 rfl rfl fun a Z => ?_
       refine s_end Z [1, 2, 3, 25, 26, 27, 28, 29, 32, 33, 34, 35, 36, 4, 37, 38, 39, 40, 41, 42, 43, 44] rfl fun Z => ?_
       refine p_then (wp_ret ?_)
       refine p_then_r ?_
       refine p_blk_r ?_
       refine p_then_r ?_
       refine p_then_r ?_
       refine p_blk_r ?_
       refine p_then_r ?_
       obtain rfl := some_in hF
       exact f_ret Z (run_results1 rfl Z rfl) ⟨rfl, I2, (H.sub [] rfl).eq rfl⟩
      ·replace hF := ite_f hc6 hF
       refine wp_skip ?_
       refine p_then (wp_seq ?_)
       refine wp_seq (f_region Z ?_); clear Z; intro Z
       refine s_runk tOps Z 1 rfl rfl fun a Z => ?_
       refine sO Z _ rfl (oL tOps rfl rfl (H.bc 0 2 rfl rfl)) fun a Z => ?_
       refine s_runk tOps Z 1 rfl rfl fun a Z => ?_
       refine gO Z (pp b2 1) rfl (wantB_t _) (.n 4 rfl .z) (fun hp => Ob_c tOps rfl) fun a Z => ?_
       refine gO Z _ rfl (wantB_t _) (.c 48 rfl id .z) (fun hp => oL tOps rfl rfl (H.bc 0 1 rfl rfl)) fun a Z => ?_
       refine gO Z (vT (!seqB ((gi b.ops i).val) ⟨#[]⟩)) rfl (wantB_t _) (.c 49 rfl id .z) (fun hp => Ob_c tOps rfl) fun a Z => ?_
       refine sO Z (vT (((gi b.ops i).del) && (!seqB ((gi b.ops i).val) ⟨#[]⟩))) rfl (Ob_pick rfl rfl rfl rfl (pick_and _ _)) fun a Z => ?_
       refine s_end Z [1, 2, 3, 25, 26, 27, 28, 29, 32, 33, 34, 35, 36, 4, 37, 38, 39, 40, 41, 42, 43, 44, 45, 46, 47, 51] rfl fun Z => ?_
       refine p_then ?_
       refine f_cond Z rfl (fun hc7 => ?_) (fun hc7 => ?_)
       ·replace hF := ite_t hc7 hF
        refine wp_seq (f_region Z ?_); clear Z; intro Z
        refine s_runk tOps Z 1 rfl rfl fun a Z => ?_
        refine s_end Z [1, 2, 3, 25, 26, 27, 28, 29, 32, 33, 34, 35, 36, 4, 37, 38, 39, 40, 41, 42, 43, 44, 45, 46, 47, 51] rfl fun Z => ?_
        refine p_then (wp_ret ?_)
        refine p_then_r ?_
        refine p_blk_r ?_
        refine p_then_r ?_
        refine p_then_r ?_
        refine p_blk_r ?_
        refine p_then_r ?_
        obtain rfl := some_in hF
        exact f_ret Z (run_results1 rfl Z rfl) ⟨rfl, I2, (H.sub [] rfl).eq rfl⟩
       ·replace hF := ite_f hc7 hF
        refine wp_skip ?_
        refine p_then (wp_seq ?_)
        obtain ⟨hg2, hF⟩ := chk_in hF
        obtain ⟨hg3, hF⟩ := chk_in hF
        refine f_quietd (by kernel_rfl) (by kernel_rfl) Z fun Z => ?_
        refine q_runk tOps Z 3 rfl rfl fun a Z => ?_
        refine jO Z (pp b1 2) rfl (wantB_t _) (.n 1 rfl .z) (fun hp _ hw => Ob_c tOps rfl) fun a Z => ?_
        refine jO Z _ rfl (wantB_t _) (.c 55 rfl id .z) (fun hp _ hw => oL tOps rfl rfl ((H.blw hw).bc 1 2 rfl rfl)) fun a Z => ?_
        refine jO Z (vI i) rfl (wantB_t _) (.n 3 rfl .z) (fun hp _ hw => Ob_c tOps rfl) fun a Z => ?_
        refine jO Z (vI (i - 1)) rfl (wantB_t _) (.c 57 rfl id .z) (fun hp _ hw => Ob_sub rfl rfl rfl (wrI (hg2 hp))) fun a Z => ?_
        refine jO Z (.pointer (some ⟨blkOf v1_b, oofOf v1_b + (i - 1).toNat * 3, none⟩)) rfl (wantB_t _) (.c 56 rfl id (.c 58 rfl id .z)) (fun hp _ hw => Ob_sidx tOps rfl rfl rfl rfl (slPl ((H.blw hw).sl 2 rfl) (hg3 hp)) (hg3 hp)) fun a Z => ?_
        refine jO Z (.pointer (some ⟨blkOf v1_b, oofOf v1_b + (i - 1).toNat * 3, none⟩)) rfl (wantB_t _) (.c 59 rfl id .z) (fun hp _ hw => Ob_c tOps rfl) fun a Z => ?_
        refine jO Z (vS ((b.ops.getD (i - 1).toNat default).key)) rfl (wantB_t _) (.c 60 rfl id .z) (fun hp _ hw => oL tOps rfl rfl ((slFl ((H.blw hw).sl 2 rfl) (hg3 hp)) 0 _ rfl)) fun a Z => ?_
        refine jO Z (pp b2 0) rfl (wantB_t _) (.n 4 rfl .z) (fun hp _ hw => Ob_c tOps rfl) fun a Z => ?_
        refine jO Z _ rfl (wantB_t _) (.c 62 rfl id .z) (fun hp _ hw => oL tOps rfl rfl ((H.blw hw).bc 0 0 rfl rfl)) fun a Z => ?_
        refine jO Z (vT (!sltB ((b.ops.getD (i - 1).toNat default).key) ((gi b.ops i).key))) rfl (wantB_t _) (.c 61 rfl id (.c 63 rfl id .z)) (fun hp _ hw => Ob_c tOps rfl) fun a Z => ?_
        refine qO Z (vT ((decide (i > 0)) && (!sltB ((b.ops.getD (i - 1).toNat default).key) ((gi b.ops i).key)))) rfl (fun _ hw => Ob_pick rfl rfl rfl rfl (pick_and _ _)) fun a Z => ?_
        refine q_end Z [1, 2, 3, 25, 26, 27, 28, 29, 32, 33, 34, 35, 36, 4, 37, 38, 39, 40, 41, 42, 43, 44, 45, 46, 47, 51, 52, 53, 54, 65] rfl fun w6 hb Z => ?_
        replace H := H.blw hb
        clear hb
        refine p_then ?_
        refine f_cond Z rfl (fun hc8 => ?_) (fun hc8 => ?_)
        ·replace hF := ite_t hc8 hF
         refine wp_seq (f_region Z ?_); clear Z; intro Z
         refine s_runk tOps Z 1 rfl rfl fun a Z => ?_
         refine s_end Z [1, 2, 3, 25, 26, 27, 28, 29, 32, 33, 34, 35, 36, 4, 37, 38, 39, 40, 41, 42, 43, 44, 45, 46, 47, 51, 52, 53, 54, 65] rfl fun Z => ?_
         refine p_then (wp_ret ?_)
         refine p_blk_r ?_
         refine p_then_r ?_
         refine p_then_r ?_
         refine p_blk_r ?_
         refine p_then_r ?_
         obtain rfl := some_in hF
         exact f_ret Z (run_results1 rfl Z rfl) ⟨rfl, I2, (H.sub [] rfl).eq rfl⟩
        ·replace hF := ite_f hc8 hF
         refine wp_skip ?_
         refine p_blk ?_
         refine p_then ?_
         obtain ⟨hg4, hF⟩ := chk_in hF
         refine f_region Z fun Z => ?_
         refine s_runk tOps Z 1 rfl rfl fun a Z => ?_
         refine sO Z (vI (i + 1)) rfl (Ob_add rfl rfl rfl (wrI hg4)) fun a Z => ?_
         refine s_runk tOps Z 1 rfl rfl fun a Z => ?_
         refine s_end Z [1, 2, 3, 25, 26, 27, 28, 29, 32, 33, 34, 35, 36, 4, 37, 38, 39, 40, 41, 42, 43, 44, 45, 46, 47, 51, 52, 53, 54, 65, 30, 31] rfl fun Z => ?_
         refine p_then ?_
         exact ⟨(i + 1), ⟨Z.sub (ts := [1, 2, 3]) rfl, ⟨I2, (H.sub [(1, false), (1, true)] rfl).eq rfl⟩⟩, hF⟩
    ·replace hF := ite_f hc4 hF
     refine wp_exit ?_
     refine p_then_x ?_
     refine p_then_x ?_
     refine f_exit_here ?_
     refine p_then (wp_seq (f_region Z ?_)); clear Z; intro Z
     refine s_runk tOps Z 1 rfl rfl fun a Z => ?_
     refine s_end Z [2] rfl fun Z => ?_
     refine p_then (wp_ret ?_)
     obtain rfl := some_in hF
     exact f_ret Z (run_results1 rfl Z rfl) ⟨rfl, I1, (H.sub [] rfl).eq rfl⟩

def F_ops_one (o : EOp) (ahead : ByteArray) (first : Bool) : Option Int := (F_keys_Check o.key).bind fun c => (if (c != 0) = true then (some 10) else (if (decide ((o.val.size : Int) > 8)) = true then (some 3) else (if (o.del && (!seqB o.val ⟨#[]⟩)) = true then (some 4) else (if ((!first) && (!sltB ahead o.key)) = true then (some 18) else (some 0)))))

set_option maxHeartbeats 1000000 in
theorem c_ops_one {I D : Dm} {o : EOp} {ahead : ByteArray} {first : Bool} {w : World} {rr : Int} (hF : F_ops_one o ahead first = some rr) (H : St I D w []) :
  Calls Tryz.prog 122 #[.agg #[vS o.key, vS o.val, vT o.del], vS ahead, vT first] w (Ret fun vv w' => vv = vI rr ∧ ∃ I', Hf I D w I' w' []) := by
 replace H := H.hf
 unfold F_ops_one at hF
 refine f_enter 34 Tryz.func122 rfl rfl (Nat.le_of_ble_eq_true rfl) fun a Z => ?_
 replace Z := Z.sub (ts := [0, 1, 2]) rfl
 refine wp_seq (f_region Z ?_); clear Z; intro Z
 refine hB Z H [vS o.key, vS o.val, vT o.del] rfl rfl rfl rfl fun a w1 b1 H Z => ?_
 refine s_runk tOps Z 1 rfl rfl fun a Z => ?_
 refine s_end Z [1, 2, 3, 6] rfl fun Z => ?_
 refine p_then (wp_seq ?_)
 refine wp_block ?_
 refine wp_seq ?_
 obtain ⟨c, hx1, hF⟩ := bnd_in hF
 refine f_region Z fun Z => ?_
 refine s_runk tOps Z 1 rfl rfl fun a Z => ?_
 refine sO Z _ rfl (oL tOps rfl rfl (H.bc 0 0 rfl rfl)) fun a Z => ?_
 refine hC Z H [] rfl #[] fn_124_YOps rfl rfl (fun D h => have q := c_keys_Check hx1 h; q) fun vv a w2 D2 hr hF2 Z => ?_
 obtain ⟨rfl, I1, K⟩ := hr
 have H := (hF2 K).nf rfl
 refine s_runk tOps Z 2 rfl rfl fun a Z => ?_
 refine s_end Z [1, 2, 3, 6, 7] rfl fun Z => ?_
 refine p_then ?_
 refine f_cond Z rfl (fun hc1 => ?_) (fun hc1 => ?_)
 ·replace hF := ite_t hc1 hF
  refine wp_seq (f_region Z ?_); clear Z; intro Z
  refine s_runk tOps Z 1 rfl rfl fun a Z => ?_
  refine s_end Z [6] rfl fun Z => ?_
  refine p_then (wp_ret ?_)
  refine p_blk_r ?_
  refine p_then_r ?_
  obtain rfl := some_in hF
  exact f_ret Z (run_results1 rfl Z rfl) ⟨rfl, I1, (H.sub [] rfl).eq rfl⟩
 ·replace hF := ite_f hc1 hF
  refine wp_seq (f_region Z ?_); clear Z; intro Z
  refine s_runk tOps Z 1 rfl rfl fun a Z => ?_
  refine sO Z _ rfl (oL tOps rfl rfl (H.bc 0 1 rfl rfl)) fun a Z => ?_
  refine s_runk tOps Z 3 rfl rfl fun a Z => ?_
  refine s_end Z [1, 2, 3, 6, 12] rfl fun Z => ?_
  refine p_then ?_
  refine f_cond Z rfl (fun hc2 => ?_) (fun hc2 => ?_)
  ·replace hF := ite_t hc2 hF
   refine wp_seq (f_region Z ?_); clear Z; intro Z
   refine s_runk tOps Z 1 rfl rfl fun a Z => ?_
   refine s_end Z [6] rfl fun Z => ?_
   refine p_then (wp_ret ?_)
   refine p_blk_r ?_
   refine p_then_r ?_
   obtain rfl := some_in hF
   exact f_ret Z (run_results1 rfl Z rfl) ⟨rfl, I1, (H.sub [] rfl).eq rfl⟩
  ·replace hF := ite_f hc2 hF
   refine wp_seq (f_region Z ?_); clear Z; intro Z
   refine s_runk tOps Z 1 rfl rfl fun a Z => ?_
   refine sO Z _ rfl (oL tOps rfl rfl (H.bc 0 2 rfl rfl)) fun a Z => ?_
   refine s_runk tOps Z 1 rfl rfl fun a Z => ?_
   refine gO Z (pp b1 1) rfl (wantB_t _) (.n 3 rfl .z) (fun hp => Ob_c tOps rfl) fun a Z => ?_
   refine gO Z _ rfl (wantB_t _) (.c 21 rfl id .z) (fun hp => oL tOps rfl rfl (H.bc 0 1 rfl rfl)) fun a Z => ?_
   refine gO Z (vT (!seqB o.val ⟨#[]⟩)) rfl (wantB_t _) (.c 22 rfl id .z) (fun hp => Ob_c tOps rfl) fun a Z => ?_
   refine sO Z (vT (o.del && (!seqB o.val ⟨#[]⟩))) rfl (Ob_pick rfl rfl rfl rfl (pick_and _ _)) fun a Z => ?_
   refine s_runk tOps Z 1 rfl rfl fun a Z => ?_
   refine s_end Z [1, 2, 3, 6, 17] rfl fun Z => ?_
   refine p_then ?_
   refine f_cond Z rfl (fun hc3 => ?_) (fun hc3 => ?_)
   ·replace hF := ite_t hc3 hF
    refine wp_seq (f_region Z ?_); clear Z; intro Z
    refine s_runk tOps Z 1 rfl rfl fun a Z => ?_
    refine s_end Z [6] rfl fun Z => ?_
    refine p_then (wp_ret ?_)
    refine p_blk_r ?_
    refine p_then_r ?_
    obtain rfl := some_in hF
    exact f_ret Z (run_results1 rfl Z rfl) ⟨rfl, I1, (H.sub [] rfl).eq rfl⟩
   ·replace hF := ite_f hc3 hF
    refine wp_seq (f_region Z ?_); clear Z; intro Z
    refine s_runk tOps Z 3 rfl rfl fun a Z => ?_
    refine gO Z (vS ahead) rfl (wantB_t _) (.n 1 rfl .z) (fun hp => Ob_c tOps rfl) fun a Z => ?_
    refine gO Z (pp b1 0) rfl (wantB_t _) (.n 3 rfl .z) (fun hp => Ob_c tOps rfl) fun a Z => ?_
    refine gO Z _ rfl (wantB_t _) (.c 30 rfl id .z) (fun hp => oL tOps rfl rfl (H.bc 0 0 rfl rfl)) fun a Z => ?_
    refine gO Z (vT (!sltB ahead o.key)) rfl (wantB_t _) (.c 29 rfl id (.c 31 rfl id .z)) (fun hp => Ob_c tOps rfl) fun a Z => ?_
    refine sO Z (vT ((!first) && (!sltB ahead o.key))) rfl (Ob_pick rfl rfl rfl rfl (pick_and _ _)) fun a Z => ?_
    refine s_runk tOps Z 1 rfl rfl fun a Z => ?_
    refine s_end Z [6, 25] rfl fun Z => ?_
    refine p_then ?_
    refine f_cond Z rfl (fun hc4 => ?_) (fun hc4 => ?_)
    ·replace hF := ite_t hc4 hF
     refine wp_seq (f_region Z ?_); clear Z; intro Z
     refine s_runk tOps Z 1 rfl rfl fun a Z => ?_
     refine s_end Z [6] rfl fun Z => ?_
     refine p_then (wp_ret ?_)
     refine p_blk_r ?_
     refine p_then_r ?_
     obtain rfl := some_in hF
     exact f_ret Z (run_results1 rfl Z rfl) ⟨rfl, I1, (H.sub [] rfl).eq rfl⟩
    ·replace hF := ite_f hc4 hF
     refine wp_skip ?_
     refine p_blk ?_
     refine p_then (wp_seq (f_region Z ?_)); clear Z; intro Z
     refine s_runk tOps Z 1 rfl rfl fun a Z => ?_
     refine s_end Z [6] rfl fun Z => ?_
     refine p_then (wp_ret ?_)
     obtain rfl := some_in hF
     exact f_ret Z (run_results1 rfl Z rfl) ⟨rfl, I1, (H.sub [] rfl).eq rfl⟩

def F_ops_Check_l1 (b : EBatch) (rc : (ByteArray × Int) → Option Int) (sg : ByteArray × Int) : Option Int := match sg with | (ahead, x) => if (decide (x < (b.ops.length : Int))) = true then (chk ((0 : Int) ≤ x ∧ x < (b.ops.length : Int)) ((F_ops_one (b.ops.getD (x).toNat default) ahead (x == 0)).bind fun o => (if (o != 0) = true then (some o) else (chk (inI (x + 1)) (rc ((b.ops.getD (x).toNat default).key, x + 1)))))) else (some 0)

def F_ops_Check (b : EBatch) : Option Int := if ((decide (b.client < 0)) || (decide (b.client ≥ 3))) = true then (some 1) else (if ((decide (b.req < 1)) || (decide (b.req > 1073741824))) = true then (some 5) else (if (decide ((b.ops.length : Int) > 4)) = true then (some 6) else (iter (F_ops_Check_l1 b) FU (⟨#[]⟩, 0))))

set_option maxHeartbeats 1000000 in
theorem c_ops_Check {I D : Dm} {b : EBatch} {v1_b : Value} {w : World} {rr : Int} (hF : F_ops_Check b = some rr) (H : St I D w [SlC NEOp v1_b b.ops]) :
  Calls Tryz.prog 92 #[.agg #[vI b.client, vI b.req, v1_b]] w (Ret fun vv w' => vv = vI rr ∧ ∃ I', Hf I D w I' w' []) := by
 replace H := H.hf
 unfold F_ops_Check at hF
 refine f_enter 49 Tryz.func92 rfl rfl (Nat.le_of_ble_eq_true rfl) fun a Z => ?_
 replace Z := Z.sub (ts := [0]) rfl
 refine wp_seq (f_region Z ?_); clear Z; intro Z
 refine hB Z H [vI b.client, vI b.req, v1_b] rfl rfl rfl rfl fun a w1 b1 H Z => ?_
 refine s_runk tOps Z 1 rfl rfl fun a Z => ?_
 refine s_end Z [1, 2] rfl fun Z => ?_
 refine p_then (wp_seq ?_)
 refine wp_block ?_
 refine wp_seq (f_region Z ?_); clear Z; intro Z
 refine s_runk tOps Z 1 rfl rfl fun a Z => ?_
 refine sO Z _ rfl (oL tOps rfl rfl (H.bc 0 0 rfl rfl)) fun a Z => ?_
 refine s_runk tOps Z 2 rfl rfl fun a Z => ?_
 refine gO Z (pp b1 0) rfl (wantB_f _) (.n 1 rfl .z) (fun hp => Ob_c tOps rfl) fun a Z => ?_
 refine gO Z _ rfl (wantB_f _) (.c 12 rfl id .z) (fun hp => oL tOps rfl rfl (H.bc 0 0 rfl rfl)) fun a Z => ?_
 refine gO Z (vT (decide (b.client ≥ 3))) rfl (wantB_f _) (.c 13 rfl id .z) (fun hp => Ob_c tOps rfl) fun a Z => ?_
 refine sO Z (vT ((decide (b.client < 0)) || (decide (b.client ≥ 3)))) rfl (Ob_pick rfl rfl rfl rfl (pick_or _ _)) fun a Z => ?_
 refine s_runk tOps Z 1 rfl rfl fun a Z => ?_
 refine s_end Z [1, 2, 7] rfl fun Z => ?_
 refine p_then ?_
 refine f_cond Z rfl (fun hc1 => ?_) (fun hc1 => ?_)
 ·replace hF := ite_t hc1 hF
  refine wp_seq (f_region Z ?_); clear Z; intro Z
  refine s_runk tOps Z 1 rfl rfl fun a Z => ?_
  refine s_end Z [1, 2] rfl fun Z => ?_
  refine p_then (wp_ret ?_)
  refine p_blk_r ?_
  refine p_then_r ?_
  obtain rfl := some_in hF
  exact f_ret Z (run_results1 rfl Z rfl) ⟨rfl, I, (H.sub [] rfl).eq rfl⟩
 ·replace hF := ite_f hc1 hF
  refine wp_seq (f_region Z ?_); clear Z; intro Z
  refine s_runk tOps Z 1 rfl rfl fun a Z => ?_
  refine sO Z _ rfl (oL tOps rfl rfl (H.bc 0 1 rfl rfl)) fun a Z => ?_
  refine s_runk tOps Z 2 rfl rfl fun a Z => ?_
  refine gO Z (pp b1 1) rfl (wantB_f _) (.n 1 rfl .z) (fun hp => Ob_c tOps rfl) fun a Z => ?_
  refine gO Z _ rfl (wantB_f _) (.c 21 rfl id .z) (fun hp => oL tOps rfl rfl (H.bc 0 1 rfl rfl)) fun a Z => ?_
  refine gO Z (vT (decide (b.req > 1073741824))) rfl (wantB_f _) (.c 22 rfl id .z) (fun hp => Ob_c tOps rfl) fun a Z => ?_
  refine sO Z (vT ((decide (b.req < 1)) || (decide (b.req > 1073741824)))) rfl (Ob_pick rfl rfl rfl rfl (pick_or _ _)) fun a Z => ?_
  refine s_runk tOps Z 1 rfl rfl fun a Z => ?_
  refine s_end Z [1, 2, 16] rfl fun Z => ?_
  refine p_then ?_
  refine f_cond Z rfl (fun hc2 => ?_) (fun hc2 => ?_)
  ·replace hF := ite_t hc2 hF
   refine wp_seq (f_region Z ?_); clear Z; intro Z
   refine s_runk tOps Z 1 rfl rfl fun a Z => ?_
   refine s_end Z [1, 2] rfl fun Z => ?_
   refine p_then (wp_ret ?_)
   refine p_blk_r ?_
   refine p_then_r ?_
   obtain rfl := some_in hF
   exact f_ret Z (run_results1 rfl Z rfl) ⟨rfl, I, (H.sub [] rfl).eq rfl⟩
  ·replace hF := ite_f hc2 hF
   refine wp_seq (f_region Z ?_); clear Z; intro Z
   refine s_runk tOps Z 1 rfl rfl fun a Z => ?_
   refine sO Z _ rfl (oL tOps rfl rfl (H.bc 0 2 rfl rfl)) fun a Z => ?_
   refine sO Z (vI (ln b.ops)) rfl (Ob_slen tOps rfl rfl rfl (H.slshape 1 rfl)) fun a Z => ?_
   refine s_runk tOps Z 2 rfl rfl fun a Z => ?_
   refine s_end Z [1, 2, 25] rfl fun Z => ?_
   refine p_then ?_
   refine f_cond Z rfl (fun hc3 => ?_) (fun hc3 => ?_)
   ·replace hF := ite_t hc3 hF
    refine wp_seq (f_region Z ?_); clear Z; intro Z
    refine s_runk tOps Z 1 rfl rfl fun a Z => ?_
    refine s_end Z [1, 2] rfl fun Z => ?_
    refine p_then (wp_ret ?_)
    refine p_blk_r ?_
    refine p_then_r ?_
    obtain rfl := some_in hF
    exact f_ret Z (run_results1 rfl Z rfl) ⟨rfl, I, (H.sub [] rfl).eq rfl⟩
   ·replace hF := ite_f hc3 hF
    refine wp_skip ?_
    refine p_blk ?_
    refine p_then (wp_seq (f_region Z ?_)); clear Z; intro Z
    refine s_runk tOps Z 1 rfl rfl fun a Z => ?_
    refine s_end Z [1, 2, 3] rfl fun Z => ?_
    refine p_then (wp_seq ?_)
    refine wp_seq (f_region Z ?_); clear Z; intro Z
    refine s_runk tOps Z 1 rfl rfl fun a Z => ?_
    refine sO Z _ rfl (oL tOps rfl rfl (H.bc 0 2 rfl rfl)) fun a Z => ?_
    refine sO Z (vI (ln b.ops)) rfl (Ob_slen tOps rfl rfl rfl (H.slshape 1 rfl)) fun a Z => ?_
    refine s_runk tOps Z 1 rfl rfl fun a Z => ?_
    refine s_end Z [2, 3, 31, 32, 33] rfl fun Z => ?_
    refine p_then (wp_block ?_)
    refine f_iter hF (fun sg a' w' => match sg with | (ahead, x) => Sl 49 [(2, vI 0), (3, vS ahead), (31, v1_b), (32, vI (ln b.ops)), (33, vI x)] a' ∧ ∃ I2, Hf I D w I2 w' [SlC NEOp v1_b b.ops]) ⟨Z.sub (ts := [2, 3, 31, 32, 33]) rfl, ⟨I, (H.sub [(1, true)] rfl).eq rfl⟩⟩ ?_
    rintro rc ⟨ahead, x⟩ a w2 ⟨Z, I1, H⟩ hF
    unfold F_ops_Check_l1 at hF
    try dsimp only at hF
    refine wp_seq (f_region Z ?_); clear Z; intro Z
    refine s_runk tOps Z 1 rfl rfl fun a Z => ?_
    refine s_end Z [2, 3, 31, 32, 33, 34] rfl fun Z => ?_
    refine p_then (wp_seq ?_)
    refine f_cond Z rfl (fun hc4 => ?_) (fun hc4 => ?_)
    ·replace hF := ite_t hc4 hF
     refine wp_skip ?_
     refine p_then (wp_seq ?_)
     refine wp_block ?_
     refine wp_seq ?_
     obtain ⟨hg1, hF⟩ := chk_in hF
     refine f_region Z fun Z => ?_
     refine s_runk tOps Z 1 rfl rfl fun a Z => ?_
     refine sO Z (.pointer (some ⟨blkOf v1_b, oofOf v1_b + (x).toNat * 3, none⟩)) rfl (Ob_sidx tOps rfl rfl rfl rfl (slPl (H.sl 0 rfl) hg1) hg1) fun a Z => ?_
     refine sO Z (.agg #[vS ((gi b.ops x).key), vS ((gi b.ops x).val), vT ((gi b.ops x).del)]) rfl (oA tOps rfl rfl ((slFl (H.sl 0 rfl) hg1).part 0 rfl)) fun a Z => ?_
     refine hA Z H [vS ByteArray.empty, vS ByteArray.empty, vT false] rfl rfl (by kernel_rfl) fun a w3 b2 H Z => ?_
     refine s_runk tOps Z 1 rfl rfl fun a Z => ?_
     refine hT tOps Z H 0 rfl rfl rfl rfl rfl (onR 3 rfl one_nil) (Nat.le_of_ble_eq_true rfl) rfl fun w4 H => ?_
     dsimp only [List.eraseIdx] at H
     refine s_end Z [2, 3, 31, 32, 33, 34, 35, 36, 37, 5, 4] rfl fun Z => ?_
     refine p_then (wp_seq ?_)
     refine wp_seq ?_
     obtain ⟨o, hx1, hF⟩ := bnd_in hF
     refine f_region Z fun Z => ?_
     refine sO Z (.agg #[vS ((gi b.ops x).key), vS ((gi b.ops x).val), vT ((gi b.ops x).del)]) rfl (oA tOps rfl rfl ((H.bx 0 rfl).part 0 rfl)) fun a Z => ?_
     refine s_runk tOps Z 3 rfl rfl fun a Z => ?_
     refine hC Z H [] rfl #[] fn_122_YOps rfl rfl (fun D h => have q := c_ops_one hx1 h; q) fun vv a w5 D2 hr hF2 Z => ?_
     obtain ⟨rfl, I2, K⟩ := hr
     have H := (hF2 K).nf rfl
     refine s_runk tOps Z 1 rfl rfl fun a Z => ?_
     refine s_end Z [2, 3, 31, 32, 33, 34, 35, 36, 37, 5, 4, 38, 39, 40, 41, 42, 6] rfl fun Z => ?_
     refine p_then (wp_seq (f_region Z ?_)); clear Z; intro Z
     refine s_runk tOps Z 2 rfl rfl fun a Z => ?_
     refine s_end Z [2, 3, 31, 32, 33, 34, 35, 36, 37, 5, 4, 38, 39, 40, 41, 42, 6, 43, 44] rfl fun Z => ?_
     refine p_then ?_
     refine f_cond Z rfl (fun hc5 => ?_) (fun hc5 => ?_)
     ·replace hF := ite_t hc5 hF
      refine wp_seq (f_region Z ?_); clear Z; intro Z
      refine s_runk tOps Z 2 rfl rfl fun a Z => ?_
      refine s_end Z [2, 3, 31, 32, 33, 34, 35, 36, 37, 5, 4, 38, 39, 40, 41, 42, 6, 43, 44, 45] rfl fun Z => ?_
      refine p_then (wp_ret ?_)
      refine p_then_r ?_
      refine p_blk_r ?_
      refine p_then_r ?_
      refine p_then_r ?_
      refine p_blk_r ?_
      refine p_then_r ?_
      obtain rfl := some_in hF
      exact f_ret Z (run_results1 rfl Z rfl) ⟨rfl, I2, (H.sub [] rfl).eq rfl⟩
     ·replace hF := ite_f hc5 hF
      refine wp_skip ?_
      refine p_then ?_
      refine f_region Z fun Z => ?_
      refine s_runk tOps Z 1 rfl rfl fun a Z => ?_
      refine sO Z _ rfl (oL tOps rfl rfl (H.bc 0 0 rfl rfl)) fun a Z => ?_
      refine s_runk tOps Z 1 rfl rfl fun a Z => ?_
      refine s_end Z [2, 3, 31, 32, 33, 34, 35, 36, 37, 5, 4, 38, 39, 40, 41, 42, 6, 43, 44, 46, 47] rfl fun Z => ?_
      refine p_blk ?_
      refine p_then ?_
      obtain ⟨hg2, hF⟩ := chk_in hF
      refine f_region Z fun Z => ?_
      refine sO Z (vI (x + 1)) rfl (Ob_add rfl rfl rfl (wrI hg2)) fun a Z => ?_
      refine s_runk tOps Z 1 rfl rfl fun a Z => ?_
      refine s_end Z [2, 3, 31, 32, 33, 34, 35, 36, 37, 5, 4, 38, 39, 40, 41, 42, 6, 43, 44, 46, 47, 48] rfl fun Z => ?_
      refine p_then ?_
      exact ⟨((gi b.ops x).key, x + 1), ⟨Z.sub (ts := [2, 3, 31, 32, 33]) rfl, ⟨I2, (H.sub [(1, true)] rfl).eq rfl⟩⟩, hF⟩
    ·replace hF := ite_f hc4 hF
     refine wp_exit ?_
     refine p_then_x ?_
     refine p_then_x ?_
     refine f_exit_here ?_
     refine p_then (wp_seq (f_region Z ?_)); clear Z; intro Z
     refine s_runk tOps Z 1 rfl rfl fun a Z => ?_
     refine s_end Z [2] rfl fun Z => ?_
     refine p_then (wp_ret ?_)
     obtain rfl := some_in hF
     exact f_ret Z (run_results1 rfl Z rfl) ⟨rfl, I1, (H.sub [] rfl).eq rfl⟩

end Go.Proofs.YthmjkcdpbbcdgaaGreat
