/- Keys and operations: what the program and the document compute. -/
import Derived.Test.YthmjkcdpbbcdgaaYWire
namespace Go.Proofs.Ythmjkcdpbbcdgaa
open Go.RowKit
structure EOp where
 key : ByteArray
 val : ByteArray
 del : Bool

instance : Inhabited EOp := ⟨⟨ByteArray.empty, ByteArray.empty, false⟩⟩

def eqEOp (x y : EOp) : Bool := (seqB x.key y.key) && (seqB x.val y.val) && (x.del == y.del)

theorem eqEOp_iff {x y : EOp} : eqEOp x y = true ↔ x = y := by cases x; cases y; simp [eqEOp, seqB_iff, and_assoc]

def cEOp (x : EOp) : List Value := [.string x.key, .string x.val, .bool x.del]

def NEOp : Rp EOp := Rp.flat 3 (fun _ => True) (fun x => cEOp x) (fun _ => rfl) (fun x c hc => by simp only [cEOp, List.mem_cons, List.not_mem_nil, or_false] at hc; rcases hc with rfl | rfl | rfl <;> rfl)

structure EBatch where
 client : Int
 req : Int
 ops : List EOp

instance : Inhabited EBatch := ⟨⟨0, 0, []⟩⟩

def cEBatch (x : EBatch) (v0 : Value) : List Value := [.int .i64 x.client, .int .i64 x.req, v0]

def NEBatch : Rp EBatch where
 n := 3
 rep A w cs x := ∃ v0 : Value, cs = cEBatch x v0 ∧ slRep NEOp A w v0 x.ops
 len := fun ⟨v0, h, _⟩ => by rw [h]; rfl
 one := fun ⟨v0, h, s0⟩ c hc => by
  rw [h] at hc
  simp only [cEBatch, List.mem_cons, List.not_mem_nil, or_false] at hc
  rcases hc with rfl | rfl | rfl
  ·rfl
  ·rfl
  ·exact s0.one
 mono := fun ⟨v0, h, s0⟩ hA hk => ⟨v0, h, s0.mono hA hk⟩
 bound := fun ⟨v0, h, s0⟩ => ⟨v0, h, s0.bound⟩

def tOpsL : TabL := ⟨[(29696, 0), (29697, 1), (29698, 2), (129024, 0), (129025, 1), (129026, 2)], [9], [], [(27, (126, 3))], [(3, (1, false)), (4, (1, false)), (9, (1, false)), (27, (1, false)), (29, (3, true)), (126, (3, true))]⟩

def tOps : Tab Try.prog := ⟨tOpsL, by kernel_rfl⟩

theorem fn_13_YOps : IsFn Try.prog 13 := ⟨_, Try.func13, by kernel_rfl, by kernel_rfl⟩

theorem fn_14_YOps : IsFn Try.prog 14 := ⟨_, Try.func14, by kernel_rfl, by kernel_rfl⟩

theorem fn_16_YOps : IsFn Try.prog 16 := ⟨_, Try.func16, by kernel_rfl, by kernel_rfl⟩

theorem fn_36_YOps : IsFn Try.prog 36 := ⟨_, Try.func36, by kernel_rfl, by kernel_rfl⟩

theorem fn_59_YOps : IsFn Try.prog 59 := ⟨_, Try.func59, by kernel_rfl, by kernel_rfl⟩

theorem fn_68_YOps : IsFn Try.prog 68 := ⟨_, Try.func68, by kernel_rfl, by kernel_rfl⟩

theorem fn_78_YOps : IsFn Try.prog 78 := ⟨_, Try.func78, by kernel_rfl, by kernel_rfl⟩

theorem fn_80_YOps : IsFn Try.prog 80 := ⟨_, Try.func80, by kernel_rfl, by kernel_rfl⟩

def F_keys_Check (k : ByteArray) : Option Int := if ((seqB k ⟨#[]⟩) || (decide ((k.size : Int) > 8))) = true then (some 10) else (some 0)

set_option maxHeartbeats 1000000 in
theorem c_keys_Check {I D : Dm} {k : ByteArray} {w : World} {rr : Int} (hF : F_keys_Check k = some rr) (H : St I D w []) :
  Calls Try.prog 80 #[vS k] w (Ret fun vv w' => vv = vI rr ∧ ∃ I', Hf I D w I' w' []) := by
 replace H := H.hf
 unfold F_keys_Check at hF
 refine f_enter 10 Try.func80 rfl rfl (Nat.le_of_ble_eq_true rfl) fun a Z => ?_
 replace Z := Z.sub (ts := [0]) rfl
 refine wp_seq (f_region Z ?_); clear Z; intro Z
 refine s_runk tOps Z 1 rfl rfl fun a Z => ?_
 refine s_end Z [0, 2] rfl fun Z => ?_
 refine p_then (wp_seq ?_)
 refine wp_seq (f_region Z ?_); clear Z; intro Z
 refine s_runk tOps Z 3 rfl rfl fun a Z => ?_
 refine gO Z (vS k) rfl (wantB_f _) (.n 0 rfl .z) (fun hp => Ob_c tOps rfl) fun a Z => ?_
 refine gO Z (vI (k.size : Int)) rfl (wantB_f _) (.c 6 rfl id .z) (fun hp => Ob_c tOps rfl) fun a Z => ?_
 refine gO Z (vT (decide ((k.size : Int) > 8))) rfl (wantB_f _) (.c 7 rfl id .z) (fun hp => Ob_c tOps rfl) fun a Z => ?_
 refine sO Z (vT ((seqB k ⟨#[]⟩) || (decide ((k.size : Int) > 8)))) rfl (Ob_pick rfl rfl rfl rfl (pick_or _ _)) fun a Z => ?_
 refine s_end Z [2, 9] rfl fun Z => ?_
 refine p_then ?_
 refine f_cond Z rfl (fun hc1 => ?_) (fun hc1 => ?_)
 ·replace hF := ite_t hc1 hF
  refine wp_seq (f_region Z ?_); clear Z; intro Z
  refine s_runk tOps Z 1 rfl rfl fun a Z => ?_
  refine s_end Z [2] rfl fun Z => ?_
  refine p_then (wp_ret ?_)
  refine p_then_r ?_
  obtain rfl := some_in hF
  exact f_ret Z (run_results1 rfl Z rfl) ⟨rfl, I, (H.sub [] rfl).eq rfl⟩
 ·replace hF := ite_f hc1 hF
  refine wp_skip ?_
  refine p_then (wp_seq (f_region Z ?_)); clear Z; intro Z
  refine s_runk tOps Z 1 rfl rfl fun a Z => ?_
  refine s_end Z [2] rfl fun Z => ?_
  refine p_then (wp_ret ?_)
  obtain rfl := some_in hF
  exact f_ret Z (run_results1 rfl Z rfl) ⟨rfl, I, (H.sub [] rfl).eq rfl⟩

def F_ops_one (o : EOp) (ahead : ByteArray) (first : Bool) : Option Int := (F_keys_Check o.key).bind fun c => (if (c != 0) = true then (some 10) else (if (decide ((o.val.size : Int) > 8)) = true then (some 3) else (if (o.del && (!seqB o.val ⟨#[]⟩)) = true then (some 4) else (if ((!first) && (!sltB ahead o.key)) = true then (some 18) else (some 0)))))

set_option maxHeartbeats 1000000 in
theorem c_ops_one {I D : Dm} {o : EOp} {ahead : ByteArray} {first : Bool} {w : World} {rr : Int} (hF : F_ops_one o ahead first = some rr) (H : St I D w []) :
  Calls Try.prog 78 #[.agg #[vS o.key, vS o.val, vT o.del], vS ahead, vT first] w (Ret fun vv w' => vv = vI rr ∧ ∃ I', Hf I D w I' w' []) := by
 replace H := H.hf
 unfold F_ops_one at hF
 refine f_enter 34 Try.func78 rfl rfl (Nat.le_of_ble_eq_true rfl) fun a Z => ?_
 replace Z := Z.sub (ts := [0, 1, 2]) rfl
 refine wp_seq (f_region Z ?_); clear Z; intro Z
 refine hB Z H [vS o.key, vS o.val, vT o.del] rfl rfl rfl rfl fun a w1 b1 H Z => ?_
 refine s_runk tOps Z 1 rfl rfl fun a Z => ?_
 refine s_end Z [1, 2, 3, 6] rfl fun Z => ?_
 refine p_then (wp_seq ?_)
 refine wp_block ?_
 refine wp_seq ?_
 obtain ⟨c, hx1, hF⟩ := bnd_in hF
 refine f_region Z fun Z => ?_
 refine s_runk tOps Z 1 rfl rfl fun a Z => ?_
 refine sO Z _ rfl (oL tOps rfl rfl (H.bc 0 0 rfl rfl)) fun a Z => ?_
 refine hC Z H [] rfl #[] fn_80_YOps rfl rfl (fun D h => have q := c_keys_Check hx1 h; q) fun vv a w2 D2 hr hF2 Z => ?_
 obtain ⟨rfl, I1, K⟩ := hr
 have H := (hF2 K).nf rfl
 refine s_runk tOps Z 2 rfl rfl fun a Z => ?_
 refine s_end Z [1, 2, 3, 6, 7] rfl fun Z => ?_
 refine p_then ?_
 refine f_cond Z rfl (fun hc1 => ?_) (fun hc1 => ?_)
 ·replace hF := ite_t hc1 hF
  refine wp_seq (f_region Z ?_); clear Z; intro Z
  refine s_runk tOps Z 1 rfl rfl fun a Z => ?_
  refine s_end Z [6] rfl fun Z => ?_
  refine p_then (wp_ret ?_)
  refine p_blk_r ?_
  refine p_then_r ?_
  obtain rfl := some_in hF
  exact f_ret Z (run_results1 rfl Z rfl) ⟨rfl, I1, (H.sub [] rfl).eq rfl⟩
 ·replace hF := ite_f hc1 hF
  refine wp_seq (f_region Z ?_); clear Z; intro Z
  refine s_runk tOps Z 1 rfl rfl fun a Z => ?_
  refine sO Z _ rfl (oL tOps rfl rfl (H.bc 0 1 rfl rfl)) fun a Z => ?_
  refine s_runk tOps Z 3 rfl rfl fun a Z => ?_
  refine s_end Z [1, 2, 3, 6, 12] rfl fun Z => ?_
  refine p_then ?_
  refine f_cond Z rfl (fun hc2 => ?_) (fun hc2 => ?_)
  ·replace hF := ite_t hc2 hF
   refine wp_seq (f_region Z ?_); clear Z; intro Z
   refine s_runk tOps Z 1 rfl rfl fun a Z => ?_
   refine s_end Z [6] rfl fun Z => ?_
   refine p_then (wp_ret ?_)
   refine p_blk_r ?_
   refine p_then_r ?_
   obtain rfl := some_in hF
   exact f_ret Z (run_results1 rfl Z rfl) ⟨rfl, I1, (H.sub [] rfl).eq rfl⟩
  ·replace hF := ite_f hc2 hF
   refine wp_seq (f_region Z ?_); clear Z; intro Z
   refine s_runk tOps Z 1 rfl rfl fun a Z => ?_
   refine sO Z _ rfl (oL tOps rfl rfl (H.bc 0 2 rfl rfl)) fun a Z => ?_
   refine s_runk tOps Z 1 rfl rfl fun a Z => ?_
   refine gO Z (pp b1 1) rfl (wantB_t _) (.n 3 rfl .z) (fun hp => Ob_c tOps rfl) fun a Z => ?_
   refine gO Z _ rfl (wantB_t _) (.c 21 rfl id .z) (fun hp => oL tOps rfl rfl (H.bc 0 1 rfl rfl)) fun a Z => ?_
   refine gO Z (vT (!seqB o.val ⟨#[]⟩)) rfl (wantB_t _) (.c 22 rfl id .z) (fun hp => Ob_c tOps rfl) fun a Z => ?_
   refine sO Z (vT (o.del && (!seqB o.val ⟨#[]⟩))) rfl (Ob_pick rfl rfl rfl rfl (pick_and _ _)) fun a Z => ?_
   refine s_runk tOps Z 1 rfl rfl fun a Z => ?_
   refine s_end Z [1, 2, 3, 6, 17] rfl fun Z => ?_
   refine p_then ?_
   refine f_cond Z rfl (fun hc3 => ?_) (fun hc3 => ?_)
   ·replace hF := ite_t hc3 hF
    refine wp_seq (f_region Z ?_); clear Z; intro Z
    refine s_runk tOps Z 1 rfl rfl fun a Z => ?_
    refine s_end Z [6] rfl fun Z => ?_
    refine p_then (wp_ret ?_)
    refine p_blk_r ?_
    refine p_then_r ?_
    obtain rfl := some_in hF
    exact f_ret Z (run_results1 rfl Z rfl) ⟨rfl, I1, (H.sub [] rfl).eq rfl⟩
   ·replace hF := ite_f hc3 hF
    refine wp_seq (f_region Z ?_); clear Z; intro Z
    refine s_runk tOps Z 3 rfl rfl fun a Z => ?_
    refine gO Z (vS ahead) rfl (wantB_t _) (.n 1 rfl .z) (fun hp => Ob_c tOps rfl) fun a Z => ?_
    refine gO Z (pp b1 0) rfl (wantB_t _) (.n 3 rfl .z) (fun hp => Ob_c tOps rfl) fun a Z => ?_
    refine gO Z _ rfl (wantB_t _) (.c 30 rfl id .z) (fun hp => oL tOps rfl rfl (H.bc 0 0 rfl rfl)) fun a Z => ?_
    refine gO Z (vT (!sltB ahead o.key)) rfl (wantB_t _) (.c 29 rfl id (.c 31 rfl id .z)) (fun hp => Ob_c tOps rfl) fun a Z => ?_
    refine sO Z (vT ((!first) && (!sltB ahead o.key))) rfl (Ob_pick rfl rfl rfl rfl (pick_and _ _)) fun a Z => ?_
    refine s_runk tOps Z 1 rfl rfl fun a Z => ?_
    refine s_end Z [6, 25] rfl fun Z => ?_
    refine p_then ?_
    refine f_cond Z rfl (fun hc4 => ?_) (fun hc4 => ?_)
    ·replace hF := ite_t hc4 hF
     refine wp_seq (f_region Z ?_); clear Z; intro Z
     refine s_runk tOps Z 1 rfl rfl fun a Z => ?_
     refine s_end Z [6] rfl fun Z => ?_
     refine p_then (wp_ret ?_)
     refine p_blk_r ?_
     refine p_then_r ?_
     obtain rfl := some_in hF
     exact f_ret Z (run_results1 rfl Z rfl) ⟨rfl, I1, (H.sub [] rfl).eq rfl⟩
    ·replace hF := ite_f hc4 hF
     refine wp_skip ?_
     refine p_blk ?_
     refine p_then (wp_seq (f_region Z ?_)); clear Z; intro Z
     refine s_runk tOps Z 1 rfl rfl fun a Z => ?_
     refine s_end Z [6] rfl fun Z => ?_
     refine p_then (wp_ret ?_)
     obtain rfl := some_in hF
     exact f_ret Z (run_results1 rfl Z rfl) ⟨rfl, I1, (H.sub [] rfl).eq rfl⟩

def F_ops_Check_l1 (b : EBatch) (rc : (ByteArray × Int) → Option Int) (sg : ByteArray × Int) : Option Int := match sg with | (ahead, x) => if (decide (x < (b.ops.length : Int))) = true then (chk ((0 : Int) ≤ x ∧ x < (b.ops.length : Int)) ((F_ops_one (b.ops.getD (x).toNat default) ahead (x == 0)).bind fun o => (if (o != 0) = true then (some o) else (chk (inI (x + 1)) (rc ((b.ops.getD (x).toNat default).key, x + 1)))))) else (some 0)

def F_ops_Check (b : EBatch) : Option Int := if ((decide (b.client < 0)) || (decide (b.client ≥ 3))) = true then (some 1) else (if ((decide (b.req < 1)) || (decide (b.req > 1073741824))) = true then (some 5) else (if (decide ((b.ops.length : Int) > 4)) = true then (some 6) else (iter (F_ops_Check_l1 b) FU (⟨#[]⟩, 0))))

set_option maxHeartbeats 1000000 in
theorem c_ops_Check {I D : Dm} {b : EBatch} {v1_b : Value} {w : World} {rr : Int} (hF : F_ops_Check b = some rr) (H : St I D w [SlC NEOp v1_b b.ops]) :
  Calls Try.prog 59 #[.agg #[vI b.client, vI b.req, v1_b]] w (Ret fun vv w' => vv = vI rr ∧ ∃ I', Hf I D w I' w' []) := by
 replace H := H.hf
 unfold F_ops_Check at hF
 refine f_enter 49 Try.func59 rfl rfl (Nat.le_of_ble_eq_true rfl) fun a Z => ?_
 replace Z := Z.sub (ts := [0]) rfl
 refine wp_seq (f_region Z ?_); clear Z; intro Z
 refine hB Z H [vI b.client, vI b.req, v1_b] rfl rfl rfl rfl fun a w1 b1 H Z => ?_
 refine s_runk tOps Z 1 rfl rfl fun a Z => ?_
 refine s_end Z [1, 2] rfl fun Z => ?_
 refine p_then (wp_seq ?_)
 refine wp_block ?_
 refine wp_seq (f_region Z ?_); clear Z; intro Z
 refine s_runk tOps Z 1 rfl rfl fun a Z => ?_
 refine sO Z _ rfl (oL tOps rfl rfl (H.bc 0 0 rfl rfl)) fun a Z => ?_
 refine s_runk tOps Z 2 rfl rfl fun a Z => ?_
 refine gO Z (pp b1 0) rfl (wantB_f _) (.n 1 rfl .z) (fun hp => Ob_c tOps rfl) fun a Z => ?_
 refine gO Z _ rfl (wantB_f _) (.c 12 rfl id .z) (fun hp => oL tOps rfl rfl (H.bc 0 0 rfl rfl)) fun a Z => ?_
 refine gO Z (vT (decide (b.client ≥ 3))) rfl (wantB_f _) (.c 13 rfl id .z) (fun hp => Ob_c tOps rfl) fun a Z => ?_
 refine sO Z (vT ((decide (b.client < 0)) || (decide (b.client ≥ 3)))) rfl (Ob_pick rfl rfl rfl rfl (pick_or _ _)) fun a Z => ?_
 refine s_runk tOps Z 1 rfl rfl fun a Z => ?_
 refine s_end Z [1, 2, 7] rfl fun Z => ?_
 refine p_then ?_
 refine f_cond Z rfl (fun hc1 => ?_) (fun hc1 => ?_)
 ·replace hF := ite_t hc1 hF
  refine wp_seq (f_region Z ?_); clear Z; intro Z
  refine s_runk tOps Z 1 rfl rfl fun a Z => ?_
  refine s_end Z [1, 2] rfl fun Z => ?_
  refine p_then (wp_ret ?_)
  refine p_blk_r ?_
  refine p_then_r ?_
  obtain rfl := some_in hF
  exact f_ret Z (run_results1 rfl Z rfl) ⟨rfl, I, (H.sub [] rfl).eq rfl⟩
 ·replace hF := ite_f hc1 hF
  refine wp_seq (f_region Z ?_); clear Z; intro Z
  refine s_runk tOps Z 1 rfl rfl fun a Z => ?_
  refine sO Z _ rfl (oL tOps rfl rfl (H.bc 0 1 rfl rfl)) fun a Z => ?_
  refine s_runk tOps Z 2 rfl rfl fun a Z => ?_
  refine gO Z (pp b1 1) rfl (wantB_f _) (.n 1 rfl .z) (fun hp => Ob_c tOps rfl) fun a Z => ?_
  refine gO Z _ rfl (wantB_f _) (.c 21 rfl id .z) (fun hp => oL tOps rfl rfl (H.bc 0 1 rfl rfl)) fun a Z => ?_
  refine gO Z (vT (decide (b.req > 1073741824))) rfl (wantB_f _) (.c 22 rfl id .z) (fun hp => Ob_c tOps rfl) fun a Z => ?_
  refine sO Z (vT ((decide (b.req < 1)) || (decide (b.req > 1073741824)))) rfl (Ob_pick rfl rfl rfl rfl (pick_or _ _)) fun a Z => ?_
  refine s_runk tOps Z 1 rfl rfl fun a Z => ?_
  refine s_end Z [1, 2, 16] rfl fun Z => ?_
  refine p_then ?_
  refine f_cond Z rfl (fun hc2 => ?_) (fun hc2 => ?_)
  ·replace hF := ite_t hc2 hF
   refine wp_seq (f_region Z ?_); clear Z; intro Z
   refine s_runk tOps Z 1 rfl rfl fun a Z => ?_
   refine s_end Z [1, 2] rfl fun Z => ?_
   refine p_then (wp_ret ?_)
   refine p_blk_r ?_
   refine p_then_r ?_
   obtain rfl := some_in hF
   exact f_ret Z (run_results1 rfl Z rfl) ⟨rfl, I, (H.sub [] rfl).eq rfl⟩
  ·replace hF := ite_f hc2 hF
   refine wp_seq (f_region Z ?_); clear Z; intro Z
   refine s_runk tOps Z 1 rfl rfl fun a Z => ?_
   refine sO Z _ rfl (oL tOps rfl rfl (H.bc 0 2 rfl rfl)) fun a Z => ?_
   refine sO Z (vI (ln b.ops)) rfl (Ob_slen tOps rfl rfl rfl (H.slshape 1 rfl)) fun a Z => ?_
   refine s_runk tOps Z 2 rfl rfl fun a Z => ?_
   refine s_end Z [1, 2, 25] rfl fun Z => ?_
   refine p_then ?_
   refine f_cond Z rfl (fun hc3 => ?_) (fun hc3 => ?_)
   ·replace hF := ite_t hc3 hF
    refine wp_seq (f_region Z ?_); clear Z; intro Z
    refine s_runk tOps Z 1 rfl rfl fun a Z => ?_
    refine s_end Z [1, 2] rfl fun Z => ?_
    refine p_then (wp_ret ?_)
    refine p_blk_r ?_
    refine p_then_r ?_
    obtain rfl := some_in hF
    exact f_ret Z (run_results1 rfl Z rfl) ⟨rfl, I, (H.sub [] rfl).eq rfl⟩
   ·replace hF := ite_f hc3 hF
    refine wp_skip ?_
    refine p_blk ?_
    refine p_then (wp_seq (f_region Z ?_)); clear Z; intro Z
    refine s_runk tOps Z 1 rfl rfl fun a Z => ?_
    refine s_end Z [1, 2, 3] rfl fun Z => ?_
    refine p_then (wp_seq ?_)
    refine wp_seq (f_region Z ?_); clear Z; intro Z
    refine s_runk tOps Z 1 rfl rfl fun a Z => ?_
    refine sO Z _ rfl (oL tOps rfl rfl (H.bc 0 2 rfl rfl)) fun a Z => ?_
    refine sO Z (vI (ln b.ops)) rfl (Ob_slen tOps rfl rfl rfl (H.slshape 1 rfl)) fun a Z => ?_
    refine s_runk tOps Z 1 rfl rfl fun a Z => ?_
    refine s_end Z [2, 3, 31, 32, 33] rfl fun Z => ?_
    refine p_then (wp_block ?_)
    refine f_iter hF (fun sg a' w' => match sg with | (ahead, x) => Sl 49 [(2, vI 0), (3, vS ahead), (31, v1_b), (32, vI (ln b.ops)), (33, vI x)] a' ∧ ∃ I2, Hf I D w I2 w' [SlC NEOp v1_b b.ops]) ⟨Z.sub (ts := [2, 3, 31, 32, 33]) rfl, ⟨I, (H.sub [(1, true)] rfl).eq rfl⟩⟩ ?_
    rintro rc ⟨ahead, x⟩ a w2 ⟨Z, I1, H⟩ hF
    unfold F_ops_Check_l1 at hF
    try dsimp only at hF
    refine wp_seq (f_region Z ?_); clear Z; intro Z
    refine s_runk tOps Z 1 rfl rfl fun a Z => ?_
    refine s_end Z [2, 3, 31, 32, 33, 34] rfl fun Z => ?_
    refine p_then (wp_seq ?_)
    refine f_cond Z rfl (fun hc4 => ?_) (fun hc4 => ?_)
    ·replace hF := ite_t hc4 hF
     refine wp_skip ?_
     refine p_then (wp_seq ?_)
     refine wp_block ?_
     refine wp_seq ?_
     obtain ⟨hg1, hF⟩ := chk_in hF
     refine f_region Z fun Z => ?_
     refine s_runk tOps Z 1 rfl rfl fun a Z => ?_
     refine sO Z (.pointer (some ⟨blkOf v1_b, oofOf v1_b + (x).toNat * 3, none⟩)) rfl (Ob_sidx tOps rfl rfl rfl rfl (slPl (H.sl 0 rfl) hg1) hg1) fun a Z => ?_
     refine sO Z (.agg #[vS ((gi b.ops x).key), vS ((gi b.ops x).val), vT ((gi b.ops x).del)]) rfl (oA tOps rfl rfl ((slFl (H.sl 0 rfl) hg1).part 0 rfl)) fun a Z => ?_
     refine hA Z H [vS ByteArray.empty, vS ByteArray.empty, vT false] rfl rfl (by kernel_rfl) fun a w3 b2 H Z => ?_
     refine s_runk tOps Z 1 rfl rfl fun a Z => ?_
     refine hT tOps Z H 0 rfl rfl rfl rfl rfl (onR 3 rfl one_nil) (Nat.le_of_ble_eq_true rfl) rfl fun w4 H => ?_
     dsimp only [List.eraseIdx] at H
     refine s_end Z [2, 3, 31, 32, 33, 34, 35, 36, 37, 5, 4] rfl fun Z => ?_
     refine p_then (wp_seq ?_)
     refine wp_seq ?_
     obtain ⟨o, hx1, hF⟩ := bnd_in hF
     refine f_region Z fun Z => ?_
     refine sO Z (.agg #[vS ((gi b.ops x).key), vS ((gi b.ops x).val), vT ((gi b.ops x).del)]) rfl (oA tOps rfl rfl ((H.bx 0 rfl).part 0 rfl)) fun a Z => ?_
     refine s_runk tOps Z 3 rfl rfl fun a Z => ?_
     refine hC Z H [] rfl #[] fn_78_YOps rfl rfl (fun D h => have q := c_ops_one hx1 h; q) fun vv a w5 D2 hr hF2 Z => ?_
     obtain ⟨rfl, I2, K⟩ := hr
     have H := (hF2 K).nf rfl
     refine s_runk tOps Z 1 rfl rfl fun a Z => ?_
     refine s_end Z [2, 3, 31, 32, 33, 34, 35, 36, 37, 5, 4, 38, 39, 40, 41, 42, 6] rfl fun Z => ?_
     refine p_then (wp_seq (f_region Z ?_)); clear Z; intro Z
     refine s_runk tOps Z 2 rfl rfl fun a Z => ?_
     refine s_end Z [2, 3, 31, 32, 33, 34, 35, 36, 37, 5, 4, 38, 39, 40, 41, 42, 6, 43, 44] rfl fun Z => ?_
     refine p_then ?_
     refine f_cond Z rfl (fun hc5 => ?_) (fun hc5 => ?_)
     ·replace hF := ite_t hc5 hF
      refine wp_seq (f_region Z ?_); clear Z; intro Z
      refine s_runk tOps Z 2 rfl rfl fun a Z => ?_
      refine s_end Z [2, 3, 31, 32, 33, 34, 35, 36, 37, 5, 4, 38, 39, 40, 41, 42, 6, 43, 44, 45] rfl fun Z => ?_
      refine p_then (wp_ret ?_)
      refine p_then_r ?_
      refine p_blk_r ?_
      refine p_then_r ?_
      refine p_then_r ?_
      refine p_blk_r ?_
      refine p_then_r ?_
      obtain rfl := some_in hF
      exact f_ret Z (run_results1 rfl Z rfl) ⟨rfl, I2, (H.sub [] rfl).eq rfl⟩
     ·replace hF := ite_f hc5 hF
      refine wp_skip ?_
      refine p_then ?_
      refine f_region Z fun Z => ?_
      refine s_runk tOps Z 1 rfl rfl fun a Z => ?_
      refine sO Z _ rfl (oL tOps rfl rfl (H.bc 0 0 rfl rfl)) fun a Z => ?_
      refine s_runk tOps Z 1 rfl rfl fun a Z => ?_
      refine s_end Z [2, 3, 31, 32, 33, 34, 35, 36, 37, 5, 4, 38, 39, 40, 41, 42, 6, 43, 44, 46, 47] rfl fun Z => ?_
      refine p_blk ?_
      refine p_then ?_
      obtain ⟨hg2, hF⟩ := chk_in hF
      refine f_region Z fun Z => ?_
      refine sO Z (vI (x + 1)) rfl (Ob_add rfl rfl rfl (wrI hg2)) fun a Z => ?_
      refine s_runk tOps Z 1 rfl rfl fun a Z => ?_
      refine s_end Z [2, 3, 31, 32, 33, 34, 35, 36, 37, 5, 4, 38, 39, 40, 41, 42, 6, 43, 44, 46, 47, 48] rfl fun Z => ?_
      refine p_then ?_
      exact ⟨((gi b.ops x).key, x + 1), ⟨Z.sub (ts := [2, 3, 31, 32, 33]) rfl, ⟨I2, (H.sub [(1, true)] rfl).eq rfl⟩⟩, hF⟩
    ·replace hF := ite_f hc4 hF
     refine wp_exit ?_
     refine p_then_x ?_
     refine p_then_x ?_
     refine f_exit_here ?_
     refine p_then (wp_seq (f_region Z ?_)); clear Z; intro Z
     refine s_runk tOps Z 1 rfl rfl fun a Z => ?_
     refine s_end Z [2] rfl fun Z => ?_
     refine p_then (wp_ret ?_)
     obtain rfl := some_in hF
     exact f_ret Z (run_results1 rfl Z rfl) ⟨rfl, I1, (H.sub [] rfl).eq rfl⟩

def F_ops_Put_l1 (b : EBatch) (rc : (Int × Ewire_Writer) → Option (ByteArray × Int)) (sg : Int × Ewire_Writer) : Option (ByteArray × Int) := match sg with | (x, w0) => if (decide (x < (b.ops.length : Int))) = true then (chk ((0 : Int) ≤ x ∧ x < (b.ops.length : Int)) ((F_wire_Writer_Text w0 ((b.ops.getD (x).toNat default).key)).bind fun t => ((F_wire_Writer_Flag t ((b.ops.getD (x).toNat default).del)).bind fun f => ((F_wire_Writer_Text f ((b.ops.getD (x).toNat default).val)).bind fun t_2 => (chk (inI (x + 1)) (rc (x + 1, t_2))))))) else ((F_wire_Writer_Done w0).bind fun d => (some (d.1, d.2)))

def F_ops_Put (b : EBatch) : Option (ByteArray × Int) := (F_ops_Check b).bind fun c => (if (c != 0) = true then (some (⟨#[]⟩, c)) else ((F_wire_New).bind fun n0 => ((F_wire_Writer_Num n0 b.client).bind fun n0_2 => ((F_wire_Writer_Num n0_2 b.req).bind fun n0_3 => ((F_wire_Writer_Num n0_3 (b.ops.length : Int)).bind fun n0_4 => (iter (F_ops_Put_l1 b) FU (0, n0_4)))))))

set_option maxHeartbeats 1000000 in
theorem c_ops_Put {I D : Dm} {b : EBatch} {v1_b : Value} {w : World} {rr : ByteArray × Int} (hF : F_ops_Put b = some rr) (H : St I D w [SlC NEOp v1_b b.ops]) :
  Calls Try.prog 67 #[.agg #[vI b.client, vI b.req, v1_b]] w (Ret fun vv w' => vv = .tuple #[vS rr.1, vI rr.2] ∧ ∃ I', Hf I D w I' w' []) := by
 replace H := H.hf
 unfold F_ops_Put at hF
 refine f_enter 46 Try.func67 rfl rfl (Nat.le_of_ble_eq_true rfl) fun a Z => ?_
 replace Z := Z.sub (ts := [0]) rfl
 refine wp_seq (f_region Z ?_); clear Z; intro Z
 refine hB Z H [vI b.client, vI b.req, v1_b] rfl rfl rfl rfl fun a w1 b1 H Z => ?_
 refine s_runk tOps Z 2 rfl rfl fun a Z => ?_
 refine s_end Z [1, 2, 3] rfl fun Z => ?_
 refine p_then (wp_seq ?_)
 refine wp_seq ?_
 obtain ⟨c, hx1, hF⟩ := bnd_in hF
 refine f_region Z fun Z => ?_
 refine sO Z (.agg #[vI b.client, vI b.req, v1_b]) rfl (oA tOps rfl rfl ((H.bx 0 rfl).part 0 rfl)) fun a Z => ?_
 refine hC Z H [(1, true)] rfl #[] fn_59_YOps rfl rfl (fun D h => have q := c_ops_Check hx1 h; q) fun vv a w2 D2 hr hF2 Z => ?_
 obtain ⟨rfl, I1, K⟩ := hr
 have H := (hF2 K).nf rfl
 refine s_runk tOps Z 1 rfl rfl fun a Z => ?_
 refine s_end Z [1, 2, 3, 4] rfl fun Z => ?_
 refine p_then (wp_seq (f_region Z ?_)); clear Z; intro Z
 refine s_runk tOps Z 2 rfl rfl fun a Z => ?_
 refine s_end Z [1, 2, 3, 4, 11] rfl fun Z => ?_
 refine p_then ?_
 refine f_cond Z rfl (fun hc1 => ?_) (fun hc1 => ?_)
 ·replace hF := ite_t hc1 hF
  refine wp_seq (f_region Z ?_); clear Z; intro Z
  refine s_runk tOps Z 3 rfl rfl fun a Z => ?_
  refine s_end Z [1, 2, 3] rfl fun Z => ?_
  refine p_then (wp_ret ?_)
  refine p_then_r ?_
  obtain rfl := some_in hF
  exact f_ret Z (run_results2 rfl Z rfl rfl) ⟨rfl, I1, (H.sub [] rfl).eq rfl⟩
 ·replace hF := ite_f hc1 hF
  refine wp_skip ?_
  refine p_then (wp_seq ?_)
  obtain ⟨n0, hx2, hF⟩ := bnd_in hF
  obtain ⟨n0_2, hx3, hF⟩ := bnd_in hF
  obtain ⟨n0_3, hx4, hF⟩ := bnd_in hF
  obtain ⟨n0_4, hx5, hF⟩ := bnd_in hF
  refine f_regionM Z (by kernel_rfl) (by kernel_rfl) (by decide) (by decide) [0, 3, 6, 10] [(0, 0, 0), (0, 0, 1), (2, 0, 1), (7, 1, 1), (0, 0, 2), (16, 0, 2), (63, 2, 2), (0, 0, 3), (128, 0, 3), (384, 0, 3), (1023, 3, 3), (2047, 4, 4)] (by kernel_rfl) (fun jj => match jj with | 3 => 0 | 6 => 0 | 10 => 0 | 11 => 0 | _ => jj) (by kernel_rfl) (fun jj rv vv => match jj with | 0 => vv = .pointer (some ⟨(blkOf vv), 0, none⟩) | 1 => vv = pp b1 0 | 2 => vv = vI b.client | 3 => vv = .pointer (some ⟨(blkOf rv), 0, none⟩) | 4 => vv = pp b1 1 | 5 => vv = vI b.req | 6 => vv = .pointer (some ⟨(blkOf rv), 0, none⟩) | 7 => vv = pp b1 2 | 8 => vv = v1_b | 9 => vv = vI (ln b.ops) | 10 => vv = .pointer (some ⟨(blkOf rv), 0, none⟩) | 11 => vv = .pointer (some ⟨(blkOf rv), 0, none⟩) | _ => True) (fun ss vals1 xw => match ss with | 0 => Gx I D w I1 w2 xw [BxC b1 29 [vI b.client, vI b.req, v1_b], SlC NEOp v1_b b.ops] | 1 => Gx I D w I1 w2 xw [OEwire_Writer (blkOf (vals1 0)) n0, BxC b1 29 [vI b.client, vI b.req, v1_b], SlC NEOp v1_b b.ops] | 2 => Gx I D w I1 w2 xw [OEwire_Writer (blkOf (vals1 0)) n0_2, BxC b1 29 [vI b.client, vI b.req, v1_b], SlC NEOp v1_b b.ops] | 3 => Gx I D w I1 w2 xw [OEwire_Writer (blkOf (vals1 0)) n0_3, BxC b1 29 [vI b.client, vI b.req, v1_b], SlC NEOp v1_b b.ops] | _ => Gx I D w I1 w2 xw [OEwire_Writer (blkOf (vals1 0)) n0_4, BxC b1 29 [vI b.client, vI b.req, v1_b], SlC NEOp v1_b b.ops]) (fun _ => Gx.start H) ?_ ?_
  ·intro fr hfr hfe
   refine .cons (fun ss hlo hhi vals1 xw hG hV => ?_) ?_
   ·obtain rfl : ss = 0 := Nat.le_antisymm hhi hlo
    rw [← hfe]
    have hS := (hfr vals1).sub (ts := []) rfl
    obtain ⟨I2, hI2, H⟩ := Gx.ex hG
    refine L_hcall H (js := []) rfl (caps := #[]) hS fn_13_YOps rfl rfl rfl rfl rfl (fun D1 hS => have hq := c_wire_New hx2 hS; hq) fun _ yw D1 hr hF2 => ?_
    obtain ⟨g0_, rfl, I3, K⟩ := hr
    obtain ⟨hK, H2⟩ := hF2 K
    exact ⟨rfl, Gx.go hG hI2 hK K.imm H2⟩
   refine .cons (fun ss hlo hhi vals1 xw hG hV => ?_) ?_
   ·obtain rfl | rfl : ss = 0 ∨ ss = 1 := st1 hlo hhi
    all_goals
    ·rw [← hfe]
     have hS := (hfr vals1).sub (ts := [1]) rfl
     exact L_val hS rfl (Ob_c tOps rfl) ⟨rfl, hG⟩
   refine .cons (fun ss hlo hhi vals1 xw hG hV => ?_) ?_
   ·obtain rfl | rfl : ss = 0 ∨ ss = 1 := st1 hlo hhi
    ·rw [← hfe]
     have hS := (hfr vals1).sub (ts := [14]) rfl
     replace hS := hS.conv (t := 14) rfl (show (vals1 1) = pp b1 0 from hV 1 (by decide))
     obtain ⟨I2, hI2, H⟩ := Gx.ex hG
     exact L_val hS rfl (oL tOps rfl rfl (H.bc 0 0 rfl rfl)) ⟨rfl, hG⟩
    ·rw [← hfe]
     have hS := (hfr vals1).sub (ts := [14]) rfl
     replace hS := hS.conv (t := 14) rfl (show (vals1 1) = pp b1 0 from hV 1 (by decide))
     obtain ⟨I2, hI2, H⟩ := Gx.ex hG
     exact L_val hS rfl (oL tOps rfl rfl (H.bc 1 0 rfl rfl)) ⟨rfl, hG⟩
   refine .cons (fun ss hlo hhi vals1 xw hG hV => ?_) ?_
   ·obtain rfl : ss = 1 := Nat.le_antisymm hhi hlo
    rw [← hfe]
    have hS := (hfr vals1).sub (ts := [13, 15]) rfl
    replace hS := hS.conv (t := 13) rfl (show (vals1 0) = .pointer (some ⟨(blkOf (vals1 0)), 0, none⟩) from hV 0 (by decide))
    replace hS := hS.conv (t := 15) rfl (show (vals1 2) = vI b.client from hV 2 (by decide))
    obtain ⟨I2, hI2, H⟩ := Gx.ex hG
    refine L_hcall H (js := [(0, false)]) rfl (caps := #[]) hS fn_14_YOps rfl rfl rfl rfl rfl (fun D1 hS => have hq := c_wire_Writer_Num hx3 hS; hq) fun _ yw D1 hr hF2 => ?_
    obtain ⟨rfl, I3, K⟩ := hr
    obtain ⟨hK, H2⟩ := hF2 K
    exact ⟨rfl, Gx.go hG hI2 hK K.imm H2⟩
   refine .cons (fun ss hlo hhi vals1 xw hG hV => ?_) ?_
   ·obtain rfl | rfl | rfl : ss = 0 ∨ ss = 1 ∨ ss = 2 := st2 hlo hhi
    all_goals
    ·rw [← hfe]
     have hS := (hfr vals1).sub (ts := [1]) rfl
     exact L_val hS rfl (Ob_c tOps rfl) ⟨rfl, hG⟩
   refine .cons (fun ss hlo hhi vals1 xw hG hV => ?_) ?_
   ·obtain rfl | rfl | rfl : ss = 0 ∨ ss = 1 ∨ ss = 2 := st2 hlo hhi
    ·rw [← hfe]
     have hS := (hfr vals1).sub (ts := [17]) rfl
     replace hS := hS.conv (t := 17) rfl (show (vals1 4) = pp b1 1 from hV 4 (by decide))
     obtain ⟨I2, hI2, H⟩ := Gx.ex hG
     exact L_val hS rfl (oL tOps rfl rfl (H.bc 0 1 rfl rfl)) ⟨rfl, hG⟩
    ·rw [← hfe]
     have hS := (hfr vals1).sub (ts := [17]) rfl
     replace hS := hS.conv (t := 17) rfl (show (vals1 4) = pp b1 1 from hV 4 (by decide))
     obtain ⟨I2, hI2, H⟩ := Gx.ex hG
     exact L_val hS rfl (oL tOps rfl rfl (H.bc 1 1 rfl rfl)) ⟨rfl, hG⟩
    ·rw [← hfe]
     have hS := (hfr vals1).sub (ts := [17]) rfl
     replace hS := hS.conv (t := 17) rfl (show (vals1 4) = pp b1 1 from hV 4 (by decide))
     obtain ⟨I2, hI2, H⟩ := Gx.ex hG
     exact L_val hS rfl (oL tOps rfl rfl (H.bc 1 1 rfl rfl)) ⟨rfl, hG⟩
   refine .cons (fun ss hlo hhi vals1 xw hG hV => ?_) ?_
   ·obtain rfl : ss = 2 := Nat.le_antisymm hhi hlo
    rw [← hfe]
    have hS := (hfr vals1).sub (ts := [16, 18]) rfl
    replace hS := hS.conv (t := 16) rfl (show (vals1 3) = .pointer (some ⟨(blkOf (vals1 0)), 0, none⟩) from hV 3 (by decide))
    replace hS := hS.conv (t := 18) rfl (show (vals1 5) = vI b.req from hV 5 (by decide))
    obtain ⟨I2, hI2, H⟩ := Gx.ex hG
    refine L_hcall H (js := [(0, false)]) rfl (caps := #[]) hS fn_14_YOps rfl rfl rfl rfl rfl (fun D1 hS => have hq := c_wire_Writer_Num hx4 hS; hq) fun _ yw D1 hr hF2 => ?_
    obtain ⟨rfl, I3, K⟩ := hr
    obtain ⟨hK, H2⟩ := hF2 K
    exact ⟨rfl, Gx.go hG hI2 hK K.imm H2⟩
   refine .cons (fun ss hlo hhi vals1 xw hG hV => ?_) ?_
   ·obtain rfl | rfl | rfl | rfl : ss = 0 ∨ ss = 1 ∨ ss = 2 ∨ ss = 3 := st3 hlo hhi
    all_goals
    ·rw [← hfe]
     have hS := (hfr vals1).sub (ts := [1]) rfl
     exact L_val hS rfl (Ob_c tOps rfl) ⟨rfl, hG⟩
   refine .cons (fun ss hlo hhi vals1 xw hG hV => ?_) ?_
   ·obtain rfl | rfl | rfl | rfl : ss = 0 ∨ ss = 1 ∨ ss = 2 ∨ ss = 3 := st3 hlo hhi
    ·rw [← hfe]
     have hS := (hfr vals1).sub (ts := [20]) rfl
     replace hS := hS.conv (t := 20) rfl (show (vals1 7) = pp b1 2 from hV 7 (by decide))
     obtain ⟨I2, hI2, H⟩ := Gx.ex hG
     exact L_val hS rfl (oL tOps rfl rfl (H.bc 0 2 rfl rfl)) ⟨rfl, hG⟩
    ·rw [← hfe]
     have hS := (hfr vals1).sub (ts := [20]) rfl
     replace hS := hS.conv (t := 20) rfl (show (vals1 7) = pp b1 2 from hV 7 (by decide))
     obtain ⟨I2, hI2, H⟩ := Gx.ex hG
     exact L_val hS rfl (oL tOps rfl rfl (H.bc 1 2 rfl rfl)) ⟨rfl, hG⟩
    ·rw [← hfe]
     have hS := (hfr vals1).sub (ts := [20]) rfl
     replace hS := hS.conv (t := 20) rfl (show (vals1 7) = pp b1 2 from hV 7 (by decide))
     obtain ⟨I2, hI2, H⟩ := Gx.ex hG
     exact L_val hS rfl (oL tOps rfl rfl (H.bc 1 2 rfl rfl)) ⟨rfl, hG⟩
    ·rw [← hfe]
     have hS := (hfr vals1).sub (ts := [20]) rfl
     replace hS := hS.conv (t := 20) rfl (show (vals1 7) = pp b1 2 from hV 7 (by decide))
     obtain ⟨I2, hI2, H⟩ := Gx.ex hG
     exact L_val hS rfl (oL tOps rfl rfl (H.bc 1 2 rfl rfl)) ⟨rfl, hG⟩
   refine .cons (fun ss hlo hhi vals1 xw hG hV => ?_) ?_
   ·obtain rfl | rfl | rfl | rfl : ss = 0 ∨ ss = 1 ∨ ss = 2 ∨ ss = 3 := st3 hlo hhi
    ·rw [← hfe]
     have hS := (hfr vals1).sub (ts := [21]) rfl
     replace hS := hS.conv (t := 21) rfl (show (vals1 8) = v1_b from hV 8 (by decide))
     obtain ⟨I2, hI2, H⟩ := Gx.ex hG
     exact L_val hS rfl (Ob_slen tOps rfl rfl rfl (H.slshape 1 rfl)) ⟨rfl, hG⟩
    ·rw [← hfe]
     have hS := (hfr vals1).sub (ts := [21]) rfl
     replace hS := hS.conv (t := 21) rfl (show (vals1 8) = v1_b from hV 8 (by decide))
     obtain ⟨I2, hI2, H⟩ := Gx.ex hG
     exact L_val hS rfl (Ob_slen tOps rfl rfl rfl (H.slshape 2 rfl)) ⟨rfl, hG⟩
    ·rw [← hfe]
     have hS := (hfr vals1).sub (ts := [21]) rfl
     replace hS := hS.conv (t := 21) rfl (show (vals1 8) = v1_b from hV 8 (by decide))
     obtain ⟨I2, hI2, H⟩ := Gx.ex hG
     exact L_val hS rfl (Ob_slen tOps rfl rfl rfl (H.slshape 2 rfl)) ⟨rfl, hG⟩
    ·rw [← hfe]
     have hS := (hfr vals1).sub (ts := [21]) rfl
     replace hS := hS.conv (t := 21) rfl (show (vals1 8) = v1_b from hV 8 (by decide))
     obtain ⟨I2, hI2, H⟩ := Gx.ex hG
     exact L_val hS rfl (Ob_slen tOps rfl rfl rfl (H.slshape 2 rfl)) ⟨rfl, hG⟩
   refine .cons (fun ss hlo hhi vals1 xw hG hV => ?_) ?_
   ·obtain rfl : ss = 3 := Nat.le_antisymm hhi hlo
    rw [← hfe]
    have hS := (hfr vals1).sub (ts := [19, 22]) rfl
    replace hS := hS.conv (t := 19) rfl (show (vals1 6) = .pointer (some ⟨(blkOf (vals1 0)), 0, none⟩) from hV 6 (by decide))
    replace hS := hS.conv (t := 22) rfl (show (vals1 9) = vI (ln b.ops) from hV 9 (by decide))
    obtain ⟨I2, hI2, H⟩ := Gx.ex hG
    refine L_hcall H (js := [(0, false)]) rfl (caps := #[]) hS fn_14_YOps rfl rfl rfl rfl rfl (fun D1 hS => have hq := c_wire_Writer_Num hx5 hS; hq) fun _ yw D1 hr hF2 => ?_
    obtain ⟨rfl, I3, K⟩ := hr
    obtain ⟨hK, H2⟩ := hF2 K
    exact ⟨rfl, Gx.go hG hI2 hK K.imm H2⟩
   refine .cons (fun ss hlo hhi vals1 xw hG hV => ?_) ?_
   ·obtain rfl : ss = 4 := Nat.le_antisymm hhi hlo
    rw [← hfe]
    have hS := (hfr vals1).sub (ts := [23]) rfl
    replace hS := hS.conv (t := 23) rfl (show (vals1 10) = .pointer (some ⟨(blkOf (vals1 0)), 0, none⟩) from hV 10 (by decide))
    exact L_val hS rfl (Ob_c tOps rfl) ⟨rfl, hG⟩
   exact .nil
  ·intro vals1 a w3 Z hG hV
   replace Z := Z.sub (ts := [1, 2, 3, 5]) (S' := [(1, pp b1 0), (2, vS ⟨#[]⟩), (3, vI 0), (5, vals1 11)]) rfl
   replace Z := Z.conv (t := 5) rfl (show (vals1 11) = .pointer (some ⟨(blkOf (vals1 0)), 0, none⟩) from hV 11 (by decide))
   obtain ⟨I2, _, H⟩ := Gx.ex hG
   clear hG hV
   replace Z := Z.sub (ts := [1, 2, 3, 5]) rfl
   replace H := H.nf rfl; try dsimp only at H
   refine p_then (wp_seq ?_)
   refine wp_seq (f_region Z ?_); clear Z; intro Z
   refine s_runk tOps Z 1 rfl rfl fun a Z => ?_
   refine sO Z _ rfl (oL tOps rfl rfl (H.bc 1 2 rfl rfl)) fun a Z => ?_
   refine sO Z (vI (ln b.ops)) rfl (Ob_slen tOps rfl rfl rfl (H.slshape 2 rfl)) fun a Z => ?_
   refine s_runk tOps Z 1 rfl rfl fun a Z => ?_
   refine s_end Z [2, 3, 5, 25, 26, 27] rfl fun Z => ?_
   refine p_then (wp_block ?_)
   refine f_iter hF (fun sg a' w' => match sg with | (x, w0) => Sl 46 [(2, vS ⟨#[]⟩), (3, vI 0), (5, .pointer (some ⟨(blkOf (vals1 0)), 0, none⟩)), (25, v1_b), (26, vI (ln b.ops)), (27, vI x)] a' ∧ ∃ I2, Hf I D w I2 w' [OEwire_Writer (blkOf (vals1 0)) w0, SlC NEOp v1_b b.ops]) ⟨Z.sub (ts := [2, 3, 5, 25, 26, 27]) rfl, ⟨I2, (H.sub [(0, false), (1, true)] rfl).eq rfl⟩⟩ ?_
   rintro rc ⟨x, w0⟩ a w4 ⟨Z, I3, H⟩ hF
   unfold F_ops_Put_l1 at hF
   try dsimp only at hF
   refine wp_seq (f_region Z ?_); clear Z; intro Z
   refine s_runk tOps Z 1 rfl rfl fun a Z => ?_
   refine s_end Z [2, 3, 5, 25, 26, 27, 28] rfl fun Z => ?_
   refine p_then (wp_seq ?_)
   refine f_cond Z rfl (fun hc2 => ?_) (fun hc2 => ?_)
   ·replace hF := ite_t hc2 hF
    refine wp_skip ?_
    refine p_then (wp_seq ?_)
    refine wp_block ?_
    refine wp_seq ?_
    obtain ⟨hg1, hF⟩ := chk_in hF
    refine f_region Z fun Z => ?_
    refine sO Z (.pointer (some ⟨blkOf v1_b, oofOf v1_b + (x).toNat * 3, none⟩)) rfl (Ob_sidx tOps rfl rfl rfl rfl (slPl (H.sl 1 rfl) hg1) hg1) fun a Z => ?_
    refine sO Z (.agg #[vS ((gi b.ops x).key), vS ((gi b.ops x).val), vT ((gi b.ops x).del)]) rfl (oA tOps rfl rfl ((slFl (H.sl 1 rfl) hg1).part 0 rfl)) fun a Z => ?_
    refine hA Z H [vS ByteArray.empty, vS ByteArray.empty, vT false] rfl rfl (by kernel_rfl) fun a w5 b2 H Z => ?_
    refine hT tOps Z H 0 rfl rfl rfl rfl rfl (onR 3 rfl one_nil) (Nat.le_of_ble_eq_true rfl) rfl fun w6 H => ?_
    dsimp only [List.eraseIdx] at H
    refine s_end Z [2, 3, 5, 25, 26, 27, 28, 29, 30, 7] rfl fun Z => ?_
    refine p_then ?_
    obtain ⟨t, hx6, hF⟩ := bnd_in hF
    obtain ⟨f, hx7, hF⟩ := bnd_in hF
    obtain ⟨t_2, hx8, hF⟩ := bnd_in hF
    refine f_regionL Z (by kernel_rfl) (by kernel_rfl) (by decide) (by decide) [3, 6, 9] [(0, 0, 0), (0, 0, 0), (2, 0, 0), (7, 0, 0), (0, 0, 1), (16, 0, 1), (63, 1, 1), (0, 0, 2), (128, 0, 2), (511, 2, 2)] (by kernel_rfl) (fun jj vv => match jj with | 0 => vv = .pointer (some ⟨(blkOf (vals1 0)), 0, none⟩) | 1 => vv = pp b2 0 | 2 => vv = vS ((gi b.ops x).key) | 3 => vv = .pointer (some ⟨(blkOf (vals1 0)), 0, none⟩) | 4 => vv = pp b2 2 | 5 => vv = vT ((gi b.ops x).del) | 6 => vv = .pointer (some ⟨(blkOf (vals1 0)), 0, none⟩) | 7 => vv = pp b2 1 | 8 => vv = vS ((gi b.ops x).val) | 9 => vv = .pointer (some ⟨(blkOf (vals1 0)), 0, none⟩) | _ => True) (fun ss vals2 xw => match ss with | 0 => Gx I D w I3 w6 xw [BxC b2 126 [vS ((gi b.ops x).key), vS ((gi b.ops x).val), vT ((gi b.ops x).del)], OEwire_Writer (blkOf (vals1 0)) w0, SlC NEOp v1_b b.ops] | 1 => Gx I D w I3 w6 xw [OEwire_Writer (blkOf (vals1 0)) t, BxC b2 126 [vS ((gi b.ops x).key), vS ((gi b.ops x).val), vT ((gi b.ops x).del)], SlC NEOp v1_b b.ops] | 2 => Gx I D w I3 w6 xw [OEwire_Writer (blkOf (vals1 0)) f, BxC b2 126 [vS ((gi b.ops x).key), vS ((gi b.ops x).val), vT ((gi b.ops x).del)], SlC NEOp v1_b b.ops] | _ => Gx I D w I3 w6 xw [OEwire_Writer (blkOf (vals1 0)) t_2, BxC b2 126 [vS ((gi b.ops x).key), vS ((gi b.ops x).val), vT ((gi b.ops x).del)], SlC NEOp v1_b b.ops]) (fun _ => Gx.start H) ?_ ?_
    ·intro fr hfr hfe
     refine .cons (fun ss hlo hhi vals2 xw hG hV => ?_) ?_
     ·obtain rfl : ss = 0 := Nat.le_antisymm hhi hlo
      rw [← hfe]
      have hS := (hfr vals2).sub (ts := [5]) rfl
      exact L_val hS rfl (Ob_c tOps rfl) ⟨rfl, hG⟩
     refine .cons (fun ss hlo hhi vals2 xw hG hV => ?_) ?_
     ·obtain rfl : ss = 0 := Nat.le_antisymm hhi hlo
      rw [← hfe]
      have hS := (hfr vals2).sub (ts := [7]) rfl
      exact L_val hS rfl (Ob_c tOps rfl) ⟨rfl, hG⟩
     refine .cons (fun ss hlo hhi vals2 xw hG hV => ?_) ?_
     ·obtain rfl : ss = 0 := Nat.le_antisymm hhi hlo
      rw [← hfe]
      have hS := (hfr vals2).sub (ts := [32]) rfl
      replace hS := hS.conv (t := 32) rfl (show (vals2 1) = pp b2 0 from hV 1 (by decide))
      obtain ⟨I2, hI2, H⟩ := Gx.ex hG
      exact L_val hS rfl (oL tOps rfl rfl (H.bc 0 0 rfl rfl)) ⟨rfl, hG⟩
     refine .cons (fun ss hlo hhi vals2 xw hG hV => ?_) ?_
     ·obtain rfl : ss = 0 := Nat.le_antisymm hhi hlo
      rw [← hfe]
      have hS := (hfr vals2).sub (ts := [31, 33]) rfl
      replace hS := hS.conv (t := 31) rfl (show (vals2 0) = .pointer (some ⟨(blkOf (vals1 0)), 0, none⟩) from hV 0 (by decide))
      replace hS := hS.conv (t := 33) rfl (show (vals2 2) = vS ((gi b.ops x).key) from hV 2 (by decide))
      obtain ⟨I2, hI2, H⟩ := Gx.ex hG
      refine L_hcall H (js := [(1, false)]) rfl (caps := #[]) hS fn_36_YOps rfl rfl rfl rfl rfl (fun D1 hS => have hq := c_wire_Writer_Text hx6 hS; hq) fun _ yw D1 hr hF2 => ?_
      obtain ⟨rfl, I3, K⟩ := hr
      obtain ⟨hK, H2⟩ := hF2 K
      exact ⟨rfl, Gx.go hG hI2 hK K.imm H2⟩
     refine .cons (fun ss hlo hhi vals2 xw hG hV => ?_) ?_
     ·obtain rfl | rfl : ss = 0 ∨ ss = 1 := st1 hlo hhi
      all_goals
      ·rw [← hfe]
       have hS := (hfr vals2).sub (ts := [7]) rfl
       exact L_val hS rfl (Ob_c tOps rfl) ⟨rfl, hG⟩
     refine .cons (fun ss hlo hhi vals2 xw hG hV => ?_) ?_
     ·obtain rfl | rfl : ss = 0 ∨ ss = 1 := st1 hlo hhi
      ·rw [← hfe]
       have hS := (hfr vals2).sub (ts := [35]) rfl
       replace hS := hS.conv (t := 35) rfl (show (vals2 4) = pp b2 2 from hV 4 (by decide))
       obtain ⟨I2, hI2, H⟩ := Gx.ex hG
       exact L_val hS rfl (oL tOps rfl rfl (H.bc 0 2 rfl rfl)) ⟨rfl, hG⟩
      ·rw [← hfe]
       have hS := (hfr vals2).sub (ts := [35]) rfl
       replace hS := hS.conv (t := 35) rfl (show (vals2 4) = pp b2 2 from hV 4 (by decide))
       obtain ⟨I2, hI2, H⟩ := Gx.ex hG
       exact L_val hS rfl (oL tOps rfl rfl (H.bc 1 2 rfl rfl)) ⟨rfl, hG⟩
     refine .cons (fun ss hlo hhi vals2 xw hG hV => ?_) ?_
     ·obtain rfl : ss = 1 := Nat.le_antisymm hhi hlo
      rw [← hfe]
      have hS := (hfr vals2).sub (ts := [34, 36]) rfl
      replace hS := hS.conv (t := 34) rfl (show (vals2 3) = .pointer (some ⟨(blkOf (vals1 0)), 0, none⟩) from hV 3 (by decide))
      replace hS := hS.conv (t := 36) rfl (show (vals2 5) = vT ((gi b.ops x).del) from hV 5 (by decide))
      obtain ⟨I2, hI2, H⟩ := Gx.ex hG
      refine L_hcall H (js := [(0, false)]) rfl (caps := #[]) hS fn_68_YOps rfl rfl rfl rfl rfl (fun D1 hS => have hq := c_wire_Writer_Flag hx7 hS; hq) fun _ yw D1 hr hF2 => ?_
      obtain ⟨rfl, I3, K⟩ := hr
      obtain ⟨hK, H2⟩ := hF2 K
      exact ⟨rfl, Gx.go hG hI2 hK K.imm H2⟩
     refine .cons (fun ss hlo hhi vals2 xw hG hV => ?_) ?_
     ·obtain rfl | rfl | rfl : ss = 0 ∨ ss = 1 ∨ ss = 2 := st2 hlo hhi
      all_goals
      ·rw [← hfe]
       have hS := (hfr vals2).sub (ts := [7]) rfl
       exact L_val hS rfl (Ob_c tOps rfl) ⟨rfl, hG⟩
     refine .cons (fun ss hlo hhi vals2 xw hG hV => ?_) ?_
     ·obtain rfl | rfl | rfl : ss = 0 ∨ ss = 1 ∨ ss = 2 := st2 hlo hhi
      ·rw [← hfe]
       have hS := (hfr vals2).sub (ts := [38]) rfl
       replace hS := hS.conv (t := 38) rfl (show (vals2 7) = pp b2 1 from hV 7 (by decide))
       obtain ⟨I2, hI2, H⟩ := Gx.ex hG
       exact L_val hS rfl (oL tOps rfl rfl (H.bc 0 1 rfl rfl)) ⟨rfl, hG⟩
      ·rw [← hfe]
       have hS := (hfr vals2).sub (ts := [38]) rfl
       replace hS := hS.conv (t := 38) rfl (show (vals2 7) = pp b2 1 from hV 7 (by decide))
       obtain ⟨I2, hI2, H⟩ := Gx.ex hG
       exact L_val hS rfl (oL tOps rfl rfl (H.bc 1 1 rfl rfl)) ⟨rfl, hG⟩
      ·rw [← hfe]
       have hS := (hfr vals2).sub (ts := [38]) rfl
       replace hS := hS.conv (t := 38) rfl (show (vals2 7) = pp b2 1 from hV 7 (by decide))
       obtain ⟨I2, hI2, H⟩ := Gx.ex hG
       exact L_val hS rfl (oL tOps rfl rfl (H.bc 1 1 rfl rfl)) ⟨rfl, hG⟩
     refine .cons (fun ss hlo hhi vals2 xw hG hV => ?_) ?_
     ·obtain rfl : ss = 2 := Nat.le_antisymm hhi hlo
      rw [← hfe]
      have hS := (hfr vals2).sub (ts := [37, 39]) rfl
      replace hS := hS.conv (t := 37) rfl (show (vals2 6) = .pointer (some ⟨(blkOf (vals1 0)), 0, none⟩) from hV 6 (by decide))
      replace hS := hS.conv (t := 39) rfl (show (vals2 8) = vS ((gi b.ops x).val) from hV 8 (by decide))
      obtain ⟨I2, hI2, H⟩ := Gx.ex hG
      refine L_hcall H (js := [(0, false)]) rfl (caps := #[]) hS fn_36_YOps rfl rfl rfl rfl rfl (fun D1 hS => have hq := c_wire_Writer_Text hx8 hS; hq) fun _ yw D1 hr hF2 => ?_
      obtain ⟨rfl, I3, K⟩ := hr
      obtain ⟨hK, H2⟩ := hF2 K
      exact ⟨rfl, Gx.go hG hI2 hK K.imm H2⟩
     exact .nil
    ·intro vals2 a w7 Z hG hV
     replace Z := Z.sub (ts := [2, 3, 5, 25, 26, 27, 28, 29, 30, 7, 31, 32, 33, 34, 35, 36, 37, 38, 39]) (S' := [(2, vS ⟨#[]⟩), (3, vI 0), (5, .pointer (some ⟨(blkOf (vals1 0)), 0, none⟩)), (25, v1_b), (26, vI (ln b.ops)), (27, vI x), (28, vT (decide (x < (ln b.ops)))), (29, .pointer (some ⟨blkOf v1_b, oofOf v1_b + (x).toNat * 3, none⟩)), (30, .agg #[vS ((gi b.ops x).key), vS ((gi b.ops x).val), vT ((gi b.ops x).del)]), (7, pp b2 0), (31, vals2 0), (32, vals2 1), (33, vals2 2), (34, vals2 3), (35, vals2 4), (36, vals2 5), (37, vals2 6), (38, vals2 7), (39, vals2 8)]) rfl
     replace Z := Z.conv (t := 31) rfl (show (vals2 0) = .pointer (some ⟨(blkOf (vals1 0)), 0, none⟩) from hV 0 (by decide))
     replace Z := Z.conv (t := 32) rfl (show (vals2 1) = pp b2 0 from hV 1 (by decide))
     replace Z := Z.conv (t := 33) rfl (show (vals2 2) = vS ((gi b.ops x).key) from hV 2 (by decide))
     replace Z := Z.conv (t := 34) rfl (show (vals2 3) = .pointer (some ⟨(blkOf (vals1 0)), 0, none⟩) from hV 3 (by decide))
     replace Z := Z.conv (t := 35) rfl (show (vals2 4) = pp b2 2 from hV 4 (by decide))
     replace Z := Z.conv (t := 36) rfl (show (vals2 5) = vT ((gi b.ops x).del) from hV 5 (by decide))
     replace Z := Z.conv (t := 37) rfl (show (vals2 6) = .pointer (some ⟨(blkOf (vals1 0)), 0, none⟩) from hV 6 (by decide))
     replace Z := Z.conv (t := 38) rfl (show (vals2 7) = pp b2 1 from hV 7 (by decide))
     replace Z := Z.conv (t := 39) rfl (show (vals2 8) = vS ((gi b.ops x).val) from hV 8 (by decide))
     obtain ⟨I4, _, H⟩ := Gx.ex hG
     clear hG hV
     replace Z := Z.sub (ts := [2, 3, 5, 25, 26, 27, 28, 29, 30, 7, 31, 32, 33, 34, 35, 36, 37, 38, 39]) rfl
     replace H := H.nf rfl; try dsimp only at H
     refine p_blk ?_
     refine p_then ?_
     obtain ⟨hg2, hF⟩ := chk_in hF
     refine f_region Z fun Z => ?_
     refine sO Z (vI (x + 1)) rfl (Ob_add rfl rfl rfl (wrI hg2)) fun a Z => ?_
     refine s_runk tOps Z 1 rfl rfl fun a Z => ?_
     refine s_end Z [2, 3, 5, 25, 26, 27, 28, 29, 30, 7, 31, 32, 33, 34, 35, 36, 37, 38, 39, 41] rfl fun Z => ?_
     refine p_then ?_
     exact ⟨(x + 1, t_2), ⟨Z.sub (ts := [2, 3, 5, 25, 26, 27]) rfl, ⟨I4, (H.sub [(0, false), (1, true)] rfl).eq rfl⟩⟩, hF⟩
   ·replace hF := ite_f hc2 hF
    refine wp_exit ?_
    refine p_then_x ?_
    refine p_then_x ?_
    refine f_exit_here ?_
    refine p_then (wp_seq ?_)
    obtain ⟨d, hx9, hF⟩ := bnd_in hF
    refine f_region Z fun Z => ?_
    refine s_runk tOps Z 1 rfl rfl fun a Z => ?_
    refine hC Z H [(0, false)] rfl #[] fn_16_YOps rfl rfl (fun D h => have q := c_wire_Writer_Done hx9 h; q) fun vv a w8 D2 hr hF2 Z => ?_
    obtain ⟨rfl, I5, K⟩ := hr
    have H := (hF2 K).nf rfl
    refine s_runk tOps Z 4 rfl rfl fun a Z => ?_
    refine s_end Z [2, 3] rfl fun Z => ?_
    refine p_then (wp_ret ?_)
    obtain rfl := some_in hF
    exact f_ret Z (run_results2 rfl Z rfl rfl) ⟨rfl, I5, (H.sub [] rfl).eq rfl⟩

end Go.Proofs.Ythmjkcdpbbcdgaa
