/- Keys and operations: what the program and the document compute. -/
import Derived.Test.YtodgamombdaoiaaYWire
namespace Go.Proofs.Ytodgamombdaoiaa
open Go.RowKit
structure Eruntime_boundsError where
 x : Int
 y : Int
 signed : Bool
 code : Int

instance : Inhabited Eruntime_boundsError := ⟨⟨0, 0, false, 0⟩⟩

def eqEruntime_boundsError (x y : Eruntime_boundsError) : Bool := (x.x == y.x) && (x.y == y.y) && (x.signed == y.signed) && (x.code == y.code)

theorem eqEruntime_boundsError_iff {x y : Eruntime_boundsError} : eqEruntime_boundsError x y = true ↔ x = y := by cases x; cases y; simp [eqEruntime_boundsError, seqB_iff, and_assoc]

def cEruntime_boundsError (x : Eruntime_boundsError) : List Value := [.int .i64 x.x, .int .i64 x.y, .bool x.signed, .int .u8 x.code]

def NEruntime_boundsError : Rp Eruntime_boundsError := Rp.flat 4 (fun _ => True) (fun x => cEruntime_boundsError x) (fun _ => rfl) (fun x c hc => by simp only [cEruntime_boundsError, List.mem_cons, List.not_mem_nil, or_false] at hc; rcases hc with rfl | rfl | rfl | rfl <;> rfl)

structure Eruntime_errorAddressString where
 msg : ByteArray
 addr : Int

instance : Inhabited Eruntime_errorAddressString := ⟨⟨ByteArray.empty, 0⟩⟩

structure EOp where
 key : ByteArray
 val : ByteArray
 del : Bool

instance : Inhabited EOp := ⟨⟨ByteArray.empty, ByteArray.empty, false⟩⟩

def eqEOp (x y : EOp) : Bool := (seqB x.key y.key) && (seqB x.val y.val) && (x.del == y.del)

theorem eqEOp_iff {x y : EOp} : eqEOp x y = true ↔ x = y := by cases x; cases y; simp [eqEOp, seqB_iff, and_assoc]

def cEOp (x : EOp) : List Value := [.string x.key, .string x.val, .bool x.del]

def NEOp : Rp EOp := Rp.flat 3 (fun _ => True) (fun x => cEOp x) (fun _ => rfl) (fun x c hc => by simp only [cEOp, List.mem_cons, List.not_mem_nil, or_false] at hc; rcases hc with rfl | rfl | rfl <;> rfl)

structure EBatch where
 client : Int
 req : Int
 ops : List EOp

instance : Inhabited EBatch := ⟨⟨0, 0, []⟩⟩

def cEBatch (x : EBatch) (v0 : Value) : List Value := [.int .i64 x.client, .int .i64 x.req, v0]

def NEBatch : Rp EBatch where
 n := 3
 rep A w cs x := ∃ v0 : Value, cs = cEBatch x v0 ∧ slRep NEOp A w v0 x.ops
 len := fun ⟨v0, h, _⟩ => by rw [h]; rfl
 one := fun ⟨v0, h, s0⟩ c hc => by
  rw [h] at hc
  simp only [cEBatch, List.mem_cons, List.not_mem_nil, or_false] at hc
  rcases hc with rfl | rfl | rfl
  ·rfl
  ·rfl
  ·exact s0.one
 mono := fun ⟨v0, h, s0⟩ hA hk => ⟨v0, h, s0.mono hA hk⟩
 bound := fun ⟨v0, h, s0⟩ => ⟨v0, h, s0.bound⟩

def tOpsL : TabL := ⟨[(33792, 0), (33793, 1), (33794, 2), (86016, 0), (86017, 1), (86018, 2)], [9], [], [(31, (84, 3))], [(3, (1, false)), (4, (1, false)), (9, (1, false)), (31, (1, false)), (33, (3, true)), (62, (2, true)), (84, (3, true))]⟩

def tOps : Tab Try.prog := ⟨tOpsL, by kernel_rfl⟩

theorem fn_28_YOps : IsFn Try.prog 28 := ⟨_, Try.func28, by kernel_rfl, by kernel_rfl⟩

theorem fn_30_YOps : IsFn Try.prog 30 := ⟨_, Try.func30, by kernel_rfl, by kernel_rfl⟩

theorem fn_31_YOps : IsFn Try.prog 31 := ⟨_, Try.func31, by kernel_rfl, by kernel_rfl⟩

theorem fn_34_YOps : IsFn Try.prog 34 := ⟨_, Try.func34, by kernel_rfl, by kernel_rfl⟩

theorem fn_35_YOps : IsFn Try.prog 35 := ⟨_, Try.func35, by kernel_rfl, by kernel_rfl⟩

theorem fn_36_YOps : IsFn Try.prog 36 := ⟨_, Try.func36, by kernel_rfl, by kernel_rfl⟩

theorem fn_37_YOps : IsFn Try.prog 37 := ⟨_, Try.func37, by kernel_rfl, by kernel_rfl⟩

theorem fn_49_YOps : IsFn Try.prog 49 := ⟨_, Try.func49, by kernel_rfl, by kernel_rfl⟩

theorem fn_50_YOps : IsFn Try.prog 50 := ⟨_, Try.func50, by kernel_rfl, by kernel_rfl⟩

theorem fn_54_YOps : IsFn Try.prog 54 := ⟨_, Try.func54, by kernel_rfl, by kernel_rfl⟩

theorem fn_55_YOps : IsFn Try.prog 55 := ⟨_, Try.func55, by kernel_rfl, by kernel_rfl⟩

theorem fn_57_YOps : IsFn Try.prog 57 := ⟨_, Try.func57, by kernel_rfl, by kernel_rfl⟩

theorem fn_58_YOps : IsFn Try.prog 58 := ⟨_, Try.func58, by kernel_rfl, by kernel_rfl⟩

theorem fn_77_YOps : IsFn Try.prog 77 := ⟨_, Try.func77, by kernel_rfl, by kernel_rfl⟩

def F_keys_Check (k : ByteArray) : Option Int := if ((seqB k ⟨#[]⟩) || (decide ((k.size : Int) > 8))) = true then (some 10) else (some 0)

set_option maxHeartbeats 1000000 in
theorem c_keys_Check {I D : Dm} {k : ByteArray} {w : World} {rr : Int} (hF : F_keys_Check k = some rr) (H : St I D w []) :
  Calls Try.prog 77 #[.string k] w (Ret fun vv w' => vv = .int .i64 rr ∧ ∃ I', Hf I D w I' w' []) := by
 replace H := H.hf
 unfold F_keys_Check at hF
 refine f_enter 10 Try.func77 rfl rfl (Nat.le_of_ble_eq_true rfl) fun a Z => ?_
 replace Z := Z.sub (ts := [0]) rfl
 refine wp_seq (f_region Z ?_); clear Z; intro Z
 refine s_runk tOps Z 1 rfl rfl ?_; clear Z a; intro a Z
 refine s_end Z [0, 2] rfl ?_; clear Z; intro Z
 refine p_then (wp_seq ?_)
 refine wp_seq (f_region Z ?_); clear Z; intro Z
 refine s_runk tOps Z 3 rfl rfl ?_; clear Z a; intro a Z
 refine g_ob Z (p := (!(seqB k ⟨#[]⟩))) (v := .string k) (S' := [(0, .string k)]) rfl rfl rfl (wantB_f _) rfl (by decide) (fun hp hS => hS.sub (ts := [0]) rfl) (fun hp => Ob_c tOps rfl) ?_; clear Z a; intro a Z
 refine g_ob Z (p := (!(seqB k ⟨#[]⟩))) (v := .int .i64 (k.size : Int)) (S' := [(6, .string k)]) rfl rfl rfl (wantB_f _) rfl (by decide) (fun hp hS => (hS.conv (t := 6) rfl (cond_t hp)).sub (ts := [6]) rfl) (fun hp => Ob_c tOps rfl) ?_; clear Z a; intro a Z
 refine g_ob Z (p := (!(seqB k ⟨#[]⟩))) (v := .bool (decide ((k.size : Int) > 8))) (S' := [(7, .int .i64 (k.size : Int))]) rfl rfl rfl (wantB_f _) rfl (by decide) (fun hp hS => (hS.conv (t := 7) rfl (cond_t hp)).sub (ts := [7]) rfl) (fun hp => Ob_c tOps rfl) ?_; clear Z a; intro a Z
 refine s_ob Z (v := .bool ((seqB k ⟨#[]⟩) || (decide ((k.size : Int) > 8)))) rfl rfl (by decide) rfl (Ob_pick rfl rfl rfl rfl (pick_or _ _)) ?_; clear Z a; intro a Z
 refine s_end Z [2, 9] rfl ?_; clear Z; intro Z
 refine p_then ?_
 refine f_cond Z rfl (fun hc1 => ?_) (fun hc1 => ?_)
 ·replace hF := ite_t hc1 hF
  refine wp_seq (f_region Z ?_); clear Z; intro Z
  refine s_runk tOps Z 1 rfl rfl ?_; clear Z a; intro a Z
  refine s_end Z [2] rfl ?_; clear Z; intro Z
  refine p_then (wp_ret ?_)
  refine p_then_r ?_
  obtain rfl := some_in hF
  exact f_ret Z (run_results1 rfl Z rfl) ⟨rfl, I, (H.sub [] rfl).eq rfl⟩
 ·replace hF := ite_f hc1 hF
  refine wp_skip ?_
  refine p_then (wp_seq (f_region Z ?_)); clear Z; intro Z
  refine s_runk tOps Z 1 rfl rfl ?_; clear Z a; intro a Z
  refine s_end Z [2] rfl ?_; clear Z; intro Z
  refine p_then (wp_ret ?_)
  obtain rfl := some_in hF
  exact f_ret Z (run_results1 rfl Z rfl) ⟨rfl, I, (H.sub [] rfl).eq rfl⟩

def F_ref05_Check (k : ByteArray) : Option Int := if ((decide ((k.size : Int) < 1)) || (decide ((k.size : Int) > 8))) = true then (some 10) else (some 0)

set_option maxHeartbeats 1000000 in
theorem c_ref05_Check {I D : Dm} {k : ByteArray} {w : World} {rr : Int} (hF : F_ref05_Check k = some rr) (H : St I D w []) :
  Calls Try.prog 58 #[.string k] w (Ret fun vv w' => vv = .int .i64 rr ∧ ∃ I', Hf I D w I' w' []) := by
 replace H := H.hf
 unfold F_ref05_Check at hF
 refine f_enter 11 Try.func58 rfl rfl (Nat.le_of_ble_eq_true rfl) fun a Z => ?_
 replace Z := Z.sub (ts := [0]) rfl
 refine wp_seq (f_region Z ?_); clear Z; intro Z
 refine s_runk tOps Z 1 rfl rfl ?_; clear Z a; intro a Z
 refine s_end Z [0, 2] rfl ?_; clear Z; intro Z
 refine p_then (wp_seq ?_)
 refine wp_seq (f_region Z ?_); clear Z; intro Z
 refine s_runk tOps Z 4 rfl rfl ?_; clear Z a; intro a Z
 refine g_ob Z (p := (!(decide ((k.size : Int) < 1)))) (v := .string k) (S' := [(0, .string k)]) rfl rfl rfl (wantB_f _) rfl (by decide) (fun hp hS => hS.sub (ts := [0]) rfl) (fun hp => Ob_c tOps rfl) ?_; clear Z a; intro a Z
 refine g_ob Z (p := (!(decide ((k.size : Int) < 1)))) (v := .int .i64 (k.size : Int)) (S' := [(7, .string k)]) rfl rfl rfl (wantB_f _) rfl (by decide) (fun hp hS => (hS.conv (t := 7) rfl (cond_t hp)).sub (ts := [7]) rfl) (fun hp => Ob_c tOps rfl) ?_; clear Z a; intro a Z
 refine g_ob Z (p := (!(decide ((k.size : Int) < 1)))) (v := .bool (decide ((k.size : Int) > 8))) (S' := [(8, .int .i64 (k.size : Int))]) rfl rfl rfl (wantB_f _) rfl (by decide) (fun hp hS => (hS.conv (t := 8) rfl (cond_t hp)).sub (ts := [8]) rfl) (fun hp => Ob_c tOps rfl) ?_; clear Z a; intro a Z
 refine s_ob Z (v := .bool ((decide ((k.size : Int) < 1)) || (decide ((k.size : Int) > 8)))) rfl rfl (by decide) rfl (Ob_pick rfl rfl rfl rfl (pick_or _ _)) ?_; clear Z a; intro a Z
 refine s_end Z [2, 10] rfl ?_; clear Z; intro Z
 refine p_then ?_
 refine f_cond Z rfl (fun hc1 => ?_) (fun hc1 => ?_)
 ·replace hF := ite_t hc1 hF
  refine wp_seq (f_region Z ?_); clear Z; intro Z
  refine s_runk tOps Z 1 rfl rfl ?_; clear Z a; intro a Z
  refine s_end Z [2] rfl ?_; clear Z; intro Z
  refine p_then (wp_ret ?_)
  refine p_then_r ?_
  obtain rfl := some_in hF
  exact f_ret Z (run_results1 rfl Z rfl) ⟨rfl, I, (H.sub [] rfl).eq rfl⟩
 ·replace hF := ite_f hc1 hF
  refine wp_skip ?_
  refine p_then (wp_seq (f_region Z ?_)); clear Z; intro Z
  refine s_runk tOps Z 1 rfl rfl ?_; clear Z a; intro a Z
  refine s_end Z [2] rfl ?_; clear Z; intro Z
  refine p_then (wp_ret ?_)
  obtain rfl := some_in hF
  exact f_ret Z (run_results1 rfl Z rfl) ⟨rfl, I, (H.sub [] rfl).eq rfl⟩

def F_ref06_Check_l1 (b : EBatch) (rc : Int → Option Int) (sg : Int) : Option Int := match sg with | i => if (decide (i < (b.ops.length : Int))) = true then (chk ((0 : Int) ≤ i ∧ i < (b.ops.length : Int)) ((F_ref05_Check ((b.ops.getD (i).toNat default).key)).bind fun c => (if (c != 0) = true then (some 10) else (if (decide ((((b.ops.getD (i).toNat default).val).size : Int) > 8)) = true then (some 3) else (if (((b.ops.getD (i).toNat default).del) && (!seqB ((b.ops.getD (i).toNat default).val) ⟨#[]⟩)) = true then (some 4) else (chk ((decide (i > 0)) = true → inI (i - 1)) (chk ((decide (i > 0)) = true → (0 : Int) ≤ i - 1 ∧ i - 1 < (b.ops.length : Int)) (if ((decide (i > 0)) && (!sltB ((b.ops.getD (i - 1).toNat default).key) ((b.ops.getD (i).toNat default).key))) = true then (some 18) else (chk (inI (i + 1)) (rc (i + 1))))))))))) else (some 0)

def F_ref06_Check (b : EBatch) : Option Int := if ((decide (b.client < 0)) || (decide (b.client ≥ 3))) = true then (some 1) else (if ((decide (b.req < 1)) || (decide (b.req > 1073741824))) = true then (some 5) else (if (decide ((b.ops.length : Int) > 4)) = true then (some 6) else (iter (F_ref06_Check_l1 b) FU 0)))

set_option maxHeartbeats 1000000 in
theorem c_ref06_Check {I D : Dm} {b : EBatch} {v1_b : Value} {w : World} {rr : Int} (hF : F_ref06_Check b = some rr) (H : St I D w [SlC NEOp v1_b b.ops]) :
  Calls Try.prog 37 #[.agg #[.int .i64 b.client, .int .i64 b.req, v1_b]] w (Ret fun vv w' => vv = .int .i64 rr ∧ ∃ I', Hf I D w I' w' []) := by
 replace H := H.hf
 unfold F_ref06_Check at hF
 refine f_enter 66 Try.func37 rfl rfl (Nat.le_of_ble_eq_true rfl) fun a Z => ?_
 replace Z := Z.sub (ts := [0]) rfl
 refine wp_seq (f_region Z ?_); clear Z; intro Z
 refine h_boxv Z H (cl := [.int .i64 b.client, .int .i64 b.req, v1_b]) rfl rfl rfl (by decide) rfl rfl rfl ?_; clear Z a H; intro a w1 b1 H Z
 refine s_runk tOps Z 1 rfl rfl ?_; clear Z a; intro a Z
 refine s_end Z [1, 2] rfl ?_; clear Z; intro Z
 refine p_then (wp_seq ?_)
 refine wp_seq (f_region Z ?_); clear Z; intro Z
 refine s_runk tOps Z 1 rfl rfl ?_; clear Z a; intro a Z
 refine s_ob Z (v := .int .i64 b.client) rfl rfl (by decide) rfl (Ob_load tOps rfl rfl rfl ((H.bx 0 rfl).cell 0 rfl)) ?_; clear Z a; intro a Z
 refine s_runk tOps Z 2 rfl rfl ?_; clear Z a; intro a Z
 refine g_ob Z (p := (!(decide (b.client < 0)))) (v := .pointer (some ⟨b1, 0, none⟩)) (S' := [(1, .pointer (some ⟨b1, 0, none⟩))]) rfl rfl rfl (wantB_f _) rfl (by decide) (fun hp hS => hS.sub (ts := [1]) rfl) (fun hp => Ob_c tOps rfl) ?_; clear Z a; intro a Z
 refine g_ob Z (p := (!(decide (b.client < 0)))) (v := .int .i64 b.client) (S' := [(9, .pointer (some ⟨b1, 0, none⟩))]) rfl rfl rfl (wantB_f _) rfl (by decide) (fun hp hS => (hS.conv (t := 9) rfl (cond_t hp)).sub (ts := [9]) rfl) (fun hp => Ob_load tOps rfl rfl rfl ((H.bx 0 rfl).cell 0 rfl)) ?_; clear Z a; intro a Z
 refine g_ob Z (p := (!(decide (b.client < 0)))) (v := .bool (decide (b.client ≥ 3))) (S' := [(10, .int .i64 b.client)]) rfl rfl rfl (wantB_f _) rfl (by decide) (fun hp hS => (hS.conv (t := 10) rfl (cond_t hp)).sub (ts := [10]) rfl) (fun hp => Ob_c tOps rfl) ?_; clear Z a; intro a Z
 refine s_ob Z (v := .bool ((decide (b.client < 0)) || (decide (b.client ≥ 3)))) rfl rfl (by decide) rfl (Ob_pick rfl rfl rfl rfl (pick_or _ _)) ?_; clear Z a; intro a Z
 refine s_end Z [1, 2, 12] rfl ?_; clear Z; intro Z
 refine p_then ?_
 refine f_cond Z rfl (fun hc1 => ?_) (fun hc1 => ?_)
 ·replace hF := ite_t hc1 hF
  refine wp_seq (f_region Z ?_); clear Z; intro Z
  refine s_runk tOps Z 1 rfl rfl ?_; clear Z a; intro a Z
  refine s_end Z [1, 2] rfl ?_; clear Z; intro Z
  refine p_then (wp_ret ?_)
  refine p_then_r ?_
  obtain rfl := some_in hF
  exact f_ret Z (run_results1 rfl Z rfl) ⟨rfl, I, (H.sub [] rfl).eq rfl⟩
 ·replace hF := ite_f hc1 hF
  refine wp_skip ?_
  refine p_then (wp_seq ?_)
  refine wp_seq (f_region Z ?_); clear Z; intro Z
  refine s_runk tOps Z 1 rfl rfl ?_; clear Z a; intro a Z
  refine s_ob Z (v := .int .i64 b.req) rfl rfl (by decide) rfl (Ob_load tOps rfl rfl rfl ((H.bx 0 rfl).cell 1 rfl)) ?_; clear Z a; intro a Z
  refine s_runk tOps Z 2 rfl rfl ?_; clear Z a; intro a Z
  refine g_ob Z (p := (!(decide (b.req < 1)))) (v := .pointer (some ⟨b1, 1, none⟩)) (S' := [(1, .pointer (some ⟨b1, 0, none⟩))]) rfl rfl rfl (wantB_f _) rfl (by decide) (fun hp hS => hS.sub (ts := [1]) rfl) (fun hp => Ob_c tOps rfl) ?_; clear Z a; intro a Z
  refine g_ob Z (p := (!(decide (b.req < 1)))) (v := .int .i64 b.req) (S' := [(17, .pointer (some ⟨b1, 1, none⟩))]) rfl rfl rfl (wantB_f _) rfl (by decide) (fun hp hS => (hS.conv (t := 17) rfl (cond_t hp)).sub (ts := [17]) rfl) (fun hp => Ob_load tOps rfl rfl rfl ((H.bx 0 rfl).cell 1 rfl)) ?_; clear Z a; intro a Z
  refine g_ob Z (p := (!(decide (b.req < 1)))) (v := .bool (decide (b.req > 1073741824))) (S' := [(18, .int .i64 b.req)]) rfl rfl rfl (wantB_f _) rfl (by decide) (fun hp hS => (hS.conv (t := 18) rfl (cond_t hp)).sub (ts := [18]) rfl) (fun hp => Ob_c tOps rfl) ?_; clear Z a; intro a Z
  refine s_ob Z (v := .bool ((decide (b.req < 1)) || (decide (b.req > 1073741824)))) rfl rfl (by decide) rfl (Ob_pick rfl rfl rfl rfl (pick_or _ _)) ?_; clear Z a; intro a Z
  refine s_end Z [1, 2, 20] rfl ?_; clear Z; intro Z
  refine p_then ?_
  refine f_cond Z rfl (fun hc2 => ?_) (fun hc2 => ?_)
  ·replace hF := ite_t hc2 hF
   refine wp_seq (f_region Z ?_); clear Z; intro Z
   refine s_runk tOps Z 1 rfl rfl ?_; clear Z a; intro a Z
   refine s_end Z [1, 2] rfl ?_; clear Z; intro Z
   refine p_then (wp_ret ?_)
   refine p_then_r ?_
   obtain rfl := some_in hF
   exact f_ret Z (run_results1 rfl Z rfl) ⟨rfl, I, (H.sub [] rfl).eq rfl⟩
  ·replace hF := ite_f hc2 hF
   refine wp_skip ?_
   refine p_then (wp_seq ?_)
   refine wp_seq (f_region Z ?_); clear Z; intro Z
   refine s_runk tOps Z 1 rfl rfl ?_; clear Z a; intro a Z
   refine s_ob Z (v := v1_b) rfl rfl (by decide) rfl (Ob_load tOps rfl rfl rfl ((H.bx 0 rfl).cell 2 rfl)) ?_; clear Z a; intro a Z
   refine s_ob Z (v := .int .i64 (b.ops.length : Int)) rfl rfl (by decide) rfl (Ob_slen tOps rfl rfl rfl (H.slshape 1 rfl)) ?_; clear Z a; intro a Z
   refine s_runk tOps Z 1 rfl rfl ?_; clear Z a; intro a Z
   refine s_end Z [1, 2, 24] rfl ?_; clear Z; intro Z
   refine p_then ?_
   refine f_cond Z rfl (fun hc3 => ?_) (fun hc3 => ?_)
   ·replace hF := ite_t hc3 hF
    refine wp_seq (f_region Z ?_); clear Z; intro Z
    refine s_runk tOps Z 1 rfl rfl ?_; clear Z a; intro a Z
    refine s_end Z [1, 2] rfl ?_; clear Z; intro Z
    refine p_then (wp_ret ?_)
    refine p_then_r ?_
    obtain rfl := some_in hF
    exact f_ret Z (run_results1 rfl Z rfl) ⟨rfl, I, (H.sub [] rfl).eq rfl⟩
   ·replace hF := ite_f hc3 hF
    refine wp_skip ?_
    refine p_then (wp_seq ?_)
    refine wp_seq (f_region Z ?_); clear Z; intro Z
    refine s_runk tOps Z 1 rfl rfl ?_; clear Z a; intro a Z
    refine s_end Z [1, 2, 3] rfl ?_; clear Z; intro Z
    refine p_then (wp_block ?_)
    refine f_iter hF (fun sg a' w' => match sg with | i => Sl 66 [(1, .pointer (some ⟨b1, 0, none⟩)), (2, .int .i64 0), (3, .int .i64 i)] a' ∧ ∃ I2, Hf I D w I2 w' [BxC b1 33 [.int .i64 b.client, .int .i64 b.req, v1_b], SlC NEOp v1_b b.ops]) ⟨Z.sub (ts := [1, 2, 3]) rfl, ⟨I, (H.sub [(0, false), (0, true)] rfl).eq rfl⟩⟩ ?_
    clear Z H hF a
    rintro rc i a w2 ⟨Z, I1, H⟩ hF
    unfold F_ref06_Check_l1 at hF
    try dsimp only at hF
    refine wp_seq ?_
    refine wp_seq (f_region Z ?_); clear Z; intro Z
    refine s_runk tOps Z 2 rfl rfl ?_; clear Z a; intro a Z
    refine s_ob Z (v := v1_b) rfl rfl (by decide) rfl (Ob_load tOps rfl rfl rfl ((H.bx 0 rfl).cell 2 rfl)) ?_; clear Z a; intro a Z
    refine s_ob Z (v := .int .i64 (b.ops.length : Int)) rfl rfl (by decide) rfl (Ob_slen tOps rfl rfl rfl (H.slshape 1 rfl)) ?_; clear Z a; intro a Z
    refine s_runk tOps Z 1 rfl rfl ?_; clear Z a; intro a Z
    refine s_end Z [1, 2, 3, 25, 26, 27, 28, 29] rfl ?_; clear Z; intro Z
    refine p_then ?_
    refine f_cond Z rfl (fun hc4 => ?_) (fun hc4 => ?_)
    ·replace hF := ite_t hc4 hF
     refine wp_skip ?_
     refine p_then (wp_seq ?_)
     refine wp_block ?_
     refine wp_seq ?_
     obtain ⟨hg1, hF⟩ := chk_in hF
     refine f_region Z ?_; clear Z; intro Z
     refine s_runk tOps Z 1 rfl rfl ?_; clear Z a; intro a Z
     refine s_ob Z (v := v1_b) rfl rfl (by decide) rfl (Ob_load tOps rfl rfl rfl ((H.bx 0 rfl).cell 2 rfl)) ?_; clear Z a; intro a Z
     refine s_runk tOps Z 1 rfl rfl ?_; clear Z a; intro a Z
     refine s_ob Z (v := .pointer (some ⟨blkOf v1_b, oofOf v1_b + (i).toNat * 3, none⟩)) rfl rfl (by decide) rfl (Ob_sidx tOps rfl rfl rfl rfl (slPl (H.sl 1 rfl) hg1) hg1) ?_; clear Z a; intro a Z
     refine s_ob Z (v := .agg #[.string ((b.ops.getD (i).toNat default).key), .string ((b.ops.getD (i).toNat default).val), .bool ((b.ops.getD (i).toNat default).del)]) rfl rfl (by decide) rfl (Ob_loads tOps rfl rfl rfl ((slFl (H.sl 1 rfl) hg1).part 0 rfl)) ?_; clear Z a; intro a Z
     refine h_alloc Z H (cl := [.string ByteArray.empty, .string ByteArray.empty, .bool false]) (z := .agg #[.string ByteArray.empty, .string ByteArray.empty, .bool false]) rfl rfl rfl (by decide) rfl (by kernel_rfl) rfl ?_; clear Z a H; intro a w3 b2 H Z
     refine h_store tOps Z H 0 rfl rfl rfl rfl rfl rfl rfl rfl rfl (one_cons rfl (one_cons rfl (one_cons rfl one_nil))) (Nat.le_of_ble_eq_true rfl) rfl ?_; clear H; intro w4 H
     dsimp only [List.eraseIdx] at H
     refine s_end Z [1, 2, 3, 25, 26, 27, 28, 29, 32, 33, 34, 35, 36, 4] rfl ?_; clear Z; intro Z
     refine p_then (wp_seq ?_)
     refine wp_seq ?_
     obtain ⟨c, hx1, hF⟩ := bnd_in hF
     refine f_region Z ?_; clear Z; intro Z
     refine s_runk tOps Z 1 rfl rfl ?_; clear Z a; intro a Z
     refine s_ob Z (v := .string ((b.ops.getD (i).toNat default).key)) rfl rfl (by decide) rfl (Ob_load tOps rfl rfl rfl ((H.bx 0 rfl).cell 0 rfl)) ?_; clear Z a; intro a Z
     refine h_call Z H (js := []) rfl (caps := #[]) fn_58_YOps rfl rfl rfl rfl rfl (by decide) rfl rfl (fun D1 hS => have hq := c_ref05_Check hx1 hS; hq) ?_; clear Z a; intro vv a w5 D2 hr hF2 Z
     obtain ⟨rfl, I2, K⟩ := hr
     have H : Hf I D w I2 w5 [BxC b2 84 [.string ((b.ops.getD (i).toNat default).key), .string ((b.ops.getD (i).toNat default).val), .bool ((b.ops.getD (i).toNat default).del)], BxC b1 33 [.int .i64 b.client, .int .i64 b.req, v1_b], SlC NEOp v1_b b.ops] := hF2 K
     clear hF2 K
     refine s_runk tOps Z 1 rfl rfl ?_; clear Z a; intro a Z
     refine s_end Z [1, 2, 3, 25, 26, 27, 28, 29, 32, 33, 34, 35, 36, 4, 37, 38, 39, 40] rfl ?_; clear Z; intro Z
     refine p_then ?_
     refine f_cond Z rfl (fun hc5 => ?_) (fun hc5 => ?_)
     ·replace hF := ite_t hc5 hF
      refine wp_seq (f_region Z ?_); clear Z; intro Z
      refine s_runk tOps Z 1 rfl rfl ?_; clear Z a; intro a Z
      refine s_end Z [1, 2, 3, 25, 26, 27, 28, 29, 32, 33, 34, 35, 36, 4, 37, 38, 39, 40] rfl ?_; clear Z; intro Z
      refine p_then (wp_ret ?_)
      refine p_then_r ?_
      refine p_blk_r ?_
      refine p_then_r ?_
      refine p_then_r ?_
      refine p_blk_r ?_
      refine p_then_r ?_
      obtain rfl := some_in hF
      exact f_ret Z (run_results1 rfl Z rfl) ⟨rfl, I2, (H.sub [] rfl).eq rfl⟩
     ·replace hF := ite_f hc5 hF
      refine wp_skip ?_
      refine p_then (wp_seq ?_)
      refine wp_seq (f_region Z ?_); clear Z; intro Z
      refine s_runk tOps Z 1 rfl rfl ?_; clear Z a; intro a Z
      refine s_ob Z (v := .string ((b.ops.getD (i).toNat default).val)) rfl rfl (by decide) rfl (Ob_load tOps rfl rfl rfl ((H.bx 0 rfl).cell 1 rfl)) ?_; clear Z a; intro a Z
      refine s_runk tOps Z 2 rfl rfl ?_; clear Z a; intro a Z
      refine s_end Z [1, 2, 3, 25, 26, 27, 28, 29, 32, 33, 34, 35, 36, 4, 37, 38, 39, 40, 41, 42, 43, 44] rfl ?_; clear Z; intro Z
      refine p_then ?_
      refine f_cond Z rfl (fun hc6 => ?_) (fun hc6 => ?_)
      ·replace hF := ite_t hc6 hF
       refine wp_seq (f_region Z ?_); clear Z; intro Z
       refine s_runk tOps Z 1 rfl rfl ?_; clear Z a; intro a Z
       refine s_end Z [1, 2, 3, 25, 26, 27, 28, 29, 32, 33, 34, 35, 36, 4, 37, 38, 39, 40, 41, 42, 43, 44] rfl ?_; clear Z; intro Z
       refine p_then (wp_ret ?_)
       refine p_then_r ?_
       refine p_blk_r ?_
       refine p_then_r ?_
       refine p_then_r ?_
       refine p_blk_r ?_
       refine p_then_r ?_
       obtain rfl := some_in hF
       exact f_ret Z (run_results1 rfl Z rfl) ⟨rfl, I2, (H.sub [] rfl).eq rfl⟩
      ·replace hF := ite_f hc6 hF
       refine wp_skip ?_
       refine p_then (wp_seq ?_)
       refine wp_seq (f_region Z ?_); clear Z; intro Z
       refine s_runk tOps Z 1 rfl rfl ?_; clear Z a; intro a Z
       refine s_ob Z (v := .bool ((b.ops.getD (i).toNat default).del)) rfl rfl (by decide) rfl (Ob_load tOps rfl rfl rfl ((H.bx 0 rfl).cell 2 rfl)) ?_; clear Z a; intro a Z
       refine s_runk tOps Z 1 rfl rfl ?_; clear Z a; intro a Z
       refine g_ob Z (p := ((b.ops.getD (i).toNat default).del)) (v := .pointer (some ⟨b2, 1, none⟩)) (S' := [(4, .pointer (some ⟨b2, 0, none⟩))]) rfl rfl rfl (wantB_t _) rfl (by decide) (fun hp hS => hS.sub (ts := [4]) rfl) (fun hp => Ob_c tOps rfl) ?_; clear Z a; intro a Z
       refine g_ob Z (p := ((b.ops.getD (i).toNat default).del)) (v := .string ((b.ops.getD (i).toNat default).val)) (S' := [(48, .pointer (some ⟨b2, 1, none⟩))]) rfl rfl rfl (wantB_t _) rfl (by decide) (fun hp hS => (hS.conv (t := 48) rfl (cond_t hp)).sub (ts := [48]) rfl) (fun hp => Ob_load tOps rfl rfl rfl ((H.bx 0 rfl).cell 1 rfl)) ?_; clear Z a; intro a Z
       refine g_ob Z (p := ((b.ops.getD (i).toNat default).del)) (v := .bool (!seqB ((b.ops.getD (i).toNat default).val) ⟨#[]⟩)) (S' := [(49, .string ((b.ops.getD (i).toNat default).val))]) rfl rfl rfl (wantB_t _) rfl (by decide) (fun hp hS => (hS.conv (t := 49) rfl (cond_t hp)).sub (ts := [49]) rfl) (fun hp => Ob_c tOps rfl) ?_; clear Z a; intro a Z
       refine s_ob Z (v := .bool (((b.ops.getD (i).toNat default).del) && (!seqB ((b.ops.getD (i).toNat default).val) ⟨#[]⟩))) rfl rfl (by decide) rfl (Ob_pick rfl rfl rfl rfl (pick_and _ _)) ?_; clear Z a; intro a Z
       refine s_end Z [1, 2, 3, 25, 26, 27, 28, 29, 32, 33, 34, 35, 36, 4, 37, 38, 39, 40, 41, 42, 43, 44, 45, 46, 47, 51] rfl ?_; clear Z; intro Z
       refine p_then ?_
       refine f_cond Z rfl (fun hc7 => ?_) (fun hc7 => ?_)
       ·replace hF := ite_t hc7 hF
        refine wp_seq (f_region Z ?_); clear Z; intro Z
        refine s_runk tOps Z 1 rfl rfl ?_; clear Z a; intro a Z
        refine s_end Z [1, 2, 3, 25, 26, 27, 28, 29, 32, 33, 34, 35, 36, 4, 37, 38, 39, 40, 41, 42, 43, 44, 45, 46, 47, 51] rfl ?_; clear Z; intro Z
        refine p_then (wp_ret ?_)
        refine p_then_r ?_
        refine p_blk_r ?_
        refine p_then_r ?_
        refine p_then_r ?_
        refine p_blk_r ?_
        refine p_then_r ?_
        obtain rfl := some_in hF
        exact f_ret Z (run_results1 rfl Z rfl) ⟨rfl, I2, (H.sub [] rfl).eq rfl⟩
       ·replace hF := ite_f hc7 hF
        refine wp_skip ?_
        refine p_then (wp_seq ?_)
        obtain ⟨hg2, hF⟩ := chk_in hF
        obtain ⟨hg3, hF⟩ := chk_in hF
        refine f_quietd (by kernel_rfl) (by kernel_rfl) Z ?_; clear Z; intro Z
        refine q_runk tOps Z 3 rfl rfl ?_; clear Z a; intro a Z
        refine gq_ob Z (p := (decide (i > 0))) (v := .pointer (some ⟨b1, 2, none⟩)) (S' := [(1, .pointer (some ⟨b1, 0, none⟩))]) rfl rfl rfl (wantB_t _) rfl (by decide) (fun hp hS => hS.sub (ts := [1]) rfl) (fun hp _ hw => Ob_c tOps rfl) ?_; clear Z a; intro a Z
        refine gq_ob Z (p := (decide (i > 0))) (v := v1_b) (S' := [(55, .pointer (some ⟨b1, 2, none⟩))]) rfl rfl rfl (wantB_t _) rfl (by decide) (fun hp hS => (hS.conv (t := 55) rfl (cond_t hp)).sub (ts := [55]) rfl) (fun hp _ hw => Ob_load tOps rfl rfl rfl (((H.blw hw).bx 1 rfl).cell 2 rfl)) ?_; clear Z a; intro a Z
        refine gq_ob Z (p := (decide (i > 0))) (v := .int .i64 i) (S' := [(3, .int .i64 i)]) rfl rfl rfl (wantB_t _) rfl (by decide) (fun hp hS => hS.sub (ts := [3]) rfl) (fun hp _ hw => Ob_c tOps rfl) ?_; clear Z a; intro a Z
        refine gq_ob Z (p := (decide (i > 0))) (v := .int .i64 (i - 1)) (S' := [(57, .int .i64 i)]) rfl rfl rfl (wantB_t _) rfl (by decide) (fun hp hS => (hS.conv (t := 57) rfl (cond_t hp)).sub (ts := [57]) rfl) (fun hp _ hw => Ob_sub rfl rfl rfl (wrI (hg2 hp))) ?_; clear Z a; intro a Z
        refine gq_ob Z (p := (decide (i > 0))) (v := .pointer (some ⟨blkOf v1_b, oofOf v1_b + (i - 1).toNat * 3, none⟩)) (S' := [(56, v1_b), (58, .int .i64 (i - 1))]) rfl rfl rfl (wantB_t _) rfl (by decide) (fun hp hS => ((hS.conv (t := 56) rfl (cond_t hp)).conv (t := 58) rfl (cond_t hp)).sub (ts := [56, 58]) rfl) (fun hp _ hw => Ob_sidx tOps rfl rfl rfl rfl (slPl ((H.blw hw).sl 2 rfl) (hg3 hp)) (hg3 hp)) ?_; clear Z a; intro a Z
        refine gq_ob Z (p := (decide (i > 0))) (v := .pointer (some ⟨blkOf v1_b, oofOf v1_b + (i - 1).toNat * 3, none⟩)) (S' := [(59, .pointer (some ⟨blkOf v1_b, oofOf v1_b + (i - 1).toNat * 3, none⟩))]) rfl rfl rfl (wantB_t _) rfl (by decide) (fun hp hS => (hS.conv (t := 59) rfl (cond_t hp)).sub (ts := [59]) rfl) (fun hp _ hw => Ob_c tOps rfl) ?_; clear Z a; intro a Z
        refine gq_ob Z (p := (decide (i > 0))) (v := .string ((b.ops.getD (i - 1).toNat default).key)) (S' := [(60, .pointer (some ⟨blkOf v1_b, oofOf v1_b + (i - 1).toNat * 3, none⟩))]) rfl rfl rfl (wantB_t _) rfl (by decide) (fun hp hS => (hS.conv (t := 60) rfl (cond_t hp)).sub (ts := [60]) rfl) (fun hp _ hw => Ob_load tOps rfl rfl rfl ((slFl ((H.blw hw).sl 2 rfl) (hg3 hp)) 0 _ rfl)) ?_; clear Z a; intro a Z
        refine gq_ob Z (p := (decide (i > 0))) (v := .pointer (some ⟨b2, 0, none⟩)) (S' := [(4, .pointer (some ⟨b2, 0, none⟩))]) rfl rfl rfl (wantB_t _) rfl (by decide) (fun hp hS => hS.sub (ts := [4]) rfl) (fun hp _ hw => Ob_c tOps rfl) ?_; clear Z a; intro a Z
        refine gq_ob Z (p := (decide (i > 0))) (v := .string ((b.ops.getD (i).toNat default).key)) (S' := [(62, .pointer (some ⟨b2, 0, none⟩))]) rfl rfl rfl (wantB_t _) rfl (by decide) (fun hp hS => (hS.conv (t := 62) rfl (cond_t hp)).sub (ts := [62]) rfl) (fun hp _ hw => Ob_load tOps rfl rfl rfl (((H.blw hw).bx 0 rfl).cell 0 rfl)) ?_; clear Z a; intro a Z
        refine gq_ob Z (p := (decide (i > 0))) (v := .bool (!sltB ((b.ops.getD (i - 1).toNat default).key) ((b.ops.getD (i).toNat default).key))) (S' := [(61, .string ((b.ops.getD (i - 1).toNat default).key)), (63, .string ((b.ops.getD (i).toNat default).key))]) rfl rfl rfl (wantB_t _) rfl (by decide) (fun hp hS => ((hS.conv (t := 61) rfl (cond_t hp)).conv (t := 63) rfl (cond_t hp)).sub (ts := [61, 63]) rfl) (fun hp _ hw => Ob_c tOps rfl) ?_; clear Z a; intro a Z
        refine q_ob Z (v := .bool ((decide (i > 0)) && (!sltB ((b.ops.getD (i - 1).toNat default).key) ((b.ops.getD (i).toNat default).key)))) rfl rfl (by decide) rfl (fun _ hw => Ob_pick rfl rfl rfl rfl (pick_and _ _)) ?_; clear Z a; intro a Z
        refine q_end Z [1, 2, 3, 25, 26, 27, 28, 29, 32, 33, 34, 35, 36, 4, 37, 38, 39, 40, 41, 42, 43, 44, 45, 46, 47, 51, 52, 53, 54, 65] rfl ?_; clear Z; intro w6 hb Z
        replace H : Hf I D w I2 w6 [BxC b2 84 [.string ((b.ops.getD (i).toNat default).key), .string ((b.ops.getD (i).toNat default).val), .bool ((b.ops.getD (i).toNat default).del)], BxC b1 33 [.int .i64 b.client, .int .i64 b.req, v1_b], SlC NEOp v1_b b.ops] := H.blw hb
        clear hb
        refine p_then ?_
        refine f_cond Z rfl (fun hc8 => ?_) (fun hc8 => ?_)
        ·replace hF := ite_t hc8 hF
         refine wp_seq (f_region Z ?_); clear Z; intro Z
         refine s_runk tOps Z 1 rfl rfl ?_; clear Z a; intro a Z
         refine s_end Z [1, 2, 3, 25, 26, 27, 28, 29, 32, 33, 34, 35, 36, 4, 37, 38, 39, 40, 41, 42, 43, 44, 45, 46, 47, 51, 52, 53, 54, 65] rfl ?_; clear Z; intro Z
         refine p_then (wp_ret ?_)
         refine p_blk_r ?_
         refine p_then_r ?_
         refine p_then_r ?_
         refine p_blk_r ?_
         refine p_then_r ?_
         obtain rfl := some_in hF
         exact f_ret Z (run_results1 rfl Z rfl) ⟨rfl, I2, (H.sub [] rfl).eq rfl⟩
        ·replace hF := ite_f hc8 hF
         refine wp_skip ?_
         refine p_blk ?_
         refine p_then ?_
         obtain ⟨hg4, hF⟩ := chk_in hF
         refine f_region Z ?_; clear Z; intro Z
         refine s_runk tOps Z 1 rfl rfl ?_; clear Z a; intro a Z
         refine s_ob Z (v := .int .i64 (i + 1)) rfl rfl (by decide) rfl (Ob_add rfl rfl rfl (wrI hg4)) ?_; clear Z a; intro a Z
         refine s_runk tOps Z 1 rfl rfl ?_; clear Z a; intro a Z
         refine s_end Z [1, 2, 3, 25, 26, 27, 28, 29, 32, 33, 34, 35, 36, 4, 37, 38, 39, 40, 41, 42, 43, 44, 45, 46, 47, 51, 52, 53, 54, 65, 30, 31] rfl ?_; clear Z; intro Z
         refine p_then ?_
         exact ⟨(i + 1), ⟨Z.sub (ts := [1, 2, 3]) rfl, ⟨I2, (H.sub [(1, false), (1, true)] rfl).eq rfl⟩⟩, hF⟩
    ·replace hF := ite_f hc4 hF
     refine wp_exit ?_
     refine p_then_x ?_
     refine p_then_x ?_
     refine f_exit_here ?_
     refine p_then (wp_seq (f_region Z ?_)); clear Z; intro Z
     refine s_runk tOps Z 1 rfl rfl ?_; clear Z a; intro a Z
     refine s_end Z [2] rfl ?_; clear Z; intro Z
     refine p_then (wp_ret ?_)
     obtain rfl := some_in hF
     exact f_ret Z (run_results1 rfl Z rfl) ⟨rfl, I1, (H.sub [] rfl).eq rfl⟩

def F_ops_one (o : EOp) (ahead : ByteArray) (first : Bool) : Option Int := (F_keys_Check o.key).bind fun c => (if (c != 0) = true then (some 10) else (if (decide ((o.val.size : Int) > 8)) = true then (some 3) else (if (o.del && (!seqB o.val ⟨#[]⟩)) = true then (some 4) else (if (!first && (!sltB ahead o.key)) = true then (some 18) else (some 0)))))

set_option maxHeartbeats 1000000 in
theorem c_ops_one {I D : Dm} {o : EOp} {ahead : ByteArray} {first : Bool} {w : World} {rr : Int} (hF : F_ops_one o ahead first = some rr) (H : St I D w []) :
  Calls Try.prog 57 #[.agg #[.string o.key, .string o.val, .bool o.del], .string ahead, .bool first] w (Ret fun vv w' => vv = .int .i64 rr ∧ ∃ I', Hf I D w I' w' []) := by
 replace H := H.hf
 unfold F_ops_one at hF
 refine f_enter 34 Try.func57 rfl rfl (Nat.le_of_ble_eq_true rfl) fun a Z => ?_
 replace Z := Z.sub (ts := [0, 1, 2]) rfl
 refine wp_seq (f_region Z ?_); clear Z; intro Z
 refine h_boxv Z H (cl := [.string o.key, .string o.val, .bool o.del]) rfl rfl rfl (by decide) rfl rfl rfl ?_; clear Z a H; intro a w1 b1 H Z
 refine s_runk tOps Z 1 rfl rfl ?_; clear Z a; intro a Z
 refine s_end Z [1, 2, 3, 6] rfl ?_; clear Z; intro Z
 refine p_then (wp_seq ?_)
 refine wp_block ?_
 refine wp_seq ?_
 obtain ⟨c, hx1, hF⟩ := bnd_in hF
 refine f_region Z ?_; clear Z; intro Z
 refine s_runk tOps Z 1 rfl rfl ?_; clear Z a; intro a Z
 refine s_ob Z (v := .string o.key) rfl rfl (by decide) rfl (Ob_load tOps rfl rfl rfl ((H.bx 0 rfl).cell 0 rfl)) ?_; clear Z a; intro a Z
 refine h_call Z H (js := []) rfl (caps := #[]) fn_77_YOps rfl rfl rfl rfl rfl (by decide) rfl rfl (fun D1 hS => have hq := c_keys_Check hx1 hS; hq) ?_; clear Z a; intro vv a w2 D2 hr hF2 Z
 obtain ⟨rfl, I1, K⟩ := hr
 have H : Hf I D w I1 w2 [BxC b1 84 [.string o.key, .string o.val, .bool o.del]] := hF2 K
 clear hF2 K
 refine s_runk tOps Z 2 rfl rfl ?_; clear Z a; intro a Z
 refine s_end Z [1, 2, 3, 6, 7] rfl ?_; clear Z; intro Z
 refine p_then ?_
 refine f_cond Z rfl (fun hc1 => ?_) (fun hc1 => ?_)
 ·replace hF := ite_t hc1 hF
  refine wp_seq (f_region Z ?_); clear Z; intro Z
  refine s_runk tOps Z 1 rfl rfl ?_; clear Z a; intro a Z
  refine s_end Z [6] rfl ?_; clear Z; intro Z
  refine p_then (wp_ret ?_)
  refine p_blk_r ?_
  refine p_then_r ?_
  obtain rfl := some_in hF
  exact f_ret Z (run_results1 rfl Z rfl) ⟨rfl, I1, (H.sub [] rfl).eq rfl⟩
 ·replace hF := ite_f hc1 hF
  refine wp_seq (f_region Z ?_); clear Z; intro Z
  refine s_runk tOps Z 1 rfl rfl ?_; clear Z a; intro a Z
  refine s_ob Z (v := .string o.val) rfl rfl (by decide) rfl (Ob_load tOps rfl rfl rfl ((H.bx 0 rfl).cell 1 rfl)) ?_; clear Z a; intro a Z
  refine s_runk tOps Z 3 rfl rfl ?_; clear Z a; intro a Z
  refine s_end Z [1, 2, 3, 6, 12] rfl ?_; clear Z; intro Z
  refine p_then ?_
  refine f_cond Z rfl (fun hc2 => ?_) (fun hc2 => ?_)
  ·replace hF := ite_t hc2 hF
   refine wp_seq (f_region Z ?_); clear Z; intro Z
   refine s_runk tOps Z 1 rfl rfl ?_; clear Z a; intro a Z
   refine s_end Z [6] rfl ?_; clear Z; intro Z
   refine p_then (wp_ret ?_)
   refine p_blk_r ?_
   refine p_then_r ?_
   obtain rfl := some_in hF
   exact f_ret Z (run_results1 rfl Z rfl) ⟨rfl, I1, (H.sub [] rfl).eq rfl⟩
  ·replace hF := ite_f hc2 hF
   refine wp_seq (f_region Z ?_); clear Z; intro Z
   refine s_runk tOps Z 1 rfl rfl ?_; clear Z a; intro a Z
   refine s_ob Z (v := .bool o.del) rfl rfl (by decide) rfl (Ob_load tOps rfl rfl rfl ((H.bx 0 rfl).cell 2 rfl)) ?_; clear Z a; intro a Z
   refine s_runk tOps Z 1 rfl rfl ?_; clear Z a; intro a Z
   refine g_ob Z (p := o.del) (v := .pointer (some ⟨b1, 1, none⟩)) (S' := [(3, .pointer (some ⟨b1, 0, none⟩))]) rfl rfl rfl (wantB_t _) rfl (by decide) (fun hp hS => hS.sub (ts := [3]) rfl) (fun hp => Ob_c tOps rfl) ?_; clear Z a; intro a Z
   refine g_ob Z (p := o.del) (v := .string o.val) (S' := [(21, .pointer (some ⟨b1, 1, none⟩))]) rfl rfl rfl (wantB_t _) rfl (by decide) (fun hp hS => (hS.conv (t := 21) rfl (cond_t hp)).sub (ts := [21]) rfl) (fun hp => Ob_load tOps rfl rfl rfl ((H.bx 0 rfl).cell 1 rfl)) ?_; clear Z a; intro a Z
   refine g_ob Z (p := o.del) (v := .bool (!seqB o.val ⟨#[]⟩)) (S' := [(22, .string o.val)]) rfl rfl rfl (wantB_t _) rfl (by decide) (fun hp hS => (hS.conv (t := 22) rfl (cond_t hp)).sub (ts := [22]) rfl) (fun hp => Ob_c tOps rfl) ?_; clear Z a; intro a Z
   refine s_ob Z (v := .bool (o.del && (!seqB o.val ⟨#[]⟩))) rfl rfl (by decide) rfl (Ob_pick rfl rfl rfl rfl (pick_and _ _)) ?_; clear Z a; intro a Z
   refine s_runk tOps Z 1 rfl rfl ?_; clear Z a; intro a Z
   refine s_end Z [1, 2, 3, 6, 17] rfl ?_; clear Z; intro Z
   refine p_then ?_
   refine f_cond Z rfl (fun hc3 => ?_) (fun hc3 => ?_)
   ·replace hF := ite_t hc3 hF
    refine wp_seq (f_region Z ?_); clear Z; intro Z
    refine s_runk tOps Z 1 rfl rfl ?_; clear Z a; intro a Z
    refine s_end Z [6] rfl ?_; clear Z; intro Z
    refine p_then (wp_ret ?_)
    refine p_blk_r ?_
    refine p_then_r ?_
    obtain rfl := some_in hF
    exact f_ret Z (run_results1 rfl Z rfl) ⟨rfl, I1, (H.sub [] rfl).eq rfl⟩
   ·replace hF := ite_f hc3 hF
    refine wp_seq (f_region Z ?_); clear Z; intro Z
    refine s_runk tOps Z 3 rfl rfl ?_; clear Z a; intro a Z
    refine g_ob Z (p := !first) (v := .string ahead) (S' := [(1, .string ahead)]) rfl rfl rfl (wantB_t _) rfl (by decide) (fun hp hS => hS.sub (ts := [1]) rfl) (fun hp => Ob_c tOps rfl) ?_; clear Z a; intro a Z
    refine g_ob Z (p := !first) (v := .pointer (some ⟨b1, 0, none⟩)) (S' := [(3, .pointer (some ⟨b1, 0, none⟩))]) rfl rfl rfl (wantB_t _) rfl (by decide) (fun hp hS => hS.sub (ts := [3]) rfl) (fun hp => Ob_c tOps rfl) ?_; clear Z a; intro a Z
    refine g_ob Z (p := !first) (v := .string o.key) (S' := [(30, .pointer (some ⟨b1, 0, none⟩))]) rfl rfl rfl (wantB_t _) rfl (by decide) (fun hp hS => (hS.conv (t := 30) rfl (cond_t hp)).sub (ts := [30]) rfl) (fun hp => Ob_load tOps rfl rfl rfl ((H.bx 0 rfl).cell 0 rfl)) ?_; clear Z a; intro a Z
    refine g_ob Z (p := !first) (v := .bool (!sltB ahead o.key)) (S' := [(29, .string ahead), (31, .string o.key)]) rfl rfl rfl (wantB_t _) rfl (by decide) (fun hp hS => ((hS.conv (t := 29) rfl (cond_t hp)).conv (t := 31) rfl (cond_t hp)).sub (ts := [29, 31]) rfl) (fun hp => Ob_c tOps rfl) ?_; clear Z a; intro a Z
    refine s_ob Z (v := .bool (!first && (!sltB ahead o.key))) rfl rfl (by decide) rfl (Ob_pick rfl rfl rfl rfl (pick_and _ _)) ?_; clear Z a; intro a Z
    refine s_runk tOps Z 1 rfl rfl ?_; clear Z a; intro a Z
    refine s_end Z [6, 25] rfl ?_; clear Z; intro Z
    refine p_then ?_
    refine f_cond Z rfl (fun hc4 => ?_) (fun hc4 => ?_)
    ·replace hF := ite_t hc4 hF
     refine wp_seq (f_region Z ?_); clear Z; intro Z
     refine s_runk tOps Z 1 rfl rfl ?_; clear Z a; intro a Z
     refine s_end Z [6] rfl ?_; clear Z; intro Z
     refine p_then (wp_ret ?_)
     refine p_blk_r ?_
     refine p_then_r ?_
     obtain rfl := some_in hF
     exact f_ret Z (run_results1 rfl Z rfl) ⟨rfl, I1, (H.sub [] rfl).eq rfl⟩
    ·replace hF := ite_f hc4 hF
     refine wp_skip ?_
     refine p_blk ?_
     refine p_then (wp_seq (f_region Z ?_)); clear Z; intro Z
     refine s_runk tOps Z 1 rfl rfl ?_; clear Z a; intro a Z
     refine s_end Z [6] rfl ?_; clear Z; intro Z
     refine p_then (wp_ret ?_)
     obtain rfl := some_in hF
     exact f_ret Z (run_results1 rfl Z rfl) ⟨rfl, I1, (H.sub [] rfl).eq rfl⟩

def F_ops_Check_l1 (b : EBatch) (rc : (ByteArray × Int) → Option Int) (sg : ByteArray × Int) : Option Int := match sg with | (ahead, x) => if (decide (x < (b.ops.length : Int))) = true then (chk ((0 : Int) ≤ x ∧ x < (b.ops.length : Int)) ((F_ops_one (b.ops.getD (x).toNat default) ahead (x == 0)).bind fun o => (if (o != 0) = true then (some o) else (chk (inI (x + 1)) (rc ((b.ops.getD (x).toNat default).key, x + 1)))))) else (some 0)

def F_ops_Check (b : EBatch) : Option Int := if ((decide (b.client < 0)) || (decide (b.client ≥ 3))) = true then (some 1) else (if ((decide (b.req < 1)) || (decide (b.req > 1073741824))) = true then (some 5) else (if (decide ((b.ops.length : Int) > 4)) = true then (some 6) else (iter (F_ops_Check_l1 b) FU (⟨#[]⟩, 0))))

set_option maxHeartbeats 1000000 in
theorem c_ops_Check {I D : Dm} {b : EBatch} {v1_b : Value} {w : World} {rr : Int} (hF : F_ops_Check b = some rr) (H : St I D w [SlC NEOp v1_b b.ops]) :
  Calls Try.prog 36 #[.agg #[.int .i64 b.client, .int .i64 b.req, v1_b]] w (Ret fun vv w' => vv = .int .i64 rr ∧ ∃ I', Hf I D w I' w' []) := by
 replace H := H.hf
 unfold F_ops_Check at hF
 refine f_enter 49 Try.func36 rfl rfl (Nat.le_of_ble_eq_true rfl) fun a Z => ?_
 replace Z := Z.sub (ts := [0]) rfl
 refine wp_seq (f_region Z ?_); clear Z; intro Z
 refine h_boxv Z H (cl := [.int .i64 b.client, .int .i64 b.req, v1_b]) rfl rfl rfl (by decide) rfl rfl rfl ?_; clear Z a H; intro a w1 b1 H Z
 refine s_runk tOps Z 1 rfl rfl ?_; clear Z a; intro a Z
 refine s_end Z [1, 2] rfl ?_; clear Z; intro Z
 refine p_then (wp_seq ?_)
 refine wp_block ?_
 refine wp_seq (f_region Z ?_); clear Z; intro Z
 refine s_runk tOps Z 1 rfl rfl ?_; clear Z a; intro a Z
 refine s_ob Z (v := .int .i64 b.client) rfl rfl (by decide) rfl (Ob_load tOps rfl rfl rfl ((H.bx 0 rfl).cell 0 rfl)) ?_; clear Z a; intro a Z
 refine s_runk tOps Z 2 rfl rfl ?_; clear Z a; intro a Z
 refine g_ob Z (p := (!(decide (b.client < 0)))) (v := .pointer (some ⟨b1, 0, none⟩)) (S' := [(1, .pointer (some ⟨b1, 0, none⟩))]) rfl rfl rfl (wantB_f _) rfl (by decide) (fun hp hS => hS.sub (ts := [1]) rfl) (fun hp => Ob_c tOps rfl) ?_; clear Z a; intro a Z
 refine g_ob Z (p := (!(decide (b.client < 0)))) (v := .int .i64 b.client) (S' := [(12, .pointer (some ⟨b1, 0, none⟩))]) rfl rfl rfl (wantB_f _) rfl (by decide) (fun hp hS => (hS.conv (t := 12) rfl (cond_t hp)).sub (ts := [12]) rfl) (fun hp => Ob_load tOps rfl rfl rfl ((H.bx 0 rfl).cell 0 rfl)) ?_; clear Z a; intro a Z
 refine g_ob Z (p := (!(decide (b.client < 0)))) (v := .bool (decide (b.client ≥ 3))) (S' := [(13, .int .i64 b.client)]) rfl rfl rfl (wantB_f _) rfl (by decide) (fun hp hS => (hS.conv (t := 13) rfl (cond_t hp)).sub (ts := [13]) rfl) (fun hp => Ob_c tOps rfl) ?_; clear Z a; intro a Z
 refine s_ob Z (v := .bool ((decide (b.client < 0)) || (decide (b.client ≥ 3)))) rfl rfl (by decide) rfl (Ob_pick rfl rfl rfl rfl (pick_or _ _)) ?_; clear Z a; intro a Z
 refine s_runk tOps Z 1 rfl rfl ?_; clear Z a; intro a Z
 refine s_end Z [1, 2, 7] rfl ?_; clear Z; intro Z
 refine p_then ?_
 refine f_cond Z rfl (fun hc1 => ?_) (fun hc1 => ?_)
 ·replace hF := ite_t hc1 hF
  refine wp_seq (f_region Z ?_); clear Z; intro Z
  refine s_runk tOps Z 1 rfl rfl ?_; clear Z a; intro a Z
  refine s_end Z [1, 2] rfl ?_; clear Z; intro Z
  refine p_then (wp_ret ?_)
  refine p_blk_r ?_
  refine p_then_r ?_
  obtain rfl := some_in hF
  exact f_ret Z (run_results1 rfl Z rfl) ⟨rfl, I, (H.sub [] rfl).eq rfl⟩
 ·replace hF := ite_f hc1 hF
  refine wp_seq (f_region Z ?_); clear Z; intro Z
  refine s_runk tOps Z 1 rfl rfl ?_; clear Z a; intro a Z
  refine s_ob Z (v := .int .i64 b.req) rfl rfl (by decide) rfl (Ob_load tOps rfl rfl rfl ((H.bx 0 rfl).cell 1 rfl)) ?_; clear Z a; intro a Z
  refine s_runk tOps Z 2 rfl rfl ?_; clear Z a; intro a Z
  refine g_ob Z (p := (!(decide (b.req < 1)))) (v := .pointer (some ⟨b1, 1, none⟩)) (S' := [(1, .pointer (some ⟨b1, 0, none⟩))]) rfl rfl rfl (wantB_f _) rfl (by decide) (fun hp hS => hS.sub (ts := [1]) rfl) (fun hp => Ob_c tOps rfl) ?_; clear Z a; intro a Z
  refine g_ob Z (p := (!(decide (b.req < 1)))) (v := .int .i64 b.req) (S' := [(21, .pointer (some ⟨b1, 1, none⟩))]) rfl rfl rfl (wantB_f _) rfl (by decide) (fun hp hS => (hS.conv (t := 21) rfl (cond_t hp)).sub (ts := [21]) rfl) (fun hp => Ob_load tOps rfl rfl rfl ((H.bx 0 rfl).cell 1 rfl)) ?_; clear Z a; intro a Z
  refine g_ob Z (p := (!(decide (b.req < 1)))) (v := .bool (decide (b.req > 1073741824))) (S' := [(22, .int .i64 b.req)]) rfl rfl rfl (wantB_f _) rfl (by decide) (fun hp hS => (hS.conv (t := 22) rfl (cond_t hp)).sub (ts := [22]) rfl) (fun hp => Ob_c tOps rfl) ?_; clear Z a; intro a Z
  refine s_ob Z (v := .bool ((decide (b.req < 1)) || (decide (b.req > 1073741824)))) rfl rfl (by decide) rfl (Ob_pick rfl rfl rfl rfl (pick_or _ _)) ?_; clear Z a; intro a Z
  refine s_runk tOps Z 1 rfl rfl ?_; clear Z a; intro a Z
  refine s_end Z [1, 2, 16] rfl ?_; clear Z; intro Z
  refine p_then ?_
  refine f_cond Z rfl (fun hc2 => ?_) (fun hc2 => ?_)
  ·replace hF := ite_t hc2 hF
   refine wp_seq (f_region Z ?_); clear Z; intro Z
   refine s_runk tOps Z 1 rfl rfl ?_; clear Z a; intro a Z
   refine s_end Z [1, 2] rfl ?_; clear Z; intro Z
   refine p_then (wp_ret ?_)
   refine p_blk_r ?_
   refine p_then_r ?_
   obtain rfl := some_in hF
   exact f_ret Z (run_results1 rfl Z rfl) ⟨rfl, I, (H.sub [] rfl).eq rfl⟩
  ·replace hF := ite_f hc2 hF
   refine wp_seq (f_region Z ?_); clear Z; intro Z
   refine s_runk tOps Z 1 rfl rfl ?_; clear Z a; intro a Z
   refine s_ob Z (v := v1_b) rfl rfl (by decide) rfl (Ob_load tOps rfl rfl rfl ((H.bx 0 rfl).cell 2 rfl)) ?_; clear Z a; intro a Z
   refine s_ob Z (v := .int .i64 (b.ops.length : Int)) rfl rfl (by decide) rfl (Ob_slen tOps rfl rfl rfl (H.slshape 1 rfl)) ?_; clear Z a; intro a Z
   refine s_runk tOps Z 2 rfl rfl ?_; clear Z a; intro a Z
   refine s_end Z [1, 2, 25] rfl ?_; clear Z; intro Z
   refine p_then ?_
   refine f_cond Z rfl (fun hc3 => ?_) (fun hc3 => ?_)
   ·replace hF := ite_t hc3 hF
    refine wp_seq (f_region Z ?_); clear Z; intro Z
    refine s_runk tOps Z 1 rfl rfl ?_; clear Z a; intro a Z
    refine s_end Z [1, 2] rfl ?_; clear Z; intro Z
    refine p_then (wp_ret ?_)
    refine p_blk_r ?_
    refine p_then_r ?_
    obtain rfl := some_in hF
    exact f_ret Z (run_results1 rfl Z rfl) ⟨rfl, I, (H.sub [] rfl).eq rfl⟩
   ·replace hF := ite_f hc3 hF
    refine wp_skip ?_
    refine p_blk ?_
    refine p_then (wp_seq (f_region Z ?_)); clear Z; intro Z
    refine s_runk tOps Z 1 rfl rfl ?_; clear Z a; intro a Z
    refine s_end Z [1, 2, 3] rfl ?_; clear Z; intro Z
    refine p_then (wp_seq ?_)
    refine wp_seq (f_region Z ?_); clear Z; intro Z
    refine s_runk tOps Z 1 rfl rfl ?_; clear Z a; intro a Z
    refine s_ob Z (v := v1_b) rfl rfl (by decide) rfl (Ob_load tOps rfl rfl rfl ((H.bx 0 rfl).cell 2 rfl)) ?_; clear Z a; intro a Z
    refine s_ob Z (v := .int .i64 (b.ops.length : Int)) rfl rfl (by decide) rfl (Ob_slen tOps rfl rfl rfl (H.slshape 1 rfl)) ?_; clear Z a; intro a Z
    refine s_runk tOps Z 1 rfl rfl ?_; clear Z a; intro a Z
    refine s_end Z [2, 3, 31, 32, 33] rfl ?_; clear Z; intro Z
    refine p_then (wp_block ?_)
    refine f_iter hF (fun sg a' w' => match sg with | (ahead, x) => Sl 49 [(2, .int .i64 0), (3, .string ahead), (31, v1_b), (32, .int .i64 (b.ops.length : Int)), (33, .int .i64 x)] a' ∧ ∃ I2, Hf I D w I2 w' [SlC NEOp v1_b b.ops]) ⟨Z.sub (ts := [2, 3, 31, 32, 33]) rfl, ⟨I, (H.sub [(1, true)] rfl).eq rfl⟩⟩ ?_
    clear Z H hF a
    rintro rc ⟨ahead, x⟩ a w2 ⟨Z, I1, H⟩ hF
    unfold F_ops_Check_l1 at hF
    try dsimp only at hF
    refine wp_seq (f_region Z ?_); clear Z; intro Z
    refine s_runk tOps Z 1 rfl rfl ?_; clear Z a; intro a Z
    refine s_end Z [2, 3, 31, 32, 33, 34] rfl ?_; clear Z; intro Z
    refine p_then (wp_seq ?_)
    refine f_cond Z rfl (fun hc4 => ?_) (fun hc4 => ?_)
    ·replace hF := ite_t hc4 hF
     refine wp_skip ?_
     refine p_then (wp_seq ?_)
     refine wp_block ?_
     refine wp_seq ?_
     obtain ⟨hg1, hF⟩ := chk_in hF
     refine f_region Z ?_; clear Z; intro Z
     refine s_runk tOps Z 1 rfl rfl ?_; clear Z a; intro a Z
     refine s_ob Z (v := .pointer (some ⟨blkOf v1_b, oofOf v1_b + (x).toNat * 3, none⟩)) rfl rfl (by decide) rfl (Ob_sidx tOps rfl rfl rfl rfl (slPl (H.sl 0 rfl) hg1) hg1) ?_; clear Z a; intro a Z
     refine s_ob Z (v := .agg #[.string ((b.ops.getD (x).toNat default).key), .string ((b.ops.getD (x).toNat default).val), .bool ((b.ops.getD (x).toNat default).del)]) rfl rfl (by decide) rfl (Ob_loads tOps rfl rfl rfl ((slFl (H.sl 0 rfl) hg1).part 0 rfl)) ?_; clear Z a; intro a Z
     refine h_alloc Z H (cl := [.string ByteArray.empty, .string ByteArray.empty, .bool false]) (z := .agg #[.string ByteArray.empty, .string ByteArray.empty, .bool false]) rfl rfl rfl (by decide) rfl (by kernel_rfl) rfl ?_; clear Z a H; intro a w3 b2 H Z
     refine s_runk tOps Z 1 rfl rfl ?_; clear Z a; intro a Z
     refine h_store tOps Z H 0 rfl rfl rfl rfl rfl rfl rfl rfl rfl (one_cons rfl (one_cons rfl (one_cons rfl one_nil))) (Nat.le_of_ble_eq_true rfl) rfl ?_; clear H; intro w4 H
     dsimp only [List.eraseIdx] at H
     refine s_end Z [2, 3, 31, 32, 33, 34, 35, 36, 37, 5, 4] rfl ?_; clear Z; intro Z
     refine p_then (wp_seq ?_)
     refine wp_seq ?_
     obtain ⟨o, hx1, hF⟩ := bnd_in hF
     refine f_region Z ?_; clear Z; intro Z
     refine s_ob Z (v := .agg #[.string ((b.ops.getD (x).toNat default).key), .string ((b.ops.getD (x).toNat default).val), .bool ((b.ops.getD (x).toNat default).del)]) rfl rfl (by decide) rfl (Ob_loads tOps rfl rfl rfl ((H.bx 0 rfl).part 0 rfl)) ?_; clear Z a; intro a Z
     refine s_runk tOps Z 3 rfl rfl ?_; clear Z a; intro a Z
     refine h_call Z H (js := []) rfl (caps := #[]) fn_57_YOps rfl rfl rfl rfl rfl (by decide) rfl rfl (fun D1 hS => have hq := c_ops_one hx1 hS; hq) ?_; clear Z a; intro vv a w5 D2 hr hF2 Z
     obtain ⟨rfl, I2, K⟩ := hr
     have H : Hf I D w I2 w5 [BxC b2 84 [.string ((b.ops.getD (x).toNat default).key), .string ((b.ops.getD (x).toNat default).val), .bool ((b.ops.getD (x).toNat default).del)], SlC NEOp v1_b b.ops] := hF2 K
     clear hF2 K
     refine s_runk tOps Z 1 rfl rfl ?_; clear Z a; intro a Z
     refine s_end Z [2, 3, 31, 32, 33, 34, 35, 36, 37, 5, 4, 38, 39, 40, 41, 42, 6] rfl ?_; clear Z; intro Z
     refine p_then (wp_seq (f_region Z ?_)); clear Z; intro Z
     refine s_runk tOps Z 2 rfl rfl ?_; clear Z a; intro a Z
     refine s_end Z [2, 3, 31, 32, 33, 34, 35, 36, 37, 5, 4, 38, 39, 40, 41, 42, 6, 43, 44] rfl ?_; clear Z; intro Z
     refine p_then ?_
     refine f_cond Z rfl (fun hc5 => ?_) (fun hc5 => ?_)
     ·replace hF := ite_t hc5 hF
      refine wp_seq (f_region Z ?_); clear Z; intro Z
      refine s_runk tOps Z 2 rfl rfl ?_; clear Z a; intro a Z
      refine s_end Z [2, 3, 31, 32, 33, 34, 35, 36, 37, 5, 4, 38, 39, 40, 41, 42, 6, 43, 44, 45] rfl ?_; clear Z; intro Z
      refine p_then (wp_ret ?_)
      refine p_then_r ?_
      refine p_blk_r ?_
      refine p_then_r ?_
      refine p_then_r ?_
      refine p_blk_r ?_
      refine p_then_r ?_
      obtain rfl := some_in hF
      exact f_ret Z (run_results1 rfl Z rfl) ⟨rfl, I2, (H.sub [] rfl).eq rfl⟩
     ·replace hF := ite_f hc5 hF
      refine wp_skip ?_
      refine p_then ?_
      refine f_region Z ?_; clear Z; intro Z
      refine s_runk tOps Z 1 rfl rfl ?_; clear Z a; intro a Z
      refine s_ob Z (v := .string ((b.ops.getD (x).toNat default).key)) rfl rfl (by decide) rfl (Ob_load tOps rfl rfl rfl ((H.bx 0 rfl).cell 0 rfl)) ?_; clear Z a; intro a Z
      refine s_runk tOps Z 1 rfl rfl ?_; clear Z a; intro a Z
      refine s_end Z [2, 3, 31, 32, 33, 34, 35, 36, 37, 5, 4, 38, 39, 40, 41, 42, 6, 43, 44, 46, 47] rfl ?_; clear Z; intro Z
      refine p_blk ?_
      refine p_then ?_
      obtain ⟨hg2, hF⟩ := chk_in hF
      refine f_region Z ?_; clear Z; intro Z
      refine s_ob Z (v := .int .i64 (x + 1)) rfl rfl (by decide) rfl (Ob_add rfl rfl rfl (wrI hg2)) ?_; clear Z a; intro a Z
      refine s_runk tOps Z 1 rfl rfl ?_; clear Z a; intro a Z
      refine s_end Z [2, 3, 31, 32, 33, 34, 35, 36, 37, 5, 4, 38, 39, 40, 41, 42, 6, 43, 44, 46, 47, 48] rfl ?_; clear Z; intro Z
      refine p_then ?_
      exact ⟨((b.ops.getD (x).toNat default).key, x + 1), ⟨Z.sub (ts := [2, 3, 31, 32, 33]) rfl, ⟨I2, (H.sub [(1, true)] rfl).eq rfl⟩⟩, hF⟩
    ·replace hF := ite_f hc4 hF
     refine wp_exit ?_
     refine p_then_x ?_
     refine p_then_x ?_
     refine f_exit_here ?_
     refine p_then (wp_seq (f_region Z ?_)); clear Z; intro Z
     refine s_runk tOps Z 1 rfl rfl ?_; clear Z a; intro a Z
     refine s_end Z [2] rfl ?_; clear Z; intro Z
     refine p_then (wp_ret ?_)
     obtain rfl := some_in hF
     exact f_ret Z (run_results1 rfl Z rfl) ⟨rfl, I1, (H.sub [] rfl).eq rfl⟩

def F_ref06_Put_l1 (b : EBatch) (rc : (Int × ByteArray × Int) → Option (ByteArray × Int)) (sg : Int × ByteArray × Int) : Option (ByteArray × Int) := match sg with | (i, w_s, w_e) => if (decide (i < (b.ops.length : Int))) = true then (chk ((0 : Int) ≤ i ∧ i < (b.ops.length : Int)) ((F_ref02_Writer_Text ({ s := w_s, e := w_e } : Eref02_Writer) ((b.ops.getD (i).toNat default).key)).bind fun t => (chk ((0 : Int) ≤ i ∧ i < (b.ops.length : Int)) ((F_ref02_Writer_Flag t ((b.ops.getD (i).toNat default).del)).bind fun f => (chk ((0 : Int) ≤ i ∧ i < (b.ops.length : Int)) ((F_ref02_Writer_Text f ((b.ops.getD (i).toNat default).val)).bind fun t_2 => (chk (inI (i + 1)) (rc (i + 1, t_2.s, t_2.e))))))))) else ((F_ref02_Writer_Done ({ s := w_s, e := w_e } : Eref02_Writer)).bind fun d => (some (d.1, d.2)))

def F_ref06_Put (b : EBatch) : Option (ByteArray × Int) := (F_ref06_Check b).bind fun c => (if (c != 0) = true then (some (⟨#[]⟩, c)) else ((F_ref02_Writer_Num (default : Eref02_Writer) b.client).bind fun n0 => ((F_ref02_Writer_Num n0 b.req).bind fun n0_2 => ((F_ref02_Writer_Num n0_2 (b.ops.length : Int)).bind fun n0_3 => (iter (F_ref06_Put_l1 b) FU (0, n0_3.s, n0_3.e))))))

set_option maxHeartbeats 1000000 in
theorem c_ref06_Put {I D : Dm} {b : EBatch} {v1_b : Value} {w : World} {rr : ByteArray × Int} (hF : F_ref06_Put b = some rr) (H : St I D w [SlC NEOp v1_b b.ops]) :
  Calls Try.prog 32 #[.agg #[.int .i64 b.client, .int .i64 b.req, v1_b]] w (Ret fun vv w' => vv = .tuple #[.string rr.1, .int .i64 rr.2] ∧ ∃ I', Hf I D w I' w' []) := by
 replace H := H.hf
 unfold F_ref06_Put at hF
 refine f_enter 62 Try.func32 rfl rfl (Nat.le_of_ble_eq_true rfl) fun a Z => ?_
 replace Z := Z.sub (ts := [0]) rfl
 refine wp_seq (f_region Z ?_); clear Z; intro Z
 refine h_boxv Z H (cl := [.int .i64 b.client, .int .i64 b.req, v1_b]) rfl rfl rfl (by decide) rfl rfl rfl ?_; clear Z a H; intro a w1 b1 H Z
 refine s_runk tOps Z 2 rfl rfl ?_; clear Z a; intro a Z
 refine s_end Z [1, 2, 3] rfl ?_; clear Z; intro Z
 refine p_then (wp_seq ?_)
 refine wp_seq ?_
 obtain ⟨c, hx1, hF⟩ := bnd_in hF
 refine f_region Z ?_; clear Z; intro Z
 refine s_ob Z (v := .agg #[.int .i64 b.client, .int .i64 b.req, v1_b]) rfl rfl (by decide) rfl (Ob_loads tOps rfl rfl rfl ((H.bx 0 rfl).part 0 rfl)) ?_; clear Z a; intro a Z
 refine h_call Z H (js := [(1, true)]) rfl (caps := #[]) fn_37_YOps rfl rfl rfl rfl rfl (by decide) rfl rfl (fun D1 hS => have hq := c_ref06_Check hx1 hS; hq) ?_; clear Z a; intro vv a w2 D2 hr hF2 Z
 obtain ⟨rfl, I1, K⟩ := hr
 have H : Hf I D w I1 w2 [BxC b1 33 [.int .i64 b.client, .int .i64 b.req, v1_b], SlC NEOp v1_b b.ops] := hF2 K
 clear hF2 K
 refine s_runk tOps Z 1 rfl rfl ?_; clear Z a; intro a Z
 refine s_end Z [1, 2, 3, 4] rfl ?_; clear Z; intro Z
 refine p_then (wp_seq (f_region Z ?_)); clear Z; intro Z
 refine s_runk tOps Z 2 rfl rfl ?_; clear Z a; intro a Z
 refine s_end Z [1, 2, 3, 4, 10] rfl ?_; clear Z; intro Z
 refine p_then ?_
 refine f_cond Z rfl (fun hc1 => ?_) (fun hc1 => ?_)
 ·replace hF := ite_t hc1 hF
  refine wp_seq (f_region Z ?_); clear Z; intro Z
  refine s_runk tOps Z 3 rfl rfl ?_; clear Z a; intro a Z
  refine s_end Z [1, 2, 3] rfl ?_; clear Z; intro Z
  refine p_then (wp_ret ?_)
  refine p_then_r ?_
  obtain rfl := some_in hF
  exact f_ret Z (run_results2 rfl Z rfl rfl) ⟨rfl, I1, (H.sub [] rfl).eq rfl⟩
 ·replace hF := ite_f hc1 hF
  refine wp_skip ?_
  refine p_then (wp_seq (f_region Z ?_)); clear Z; intro Z
  refine s_ob Z (v := .agg #[.string ByteArray.empty, .int .i64 0]) rfl rfl (by decide) rfl (Ob_build (vs := []) rfl rfl (by go_simp <;> rfl)) ?_; clear Z a; intro a Z
  refine h_boxv Z H (cl := [.string ByteArray.empty, .int .i64 0]) rfl rfl rfl (by decide) rfl rfl rfl ?_; clear Z a H; intro a w3 b2 H Z
  refine s_runk tOps Z 1 rfl rfl ?_; clear Z a; intro a Z
  refine s_end Z [1, 2, 3, 5] rfl ?_; clear Z; intro Z
  refine p_then (wp_seq ?_)
  obtain ⟨n0, hx2, hF⟩ := bnd_in hF
  refine f_region Z ?_; clear Z; intro Z
  refine s_runk tOps Z 2 rfl rfl ?_; clear Z a; intro a Z
  refine s_ob Z (v := .int .i64 b.client) rfl rfl (by decide) rfl (Ob_load tOps rfl rfl rfl ((H.bx 1 rfl).cell 0 rfl)) ?_; clear Z a; intro a Z
  refine h_call Z H (js := [(0, false)]) rfl (caps := #[]) fn_54_YOps rfl rfl rfl rfl rfl (by decide) rfl rfl (fun D1 hS => have hq := c_ref02_Writer_Num hx2 hS; hq) ?_; clear Z a; intro vv a w4 D2 hr hF2 Z
  obtain ⟨rfl, I2, K⟩ := hr
  have H : Hf I D w I2 w4 [BxC b2 62 [.string n0.s, .int .i64 n0.e], BxC b1 33 [.int .i64 b.client, .int .i64 b.req, v1_b], SlC NEOp v1_b b.ops] := hF2 K
  clear hF2 K
  refine s_end Z [1, 2, 3, 5] rfl ?_; clear Z; intro Z
  refine p_then (wp_seq ?_)
  obtain ⟨n0_2, hx3, hF⟩ := bnd_in hF
  refine f_region Z ?_; clear Z; intro Z
  refine s_runk tOps Z 2 rfl rfl ?_; clear Z a; intro a Z
  refine s_ob Z (v := .int .i64 b.req) rfl rfl (by decide) rfl (Ob_load tOps rfl rfl rfl ((H.bx 1 rfl).cell 1 rfl)) ?_; clear Z a; intro a Z
  refine h_call Z H (js := [(0, false)]) rfl (caps := #[]) fn_54_YOps rfl rfl rfl rfl rfl (by decide) rfl rfl (fun D1 hS => have hq := c_ref02_Writer_Num hx3 hS; hq) ?_; clear Z a; intro vv a w5 D2 hr hF2 Z
  obtain ⟨rfl, I3, K⟩ := hr
  have H : Hf I D w I3 w5 [BxC b2 62 [.string n0_2.s, .int .i64 n0_2.e], BxC b1 33 [.int .i64 b.client, .int .i64 b.req, v1_b], SlC NEOp v1_b b.ops] := hF2 K
  clear hF2 K
  refine s_end Z [1, 2, 3, 5] rfl ?_; clear Z; intro Z
  refine p_then (wp_seq ?_)
  obtain ⟨n0_3, hx4, hF⟩ := bnd_in hF
  refine f_region Z ?_; clear Z; intro Z
  refine s_runk tOps Z 2 rfl rfl ?_; clear Z a; intro a Z
  refine s_ob Z (v := v1_b) rfl rfl (by decide) rfl (Ob_load tOps rfl rfl rfl ((H.bx 1 rfl).cell 2 rfl)) ?_; clear Z a; intro a Z
  refine s_ob Z (v := .int .i64 (b.ops.length : Int)) rfl rfl (by decide) rfl (Ob_slen tOps rfl rfl rfl (H.slshape 2 rfl)) ?_; clear Z a; intro a Z
  refine h_call Z H (js := [(0, false)]) rfl (caps := #[]) fn_54_YOps rfl rfl rfl rfl rfl (by decide) rfl rfl (fun D1 hS => have hq := c_ref02_Writer_Num hx4 hS; hq) ?_; clear Z a; intro vv a w6 D2 hr hF2 Z
  obtain ⟨rfl, I4, K⟩ := hr
  have H : Hf I D w I4 w6 [BxC b2 62 [.string n0_3.s, .int .i64 n0_3.e], BxC b1 33 [.int .i64 b.client, .int .i64 b.req, v1_b], SlC NEOp v1_b b.ops] := hF2 K
  clear hF2 K
  refine s_end Z [1, 2, 3, 5] rfl ?_; clear Z; intro Z
  refine p_then (wp_seq ?_)
  refine wp_seq (f_region Z ?_); clear Z; intro Z
  refine s_runk tOps Z 1 rfl rfl ?_; clear Z a; intro a Z
  refine s_end Z [1, 2, 3, 5, 6] rfl ?_; clear Z; intro Z
  refine p_then (wp_block ?_)
  refine f_iter hF (fun sg a' w' => match sg with | (i, w_s, w_e) => Sl 62 [(1, .pointer (some ⟨b1, 0, none⟩)), (2, .string ⟨#[]⟩), (3, .int .i64 0), (5, .pointer (some ⟨b2, 0, none⟩)), (6, .int .i64 i)] a' ∧ ∃ I2, Hf I D w I2 w' [BxC b1 33 [.int .i64 b.client, .int .i64 b.req, v1_b], BxC b2 62 [.string w_s, .int .i64 w_e], SlC NEOp v1_b b.ops]) ⟨Z.sub (ts := [1, 2, 3, 5, 6]) rfl, ⟨I4, (H.sub [(1, false), (0, false), (0, true)] rfl).eq rfl⟩⟩ ?_
  clear Z H hF a
  rintro rc ⟨i, w_s, w_e⟩ a w7 ⟨Z, I5, H⟩ hF
  unfold F_ref06_Put_l1 at hF
  try dsimp only at hF
  refine wp_seq ?_
  refine wp_seq (f_region Z ?_); clear Z; intro Z
  refine s_runk tOps Z 2 rfl rfl ?_; clear Z a; intro a Z
  refine s_ob Z (v := v1_b) rfl rfl (by decide) rfl (Ob_load tOps rfl rfl rfl ((H.bx 0 rfl).cell 2 rfl)) ?_; clear Z a; intro a Z
  refine s_ob Z (v := .int .i64 (b.ops.length : Int)) rfl rfl (by decide) rfl (Ob_slen tOps rfl rfl rfl (H.slshape 2 rfl)) ?_; clear Z a; intro a Z
  refine s_runk tOps Z 1 rfl rfl ?_; clear Z a; intro a Z
  refine s_end Z [1, 2, 3, 5, 6, 27, 28, 29, 30, 31] rfl ?_; clear Z; intro Z
  refine p_then ?_
  refine f_cond Z rfl (fun hc2 => ?_) (fun hc2 => ?_)
  ·replace hF := ite_t hc2 hF
   refine wp_skip ?_
   refine p_then (wp_seq ?_)
   refine wp_block ?_
   refine wp_seq ?_
   obtain ⟨hg1, hF⟩ := chk_in hF
   obtain ⟨t, hx5, hF⟩ := bnd_in hF
   refine f_region Z ?_; clear Z; intro Z
   refine s_runk tOps Z 2 rfl rfl ?_; clear Z a; intro a Z
   refine s_ob Z (v := v1_b) rfl rfl (by decide) rfl (Ob_load tOps rfl rfl rfl ((H.bx 0 rfl).cell 2 rfl)) ?_; clear Z a; intro a Z
   refine s_runk tOps Z 1 rfl rfl ?_; clear Z a; intro a Z
   refine s_ob Z (v := .pointer (some ⟨blkOf v1_b, oofOf v1_b + (i).toNat * 3, none⟩)) rfl rfl (by decide) rfl (Ob_sidx tOps rfl rfl rfl rfl (slPl (H.sl 2 rfl) hg1) hg1) ?_; clear Z a; intro a Z
   refine s_runk tOps Z 1 rfl rfl ?_; clear Z a; intro a Z
   refine s_ob Z (v := .string ((b.ops.getD (i).toNat default).key)) rfl rfl (by decide) rfl (Ob_load tOps rfl rfl rfl ((slFl (H.sl 2 rfl) hg1) 0 _ rfl)) ?_; clear Z a; intro a Z
   refine h_call Z H (js := [(1, false)]) rfl (caps := #[]) fn_34_YOps rfl rfl rfl rfl rfl (by decide) rfl rfl (fun D1 hS => have hq := c_ref02_Writer_Text hx5 hS; hq) ?_; clear Z a; intro vv a w8 D2 hr hF2 Z
   obtain ⟨rfl, I6, K⟩ := hr
   have H : Hf I D w I6 w8 [BxC b2 62 [.string t.s, .int .i64 t.e], BxC b1 33 [.int .i64 b.client, .int .i64 b.req, v1_b], SlC NEOp v1_b b.ops] := hF2 K
   clear hF2 K
   refine s_end Z [1, 2, 3, 5, 6, 27, 28, 29, 30, 31, 34, 35, 36, 37, 38, 39, 40] rfl ?_; clear Z; intro Z
   refine p_then (wp_seq ?_)
   obtain ⟨hg2, hF⟩ := chk_in hF
   obtain ⟨f, hx6, hF⟩ := bnd_in hF
   refine f_region Z ?_; clear Z; intro Z
   refine s_runk tOps Z 2 rfl rfl ?_; clear Z a; intro a Z
   refine s_ob Z (v := v1_b) rfl rfl (by decide) rfl (Ob_load tOps rfl rfl rfl ((H.bx 1 rfl).cell 2 rfl)) ?_; clear Z a; intro a Z
   refine s_runk tOps Z 1 rfl rfl ?_; clear Z a; intro a Z
   refine s_ob Z (v := .pointer (some ⟨blkOf v1_b, oofOf v1_b + (i).toNat * 3, none⟩)) rfl rfl (by decide) rfl (Ob_sidx tOps rfl rfl rfl rfl (slPl (H.sl 2 rfl) hg2) hg2) ?_; clear Z a; intro a Z
   refine s_runk tOps Z 1 rfl rfl ?_; clear Z a; intro a Z
   refine s_ob Z (v := .bool ((b.ops.getD (i).toNat default).del)) rfl rfl (by decide) rfl (Ob_load tOps rfl rfl rfl ((slFl (H.sl 2 rfl) hg2) 2 _ rfl)) ?_; clear Z a; intro a Z
   refine h_call Z H (js := [(0, false)]) rfl (caps := #[]) fn_55_YOps rfl rfl rfl rfl rfl (by decide) rfl rfl (fun D1 hS => have hq := c_ref02_Writer_Flag hx6 hS; hq) ?_; clear Z a; intro vv a w9 D2 hr hF2 Z
   obtain ⟨rfl, I7, K⟩ := hr
   have H : Hf I D w I7 w9 [BxC b2 62 [.string f.s, .int .i64 f.e], BxC b1 33 [.int .i64 b.client, .int .i64 b.req, v1_b], SlC NEOp v1_b b.ops] := hF2 K
   clear hF2 K
   refine s_end Z [1, 2, 3, 5, 6, 27, 28, 29, 30, 31, 34, 35, 36, 37, 38, 39, 40, 42, 43, 44, 45, 46, 47, 48] rfl ?_; clear Z; intro Z
   refine p_then ?_
   obtain ⟨hg3, hF⟩ := chk_in hF
   obtain ⟨t_2, hx7, hF⟩ := bnd_in hF
   refine f_region Z ?_; clear Z; intro Z
   refine s_runk tOps Z 2 rfl rfl ?_; clear Z a; intro a Z
   refine s_ob Z (v := v1_b) rfl rfl (by decide) rfl (Ob_load tOps rfl rfl rfl ((H.bx 1 rfl).cell 2 rfl)) ?_; clear Z a; intro a Z
   refine s_runk tOps Z 1 rfl rfl ?_; clear Z a; intro a Z
   refine s_ob Z (v := .pointer (some ⟨blkOf v1_b, oofOf v1_b + (i).toNat * 3, none⟩)) rfl rfl (by decide) rfl (Ob_sidx tOps rfl rfl rfl rfl (slPl (H.sl 2 rfl) hg3) hg3) ?_; clear Z a; intro a Z
   refine s_runk tOps Z 1 rfl rfl ?_; clear Z a; intro a Z
   refine s_ob Z (v := .string ((b.ops.getD (i).toNat default).val)) rfl rfl (by decide) rfl (Ob_load tOps rfl rfl rfl ((slFl (H.sl 2 rfl) hg3) 1 _ rfl)) ?_; clear Z a; intro a Z
   refine h_call Z H (js := [(0, false)]) rfl (caps := #[]) fn_34_YOps rfl rfl rfl rfl rfl (by decide) rfl rfl (fun D1 hS => have hq := c_ref02_Writer_Text hx7 hS; hq) ?_; clear Z a; intro vv a w10 D2 hr hF2 Z
   obtain ⟨rfl, I8, K⟩ := hr
   have H : Hf I D w I8 w10 [BxC b2 62 [.string t_2.s, .int .i64 t_2.e], BxC b1 33 [.int .i64 b.client, .int .i64 b.req, v1_b], SlC NEOp v1_b b.ops] := hF2 K
   clear hF2 K
   refine s_end Z [1, 2, 3, 5, 6, 27, 28, 29, 30, 31, 34, 35, 36, 37, 38, 39, 40, 42, 43, 44, 45, 46, 47, 48, 50, 51, 52, 53, 54, 55, 56] rfl ?_; clear Z; intro Z
   refine p_blk ?_
   refine p_then ?_
   obtain ⟨hg4, hF⟩ := chk_in hF
   refine f_region Z ?_; clear Z; intro Z
   refine s_runk tOps Z 1 rfl rfl ?_; clear Z a; intro a Z
   refine s_ob Z (v := .int .i64 (i + 1)) rfl rfl (by decide) rfl (Ob_add rfl rfl rfl (wrI hg4)) ?_; clear Z a; intro a Z
   refine s_runk tOps Z 1 rfl rfl ?_; clear Z a; intro a Z
   refine s_end Z [1, 2, 3, 5, 6, 27, 28, 29, 30, 31, 34, 35, 36, 37, 38, 39, 40, 42, 43, 44, 45, 46, 47, 48, 50, 51, 52, 53, 54, 55, 56, 32, 33] rfl ?_; clear Z; intro Z
   refine p_then ?_
   exact ⟨(i + 1, t_2.s, t_2.e), ⟨Z.sub (ts := [1, 2, 3, 5, 6]) rfl, ⟨I8, (H.sub [(1, false), (0, false), (0, true)] rfl).eq rfl⟩⟩, hF⟩
  ·replace hF := ite_f hc2 hF
   refine wp_exit ?_
   refine p_then_x ?_
   refine p_then_x ?_
   refine f_exit_here ?_
   refine p_then (wp_seq ?_)
   obtain ⟨d, hx8, hF⟩ := bnd_in hF
   refine f_region Z ?_; clear Z; intro Z
   refine s_runk tOps Z 1 rfl rfl ?_; clear Z a; intro a Z
   refine h_call Z H (js := [(1, false)]) rfl (caps := #[]) fn_35_YOps rfl rfl rfl rfl rfl (by decide) rfl rfl (fun D1 hS => have hq := c_ref02_Writer_Done hx8 hS; hq) ?_; clear Z a; intro vv a w11 D2 hr hF2 Z
   obtain ⟨rfl, I9, K⟩ := hr
   have H : Hf I D w I9 w11 [BxC b2 62 [.string w_s, .int .i64 w_e], BxC b1 33 [.int .i64 b.client, .int .i64 b.req, v1_b], SlC NEOp v1_b b.ops] := hF2 K
   clear hF2 K
   refine s_runk tOps Z 4 rfl rfl ?_; clear Z a; intro a Z
   refine s_end Z [2, 3] rfl ?_; clear Z; intro Z
   refine p_then (wp_ret ?_)
   obtain rfl := some_in hF
   exact f_ret Z (run_results2 rfl Z rfl rfl) ⟨rfl, I9, (H.sub [] rfl).eq rfl⟩

def F_ops_Put_l1 (b : EBatch) (rc : (Int × Ewire_Writer) → Option (ByteArray × Int)) (sg : Int × Ewire_Writer) : Option (ByteArray × Int) := match sg with | (x, w0) => if (decide (x < (b.ops.length : Int))) = true then (chk ((0 : Int) ≤ x ∧ x < (b.ops.length : Int)) ((F_wire_Writer_Text w0 ((b.ops.getD (x).toNat default).key)).bind fun t => ((F_wire_Writer_Flag t ((b.ops.getD (x).toNat default).del)).bind fun f => ((F_wire_Writer_Text f ((b.ops.getD (x).toNat default).val)).bind fun t_2 => (chk (inI (x + 1)) (rc (x + 1, t_2))))))) else ((F_wire_Writer_Done w0).bind fun d => (some (d.1, d.2)))

def F_ops_Put (b : EBatch) : Option (ByteArray × Int) := (F_ops_Check b).bind fun c => (if (c != 0) = true then (some (⟨#[]⟩, c)) else ((F_wire_New).bind fun n0 => ((F_wire_Writer_Num n0 b.client).bind fun n0_2 => ((F_wire_Writer_Num n0_2 b.req).bind fun n0_3 => ((F_wire_Writer_Num n0_3 (b.ops.length : Int)).bind fun n0_4 => (iter (F_ops_Put_l1 b) FU (0, n0_4)))))))

set_option maxHeartbeats 1000000 in
theorem c_ops_Put {I D : Dm} {b : EBatch} {v1_b : Value} {w : World} {rr : ByteArray × Int} (hF : F_ops_Put b = some rr) (H : St I D w [SlC NEOp v1_b b.ops]) :
  Calls Try.prog 27 #[.agg #[.int .i64 b.client, .int .i64 b.req, v1_b]] w (Ret fun vv w' => vv = .tuple #[.string rr.1, .int .i64 rr.2] ∧ ∃ I', Hf I D w I' w' []) := by
 replace H := H.hf
 unfold F_ops_Put at hF
 refine f_enter 46 Try.func27 rfl rfl (Nat.le_of_ble_eq_true rfl) fun a Z => ?_
 replace Z := Z.sub (ts := [0]) rfl
 refine wp_seq (f_region Z ?_); clear Z; intro Z
 refine h_boxv Z H (cl := [.int .i64 b.client, .int .i64 b.req, v1_b]) rfl rfl rfl (by decide) rfl rfl rfl ?_; clear Z a H; intro a w1 b1 H Z
 refine s_runk tOps Z 2 rfl rfl ?_; clear Z a; intro a Z
 refine s_end Z [1, 2, 3] rfl ?_; clear Z; intro Z
 refine p_then (wp_seq ?_)
 refine wp_seq ?_
 obtain ⟨c, hx1, hF⟩ := bnd_in hF
 refine f_region Z ?_; clear Z; intro Z
 refine s_ob Z (v := .agg #[.int .i64 b.client, .int .i64 b.req, v1_b]) rfl rfl (by decide) rfl (Ob_loads tOps rfl rfl rfl ((H.bx 0 rfl).part 0 rfl)) ?_; clear Z a; intro a Z
 refine h_call Z H (js := [(1, true)]) rfl (caps := #[]) fn_36_YOps rfl rfl rfl rfl rfl (by decide) rfl rfl (fun D1 hS => have hq := c_ops_Check hx1 hS; hq) ?_; clear Z a; intro vv a w2 D2 hr hF2 Z
 obtain ⟨rfl, I1, K⟩ := hr
 have H : Hf I D w I1 w2 [BxC b1 33 [.int .i64 b.client, .int .i64 b.req, v1_b], SlC NEOp v1_b b.ops] := hF2 K
 clear hF2 K
 refine s_runk tOps Z 1 rfl rfl ?_; clear Z a; intro a Z
 refine s_end Z [1, 2, 3, 4] rfl ?_; clear Z; intro Z
 refine p_then (wp_seq (f_region Z ?_)); clear Z; intro Z
 refine s_runk tOps Z 2 rfl rfl ?_; clear Z a; intro a Z
 refine s_end Z [1, 2, 3, 4, 11] rfl ?_; clear Z; intro Z
 refine p_then ?_
 refine f_cond Z rfl (fun hc1 => ?_) (fun hc1 => ?_)
 ·replace hF := ite_t hc1 hF
  refine wp_seq (f_region Z ?_); clear Z; intro Z
  refine s_runk tOps Z 3 rfl rfl ?_; clear Z a; intro a Z
  refine s_end Z [1, 2, 3] rfl ?_; clear Z; intro Z
  refine p_then (wp_ret ?_)
  refine p_then_r ?_
  obtain rfl := some_in hF
  exact f_ret Z (run_results2 rfl Z rfl rfl) ⟨rfl, I1, (H.sub [] rfl).eq rfl⟩
 ·replace hF := ite_f hc1 hF
  refine wp_skip ?_
  refine p_then (wp_seq ?_)
  obtain ⟨n0, hx2, hF⟩ := bnd_in hF
  obtain ⟨n0_2, hx3, hF⟩ := bnd_in hF
  obtain ⟨n0_3, hx4, hF⟩ := bnd_in hF
  obtain ⟨n0_4, hx5, hF⟩ := bnd_in hF
  refine f_regionM Z (by kernel_rfl) (by kernel_rfl) (by decide) (by decide) [0, 3, 6, 10] [(0, 0, 0), (0, 0, 1), (2, 0, 1), (7, 1, 1), (0, 0, 2), (16, 0, 2), (63, 2, 2), (0, 0, 3), (128, 0, 3), (384, 0, 3), (1023, 3, 3), (2047, 4, 4)] (by kernel_rfl) (fun jj => match jj with | 3 => 0 | 6 => 0 | 10 => 0 | 11 => 0 | _ => jj) (by kernel_rfl) (fun jj rv vv => match jj with | 0 => vv = .pointer (some ⟨(blkOf vv), 0, none⟩) | 1 => vv = .pointer (some ⟨b1, 0, none⟩) | 2 => vv = .int .i64 b.client | 3 => vv = .pointer (some ⟨(blkOf rv), 0, none⟩) | 4 => vv = .pointer (some ⟨b1, 1, none⟩) | 5 => vv = .int .i64 b.req | 6 => vv = .pointer (some ⟨(blkOf rv), 0, none⟩) | 7 => vv = .pointer (some ⟨b1, 2, none⟩) | 8 => vv = v1_b | 9 => vv = .int .i64 (b.ops.length : Int) | 10 => vv = .pointer (some ⟨(blkOf rv), 0, none⟩) | 11 => vv = .pointer (some ⟨(blkOf rv), 0, none⟩) | _ => True) (fun ss vals1 xw => match ss with | 0 => Gx I D w I1 w2 xw [BxC b1 33 [.int .i64 b.client, .int .i64 b.req, v1_b], SlC NEOp v1_b b.ops] | 1 => Gx I D w I1 w2 xw [OEwire_Writer (blkOf (vals1 0)) n0, BxC b1 33 [.int .i64 b.client, .int .i64 b.req, v1_b], SlC NEOp v1_b b.ops] | 2 => Gx I D w I1 w2 xw [OEwire_Writer (blkOf (vals1 0)) n0_2, BxC b1 33 [.int .i64 b.client, .int .i64 b.req, v1_b], SlC NEOp v1_b b.ops] | 3 => Gx I D w I1 w2 xw [OEwire_Writer (blkOf (vals1 0)) n0_3, BxC b1 33 [.int .i64 b.client, .int .i64 b.req, v1_b], SlC NEOp v1_b b.ops] | _ => Gx I D w I1 w2 xw [OEwire_Writer (blkOf (vals1 0)) n0_4, BxC b1 33 [.int .i64 b.client, .int .i64 b.req, v1_b], SlC NEOp v1_b b.ops]) (fun _ => Gx.start H) ?_ ?_
  ·intro fr hfr hfe
   refine .cons (fun ss hlo hhi vals1 xw hG hV => ?_) ?_
   ·obtain rfl : ss = 0 := Nat.le_antisymm hhi hlo
    rw [← hfe]
    have hS := (hfr vals1).sub (ts := []) (S' := []) rfl
    obtain ⟨I2, hI2, H⟩ := Gx.ex hG
    refine L_hcall H (js := []) rfl (caps := #[]) hS fn_28_YOps rfl rfl rfl rfl rfl (fun D1 hS => have hq := c_wire_New hx2 hS; hq) fun _ yw D1 hr hF2 => ?_
    obtain ⟨g0_, rfl, I3, K⟩ := hr
    obtain ⟨hK, H2⟩ := hF2 K
    exact ⟨rfl, Gx.go hG hI2 hK K.imm H2⟩
   refine .cons (fun ss hlo hhi vals1 xw hG hV => ?_) ?_
   ·obtain rfl | rfl : ss = 0 ∨ ss = 1 := st1 hlo hhi
    all_goals
    ·rw [← hfe]
     have hS := (hfr vals1).sub (ts := [1]) (S' := [(1, .pointer (some ⟨b1, 0, none⟩))]) rfl
     exact L_val hS rfl (Ob_c tOps rfl) ⟨rfl, hG⟩
   refine .cons (fun ss hlo hhi vals1 xw hG hV => ?_) ?_
   ·obtain rfl | rfl : ss = 0 ∨ ss = 1 := st1 hlo hhi
    ·rw [← hfe]
     have hS := (hfr vals1).sub (ts := [14]) (S' := [(14, vals1 1)]) rfl
     replace hS := hS.conv (t := 14) rfl (show (vals1 1) = .pointer (some ⟨b1, 0, none⟩) from hV 1 (by decide))
     obtain ⟨I2, hI2, H⟩ := Gx.ex hG
     exact L_val hS rfl (Ob_load tOps rfl rfl rfl ((H.bx 0 rfl).cell 0 rfl)) ⟨rfl, hG⟩
    ·rw [← hfe]
     have hS := (hfr vals1).sub (ts := [14]) (S' := [(14, vals1 1)]) rfl
     replace hS := hS.conv (t := 14) rfl (show (vals1 1) = .pointer (some ⟨b1, 0, none⟩) from hV 1 (by decide))
     obtain ⟨I2, hI2, H⟩ := Gx.ex hG
     exact L_val hS rfl (Ob_load tOps rfl rfl rfl ((H.bx 1 rfl).cell 0 rfl)) ⟨rfl, hG⟩
   refine .cons (fun ss hlo hhi vals1 xw hG hV => ?_) ?_
   ·obtain rfl : ss = 1 := Nat.le_antisymm hhi hlo
    rw [← hfe]
    have hS := (hfr vals1).sub (ts := [13, 15]) (S' := [(13, vals1 0), (15, vals1 2)]) rfl
    replace hS := hS.conv (t := 13) rfl (show (vals1 0) = .pointer (some ⟨(blkOf (vals1 0)), 0, none⟩) from hV 0 (by decide))
    replace hS := hS.conv (t := 15) rfl (show (vals1 2) = .int .i64 b.client from hV 2 (by decide))
    obtain ⟨I2, hI2, H⟩ := Gx.ex hG
    refine L_hcall H (js := [(0, false)]) rfl (caps := #[]) hS fn_49_YOps rfl rfl rfl rfl rfl (fun D1 hS => have hq := c_wire_Writer_Num hx3 hS; hq) fun _ yw D1 hr hF2 => ?_
    obtain ⟨rfl, I3, K⟩ := hr
    obtain ⟨hK, H2⟩ := hF2 K
    exact ⟨rfl, Gx.go hG hI2 hK K.imm H2⟩
   refine .cons (fun ss hlo hhi vals1 xw hG hV => ?_) ?_
   ·obtain rfl | rfl | rfl : ss = 0 ∨ ss = 1 ∨ ss = 2 := st2 hlo hhi
    all_goals
    ·rw [← hfe]
     have hS := (hfr vals1).sub (ts := [1]) (S' := [(1, .pointer (some ⟨b1, 0, none⟩))]) rfl
     exact L_val hS rfl (Ob_c tOps rfl) ⟨rfl, hG⟩
   refine .cons (fun ss hlo hhi vals1 xw hG hV => ?_) ?_
   ·obtain rfl | rfl | rfl : ss = 0 ∨ ss = 1 ∨ ss = 2 := st2 hlo hhi
    ·rw [← hfe]
     have hS := (hfr vals1).sub (ts := [17]) (S' := [(17, vals1 4)]) rfl
     replace hS := hS.conv (t := 17) rfl (show (vals1 4) = .pointer (some ⟨b1, 1, none⟩) from hV 4 (by decide))
     obtain ⟨I2, hI2, H⟩ := Gx.ex hG
     exact L_val hS rfl (Ob_load tOps rfl rfl rfl ((H.bx 0 rfl).cell 1 rfl)) ⟨rfl, hG⟩
    ·rw [← hfe]
     have hS := (hfr vals1).sub (ts := [17]) (S' := [(17, vals1 4)]) rfl
     replace hS := hS.conv (t := 17) rfl (show (vals1 4) = .pointer (some ⟨b1, 1, none⟩) from hV 4 (by decide))
     obtain ⟨I2, hI2, H⟩ := Gx.ex hG
     exact L_val hS rfl (Ob_load tOps rfl rfl rfl ((H.bx 1 rfl).cell 1 rfl)) ⟨rfl, hG⟩
    ·rw [← hfe]
     have hS := (hfr vals1).sub (ts := [17]) (S' := [(17, vals1 4)]) rfl
     replace hS := hS.conv (t := 17) rfl (show (vals1 4) = .pointer (some ⟨b1, 1, none⟩) from hV 4 (by decide))
     obtain ⟨I2, hI2, H⟩ := Gx.ex hG
     exact L_val hS rfl (Ob_load tOps rfl rfl rfl ((H.bx 1 rfl).cell 1 rfl)) ⟨rfl, hG⟩
   refine .cons (fun ss hlo hhi vals1 xw hG hV => ?_) ?_
   ·obtain rfl : ss = 2 := Nat.le_antisymm hhi hlo
    rw [← hfe]
    have hS := (hfr vals1).sub (ts := [16, 18]) (S' := [(16, vals1 3), (18, vals1 5)]) rfl
    replace hS := hS.conv (t := 16) rfl (show (vals1 3) = .pointer (some ⟨(blkOf (vals1 0)), 0, none⟩) from hV 3 (by decide))
    replace hS := hS.conv (t := 18) rfl (show (vals1 5) = .int .i64 b.req from hV 5 (by decide))
    obtain ⟨I2, hI2, H⟩ := Gx.ex hG
    refine L_hcall H (js := [(0, false)]) rfl (caps := #[]) hS fn_49_YOps rfl rfl rfl rfl rfl (fun D1 hS => have hq := c_wire_Writer_Num hx4 hS; hq) fun _ yw D1 hr hF2 => ?_
    obtain ⟨rfl, I3, K⟩ := hr
    obtain ⟨hK, H2⟩ := hF2 K
    exact ⟨rfl, Gx.go hG hI2 hK K.imm H2⟩
   refine .cons (fun ss hlo hhi vals1 xw hG hV => ?_) ?_
   ·obtain rfl | rfl | rfl | rfl : ss = 0 ∨ ss = 1 ∨ ss = 2 ∨ ss = 3 := st3 hlo hhi
    all_goals
    ·rw [← hfe]
     have hS := (hfr vals1).sub (ts := [1]) (S' := [(1, .pointer (some ⟨b1, 0, none⟩))]) rfl
     exact L_val hS rfl (Ob_c tOps rfl) ⟨rfl, hG⟩
   refine .cons (fun ss hlo hhi vals1 xw hG hV => ?_) ?_
   ·obtain rfl | rfl | rfl | rfl : ss = 0 ∨ ss = 1 ∨ ss = 2 ∨ ss = 3 := st3 hlo hhi
    ·rw [← hfe]
     have hS := (hfr vals1).sub (ts := [20]) (S' := [(20, vals1 7)]) rfl
     replace hS := hS.conv (t := 20) rfl (show (vals1 7) = .pointer (some ⟨b1, 2, none⟩) from hV 7 (by decide))
     obtain ⟨I2, hI2, H⟩ := Gx.ex hG
     exact L_val hS rfl (Ob_load tOps rfl rfl rfl ((H.bx 0 rfl).cell 2 rfl)) ⟨rfl, hG⟩
    ·rw [← hfe]
     have hS := (hfr vals1).sub (ts := [20]) (S' := [(20, vals1 7)]) rfl
     replace hS := hS.conv (t := 20) rfl (show (vals1 7) = .pointer (some ⟨b1, 2, none⟩) from hV 7 (by decide))
     obtain ⟨I2, hI2, H⟩ := Gx.ex hG
     exact L_val hS rfl (Ob_load tOps rfl rfl rfl ((H.bx 1 rfl).cell 2 rfl)) ⟨rfl, hG⟩
    ·rw [← hfe]
     have hS := (hfr vals1).sub (ts := [20]) (S' := [(20, vals1 7)]) rfl
     replace hS := hS.conv (t := 20) rfl (show (vals1 7) = .pointer (some ⟨b1, 2, none⟩) from hV 7 (by decide))
     obtain ⟨I2, hI2, H⟩ := Gx.ex hG
     exact L_val hS rfl (Ob_load tOps rfl rfl rfl ((H.bx 1 rfl).cell 2 rfl)) ⟨rfl, hG⟩
    ·rw [← hfe]
     have hS := (hfr vals1).sub (ts := [20]) (S' := [(20, vals1 7)]) rfl
     replace hS := hS.conv (t := 20) rfl (show (vals1 7) = .pointer (some ⟨b1, 2, none⟩) from hV 7 (by decide))
     obtain ⟨I2, hI2, H⟩ := Gx.ex hG
     exact L_val hS rfl (Ob_load tOps rfl rfl rfl ((H.bx 1 rfl).cell 2 rfl)) ⟨rfl, hG⟩
   refine .cons (fun ss hlo hhi vals1 xw hG hV => ?_) ?_
   ·obtain rfl | rfl | rfl | rfl : ss = 0 ∨ ss = 1 ∨ ss = 2 ∨ ss = 3 := st3 hlo hhi
    ·rw [← hfe]
     have hS := (hfr vals1).sub (ts := [21]) (S' := [(21, vals1 8)]) rfl
     replace hS := hS.conv (t := 21) rfl (show (vals1 8) = v1_b from hV 8 (by decide))
     obtain ⟨I2, hI2, H⟩ := Gx.ex hG
     exact L_val hS rfl (Ob_slen tOps rfl rfl rfl (H.slshape 1 rfl)) ⟨rfl, hG⟩
    ·rw [← hfe]
     have hS := (hfr vals1).sub (ts := [21]) (S' := [(21, vals1 8)]) rfl
     replace hS := hS.conv (t := 21) rfl (show (vals1 8) = v1_b from hV 8 (by decide))
     obtain ⟨I2, hI2, H⟩ := Gx.ex hG
     exact L_val hS rfl (Ob_slen tOps rfl rfl rfl (H.slshape 2 rfl)) ⟨rfl, hG⟩
    ·rw [← hfe]
     have hS := (hfr vals1).sub (ts := [21]) (S' := [(21, vals1 8)]) rfl
     replace hS := hS.conv (t := 21) rfl (show (vals1 8) = v1_b from hV 8 (by decide))
     obtain ⟨I2, hI2, H⟩ := Gx.ex hG
     exact L_val hS rfl (Ob_slen tOps rfl rfl rfl (H.slshape 2 rfl)) ⟨rfl, hG⟩
    ·rw [← hfe]
     have hS := (hfr vals1).sub (ts := [21]) (S' := [(21, vals1 8)]) rfl
     replace hS := hS.conv (t := 21) rfl (show (vals1 8) = v1_b from hV 8 (by decide))
     obtain ⟨I2, hI2, H⟩ := Gx.ex hG
     exact L_val hS rfl (Ob_slen tOps rfl rfl rfl (H.slshape 2 rfl)) ⟨rfl, hG⟩
   refine .cons (fun ss hlo hhi vals1 xw hG hV => ?_) ?_
   ·obtain rfl : ss = 3 := Nat.le_antisymm hhi hlo
    rw [← hfe]
    have hS := (hfr vals1).sub (ts := [19, 22]) (S' := [(19, vals1 6), (22, vals1 9)]) rfl
    replace hS := hS.conv (t := 19) rfl (show (vals1 6) = .pointer (some ⟨(blkOf (vals1 0)), 0, none⟩) from hV 6 (by decide))
    replace hS := hS.conv (t := 22) rfl (show (vals1 9) = .int .i64 (b.ops.length : Int) from hV 9 (by decide))
    obtain ⟨I2, hI2, H⟩ := Gx.ex hG
    refine L_hcall H (js := [(0, false)]) rfl (caps := #[]) hS fn_49_YOps rfl rfl rfl rfl rfl (fun D1 hS => have hq := c_wire_Writer_Num hx5 hS; hq) fun _ yw D1 hr hF2 => ?_
    obtain ⟨rfl, I3, K⟩ := hr
    obtain ⟨hK, H2⟩ := hF2 K
    exact ⟨rfl, Gx.go hG hI2 hK K.imm H2⟩
   refine .cons (fun ss hlo hhi vals1 xw hG hV => ?_) ?_
   ·obtain rfl : ss = 4 := Nat.le_antisymm hhi hlo
    rw [← hfe]
    have hS := (hfr vals1).sub (ts := [23]) (S' := [(23, vals1 10)]) rfl
    replace hS := hS.conv (t := 23) rfl (show (vals1 10) = .pointer (some ⟨(blkOf (vals1 0)), 0, none⟩) from hV 10 (by decide))
    exact L_val hS rfl (Ob_c tOps rfl) ⟨rfl, hG⟩
   exact .nil
  ·intro vals1 a w3 Z hG hV
   replace Z := Z.sub (ts := [1, 2, 3, 5]) (S' := [(1, .pointer (some ⟨b1, 0, none⟩)), (2, .string ⟨#[]⟩), (3, .int .i64 0), (5, vals1 11)]) rfl
   replace Z := Z.conv (t := 5) rfl (show (vals1 11) = .pointer (some ⟨(blkOf (vals1 0)), 0, none⟩) from hV 11 (by decide))
   obtain ⟨I2, _, H⟩ := Gx.ex hG
   clear hG hV
   replace Z := Z.sub (ts := [1, 2, 3, 5]) rfl
   replace H : Hf I D w I2 w3 [OEwire_Writer (blkOf (vals1 0)) n0_4, BxC b1 33 [.int .i64 b.client, .int .i64 b.req, v1_b], SlC NEOp v1_b b.ops] := H
   refine p_then (wp_seq ?_)
   refine wp_seq (f_region Z ?_); clear Z; intro Z
   refine s_runk tOps Z 1 rfl rfl ?_; clear Z a; intro a Z
   refine s_ob Z (v := v1_b) rfl rfl (by decide) rfl (Ob_load tOps rfl rfl rfl ((H.bx 1 rfl).cell 2 rfl)) ?_; clear Z a; intro a Z
   refine s_ob Z (v := .int .i64 (b.ops.length : Int)) rfl rfl (by decide) rfl (Ob_slen tOps rfl rfl rfl (H.slshape 2 rfl)) ?_; clear Z a; intro a Z
   refine s_runk tOps Z 1 rfl rfl ?_; clear Z a; intro a Z
   refine s_end Z [2, 3, 5, 25, 26, 27] rfl ?_; clear Z; intro Z
   refine p_then (wp_block ?_)
   refine f_iter hF (fun sg a' w' => match sg with | (x, w0) => Sl 46 [(2, .string ⟨#[]⟩), (3, .int .i64 0), (5, .pointer (some ⟨(blkOf (vals1 0)), 0, none⟩)), (25, v1_b), (26, .int .i64 (b.ops.length : Int)), (27, .int .i64 x)] a' ∧ ∃ I2, Hf I D w I2 w' [OEwire_Writer (blkOf (vals1 0)) w0, SlC NEOp v1_b b.ops]) ⟨Z.sub (ts := [2, 3, 5, 25, 26, 27]) rfl, ⟨I2, (H.sub [(0, false), (1, true)] rfl).eq rfl⟩⟩ ?_
   clear Z H hF a
   rintro rc ⟨x, w0⟩ a w4 ⟨Z, I3, H⟩ hF
   unfold F_ops_Put_l1 at hF
   try dsimp only at hF
   refine wp_seq (f_region Z ?_); clear Z; intro Z
   refine s_runk tOps Z 1 rfl rfl ?_; clear Z a; intro a Z
   refine s_end Z [2, 3, 5, 25, 26, 27, 28] rfl ?_; clear Z; intro Z
   refine p_then (wp_seq ?_)
   refine f_cond Z rfl (fun hc2 => ?_) (fun hc2 => ?_)
   ·replace hF := ite_t hc2 hF
    refine wp_skip ?_
    refine p_then (wp_seq ?_)
    refine wp_block ?_
    refine wp_seq ?_
    obtain ⟨hg1, hF⟩ := chk_in hF
    refine f_region Z ?_; clear Z; intro Z
    refine s_ob Z (v := .pointer (some ⟨blkOf v1_b, oofOf v1_b + (x).toNat * 3, none⟩)) rfl rfl (by decide) rfl (Ob_sidx tOps rfl rfl rfl rfl (slPl (H.sl 1 rfl) hg1) hg1) ?_; clear Z a; intro a Z
    refine s_ob Z (v := .agg #[.string ((b.ops.getD (x).toNat default).key), .string ((b.ops.getD (x).toNat default).val), .bool ((b.ops.getD (x).toNat default).del)]) rfl rfl (by decide) rfl (Ob_loads tOps rfl rfl rfl ((slFl (H.sl 1 rfl) hg1).part 0 rfl)) ?_; clear Z a; intro a Z
    refine h_alloc Z H (cl := [.string ByteArray.empty, .string ByteArray.empty, .bool false]) (z := .agg #[.string ByteArray.empty, .string ByteArray.empty, .bool false]) rfl rfl rfl (by decide) rfl (by kernel_rfl) rfl ?_; clear Z a H; intro a w5 b2 H Z
    refine h_store tOps Z H 0 rfl rfl rfl rfl rfl rfl rfl rfl rfl (one_cons rfl (one_cons rfl (one_cons rfl one_nil))) (Nat.le_of_ble_eq_true rfl) rfl ?_; clear H; intro w6 H
    dsimp only [List.eraseIdx] at H
    refine s_end Z [2, 3, 5, 25, 26, 27, 28, 29, 30, 7] rfl ?_; clear Z; intro Z
    refine p_then ?_
    obtain ⟨t, hx6, hF⟩ := bnd_in hF
    obtain ⟨f, hx7, hF⟩ := bnd_in hF
    obtain ⟨t_2, hx8, hF⟩ := bnd_in hF
    refine f_regionL Z (by kernel_rfl) (by kernel_rfl) (by decide) (by decide) [3, 6, 9] [(0, 0, 0), (0, 0, 0), (2, 0, 0), (7, 0, 0), (0, 0, 1), (16, 0, 1), (63, 1, 1), (0, 0, 2), (128, 0, 2), (511, 2, 2)] (by kernel_rfl) (fun jj vv => match jj with | 0 => vv = .pointer (some ⟨(blkOf (vals1 0)), 0, none⟩) | 1 => vv = .pointer (some ⟨b2, 0, none⟩) | 2 => vv = .string ((b.ops.getD (x).toNat default).key) | 3 => vv = .pointer (some ⟨(blkOf (vals1 0)), 0, none⟩) | 4 => vv = .pointer (some ⟨b2, 2, none⟩) | 5 => vv = .bool ((b.ops.getD (x).toNat default).del) | 6 => vv = .pointer (some ⟨(blkOf (vals1 0)), 0, none⟩) | 7 => vv = .pointer (some ⟨b2, 1, none⟩) | 8 => vv = .string ((b.ops.getD (x).toNat default).val) | 9 => vv = .pointer (some ⟨(blkOf (vals1 0)), 0, none⟩) | _ => True) (fun ss vals2 xw => match ss with | 0 => Gx I D w I3 w6 xw [BxC b2 84 [.string ((b.ops.getD (x).toNat default).key), .string ((b.ops.getD (x).toNat default).val), .bool ((b.ops.getD (x).toNat default).del)], OEwire_Writer (blkOf (vals1 0)) w0, SlC NEOp v1_b b.ops] | 1 => Gx I D w I3 w6 xw [OEwire_Writer (blkOf (vals1 0)) t, BxC b2 84 [.string ((b.ops.getD (x).toNat default).key), .string ((b.ops.getD (x).toNat default).val), .bool ((b.ops.getD (x).toNat default).del)], SlC NEOp v1_b b.ops] | 2 => Gx I D w I3 w6 xw [OEwire_Writer (blkOf (vals1 0)) f, BxC b2 84 [.string ((b.ops.getD (x).toNat default).key), .string ((b.ops.getD (x).toNat default).val), .bool ((b.ops.getD (x).toNat default).del)], SlC NEOp v1_b b.ops] | _ => Gx I D w I3 w6 xw [OEwire_Writer (blkOf (vals1 0)) t_2, BxC b2 84 [.string ((b.ops.getD (x).toNat default).key), .string ((b.ops.getD (x).toNat default).val), .bool ((b.ops.getD (x).toNat default).del)], SlC NEOp v1_b b.ops]) (fun _ => Gx.start H) ?_ ?_
    ·intro fr hfr hfe
     refine .cons (fun ss hlo hhi vals2 xw hG hV => ?_) ?_
     ·obtain rfl : ss = 0 := Nat.le_antisymm hhi hlo
      rw [← hfe]
      have hS := (hfr vals2).sub (ts := [5]) (S' := [(5, .pointer (some ⟨(blkOf (vals1 0)), 0, none⟩))]) rfl
      exact L_val hS rfl (Ob_c tOps rfl) ⟨rfl, hG⟩
     refine .cons (fun ss hlo hhi vals2 xw hG hV => ?_) ?_
     ·obtain rfl : ss = 0 := Nat.le_antisymm hhi hlo
      rw [← hfe]
      have hS := (hfr vals2).sub (ts := [7]) (S' := [(7, .pointer (some ⟨b2, 0, none⟩))]) rfl
      exact L_val hS rfl (Ob_c tOps rfl) ⟨rfl, hG⟩
     refine .cons (fun ss hlo hhi vals2 xw hG hV => ?_) ?_
     ·obtain rfl : ss = 0 := Nat.le_antisymm hhi hlo
      rw [← hfe]
      have hS := (hfr vals2).sub (ts := [32]) (S' := [(32, vals2 1)]) rfl
      replace hS := hS.conv (t := 32) rfl (show (vals2 1) = .pointer (some ⟨b2, 0, none⟩) from hV 1 (by decide))
      obtain ⟨I2, hI2, H⟩ := Gx.ex hG
      exact L_val hS rfl (Ob_load tOps rfl rfl rfl ((H.bx 0 rfl).cell 0 rfl)) ⟨rfl, hG⟩
     refine .cons (fun ss hlo hhi vals2 xw hG hV => ?_) ?_
     ·obtain rfl : ss = 0 := Nat.le_antisymm hhi hlo
      rw [← hfe]
      have hS := (hfr vals2).sub (ts := [31, 33]) (S' := [(31, vals2 0), (33, vals2 2)]) rfl
      replace hS := hS.conv (t := 31) rfl (show (vals2 0) = .pointer (some ⟨(blkOf (vals1 0)), 0, none⟩) from hV 0 (by decide))
      replace hS := hS.conv (t := 33) rfl (show (vals2 2) = .string ((b.ops.getD (x).toNat default).key) from hV 2 (by decide))
      obtain ⟨I2, hI2, H⟩ := Gx.ex hG
      refine L_hcall H (js := [(1, false)]) rfl (caps := #[]) hS fn_30_YOps rfl rfl rfl rfl rfl (fun D1 hS => have hq := c_wire_Writer_Text hx6 hS; hq) fun _ yw D1 hr hF2 => ?_
      obtain ⟨rfl, I3, K⟩ := hr
      obtain ⟨hK, H2⟩ := hF2 K
      exact ⟨rfl, Gx.go hG hI2 hK K.imm H2⟩
     refine .cons (fun ss hlo hhi vals2 xw hG hV => ?_) ?_
     ·obtain rfl | rfl : ss = 0 ∨ ss = 1 := st1 hlo hhi
      all_goals
      ·rw [← hfe]
       have hS := (hfr vals2).sub (ts := [7]) (S' := [(7, .pointer (some ⟨b2, 0, none⟩))]) rfl
       exact L_val hS rfl (Ob_c tOps rfl) ⟨rfl, hG⟩
     refine .cons (fun ss hlo hhi vals2 xw hG hV => ?_) ?_
     ·obtain rfl | rfl : ss = 0 ∨ ss = 1 := st1 hlo hhi
      ·rw [← hfe]
       have hS := (hfr vals2).sub (ts := [35]) (S' := [(35, vals2 4)]) rfl
       replace hS := hS.conv (t := 35) rfl (show (vals2 4) = .pointer (some ⟨b2, 2, none⟩) from hV 4 (by decide))
       obtain ⟨I2, hI2, H⟩ := Gx.ex hG
       exact L_val hS rfl (Ob_load tOps rfl rfl rfl ((H.bx 0 rfl).cell 2 rfl)) ⟨rfl, hG⟩
      ·rw [← hfe]
       have hS := (hfr vals2).sub (ts := [35]) (S' := [(35, vals2 4)]) rfl
       replace hS := hS.conv (t := 35) rfl (show (vals2 4) = .pointer (some ⟨b2, 2, none⟩) from hV 4 (by decide))
       obtain ⟨I2, hI2, H⟩ := Gx.ex hG
       exact L_val hS rfl (Ob_load tOps rfl rfl rfl ((H.bx 1 rfl).cell 2 rfl)) ⟨rfl, hG⟩
     refine .cons (fun ss hlo hhi vals2 xw hG hV => ?_) ?_
     ·obtain rfl : ss = 1 := Nat.le_antisymm hhi hlo
      rw [← hfe]
      have hS := (hfr vals2).sub (ts := [34, 36]) (S' := [(34, vals2 3), (36, vals2 5)]) rfl
      replace hS := hS.conv (t := 34) rfl (show (vals2 3) = .pointer (some ⟨(blkOf (vals1 0)), 0, none⟩) from hV 3 (by decide))
      replace hS := hS.conv (t := 36) rfl (show (vals2 5) = .bool ((b.ops.getD (x).toNat default).del) from hV 5 (by decide))
      obtain ⟨I2, hI2, H⟩ := Gx.ex hG
      refine L_hcall H (js := [(0, false)]) rfl (caps := #[]) hS fn_50_YOps rfl rfl rfl rfl rfl (fun D1 hS => have hq := c_wire_Writer_Flag hx7 hS; hq) fun _ yw D1 hr hF2 => ?_
      obtain ⟨rfl, I3, K⟩ := hr
      obtain ⟨hK, H2⟩ := hF2 K
      exact ⟨rfl, Gx.go hG hI2 hK K.imm H2⟩
     refine .cons (fun ss hlo hhi vals2 xw hG hV => ?_) ?_
     ·obtain rfl | rfl | rfl : ss = 0 ∨ ss = 1 ∨ ss = 2 := st2 hlo hhi
      all_goals
      ·rw [← hfe]
       have hS := (hfr vals2).sub (ts := [7]) (S' := [(7, .pointer (some ⟨b2, 0, none⟩))]) rfl
       exact L_val hS rfl (Ob_c tOps rfl) ⟨rfl, hG⟩
     refine .cons (fun ss hlo hhi vals2 xw hG hV => ?_) ?_
     ·obtain rfl | rfl | rfl : ss = 0 ∨ ss = 1 ∨ ss = 2 := st2 hlo hhi
      ·rw [← hfe]
       have hS := (hfr vals2).sub (ts := [38]) (S' := [(38, vals2 7)]) rfl
       replace hS := hS.conv (t := 38) rfl (show (vals2 7) = .pointer (some ⟨b2, 1, none⟩) from hV 7 (by decide))
       obtain ⟨I2, hI2, H⟩ := Gx.ex hG
       exact L_val hS rfl (Ob_load tOps rfl rfl rfl ((H.bx 0 rfl).cell 1 rfl)) ⟨rfl, hG⟩
      ·rw [← hfe]
       have hS := (hfr vals2).sub (ts := [38]) (S' := [(38, vals2 7)]) rfl
       replace hS := hS.conv (t := 38) rfl (show (vals2 7) = .pointer (some ⟨b2, 1, none⟩) from hV 7 (by decide))
       obtain ⟨I2, hI2, H⟩ := Gx.ex hG
       exact L_val hS rfl (Ob_load tOps rfl rfl rfl ((H.bx 1 rfl).cell 1 rfl)) ⟨rfl, hG⟩
      ·rw [← hfe]
       have hS := (hfr vals2).sub (ts := [38]) (S' := [(38, vals2 7)]) rfl
       replace hS := hS.conv (t := 38) rfl (show (vals2 7) = .pointer (some ⟨b2, 1, none⟩) from hV 7 (by decide))
       obtain ⟨I2, hI2, H⟩ := Gx.ex hG
       exact L_val hS rfl (Ob_load tOps rfl rfl rfl ((H.bx 1 rfl).cell 1 rfl)) ⟨rfl, hG⟩
     refine .cons (fun ss hlo hhi vals2 xw hG hV => ?_) ?_
     ·obtain rfl : ss = 2 := Nat.le_antisymm hhi hlo
      rw [← hfe]
      have hS := (hfr vals2).sub (ts := [37, 39]) (S' := [(37, vals2 6), (39, vals2 8)]) rfl
      replace hS := hS.conv (t := 37) rfl (show (vals2 6) = .pointer (some ⟨(blkOf (vals1 0)), 0, none⟩) from hV 6 (by decide))
      replace hS := hS.conv (t := 39) rfl (show (vals2 8) = .string ((b.ops.getD (x).toNat default).val) from hV 8 (by decide))
      obtain ⟨I2, hI2, H⟩ := Gx.ex hG
      refine L_hcall H (js := [(0, false)]) rfl (caps := #[]) hS fn_30_YOps rfl rfl rfl rfl rfl (fun D1 hS => have hq := c_wire_Writer_Text hx8 hS; hq) fun _ yw D1 hr hF2 => ?_
      obtain ⟨rfl, I3, K⟩ := hr
      obtain ⟨hK, H2⟩ := hF2 K
      exact ⟨rfl, Gx.go hG hI2 hK K.imm H2⟩
     exact .nil
    ·intro vals2 a w7 Z hG hV
     replace Z := Z.sub (ts := [2, 3, 5, 25, 26, 27, 28, 29, 30, 7, 31, 32, 33, 34, 35, 36, 37, 38, 39]) (S' := [(2, .string ⟨#[]⟩), (3, .int .i64 0), (5, .pointer (some ⟨(blkOf (vals1 0)), 0, none⟩)), (25, v1_b), (26, .int .i64 (b.ops.length : Int)), (27, .int .i64 x), (28, .bool (decide (x < (b.ops.length : Int)))), (29, .pointer (some ⟨blkOf v1_b, oofOf v1_b + (x).toNat * 3, none⟩)), (30, .agg #[.string ((b.ops.getD (x).toNat default).key), .string ((b.ops.getD (x).toNat default).val), .bool ((b.ops.getD (x).toNat default).del)]), (7, .pointer (some ⟨b2, 0, none⟩)), (31, vals2 0), (32, vals2 1), (33, vals2 2), (34, vals2 3), (35, vals2 4), (36, vals2 5), (37, vals2 6), (38, vals2 7), (39, vals2 8)]) rfl
     replace Z := Z.conv (t := 31) rfl (show (vals2 0) = .pointer (some ⟨(blkOf (vals1 0)), 0, none⟩) from hV 0 (by decide))
     replace Z := Z.conv (t := 32) rfl (show (vals2 1) = .pointer (some ⟨b2, 0, none⟩) from hV 1 (by decide))
     replace Z := Z.conv (t := 33) rfl (show (vals2 2) = .string ((b.ops.getD (x).toNat default).key) from hV 2 (by decide))
     replace Z := Z.conv (t := 34) rfl (show (vals2 3) = .pointer (some ⟨(blkOf (vals1 0)), 0, none⟩) from hV 3 (by decide))
     replace Z := Z.conv (t := 35) rfl (show (vals2 4) = .pointer (some ⟨b2, 2, none⟩) from hV 4 (by decide))
     replace Z := Z.conv (t := 36) rfl (show (vals2 5) = .bool ((b.ops.getD (x).toNat default).del) from hV 5 (by decide))
     replace Z := Z.conv (t := 37) rfl (show (vals2 6) = .pointer (some ⟨(blkOf (vals1 0)), 0, none⟩) from hV 6 (by decide))
     replace Z := Z.conv (t := 38) rfl (show (vals2 7) = .pointer (some ⟨b2, 1, none⟩) from hV 7 (by decide))
     replace Z := Z.conv (t := 39) rfl (show (vals2 8) = .string ((b.ops.getD (x).toNat default).val) from hV 8 (by decide))
     obtain ⟨I4, _, H⟩ := Gx.ex hG
     clear hG hV
     replace Z := Z.sub (ts := [2, 3, 5, 25, 26, 27, 28, 29, 30, 7, 31, 32, 33, 34, 35, 36, 37, 38, 39]) rfl
     replace H : Hf I D w I4 w7 [OEwire_Writer (blkOf (vals1 0)) t_2, BxC b2 84 [.string ((b.ops.getD (x).toNat default).key), .string ((b.ops.getD (x).toNat default).val), .bool ((b.ops.getD (x).toNat default).del)], SlC NEOp v1_b b.ops] := H
     refine p_blk ?_
     refine p_then ?_
     obtain ⟨hg2, hF⟩ := chk_in hF
     refine f_region Z ?_; clear Z; intro Z
     refine s_ob Z (v := .int .i64 (x + 1)) rfl rfl (by decide) rfl (Ob_add rfl rfl rfl (wrI hg2)) ?_; clear Z a; intro a Z
     refine s_runk tOps Z 1 rfl rfl ?_; clear Z a; intro a Z
     refine s_end Z [2, 3, 5, 25, 26, 27, 28, 29, 30, 7, 31, 32, 33, 34, 35, 36, 37, 38, 39, 41] rfl ?_; clear Z; intro Z
     refine p_then ?_
     exact ⟨(x + 1, t_2), ⟨Z.sub (ts := [2, 3, 5, 25, 26, 27]) rfl, ⟨I4, (H.sub [(0, false), (1, true)] rfl).eq rfl⟩⟩, hF⟩
   ·replace hF := ite_f hc2 hF
    refine wp_exit ?_
    refine p_then_x ?_
    refine p_then_x ?_
    refine f_exit_here ?_
    refine p_then (wp_seq ?_)
    obtain ⟨d, hx9, hF⟩ := bnd_in hF
    refine f_region Z ?_; clear Z; intro Z
    refine s_runk tOps Z 1 rfl rfl ?_; clear Z a; intro a Z
    refine h_call Z H (js := [(0, false)]) rfl (caps := #[]) fn_31_YOps rfl rfl rfl rfl rfl (by decide) rfl rfl (fun D1 hS => have hq := c_wire_Writer_Done hx9 hS; hq) ?_; clear Z a; intro vv a w8 D2 hr hF2 Z
    obtain ⟨rfl, I5, K⟩ := hr
    have H : Hf I D w I5 w8 [SlC NEOp v1_b b.ops] := hF2 K
    clear hF2 K
    refine s_runk tOps Z 4 rfl rfl ?_; clear Z a; intro a Z
    refine s_end Z [2, 3] rfl ?_; clear Z; intro Z
    refine p_then (wp_ret ?_)
    obtain rfl := some_in hF
    exact f_ret Z (run_results2 rfl Z rfl rfl) ⟨rfl, I5, (H.sub [] rfl).eq rfl⟩

end Go.Proofs.Ytodgamombdaoiaa
