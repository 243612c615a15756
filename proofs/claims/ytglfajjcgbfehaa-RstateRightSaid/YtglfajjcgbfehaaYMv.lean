/- Many versions: the program's store. -/
import Derived.Test.YtglfajjcgbfehaaYMTreeG
namespace Go.Proofs.Ytglfajjcgbfehaa
open Go.RowKit
structure Eruntime_boundsError where
 x : Int
 y : Int
 signed : Bool
 code : Int

instance : Inhabited Eruntime_boundsError := ⟨⟨0, 0, false, 0⟩⟩

def eqEruntime_boundsError (x y : Eruntime_boundsError) : Bool := (x.x == y.x) && (x.y == y.y) && (x.signed == y.signed) && (x.code == y.code)

theorem eqEruntime_boundsError_iff {x y : Eruntime_boundsError} : eqEruntime_boundsError x y = true ↔ x = y := by cases x; cases y; simp [eqEruntime_boundsError, seqB_iff, and_assoc]

def cEruntime_boundsError (x : Eruntime_boundsError) : List Value := [.int .i64 x.x, .int .i64 x.y, .bool x.signed, .int .u8 x.code]

def NEruntime_boundsError : Rp Eruntime_boundsError := Rp.flat 4 (fun _ => True) (fun x => cEruntime_boundsError x) (fun _ => rfl) (fun x c hc => by simp only [cEruntime_boundsError, List.mem_cons, List.not_mem_nil, or_false] at hc; rcases hc with rfl | rfl | rfl | rfl <;> rfl)

structure Eruntime_errorAddressString where
 msg : ByteArray
 addr : Int

instance : Inhabited Eruntime_errorAddressString := ⟨⟨ByteArray.empty, 0⟩⟩

structure EMember where
 id : Int
 serial : Int

instance : Inhabited EMember := ⟨⟨0, 0⟩⟩

def cEMember (x : EMember) : List Value := [.int .i64 x.id, .int .i64 x.serial]

def NEMember : Rp EMember := Rp.flat 2 (fun _ => True) (fun x => cEMember x) (fun _ => rfl) (fun x c hc => by simp only [cEMember, List.mem_cons, List.not_mem_nil, or_false] at hc; rcases hc with rfl | rfl <;> rfl)

structure EConf where
 epoch : Int
 members : List EMember
 floor : Int

instance : Inhabited EConf := ⟨⟨0, [], 0⟩⟩

def cEConf (x : EConf) (v0 : Value) : List Value := [.int .i64 x.epoch, v0, .int .u64 x.floor]

def NEConf : Rp EConf where
 n := 3
 rep A w cs x := ∃ v0 : Value, cs = cEConf x v0 ∧ slRep NEMember A w v0 x.members
 len := fun ⟨v0, h, _⟩ => by rw [h]; rfl
 one := fun ⟨v0, h, s0⟩ c hc => by
  rw [h] at hc
  simp only [cEConf, List.mem_cons, List.not_mem_nil, or_false] at hc
  rcases hc with rfl | rfl | rfl
  ·rfl
  ·exact s0.one
  ·rfl
 mono := fun ⟨v0, h, s0⟩ hA hk => ⟨v0, h, s0.mono hA hk⟩
 bound := fun ⟨v0, h, s0⟩ => ⟨v0, h, s0.bound⟩

structure EOp where
 key : ByteArray
 val : ByteArray
 del : Bool

instance : Inhabited EOp := ⟨⟨ByteArray.empty, ByteArray.empty, false⟩⟩

def eqEOp (x y : EOp) : Bool := (seqB x.key y.key) && (seqB x.val y.val) && (x.del == y.del)

theorem eqEOp_iff {x y : EOp} : eqEOp x y = true ↔ x = y := by cases x; cases y; simp [eqEOp, seqB_iff, and_assoc]

def cEOp (x : EOp) : List Value := [.string x.key, .string x.val, .bool x.del]

def NEOp : Rp EOp := Rp.flat 3 (fun _ => True) (fun x => cEOp x) (fun _ => rfl) (fun x c hc => by simp only [cEOp, List.mem_cons, List.not_mem_nil, or_false] at hc; rcases hc with rfl | rfl | rfl <;> rfl)

theorem NEOp.isFlat : NEOp.Flat := Rp.flat_flat _ _ _ _ _

structure EBatch where
 client : Int
 req : Int
 ops : List EOp

instance : Inhabited EBatch := ⟨⟨0, 0, []⟩⟩

def cEBatch (x : EBatch) (v0 : Value) : List Value := [.int .i64 x.client, .int .i64 x.req, v0]

def NEBatch : Rp EBatch where
 n := 3
 rep A w cs x := ∃ v0 : Value, cs = cEBatch x v0 ∧ slRep NEOp A w v0 x.ops
 len := fun ⟨v0, h, _⟩ => by rw [h]; rfl
 one := fun ⟨v0, h, s0⟩ c hc => by
  rw [h] at hc
  simp only [cEBatch, List.mem_cons, List.not_mem_nil, or_false] at hc
  rcases hc with rfl | rfl | rfl
  ·rfl
  ·rfl
  ·exact s0.one
 mono := fun ⟨v0, h, s0⟩ hA hk => ⟨v0, h, s0.mono hA hk⟩
 bound := fun ⟨v0, h, s0⟩ => ⟨v0, h, s0.bound⟩

structure Emvcc_Store where
 t : Option Etree_Tree_api_Cell
 last : Int
 n : Int

instance : Inhabited Emvcc_Store := ⟨⟨none, 0, 0⟩⟩

def cEmvcc_Store (x : Emvcc_Store) (v0 : Value) : List Value := [v0, .int .u64 x.last, .int .i64 x.n]

def OEmvcc_Store (b : Nat) (x : Emvcc_Store) : Ch := ExC fun (p : Value) => [BxC b 88 (cEmvcc_Store x p), PtC OEtree_Tree_api_Cell p x.t]

def tMvL : TabL := ⟨[(38912, 0), (38913, 1), (38914, 2), (75776, 0), (75777, 1), (75778, 2), (90112, 0), (90113, 1), (90114, 2), (97280, 0)], [9], [], [(36, (74, 3)), (86, (95, 3))], [(3, (1, false)), (4, (1, false)), (9, (1, false)), (27, (1, false)), (36, (1, false)), (38, (3, true)), (74, (3, true)), (84, (1, false)), (86, (1, false)), (88, (3, true)), (95, (3, true))]⟩

def tMv : Tab Try.prog := ⟨tMvL, by kernel_rfl⟩

theorem fn_39_YMv : IsFn Try.prog 39 := ⟨_, Try.func39, by kernel_rfl, by kernel_rfl⟩

theorem fn_45_YMv : IsFn Try.prog 45 := ⟨_, Try.func45, by kernel_rfl, by kernel_rfl⟩

theorem fn_53_YMv : IsFn Try.prog 53 := ⟨_, Try.func53, by kernel_rfl, by kernel_rfl⟩

theorem fn_71_YMv : IsFn Try.prog 71 := ⟨_, Try.func71, by kernel_rfl, by kernel_rfl⟩

theorem fn_72_YMv : IsFn Try.prog 72 := ⟨_, Try.func72, by kernel_rfl, by kernel_rfl⟩

theorem fn_73_YMv : IsFn Try.prog 73 := ⟨_, Try.func73, by kernel_rfl, by kernel_rfl⟩

theorem fn_78_YMv : IsFn Try.prog 78 := ⟨_, Try.func78, by kernel_rfl, by kernel_rfl⟩

theorem fn_87_YMv : IsFn Try.prog 87 := ⟨_, Try.func87, by kernel_rfl, by kernel_rfl⟩

theorem fn_88_YMv : IsFn Try.prog 88 := ⟨_, Try.func88, by kernel_rfl, by kernel_rfl⟩

theorem fn_96_YMv : IsFn Try.prog 96 := ⟨_, Try.func96, by kernel_rfl, by kernel_rfl⟩

theorem E_86_YMv : Elem Try.prog 86 95 3 32 := ⟨Try.underlying86, by
 have h : (Try.prog.info? 95).map (fun i => (i.zero, i.size, i.bytes)) = some (some (.agg #[.int .u64 0, .string ByteArray.empty, .bool false]), 3, 32) := by kernel_rfl
 obtain ⟨i, hi, h1⟩ := Option.map_eq_some_iff.1 h
 simp only [Prod.mk.injEq] at h1
 exact ⟨i, _, hi, h1.1, h1.2.1, h1.2.2, by rfl⟩, by decide⟩

def F_slices_Clone_api_Cell_api_Cell (s0 : List ECell) : Option (List ECell) := chk (((([] : List ECell).length + s0.length : Nat) : Int) * 32 ≤ 140737488355328) (some s0)

theorem c_slices_Clone_api_Cell_api_Cell {I D : Dm} {v_s0 : Value} {s0 : List ECell} {w : World} {rr : List ECell} (hF : F_slices_Clone_api_Cell_api_Cell s0 = some rr) (H : St I D w [SlC NECell v_s0 s0]) :
  Calls Try.prog 88 #[v_s0] w (Ret fun vv w' => ∃ q1 : Value, vv = q1 ∧ ∃ I', Hf I D w I' w' [OwC NECell 95 q1 rr]) := by
 replace H := H.hf
 unfold F_slices_Clone_api_Cell_api_Cell at hF
 obtain ⟨hg, hF⟩ := chk_in hF
 obtain rfl := some_in hF
 obtain ⟨ao, cap, rfl, _, _⟩ := H.slshape 0 rfl
 refine f_enter 8 Try.func88 rfl rfl (Nat.le_of_ble_eq_true rfl) fun a Z => ?_
 replace Z := Z.sub (ts := [0]) rfl
 refine wp_seq (f_region Z ?_); clear Z; intro Z
 refine s_runk tMv Z 1 rfl rfl ?_; clear Z a; intro a Z
 refine s_end Z [0, 2] rfl ?_; clear Z; intro Z
 refine p_then (wp_seq ?_)
 refine wp_seq (f_region Z ?_); clear Z; intro Z
 refine s_runk tMv Z 1 rfl rfl ?_; clear Z a; intro a Z
 refine s_ob Z (v := .bool ao.isNone) rfl rfl (by decide) rfl (Ob_bin rfl rfl rfl (eqg_sl _ _ _ _ _ _ _ _ _ _ _) (run_eql_slice_nil' Try.underlying86 _ _ _ _)) ?_; clear Z a; intro a Z
 refine s_end Z [0, 2, 4] rfl ?_; clear Z; intro Z
 refine p_then ?_
 refine f_cond Z rfl (fun hc1 => ?_) (fun hc1 => ?_)
 ·have e := (H.sl 0 rfl).isNone hc1
  subst e
  refine wp_seq (f_region Z ?_); clear Z; intro Z
  refine s_runk tMv Z 1 rfl rfl ?_; clear Z a; intro a Z
  refine s_end Z [0, 2] rfl ?_; clear Z; intro Z
  refine p_then (wp_ret ?_)
  refine p_then_r ?_
  exact f_ret Z (run_results1 rfl Z rfl) ⟨_, rfl, I, ((H.nilow NECell 95).sub [(0, false)] rfl).eq rfl⟩
 ·refine wp_skip ?_
  refine p_then (wp_seq (f_region Z ?_)); clear Z; intro Z
  refine h_bslice Z H (vs := []) (cl := []) (e := 95) rfl rfl rfl (by decide) rfl rfl (fun w => run_bslice (z := .agg #[.int .u64 0, .string ByteArray.empty, .bool false]) (m := 3) Try.underlying86 (by kernel_rfl) rfl rfl (by decide) (by simp [Instr.fill, Value.cells]) w) ?_; clear Z a H; intro a w1 b1 H Z
  refine s_runk tMv Z 1 rfl rfl ?_; clear Z a; intro a Z
  replace H : Hf I D w I w1 [OwC NECell 95 (.slice (some ⟨b1, 0, none⟩) 0 0) [], SlC NECell (.slice ao s0.length cap) s0] := H.emptyow 0 rfl NECell
  refine h_appO Z H 0 E_86_YMv s0 rfl rfl rfl rfl rfl (by decide) rfl rfl rfl (H.sl2 1 rfl) hg (by decide) ?_; clear Z a H; intro v1 a w2 H Z
  refine s_runk tMv Z 1 rfl rfl ?_; clear Z a; intro a Z
  refine s_end Z [2] rfl ?_; clear Z; intro Z
  refine p_then (wp_ret ?_)
  exact f_ret Z (run_results1 rfl Z rfl) ⟨_, rfl, I, (H.sub [(0, false)] rfl).eq rfl⟩

def F_mvcc_New : Option Emvcc_Store := (F_tree_New_api_Cell).bind fun c => (some ({ (default : Emvcc_Store) with t := some c } : Emvcc_Store))

set_option maxHeartbeats 1000000 in
theorem c_mvcc_New {I D : Dm} {w : World} {rr : Emvcc_Store} (hF : F_mvcc_New = some rr) (H : St I D w []) :
  Calls Try.prog 14 #[] w (Ret fun vv w' => ∃ g1 : Nat, vv = .pointer (some ⟨g1, 0, none⟩) ∧ ∃ I', Hf I D w I' w' [OEmvcc_Store g1 rr]) := by
 replace H := H.hf
 unfold F_mvcc_New at hF
 refine f_enter 4 Try.func14 rfl rfl (Nat.le_of_ble_eq_true rfl) fun a Z => ?_
 replace Z := Z.sub (ts := []) rfl
 refine wp_seq (f_region Z ?_); clear Z; intro Z
 refine s_runk tMv Z 1 rfl rfl ?_; clear Z a; intro a Z
 refine s_end Z [0] rfl ?_; clear Z; intro Z
 refine p_then (wp_seq ?_)
 obtain ⟨c, hx1, hF⟩ := bnd_in hF
 refine f_region Z ?_; clear Z; intro Z
 refine h_call Z H (js := []) rfl (caps := #[]) fn_39_YMv rfl rfl rfl rfl rfl (by decide) rfl rfl (fun D1 hS => have hq := c_tree_New_api_Cell hx1 hS; hq) ?_; clear Z a; intro vv a w1 D2 hr hF2 Z
 obtain ⟨g1, rfl, I1, K⟩ := hr
 have H : Hf I D w I1 w1 [OEtree_Tree_api_Cell g1 c] := hF2 K
 clear hF2 K
 refine s_ob Z (v := .agg #[.pointer (some ⟨g1, 0, none⟩), .int .u64 0, .int .i64 0]) rfl rfl (by decide) rfl (Ob_build (vs := [(0, .pointer (some ⟨g1, 0, none⟩))]) rfl rfl (by go_simp <;> rfl)) ?_; clear Z a; intro a Z
 refine h_boxv Z H (cl := [.pointer (some ⟨g1, 0, none⟩), .int .u64 0, .int .i64 0]) rfl rfl rfl (by decide) rfl rfl rfl ?_; clear Z a H; intro a w2 b1 H Z
 refine s_runk tMv Z 1 rfl rfl ?_; clear Z a; intro a Z
 refine s_end Z [0] rfl ?_; clear Z; intro Z
 refine p_then (wp_ret ?_)
 replace H : Hf I D w I1 w2 [PtC OEtree_Tree_api_Cell (.pointer (some ⟨g1, 0, none⟩)) (some c), BxC b1 88 [.pointer (some ⟨g1, 0, none⟩), .int .u64 0, .int .i64 0]] := H.mkS (K := OEtree_Tree_api_Cell) 1 rfl
 replace H : Hf I D w I1 w2 [OEmvcc_Store b1 ({ (default : Emvcc_Store) with t := some c } : Emvcc_Store)] := H.shutX (.pointer (some ⟨g1, 0, none⟩)) [(1, false), (0, false)] rfl
 obtain rfl := some_in hF
 exact f_ret Z (run_results1 rfl Z rfl) ⟨b1, rfl, I1, (H.sub [(0, false)] rfl).eq rfl⟩

def F_mvcc_Store_none (s0 : Emvcc_Store) : Option Bool := some s0.t.isNone

set_option maxHeartbeats 1000000 in
theorem c_mvcc_Store_none {I D : Dm} {b_s0 : Nat} {s0 : Emvcc_Store} {w : World} {rr : Bool} (hF : F_mvcc_Store_none s0 = some rr) (H : St I D w [OEmvcc_Store b_s0 s0]) :
  Calls Try.prog 45 #[.pointer (some ⟨b_s0, 0, none⟩)] w (Ret fun vv w' => vv = .bool rr ∧ ∃ I', Hf I D w I' w' [OEmvcc_Store b_s0 s0]) := by
 replace H := H.hf
 unfold F_mvcc_Store_none at hF
 refine f_enter 12 Try.func45 rfl rfl (Nat.le_of_ble_eq_true rfl) fun a Z => ?_
 replace Z := Z.sub (ts := [0]) rfl
 refine wp_seq (f_region Z ?_); clear Z; intro Z
 refine s_runk tMv Z 1 rfl rfl ?_; clear Z a; intro a Z
 refine s_end Z [0, 2] rfl ?_; clear Z; intro Z
 refine p_then (wp_seq (f_region Z ?_)); clear Z; intro Z
 refine s_runk tMv Z 1 rfl rfl ?_; clear Z a; intro a Z
 refine s_ob Z (v := .bool false) rfl rfl (by decide) rfl (Ob_pnil rfl rfl rfl Try.underlying51 (.inl ⟨rfl, rfl⟩)) ?_; clear Z a; intro a Z
 refine s_runk tMv Z 1 rfl rfl ?_; clear Z a; intro a Z
 refine g_if Z rfl rfl rfl (p := true) rfl rfl (by decide) (fun _ => ?_) (fun h => by cases h)
 refine s_runk tMv Z 1 rfl rfl ?_; clear Z a; intro a Z
 refine g_if Z rfl rfl rfl (p := true) rfl rfl (by decide) (fun _ => ?_) (fun h => by cases h)
 refine s_runk tMv Z 1 rfl rfl ?_; clear Z a; intro a Z
 refine g_if Z rfl rfl rfl (p := true) rfl rfl (by decide) (fun _ => ?_) (fun h => by cases h)
 refine s_runk tMv Z 1 rfl rfl ?_; clear Z a; intro a Z
 refine g_if Z rfl rfl rfl (p := true) rfl rfl (by decide) (fun _ => ?_) (fun h => by cases h)
 obtain ⟨v1, H⟩ := H.openX 0 rfl
 replace H : Hf I D w I w [BxC b_s0 88 [v1, .int .u64 s0.last, .int .i64 s0.n], PtC OEtree_Tree_api_Cell v1 s0.t] := H
 refine s_ob Z (v := v1) rfl rfl (by decide) rfl (Ob_load tMv rfl rfl rfl ((H.bx 0 rfl).cell 0 rfl)) ?_; clear Z a; intro a Z
 refine g_if Z rfl rfl rfl (p := true) rfl rfl (by decide) (fun _ => ?_) (fun h => by cases h)
 refine s_ob Z (v := .bool s0.t.isNone) rfl rfl (by decide) rfl (Ob_popt (q := s0.t) rfl rfl rfl Try.underlying84 (H.optI 1 rfl) (.inl ⟨rfl, rfl⟩)) ?_; clear Z a; intro a Z
 refine s_ob Z (v := .bool s0.t.isNone) rfl rfl (by decide) rfl (Ob_pick rfl rfl rfl rfl rfl) ?_; clear Z a; intro a Z
 refine s_runk tMv Z 1 rfl rfl ?_; clear Z a; intro a Z
 refine s_end Z [2] rfl ?_; clear Z; intro Z
 refine p_then (wp_ret ?_)
 replace H : Hf I D w I w [OEmvcc_Store b_s0 s0] := H.shutX (v1) [(0, false), (0, false)] rfl
 obtain rfl := some_in hF
 exact f_ret Z (run_results1 rfl Z rfl) ⟨rfl, I, (H.sub [(0, false)] rfl).eq rfl⟩

def F_vers_Put (l : List ECell) (c : ECell) : Option ((List ECell) × Int) := if (c.ts == 0) = true then (some (([] : List ECell), 5)) else (chk ((decide ((l.length : Int) > 0)) = true → inI ((l.length : Int) - 1)) (chk ((decide ((l.length : Int) > 0)) = true → (0 : Int) ≤ (l.length : Int) - 1 ∧ (l.length : Int) - 1 < (l.length : Int)) (if ((decide ((l.length : Int) > 0)) && (decide ((l.getD ((l.length : Int) - 1).toNat default).ts ≥ c.ts))) = true then (some (([] : List ECell), 18)) else ((F_slices_Clone_api_Cell_api_Cell l).bind fun c_2 => (chk (((c_2.length + [c].length : Nat) : Int) * 32 ≤ 140737488355328) (some (c_2 ++ [c], 0)))))))

set_option maxHeartbeats 1000000 in
theorem c_vers_Put {I D : Dm} {l : List ECell} {v1_l : Value} {c : ECell} {w : World} {rr : (List ECell) × Int} (hF : F_vers_Put l c = some rr) (H : St I D w [SlC NECell v1_l l]) :
  Calls Try.prog 72 #[v1_l, .agg #[.int .u64 c.ts, .string c.val, .bool c.del]] w (Ret fun vv w' => ∃ q1 : Value, vv = .tuple #[q1, .int .i64 rr.2] ∧ ∃ I', Hf I D w I' w' [SlC NECell q1 rr.1]) := by
 replace H := H.hf
 unfold F_vers_Put at hF
 refine f_enter 31 Try.func72 rfl rfl (Nat.le_of_ble_eq_true rfl) fun a Z => ?_
 replace Z := Z.sub (ts := [0, 1]) rfl
 refine wp_seq (f_region Z ?_); clear Z; intro Z
 refine h_boxv Z H (cl := [.int .u64 c.ts, .string c.val, .bool c.del]) rfl rfl rfl (by decide) rfl rfl rfl ?_; clear Z a H; intro a w1 b1 H Z
 refine s_runk tMv Z 2 rfl rfl ?_; clear Z a; intro a Z
 refine s_end Z [0, 3, 4, 5] rfl ?_; clear Z; intro Z
 refine p_then (wp_seq ?_)
 refine wp_block ?_
 refine wp_seq (f_region Z ?_); clear Z; intro Z
 refine s_runk tMv Z 1 rfl rfl ?_; clear Z a; intro a Z
 refine s_ob Z (v := .int .u64 c.ts) rfl rfl (by decide) rfl (Ob_load tMv rfl rfl rfl ((H.bx 0 rfl).cell 0 rfl)) ?_; clear Z a; intro a Z
 refine s_runk tMv Z 2 rfl rfl ?_; clear Z a; intro a Z
 refine s_end Z [0, 3, 4, 5, 6] rfl ?_; clear Z; intro Z
 refine p_then ?_
 refine f_cond Z rfl (fun hc1 => ?_) (fun hc1 => ?_)
 ·replace hF := ite_t hc1 hF
  refine wp_seq (f_region Z ?_); clear Z; intro Z
  refine s_runk tMv Z 2 rfl rfl ?_; clear Z a; intro a Z
  refine s_end Z [0, 3, 4, 5] rfl ?_; clear Z; intro Z
  refine p_then (wp_ret ?_)
  refine p_blk_r ?_
  refine p_then_r ?_
  replace H : Hf I D w I w1 [SlC NECell (.slice none 0 0) ([] : List ECell), BxC b1 95 [.int .u64 c.ts, .string c.val, .bool c.del], SlC NECell v1_l l] := H.slNil NECell
  obtain rfl := some_in hF
  exact f_ret Z (run_results2 rfl Z rfl rfl) ⟨.slice none 0 0, rfl, I, (H.sub [(0, true)] rfl).eq rfl⟩
 ·replace hF := ite_f hc1 hF
  refine wp_seq ?_
  obtain ⟨hg1, hF⟩ := chk_in hF
  obtain ⟨hg2, hF⟩ := chk_in hF
  refine f_quietd (by kernel_rfl) (by kernel_rfl) Z ?_; clear Z; intro Z
  refine q_runk tMv Z 1 rfl rfl ?_; clear Z a; intro a Z
  refine q_ob Z (v := .int .i64 (l.length : Int)) rfl rfl (by decide) rfl (fun _ hw => Ob_slen tMv rfl rfl rfl ((H.blw hw).slshape 1 rfl)) ?_; clear Z a; intro a Z
  refine q_runk tMv Z 2 rfl rfl ?_; clear Z a; intro a Z
  refine gq_ob Z (p := (decide ((l.length : Int) > 0))) (v := v1_l) (S' := [(0, v1_l)]) rfl rfl rfl (wantB_t _) rfl (by decide) (fun hp hS => hS.sub (ts := [0]) rfl) (fun hp _ hw => Ob_c tMv rfl) ?_; clear Z a; intro a Z
  refine gq_ob Z (p := (decide ((l.length : Int) > 0))) (v := v1_l) (S' := [(0, v1_l)]) rfl rfl rfl (wantB_t _) rfl (by decide) (fun hp hS => hS.sub (ts := [0]) rfl) (fun hp _ hw => Ob_c tMv rfl) ?_; clear Z a; intro a Z
  refine gq_ob Z (p := (decide ((l.length : Int) > 0))) (v := .int .i64 (l.length : Int)) (S' := [(16, v1_l)]) rfl rfl rfl (wantB_t _) rfl (by decide) (fun hp hS => (hS.conv (t := 16) rfl (cond_t hp)).sub (ts := [16]) rfl) (fun hp _ hw => Ob_slen tMv rfl rfl rfl ((H.blw hw).slshape 1 rfl)) ?_; clear Z a; intro a Z
  refine gq_ob Z (p := (decide ((l.length : Int) > 0))) (v := .int .i64 ((l.length : Int) - 1)) (S' := [(17, .int .i64 (l.length : Int))]) rfl rfl rfl (wantB_t _) rfl (by decide) (fun hp hS => (hS.conv (t := 17) rfl (cond_t hp)).sub (ts := [17]) rfl) (fun hp _ hw => Ob_sub rfl rfl rfl (wrI (hg1 hp))) ?_; clear Z a; intro a Z
  refine gq_ob Z (p := (decide ((l.length : Int) > 0))) (v := .pointer (some ⟨blkOf v1_l, oofOf v1_l + ((l.length : Int) - 1).toNat * 3, none⟩)) (S' := [(15, v1_l), (18, .int .i64 ((l.length : Int) - 1))]) rfl rfl rfl (wantB_t _) rfl (by decide) (fun hp hS => ((hS.conv (t := 15) rfl (cond_t hp)).conv (t := 18) rfl (cond_t hp)).sub (ts := [15, 18]) rfl) (fun hp _ hw => Ob_sidx tMv rfl rfl rfl rfl (slPl ((H.blw hw).sl 1 rfl) (hg2 hp)) (hg2 hp)) ?_; clear Z a; intro a Z
  refine gq_ob Z (p := (decide ((l.length : Int) > 0))) (v := .pointer (some ⟨blkOf v1_l, oofOf v1_l + ((l.length : Int) - 1).toNat * 3, none⟩)) (S' := [(19, .pointer (some ⟨blkOf v1_l, oofOf v1_l + ((l.length : Int) - 1).toNat * 3, none⟩))]) rfl rfl rfl (wantB_t _) rfl (by decide) (fun hp hS => (hS.conv (t := 19) rfl (cond_t hp)).sub (ts := [19]) rfl) (fun hp _ hw => Ob_c tMv rfl) ?_; clear Z a; intro a Z
  refine gq_ob Z (p := (decide ((l.length : Int) > 0))) (v := .int .u64 ((l.getD ((l.length : Int) - 1).toNat default).ts)) (S' := [(20, .pointer (some ⟨blkOf v1_l, oofOf v1_l + ((l.length : Int) - 1).toNat * 3, none⟩))]) rfl rfl rfl (wantB_t _) rfl (by decide) (fun hp hS => (hS.conv (t := 20) rfl (cond_t hp)).sub (ts := [20]) rfl) (fun hp _ hw => Ob_load tMv rfl rfl rfl ((slFl ((H.blw hw).sl 1 rfl) (hg2 hp)) 0 _ rfl)) ?_; clear Z a; intro a Z
  refine gq_ob Z (p := (decide ((l.length : Int) > 0))) (v := .pointer (some ⟨b1, 0, none⟩)) (S' := [(3, .pointer (some ⟨b1, 0, none⟩))]) rfl rfl rfl (wantB_t _) rfl (by decide) (fun hp hS => hS.sub (ts := [3]) rfl) (fun hp _ hw => Ob_c tMv rfl) ?_; clear Z a; intro a Z
  refine gq_ob Z (p := (decide ((l.length : Int) > 0))) (v := .int .u64 c.ts) (S' := [(22, .pointer (some ⟨b1, 0, none⟩))]) rfl rfl rfl (wantB_t _) rfl (by decide) (fun hp hS => (hS.conv (t := 22) rfl (cond_t hp)).sub (ts := [22]) rfl) (fun hp _ hw => Ob_load tMv rfl rfl rfl (((H.blw hw).bx 0 rfl).cell 0 rfl)) ?_; clear Z a; intro a Z
  refine gq_ob Z (p := (decide ((l.length : Int) > 0))) (v := .bool (decide ((l.getD ((l.length : Int) - 1).toNat default).ts ≥ c.ts))) (S' := [(21, .int .u64 ((l.getD ((l.length : Int) - 1).toNat default).ts)), (23, .int .u64 c.ts)]) rfl rfl rfl (wantB_t _) rfl (by decide) (fun hp hS => ((hS.conv (t := 21) rfl (cond_t hp)).conv (t := 23) rfl (cond_t hp)).sub (ts := [21, 23]) rfl) (fun hp _ hw => Ob_c tMv rfl) ?_; clear Z a; intro a Z
  refine q_ob Z (v := .bool ((decide ((l.length : Int) > 0)) && (decide ((l.getD ((l.length : Int) - 1).toNat default).ts ≥ c.ts)))) rfl rfl (by decide) rfl (fun _ hw => Ob_pick rfl rfl rfl rfl (pick_and _ _)) ?_; clear Z a; intro a Z
  refine q_runk tMv Z 1 rfl rfl ?_; clear Z a; intro a Z
  refine q_end Z [0, 3, 4, 5, 10] rfl ?_; clear Z; intro w2 hb Z
  replace H : Hf I D w I w2 [BxC b1 95 [.int .u64 c.ts, .string c.val, .bool c.del], SlC NECell v1_l l] := H.blw hb
  clear hb
  refine p_then ?_
  refine f_cond Z rfl (fun hc2 => ?_) (fun hc2 => ?_)
  ·replace hF := ite_t hc2 hF
   refine wp_seq (f_region Z ?_); clear Z; intro Z
   refine s_runk tMv Z 2 rfl rfl ?_; clear Z a; intro a Z
   refine s_end Z [0, 3, 4, 5] rfl ?_; clear Z; intro Z
   refine p_then (wp_ret ?_)
   refine p_blk_r ?_
   refine p_then_r ?_
   replace H : Hf I D w I w2 [SlC NECell (.slice none 0 0) ([] : List ECell), BxC b1 95 [.int .u64 c.ts, .string c.val, .bool c.del], SlC NECell v1_l l] := H.slNil NECell
   obtain rfl := some_in hF
   exact f_ret Z (run_results2 rfl Z rfl rfl) ⟨.slice none 0 0, rfl, I, (H.sub [(0, true)] rfl).eq rfl⟩
  ·replace hF := ite_f hc2 hF
   refine wp_skip ?_
   refine p_blk ?_
   refine p_then (wp_seq ?_)
   obtain ⟨c_2, hx1, hF⟩ := bnd_in hF
   obtain ⟨hg3, hF⟩ := chk_in hF
   refine f_regionG Z (by kernel_rfl) (by kernel_rfl) (by decide) (by decide) [1, 3, 4] [(0, [0, 2]), (1, [0, 2]), (0, [0, 1]), (4, [0, 1]), (15, [3]), (31, [7]), (63, [7])] (by kernel_rfl) (fun jj => match jj with | 5 => 4 | _ => jj) (by kernel_rfl) (fun jj rv vv => match jj with | 0 => vv = v1_l | 1 => True | 2 => vv = .agg #[.int .u64 c.ts, .string c.val, .bool c.del] | 3 => vv = .slice (some ⟨blkOf vv, 0, none⟩) 1 1 | 4 => True | 5 => vv = rv | 6 => vv = .int .i64 0 | _ => True) (fun ss vals1 xw => match ss with | 0 => Gx I D w I w2 xw [BxC b1 95 [.int .u64 c.ts, .string c.val, .bool c.del], SlC NECell v1_l l] | 1 => Gx I D w I w2 xw [OwC NECell 95 (vals1 1) c_2, BxC b1 95 [.int .u64 c.ts, .string c.val, .bool c.del], SlC NECell v1_l l] | 2 => Gx I D w I w2 xw [BxC (blkOf (vals1 3)) 95 [.int .u64 c.ts, .string c.val, .bool c.del], BxC b1 95 [.int .u64 c.ts, .string c.val, .bool c.del], SlC NECell v1_l l] | 3 => Gx I D w I w2 xw [BxC (blkOf (vals1 3)) 95 [.int .u64 c.ts, .string c.val, .bool c.del], OwC NECell 95 (vals1 1) c_2, BxC b1 95 [.int .u64 c.ts, .string c.val, .bool c.del], SlC NECell v1_l l] | _ => Gx I D w I w2 xw [OwC NECell 95 (vals1 4) (c_2 ++ [c]), BxC b1 95 [.int .u64 c.ts, .string c.val, .bool c.del], SlC NECell v1_l l]) (fun _ => Gx.start H) ?_ ?_
   ·intro fr hfr hfe
    refine .cons (fun ss hs vals1 xw hG hV => ?_) ?_
    ·obtain rfl | rfl : ss = 0 ∨ ss = 2 := by simpa using hs
     all_goals
     ·rw [← hfe]
      have hS := (hfr vals1).sub (ts := [0]) (S' := [(0, v1_l)]) rfl
      exact L_val hS rfl (Ob_c tMv rfl) ⟨rfl, hG⟩
    refine .cons (fun ss hs vals1 xw hG hV => ?_) ?_
    ·obtain rfl | rfl : ss = 0 ∨ ss = 2 := by simpa using hs
     ·rw [← hfe]
      have hS := (hfr vals1).sub (ts := [26]) (S' := [(26, vals1 0)]) rfl
      replace hS := hS.conv (t := 26) rfl (show (vals1 0) = v1_l from hV 0 (by decide))
      obtain ⟨I2, hI2, H⟩ := Gx.ex hG
      refine L_hcall H (js := [(1, true)]) rfl (caps := #[]) hS fn_88_YMv rfl rfl rfl rfl rfl (fun D1 hS => have hq := c_slices_Clone_api_Cell_api_Cell hx1 hS; hq) fun _ yw D1 hr hF2 => ?_
      obtain ⟨q0_, rfl, I3, K⟩ := hr
      obtain ⟨hK, H2⟩ := hF2 K
      exact ⟨trivial, Gx.go hG hI2 hK K.imm H2⟩
     ·rw [← hfe]
      have hS := (hfr vals1).sub (ts := [26]) (S' := [(26, vals1 0)]) rfl
      replace hS := hS.conv (t := 26) rfl (show (vals1 0) = v1_l from hV 0 (by decide))
      obtain ⟨I2, hI2, H⟩ := Gx.ex hG
      refine L_hcall H (js := [(2, true)]) rfl (caps := #[]) hS fn_88_YMv rfl rfl rfl rfl rfl (fun D1 hS => have hq := c_slices_Clone_api_Cell_api_Cell hx1 hS; hq) fun _ yw D1 hr hF2 => ?_
      obtain ⟨q0_, rfl, I3, K⟩ := hr
      obtain ⟨hK, H2⟩ := hF2 K
      exact ⟨trivial, Gx.go hG hI2 hK K.imm (Hf.sub H2 [(1, false), (0, false), (0, false), (0, true)] rfl)⟩
    refine .cons (fun ss hs vals1 xw hG hV => ?_) ?_
    ·obtain rfl | rfl : ss = 0 ∨ ss = 1 := by simpa using hs
     ·rw [← hfe]
      have hS := (hfr vals1).sub (ts := [3]) (S' := [(3, .pointer (some ⟨b1, 0, none⟩))]) rfl
      obtain ⟨I2, hI2, H⟩ := Gx.ex hG
      exact L_val hS rfl (Ob_loads tMv rfl rfl rfl ((H.bx 0 rfl).part 0 rfl)) ⟨rfl, hG⟩
     ·rw [← hfe]
      have hS := (hfr vals1).sub (ts := [3]) (S' := [(3, .pointer (some ⟨b1, 0, none⟩))]) rfl
      obtain ⟨I2, hI2, H⟩ := Gx.ex hG
      exact L_val hS rfl (Ob_loads tMv rfl rfl rfl ((H.bx 1 rfl).part 0 rfl)) ⟨rfl, hG⟩
    refine .cons (fun ss hs vals1 xw hG hV => ?_) ?_
    ·obtain rfl | rfl : ss = 0 ∨ ss = 1 := by simpa using hs
     all_goals
     ·rw [← hfe]
      have hS := (hfr vals1).sub (ts := [28]) (S' := [(28, vals1 2)]) rfl
      replace hS := hS.conv (t := 28) rfl (show (vals1 2) = .agg #[.int .u64 c.ts, .string c.val, .bool c.del] from hV 2 (by decide))
      obtain ⟨I2, hI2, H⟩ := Gx.ex hG
      exact L_bslice H (vs := [(0, .agg #[.int .u64 c.ts, .string c.val, .bool c.del])]) (cl := [.int .u64 c.ts, .string c.val, .bool c.del]) (e := 95) hS rfl rfl rfl (fun w => run_bslice (z := .agg #[.int .u64 0, .string ByteArray.empty, .bool false]) (m := 3) Try.underlying86 (by kernel_rfl) rfl rfl (by decide) (by simp [Instr.fill, Value.cells]) w) fun yw b hK H => ⟨rfl, Gx.go hG hI2 hK (fun _ h => h) H⟩
    refine .cons (fun ss hs vals1 xw hG hV => ?_) ?_
    ·obtain rfl : ss = 3 := by simpa using hs
     rw [← hfe]
     have hS := (hfr vals1).sub (ts := [27, 29]) (S' := [(27, vals1 1), (29, vals1 3)]) rfl
     replace hS := hS.conv (t := 29) rfl (show (vals1 3) = .slice (some ⟨blkOf (vals1 3), 0, none⟩) 1 1 from hV 3 (by decide))
     obtain ⟨I2, hI2, H⟩ := Gx.ex hG
     exact L_appO H 1 E_86_YMv [c] rfl rfl hS rfl rfl rfl rfl (slRep2.box1 (H.bx 0 rfl) ⟨rfl, trivial⟩) hg3 (by decide) fun v yw hK H => ⟨trivial, Gx.go hG hI2 hK (fun _ h => h) (H.sub [(0, false), (1, false), (1, true)] rfl)⟩
    refine .cons (fun ss hs vals1 xw hG hV => ?_) ?_
    ·obtain rfl : ss = 7 := by simpa using hs
     rw [← hfe]
     have hS := (hfr vals1).sub (ts := [30]) (S' := [(30, vals1 4)]) rfl
     exact L_val hS rfl (Ob_c tMv rfl) ⟨rfl, hG⟩
    refine .cons (fun ss hs vals1 xw hG hV => ?_) ?_
    ·obtain rfl : ss = 7 := by simpa using hs
     rw [← hfe]
     have hS := (hfr vals1).sub (ts := []) (S' := []) rfl
     exact L_val hS rfl (Ob_c tMv rfl) ⟨rfl, hG⟩
    exact .nil
   ·intro vals1 a w3 Z hG hV
    replace Z := Z.sub (ts := [4, 5]) (S' := [(4, vals1 5), (5, vals1 6)]) rfl
    replace Z := Z.conv (t := 4) rfl (show (vals1 5) = (vals1 4) from hV 5 (by decide))
    replace Z := Z.conv (t := 5) rfl (show (vals1 6) = .int .i64 0 from hV 6 (by decide))
    obtain ⟨I1, _, H⟩ := Gx.ex hG
    clear hG hV
    replace Z := Z.sub (ts := [4, 5]) rfl
    replace H : Hf I D w I1 w3 [OwC NECell 95 (vals1 4) (c_2 ++ [c]), BxC b1 95 [.int .u64 c.ts, .string c.val, .bool c.del], SlC NECell v1_l l] := H
    refine p_then (wp_ret ?_)
    obtain ⟨I2, _, H⟩ := H.frzow 0 rfl
    replace H : Hf I D w I2 w3 [SlC NECell (vals1 4) (c_2 ++ [c]), BxC b1 95 [.int .u64 c.ts, .string c.val, .bool c.del], SlC NECell v1_l l] := H
    obtain rfl := some_in hF
    exact f_ret Z (run_results2 rfl Z rfl rfl) ⟨(vals1 4), rfl, I2, (H.sub [(0, true)] rfl).eq rfl⟩

def F_keys_Check (k : ByteArray) : Option Int := if ((seqB k ⟨#[]⟩) || (decide ((k.size : Int) > 8))) = true then (some 10) else (some 0)

set_option maxHeartbeats 1000000 in
theorem c_keys_Check {I D : Dm} {k : ByteArray} {w : World} {rr : Int} (hF : F_keys_Check k = some rr) (H : St I D w []) :
  Calls Try.prog 96 #[.string k] w (Ret fun vv w' => vv = .int .i64 rr ∧ ∃ I', Hf I D w I' w' []) := by
 replace H := H.hf
 unfold F_keys_Check at hF
 refine f_enter 10 Try.func96 rfl rfl (Nat.le_of_ble_eq_true rfl) fun a Z => ?_
 replace Z := Z.sub (ts := [0]) rfl
 refine wp_seq (f_region Z ?_); clear Z; intro Z
 refine s_runk tMv Z 1 rfl rfl ?_; clear Z a; intro a Z
 refine s_end Z [0, 2] rfl ?_; clear Z; intro Z
 refine p_then (wp_seq ?_)
 refine wp_seq (f_region Z ?_); clear Z; intro Z
 refine s_runk tMv Z 3 rfl rfl ?_; clear Z a; intro a Z
 refine g_ob Z (p := (!(seqB k ⟨#[]⟩))) (v := .string k) (S' := [(0, .string k)]) rfl rfl rfl (wantB_f _) rfl (by decide) (fun hp hS => hS.sub (ts := [0]) rfl) (fun hp => Ob_c tMv rfl) ?_; clear Z a; intro a Z
 refine g_ob Z (p := (!(seqB k ⟨#[]⟩))) (v := .int .i64 (k.size : Int)) (S' := [(6, .string k)]) rfl rfl rfl (wantB_f _) rfl (by decide) (fun hp hS => (hS.conv (t := 6) rfl (cond_t hp)).sub (ts := [6]) rfl) (fun hp => Ob_c tMv rfl) ?_; clear Z a; intro a Z
 refine g_ob Z (p := (!(seqB k ⟨#[]⟩))) (v := .bool (decide ((k.size : Int) > 8))) (S' := [(7, .int .i64 (k.size : Int))]) rfl rfl rfl (wantB_f _) rfl (by decide) (fun hp hS => (hS.conv (t := 7) rfl (cond_t hp)).sub (ts := [7]) rfl) (fun hp => Ob_c tMv rfl) ?_; clear Z a; intro a Z
 refine s_ob Z (v := .bool ((seqB k ⟨#[]⟩) || (decide ((k.size : Int) > 8)))) rfl rfl (by decide) rfl (Ob_pick rfl rfl rfl rfl (pick_or _ _)) ?_; clear Z a; intro a Z
 refine s_end Z [2, 9] rfl ?_; clear Z; intro Z
 refine p_then ?_
 refine f_cond Z rfl (fun hc1 => ?_) (fun hc1 => ?_)
 ·replace hF := ite_t hc1 hF
  refine wp_seq (f_region Z ?_); clear Z; intro Z
  refine s_runk tMv Z 1 rfl rfl ?_; clear Z a; intro a Z
  refine s_end Z [2] rfl ?_; clear Z; intro Z
  refine p_then (wp_ret ?_)
  refine p_then_r ?_
  obtain rfl := some_in hF
  exact f_ret Z (run_results1 rfl Z rfl) ⟨rfl, I, (H.sub [] rfl).eq rfl⟩
 ·replace hF := ite_f hc1 hF
  refine wp_skip ?_
  refine p_then (wp_seq (f_region Z ?_)); clear Z; intro Z
  refine s_runk tMv Z 1 rfl rfl ?_; clear Z a; intro a Z
  refine s_end Z [2] rfl ?_; clear Z; intro Z
  refine p_then (wp_ret ?_)
  obtain rfl := some_in hF
  exact f_ret Z (run_results1 rfl Z rfl) ⟨rfl, I, (H.sub [] rfl).eq rfl⟩

def F_ops_one (o : EOp) (ahead : ByteArray) (first : Bool) : Option Int := (F_keys_Check o.key).bind fun c => (if (c != 0) = true then (some 10) else (if (decide ((o.val.size : Int) > 8)) = true then (some 3) else (if (o.del && (!seqB o.val ⟨#[]⟩)) = true then (some 4) else (if ((!first) && (!sltB ahead o.key)) = true then (some 18) else (some 0)))))

set_option maxHeartbeats 1000000 in
theorem c_ops_one {I D : Dm} {o : EOp} {ahead : ByteArray} {first : Bool} {w : World} {rr : Int} (hF : F_ops_one o ahead first = some rr) (H : St I D w []) :
  Calls Try.prog 87 #[.agg #[.string o.key, .string o.val, .bool o.del], .string ahead, .bool first] w (Ret fun vv w' => vv = .int .i64 rr ∧ ∃ I', Hf I D w I' w' []) := by
 replace H := H.hf
 unfold F_ops_one at hF
 refine f_enter 34 Try.func87 rfl rfl (Nat.le_of_ble_eq_true rfl) fun a Z => ?_
 replace Z := Z.sub (ts := [0, 1, 2]) rfl
 refine wp_seq (f_region Z ?_); clear Z; intro Z
 refine h_boxv Z H (cl := [.string o.key, .string o.val, .bool o.del]) rfl rfl rfl (by decide) rfl rfl rfl ?_; clear Z a H; intro a w1 b1 H Z
 refine s_runk tMv Z 1 rfl rfl ?_; clear Z a; intro a Z
 refine s_end Z [1, 2, 3, 6] rfl ?_; clear Z; intro Z
 refine p_then (wp_seq ?_)
 refine wp_block ?_
 refine wp_seq ?_
 obtain ⟨c, hx1, hF⟩ := bnd_in hF
 refine f_region Z ?_; clear Z; intro Z
 refine s_runk tMv Z 1 rfl rfl ?_; clear Z a; intro a Z
 refine s_ob Z (v := .string o.key) rfl rfl (by decide) rfl (Ob_load tMv rfl rfl rfl ((H.bx 0 rfl).cell 0 rfl)) ?_; clear Z a; intro a Z
 refine h_call Z H (js := []) rfl (caps := #[]) fn_96_YMv rfl rfl rfl rfl rfl (by decide) rfl rfl (fun D1 hS => have hq := c_keys_Check hx1 hS; hq) ?_; clear Z a; intro vv a w2 D2 hr hF2 Z
 obtain ⟨rfl, I1, K⟩ := hr
 have H : Hf I D w I1 w2 [BxC b1 74 [.string o.key, .string o.val, .bool o.del]] := hF2 K
 clear hF2 K
 refine s_runk tMv Z 2 rfl rfl ?_; clear Z a; intro a Z
 refine s_end Z [1, 2, 3, 6, 7] rfl ?_; clear Z; intro Z
 refine p_then ?_
 refine f_cond Z rfl (fun hc1 => ?_) (fun hc1 => ?_)
 ·replace hF := ite_t hc1 hF
  refine wp_seq (f_region Z ?_); clear Z; intro Z
  refine s_runk tMv Z 1 rfl rfl ?_; clear Z a; intro a Z
  refine s_end Z [6] rfl ?_; clear Z; intro Z
  refine p_then (wp_ret ?_)
  refine p_blk_r ?_
  refine p_then_r ?_
  obtain rfl := some_in hF
  exact f_ret Z (run_results1 rfl Z rfl) ⟨rfl, I1, (H.sub [] rfl).eq rfl⟩
 ·replace hF := ite_f hc1 hF
  refine wp_seq (f_region Z ?_); clear Z; intro Z
  refine s_runk tMv Z 1 rfl rfl ?_; clear Z a; intro a Z
  refine s_ob Z (v := .string o.val) rfl rfl (by decide) rfl (Ob_load tMv rfl rfl rfl ((H.bx 0 rfl).cell 1 rfl)) ?_; clear Z a; intro a Z
  refine s_runk tMv Z 3 rfl rfl ?_; clear Z a; intro a Z
  refine s_end Z [1, 2, 3, 6, 12] rfl ?_; clear Z; intro Z
  refine p_then ?_
  refine f_cond Z rfl (fun hc2 => ?_) (fun hc2 => ?_)
  ·replace hF := ite_t hc2 hF
   refine wp_seq (f_region Z ?_); clear Z; intro Z
   refine s_runk tMv Z 1 rfl rfl ?_; clear Z a; intro a Z
   refine s_end Z [6] rfl ?_; clear Z; intro Z
   refine p_then (wp_ret ?_)
   refine p_blk_r ?_
   refine p_then_r ?_
   obtain rfl := some_in hF
   exact f_ret Z (run_results1 rfl Z rfl) ⟨rfl, I1, (H.sub [] rfl).eq rfl⟩
  ·replace hF := ite_f hc2 hF
   refine wp_seq (f_region Z ?_); clear Z; intro Z
   refine s_runk tMv Z 1 rfl rfl ?_; clear Z a; intro a Z
   refine s_ob Z (v := .bool o.del) rfl rfl (by decide) rfl (Ob_load tMv rfl rfl rfl ((H.bx 0 rfl).cell 2 rfl)) ?_; clear Z a; intro a Z
   refine s_runk tMv Z 1 rfl rfl ?_; clear Z a; intro a Z
   refine g_ob Z (p := o.del) (v := .pointer (some ⟨b1, 1, none⟩)) (S' := [(3, .pointer (some ⟨b1, 0, none⟩))]) rfl rfl rfl (wantB_t _) rfl (by decide) (fun hp hS => hS.sub (ts := [3]) rfl) (fun hp => Ob_c tMv rfl) ?_; clear Z a; intro a Z
   refine g_ob Z (p := o.del) (v := .string o.val) (S' := [(21, .pointer (some ⟨b1, 1, none⟩))]) rfl rfl rfl (wantB_t _) rfl (by decide) (fun hp hS => (hS.conv (t := 21) rfl (cond_t hp)).sub (ts := [21]) rfl) (fun hp => Ob_load tMv rfl rfl rfl ((H.bx 0 rfl).cell 1 rfl)) ?_; clear Z a; intro a Z
   refine g_ob Z (p := o.del) (v := .bool (!seqB o.val ⟨#[]⟩)) (S' := [(22, .string o.val)]) rfl rfl rfl (wantB_t _) rfl (by decide) (fun hp hS => (hS.conv (t := 22) rfl (cond_t hp)).sub (ts := [22]) rfl) (fun hp => Ob_c tMv rfl) ?_; clear Z a; intro a Z
   refine s_ob Z (v := .bool (o.del && (!seqB o.val ⟨#[]⟩))) rfl rfl (by decide) rfl (Ob_pick rfl rfl rfl rfl (pick_and _ _)) ?_; clear Z a; intro a Z
   refine s_runk tMv Z 1 rfl rfl ?_; clear Z a; intro a Z
   refine s_end Z [1, 2, 3, 6, 17] rfl ?_; clear Z; intro Z
   refine p_then ?_
   refine f_cond Z rfl (fun hc3 => ?_) (fun hc3 => ?_)
   ·replace hF := ite_t hc3 hF
    refine wp_seq (f_region Z ?_); clear Z; intro Z
    refine s_runk tMv Z 1 rfl rfl ?_; clear Z a; intro a Z
    refine s_end Z [6] rfl ?_; clear Z; intro Z
    refine p_then (wp_ret ?_)
    refine p_blk_r ?_
    refine p_then_r ?_
    obtain rfl := some_in hF
    exact f_ret Z (run_results1 rfl Z rfl) ⟨rfl, I1, (H.sub [] rfl).eq rfl⟩
   ·replace hF := ite_f hc3 hF
    refine wp_seq (f_region Z ?_); clear Z; intro Z
    refine s_runk tMv Z 3 rfl rfl ?_; clear Z a; intro a Z
    refine g_ob Z (p := (!first)) (v := .string ahead) (S' := [(1, .string ahead)]) rfl rfl rfl (wantB_t _) rfl (by decide) (fun hp hS => hS.sub (ts := [1]) rfl) (fun hp => Ob_c tMv rfl) ?_; clear Z a; intro a Z
    refine g_ob Z (p := (!first)) (v := .pointer (some ⟨b1, 0, none⟩)) (S' := [(3, .pointer (some ⟨b1, 0, none⟩))]) rfl rfl rfl (wantB_t _) rfl (by decide) (fun hp hS => hS.sub (ts := [3]) rfl) (fun hp => Ob_c tMv rfl) ?_; clear Z a; intro a Z
    refine g_ob Z (p := (!first)) (v := .string o.key) (S' := [(30, .pointer (some ⟨b1, 0, none⟩))]) rfl rfl rfl (wantB_t _) rfl (by decide) (fun hp hS => (hS.conv (t := 30) rfl (cond_t hp)).sub (ts := [30]) rfl) (fun hp => Ob_load tMv rfl rfl rfl ((H.bx 0 rfl).cell 0 rfl)) ?_; clear Z a; intro a Z
    refine g_ob Z (p := (!first)) (v := .bool (!sltB ahead o.key)) (S' := [(29, .string ahead), (31, .string o.key)]) rfl rfl rfl (wantB_t _) rfl (by decide) (fun hp hS => ((hS.conv (t := 29) rfl (cond_t hp)).conv (t := 31) rfl (cond_t hp)).sub (ts := [29, 31]) rfl) (fun hp => Ob_c tMv rfl) ?_; clear Z a; intro a Z
    refine s_ob Z (v := .bool ((!first) && (!sltB ahead o.key))) rfl rfl (by decide) rfl (Ob_pick rfl rfl rfl rfl (pick_and _ _)) ?_; clear Z a; intro a Z
    refine s_runk tMv Z 1 rfl rfl ?_; clear Z a; intro a Z
    refine s_end Z [6, 25] rfl ?_; clear Z; intro Z
    refine p_then ?_
    refine f_cond Z rfl (fun hc4 => ?_) (fun hc4 => ?_)
    ·replace hF := ite_t hc4 hF
     refine wp_seq (f_region Z ?_); clear Z; intro Z
     refine s_runk tMv Z 1 rfl rfl ?_; clear Z a; intro a Z
     refine s_end Z [6] rfl ?_; clear Z; intro Z
     refine p_then (wp_ret ?_)
     refine p_blk_r ?_
     refine p_then_r ?_
     obtain rfl := some_in hF
     exact f_ret Z (run_results1 rfl Z rfl) ⟨rfl, I1, (H.sub [] rfl).eq rfl⟩
    ·replace hF := ite_f hc4 hF
     refine wp_skip ?_
     refine p_blk ?_
     refine p_then (wp_seq (f_region Z ?_)); clear Z; intro Z
     refine s_runk tMv Z 1 rfl rfl ?_; clear Z a; intro a Z
     refine s_end Z [6] rfl ?_; clear Z; intro Z
     refine p_then (wp_ret ?_)
     obtain rfl := some_in hF
     exact f_ret Z (run_results1 rfl Z rfl) ⟨rfl, I1, (H.sub [] rfl).eq rfl⟩

def F_ops_Check_l1 (b : EBatch) (rc : (ByteArray × Int) → Option Int) (sg : ByteArray × Int) : Option Int := match sg with | (ahead, x) => if (decide (x < (b.ops.length : Int))) = true then (chk ((0 : Int) ≤ x ∧ x < (b.ops.length : Int)) ((F_ops_one (b.ops.getD (x).toNat default) ahead (x == 0)).bind fun o => (if (o != 0) = true then (some o) else (chk (inI (x + 1)) (rc ((b.ops.getD (x).toNat default).key, x + 1)))))) else (some 0)

def F_ops_Check (b : EBatch) : Option Int := if ((decide (b.client < 0)) || (decide (b.client ≥ 3))) = true then (some 1) else (if ((decide (b.req < 1)) || (decide (b.req > 1073741824))) = true then (some 5) else (if (decide ((b.ops.length : Int) > 4)) = true then (some 6) else (iter (F_ops_Check_l1 b) FU (⟨#[]⟩, 0))))

set_option maxHeartbeats 1000000 in
theorem c_ops_Check {I D : Dm} {b : EBatch} {v1_b : Value} {w : World} {rr : Int} (hF : F_ops_Check b = some rr) (H : St I D w [SlC NEOp v1_b b.ops]) :
  Calls Try.prog 71 #[.agg #[.int .i64 b.client, .int .i64 b.req, v1_b]] w (Ret fun vv w' => vv = .int .i64 rr ∧ ∃ I', Hf I D w I' w' []) := by
 replace H := H.hf
 unfold F_ops_Check at hF
 refine f_enter 49 Try.func71 rfl rfl (Nat.le_of_ble_eq_true rfl) fun a Z => ?_
 replace Z := Z.sub (ts := [0]) rfl
 refine wp_seq (f_region Z ?_); clear Z; intro Z
 refine h_boxv Z H (cl := [.int .i64 b.client, .int .i64 b.req, v1_b]) rfl rfl rfl (by decide) rfl rfl rfl ?_; clear Z a H; intro a w1 b1 H Z
 refine s_runk tMv Z 1 rfl rfl ?_; clear Z a; intro a Z
 refine s_end Z [1, 2] rfl ?_; clear Z; intro Z
 refine p_then (wp_seq ?_)
 refine wp_block ?_
 refine wp_seq (f_region Z ?_); clear Z; intro Z
 refine s_runk tMv Z 1 rfl rfl ?_; clear Z a; intro a Z
 refine s_ob Z (v := .int .i64 b.client) rfl rfl (by decide) rfl (Ob_load tMv rfl rfl rfl ((H.bx 0 rfl).cell 0 rfl)) ?_; clear Z a; intro a Z
 refine s_runk tMv Z 2 rfl rfl ?_; clear Z a; intro a Z
 refine g_ob Z (p := (!(decide (b.client < 0)))) (v := .pointer (some ⟨b1, 0, none⟩)) (S' := [(1, .pointer (some ⟨b1, 0, none⟩))]) rfl rfl rfl (wantB_f _) rfl (by decide) (fun hp hS => hS.sub (ts := [1]) rfl) (fun hp => Ob_c tMv rfl) ?_; clear Z a; intro a Z
 refine g_ob Z (p := (!(decide (b.client < 0)))) (v := .int .i64 b.client) (S' := [(12, .pointer (some ⟨b1, 0, none⟩))]) rfl rfl rfl (wantB_f _) rfl (by decide) (fun hp hS => (hS.conv (t := 12) rfl (cond_t hp)).sub (ts := [12]) rfl) (fun hp => Ob_load tMv rfl rfl rfl ((H.bx 0 rfl).cell 0 rfl)) ?_; clear Z a; intro a Z
 refine g_ob Z (p := (!(decide (b.client < 0)))) (v := .bool (decide (b.client ≥ 3))) (S' := [(13, .int .i64 b.client)]) rfl rfl rfl (wantB_f _) rfl (by decide) (fun hp hS => (hS.conv (t := 13) rfl (cond_t hp)).sub (ts := [13]) rfl) (fun hp => Ob_c tMv rfl) ?_; clear Z a; intro a Z
 refine s_ob Z (v := .bool ((decide (b.client < 0)) || (decide (b.client ≥ 3)))) rfl rfl (by decide) rfl (Ob_pick rfl rfl rfl rfl (pick_or _ _)) ?_; clear Z a; intro a Z
 refine s_runk tMv Z 1 rfl rfl ?_; clear Z a; intro a Z
 refine s_end Z [1, 2, 7] rfl ?_; clear Z; intro Z
 refine p_then ?_
 refine f_cond Z rfl (fun hc1 => ?_) (fun hc1 => ?_)
 ·replace hF := ite_t hc1 hF
  refine wp_seq (f_region Z ?_); clear Z; intro Z
  refine s_runk tMv Z 1 rfl rfl ?_; clear Z a; intro a Z
  refine s_end Z [1, 2] rfl ?_; clear Z; intro Z
  refine p_then (wp_ret ?_)
  refine p_blk_r ?_
  refine p_then_r ?_
  obtain rfl := some_in hF
  exact f_ret Z (run_results1 rfl Z rfl) ⟨rfl, I, (H.sub [] rfl).eq rfl⟩
 ·replace hF := ite_f hc1 hF
  refine wp_seq (f_region Z ?_); clear Z; intro Z
  refine s_runk tMv Z 1 rfl rfl ?_; clear Z a; intro a Z
  refine s_ob Z (v := .int .i64 b.req) rfl rfl (by decide) rfl (Ob_load tMv rfl rfl rfl ((H.bx 0 rfl).cell 1 rfl)) ?_; clear Z a; intro a Z
  refine s_runk tMv Z 2 rfl rfl ?_; clear Z a; intro a Z
  refine g_ob Z (p := (!(decide (b.req < 1)))) (v := .pointer (some ⟨b1, 1, none⟩)) (S' := [(1, .pointer (some ⟨b1, 0, none⟩))]) rfl rfl rfl (wantB_f _) rfl (by decide) (fun hp hS => hS.sub (ts := [1]) rfl) (fun hp => Ob_c tMv rfl) ?_; clear Z a; intro a Z
  refine g_ob Z (p := (!(decide (b.req < 1)))) (v := .int .i64 b.req) (S' := [(21, .pointer (some ⟨b1, 1, none⟩))]) rfl rfl rfl (wantB_f _) rfl (by decide) (fun hp hS => (hS.conv (t := 21) rfl (cond_t hp)).sub (ts := [21]) rfl) (fun hp => Ob_load tMv rfl rfl rfl ((H.bx 0 rfl).cell 1 rfl)) ?_; clear Z a; intro a Z
  refine g_ob Z (p := (!(decide (b.req < 1)))) (v := .bool (decide (b.req > 1073741824))) (S' := [(22, .int .i64 b.req)]) rfl rfl rfl (wantB_f _) rfl (by decide) (fun hp hS => (hS.conv (t := 22) rfl (cond_t hp)).sub (ts := [22]) rfl) (fun hp => Ob_c tMv rfl) ?_; clear Z a; intro a Z
  refine s_ob Z (v := .bool ((decide (b.req < 1)) || (decide (b.req > 1073741824)))) rfl rfl (by decide) rfl (Ob_pick rfl rfl rfl rfl (pick_or _ _)) ?_; clear Z a; intro a Z
  refine s_runk tMv Z 1 rfl rfl ?_; clear Z a; intro a Z
  refine s_end Z [1, 2, 16] rfl ?_; clear Z; intro Z
  refine p_then ?_
  refine f_cond Z rfl (fun hc2 => ?_) (fun hc2 => ?_)
  ·replace hF := ite_t hc2 hF
   refine wp_seq (f_region Z ?_); clear Z; intro Z
   refine s_runk tMv Z 1 rfl rfl ?_; clear Z a; intro a Z
   refine s_end Z [1, 2] rfl ?_; clear Z; intro Z
   refine p_then (wp_ret ?_)
   refine p_blk_r ?_
   refine p_then_r ?_
   obtain rfl := some_in hF
   exact f_ret Z (run_results1 rfl Z rfl) ⟨rfl, I, (H.sub [] rfl).eq rfl⟩
  ·replace hF := ite_f hc2 hF
   refine wp_seq (f_region Z ?_); clear Z; intro Z
   refine s_runk tMv Z 1 rfl rfl ?_; clear Z a; intro a Z
   refine s_ob Z (v := v1_b) rfl rfl (by decide) rfl (Ob_load tMv rfl rfl rfl ((H.bx 0 rfl).cell 2 rfl)) ?_; clear Z a; intro a Z
   refine s_ob Z (v := .int .i64 (b.ops.length : Int)) rfl rfl (by decide) rfl (Ob_slen tMv rfl rfl rfl (H.slshape 1 rfl)) ?_; clear Z a; intro a Z
   refine s_runk tMv Z 2 rfl rfl ?_; clear Z a; intro a Z
   refine s_end Z [1, 2, 25] rfl ?_; clear Z; intro Z
   refine p_then ?_
   refine f_cond Z rfl (fun hc3 => ?_) (fun hc3 => ?_)
   ·replace hF := ite_t hc3 hF
    refine wp_seq (f_region Z ?_); clear Z; intro Z
    refine s_runk tMv Z 1 rfl rfl ?_; clear Z a; intro a Z
    refine s_end Z [1, 2] rfl ?_; clear Z; intro Z
    refine p_then (wp_ret ?_)
    refine p_blk_r ?_
    refine p_then_r ?_
    obtain rfl := some_in hF
    exact f_ret Z (run_results1 rfl Z rfl) ⟨rfl, I, (H.sub [] rfl).eq rfl⟩
   ·replace hF := ite_f hc3 hF
    refine wp_skip ?_
    refine p_blk ?_
    refine p_then (wp_seq (f_region Z ?_)); clear Z; intro Z
    refine s_runk tMv Z 1 rfl rfl ?_; clear Z a; intro a Z
    refine s_end Z [1, 2, 3] rfl ?_; clear Z; intro Z
    refine p_then (wp_seq ?_)
    refine wp_seq (f_region Z ?_); clear Z; intro Z
    refine s_runk tMv Z 1 rfl rfl ?_; clear Z a; intro a Z
    refine s_ob Z (v := v1_b) rfl rfl (by decide) rfl (Ob_load tMv rfl rfl rfl ((H.bx 0 rfl).cell 2 rfl)) ?_; clear Z a; intro a Z
    refine s_ob Z (v := .int .i64 (b.ops.length : Int)) rfl rfl (by decide) rfl (Ob_slen tMv rfl rfl rfl (H.slshape 1 rfl)) ?_; clear Z a; intro a Z
    refine s_runk tMv Z 1 rfl rfl ?_; clear Z a; intro a Z
    refine s_end Z [2, 3, 31, 32, 33] rfl ?_; clear Z; intro Z
    refine p_then (wp_block ?_)
    refine f_iter hF (fun sg a' w' => match sg with | (ahead, x) => Sl 49 [(2, .int .i64 0), (3, .string ahead), (31, v1_b), (32, .int .i64 (b.ops.length : Int)), (33, .int .i64 x)] a' ∧ ∃ I2, Hf I D w I2 w' [SlC NEOp v1_b b.ops]) ⟨Z.sub (ts := [2, 3, 31, 32, 33]) rfl, ⟨I, (H.sub [(1, true)] rfl).eq rfl⟩⟩ ?_
    clear Z H hF a
    rintro rc ⟨ahead, x⟩ a w2 ⟨Z, I1, H⟩ hF
    unfold F_ops_Check_l1 at hF
    try dsimp only at hF
    refine wp_seq (f_region Z ?_); clear Z; intro Z
    refine s_runk tMv Z 1 rfl rfl ?_; clear Z a; intro a Z
    refine s_end Z [2, 3, 31, 32, 33, 34] rfl ?_; clear Z; intro Z
    refine p_then (wp_seq ?_)
    refine f_cond Z rfl (fun hc4 => ?_) (fun hc4 => ?_)
    ·replace hF := ite_t hc4 hF
     refine wp_skip ?_
     refine p_then (wp_seq ?_)
     refine wp_block ?_
     refine wp_seq ?_
     obtain ⟨hg1, hF⟩ := chk_in hF
     refine f_region Z ?_; clear Z; intro Z
     refine s_runk tMv Z 1 rfl rfl ?_; clear Z a; intro a Z
     refine s_ob Z (v := .pointer (some ⟨blkOf v1_b, oofOf v1_b + (x).toNat * 3, none⟩)) rfl rfl (by decide) rfl (Ob_sidx tMv rfl rfl rfl rfl (slPl (H.sl 0 rfl) hg1) hg1) ?_; clear Z a; intro a Z
     refine s_ob Z (v := .agg #[.string ((b.ops.getD (x).toNat default).key), .string ((b.ops.getD (x).toNat default).val), .bool ((b.ops.getD (x).toNat default).del)]) rfl rfl (by decide) rfl (Ob_loads tMv rfl rfl rfl ((slFl (H.sl 0 rfl) hg1).part 0 rfl)) ?_; clear Z a; intro a Z
     refine h_alloc Z H (cl := [.string ByteArray.empty, .string ByteArray.empty, .bool false]) (z := .agg #[.string ByteArray.empty, .string ByteArray.empty, .bool false]) rfl rfl rfl (by decide) rfl (by kernel_rfl) rfl ?_; clear Z a H; intro a w3 b2 H Z
     refine s_runk tMv Z 1 rfl rfl ?_; clear Z a; intro a Z
     refine h_store tMv Z H 0 rfl rfl rfl rfl rfl rfl rfl rfl rfl (one_cons rfl (one_cons rfl (one_cons rfl one_nil))) (Nat.le_of_ble_eq_true rfl) rfl ?_; clear H; intro w4 H
     dsimp only [List.eraseIdx] at H
     refine s_end Z [2, 3, 31, 32, 33, 34, 35, 36, 37, 5, 4] rfl ?_; clear Z; intro Z
     refine p_then (wp_seq ?_)
     refine wp_seq ?_
     obtain ⟨o, hx1, hF⟩ := bnd_in hF
     refine f_region Z ?_; clear Z; intro Z
     refine s_ob Z (v := .agg #[.string ((b.ops.getD (x).toNat default).key), .string ((b.ops.getD (x).toNat default).val), .bool ((b.ops.getD (x).toNat default).del)]) rfl rfl (by decide) rfl (Ob_loads tMv rfl rfl rfl ((H.bx 0 rfl).part 0 rfl)) ?_; clear Z a; intro a Z
     refine s_runk tMv Z 3 rfl rfl ?_; clear Z a; intro a Z
     refine h_call Z H (js := []) rfl (caps := #[]) fn_87_YMv rfl rfl rfl rfl rfl (by decide) rfl rfl (fun D1 hS => have hq := c_ops_one hx1 hS; hq) ?_; clear Z a; intro vv a w5 D2 hr hF2 Z
     obtain ⟨rfl, I2, K⟩ := hr
     have H : Hf I D w I2 w5 [BxC b2 74 [.string ((b.ops.getD (x).toNat default).key), .string ((b.ops.getD (x).toNat default).val), .bool ((b.ops.getD (x).toNat default).del)], SlC NEOp v1_b b.ops] := hF2 K
     clear hF2 K
     refine s_runk tMv Z 1 rfl rfl ?_; clear Z a; intro a Z
     refine s_end Z [2, 3, 31, 32, 33, 34, 35, 36, 37, 5, 4, 38, 39, 40, 41, 42, 6] rfl ?_; clear Z; intro Z
     refine p_then (wp_seq (f_region Z ?_)); clear Z; intro Z
     refine s_runk tMv Z 2 rfl rfl ?_; clear Z a; intro a Z
     refine s_end Z [2, 3, 31, 32, 33, 34, 35, 36, 37, 5, 4, 38, 39, 40, 41, 42, 6, 43, 44] rfl ?_; clear Z; intro Z
     refine p_then ?_
     refine f_cond Z rfl (fun hc5 => ?_) (fun hc5 => ?_)
     ·replace hF := ite_t hc5 hF
      refine wp_seq (f_region Z ?_); clear Z; intro Z
      refine s_runk tMv Z 2 rfl rfl ?_; clear Z a; intro a Z
      refine s_end Z [2, 3, 31, 32, 33, 34, 35, 36, 37, 5, 4, 38, 39, 40, 41, 42, 6, 43, 44, 45] rfl ?_; clear Z; intro Z
      refine p_then (wp_ret ?_)
      refine p_then_r ?_
      refine p_blk_r ?_
      refine p_then_r ?_
      refine p_then_r ?_
      refine p_blk_r ?_
      refine p_then_r ?_
      obtain rfl := some_in hF
      exact f_ret Z (run_results1 rfl Z rfl) ⟨rfl, I2, (H.sub [] rfl).eq rfl⟩
     ·replace hF := ite_f hc5 hF
      refine wp_skip ?_
      refine p_then ?_
      refine f_region Z ?_; clear Z; intro Z
      refine s_runk tMv Z 1 rfl rfl ?_; clear Z a; intro a Z
      refine s_ob Z (v := .string ((b.ops.getD (x).toNat default).key)) rfl rfl (by decide) rfl (Ob_load tMv rfl rfl rfl ((H.bx 0 rfl).cell 0 rfl)) ?_; clear Z a; intro a Z
      refine s_runk tMv Z 1 rfl rfl ?_; clear Z a; intro a Z
      refine s_end Z [2, 3, 31, 32, 33, 34, 35, 36, 37, 5, 4, 38, 39, 40, 41, 42, 6, 43, 44, 46, 47] rfl ?_; clear Z; intro Z
      refine p_blk ?_
      refine p_then ?_
      obtain ⟨hg2, hF⟩ := chk_in hF
      refine f_region Z ?_; clear Z; intro Z
      refine s_ob Z (v := .int .i64 (x + 1)) rfl rfl (by decide) rfl (Ob_add rfl rfl rfl (wrI hg2)) ?_; clear Z a; intro a Z
      refine s_runk tMv Z 1 rfl rfl ?_; clear Z a; intro a Z
      refine s_end Z [2, 3, 31, 32, 33, 34, 35, 36, 37, 5, 4, 38, 39, 40, 41, 42, 6, 43, 44, 46, 47, 48] rfl ?_; clear Z; intro Z
      refine p_then ?_
      exact ⟨((b.ops.getD (x).toNat default).key, x + 1), ⟨Z.sub (ts := [2, 3, 31, 32, 33]) rfl, ⟨I2, (H.sub [(1, true)] rfl).eq rfl⟩⟩, hF⟩
    ·replace hF := ite_f hc4 hF
     refine wp_exit ?_
     refine p_then_x ?_
     refine p_then_x ?_
     refine f_exit_here ?_
     refine p_then (wp_seq (f_region Z ?_)); clear Z; intro Z
     refine s_runk tMv Z 1 rfl rfl ?_; clear Z a; intro a Z
     refine s_end Z [2] rfl ?_; clear Z; intro Z
     refine p_then (wp_ret ?_)
     obtain rfl := some_in hF
     exact f_ret Z (run_results1 rfl Z rfl) ⟨rfl, I1, (H.sub [] rfl).eq rfl⟩

def F_tree_Tree_api_Cell_none_nil : Option Bool := some true

set_option maxHeartbeats 1000000 in
theorem c_tree_Tree_api_Cell_none_nil {I D : Dm} {w : World} {rr : Bool} (hF : F_tree_Tree_api_Cell_none_nil = some rr) (H : St I D w []) :
  Calls Try.prog 78 #[.pointer none] w (Ret fun vv w' => vv = .bool rr ∧ ∃ I', Hf I D w I' w' []) := by
 replace H := H.hf
 unfold F_tree_Tree_api_Cell_none_nil at hF
 refine f_enter 12 Try.func78 rfl rfl (Nat.le_of_ble_eq_true rfl) fun a Z => ?_
 replace Z := Z.sub (ts := [0]) rfl
 refine wp_seq (f_region Z ?_); clear Z; intro Z
 refine s_runk tMv Z 1 rfl rfl ?_; clear Z a; intro a Z
 refine s_end Z [0, 2] rfl ?_; clear Z; intro Z
 refine p_then (wp_seq (f_region Z ?_)); clear Z; intro Z
 refine s_runk tMv Z 1 rfl rfl ?_; clear Z a; intro a Z
 refine s_ob Z (v := .bool true) rfl rfl (by decide) rfl (Ob_pnil rfl rfl rfl Try.underlying84 (.inl ⟨rfl, rfl⟩)) ?_; clear Z a; intro a Z
 refine s_runk tMv Z 1 rfl rfl ?_; clear Z a; intro a Z
 refine g_if Z rfl rfl rfl (p := false) rfl rfl (by decide) (fun h => by cases h) ?_; clear Z; intro _ a Z
 refine g_if Z rfl rfl rfl (p := false) rfl rfl (by decide) (fun h => by cases h) ?_; clear Z; intro _ a Z
 refine g_if Z rfl rfl rfl (p := false) rfl rfl (by decide) (fun h => by cases h) ?_; clear Z; intro _ a Z
 refine g_if Z rfl rfl rfl (p := false) rfl rfl (by decide) (fun h => by cases h) ?_; clear Z; intro _ a Z
 refine g_if Z rfl rfl rfl (p := false) rfl rfl (by decide) (fun h => by cases h) ?_; clear Z; intro _ a Z
 refine s_ob Z (v := .bool true) rfl rfl (by decide) rfl (Ob_pick rfl rfl rfl rfl rfl) ?_; clear Z a; intro a Z
 refine s_runk tMv Z 1 rfl rfl ?_; clear Z a; intro a Z
 refine s_end Z [2] rfl ?_; clear Z; intro Z
 refine p_then (wp_ret ?_)
 obtain rfl := some_in hF
 exact f_ret Z (run_results1 rfl Z rfl) ⟨rfl, I, (H.sub [] rfl).eq rfl⟩

def F_tree_Tree_api_Cell_Get_nil (k : ByteArray) : Option ((List ECell) × Bool) := (F_tree_Tree_api_Cell_none_nil).bind fun n0 => (if (n0) = true then (some (([] : List ECell), false)) else (none))

set_option maxHeartbeats 1000000 in
theorem c_tree_Tree_api_Cell_Get_nil {I D : Dm} {k : ByteArray} {w : World} {rr : (List ECell) × Bool} (hF : F_tree_Tree_api_Cell_Get_nil k = some rr) (H : St I D w []) :
  Calls Try.prog 53 #[.pointer none, .string k] w (Ret fun vv w' => ∃ q1 : Value, vv = .tuple #[q1, .bool rr.2] ∧ ∃ I', Hf I D w I' w' [SlC NECell q1 rr.1]) := by
 replace H := H.hf
 unfold F_tree_Tree_api_Cell_Get_nil at hF
 refine f_enter 46 Try.func53 rfl rfl (Nat.le_of_ble_eq_true rfl) fun a Z => ?_
 replace Z := Z.sub (ts := [0, 1]) rfl
 refine wp_seq (f_region Z ?_); clear Z; intro Z
 refine s_runk tMv Z 2 rfl rfl ?_; clear Z a; intro a Z
 refine s_end Z [0, 1, 4, 5] rfl ?_; clear Z; intro Z
 refine p_then (wp_seq (f_region Z ?_)); clear Z; intro Z
 refine s_runk tMv Z 1 rfl rfl ?_; clear Z a; intro a Z
 refine s_end Z [0, 1, 4, 5, 6] rfl ?_; clear Z; intro Z
 refine p_then (wp_seq ?_)
 refine wp_seq ?_
 obtain ⟨n0, hx1, hF⟩ := bnd_in hF
 refine f_region Z ?_; clear Z; intro Z
 refine s_runk tMv Z 1 rfl rfl ?_; clear Z a; intro a Z
 refine h_call Z H (js := []) rfl (caps := #[]) fn_78_YMv rfl rfl rfl rfl rfl (by decide) rfl rfl (fun D1 hS => have hq := c_tree_Tree_api_Cell_none_nil hx1 hS; hq) ?_; clear Z a; intro vv a w1 D2 hr hF2 Z
 obtain ⟨rfl, I1, K⟩ := hr
 have H : Hf I D w I1 w1 [] := hF2 K
 clear hF2 K
 refine s_end Z [0, 1, 4, 5, 6, 9] rfl ?_; clear Z; intro Z
 refine p_then ?_
 refine f_cond Z rfl (fun hc1 => ?_) (fun hc1 => ?_)
 ·replace hF := ite_t hc1 hF
  refine wp_seq (f_region Z ?_); clear Z; intro Z
  refine s_runk tMv Z 3 rfl rfl ?_; clear Z a; intro a Z
  refine s_end Z [0, 1, 4, 5, 6] rfl ?_; clear Z; intro Z
  refine p_then (wp_ret ?_)
  refine p_then_r ?_
  replace H : Hf I D w I1 w1 [SlC NECell (.slice none 0 0) ([] : List ECell)] := H.slNil NECell
  obtain rfl := some_in hF
  exact f_ret Z (run_results2 rfl Z rfl rfl) ⟨.slice none 0 0, rfl, I1, (H.sub [(0, true)] rfl).eq rfl⟩
 ·replace hF := ite_f hc1 hF
  refine wp_skip ?_
  refine p_then (wp_seq ?_)
  cases hF

def F_tree_Tree_api_Cell_Put_nil (k : ByteArray) (v : List ECell) : Option Bool := (F_tree_Tree_api_Cell_none_nil).bind fun n0 => (if (n0) = true then (some false) else (none))

set_option maxHeartbeats 1000000 in
theorem c_tree_Tree_api_Cell_Put_nil {I D : Dm} {k : ByteArray} {v : List ECell} {v1_v : Value} {w : World} {rr : Bool} (hF : F_tree_Tree_api_Cell_Put_nil k v = some rr) (H : St I D w [SlC NECell v1_v v]) :
  Calls Try.prog 73 #[.pointer none, .string k, v1_v] w (Ret fun vv w' => vv = .bool rr ∧ ∃ I', Hf I D w I' w' []) := by
 replace H := H.hf
 unfold F_tree_Tree_api_Cell_Put_nil at hF
 refine f_enter 33 Try.func73 rfl rfl (Nat.le_of_ble_eq_true rfl) fun a Z => ?_
 replace Z := Z.sub (ts := [0, 1, 2]) rfl
 refine wp_seq (f_region Z ?_); clear Z; intro Z
 refine s_runk tMv Z 1 rfl rfl ?_; clear Z a; intro a Z
 refine s_end Z [0, 1, 2, 6] rfl ?_; clear Z; intro Z
 refine p_then (wp_seq ?_)
 refine wp_seq ?_
 obtain ⟨n0, hx1, hF⟩ := bnd_in hF
 refine f_region Z ?_; clear Z; intro Z
 refine s_runk tMv Z 1 rfl rfl ?_; clear Z a; intro a Z
 refine h_call Z H (js := []) rfl (caps := #[]) fn_78_YMv rfl rfl rfl rfl rfl (by decide) rfl rfl (fun D1 hS => have hq := c_tree_Tree_api_Cell_none_nil hx1 hS; hq) ?_; clear Z a; intro vv a w1 D2 hr hF2 Z
 obtain ⟨rfl, I1, K⟩ := hr
 have H : Hf I D w I1 w1 [SlC NECell v1_v v] := hF2 K
 clear hF2 K
 refine s_end Z [0, 1, 2, 6, 9] rfl ?_; clear Z; intro Z
 refine p_then ?_
 refine f_cond Z rfl (fun hc1 => ?_) (fun hc1 => ?_)
 ·replace hF := ite_t hc1 hF
  refine wp_seq (f_region Z ?_); clear Z; intro Z
  refine s_runk tMv Z 1 rfl rfl ?_; clear Z a; intro a Z
  refine s_end Z [0, 1, 2, 6] rfl ?_; clear Z; intro Z
  refine p_then (wp_ret ?_)
  refine p_then_r ?_
  obtain rfl := some_in hF
  exact f_ret Z (run_results1 rfl Z rfl) ⟨rfl, I1, (H.sub [] rfl).eq rfl⟩
 ·replace hF := ite_f hc1 hF
  refine wp_skip ?_
  refine p_then (wp_seq (f_region Z ?_)); clear Z; intro Z
  refine s_runk tMv Z 1 rfl rfl ?_; clear Z a; intro a Z
  refine s_end Z [0, 1, 2, 6, 7] rfl ?_; clear Z; intro Z
  refine p_then (wp_seq ?_)
  refine wp_seq ?_
  cases hF

def F_mvcc_Store_Put_l1 (ts : Int) (l : List EOp) (rc : (Int × Emvcc_Store) → Option (Int × Emvcc_Store)) (sg : Int × Emvcc_Store) : Option (Int × Emvcc_Store) := match sg with | (x, s0_2) => if (decide (x < (l.length : Int))) = true then (chk ((0 : Int) ≤ x ∧ x < (l.length : Int)) (optE s0_2.t ((F_tree_Tree_api_Cell_Get_nil ((l.getD (x).toNat default).key)).bind fun n0_2 => ((F_vers_Put n0_2.1 ({ ts := ts, val := (l.getD (x).toNat default).val, del := (l.getD (x).toNat default).del } : ECell)).bind fun p => ((F_tree_Tree_api_Cell_Put_nil ((l.getD (x).toNat default).key) p.1).bind fun n0_3 => (chk (inI (s0_2.n + 1)) (chk (inI (x + 1)) (rc (x + 1, ({ s0_2 with t := none, n := s0_2.n + 1 } : Emvcc_Store)))))))) (fun x_2 => (F_tree_Tree_api_Cell_Get x_2 ((l.getD (x).toNat default).key)).bind fun g => ((F_vers_Put g.1 ({ ts := ts, val := (l.getD (x).toNat default).val, del := (l.getD (x).toNat default).del } : ECell)).bind fun p_2 => ((F_tree_Tree_api_Cell_Put x_2 ((l.getD (x).toNat default).key) p_2.1).bind fun p_3 => (chk (inI (s0_2.n + 1)) (chk (inI (x + 1)) (rc (x + 1, ({ s0_2 with t := some p_3.2, n := s0_2.n + 1 } : Emvcc_Store)))))))))) else (some (0, ({ s0_2 with last := ts } : Emvcc_Store)))

def F_mvcc_Store_Put (s0 : Emvcc_Store) (ts : Int) (l : List EOp) : Option (Int × Emvcc_Store) := (F_mvcc_Store_none s0).bind fun n0 => (if (n0) = true then (some (8, s0)) else (if (ts == 0) = true then (some (5, s0)) else (if (decide (ts ≤ s0.last)) = true then (some (18, s0)) else ((F_ops_Check ({ client := 0, req := 1, ops := l } : EBatch)).bind fun c => (if (c != 0) = true then (some (c, s0)) else (iter (F_mvcc_Store_Put_l1 ts l) FU (0, s0)))))))

set_option maxHeartbeats 1000000 in
theorem c_mvcc_Store_Put {I D : Dm} {b_s0 : Nat} {s0 : Emvcc_Store} {ts : Int} {l : List EOp} {v1_l : Value} {w : World} {rr : Int × Emvcc_Store} (hF : F_mvcc_Store_Put s0 ts l = some rr) (H : St I D w [OEmvcc_Store b_s0 s0, SlC NEOp v1_l l]) :
  Calls Try.prog 41 #[.pointer (some ⟨b_s0, 0, none⟩), .int .u64 ts, v1_l] w (Ret fun vv w' => vv = .int .i64 rr.1 ∧ ∃ I', Hf I D w I' w' [OEmvcc_Store b_s0 rr.2]) := by
 replace H := H.hf
 unfold F_mvcc_Store_Put at hF
 refine f_enter 80 Try.func41 rfl rfl (Nat.le_of_ble_eq_true rfl) fun a Z => ?_
 replace Z := Z.sub (ts := [0, 1, 2]) rfl
 refine wp_seq (f_region Z ?_); clear Z; intro Z
 refine s_runk tMv Z 1 rfl rfl ?_; clear Z a; intro a Z
 refine s_end Z [0, 1, 2, 6] rfl ?_; clear Z; intro Z
 refine p_then (wp_seq ?_)
 refine wp_block ?_
 refine wp_seq ?_
 obtain ⟨n0, hx1, hF⟩ := bnd_in hF
 refine f_region Z ?_; clear Z; intro Z
 refine s_runk tMv Z 1 rfl rfl ?_; clear Z a; intro a Z
 refine h_call Z H (js := [(0, false)]) rfl (caps := #[]) fn_45_YMv rfl rfl rfl rfl rfl (by decide) rfl rfl (fun D1 hS => have hq := c_mvcc_Store_none hx1 hS; hq) ?_; clear Z a; intro vv a w1 D2 hr hF2 Z
 obtain ⟨rfl, I1, K⟩ := hr
 have H : Hf I D w I1 w1 [OEmvcc_Store b_s0 s0, SlC NEOp v1_l l] := hF2 K
 clear hF2 K
 refine s_runk tMv Z 1 rfl rfl ?_; clear Z a; intro a Z
 refine s_end Z [0, 1, 2, 6, 14] rfl ?_; clear Z; intro Z
 refine p_then ?_
 refine f_cond Z rfl (fun hc1 => ?_) (fun hc1 => ?_)
 ·replace hF := ite_t hc1 hF
  refine wp_seq (f_region Z ?_); clear Z; intro Z
  refine s_runk tMv Z 1 rfl rfl ?_; clear Z a; intro a Z
  refine s_end Z [0, 1, 2, 6] rfl ?_; clear Z; intro Z
  refine p_then (wp_ret ?_)
  refine p_blk_r ?_
  refine p_then_r ?_
  obtain rfl := some_in hF
  exact f_ret Z (run_results1 rfl Z rfl) ⟨rfl, I1, (H.sub [(0, false)] rfl).eq rfl⟩
 ·replace hF := ite_f hc1 hF
  refine wp_seq (f_region Z ?_); clear Z; intro Z
  refine s_runk tMv Z 3 rfl rfl ?_; clear Z a; intro a Z
  refine s_end Z [0, 1, 2, 6, 17] rfl ?_; clear Z; intro Z
  refine p_then ?_
  refine f_cond Z rfl (fun hc2 => ?_) (fun hc2 => ?_)
  ·replace hF := ite_t hc2 hF
   refine wp_seq (f_region Z ?_); clear Z; intro Z
   refine s_runk tMv Z 1 rfl rfl ?_; clear Z a; intro a Z
   refine s_end Z [0, 1, 2, 6] rfl ?_; clear Z; intro Z
   refine p_then (wp_ret ?_)
   refine p_blk_r ?_
   refine p_then_r ?_
   obtain rfl := some_in hF
   exact f_ret Z (run_results1 rfl Z rfl) ⟨rfl, I1, (H.sub [(0, false)] rfl).eq rfl⟩
  ·replace hF := ite_f hc2 hF
   refine wp_seq (f_region Z ?_); clear Z; intro Z
   refine s_runk tMv Z 4 rfl rfl ?_; clear Z a; intro a Z
   obtain ⟨v2, H⟩ := H.openX 0 rfl
   replace H : Hf I D w I1 w1 [BxC b_s0 88 [v2, .int .u64 s0.last, .int .i64 s0.n], PtC OEtree_Tree_api_Cell v2 s0.t, SlC NEOp v1_l l] := H
   refine s_ob Z (v := .int .u64 s0.last) rfl rfl (by decide) rfl (Ob_load tMv rfl rfl rfl ((H.bx 0 rfl).cell 1 rfl)) ?_; clear Z a; intro a Z
   refine s_runk tMv Z 2 rfl rfl ?_; clear Z a; intro a Z
   refine s_end Z [0, 1, 2, 6, 20] rfl ?_; clear Z; intro Z
   refine p_then ?_
   refine f_cond Z rfl (fun hc3 => ?_) (fun hc3 => ?_)
   ·replace hF := ite_t hc3 hF
    refine wp_seq (f_region Z ?_); clear Z; intro Z
    refine s_runk tMv Z 1 rfl rfl ?_; clear Z a; intro a Z
    refine s_end Z [0, 1, 2, 6] rfl ?_; clear Z; intro Z
    refine p_then (wp_ret ?_)
    refine p_blk_r ?_
    refine p_then_r ?_
    replace H : Hf I D w I1 w1 [OEmvcc_Store b_s0 s0, SlC NEOp v1_l l] := H.shutX (v2) [(0, false), (0, false)] rfl
    obtain rfl := some_in hF
    exact f_ret Z (run_results1 rfl Z rfl) ⟨rfl, I1, (H.sub [(0, false)] rfl).eq rfl⟩
   ·replace hF := ite_f hc3 hF
    refine wp_skip ?_
    refine p_blk ?_
    refine p_then (wp_seq ?_)
    refine wp_seq ?_
    obtain ⟨c, hx2, hF⟩ := bnd_in hF
    refine f_region Z ?_; clear Z; intro Z
    refine s_runk tMv Z 1 rfl rfl ?_; clear Z a; intro a Z
    refine s_ob Z (v := .agg #[.int .i64 0, .int .i64 1, v1_l]) rfl rfl (by decide) rfl (Ob_build (vs := [(1, .int .i64 1), (2, v1_l)]) rfl rfl (by obtain ⟨_, _, e, _⟩ := (H.slshape 2 rfl); rw [e]; clear e; go_simp <;> rfl)) ?_; clear Z a; intro a Z
    refine h_call Z H (js := [(2, true)]) rfl (caps := #[]) fn_71_YMv rfl rfl rfl rfl rfl (by decide) rfl rfl (fun D1 hS => have hq := c_ops_Check hx2 hS; hq) ?_; clear Z a; intro vv a w2 D2 hr hF2 Z
    obtain ⟨rfl, I2, K⟩ := hr
    have H : Hf I D w I2 w2 [BxC b_s0 88 [v2, .int .u64 s0.last, .int .i64 s0.n], PtC OEtree_Tree_api_Cell v2 s0.t, SlC NEOp v1_l l] := hF2 K
    clear hF2 K
    refine s_runk tMv Z 1 rfl rfl ?_; clear Z a; intro a Z
    refine s_end Z [0, 1, 2, 6, 7] rfl ?_; clear Z; intro Z
    refine p_then (wp_seq (f_region Z ?_)); clear Z; intro Z
    refine s_runk tMv Z 2 rfl rfl ?_; clear Z a; intro a Z
    refine s_end Z [0, 1, 2, 6, 7, 31] rfl ?_; clear Z; intro Z
    refine p_then ?_
    refine f_cond Z rfl (fun hc4 => ?_) (fun hc4 => ?_)
    ·replace hF := ite_t hc4 hF
     refine wp_seq (f_region Z ?_); clear Z; intro Z
     refine s_runk tMv Z 2 rfl rfl ?_; clear Z a; intro a Z
     refine s_end Z [0, 1, 2, 6] rfl ?_; clear Z; intro Z
     refine p_then (wp_ret ?_)
     refine p_then_r ?_
     replace H : Hf I D w I2 w2 [OEmvcc_Store b_s0 s0, SlC NEOp v1_l l] := H.shutX (v2) [(0, false), (0, false)] rfl
     obtain rfl := some_in hF
     exact f_ret Z (run_results1 rfl Z rfl) ⟨rfl, I2, (H.sub [(0, false)] rfl).eq rfl⟩
    ·replace hF := ite_f hc4 hF
     refine wp_skip ?_
     refine p_then (wp_seq ?_)
     refine wp_seq (f_region Z ?_); clear Z; intro Z
     refine s_runk tMv Z 1 rfl rfl ?_; clear Z a; intro a Z
     refine s_ob Z (v := .int .i64 (l.length : Int)) rfl rfl (by decide) rfl (Ob_slen tMv rfl rfl rfl (H.slshape 2 rfl)) ?_; clear Z a; intro a Z
     refine s_runk tMv Z 1 rfl rfl ?_; clear Z a; intro a Z
     refine s_end Z [0, 1, 6, 33, 34, 35] rfl ?_; clear Z; intro Z
     refine p_then (wp_block ?_)
     replace H : Hf I D w I2 w2 [OEmvcc_Store b_s0 s0, SlC NEOp v1_l l] := H.shutX (v2) [(0, false), (0, false)] rfl
     refine f_iter hF (fun sg a' w' => match sg with | (x, s0_2) => Sl 80 [(0, .pointer (some ⟨b_s0, 0, none⟩)), (1, .int .u64 ts), (6, .int .i64 0), (33, v1_l), (34, .int .i64 (l.length : Int)), (35, .int .i64 x)] a' ∧ ∃ I2, Hf I D w I2 w' [OEmvcc_Store b_s0 s0_2, SlC NEOp v1_l l]) ⟨Z.sub (ts := [0, 1, 6, 33, 34, 35]) rfl, ⟨I2, (H.sub [(0, false), (0, true)] rfl).eq rfl⟩⟩ ?_
     clear Z H hF a
     rintro rc ⟨x, s0_2⟩ a w3 ⟨Z, I3, H⟩ hF
     unfold F_mvcc_Store_Put_l1 at hF
     try dsimp only at hF
     refine wp_seq (f_region Z ?_); clear Z; intro Z
     refine s_runk tMv Z 1 rfl rfl ?_; clear Z a; intro a Z
     refine s_end Z [0, 1, 6, 33, 34, 35, 36] rfl ?_; clear Z; intro Z
     refine p_then (wp_seq ?_)
     refine f_cond Z rfl (fun hc5 => ?_) (fun hc5 => ?_)
     ·replace hF := ite_t hc5 hF
      refine wp_skip ?_
      refine p_then (wp_seq ?_)
      refine wp_block ?_
      refine wp_seq ?_
      obtain ⟨hg1, hF⟩ := chk_in hF
      refine f_region Z ?_; clear Z; intro Z
      refine s_ob Z (v := .pointer (some ⟨blkOf v1_l, oofOf v1_l + (x).toNat * 3, none⟩)) rfl rfl (by decide) rfl (Ob_sidx tMv rfl rfl rfl rfl (slPl (H.sl 1 rfl) hg1) hg1) ?_; clear Z a; intro a Z
      refine s_ob Z (v := .agg #[.string ((l.getD (x).toNat default).key), .string ((l.getD (x).toNat default).val), .bool ((l.getD (x).toNat default).del)]) rfl rfl (by decide) rfl (Ob_loads tMv rfl rfl rfl ((slFl (H.sl 1 rfl) hg1).part 0 rfl)) ?_; clear Z a; intro a Z
      refine h_alloc Z H (cl := [.string ByteArray.empty, .string ByteArray.empty, .bool false]) (z := .agg #[.string ByteArray.empty, .string ByteArray.empty, .bool false]) rfl rfl rfl (by decide) rfl (by kernel_rfl) rfl ?_; clear Z a H; intro a w4 b1 H Z
      refine h_store tMv Z H 0 rfl rfl rfl rfl rfl rfl rfl rfl rfl (one_cons rfl (one_cons rfl (one_cons rfl one_nil))) (Nat.le_of_ble_eq_true rfl) rfl ?_; clear H; intro w5 H
      dsimp only [List.eraseIdx] at H
      refine s_end Z [0, 1, 6, 33, 34, 35, 36, 37, 38, 9] rfl ?_; clear Z; intro Z
      refine p_then (wp_seq ?_)
      obtain ⟨v3, H⟩ := H.openX 1 rfl
      replace H : Hf I D w I3 w5 [BxC b_s0 88 [v3, .int .u64 s0_2.last, .int .i64 s0_2.n], PtC OEtree_Tree_api_Cell v3 s0_2.t, BxC b1 74 [.string ((l.getD (x).toNat default).key), .string ((l.getD (x).toNat default).val), .bool ((l.getD (x).toNat default).del)], SlC NEOp v1_l l] := H
      rcases optE_in hF with ⟨ho1, hF⟩ | ⟨x_2, ho1, hF⟩
      ·obtain ⟨hv, H⟩ := H.optN 1 rfl ho1
       subst hv
       replace H : Hf I D w I3 w5 [BxC b_s0 88 [.pointer none, .int .u64 s0_2.last, .int .i64 s0_2.n], BxC b1 74 [.string ((l.getD (x).toNat default).key), .string ((l.getD (x).toNat default).val), .bool ((l.getD (x).toNat default).del)], SlC NEOp v1_l l] := H
       obtain ⟨n0_2, hx3, hF⟩ := bnd_in hF
       refine f_regionM Z (by kernel_rfl) (by kernel_rfl) (by decide) (by decide) [6] [(0, 0, 0), (1, 0, 0), (3, 0, 0), (7, 0, 0), (0, 0, 0), (16, 0, 0), (63, 0, 0), (127, 1, 1), (255, 1, 1), (255, 1, 1), (511, 1, 1), (2047, 1, 1)] (by kernel_rfl) (fun jj => match jj with | 7 => 6 | 8 => 6 | 10 => 6 | _ => jj) (by kernel_rfl) (fun jj rv vv => match jj with | 0 => vv = .pointer (some ⟨b_s0, 0, none⟩) | 1 => vv = .pointer (some ⟨b_s0, 0, none⟩) | 2 => vv = .pointer (some ⟨b_s0, 0, none⟩) | 3 => vv = .pointer none | 4 => vv = .pointer (some ⟨b1, 0, none⟩) | 5 => vv = .string ((l.getD (x).toNat default).key) | 6 => vv = .tuple #[(tupAt vv 0), .bool n0_2.2] | 7 => vv = .tuple #[(tupAt rv 0), .bool n0_2.2] | 8 => vv = (tupAt rv 0) | 9 => vv = .bool n0_2.2 | 10 => vv = (tupAt rv 0) | 11 => vv = .bool n0_2.2 | _ => True) (fun ss vals1 xw => match ss with | 0 => Gx I D w I3 w5 xw [BxC b_s0 88 [.pointer none, .int .u64 s0_2.last, .int .i64 s0_2.n], BxC b1 74 [.string ((l.getD (x).toNat default).key), .string ((l.getD (x).toNat default).val), .bool ((l.getD (x).toNat default).del)], SlC NEOp v1_l l] | _ => Gx I D w I3 w5 xw [SlC NECell (tupAt (vals1 6) 0) n0_2.1, BxC b_s0 88 [.pointer none, .int .u64 s0_2.last, .int .i64 s0_2.n], BxC b1 74 [.string ((l.getD (x).toNat default).key), .string ((l.getD (x).toNat default).val), .bool ((l.getD (x).toNat default).del)], SlC NEOp v1_l l]) (fun _ => Gx.start H) ?_ ?_
       ·intro fr hfr hfe
        refine .cons (fun ss hlo hhi vals1 xw hG hV => ?_) ?_
        ·obtain rfl : ss = 0 := Nat.le_antisymm hhi hlo
         rw [← hfe]
         have hS := (hfr vals1).sub (ts := [0]) (S' := [(0, .pointer (some ⟨b_s0, 0, none⟩))]) rfl
         exact L_val hS rfl (Ob_c tMv rfl) ⟨rfl, hG⟩
        refine .cons (fun ss hlo hhi vals1 xw hG hV => ?_) ?_
        ·obtain rfl : ss = 0 := Nat.le_antisymm hhi hlo
         rw [← hfe]
         have hS := (hfr vals1).sub (ts := [40]) (S' := [(40, vals1 0)]) rfl
         replace hS := hS.conv (t := 40) rfl (show (vals1 0) = .pointer (some ⟨b_s0, 0, none⟩) from hV 0 (by decide))
         exact L_val hS rfl (Ob_c tMv rfl) ⟨rfl, hG⟩
        refine .cons (fun ss hlo hhi vals1 xw hG hV => ?_) ?_
        ·obtain rfl : ss = 0 := Nat.le_antisymm hhi hlo
         rw [← hfe]
         have hS := (hfr vals1).sub (ts := [41]) (S' := [(41, vals1 1)]) rfl
         replace hS := hS.conv (t := 41) rfl (show (vals1 1) = .pointer (some ⟨b_s0, 0, none⟩) from hV 1 (by decide))
         exact L_val hS rfl (Ob_c tMv rfl) ⟨rfl, hG⟩
        refine .cons (fun ss hlo hhi vals1 xw hG hV => ?_) ?_
        ·obtain rfl : ss = 0 := Nat.le_antisymm hhi hlo
         rw [← hfe]
         have hS := (hfr vals1).sub (ts := [42]) (S' := [(42, vals1 2)]) rfl
         replace hS := hS.conv (t := 42) rfl (show (vals1 2) = .pointer (some ⟨b_s0, 0, none⟩) from hV 2 (by decide))
         obtain ⟨I2, hI2, H⟩ := Gx.ex hG
         exact L_val hS rfl (Ob_load tMv rfl rfl rfl ((H.bx 0 rfl).cell 0 rfl)) ⟨rfl, hG⟩
        refine .cons (fun ss hlo hhi vals1 xw hG hV => ?_) ?_
        ·obtain rfl : ss = 0 := Nat.le_antisymm hhi hlo
         rw [← hfe]
         have hS := (hfr vals1).sub (ts := [9]) (S' := [(9, .pointer (some ⟨b1, 0, none⟩))]) rfl
         exact L_val hS rfl (Ob_c tMv rfl) ⟨rfl, hG⟩
        refine .cons (fun ss hlo hhi vals1 xw hG hV => ?_) ?_
        ·obtain rfl : ss = 0 := Nat.le_antisymm hhi hlo
         rw [← hfe]
         have hS := (hfr vals1).sub (ts := [44]) (S' := [(44, vals1 4)]) rfl
         replace hS := hS.conv (t := 44) rfl (show (vals1 4) = .pointer (some ⟨b1, 0, none⟩) from hV 4 (by decide))
         obtain ⟨I2, hI2, H⟩ := Gx.ex hG
         exact L_val hS rfl (Ob_load tMv rfl rfl rfl ((H.bx 1 rfl).cell 0 rfl)) ⟨rfl, hG⟩
        refine .cons (fun ss hlo hhi vals1 xw hG hV => ?_) ?_
        ·obtain rfl : ss = 0 := Nat.le_antisymm hhi hlo
         rw [← hfe]
         have hS := (hfr vals1).sub (ts := [43, 45]) (S' := [(43, vals1 3), (45, vals1 5)]) rfl
         replace hS := hS.conv (t := 43) rfl (show (vals1 3) = .pointer none from hV 3 (by decide))
         replace hS := hS.conv (t := 45) rfl (show (vals1 5) = .string ((l.getD (x).toNat default).key) from hV 5 (by decide))
         obtain ⟨I2, hI2, H⟩ := Gx.ex hG
         refine L_hcall H (js := []) rfl (caps := #[]) hS fn_53_YMv rfl rfl rfl rfl rfl (fun D1 hS => have hq := c_tree_Tree_api_Cell_Get_nil hx3 hS; hq) fun _ yw D1 hr hF2 => ?_
         obtain ⟨q0_, rfl, I3, K⟩ := hr
         obtain ⟨hK, H2⟩ := hF2 K
         exact ⟨rfl, Gx.go hG hI2 hK K.imm H2⟩
        refine .cons (fun ss hlo hhi vals1 xw hG hV => ?_) ?_
        ·obtain rfl : ss = 1 := Nat.le_antisymm hhi hlo
         rw [← hfe]
         have hS := (hfr vals1).sub (ts := [46]) (S' := [(46, vals1 6)]) rfl
         replace hS := hS.conv (t := 46) rfl (show (vals1 6) = .tuple #[(tupAt (vals1 6) 0), .bool n0_2.2] from hV 6 (by decide))
         exact L_val hS rfl (Ob_c tMv rfl) ⟨rfl, hG⟩
        refine .cons (fun ss hlo hhi vals1 xw hG hV => ?_) ?_
        ·obtain rfl : ss = 1 := Nat.le_antisymm hhi hlo
         rw [← hfe]
         have hS := (hfr vals1).sub (ts := [39]) (S' := [(39, vals1 7)]) rfl
         replace hS := hS.conv (t := 39) rfl (show (vals1 7) = .tuple #[(tupAt (vals1 6) 0), .bool n0_2.2] from hV 7 (by decide))
         exact L_val hS rfl (Ob_c tMv rfl) ⟨rfl, hG⟩
        refine .cons (fun ss hlo hhi vals1 xw hG hV => ?_) ?_
        ·obtain rfl : ss = 1 := Nat.le_antisymm hhi hlo
         rw [← hfe]
         have hS := (hfr vals1).sub (ts := [39]) (S' := [(39, vals1 7)]) rfl
         replace hS := hS.conv (t := 39) rfl (show (vals1 7) = .tuple #[(tupAt (vals1 6) 0), .bool n0_2.2] from hV 7 (by decide))
         exact L_val hS rfl (Ob_c tMv rfl) ⟨rfl, hG⟩
        refine .cons (fun ss hlo hhi vals1 xw hG hV => ?_) ?_
        ·obtain rfl : ss = 1 := Nat.le_antisymm hhi hlo
         rw [← hfe]
         have hS := (hfr vals1).sub (ts := [47]) (S' := [(47, vals1 8)]) rfl
         replace hS := hS.conv (t := 47) rfl (show (vals1 8) = (tupAt (vals1 6) 0) from hV 8 (by decide))
         exact L_val hS rfl (Ob_c tMv rfl) ⟨rfl, hG⟩
        refine .cons (fun ss hlo hhi vals1 xw hG hV => ?_) ?_
        ·obtain rfl : ss = 1 := Nat.le_antisymm hhi hlo
         rw [← hfe]
         have hS := (hfr vals1).sub (ts := [48]) (S' := [(48, vals1 9)]) rfl
         replace hS := hS.conv (t := 48) rfl (show (vals1 9) = .bool n0_2.2 from hV 9 (by decide))
         exact L_val hS rfl (Ob_c tMv rfl) ⟨rfl, hG⟩
        exact .nil
       ·intro vals1 a w6 Z hG hV
        replace Z := Z.sub (ts := [0, 1, 6, 33, 34, 35, 36, 37, 38, 9, 40, 41, 42, 43, 44, 45, 46, 39, 47, 48, 10]) (S' := [(0, .pointer (some ⟨b_s0, 0, none⟩)), (1, .int .u64 ts), (6, .int .i64 0), (33, v1_l), (34, .int .i64 (l.length : Int)), (35, .int .i64 x), (36, .bool (decide (x < (l.length : Int)))), (37, .pointer (some ⟨blkOf v1_l, oofOf v1_l + (x).toNat * 3, none⟩)), (38, .agg #[.string ((l.getD (x).toNat default).key), .string ((l.getD (x).toNat default).val), .bool ((l.getD (x).toNat default).del)]), (9, .pointer (some ⟨b1, 0, none⟩)), (40, vals1 0), (41, vals1 1), (42, vals1 2), (43, vals1 3), (44, vals1 4), (45, vals1 5), (46, vals1 6), (39, vals1 7), (47, vals1 8), (48, vals1 9), (10, vals1 10)]) rfl
        replace Z := Z.conv (t := 40) rfl (show (vals1 0) = .pointer (some ⟨b_s0, 0, none⟩) from hV 0 (by decide))
        replace Z := Z.conv (t := 41) rfl (show (vals1 1) = .pointer (some ⟨b_s0, 0, none⟩) from hV 1 (by decide))
        replace Z := Z.conv (t := 42) rfl (show (vals1 2) = .pointer (some ⟨b_s0, 0, none⟩) from hV 2 (by decide))
        replace Z := Z.conv (t := 43) rfl (show (vals1 3) = .pointer none from hV 3 (by decide))
        replace Z := Z.conv (t := 44) rfl (show (vals1 4) = .pointer (some ⟨b1, 0, none⟩) from hV 4 (by decide))
        replace Z := Z.conv (t := 45) rfl (show (vals1 5) = .string ((l.getD (x).toNat default).key) from hV 5 (by decide))
        replace Z := Z.conv (t := 46) rfl (show (vals1 6) = .tuple #[(tupAt (vals1 6) 0), .bool n0_2.2] from hV 6 (by decide))
        replace Z := Z.conv (t := 39) rfl (show (vals1 7) = .tuple #[(tupAt (vals1 6) 0), .bool n0_2.2] from hV 7 (by decide))
        replace Z := Z.conv (t := 47) rfl (show (vals1 8) = (tupAt (vals1 6) 0) from hV 8 (by decide))
        replace Z := Z.conv (t := 48) rfl (show (vals1 9) = .bool n0_2.2 from hV 9 (by decide))
        replace Z := Z.conv (t := 10) rfl (show (vals1 10) = (tupAt (vals1 6) 0) from hV 10 (by decide))
        obtain ⟨I4, _, H⟩ := Gx.ex hG
        clear hG hV
        replace Z := Z.sub (ts := [0, 1, 6, 33, 34, 35, 36, 37, 38, 9, 40, 41, 42, 43, 44, 45, 46, 39, 47, 48, 10]) rfl
        replace H : Hf I D w I4 w6 [SlC NECell (tupAt (vals1 6) 0) n0_2.1, BxC b_s0 88 [.pointer none, .int .u64 s0_2.last, .int .i64 s0_2.n], BxC b1 74 [.string ((l.getD (x).toNat default).key), .string ((l.getD (x).toNat default).val), .bool ((l.getD (x).toNat default).del)], SlC NEOp v1_l l] := H
        refine p_then (wp_seq ?_)
        obtain ⟨p, hx4, hF⟩ := bnd_in hF
        refine f_region Z ?_; clear Z; intro Z
        refine s_runk tMv Z 3 rfl rfl ?_; clear Z a; intro a Z
        refine s_ob Z (v := .string ((l.getD (x).toNat default).val)) rfl rfl (by decide) rfl (Ob_load tMv rfl rfl rfl ((H.bx 2 rfl).cell 1 rfl)) ?_; clear Z a; intro a Z
        refine s_runk tMv Z 1 rfl rfl ?_; clear Z a; intro a Z
        refine s_ob Z (v := .bool ((l.getD (x).toNat default).del)) rfl rfl (by decide) rfl (Ob_load tMv rfl rfl rfl ((H.bx 2 rfl).cell 2 rfl)) ?_; clear Z a; intro a Z
        refine s_ob Z (v := .agg #[.int .u64 ts, .string ((l.getD (x).toNat default).val), .bool ((l.getD (x).toNat default).del)]) rfl rfl (by decide) rfl (Ob_build (vs := [(0, .int .u64 ts), (1, .string ((l.getD (x).toNat default).val)), (2, .bool ((l.getD (x).toNat default).del))]) rfl rfl (by go_simp <;> rfl)) ?_; clear Z a; intro a Z
        refine h_call Z H (js := [(0, true)]) rfl (caps := #[]) fn_72_YMv rfl rfl rfl rfl rfl (by decide) rfl rfl (fun D1 hS => have hq := c_vers_Put hx4 hS; hq) ?_; clear Z a; intro vv a w7 D2 hr hF2 Z
        obtain ⟨q1, rfl, I5, K⟩ := hr
        have H : Hf I D w I5 w7 [SlC NECell q1 p.1, SlC NECell (tupAt (vals1 6) 0) n0_2.1, BxC b_s0 88 [.pointer none, .int .u64 s0_2.last, .int .i64 s0_2.n], BxC b1 74 [.string ((l.getD (x).toNat default).key), .string ((l.getD (x).toNat default).val), .bool ((l.getD (x).toNat default).del)], SlC NEOp v1_l l] := hF2 K
        clear hF2 K
        refine s_runk tMv Z 5 rfl rfl ?_; clear Z a; intro a Z
        refine s_end Z [0, 1, 6, 33, 34, 35, 36, 37, 38, 9, 40, 41, 42, 43, 44, 45, 46, 39, 47, 48, 10, 50, 51, 52, 53, 54, 55, 56, 57, 49, 58, 59, 12] rfl ?_; clear Z; intro Z
        refine p_then (wp_seq ?_)
        obtain ⟨n0_3, hx5, hF⟩ := bnd_in hF
        refine f_quietS 7 (by kernel_rfl) (by kernel_rfl) (by kernel_rfl) (by kernel_rfl) (by kernel_rfl) Z ?_; clear Z; intro Z
        refine q_runk tMv Z 3 rfl rfl ?_; clear Z a; intro a Z
        refine q_ob Z (v := .pointer none) rfl rfl (by decide) rfl (fun _ hw => Ob_load tMv rfl rfl rfl (((H.blw hw).bx 2 rfl).cell 0 rfl)) ?_; clear Z a; intro a Z
        refine q_runk tMv Z 1 rfl rfl ?_; clear Z a; intro a Z
        refine q_ob Z (v := .string ((l.getD (x).toNat default).key)) rfl rfl (by decide) rfl (fun _ hw => Ob_load tMv rfl rfl rfl (((H.blw hw).bx 3 rfl).cell 0 rfl)) ?_; clear Z a; intro a Z
        refine q_runk tMv Z 1 rfl rfl ?_; clear Z a; intro a Z
        refine q_endS Z [0, 1, 6, 33, 34, 35, 36, 37, 38, 9, 40, 41, 42, 43, 44, 45, 46, 39, 47, 48, 10, 50, 51, 52, 53, 54, 55, 56, 57, 49, 58, 59, 12, 60, 61, 62, 63, 64, 65, 66] rfl ?_; clear Z; intro w8 hb Z
        replace H : Hf I D w I5 w8 [SlC NECell q1 p.1, SlC NECell (tupAt (vals1 6) 0) n0_2.1, BxC b_s0 88 [.pointer none, .int .u64 s0_2.last, .int .i64 s0_2.n], BxC b1 74 [.string ((l.getD (x).toNat default).key), .string ((l.getD (x).toNat default).val), .bool ((l.getD (x).toNat default).del)], SlC NEOp v1_l l] := H.blw hb
        clear hb
        refine h_call Z H (js := [(0, true)]) rfl (caps := #[]) fn_73_YMv rfl rfl rfl rfl rfl (by decide) rfl rfl (fun D1 hS => have hq := c_tree_Tree_api_Cell_Put_nil hx5 hS; hq) ?_; clear Z a; intro vv a w9 D2 hr hF2 Z
        obtain ⟨rfl, I6, K⟩ := hr
        have H : Hf I D w I6 w9 [SlC NECell q1 p.1, SlC NECell (tupAt (vals1 6) 0) n0_2.1, BxC b_s0 88 [.pointer none, .int .u64 s0_2.last, .int .i64 s0_2.n], BxC b1 74 [.string ((l.getD (x).toNat default).key), .string ((l.getD (x).toNat default).val), .bool ((l.getD (x).toNat default).del)], SlC NEOp v1_l l] := hF2 K
        clear hF2 K
        refine s_end Z [0, 1, 6, 33, 34, 35, 36, 37, 38, 9, 40, 41, 42, 43, 44, 45, 46, 39, 47, 48, 10, 50, 51, 52, 53, 54, 55, 56, 57, 49, 58, 59, 12, 60, 61, 62, 63, 64, 65, 66] rfl ?_; clear Z; intro Z
        refine p_then ?_
        obtain ⟨hg2, hF⟩ := chk_in hF
        refine f_region Z ?_; clear Z; intro Z
        refine s_runk tMv Z 3 rfl rfl ?_; clear Z a; intro a Z
        refine s_ob Z (v := .int .i64 s0_2.n) rfl rfl (by decide) rfl (Ob_load tMv rfl rfl rfl ((H.bx 2 rfl).cell 2 rfl)) ?_; clear Z a; intro a Z
        refine s_ob Z (v := .int .i64 (s0_2.n + 1)) rfl rfl (by decide) rfl (Ob_add rfl rfl rfl (wrI hg2)) ?_; clear Z a; intro a Z
        refine s_runk tMv Z 2 rfl rfl ?_; clear Z a; intro a Z
        refine h_store tMv Z H 2 rfl rfl rfl rfl rfl rfl rfl rfl rfl (one_cons rfl one_nil) (Nat.le_of_ble_eq_true rfl) rfl ?_; clear H; intro w10 H
        dsimp only [List.eraseIdx] at H
        refine s_end Z [0, 1, 6, 33, 34, 35, 36, 37, 38, 9, 40, 41, 42, 43, 44, 45, 46, 39, 47, 48, 10, 50, 51, 52, 53, 54, 55, 56, 57, 49, 58, 59, 12, 60, 61, 62, 63, 64, 65, 66, 68, 69, 70, 71, 72, 73, 74] rfl ?_; clear Z; intro Z
        refine p_blk ?_
        refine p_then ?_
        obtain ⟨hg3, hF⟩ := chk_in hF
        refine f_region Z ?_; clear Z; intro Z
        refine s_ob Z (v := .int .i64 (x + 1)) rfl rfl (by decide) rfl (Ob_add rfl rfl rfl (wrI hg3)) ?_; clear Z a; intro a Z
        refine s_runk tMv Z 1 rfl rfl ?_; clear Z a; intro a Z
        refine s_end Z [0, 1, 6, 33, 34, 35, 36, 37, 38, 9, 40, 41, 42, 43, 44, 45, 46, 39, 47, 48, 10, 50, 51, 52, 53, 54, 55, 56, 57, 49, 58, 59, 12, 60, 61, 62, 63, 64, 65, 66, 68, 69, 70, 71, 72, 73, 74, 75] rfl ?_; clear Z; intro Z
        refine p_then ?_
        replace H : Hf I D w I6 w10 [PtC OEtree_Tree_api_Cell (.pointer none) none, BxC b_s0 88 [.pointer none, .int .u64 s0_2.last, .int .i64 (s0_2.n + 1)], SlC NECell q1 p.1, SlC NECell (tupAt (vals1 6) 0) n0_2.1, BxC b1 74 [.string ((l.getD (x).toNat default).key), .string ((l.getD (x).toNat default).val), .bool ((l.getD (x).toNat default).del)], SlC NEOp v1_l l] := H.mkN OEtree_Tree_api_Cell
        replace H : Hf I D w I6 w10 [OEmvcc_Store b_s0 ({ s0_2 with t := none, n := s0_2.n + 1 } : Emvcc_Store), SlC NECell q1 p.1, SlC NECell (tupAt (vals1 6) 0) n0_2.1, BxC b1 74 [.string ((l.getD (x).toNat default).key), .string ((l.getD (x).toNat default).val), .bool ((l.getD (x).toNat default).del)], SlC NEOp v1_l l] := H.shutX (.pointer none) [(1, false), (0, false)] rfl
        exact ⟨(x + 1, ({ s0_2 with t := none, n := s0_2.n + 1 } : Emvcc_Store)), ⟨Z.sub (ts := [0, 1, 6, 33, 34, 35]) rfl, ⟨I6, (H.sub [(0, false), (3, true)] rfl).eq rfl⟩⟩, hF⟩
      ·obtain ⟨b2, hv, H⟩ := H.optS 1 rfl ho1
       subst hv
       replace H : Hf I D w I3 w5 [OEtree_Tree_api_Cell b2 x_2, BxC b_s0 88 [.pointer (some ⟨b2, 0, none⟩), .int .u64 s0_2.last, .int .i64 s0_2.n], BxC b1 74 [.string ((l.getD (x).toNat default).key), .string ((l.getD (x).toNat default).val), .bool ((l.getD (x).toNat default).del)], SlC NEOp v1_l l] := H
       obtain ⟨g, hx6, hF⟩ := bnd_in hF
       refine f_regionM Z (by kernel_rfl) (by kernel_rfl) (by decide) (by decide) [6] [(0, 0, 0), (1, 0, 0), (3, 0, 0), (7, 0, 0), (0, 0, 0), (16, 0, 0), (63, 0, 0), (127, 1, 1), (255, 1, 1), (255, 1, 1), (511, 1, 1), (2047, 1, 1)] (by kernel_rfl) (fun jj => match jj with | 7 => 6 | 8 => 6 | 10 => 6 | _ => jj) (by kernel_rfl) (fun jj rv vv => match jj with | 0 => vv = .pointer (some ⟨b_s0, 0, none⟩) | 1 => vv = .pointer (some ⟨b_s0, 0, none⟩) | 2 => vv = .pointer (some ⟨b_s0, 0, none⟩) | 3 => vv = .pointer (some ⟨b2, 0, none⟩) | 4 => vv = .pointer (some ⟨b1, 0, none⟩) | 5 => vv = .string ((l.getD (x).toNat default).key) | 6 => vv = .tuple #[(tupAt vv 0), .bool g.2] | 7 => vv = .tuple #[(tupAt rv 0), .bool g.2] | 8 => vv = (tupAt rv 0) | 9 => vv = .bool g.2 | 10 => vv = (tupAt rv 0) | 11 => vv = .bool g.2 | _ => True) (fun ss vals2 xw => match ss with | 0 => Gx I D w I3 w5 xw [OEtree_Tree_api_Cell b2 x_2, BxC b_s0 88 [.pointer (some ⟨b2, 0, none⟩), .int .u64 s0_2.last, .int .i64 s0_2.n], BxC b1 74 [.string ((l.getD (x).toNat default).key), .string ((l.getD (x).toNat default).val), .bool ((l.getD (x).toNat default).del)], SlC NEOp v1_l l] | _ => Gx I D w I3 w5 xw [OEtree_Tree_api_Cell b2 x_2, SlC NECell (tupAt (vals2 6) 0) g.1, BxC b_s0 88 [.pointer (some ⟨b2, 0, none⟩), .int .u64 s0_2.last, .int .i64 s0_2.n], BxC b1 74 [.string ((l.getD (x).toNat default).key), .string ((l.getD (x).toNat default).val), .bool ((l.getD (x).toNat default).del)], SlC NEOp v1_l l]) (fun _ => Gx.start H) ?_ ?_
       ·intro fr hfr hfe
        refine .cons (fun ss hlo hhi vals2 xw hG hV => ?_) ?_
        ·obtain rfl : ss = 0 := Nat.le_antisymm hhi hlo
         rw [← hfe]
         have hS := (hfr vals2).sub (ts := [0]) (S' := [(0, .pointer (some ⟨b_s0, 0, none⟩))]) rfl
         exact L_val hS rfl (Ob_c tMv rfl) ⟨rfl, hG⟩
        refine .cons (fun ss hlo hhi vals2 xw hG hV => ?_) ?_
        ·obtain rfl : ss = 0 := Nat.le_antisymm hhi hlo
         rw [← hfe]
         have hS := (hfr vals2).sub (ts := [40]) (S' := [(40, vals2 0)]) rfl
         replace hS := hS.conv (t := 40) rfl (show (vals2 0) = .pointer (some ⟨b_s0, 0, none⟩) from hV 0 (by decide))
         exact L_val hS rfl (Ob_c tMv rfl) ⟨rfl, hG⟩
        refine .cons (fun ss hlo hhi vals2 xw hG hV => ?_) ?_
        ·obtain rfl : ss = 0 := Nat.le_antisymm hhi hlo
         rw [← hfe]
         have hS := (hfr vals2).sub (ts := [41]) (S' := [(41, vals2 1)]) rfl
         replace hS := hS.conv (t := 41) rfl (show (vals2 1) = .pointer (some ⟨b_s0, 0, none⟩) from hV 1 (by decide))
         exact L_val hS rfl (Ob_c tMv rfl) ⟨rfl, hG⟩
        refine .cons (fun ss hlo hhi vals2 xw hG hV => ?_) ?_
        ·obtain rfl : ss = 0 := Nat.le_antisymm hhi hlo
         rw [← hfe]
         have hS := (hfr vals2).sub (ts := [42]) (S' := [(42, vals2 2)]) rfl
         replace hS := hS.conv (t := 42) rfl (show (vals2 2) = .pointer (some ⟨b_s0, 0, none⟩) from hV 2 (by decide))
         obtain ⟨I2, hI2, H⟩ := Gx.ex hG
         exact L_val hS rfl (Ob_load tMv rfl rfl rfl ((H.bx 1 rfl).cell 0 rfl)) ⟨rfl, hG⟩
        refine .cons (fun ss hlo hhi vals2 xw hG hV => ?_) ?_
        ·obtain rfl : ss = 0 := Nat.le_antisymm hhi hlo
         rw [← hfe]
         have hS := (hfr vals2).sub (ts := [9]) (S' := [(9, .pointer (some ⟨b1, 0, none⟩))]) rfl
         exact L_val hS rfl (Ob_c tMv rfl) ⟨rfl, hG⟩
        refine .cons (fun ss hlo hhi vals2 xw hG hV => ?_) ?_
        ·obtain rfl : ss = 0 := Nat.le_antisymm hhi hlo
         rw [← hfe]
         have hS := (hfr vals2).sub (ts := [44]) (S' := [(44, vals2 4)]) rfl
         replace hS := hS.conv (t := 44) rfl (show (vals2 4) = .pointer (some ⟨b1, 0, none⟩) from hV 4 (by decide))
         obtain ⟨I2, hI2, H⟩ := Gx.ex hG
         exact L_val hS rfl (Ob_load tMv rfl rfl rfl ((H.bx 2 rfl).cell 0 rfl)) ⟨rfl, hG⟩
        refine .cons (fun ss hlo hhi vals2 xw hG hV => ?_) ?_
        ·obtain rfl : ss = 0 := Nat.le_antisymm hhi hlo
         rw [← hfe]
         have hS := (hfr vals2).sub (ts := [43, 45]) (S' := [(43, vals2 3), (45, vals2 5)]) rfl
         replace hS := hS.conv (t := 43) rfl (show (vals2 3) = .pointer (some ⟨b2, 0, none⟩) from hV 3 (by decide))
         replace hS := hS.conv (t := 45) rfl (show (vals2 5) = .string ((l.getD (x).toNat default).key) from hV 5 (by decide))
         obtain ⟨I2, hI2, H⟩ := Gx.ex hG
         refine L_hcall H (js := [(0, false)]) rfl (caps := #[]) hS fn_53_YMv rfl rfl rfl rfl rfl (fun D1 hS => have hq := c_tree_Tree_api_Cell_Get hx6 hS; hq) fun _ yw D1 hr hF2 => ?_
         obtain ⟨q0_, rfl, I3, K⟩ := hr
         obtain ⟨hK, H2⟩ := hF2 K
         exact ⟨rfl, Gx.go hG hI2 hK K.imm H2⟩
        refine .cons (fun ss hlo hhi vals2 xw hG hV => ?_) ?_
        ·obtain rfl : ss = 1 := Nat.le_antisymm hhi hlo
         rw [← hfe]
         have hS := (hfr vals2).sub (ts := [46]) (S' := [(46, vals2 6)]) rfl
         replace hS := hS.conv (t := 46) rfl (show (vals2 6) = .tuple #[(tupAt (vals2 6) 0), .bool g.2] from hV 6 (by decide))
         exact L_val hS rfl (Ob_c tMv rfl) ⟨rfl, hG⟩
        refine .cons (fun ss hlo hhi vals2 xw hG hV => ?_) ?_
        ·obtain rfl : ss = 1 := Nat.le_antisymm hhi hlo
         rw [← hfe]
         have hS := (hfr vals2).sub (ts := [39]) (S' := [(39, vals2 7)]) rfl
         replace hS := hS.conv (t := 39) rfl (show (vals2 7) = .tuple #[(tupAt (vals2 6) 0), .bool g.2] from hV 7 (by decide))
         exact L_val hS rfl (Ob_c tMv rfl) ⟨rfl, hG⟩
        refine .cons (fun ss hlo hhi vals2 xw hG hV => ?_) ?_
        ·obtain rfl : ss = 1 := Nat.le_antisymm hhi hlo
         rw [← hfe]
         have hS := (hfr vals2).sub (ts := [39]) (S' := [(39, vals2 7)]) rfl
         replace hS := hS.conv (t := 39) rfl (show (vals2 7) = .tuple #[(tupAt (vals2 6) 0), .bool g.2] from hV 7 (by decide))
         exact L_val hS rfl (Ob_c tMv rfl) ⟨rfl, hG⟩
        refine .cons (fun ss hlo hhi vals2 xw hG hV => ?_) ?_
        ·obtain rfl : ss = 1 := Nat.le_antisymm hhi hlo
         rw [← hfe]
         have hS := (hfr vals2).sub (ts := [47]) (S' := [(47, vals2 8)]) rfl
         replace hS := hS.conv (t := 47) rfl (show (vals2 8) = (tupAt (vals2 6) 0) from hV 8 (by decide))
         exact L_val hS rfl (Ob_c tMv rfl) ⟨rfl, hG⟩
        refine .cons (fun ss hlo hhi vals2 xw hG hV => ?_) ?_
        ·obtain rfl : ss = 1 := Nat.le_antisymm hhi hlo
         rw [← hfe]
         have hS := (hfr vals2).sub (ts := [48]) (S' := [(48, vals2 9)]) rfl
         replace hS := hS.conv (t := 48) rfl (show (vals2 9) = .bool g.2 from hV 9 (by decide))
         exact L_val hS rfl (Ob_c tMv rfl) ⟨rfl, hG⟩
        exact .nil
       ·intro vals2 a w11 Z hG hV
        replace Z := Z.sub (ts := [0, 1, 6, 33, 34, 35, 36, 37, 38, 9, 40, 41, 42, 43, 44, 45, 46, 39, 47, 48, 10]) (S' := [(0, .pointer (some ⟨b_s0, 0, none⟩)), (1, .int .u64 ts), (6, .int .i64 0), (33, v1_l), (34, .int .i64 (l.length : Int)), (35, .int .i64 x), (36, .bool (decide (x < (l.length : Int)))), (37, .pointer (some ⟨blkOf v1_l, oofOf v1_l + (x).toNat * 3, none⟩)), (38, .agg #[.string ((l.getD (x).toNat default).key), .string ((l.getD (x).toNat default).val), .bool ((l.getD (x).toNat default).del)]), (9, .pointer (some ⟨b1, 0, none⟩)), (40, vals2 0), (41, vals2 1), (42, vals2 2), (43, vals2 3), (44, vals2 4), (45, vals2 5), (46, vals2 6), (39, vals2 7), (47, vals2 8), (48, vals2 9), (10, vals2 10)]) rfl
        replace Z := Z.conv (t := 40) rfl (show (vals2 0) = .pointer (some ⟨b_s0, 0, none⟩) from hV 0 (by decide))
        replace Z := Z.conv (t := 41) rfl (show (vals2 1) = .pointer (some ⟨b_s0, 0, none⟩) from hV 1 (by decide))
        replace Z := Z.conv (t := 42) rfl (show (vals2 2) = .pointer (some ⟨b_s0, 0, none⟩) from hV 2 (by decide))
        replace Z := Z.conv (t := 43) rfl (show (vals2 3) = .pointer (some ⟨b2, 0, none⟩) from hV 3 (by decide))
        replace Z := Z.conv (t := 44) rfl (show (vals2 4) = .pointer (some ⟨b1, 0, none⟩) from hV 4 (by decide))
        replace Z := Z.conv (t := 45) rfl (show (vals2 5) = .string ((l.getD (x).toNat default).key) from hV 5 (by decide))
        replace Z := Z.conv (t := 46) rfl (show (vals2 6) = .tuple #[(tupAt (vals2 6) 0), .bool g.2] from hV 6 (by decide))
        replace Z := Z.conv (t := 39) rfl (show (vals2 7) = .tuple #[(tupAt (vals2 6) 0), .bool g.2] from hV 7 (by decide))
        replace Z := Z.conv (t := 47) rfl (show (vals2 8) = (tupAt (vals2 6) 0) from hV 8 (by decide))
        replace Z := Z.conv (t := 48) rfl (show (vals2 9) = .bool g.2 from hV 9 (by decide))
        replace Z := Z.conv (t := 10) rfl (show (vals2 10) = (tupAt (vals2 6) 0) from hV 10 (by decide))
        obtain ⟨I7, _, H⟩ := Gx.ex hG
        clear hG hV
        replace Z := Z.sub (ts := [0, 1, 6, 33, 34, 35, 36, 37, 38, 9, 40, 41, 42, 43, 44, 45, 46, 39, 47, 48, 10]) rfl
        replace H : Hf I D w I7 w11 [OEtree_Tree_api_Cell b2 x_2, SlC NECell (tupAt (vals2 6) 0) g.1, BxC b_s0 88 [.pointer (some ⟨b2, 0, none⟩), .int .u64 s0_2.last, .int .i64 s0_2.n], BxC b1 74 [.string ((l.getD (x).toNat default).key), .string ((l.getD (x).toNat default).val), .bool ((l.getD (x).toNat default).del)], SlC NEOp v1_l l] := H
        refine p_then (wp_seq ?_)
        obtain ⟨p_2, hx7, hF⟩ := bnd_in hF
        refine f_region Z ?_; clear Z; intro Z
        refine s_runk tMv Z 3 rfl rfl ?_; clear Z a; intro a Z
        refine s_ob Z (v := .string ((l.getD (x).toNat default).val)) rfl rfl (by decide) rfl (Ob_load tMv rfl rfl rfl ((H.bx 3 rfl).cell 1 rfl)) ?_; clear Z a; intro a Z
        refine s_runk tMv Z 1 rfl rfl ?_; clear Z a; intro a Z
        refine s_ob Z (v := .bool ((l.getD (x).toNat default).del)) rfl rfl (by decide) rfl (Ob_load tMv rfl rfl rfl ((H.bx 3 rfl).cell 2 rfl)) ?_; clear Z a; intro a Z
        refine s_ob Z (v := .agg #[.int .u64 ts, .string ((l.getD (x).toNat default).val), .bool ((l.getD (x).toNat default).del)]) rfl rfl (by decide) rfl (Ob_build (vs := [(0, .int .u64 ts), (1, .string ((l.getD (x).toNat default).val)), (2, .bool ((l.getD (x).toNat default).del))]) rfl rfl (by go_simp <;> rfl)) ?_; clear Z a; intro a Z
        refine h_call Z H (js := [(1, true)]) rfl (caps := #[]) fn_72_YMv rfl rfl rfl rfl rfl (by decide) rfl rfl (fun D1 hS => have hq := c_vers_Put hx7 hS; hq) ?_; clear Z a; intro vv a w12 D2 hr hF2 Z
        obtain ⟨q2, rfl, I8, K⟩ := hr
        have H : Hf I D w I8 w12 [SlC NECell q2 p_2.1, OEtree_Tree_api_Cell b2 x_2, SlC NECell (tupAt (vals2 6) 0) g.1, BxC b_s0 88 [.pointer (some ⟨b2, 0, none⟩), .int .u64 s0_2.last, .int .i64 s0_2.n], BxC b1 74 [.string ((l.getD (x).toNat default).key), .string ((l.getD (x).toNat default).val), .bool ((l.getD (x).toNat default).del)], SlC NEOp v1_l l] := hF2 K
        clear hF2 K
        refine s_runk tMv Z 5 rfl rfl ?_; clear Z a; intro a Z
        refine s_end Z [0, 1, 6, 33, 34, 35, 36, 37, 38, 9, 40, 41, 42, 43, 44, 45, 46, 39, 47, 48, 10, 50, 51, 52, 53, 54, 55, 56, 57, 49, 58, 59, 12] rfl ?_; clear Z; intro Z
        refine p_then (wp_seq ?_)
        obtain ⟨p_3, hx8, hF⟩ := bnd_in hF
        refine f_quietS 7 (by kernel_rfl) (by kernel_rfl) (by kernel_rfl) (by kernel_rfl) (by kernel_rfl) Z ?_; clear Z; intro Z
        refine q_runk tMv Z 3 rfl rfl ?_; clear Z a; intro a Z
        refine q_ob Z (v := .pointer (some ⟨b2, 0, none⟩)) rfl rfl (by decide) rfl (fun _ hw => Ob_load tMv rfl rfl rfl (((H.blw hw).bx 3 rfl).cell 0 rfl)) ?_; clear Z a; intro a Z
        refine q_runk tMv Z 1 rfl rfl ?_; clear Z a; intro a Z
        refine q_ob Z (v := .string ((l.getD (x).toNat default).key)) rfl rfl (by decide) rfl (fun _ hw => Ob_load tMv rfl rfl rfl (((H.blw hw).bx 4 rfl).cell 0 rfl)) ?_; clear Z a; intro a Z
        refine q_runk tMv Z 1 rfl rfl ?_; clear Z a; intro a Z
        refine q_endS Z [0, 1, 6, 33, 34, 35, 36, 37, 38, 9, 40, 41, 42, 43, 44, 45, 46, 39, 47, 48, 10, 50, 51, 52, 53, 54, 55, 56, 57, 49, 58, 59, 12, 60, 61, 62, 63, 64, 65, 66] rfl ?_; clear Z; intro w13 hb Z
        replace H : Hf I D w I8 w13 [SlC NECell q2 p_2.1, OEtree_Tree_api_Cell b2 x_2, SlC NECell (tupAt (vals2 6) 0) g.1, BxC b_s0 88 [.pointer (some ⟨b2, 0, none⟩), .int .u64 s0_2.last, .int .i64 s0_2.n], BxC b1 74 [.string ((l.getD (x).toNat default).key), .string ((l.getD (x).toNat default).val), .bool ((l.getD (x).toNat default).del)], SlC NEOp v1_l l] := H.blw hb
        clear hb
        refine h_call Z H (js := [(1, false), (0, true)]) rfl (caps := #[]) fn_73_YMv rfl rfl rfl rfl rfl (by decide) rfl rfl (fun D1 hS => have hq := c_tree_Tree_api_Cell_Put hx8 hS; hq) ?_; clear Z a; intro vv a w14 D2 hr hF2 Z
        obtain ⟨rfl, I9, K⟩ := hr
        have H : Hf I D w I9 w14 [OEtree_Tree_api_Cell b2 p_3.2, SlC NECell q2 p_2.1, SlC NECell (tupAt (vals2 6) 0) g.1, BxC b_s0 88 [.pointer (some ⟨b2, 0, none⟩), .int .u64 s0_2.last, .int .i64 s0_2.n], BxC b1 74 [.string ((l.getD (x).toNat default).key), .string ((l.getD (x).toNat default).val), .bool ((l.getD (x).toNat default).del)], SlC NEOp v1_l l] := hF2 K
        clear hF2 K
        refine s_end Z [0, 1, 6, 33, 34, 35, 36, 37, 38, 9, 40, 41, 42, 43, 44, 45, 46, 39, 47, 48, 10, 50, 51, 52, 53, 54, 55, 56, 57, 49, 58, 59, 12, 60, 61, 62, 63, 64, 65, 66] rfl ?_; clear Z; intro Z
        refine p_then ?_
        obtain ⟨hg4, hF⟩ := chk_in hF
        refine f_region Z ?_; clear Z; intro Z
        refine s_runk tMv Z 3 rfl rfl ?_; clear Z a; intro a Z
        refine s_ob Z (v := .int .i64 s0_2.n) rfl rfl (by decide) rfl (Ob_load tMv rfl rfl rfl ((H.bx 3 rfl).cell 2 rfl)) ?_; clear Z a; intro a Z
        refine s_ob Z (v := .int .i64 (s0_2.n + 1)) rfl rfl (by decide) rfl (Ob_add rfl rfl rfl (wrI hg4)) ?_; clear Z a; intro a Z
        refine s_runk tMv Z 2 rfl rfl ?_; clear Z a; intro a Z
        refine h_store tMv Z H 3 rfl rfl rfl rfl rfl rfl rfl rfl rfl (one_cons rfl one_nil) (Nat.le_of_ble_eq_true rfl) rfl ?_; clear H; intro w15 H
        dsimp only [List.eraseIdx] at H
        refine s_end Z [0, 1, 6, 33, 34, 35, 36, 37, 38, 9, 40, 41, 42, 43, 44, 45, 46, 39, 47, 48, 10, 50, 51, 52, 53, 54, 55, 56, 57, 49, 58, 59, 12, 60, 61, 62, 63, 64, 65, 66, 68, 69, 70, 71, 72, 73, 74] rfl ?_; clear Z; intro Z
        refine p_blk ?_
        refine p_then ?_
        obtain ⟨hg5, hF⟩ := chk_in hF
        refine f_region Z ?_; clear Z; intro Z
        refine s_ob Z (v := .int .i64 (x + 1)) rfl rfl (by decide) rfl (Ob_add rfl rfl rfl (wrI hg5)) ?_; clear Z a; intro a Z
        refine s_runk tMv Z 1 rfl rfl ?_; clear Z a; intro a Z
        refine s_end Z [0, 1, 6, 33, 34, 35, 36, 37, 38, 9, 40, 41, 42, 43, 44, 45, 46, 39, 47, 48, 10, 50, 51, 52, 53, 54, 55, 56, 57, 49, 58, 59, 12, 60, 61, 62, 63, 64, 65, 66, 68, 69, 70, 71, 72, 73, 74, 75] rfl ?_; clear Z; intro Z
        refine p_then ?_
        replace H : Hf I D w I9 w15 [PtC OEtree_Tree_api_Cell (.pointer (some ⟨b2, 0, none⟩)) (some p_3.2), BxC b_s0 88 [.pointer (some ⟨b2, 0, none⟩), .int .u64 s0_2.last, .int .i64 (s0_2.n + 1)], SlC NECell q2 p_2.1, SlC NECell (tupAt (vals2 6) 0) g.1, BxC b1 74 [.string ((l.getD (x).toNat default).key), .string ((l.getD (x).toNat default).val), .bool ((l.getD (x).toNat default).del)], SlC NEOp v1_l l] := H.mkS (K := OEtree_Tree_api_Cell) 1 rfl
        replace H : Hf I D w I9 w15 [OEmvcc_Store b_s0 ({ s0_2 with t := some p_3.2, n := s0_2.n + 1 } : Emvcc_Store), SlC NECell q2 p_2.1, SlC NECell (tupAt (vals2 6) 0) g.1, BxC b1 74 [.string ((l.getD (x).toNat default).key), .string ((l.getD (x).toNat default).val), .bool ((l.getD (x).toNat default).del)], SlC NEOp v1_l l] := H.shutX (.pointer (some ⟨b2, 0, none⟩)) [(1, false), (0, false)] rfl
        exact ⟨(x + 1, ({ s0_2 with t := some p_3.2, n := s0_2.n + 1 } : Emvcc_Store)), ⟨Z.sub (ts := [0, 1, 6, 33, 34, 35]) rfl, ⟨I9, (H.sub [(0, false), (3, true)] rfl).eq rfl⟩⟩, hF⟩
     ·replace hF := ite_f hc5 hF
      refine wp_exit ?_
      refine p_then_x ?_
      refine p_then_x ?_
      refine f_exit_here ?_
      refine p_then (wp_seq (f_region Z ?_)); clear Z; intro Z
      refine s_runk tMv Z 4 rfl rfl ?_; clear Z a; intro a Z
      obtain ⟨v4, H⟩ := H.openX 0 rfl
      replace H : Hf I D w I3 w3 [BxC b_s0 88 [v4, .int .u64 s0_2.last, .int .i64 s0_2.n], PtC OEtree_Tree_api_Cell v4 s0_2.t, SlC NEOp v1_l l] := H
      refine h_store tMv Z H 0 rfl rfl rfl rfl rfl rfl rfl rfl rfl (one_cons rfl one_nil) (Nat.le_of_ble_eq_true rfl) rfl ?_; clear H; intro w16 H
      dsimp only [List.eraseIdx] at H
      refine s_end Z [6] rfl ?_; clear Z; intro Z
      refine p_then (wp_seq (f_region Z ?_)); clear Z; intro Z
      refine s_runk tMv Z 1 rfl rfl ?_; clear Z a; intro a Z
      refine s_end Z [6] rfl ?_; clear Z; intro Z
      refine p_then (wp_ret ?_)
      replace H : Hf I D w I3 w16 [OEmvcc_Store b_s0 ({ s0_2 with last := ts } : Emvcc_Store), SlC NEOp v1_l l] := H.shutX (v4) [(0, false), (0, false)] rfl
      obtain rfl := some_in hF
      exact f_ret Z (run_results1 rfl Z rfl) ⟨rfl, I3, (H.sub [(0, false)] rfl).eq rfl⟩

end Go.Proofs.Ytglfajjcgbfehaa
