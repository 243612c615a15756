/- Many versions: the program's store. -/
import Derived.Test.YtglfajjcgbfehaaGreatYMTreeG
namespace Go.Proofs.YtglfajjcgbfehaaGreat
open Go.RowKit
structure Eruntime_boundsError where
 x : Int
 y : Int
 signed : Bool
 code : Int

instance : Inhabited Eruntime_boundsError := ⟨⟨0, 0, false, 0⟩⟩

def eqEruntime_boundsError (x y : Eruntime_boundsError) : Bool := (x.x == y.x) && (x.y == y.y) && (x.signed == y.signed) && (x.code == y.code)

theorem eqEruntime_boundsError_iff {x y : Eruntime_boundsError} : eqEruntime_boundsError x y = true ↔ x = y := by cases x; cases y; simp [eqEruntime_boundsError, seqB_iff, and_assoc]

def cEruntime_boundsError (x : Eruntime_boundsError) : List Value := [.int .i64 x.x, .int .i64 x.y, .bool x.signed, .int .u8 x.code]

def NEruntime_boundsError : Rp Eruntime_boundsError := Rp.flat 4 (fun _ => True) (fun x => cEruntime_boundsError x) (fun _ => rfl) (fun x c hc => by simp only [cEruntime_boundsError, List.mem_cons, List.not_mem_nil, or_false] at hc; rcases hc with rfl | rfl | rfl | rfl <;> rfl)

structure Eruntime_errorAddressString where
 msg : ByteArray
 addr : Int

instance : Inhabited Eruntime_errorAddressString := ⟨⟨ByteArray.empty, 0⟩⟩

structure EMember where
 id : Int
 serial : Int

instance : Inhabited EMember := ⟨⟨0, 0⟩⟩

def eqEMember (x y : EMember) : Bool := (x.id == y.id) && (x.serial == y.serial)

theorem eqEMember_iff {x y : EMember} : eqEMember x y = true ↔ x = y := by cases x; cases y; simp [eqEMember, seqB_iff, and_assoc]

def cEMember (x : EMember) : List Value := [.int .i64 x.id, .int .i64 x.serial]

def NEMember : Rp EMember := Rp.flat 2 (fun _ => True) (fun x => cEMember x) (fun _ => rfl) (fun x c hc => by simp only [cEMember, List.mem_cons, List.not_mem_nil, or_false] at hc; rcases hc with rfl | rfl <;> rfl)

structure EConf where
 epoch : Int
 members : List EMember
 floor : Int

instance : Inhabited EConf := ⟨⟨0, [], 0⟩⟩

def cEConf (x : EConf) (v0 : Value) : List Value := [.int .i64 x.epoch, v0, .int .u64 x.floor]

def NEConf : Rp EConf where
 n := 3
 rep A w cs x := ∃ v0 : Value, cs = cEConf x v0 ∧ slRep NEMember A w v0 x.members
 len := fun ⟨v0, h, _⟩ => by rw [h]; rfl
 one := fun ⟨v0, h, s0⟩ c hc => by
  rw [h] at hc
  simp only [cEConf, List.mem_cons, List.not_mem_nil, or_false] at hc
  rcases hc with rfl | rfl | rfl
  ·rfl
  ·exact s0.one
  ·rfl
 mono := fun ⟨v0, h, s0⟩ hA hk => ⟨v0, h, s0.mono hA hk⟩
 bound := fun ⟨v0, h, s0⟩ => ⟨v0, h, s0.bound⟩

structure EOp where
 key : ByteArray
 val : ByteArray
 del : Bool

instance : Inhabited EOp := ⟨⟨ByteArray.empty, ByteArray.empty, false⟩⟩

def eqEOp (x y : EOp) : Bool := (seqB x.key y.key) && (seqB x.val y.val) && (x.del == y.del)

theorem eqEOp_iff {x y : EOp} : eqEOp x y = true ↔ x = y := by cases x; cases y; simp [eqEOp, seqB_iff, and_assoc]

def cEOp (x : EOp) : List Value := [.string x.key, .string x.val, .bool x.del]

def NEOp : Rp EOp := Rp.flat 3 (fun _ => True) (fun x => cEOp x) (fun _ => rfl) (fun x c hc => by simp only [cEOp, List.mem_cons, List.not_mem_nil, or_false] at hc; rcases hc with rfl | rfl | rfl <;> rfl)

theorem NEOp.isFlat : NEOp.Flat := Rp.flat_flat _ _ _ _ _

structure EBatch where
 client : Int
 req : Int
 ops : List EOp

instance : Inhabited EBatch := ⟨⟨0, 0, []⟩⟩

def cEBatch (x : EBatch) (v0 : Value) : List Value := [.int .i64 x.client, .int .i64 x.req, v0]

def NEBatch : Rp EBatch where
 n := 3
 rep A w cs x := ∃ v0 : Value, cs = cEBatch x v0 ∧ slRep NEOp A w v0 x.ops
 len := fun ⟨v0, h, _⟩ => by rw [h]; rfl
 one := fun ⟨v0, h, s0⟩ c hc => by
  rw [h] at hc
  simp only [cEBatch, List.mem_cons, List.not_mem_nil, or_false] at hc
  rcases hc with rfl | rfl | rfl
  ·rfl
  ·rfl
  ·exact s0.one
 mono := fun ⟨v0, h, s0⟩ hA hk => ⟨v0, h, s0.mono hA hk⟩
 bound := fun ⟨v0, h, s0⟩ => ⟨v0, h, s0.bound⟩

structure EEntry where
 batch : EBatch
 ts : Int

instance : Inhabited EEntry := ⟨⟨default, 0⟩⟩

def cEEntry (x : EEntry) (v0 : Value) : List Value := [.int .i64 x.batch.client, .int .i64 x.batch.req, v0, .int .u64 x.ts]

def NEEntry : Rp EEntry where
 n := 4
 rep A w cs x := ∃ v0 : Value, cs = cEEntry x v0 ∧ slRep NEOp A w v0 x.batch.ops
 len := fun ⟨v0, h, _⟩ => by rw [h]; rfl
 one := fun ⟨v0, h, s0⟩ c hc => by
  rw [h] at hc
  simp only [cEEntry, List.mem_cons, List.not_mem_nil, or_false] at hc
  rcases hc with rfl | rfl | rfl | rfl
  ·rfl
  ·rfl
  ·exact s0.one
  ·rfl
 mono := fun ⟨v0, h, s0⟩ hA hk => ⟨v0, h, s0.mono hA hk⟩
 bound := fun ⟨v0, h, s0⟩ => ⟨v0, h, s0.bound⟩

theorem NEEntry.dft (A : Dm) (w : World) : ∃ cl, NEEntry.rep A w cl default := ⟨_, .slice none 0 0, rfl, slRep.nil _ _ _ _ _ (Nat.zero_le _)⟩

structure Eref17_Log where
 l : List EEntry

instance : Inhabited Eref17_Log := ⟨⟨[]⟩⟩

structure Eref30_State where
 conf : EConf
 horizon : Int
 log : Eref17_Log

instance : Inhabited Eref30_State := ⟨⟨default, 0, default⟩⟩

def cEref30_State (x : Eref30_State) (v0 : Value) (v1 : Value) : List Value := [.int .i64 x.conf.epoch, v0, .int .u64 x.conf.floor, .int .u64 x.horizon, v1]

structure Emvcc_Store where
 t : Option Etree_Tree_api_Cell
 last : Int
 n : Int

instance : Inhabited Emvcc_Store := ⟨⟨none, 0, 0⟩⟩

def cEmvcc_Store (x : Emvcc_Store) (v0 : Value) : List Value := [v0, .int .u64 x.last, .int .i64 x.n]

def OEmvcc_Store (b : Nat) (x : Emvcc_Store) : Ch := ExC fun (p : Value) => [BxC b 92 (cEmvcc_Store x p), PtC OEtree_Tree_api_Cell p x.t]

def tMvL : TabL := ⟨[(43008, 0), (43009, 1), (43010, 2), (59392, 0), (59393, 1), (59394, 2), (94208, 0), (94209, 1), (94210, 2), (140288, 0)], [9], [], [(40, (58, 3)), (90, (137, 3))], [(3, (1, false)), (4, (1, false)), (9, (1, false)), (29, (1, false)), (40, (1, false)), (42, (3, true)), (58, (3, true)), (88, (1, false)), (90, (1, false)), (92, (3, true)), (137, (3, true))]⟩

def tMv : Tab Tryz.prog := ⟨tMvL, by kernel_rfl⟩

theorem fn_43_YMv : IsFn Tryz.prog 43 := ⟨_, Tryz.func43, by kernel_rfl, by kernel_rfl⟩

theorem fn_46_YMv : IsFn Tryz.prog 46 := ⟨_, Tryz.func46, by kernel_rfl, by kernel_rfl⟩

theorem fn_47_YMv : IsFn Tryz.prog 47 := ⟨_, Tryz.func47, by kernel_rfl, by kernel_rfl⟩

theorem fn_81_YMv : IsFn Tryz.prog 81 := ⟨_, Tryz.func81, by kernel_rfl, by kernel_rfl⟩

theorem fn_82_YMv : IsFn Tryz.prog 82 := ⟨_, Tryz.func82, by kernel_rfl, by kernel_rfl⟩

theorem fn_83_YMv : IsFn Tryz.prog 83 := ⟨_, Tryz.func83, by kernel_rfl, by kernel_rfl⟩

theorem fn_84_YMv : IsFn Tryz.prog 84 := ⟨_, Tryz.func84, by kernel_rfl, by kernel_rfl⟩

theorem fn_95_YMv : IsFn Tryz.prog 95 := ⟨_, Tryz.func95, by kernel_rfl, by kernel_rfl⟩

theorem fn_96_YMv : IsFn Tryz.prog 96 := ⟨_, Tryz.func96, by kernel_rfl, by kernel_rfl⟩

theorem fn_103_YMv : IsFn Tryz.prog 103 := ⟨_, Tryz.func103, by kernel_rfl, by kernel_rfl⟩

theorem E_90_YMv : Elem Tryz.prog 90 137 3 32 := ⟨Tryz.underlying90, by
 have h : (Tryz.prog.info? 137).map (fun i => (i.zero, i.size, i.bytes)) = some (some (.agg #[.int .u64 0, .string ByteArray.empty, .bool false]), 3, 32) := by kernel_rfl
 obtain ⟨i, hi, h1⟩ := Option.map_eq_some_iff.1 h
 simp only [Prod.mk.injEq] at h1
 exact ⟨i, _, hi, h1.1, h1.2.1, h1.2.2, by rfl⟩, by decide⟩

def F_slices_Clone_api_Cell_api_Cell (s0 : List ECell) : Option (List ECell) := chk (((([] : List ECell).length + s0.length : Nat) : Int) * 32 ≤ 140737488355328) (some s0)

theorem c_slices_Clone_api_Cell_api_Cell {I D : Dm} {v_s0 : Value} {s0 : List ECell} {w : World} {rr : List ECell} (hF : F_slices_Clone_api_Cell_api_Cell s0 = some rr) (H : St I D w [SlC NECell v_s0 s0]) :
  Calls Tryz.prog 96 #[v_s0] w (Ret fun vv w' => ∃ q1 : Value, vv = q1 ∧ ∃ I', Hf I D w I' w' [OwC NECell 137 q1 rr]) := by
 replace H := H.hf
 unfold F_slices_Clone_api_Cell_api_Cell at hF
 obtain ⟨hg, hF⟩ := chk_in hF
 obtain rfl := some_in hF
 obtain ⟨ao, cap, rfl, _, _⟩ := H.slshape 0 rfl
 refine f_enter 8 Tryz.func96 rfl rfl (Nat.le_of_ble_eq_true rfl) fun a Z => ?_
 replace Z := Z.sub (ts := [0]) rfl
 refine sR Z fun Z => ?_
 refine s_runk tMv Z 1 rfl rfl fun a Z => ?_
 refine s_end Z [0, 2] rfl fun Z => ?_
 refine p_then (wp_seq ?_)
 refine sR Z fun Z => ?_
 refine s_runk tMv Z 1 rfl rfl fun a Z => ?_
 refine sO Z (vT ao.isNone) rfl (Ob_bin rfl rfl rfl (eqg_sl _ _ _ _ _ _ _ _ _ _ _) (run_eql_slice_nil' Tryz.underlying90 _ _ _ _)) fun a Z => ?_
 refine s_end Z [0, 2, 4] rfl fun Z => ?_
 refine p_then ?_
 refine f_cond Z rfl (fun hc1 => ?_) (fun hc1 => ?_)
 ·have e := (H.sl 0 rfl).isNone hc1
  subst e
  refine sR Z fun Z => ?_
  refine s_runk tMv Z 1 rfl rfl fun a Z => ?_
  refine s_end Z [0, 2] rfl fun Z => ?_
  refine p_then (wp_ret ?_)
  refine p_then_r ?_
  exact f_ret Z (run_results1 rfl Z rfl) ⟨_, rfl, I, ((H.nilow NECell 137).sub [(0, false)] rfl).eq rfl⟩
 ·refine wp_skip ?_
  refine pR Z fun Z => ?_
  refine h_bslice Z H (vs := []) (cl := []) (e := 137) rfl rfl rfl (by decide) rfl rfl (fun w => run_bslice (z := .agg #[vU 0, vS ByteArray.empty, vT false]) (m := 3) Tryz.underlying90 (by kernel_rfl) rfl rfl (by decide) (by simp [Instr.fill, Value.cells]) w) fun a w1 b1 H Z => ?_
  refine s_runk tMv Z 1 rfl rfl fun a Z => ?_
  replace H : Hf I D w I w1 [OwC NECell 137 (.slice (some ⟨b1, 0, none⟩) 0 0) [], SlC NECell (.slice ao s0.length cap) s0] := H.emptyow 0 rfl NECell
  refine h_appO Z H 0 E_90_YMv s0 rfl rfl rfl rfl rfl (by decide) rfl rfl rfl (H.sl2 1 rfl) hg (by decide) fun v1 a w2 H Z => ?_
  refine s_runk tMv Z 1 rfl rfl fun a Z => ?_
  refine s_end Z [2] rfl fun Z => ?_
  refine p_then (wp_ret ?_)
  exact f_ret Z (run_results1 rfl Z rfl) ⟨_, rfl, I, (H.sub [(0, false)] rfl).eq rfl⟩

def F_mvcc_New : Option Emvcc_Store := (F_tree_New_api_Cell).bind fun c => (some ({ (default : Emvcc_Store) with t := some c } : Emvcc_Store))

set_option maxHeartbeats 1000000 in
theorem c_mvcc_New {I D : Dm} {w : World} {rr : Emvcc_Store} (hF : F_mvcc_New = some rr) (H : St I D w []) :
  Calls Tryz.prog 14 #[] w (Ret fun vv w' => ∃ g1 : Nat, vv = pp g1 0 ∧ ∃ I', Hf I D w I' w' [OEmvcc_Store g1 rr]) := by
 replace H := H.hf
 unfold F_mvcc_New at hF
 refine f_enter 4 Tryz.func14 rfl rfl (Nat.le_of_ble_eq_true rfl) fun a Z => ?_
 replace Z := Z.sub (ts := []) rfl
 refine sR Z fun Z => ?_
 refine s_runk tMv Z 1 rfl rfl fun a Z => ?_
 refine s_end Z [0] rfl fun Z => ?_
 refine p_then (wp_seq ?_)
 obtain ⟨c, hx1, hF⟩ := bnd_in hF
 refine f_region Z fun Z => ?_
 refine hC Z H [] rfl #[] fn_43_YMv rfl rfl (fun D h => have q := c_tree_New_api_Cell hx1 h; q) fun vv a w1 D2 hr hF2 Z => ?_
 obtain ⟨g1, rfl, I1, K⟩ := hr
 have H := (hF2 K).nf rfl
 refine sO Z (.agg #[pp g1 0, vU 0, vI 0]) rfl (Ob_build (vs := [(0, pp g1 0)]) rfl rfl (by go_simp <;> rfl)) fun a Z => ?_
 refine hB Z H [pp g1 0, vU 0, vI 0] rfl rfl rfl rfl fun a w2 b1 H Z => ?_
 refine s_runk tMv Z 1 rfl rfl fun a Z => ?_
 refine s_end Z [0] rfl fun Z => ?_
 refine p_then (wp_ret ?_)
 replace H := (H.mkS (K := OEtree_Tree_api_Cell) 1 rfl).nf rfl
 replace H := H.sX (OEmvcc_Store b1 ({ (default : Emvcc_Store) with t := some c } : Emvcc_Store)) (pp g1 0) [(1, false), (0, false)] rfl rfl rfl
 obtain rfl := some_in hF
 exact f_ret Z (run_results1 rfl Z rfl) ⟨b1, rfl, I1, (H.sub [(0, false)] rfl).eq rfl⟩

def F_mvcc_Store_none (s0 : Emvcc_Store) : Option Bool := some s0.t.isNone

set_option maxHeartbeats 1000000 in
theorem c_mvcc_Store_none {I D : Dm} {b_s0 : Nat} {s0 : Emvcc_Store} {w : World} {rr : Bool} (hF : F_mvcc_Store_none s0 = some rr) (H : St I D w [OEmvcc_Store b_s0 s0]) :
  Calls Tryz.prog 46 #[pp b_s0 0] w (Ret fun vv w' => vv = vT rr ∧ ∃ I', Hf I D w I' w' [OEmvcc_Store b_s0 s0]) := by
 replace H := H.hf
 unfold F_mvcc_Store_none at hF
 refine f_enter 12 Tryz.func46 rfl rfl (Nat.le_of_ble_eq_true rfl) fun a Z => ?_
 replace Z := Z.sub (ts := [0]) rfl
 refine sR Z fun Z => ?_
 refine s_runk tMv Z 1 rfl rfl fun a Z => ?_
 refine s_end Z [0, 2] rfl fun Z => ?_
 refine pR Z fun Z => ?_
 refine s_runk tMv Z 1 rfl rfl fun a Z => ?_
 refine sO Z (vT false) rfl (Ob_pnil rfl rfl rfl Tryz.underlying59 (.inl ⟨rfl, rfl⟩)) fun a Z => ?_
 refine s_runk tMv Z 1 rfl rfl fun a Z => ?_
 refine g_if Z rfl rfl rfl (p := true) rfl rfl (by decide) (fun _ => ?_) (fun h => by cases h)
 refine s_runk tMv Z 1 rfl rfl fun a Z => ?_
 refine g_if Z rfl rfl rfl (p := true) rfl rfl (by decide) (fun _ => ?_) (fun h => by cases h)
 refine s_runk tMv Z 1 rfl rfl fun a Z => ?_
 refine g_if Z rfl rfl rfl (p := true) rfl rfl (by decide) (fun _ => ?_) (fun h => by cases h)
 refine s_runk tMv Z 1 rfl rfl fun a Z => ?_
 refine g_if Z rfl rfl rfl (p := true) rfl rfl (by decide) (fun _ => ?_) (fun h => by cases h)
 obtain ⟨v1, H⟩ := H.openX 0 rfl
 replace H := H.nf rfl; try dsimp only at H
 refine sO Z _ rfl (oL tMv rfl rfl (H.bc 0 0 rfl rfl)) fun a Z => ?_
 refine g_if Z rfl rfl rfl (p := true) rfl rfl (by decide) (fun _ => ?_) (fun h => by cases h)
 refine sO Z (vT s0.t.isNone) rfl (Ob_popt (q := s0.t) rfl rfl rfl Tryz.underlying88 (H.optI 1 rfl) (.inl ⟨rfl, rfl⟩)) fun a Z => ?_
 refine sO Z (vT s0.t.isNone) rfl (Ob_pick rfl rfl rfl rfl rfl) fun a Z => ?_
 refine s_runk tMv Z 1 rfl rfl fun a Z => ?_
 refine s_end Z [2] rfl fun Z => ?_
 refine p_then (wp_ret ?_)
 replace H := H.sX (OEmvcc_Store b_s0 s0) (v1) [(0, false), (0, false)] rfl rfl rfl
 obtain rfl := some_in hF
 exact f_ret Z (run_results1 rfl Z rfl) ⟨rfl, I, (H.sub [(0, false)] rfl).eq rfl⟩

def F_vers_Put (l : List ECell) (c : ECell) : Option ((List ECell) × Int) := if (c.ts == 0) = true then (some (([] : List ECell), 5)) else (chk ((decide ((l.length : Int) > 0)) = true → inI ((l.length : Int) - 1)) (chk ((decide ((l.length : Int) > 0)) = true → (0 : Int) ≤ (l.length : Int) - 1 ∧ (l.length : Int) - 1 < (l.length : Int)) (if ((decide ((l.length : Int) > 0)) && (decide ((l.getD ((l.length : Int) - 1).toNat default).ts ≥ c.ts))) = true then (some (([] : List ECell), 18)) else ((F_slices_Clone_api_Cell_api_Cell l).bind fun c_2 => (chk (((c_2.length + [c].length : Nat) : Int) * 32 ≤ 140737488355328) (some (c_2 ++ [c], 0)))))))

set_option maxHeartbeats 1000000 in
theorem c_vers_Put {I D : Dm} {l : List ECell} {v1_l : Value} {c : ECell} {w : World} {rr : (List ECell) × Int} (hF : F_vers_Put l c = some rr) (H : St I D w [SlC NECell v1_l l]) :
  Calls Tryz.prog 82 #[v1_l, .agg #[vU c.ts, vS c.val, vT c.del]] w (Ret fun vv w' => ∃ q1 : Value, vv = .tuple #[q1, vI rr.2] ∧ ∃ I', Hf I D w I' w' [SlC NECell q1 rr.1]) := by
 replace H := H.hf
 unfold F_vers_Put at hF
 refine f_enter 31 Tryz.func82 rfl rfl (Nat.le_of_ble_eq_true rfl) fun a Z => ?_
 replace Z := Z.sub (ts := [0, 1]) rfl
 refine sR Z fun Z => ?_
 refine hB Z H [vU c.ts, vS c.val, vT c.del] rfl rfl rfl rfl fun a w1 b1 H Z => ?_
 refine s_runk tMv Z 2 rfl rfl fun a Z => ?_
 refine s_end Z [0, 3, 4, 5] rfl fun Z => ?_
 refine p_then (wp_seq ?_)
 refine wp_block ?_
 refine sR Z fun Z => ?_
 refine s_runk tMv Z 1 rfl rfl fun a Z => ?_
 refine sO Z _ rfl (oL tMv rfl rfl (H.bc 0 0 rfl rfl)) fun a Z => ?_
 refine s_runk tMv Z 2 rfl rfl fun a Z => ?_
 refine s_end Z [0, 3, 4, 5, 6] rfl fun Z => ?_
 refine p_then ?_
 refine f_cond Z rfl (fun hc1 => ?_) (fun hc1 => ?_)
 ·replace hF := ite_t hc1 hF
  refine sR Z fun Z => ?_
  refine s_runk tMv Z 2 rfl rfl fun a Z => ?_
  refine s_end Z [0, 3, 4, 5] rfl fun Z => ?_
  refine p_then (wp_ret ?_)
  refine p_blk_r ?_
  refine p_then_r ?_
  replace H := H.slNil NECell
  obtain rfl := some_in hF
  exact f_ret Z (run_results2 rfl Z rfl rfl) ⟨nS, rfl, I, (H.sub [(0, true)] rfl).eq rfl⟩
 ·replace hF := ite_f hc1 hF
  refine wp_seq ?_
  obtain ⟨hg1, hF⟩ := chk_in hF
  obtain ⟨hg2, hF⟩ := chk_in hF
  refine f_quietd (by kernel_rfl) (by kernel_rfl) Z fun Z => ?_
  refine q_runk tMv Z 1 rfl rfl fun a Z => ?_
  refine qO Z (vI (ln l)) rfl (fun _ hw => Ob_slen tMv rfl rfl rfl ((H.blw hw).slshape 1 rfl)) fun a Z => ?_
  refine q_runk tMv Z 2 rfl rfl fun a Z => ?_
  refine jO Z v1_l rfl (wantB_t _) (.n 0 rfl .z) (fun hp _ hw => Ob_c tMv rfl) fun a Z => ?_
  refine jO Z v1_l rfl (wantB_t _) (.n 0 rfl .z) (fun hp _ hw => Ob_c tMv rfl) fun a Z => ?_
  refine jO Z (vI (ln l)) rfl (wantB_t _) (.c 16 rfl id .z) (fun hp _ hw => Ob_slen tMv rfl rfl rfl ((H.blw hw).slshape 1 rfl)) fun a Z => ?_
  refine jO Z (vI ((ln l) - 1)) rfl (wantB_t _) (.c 17 rfl id .z) (fun hp _ hw => Ob_sub rfl rfl rfl (wrI (hg1 hp))) fun a Z => ?_
  refine jO Z (.pointer (some ⟨blkOf v1_l, oofOf v1_l + ((ln l) - 1).toNat * 3, none⟩)) rfl (wantB_t _) (.c 15 rfl id (.c 18 rfl id .z)) (fun hp _ hw => Ob_sidx tMv rfl rfl rfl rfl (slPl ((H.blw hw).sl 1 rfl) (hg2 hp)) (hg2 hp)) fun a Z => ?_
  refine jO Z (.pointer (some ⟨blkOf v1_l, oofOf v1_l + ((ln l) - 1).toNat * 3, none⟩)) rfl (wantB_t _) (.c 19 rfl id .z) (fun hp _ hw => Ob_c tMv rfl) fun a Z => ?_
  refine jO Z (vU ((l.getD ((ln l) - 1).toNat default).ts)) rfl (wantB_t _) (.c 20 rfl id .z) (fun hp _ hw => oL tMv rfl rfl ((slFl ((H.blw hw).sl 1 rfl) (hg2 hp)) 0 _ rfl)) fun a Z => ?_
  refine jO Z (pp b1 0) rfl (wantB_t _) (.n 3 rfl .z) (fun hp _ hw => Ob_c tMv rfl) fun a Z => ?_
  refine jO Z _ rfl (wantB_t _) (.c 22 rfl id .z) (fun hp _ hw => oL tMv rfl rfl ((H.blw hw).bc 0 0 rfl rfl)) fun a Z => ?_
  refine jO Z (vT (decide ((l.getD ((ln l) - 1).toNat default).ts ≥ c.ts))) rfl (wantB_t _) (.c 21 rfl id (.c 23 rfl id .z)) (fun hp _ hw => Ob_c tMv rfl) fun a Z => ?_
  refine qO Z (vT ((decide ((ln l) > 0)) && (decide ((l.getD ((ln l) - 1).toNat default).ts ≥ c.ts)))) rfl (fun _ hw => Ob_pick rfl rfl rfl rfl (pick_and _ _)) fun a Z => ?_
  refine q_runk tMv Z 1 rfl rfl fun a Z => ?_
  refine q_end Z [0, 3, 4, 5, 10] rfl fun w2 hb Z => ?_
  replace H := H.blw hb
  clear hb
  refine p_then ?_
  refine f_cond Z rfl (fun hc2 => ?_) (fun hc2 => ?_)
  ·replace hF := ite_t hc2 hF
   refine sR Z fun Z => ?_
   refine s_runk tMv Z 2 rfl rfl fun a Z => ?_
   refine s_end Z [0, 3, 4, 5] rfl fun Z => ?_
   refine p_then (wp_ret ?_)
   refine p_blk_r ?_
   refine p_then_r ?_
   replace H := H.slNil NECell
   obtain rfl := some_in hF
   exact f_ret Z (run_results2 rfl Z rfl rfl) ⟨nS, rfl, I, (H.sub [(0, true)] rfl).eq rfl⟩
  ·replace hF := ite_f hc2 hF
   refine wp_skip ?_
   refine p_blk ?_
   refine p_then (wp_seq ?_)
   obtain ⟨c_2, hx1, hF⟩ := bnd_in hF
   obtain ⟨hg3, hF⟩ := chk_in hF
   refine f_regionG Z (by kernel_rfl) (by kernel_rfl) (by decide) (by decide) [1, 3, 4] [(0, [0, 2]), (1, [0, 2]), (0, [0, 1]), (4, [0, 1]), (15, [3]), (31, [7]), (63, [7])] (by kernel_rfl) (fun jj => match jj with | 5 => 4 | _ => jj) (by kernel_rfl) (fun jj rv vv => match jj with | 0 => vv = v1_l | 1 => True | 2 => vv = .agg #[vU c.ts, vS c.val, vT c.del] | 3 => vv = .slice (some ⟨blkOf vv, 0, none⟩) 1 1 | 4 => True | 5 => vv = rv | 6 => vv = vI 0 | _ => True) (fun ss vals1 xw => match ss with | 0 => Gx I D w I w2 xw [BxC b1 137 [vU c.ts, vS c.val, vT c.del], SlC NECell v1_l l] | 1 => Gx I D w I w2 xw [OwC NECell 137 (vals1 1) c_2, BxC b1 137 [vU c.ts, vS c.val, vT c.del], SlC NECell v1_l l] | 2 => Gx I D w I w2 xw [BxC (blkOf (vals1 3)) 137 [vU c.ts, vS c.val, vT c.del], BxC b1 137 [vU c.ts, vS c.val, vT c.del], SlC NECell v1_l l] | 3 => Gx I D w I w2 xw [BxC (blkOf (vals1 3)) 137 [vU c.ts, vS c.val, vT c.del], OwC NECell 137 (vals1 1) c_2, BxC b1 137 [vU c.ts, vS c.val, vT c.del], SlC NECell v1_l l] | _ => Gx I D w I w2 xw [OwC NECell 137 (vals1 4) (c_2 ++ [c]), BxC b1 137 [vU c.ts, vS c.val, vT c.del], SlC NECell v1_l l]) (fun _ => Gx.start H) ?_ ?_
   ·intro fr hfr hfe
    refine .cons (fun ss hs vals1 xw hG hV => ?_) ?_
    ·obtain rfl | rfl : ss = 0 ∨ ss = 2 := by simpa using hs
     all_goals
     ·rw [← hfe]
      have hS := (hfr vals1).sub (ts := [0]) rfl
      exact L_val hS rfl (Ob_c tMv rfl) ⟨rfl, hG⟩
    refine .cons (fun ss hs vals1 xw hG hV => ?_) ?_
    ·obtain rfl | rfl : ss = 0 ∨ ss = 2 := by simpa using hs
     ·rw [← hfe]
      have hS := (hfr vals1).sub (ts := [26]) rfl
      replace hS := hS.conv (t := 26) rfl (show (vals1 0) = v1_l from hV 0 (by decide))
      obtain ⟨I2, hI2, H⟩ := Gx.ex hG
      refine L_hcall H (js := [(1, true)]) rfl (caps := #[]) hS fn_96_YMv rfl rfl rfl rfl rfl (fun D1 hS => have hq := c_slices_Clone_api_Cell_api_Cell hx1 hS; hq) fun _ yw D1 hr hF2 => ?_
      obtain ⟨q0_, rfl, I3, K⟩ := hr
      obtain ⟨hK, H2⟩ := hF2 K
      exact ⟨trivial, Gx.go hG hI2 hK K.imm H2⟩
     ·rw [← hfe]
      have hS := (hfr vals1).sub (ts := [26]) rfl
      replace hS := hS.conv (t := 26) rfl (show (vals1 0) = v1_l from hV 0 (by decide))
      obtain ⟨I2, hI2, H⟩ := Gx.ex hG
      refine L_hcall H (js := [(2, true)]) rfl (caps := #[]) hS fn_96_YMv rfl rfl rfl rfl rfl (fun D1 hS => have hq := c_slices_Clone_api_Cell_api_Cell hx1 hS; hq) fun _ yw D1 hr hF2 => ?_
      obtain ⟨q0_, rfl, I3, K⟩ := hr
      obtain ⟨hK, H2⟩ := hF2 K
      exact ⟨trivial, Gx.go hG hI2 hK K.imm (Hf.sub H2 [(1, false), (0, false), (0, false), (0, true)] rfl)⟩
    refine .cons (fun ss hs vals1 xw hG hV => ?_) ?_
    ·obtain rfl | rfl : ss = 0 ∨ ss = 1 := by simpa using hs
     ·rw [← hfe]
      have hS := (hfr vals1).sub (ts := [3]) rfl
      obtain ⟨I2, hI2, H⟩ := Gx.ex hG
      exact L_val hS rfl (oA tMv rfl rfl ((H.bx 0 rfl).part 0 rfl)) ⟨rfl, hG⟩
     ·rw [← hfe]
      have hS := (hfr vals1).sub (ts := [3]) rfl
      obtain ⟨I2, hI2, H⟩ := Gx.ex hG
      exact L_val hS rfl (oA tMv rfl rfl ((H.bx 1 rfl).part 0 rfl)) ⟨rfl, hG⟩
    refine .cons (fun ss hs vals1 xw hG hV => ?_) ?_
    ·obtain rfl | rfl : ss = 0 ∨ ss = 1 := by simpa using hs
     all_goals
     ·rw [← hfe]
      have hS := (hfr vals1).sub (ts := [28]) rfl
      replace hS := hS.conv (t := 28) rfl (show (vals1 2) = .agg #[vU c.ts, vS c.val, vT c.del] from hV 2 (by decide))
      obtain ⟨I2, hI2, H⟩ := Gx.ex hG
      exact L_bslice H (vs := [(0, .agg #[vU c.ts, vS c.val, vT c.del])]) (cl := [vU c.ts, vS c.val, vT c.del]) (e := 137) hS rfl rfl rfl (fun w => run_bslice (z := .agg #[vU 0, vS ByteArray.empty, vT false]) (m := 3) Tryz.underlying90 (by kernel_rfl) rfl rfl (by decide) (by simp [Instr.fill, Value.cells]) w) fun yw b hK H => ⟨rfl, Gx.go hG hI2 hK (fun _ h => h) H⟩
    refine .cons (fun ss hs vals1 xw hG hV => ?_) ?_
    ·obtain rfl : ss = 3 := by simpa using hs
     rw [← hfe]
     have hS := (hfr vals1).sub (ts := [27, 29]) rfl
     replace hS := hS.conv (t := 29) rfl (show (vals1 3) = .slice (some ⟨blkOf (vals1 3), 0, none⟩) 1 1 from hV 3 (by decide))
     obtain ⟨I2, hI2, H⟩ := Gx.ex hG
     exact L_appO H 1 E_90_YMv [c] rfl rfl hS rfl rfl rfl rfl (slRep2.box1 (H.bx 0 rfl) ⟨rfl, trivial⟩) hg3 (by decide) fun v yw hK H => ⟨trivial, Gx.go hG hI2 hK (fun _ h => h) (H.sub [(0, false), (1, false), (1, true)] rfl)⟩
    refine .cons (fun ss hs vals1 xw hG hV => ?_) ?_
    ·obtain rfl : ss = 7 := by simpa using hs
     rw [← hfe]
     have hS := (hfr vals1).sub (ts := [30]) rfl
     exact L_val hS rfl (Ob_c tMv rfl) ⟨rfl, hG⟩
    refine .cons (fun ss hs vals1 xw hG hV => ?_) ?_
    ·obtain rfl : ss = 7 := by simpa using hs
     rw [← hfe]
     have hS := (hfr vals1).sub (ts := []) rfl
     exact L_val hS rfl (Ob_c tMv rfl) ⟨rfl, hG⟩
    exact .nil
   ·intro vals1 a w3 Z hG hV
    replace Z := Z.sub (ts := [4, 5]) (S' := [(4, vals1 5), (5, vals1 6)]) rfl
    replace Z := Z.conv (t := 4) rfl (show (vals1 5) = (vals1 4) from hV 5 (by decide))
    replace Z := Z.conv (t := 5) rfl (show (vals1 6) = vI 0 from hV 6 (by decide))
    obtain ⟨I1, _, H⟩ := Gx.ex hG
    clear hG hV
    replace Z := Z.sub (ts := [4, 5]) rfl
    replace H := H.nf rfl; try dsimp only at H
    refine p_then (wp_ret ?_)
    obtain ⟨I2, _, H⟩ := H.frzow 0 rfl
    replace H := H.nf rfl; try dsimp only at H
    obtain rfl := some_in hF
    exact f_ret Z (run_results2 rfl Z rfl rfl) ⟨(vals1 4), rfl, I2, (H.sub [(0, true)] rfl).eq rfl⟩

def F_keys_Check (k : ByteArray) : Option Int := if ((seqB k ⟨#[]⟩) || (decide ((k.size : Int) > 8))) = true then (some 10) else (some 0)

set_option maxHeartbeats 1000000 in
theorem c_keys_Check {I D : Dm} {k : ByteArray} {w : World} {rr : Int} (hF : F_keys_Check k = some rr) (H : St I D w []) :
  Calls Tryz.prog 103 #[vS k] w (Ret fun vv w' => vv = vI rr ∧ ∃ I', Hf I D w I' w' []) := by
 replace H := H.hf
 unfold F_keys_Check at hF
 refine f_enter 10 Tryz.func103 rfl rfl (Nat.le_of_ble_eq_true rfl) fun a Z => ?_
 replace Z := Z.sub (ts := [0]) rfl
 refine sR Z fun Z => ?_
 refine s_runk tMv Z 1 rfl rfl fun a Z => ?_
 refine s_end Z [0, 2] rfl fun Z => ?_
 refine p_then (wp_seq ?_)
 refine sR Z fun Z => ?_
 refine s_runk tMv Z 3 rfl rfl fun a Z => ?_
 refine gO Z (vS k) rfl (wantB_f _) (.n 0 rfl .z) (fun hp => Ob_c tMv rfl) fun a Z => ?_
 refine gO Z (vI (k.size : Int)) rfl (wantB_f _) (.c 6 rfl id .z) (fun hp => Ob_c tMv rfl) fun a Z => ?_
 refine gO Z (vT (decide ((k.size : Int) > 8))) rfl (wantB_f _) (.c 7 rfl id .z) (fun hp => Ob_c tMv rfl) fun a Z => ?_
 refine sO Z (vT ((seqB k ⟨#[]⟩) || (decide ((k.size : Int) > 8)))) rfl (Ob_pick rfl rfl rfl rfl (pick_or _ _)) fun a Z => ?_
 refine s_end Z [2, 9] rfl fun Z => ?_
 refine p_then ?_
 refine f_cond Z rfl (fun hc1 => ?_) (fun hc1 => ?_)
 ·replace hF := ite_t hc1 hF
  refine sR Z fun Z => ?_
  refine s_runk tMv Z 1 rfl rfl fun a Z => ?_
  refine s_end Z [2] rfl fun Z => ?_
  refine p_then (wp_ret ?_)
  refine p_then_r ?_
  obtain rfl := some_in hF
  exact f_ret Z (run_results1 rfl Z rfl) ⟨rfl, I, (H.sub [] rfl).eq rfl⟩
 ·replace hF := ite_f hc1 hF
  refine wp_skip ?_
  refine pR Z fun Z => ?_
  refine s_runk tMv Z 1 rfl rfl fun a Z => ?_
  refine s_end Z [2] rfl fun Z => ?_
  refine p_then (wp_ret ?_)
  obtain rfl := some_in hF
  exact f_ret Z (run_results1 rfl Z rfl) ⟨rfl, I, (H.sub [] rfl).eq rfl⟩

def F_ops_one (o : EOp) (ahead : ByteArray) (first : Bool) : Option Int := (F_keys_Check o.key).bind fun c => (if (c != 0) = true then (some 10) else (if (decide ((o.val.size : Int) > 8)) = true then (some 3) else (if (o.del && (!seqB o.val ⟨#[]⟩)) = true then (some 4) else (if ((!first) && (!sltB ahead o.key)) = true then (some 18) else (some 0)))))

set_option maxHeartbeats 1000000 in
theorem c_ops_one {I D : Dm} {o : EOp} {ahead : ByteArray} {first : Bool} {w : World} {rr : Int} (hF : F_ops_one o ahead first = some rr) (H : St I D w []) :
  Calls Tryz.prog 95 #[.agg #[vS o.key, vS o.val, vT o.del], vS ahead, vT first] w (Ret fun vv w' => vv = vI rr ∧ ∃ I', Hf I D w I' w' []) := by
 replace H := H.hf
 unfold F_ops_one at hF
 refine f_enter 34 Tryz.func95 rfl rfl (Nat.le_of_ble_eq_true rfl) fun a Z => ?_
 replace Z := Z.sub (ts := [0, 1, 2]) rfl
 refine sR Z fun Z => ?_
 refine hB Z H [vS o.key, vS o.val, vT o.del] rfl rfl rfl rfl fun a w1 b1 H Z => ?_
 refine s_runk tMv Z 1 rfl rfl fun a Z => ?_
 refine s_end Z [1, 2, 3, 6] rfl fun Z => ?_
 refine p_then (wp_seq ?_)
 refine wp_block ?_
 refine wp_seq ?_
 obtain ⟨c, hx1, hF⟩ := bnd_in hF
 refine f_region Z fun Z => ?_
 refine s_runk tMv Z 1 rfl rfl fun a Z => ?_
 refine sO Z _ rfl (oL tMv rfl rfl (H.bc 0 0 rfl rfl)) fun a Z => ?_
 refine hC Z H [] rfl #[] fn_103_YMv rfl rfl (fun D h => have q := c_keys_Check hx1 h; q) fun vv a w2 D2 hr hF2 Z => ?_
 obtain ⟨rfl, I1, K⟩ := hr
 have H := (hF2 K).nf rfl
 refine s_runk tMv Z 2 rfl rfl fun a Z => ?_
 refine s_end Z [1, 2, 3, 6, 7] rfl fun Z => ?_
 refine p_then ?_
 refine f_cond Z rfl (fun hc1 => ?_) (fun hc1 => ?_)
 ·replace hF := ite_t hc1 hF
  refine sR Z fun Z => ?_
  refine s_runk tMv Z 1 rfl rfl fun a Z => ?_
  refine s_end Z [6] rfl fun Z => ?_
  refine p_then (wp_ret ?_)
  refine p_blk_r ?_
  refine p_then_r ?_
  obtain rfl := some_in hF
  exact f_ret Z (run_results1 rfl Z rfl) ⟨rfl, I1, (H.sub [] rfl).eq rfl⟩
 ·replace hF := ite_f hc1 hF
  refine sR Z fun Z => ?_
  refine s_runk tMv Z 1 rfl rfl fun a Z => ?_
  refine sO Z _ rfl (oL tMv rfl rfl (H.bc 0 1 rfl rfl)) fun a Z => ?_
  refine s_runk tMv Z 3 rfl rfl fun a Z => ?_
  refine s_end Z [1, 2, 3, 6, 12] rfl fun Z => ?_
  refine p_then ?_
  refine f_cond Z rfl (fun hc2 => ?_) (fun hc2 => ?_)
  ·replace hF := ite_t hc2 hF
   refine sR Z fun Z => ?_
   refine s_runk tMv Z 1 rfl rfl fun a Z => ?_
   refine s_end Z [6] rfl fun Z => ?_
   refine p_then (wp_ret ?_)
   refine p_blk_r ?_
   refine p_then_r ?_
   obtain rfl := some_in hF
   exact f_ret Z (run_results1 rfl Z rfl) ⟨rfl, I1, (H.sub [] rfl).eq rfl⟩
  ·replace hF := ite_f hc2 hF
   refine sR Z fun Z => ?_
   refine s_runk tMv Z 1 rfl rfl fun a Z => ?_
   refine sO Z _ rfl (oL tMv rfl rfl (H.bc 0 2 rfl rfl)) fun a Z => ?_
   refine s_runk tMv Z 1 rfl rfl fun a Z => ?_
   refine gO Z (pp b1 1) rfl (wantB_t _) (.n 3 rfl .z) (fun hp => Ob_c tMv rfl) fun a Z => ?_
   refine gO Z _ rfl (wantB_t _) (.c 21 rfl id .z) (fun hp => oL tMv rfl rfl (H.bc 0 1 rfl rfl)) fun a Z => ?_
   refine gO Z (vT (!seqB o.val ⟨#[]⟩)) rfl (wantB_t _) (.c 22 rfl id .z) (fun hp => Ob_c tMv rfl) fun a Z => ?_
   refine sO Z (vT (o.del && (!seqB o.val ⟨#[]⟩))) rfl (Ob_pick rfl rfl rfl rfl (pick_and _ _)) fun a Z => ?_
   refine s_runk tMv Z 1 rfl rfl fun a Z => ?_
   refine s_end Z [1, 2, 3, 6, 17] rfl fun Z => ?_
   refine p_then ?_
   refine f_cond Z rfl (fun hc3 => ?_) (fun hc3 => ?_)
   ·replace hF := ite_t hc3 hF
    refine sR Z fun Z => ?_
    refine s_runk tMv Z 1 rfl rfl fun a Z => ?_
    refine s_end Z [6] rfl fun Z => ?_
    refine p_then (wp_ret ?_)
    refine p_blk_r ?_
    refine p_then_r ?_
    obtain rfl := some_in hF
    exact f_ret Z (run_results1 rfl Z rfl) ⟨rfl, I1, (H.sub [] rfl).eq rfl⟩
   ·replace hF := ite_f hc3 hF
    refine sR Z fun Z => ?_
    refine s_runk tMv Z 3 rfl rfl fun a Z => ?_
    refine gO Z (vS ahead) rfl (wantB_t _) (.n 1 rfl .z) (fun hp => Ob_c tMv rfl) fun a Z => ?_
    refine gO Z (pp b1 0) rfl (wantB_t _) (.n 3 rfl .z) (fun hp => Ob_c tMv rfl) fun a Z => ?_
    refine gO Z _ rfl (wantB_t _) (.c 30 rfl id .z) (fun hp => oL tMv rfl rfl (H.bc 0 0 rfl rfl)) fun a Z => ?_
    refine gO Z (vT (!sltB ahead o.key)) rfl (wantB_t _) (.c 29 rfl id (.c 31 rfl id .z)) (fun hp => Ob_c tMv rfl) fun a Z => ?_
    refine sO Z (vT ((!first) && (!sltB ahead o.key))) rfl (Ob_pick rfl rfl rfl rfl (pick_and _ _)) fun a Z => ?_
    refine s_runk tMv Z 1 rfl rfl fun a Z => ?_
    refine s_end Z [6, 25] rfl fun Z => ?_
    refine p_then ?_
    refine f_cond Z rfl (fun hc4 => ?_) (fun hc4 => ?_)
    ·replace hF := ite_t hc4 hF
     refine sR Z fun Z => ?_
     refine s_runk tMv Z 1 rfl rfl fun a Z => ?_
     refine s_end Z [6] rfl fun Z => ?_
     refine p_then (wp_ret ?_)
     refine p_blk_r ?_
     refine p_then_r ?_
     obtain rfl := some_in hF
     exact f_ret Z (run_results1 rfl Z rfl) ⟨rfl, I1, (H.sub [] rfl).eq rfl⟩
    ·replace hF := ite_f hc4 hF
     refine wp_skip ?_
     refine p_blk ?_
     refine pR Z fun Z => ?_
     refine s_runk tMv Z 1 rfl rfl fun a Z => ?_
     refine s_end Z [6] rfl fun Z => ?_
     refine p_then (wp_ret ?_)
     obtain rfl := some_in hF
     exact f_ret Z (run_results1 rfl Z rfl) ⟨rfl, I1, (H.sub [] rfl).eq rfl⟩

def F_ops_Check_l1 (b : EBatch) (rc : (ByteArray × Int) → Option Int) (sg : ByteArray × Int) : Option Int := match sg with | (ahead, x) => if (decide (x < (b.ops.length : Int))) = true then (chk ((0 : Int) ≤ x ∧ x < (b.ops.length : Int)) ((F_ops_one (b.ops.getD (x).toNat default) ahead (x == 0)).bind fun o => (if (o != 0) = true then (some o) else (chk (inI (x + 1)) (rc ((b.ops.getD (x).toNat default).key, x + 1)))))) else (some 0)

def F_ops_Check (b : EBatch) : Option Int := if ((decide (b.client < 0)) || (decide (b.client ≥ 3))) = true then (some 1) else (if ((decide (b.req < 1)) || (decide (b.req > 1073741824))) = true then (some 5) else (if (decide ((b.ops.length : Int) > 4)) = true then (some 6) else (iter (F_ops_Check_l1 b) FU (⟨#[]⟩, 0))))

set_option maxHeartbeats 1000000 in
theorem c_ops_Check {I D : Dm} {b : EBatch} {v1_b : Value} {w : World} {rr : Int} (hF : F_ops_Check b = some rr) (H : St I D w [SlC NEOp v1_b b.ops]) :
  Calls Tryz.prog 81 #[.agg #[vI b.client, vI b.req, v1_b]] w (Ret fun vv w' => vv = vI rr ∧ ∃ I', Hf I D w I' w' []) := by
 replace H := H.hf
 unfold F_ops_Check at hF
 refine f_enter 49 Tryz.func81 rfl rfl (Nat.le_of_ble_eq_true rfl) fun a Z => ?_
 replace Z := Z.sub (ts := [0]) rfl
 refine sR Z fun Z => ?_
 refine hB Z H [vI b.client, vI b.req, v1_b] rfl rfl rfl rfl fun a w1 b1 H Z => ?_
 refine s_runk tMv Z 1 rfl rfl fun a Z => ?_
 refine s_end Z [1, 2] rfl fun Z => ?_
 refine p_then (wp_seq ?_)
 refine wp_block ?_
 refine sR Z fun Z => ?_
 refine s_runk tMv Z 1 rfl rfl fun a Z => ?_
 refine sO Z _ rfl (oL tMv rfl rfl (H.bc 0 0 rfl rfl)) fun a Z => ?_
 refine s_runk tMv Z 2 rfl rfl fun a Z => ?_
 refine gO Z (pp b1 0) rfl (wantB_f _) (.n 1 rfl .z) (fun hp => Ob_c tMv rfl) fun a Z => ?_
 refine gO Z _ rfl (wantB_f _) (.c 12 rfl id .z) (fun hp => oL tMv rfl rfl (H.bc 0 0 rfl rfl)) fun a Z => ?_
 refine gO Z (vT (decide (b.client ≥ 3))) rfl (wantB_f _) (.c 13 rfl id .z) (fun hp => Ob_c tMv rfl) fun a Z => ?_
 refine sO Z (vT ((decide (b.client < 0)) || (decide (b.client ≥ 3)))) rfl (Ob_pick rfl rfl rfl rfl (pick_or _ _)) fun a Z => ?_
 refine s_runk tMv Z 1 rfl rfl fun a Z => ?_
 refine s_end Z [1, 2, 7] rfl fun Z => ?_
 refine p_then ?_
 refine f_cond Z rfl (fun hc1 => ?_) (fun hc1 => ?_)
 ·replace hF := ite_t hc1 hF
  refine sR Z fun Z => ?_
  refine s_runk tMv Z 1 rfl rfl fun a Z => ?_
  refine s_end Z [1, 2] rfl fun Z => ?_
  refine p_then (wp_ret ?_)
  refine p_blk_r ?_
  refine p_then_r ?_
  obtain rfl := some_in hF
  exact f_ret Z (run_results1 rfl Z rfl) ⟨rfl, I, (H.sub [] rfl).eq rfl⟩
 ·replace hF := ite_f hc1 hF
  refine sR Z fun Z => ?_
  refine s_runk tMv Z 1 rfl rfl fun a Z => ?_
  refine sO Z _ rfl (oL tMv rfl rfl (H.bc 0 1 rfl rfl)) fun a Z => ?_
  refine s_runk tMv Z 2 rfl rfl fun a Z => ?_
  refine gO Z (pp b1 1) rfl (wantB_f _) (.n 1 rfl .z) (fun hp => Ob_c tMv rfl) fun a Z => ?_
  refine gO Z _ rfl (wantB_f _) (.c 21 rfl id .z) (fun hp => oL tMv rfl rfl (H.bc 0 1 rfl rfl)) fun a Z => ?_
  refine gO Z (vT (decide (b.req > 1073741824))) rfl (wantB_f _) (.c 22 rfl id .z) (fun hp => Ob_c tMv rfl) fun a Z => ?_
  refine sO Z (vT ((decide (b.req < 1)) || (decide (b.req > 1073741824)))) rfl (Ob_pick rfl rfl rfl rfl (pick_or _ _)) fun a Z => ?_
  refine s_runk tMv Z 1 rfl rfl fun a Z => ?_
  refine s_end Z [1, 2, 16] rfl fun Z => ?_
  refine p_then ?_
  refine f_cond Z rfl (fun hc2 => ?_) (fun hc2 => ?_)
  ·replace hF := ite_t hc2 hF
   refine sR Z fun Z => ?_
   refine s_runk tMv Z 1 rfl rfl fun a Z => ?_
   refine s_end Z [1, 2] rfl fun Z => ?_
   refine p_then (wp_ret ?_)
   refine p_blk_r ?_
   refine p_then_r ?_
   obtain rfl := some_in hF
   exact f_ret Z (run_results1 rfl Z rfl) ⟨rfl, I, (H.sub [] rfl).eq rfl⟩
  ·replace hF := ite_f hc2 hF
   refine sR Z fun Z => ?_
   refine s_runk tMv Z 1 rfl rfl fun a Z => ?_
   refine sO Z _ rfl (oL tMv rfl rfl (H.bc 0 2 rfl rfl)) fun a Z => ?_
   refine sO Z (vI (ln b.ops)) rfl (Ob_slen tMv rfl rfl rfl (H.slshape 1 rfl)) fun a Z => ?_
   refine s_runk tMv Z 2 rfl rfl fun a Z => ?_
   refine s_end Z [1, 2, 25] rfl fun Z => ?_
   refine p_then ?_
   refine f_cond Z rfl (fun hc3 => ?_) (fun hc3 => ?_)
   ·replace hF := ite_t hc3 hF
    refine sR Z fun Z => ?_
    refine s_runk tMv Z 1 rfl rfl fun a Z => ?_
    refine s_end Z [1, 2] rfl fun Z => ?_
    refine p_then (wp_ret ?_)
    refine p_blk_r ?_
    refine p_then_r ?_
    obtain rfl := some_in hF
    exact f_ret Z (run_results1 rfl Z rfl) ⟨rfl, I, (H.sub [] rfl).eq rfl⟩
   ·replace hF := ite_f hc3 hF
    refine wp_skip ?_
    refine p_blk ?_
    refine pR Z fun Z => ?_
    refine s_runk tMv Z 1 rfl rfl fun a Z => ?_
    refine s_end Z [1, 2, 3] rfl fun Z => ?_
    refine p_then (wp_seq ?_)
    refine sR Z fun Z => ?_
    refine s_runk tMv Z 1 rfl rfl fun a Z => ?_
    refine sO Z _ rfl (oL tMv rfl rfl (H.bc 0 2 rfl rfl)) fun a Z => ?_
    refine sO Z (vI (ln b.ops)) rfl (Ob_slen tMv rfl rfl rfl (H.slshape 1 rfl)) fun a Z => ?_
    refine s_runk tMv Z 1 rfl rfl fun a Z => ?_
    refine s_end Z [2, 3, 31, 32, 33] rfl fun Z => ?_
    refine p_then (wp_block ?_)
    refine f_iter hF (fun sg a' w' => match sg with | (ahead, x) => Sl 49 [(2, vI 0), (3, vS ahead), (31, v1_b), (32, vI (ln b.ops)), (33, vI x)] a' ∧ ∃ I2, Hf I D w I2 w' [SlC NEOp v1_b b.ops]) ⟨Z.sub (ts := [2, 3, 31, 32, 33]) rfl, ⟨I, (H.sub [(1, true)] rfl).eq rfl⟩⟩ ?_
    rintro rc ⟨ahead, x⟩ a w2 ⟨Z, I1, H⟩ hF
    unfold F_ops_Check_l1 at hF
    try dsimp only at hF
    refine sR Z fun Z => ?_
    refine s_runk tMv Z 1 rfl rfl fun a Z => ?_
    refine s_end Z [2, 3, 31, 32, 33, 34] rfl fun Z => ?_
    refine p_then (wp_seq ?_)
    refine f_cond Z rfl (fun hc4 => ?_) (fun hc4 => ?_)
    ·replace hF := ite_t hc4 hF
     refine wp_skip ?_
     refine p_then (wp_seq ?_)
     refine wp_block ?_
     refine wp_seq ?_
     obtain ⟨hg1, hF⟩ := chk_in hF
     refine f_region Z fun Z => ?_
     refine s_runk tMv Z 1 rfl rfl fun a Z => ?_
     refine sO Z (.pointer (some ⟨blkOf v1_b, oofOf v1_b + (x).toNat * 3, none⟩)) rfl (Ob_sidx tMv rfl rfl rfl rfl (slPl (H.sl 0 rfl) hg1) hg1) fun a Z => ?_
     refine sO Z (.agg #[vS ((gi b.ops x).key), vS ((gi b.ops x).val), vT ((gi b.ops x).del)]) rfl (oA tMv rfl rfl ((slFl (H.sl 0 rfl) hg1).part 0 rfl)) fun a Z => ?_
     refine hA Z H [vS ByteArray.empty, vS ByteArray.empty, vT false] rfl rfl (by kernel_rfl) fun a w3 b2 H Z => ?_
     refine s_runk tMv Z 1 rfl rfl fun a Z => ?_
     refine hT tMv Z H 0 rfl rfl rfl rfl rfl (onR 3 rfl one_nil) (Nat.le_of_ble_eq_true rfl) rfl fun w4 H => ?_
     dsimp only [List.eraseIdx] at H
     refine s_end Z [2, 3, 31, 32, 33, 34, 35, 36, 37, 5, 4] rfl fun Z => ?_
     refine p_then (wp_seq ?_)
     refine wp_seq ?_
     obtain ⟨o, hx1, hF⟩ := bnd_in hF
     refine f_region Z fun Z => ?_
     refine sO Z (.agg #[vS ((gi b.ops x).key), vS ((gi b.ops x).val), vT ((gi b.ops x).del)]) rfl (oA tMv rfl rfl ((H.bx 0 rfl).part 0 rfl)) fun a Z => ?_
     refine s_runk tMv Z 3 rfl rfl fun a Z => ?_
     refine hC Z H [] rfl #[] fn_95_YMv rfl rfl (fun D h => have q := c_ops_one hx1 h; q) fun vv a w5 D2 hr hF2 Z => ?_
     obtain ⟨rfl, I2, K⟩ := hr
     have H := (hF2 K).nf rfl
     refine s_runk tMv Z 1 rfl rfl fun a Z => ?_
     refine s_end Z [2, 3, 31, 32, 33, 34, 35, 36, 37, 5, 4, 38, 39, 40, 41, 42, 6] rfl fun Z => ?_
     refine pR Z fun Z => ?_
     refine s_runk tMv Z 2 rfl rfl fun a Z => ?_
     refine s_end Z [2, 3, 31, 32, 33, 34, 35, 36, 37, 5, 4, 38, 39, 40, 41, 42, 6, 43, 44] rfl fun Z => ?_
     refine p_then ?_
     refine f_cond Z rfl (fun hc5 => ?_) (fun hc5 => ?_)
     ·replace hF := ite_t hc5 hF
      refine sR Z fun Z => ?_
      refine s_runk tMv Z 2 rfl rfl fun a Z => ?_
      refine s_end Z [2, 3, 31, 32, 33, 34, 35, 36, 37, 5, 4, 38, 39, 40, 41, 42, 6, 43, 44, 45] rfl fun Z => ?_
      refine p_then (wp_ret ?_)
      refine p_then_r ?_
      refine p_blk_r ?_
      refine p_then_r ?_
      refine p_then_r ?_
      refine p_blk_r ?_
      refine p_then_r ?_
      obtain rfl := some_in hF
      exact f_ret Z (run_results1 rfl Z rfl) ⟨rfl, I2, (H.sub [] rfl).eq rfl⟩
     ·replace hF := ite_f hc5 hF
      refine wp_skip ?_
      refine p_then ?_
      refine f_region Z fun Z => ?_
      refine s_runk tMv Z 1 rfl rfl fun a Z => ?_
      refine sO Z _ rfl (oL tMv rfl rfl (H.bc 0 0 rfl rfl)) fun a Z => ?_
      refine s_runk tMv Z 1 rfl rfl fun a Z => ?_
      refine s_end Z [2, 3, 31, 32, 33, 34, 35, 36, 37, 5, 4, 38, 39, 40, 41, 42, 6, 43, 44, 46, 47] rfl fun Z => ?_
      refine p_blk ?_
      refine p_then ?_
      obtain ⟨hg2, hF⟩ := chk_in hF
      refine f_region Z fun Z => ?_
      refine sO Z (vI (x + 1)) rfl (Ob_add rfl rfl rfl (wrI hg2)) fun a Z => ?_
      refine s_runk tMv Z 1 rfl rfl fun a Z => ?_
      refine s_end Z [2, 3, 31, 32, 33, 34, 35, 36, 37, 5, 4, 38, 39, 40, 41, 42, 6, 43, 44, 46, 47, 48] rfl fun Z => ?_
      refine p_then ?_
      exact ⟨((gi b.ops x).key, x + 1), ⟨Z.sub (ts := [2, 3, 31, 32, 33]) rfl, ⟨I2, (H.sub [(1, true)] rfl).eq rfl⟩⟩, hF⟩
    ·replace hF := ite_f hc4 hF
     refine wp_exit ?_
     refine p_then_x ?_
     refine p_then_x ?_
     refine f_exit_here ?_
     refine pR Z fun Z => ?_
     refine s_runk tMv Z 1 rfl rfl fun a Z => ?_
     refine s_end Z [2] rfl fun Z => ?_
     refine p_then (wp_ret ?_)
     obtain rfl := some_in hF
     exact f_ret Z (run_results1 rfl Z rfl) ⟨rfl, I1, (H.sub [] rfl).eq rfl⟩

def F_tree_Tree_api_Cell_none_nil : Option Bool := some true

set_option maxHeartbeats 1000000 in
theorem c_tree_Tree_api_Cell_none_nil {I D : Dm} {w : World} {rr : Bool} (hF : F_tree_Tree_api_Cell_none_nil = some rr) (H : St I D w []) :
  Calls Tryz.prog 84 #[nP] w (Ret fun vv w' => vv = vT rr ∧ ∃ I', Hf I D w I' w' []) := by
 replace H := H.hf
 unfold F_tree_Tree_api_Cell_none_nil at hF
 refine f_enter 12 Tryz.func84 rfl rfl (Nat.le_of_ble_eq_true rfl) fun a Z => ?_
 replace Z := Z.sub (ts := [0]) rfl
 refine sR Z fun Z => ?_
 refine s_runk tMv Z 1 rfl rfl fun a Z => ?_
 refine s_end Z [0, 2] rfl fun Z => ?_
 refine pR Z fun Z => ?_
 refine s_runk tMv Z 1 rfl rfl fun a Z => ?_
 refine sO Z (vT true) rfl (Ob_pnil rfl rfl rfl Tryz.underlying88 (.inl ⟨rfl, rfl⟩)) fun a Z => ?_
 refine s_runk tMv Z 1 rfl rfl fun a Z => ?_
 refine g_if Z rfl rfl rfl (p := false) rfl rfl (by decide) (fun h => by cases h) fun _ a Z => ?_
 refine g_if Z rfl rfl rfl (p := false) rfl rfl (by decide) (fun h => by cases h) fun _ a Z => ?_
 refine g_if Z rfl rfl rfl (p := false) rfl rfl (by decide) (fun h => by cases h) fun _ a Z => ?_
 refine g_if Z rfl rfl rfl (p := false) rfl rfl (by decide) (fun h => by cases h) fun _ a Z => ?_
 refine g_if Z rfl rfl rfl (p := false) rfl rfl (by decide) (fun h => by cases h) fun _ a Z => ?_
 refine sO Z (vT true) rfl (Ob_pick rfl rfl rfl rfl rfl) fun a Z => ?_
 refine s_runk tMv Z 1 rfl rfl fun a Z => ?_
 refine s_end Z [2] rfl fun Z => ?_
 refine p_then (wp_ret ?_)
 obtain rfl := some_in hF
 exact f_ret Z (run_results1 rfl Z rfl) ⟨rfl, I, (H.sub [] rfl).eq rfl⟩

def F_tree_Tree_api_Cell_Get_nil (k : ByteArray) : Option ((List ECell) × Bool) := (F_tree_Tree_api_Cell_none_nil).bind fun n0 => (if (n0) = true then (some (([] : List ECell), false)) else (none))

set_option maxHeartbeats 1000000 in
theorem c_tree_Tree_api_Cell_Get_nil {I D : Dm} {k : ByteArray} {w : World} {rr : (List ECell) × Bool} (hF : F_tree_Tree_api_Cell_Get_nil k = some rr) (H : St I D w []) :
  Calls Tryz.prog 47 #[nP, vS k] w (Ret fun vv w' => ∃ q1 : Value, vv = .tuple #[q1, vT rr.2] ∧ ∃ I', Hf I D w I' w' [SlC NECell q1 rr.1]) := by
 replace H := H.hf
 unfold F_tree_Tree_api_Cell_Get_nil at hF
 refine f_enter 46 Tryz.func47 rfl rfl (Nat.le_of_ble_eq_true rfl) fun a Z => ?_
 replace Z := Z.sub (ts := [0, 1]) rfl
 refine sR Z fun Z => ?_
 refine s_runk tMv Z 2 rfl rfl fun a Z => ?_
 refine s_end Z [0, 1, 4, 5] rfl fun Z => ?_
 refine pR Z fun Z => ?_
 refine s_runk tMv Z 1 rfl rfl fun a Z => ?_
 refine s_end Z [0, 1, 4, 5, 6] rfl fun Z => ?_
 refine p_then (wp_seq ?_)
 refine wp_seq ?_
 obtain ⟨n0, hx1, hF⟩ := bnd_in hF
 refine f_region Z fun Z => ?_
 refine s_runk tMv Z 1 rfl rfl fun a Z => ?_
 refine hC Z H [] rfl #[] fn_84_YMv rfl rfl (fun D h => have q := c_tree_Tree_api_Cell_none_nil hx1 h; q) fun vv a w1 D2 hr hF2 Z => ?_
 obtain ⟨rfl, I1, K⟩ := hr
 have H := (hF2 K).nf rfl
 refine s_end Z [0, 1, 4, 5, 6, 9] rfl fun Z => ?_
 refine p_then ?_
 refine f_cond Z rfl (fun hc1 => ?_) (fun hc1 => ?_)
 ·replace hF := ite_t hc1 hF
  refine sR Z fun Z => ?_
  refine s_runk tMv Z 3 rfl rfl fun a Z => ?_
  refine s_end Z [0, 1, 4, 5, 6] rfl fun Z => ?_
  refine p_then (wp_ret ?_)
  refine p_then_r ?_
  replace H := H.slNil NECell
  obtain rfl := some_in hF
  exact f_ret Z (run_results2 rfl Z rfl rfl) ⟨nS, rfl, I1, (H.sub [(0, true)] rfl).eq rfl⟩
 ·replace hF := ite_f hc1 hF
  refine wp_skip ?_
  refine p_then (wp_seq ?_)
  cases hF

def F_tree_Tree_api_Cell_Put_nil (k : ByteArray) (v : List ECell) : Option Bool := (F_tree_Tree_api_Cell_none_nil).bind fun n0 => (if (n0) = true then (some false) else (none))

set_option maxHeartbeats 1000000 in
theorem c_tree_Tree_api_Cell_Put_nil {I D : Dm} {k : ByteArray} {v : List ECell} {v1_v : Value} {w : World} {rr : Bool} (hF : F_tree_Tree_api_Cell_Put_nil k v = some rr) (H : St I D w [SlC NECell v1_v v]) :
  Calls Tryz.prog 83 #[nP, vS k, v1_v] w (Ret fun vv w' => vv = vT rr ∧ ∃ I', Hf I D w I' w' []) := by
 replace H := H.hf
 unfold F_tree_Tree_api_Cell_Put_nil at hF
 refine f_enter 33 Tryz.func83 rfl rfl (Nat.le_of_ble_eq_true rfl) fun a Z => ?_
 replace Z := Z.sub (ts := [0, 1, 2]) rfl
 refine sR Z fun Z => ?_
 refine s_runk tMv Z 1 rfl rfl fun a Z => ?_
 refine s_end Z [0, 1, 2, 6] rfl fun Z => ?_
 refine p_then (wp_seq ?_)
 refine wp_seq ?_
 obtain ⟨n0, hx1, hF⟩ := bnd_in hF
 refine f_region Z fun Z => ?_
 refine s_runk tMv Z 1 rfl rfl fun a Z => ?_
 refine hC Z H [] rfl #[] fn_84_YMv rfl rfl (fun D h => have q := c_tree_Tree_api_Cell_none_nil hx1 h; q) fun vv a w1 D2 hr hF2 Z => ?_
 obtain ⟨rfl, I1, K⟩ := hr
 have H := (hF2 K).nf rfl
 refine s_end Z [0, 1, 2, 6, 9] rfl fun Z => ?_
 refine p_then ?_
 refine f_cond Z rfl (fun hc1 => ?_) (fun hc1 => ?_)
 ·replace hF := ite_t hc1 hF
  refine sR Z fun Z => ?_
  refine s_runk tMv Z 1 rfl rfl fun a Z => ?_
  refine s_end Z [0, 1, 2, 6] rfl fun Z => ?_
  refine p_then (wp_ret ?_)
  refine p_then_r ?_
  obtain rfl := some_in hF
  exact f_ret Z (run_results1 rfl Z rfl) ⟨rfl, I1, (H.sub [] rfl).eq rfl⟩
 ·replace hF := ite_f hc1 hF
  refine wp_skip ?_
  refine pR Z fun Z => ?_
  refine s_runk tMv Z 1 rfl rfl fun a Z => ?_
  refine s_end Z [0, 1, 2, 6, 7] rfl fun Z => ?_
  refine p_then (wp_seq ?_)
  refine wp_seq ?_
  cases hF

def F_mvcc_Store_Put_l1 (ts : Int) (l : List EOp) (rc : (Int × Emvcc_Store) → Option (Int × Emvcc_Store)) (sg : Int × Emvcc_Store) : Option (Int × Emvcc_Store) := match sg with | (x, s0_2) => if (decide (x < (l.length : Int))) = true then (chk ((0 : Int) ≤ x ∧ x < (l.length : Int)) (optE s0_2.t ((F_tree_Tree_api_Cell_Get_nil ((l.getD (x).toNat default).key)).bind fun n0_2 => ((F_vers_Put n0_2.1 ({ ts := ts, val := (l.getD (x).toNat default).val, del := (l.getD (x).toNat default).del } : ECell)).bind fun p => ((F_tree_Tree_api_Cell_Put_nil ((l.getD (x).toNat default).key) p.1).bind fun n0_3 => (chk (inI (s0_2.n + 1)) (chk (inI (x + 1)) (rc (x + 1, ({ s0_2 with t := none, n := s0_2.n + 1 } : Emvcc_Store)))))))) (fun x_2 => (F_tree_Tree_api_Cell_Get x_2 ((l.getD (x).toNat default).key)).bind fun g => ((F_vers_Put g.1 ({ ts := ts, val := (l.getD (x).toNat default).val, del := (l.getD (x).toNat default).del } : ECell)).bind fun p_2 => ((F_tree_Tree_api_Cell_Put x_2 ((l.getD (x).toNat default).key) p_2.1).bind fun p_3 => (chk (inI (s0_2.n + 1)) (chk (inI (x + 1)) (rc (x + 1, ({ s0_2 with t := some p_3.2, n := s0_2.n + 1 } : Emvcc_Store)))))))))) else (some (0, ({ s0_2 with last := ts } : Emvcc_Store)))

def F_mvcc_Store_Put (s0 : Emvcc_Store) (ts : Int) (l : List EOp) : Option (Int × Emvcc_Store) := (F_mvcc_Store_none s0).bind fun n0 => (if (n0) = true then (some (8, s0)) else (if (ts == 0) = true then (some (5, s0)) else (if (decide (ts ≤ s0.last)) = true then (some (18, s0)) else ((F_ops_Check ({ client := 0, req := 1, ops := l } : EBatch)).bind fun c => (if (c != 0) = true then (some (c, s0)) else (iter (F_mvcc_Store_Put_l1 ts l) FU (0, s0)))))))

set_option maxHeartbeats 1000000 in
theorem c_mvcc_Store_Put {I D : Dm} {b_s0 : Nat} {s0 : Emvcc_Store} {ts : Int} {l : List EOp} {v1_l : Value} {w : World} {rr : Int × Emvcc_Store} (hF : F_mvcc_Store_Put s0 ts l = some rr) (H : St I D w [OEmvcc_Store b_s0 s0, SlC NEOp v1_l l]) :
  Calls Tryz.prog 45 #[pp b_s0 0, vU ts, v1_l] w (Ret fun vv w' => vv = vI rr.1 ∧ ∃ I', Hf I D w I' w' [OEmvcc_Store b_s0 rr.2]) := by
 replace H := H.hf
 unfold F_mvcc_Store_Put at hF
 refine f_enter 80 Tryz.func45 rfl rfl (Nat.le_of_ble_eq_true rfl) fun a Z => ?_
 replace Z := Z.sub (ts := [0, 1, 2]) rfl
 refine sR Z fun Z => ?_
 refine s_runk tMv Z 1 rfl rfl fun a Z => ?_
 refine s_end Z [0, 1, 2, 6] rfl fun Z => ?_
 refine p_then (wp_seq ?_)
 refine wp_block ?_
 refine wp_seq ?_
 obtain ⟨n0, hx1, hF⟩ := bnd_in hF
 refine f_region Z fun Z => ?_
 refine s_runk tMv Z 1 rfl rfl fun a Z => ?_
 refine hC Z H [(0, false)] rfl #[] fn_46_YMv rfl rfl (fun D h => have q := c_mvcc_Store_none hx1 h; q) fun vv a w1 D2 hr hF2 Z => ?_
 obtain ⟨rfl, I1, K⟩ := hr
 have H := (hF2 K).nf rfl
 refine s_runk tMv Z 1 rfl rfl fun a Z => ?_
 refine s_end Z [0, 1, 2, 6, 14] rfl fun Z => ?_
 refine p_then ?_
 refine f_cond Z rfl (fun hc1 => ?_) (fun hc1 => ?_)
 ·replace hF := ite_t hc1 hF
  refine sR Z fun Z => ?_
  refine s_runk tMv Z 1 rfl rfl fun a Z => ?_
  refine s_end Z [0, 1, 2, 6] rfl fun Z => ?_
  refine p_then (wp_ret ?_)
  refine p_blk_r ?_
  refine p_then_r ?_
  obtain rfl := some_in hF
  exact f_ret Z (run_results1 rfl Z rfl) ⟨rfl, I1, (H.sub [(0, false)] rfl).eq rfl⟩
 ·replace hF := ite_f hc1 hF
  refine sR Z fun Z => ?_
  refine s_runk tMv Z 3 rfl rfl fun a Z => ?_
  refine s_end Z [0, 1, 2, 6, 17] rfl fun Z => ?_
  refine p_then ?_
  refine f_cond Z rfl (fun hc2 => ?_) (fun hc2 => ?_)
  ·replace hF := ite_t hc2 hF
   refine sR Z fun Z => ?_
   refine s_runk tMv Z 1 rfl rfl fun a Z => ?_
   refine s_end Z [0, 1, 2, 6] rfl fun Z => ?_
   refine p_then (wp_ret ?_)
   refine p_blk_r ?_
   refine p_then_r ?_
   obtain rfl := some_in hF
   exact f_ret Z (run_results1 rfl Z rfl) ⟨rfl, I1, (H.sub [(0, false)] rfl).eq rfl⟩
  ·replace hF := ite_f hc2 hF
   refine sR Z fun Z => ?_
   refine s_runk tMv Z 4 rfl rfl fun a Z => ?_
   obtain ⟨v2, H⟩ := H.openX 0 rfl
   replace H := H.nf rfl; try dsimp only at H
   refine sO Z _ rfl (oL tMv rfl rfl (H.bc 0 1 rfl rfl)) fun a Z => ?_
   refine s_runk tMv Z 2 rfl rfl fun a Z => ?_
   refine s_end Z [0, 1, 2, 6, 20] rfl fun Z => ?_
   refine p_then ?_
   refine f_cond Z rfl (fun hc3 => ?_) (fun hc3 => ?_)
   ·replace hF := ite_t hc3 hF
    refine sR Z fun Z => ?_
    refine s_runk tMv Z 1 rfl rfl fun a Z => ?_
    refine s_end Z [0, 1, 2, 6] rfl fun Z => ?_
    refine p_then (wp_ret ?_)
    refine p_blk_r ?_
    refine p_then_r ?_
    replace H := H.sX (OEmvcc_Store b_s0 s0) (v2) [(0, false), (0, false)] rfl rfl rfl
    obtain rfl := some_in hF
    exact f_ret Z (run_results1 rfl Z rfl) ⟨rfl, I1, (H.sub [(0, false)] rfl).eq rfl⟩
   ·replace hF := ite_f hc3 hF
    refine wp_skip ?_
    refine p_blk ?_
    refine p_then (wp_seq ?_)
    refine wp_seq ?_
    obtain ⟨c, hx2, hF⟩ := bnd_in hF
    refine f_region Z fun Z => ?_
    refine s_runk tMv Z 1 rfl rfl fun a Z => ?_
    refine sO Z (.agg #[vI 0, vI 1, v1_l]) rfl (Ob_build (vs := [(1, vI 1), (2, v1_l)]) rfl rfl (by obtain ⟨_, _, e, _⟩ := (H.slshape 2 rfl); rw [e]; clear e; go_simp <;> rfl)) fun a Z => ?_
    refine hC Z H [(2, true)] rfl #[] fn_81_YMv rfl rfl (fun D h => have q := c_ops_Check hx2 h; q) fun vv a w2 D2 hr hF2 Z => ?_
    obtain ⟨rfl, I2, K⟩ := hr
    have H := (hF2 K).nf rfl
    refine s_runk tMv Z 1 rfl rfl fun a Z => ?_
    refine s_end Z [0, 1, 2, 6, 7] rfl fun Z => ?_
    refine pR Z fun Z => ?_
    refine s_runk tMv Z 2 rfl rfl fun a Z => ?_
    refine s_end Z [0, 1, 2, 6, 7, 31] rfl fun Z => ?_
    refine p_then ?_
    refine f_cond Z rfl (fun hc4 => ?_) (fun hc4 => ?_)
    ·replace hF := ite_t hc4 hF
     refine sR Z fun Z => ?_
     refine s_runk tMv Z 2 rfl rfl fun a Z => ?_
     refine s_end Z [0, 1, 2, 6] rfl fun Z => ?_
     refine p_then (wp_ret ?_)
     refine p_then_r ?_
     replace H := H.sX (OEmvcc_Store b_s0 s0) (v2) [(0, false), (0, false)] rfl rfl rfl
     obtain rfl := some_in hF
     exact f_ret Z (run_results1 rfl Z rfl) ⟨rfl, I2, (H.sub [(0, false)] rfl).eq rfl⟩
    ·replace hF := ite_f hc4 hF
     refine wp_skip ?_
     refine p_then (wp_seq ?_)
     refine sR Z fun Z => ?_
     refine s_runk tMv Z 1 rfl rfl fun a Z => ?_
     refine sO Z (vI (ln l)) rfl (Ob_slen tMv rfl rfl rfl (H.slshape 2 rfl)) fun a Z => ?_
     refine s_runk tMv Z 1 rfl rfl fun a Z => ?_
     refine s_end Z [0, 1, 6, 33, 34, 35] rfl fun Z => ?_
     refine p_then (wp_block ?_)
     replace H := H.sX (OEmvcc_Store b_s0 s0) (v2) [(0, false), (0, false)] rfl rfl rfl
     refine f_iter hF (fun sg a' w' => match sg with | (x, s0_2) => Sl 80 [(0, pp b_s0 0), (1, vU ts), (6, vI 0), (33, v1_l), (34, vI (ln l)), (35, vI x)] a' ∧ ∃ I2, Hf I D w I2 w' [OEmvcc_Store b_s0 s0_2, SlC NEOp v1_l l]) ⟨Z.sub (ts := [0, 1, 6, 33, 34, 35]) rfl, ⟨I2, (H.sub [(0, false), (0, true)] rfl).eq rfl⟩⟩ ?_
     rintro rc ⟨x, s0_2⟩ a w3 ⟨Z, I3, H⟩ hF
     unfold F_mvcc_Store_Put_l1 at hF
     try dsimp only at hF
     refine sR Z fun Z => ?_
     refine s_runk tMv Z 1 rfl rfl fun a Z => ?_
     refine s_end Z [0, 1, 6, 33, 34, 35, 36] rfl fun Z => ?_
     refine p_then (wp_seq ?_)
     refine f_cond Z rfl (fun hc5 => ?_) (fun hc5 => ?_)
     ·replace hF := ite_t hc5 hF
      refine wp_skip ?_
      refine p_then (wp_seq ?_)
      refine wp_block ?_
      refine wp_seq ?_
      obtain ⟨hg1, hF⟩ := chk_in hF
      refine f_region Z fun Z => ?_
      refine sO Z (.pointer (some ⟨blkOf v1_l, oofOf v1_l + (x).toNat * 3, none⟩)) rfl (Ob_sidx tMv rfl rfl rfl rfl (slPl (H.sl 1 rfl) hg1) hg1) fun a Z => ?_
      refine sO Z (.agg #[vS ((gi l x).key), vS ((gi l x).val), vT ((gi l x).del)]) rfl (oA tMv rfl rfl ((slFl (H.sl 1 rfl) hg1).part 0 rfl)) fun a Z => ?_
      refine hA Z H [vS ByteArray.empty, vS ByteArray.empty, vT false] rfl rfl (by kernel_rfl) fun a w4 b1 H Z => ?_
      refine hT tMv Z H 0 rfl rfl rfl rfl rfl (onR 3 rfl one_nil) (Nat.le_of_ble_eq_true rfl) rfl fun w5 H => ?_
      dsimp only [List.eraseIdx] at H
      refine s_end Z [0, 1, 6, 33, 34, 35, 36, 37, 38, 9] rfl fun Z => ?_
      refine p_then (wp_seq ?_)
      obtain ⟨v3, H⟩ := H.openX 1 rfl
      replace H := H.nf rfl; try dsimp only at H
      rcases optE_in hF with ⟨ho1, hF⟩ | ⟨x_2, ho1, hF⟩
      ·obtain ⟨hv, H⟩ := H.optN 1 rfl ho1
       (try have Zq21 := Z); subst hv; (try have Z := Zq21)
       replace H := H.nf rfl; try dsimp only at H
       obtain ⟨n0_2, hx3, hF⟩ := bnd_in hF
       refine f_regionM Z (by kernel_rfl) (by kernel_rfl) (by decide) (by decide) [6] [(0, 0, 0), (1, 0, 0), (3, 0, 0), (7, 0, 0), (0, 0, 0), (16, 0, 0), (63, 0, 0), (127, 1, 1), (255, 1, 1), (255, 1, 1), (511, 1, 1), (2047, 1, 1)] (by kernel_rfl) (fun jj => match jj with | 7 => 6 | 8 => 6 | 10 => 6 | _ => jj) (by kernel_rfl) (fun jj rv vv => match jj with | 0 => vv = pp b_s0 0 | 1 => vv = pp b_s0 0 | 2 => vv = pp b_s0 0 | 3 => vv = nP | 4 => vv = pp b1 0 | 5 => vv = vS ((gi l x).key) | 6 => vv = .tuple #[(tupAt vv 0), vT n0_2.2] | 7 => vv = .tuple #[(tupAt rv 0), vT n0_2.2] | 8 => vv = (tupAt rv 0) | 9 => vv = vT n0_2.2 | 10 => vv = (tupAt rv 0) | 11 => vv = vT n0_2.2 | _ => True) (fun ss vals1 xw => match ss with | 0 => Gx I D w I3 w5 xw [BxC b_s0 92 [nP, vU s0_2.last, vI s0_2.n], BxC b1 58 [vS ((gi l x).key), vS ((gi l x).val), vT ((gi l x).del)], SlC NEOp v1_l l] | _ => Gx I D w I3 w5 xw [SlC NECell (tupAt (vals1 6) 0) n0_2.1, BxC b_s0 92 [nP, vU s0_2.last, vI s0_2.n], BxC b1 58 [vS ((gi l x).key), vS ((gi l x).val), vT ((gi l x).del)], SlC NEOp v1_l l]) (fun _ => Gx.start H) ?_ ?_
       ·intro fr hfr hfe
        refine .cons (fun ss hlo hhi vals1 xw hG hV => ?_) ?_
        ·obtain rfl : ss = 0 := Nat.le_antisymm hhi hlo
         rw [← hfe]
         have hS := (hfr vals1).sub (ts := [0]) rfl
         exact L_val hS rfl (Ob_c tMv rfl) ⟨rfl, hG⟩
        refine .cons (fun ss hlo hhi vals1 xw hG hV => ?_) ?_
        ·obtain rfl : ss = 0 := Nat.le_antisymm hhi hlo
         rw [← hfe]
         have hS := (hfr vals1).sub (ts := [40]) rfl
         replace hS := hS.conv (t := 40) rfl (show (vals1 0) = pp b_s0 0 from hV 0 (by decide))
         exact L_val hS rfl (Ob_c tMv rfl) ⟨rfl, hG⟩
        refine .cons (fun ss hlo hhi vals1 xw hG hV => ?_) ?_
        ·obtain rfl : ss = 0 := Nat.le_antisymm hhi hlo
         rw [← hfe]
         have hS := (hfr vals1).sub (ts := [41]) rfl
         replace hS := hS.conv (t := 41) rfl (show (vals1 1) = pp b_s0 0 from hV 1 (by decide))
         exact L_val hS rfl (Ob_c tMv rfl) ⟨rfl, hG⟩
        refine .cons (fun ss hlo hhi vals1 xw hG hV => ?_) ?_
        ·obtain rfl : ss = 0 := Nat.le_antisymm hhi hlo
         rw [← hfe]
         have hS := (hfr vals1).sub (ts := [42]) rfl
         replace hS := hS.conv (t := 42) rfl (show (vals1 2) = pp b_s0 0 from hV 2 (by decide))
         obtain ⟨I2, hI2, H⟩ := Gx.ex hG
         exact L_val hS rfl (oL tMv rfl rfl (H.bc 0 0 rfl rfl)) ⟨rfl, hG⟩
        refine .cons (fun ss hlo hhi vals1 xw hG hV => ?_) ?_
        ·obtain rfl : ss = 0 := Nat.le_antisymm hhi hlo
         rw [← hfe]
         have hS := (hfr vals1).sub (ts := [9]) rfl
         exact L_val hS rfl (Ob_c tMv rfl) ⟨rfl, hG⟩
        refine .cons (fun ss hlo hhi vals1 xw hG hV => ?_) ?_
        ·obtain rfl : ss = 0 := Nat.le_antisymm hhi hlo
         rw [← hfe]
         have hS := (hfr vals1).sub (ts := [44]) rfl
         replace hS := hS.conv (t := 44) rfl (show (vals1 4) = pp b1 0 from hV 4 (by decide))
         obtain ⟨I2, hI2, H⟩ := Gx.ex hG
         exact L_val hS rfl (oL tMv rfl rfl (H.bc 1 0 rfl rfl)) ⟨rfl, hG⟩
        refine .cons (fun ss hlo hhi vals1 xw hG hV => ?_) ?_
        ·obtain rfl : ss = 0 := Nat.le_antisymm hhi hlo
         rw [← hfe]
         have hS := (hfr vals1).sub (ts := [43, 45]) rfl
         replace hS := hS.conv (t := 43) rfl (show (vals1 3) = nP from hV 3 (by decide))
         replace hS := hS.conv (t := 45) rfl (show (vals1 5) = vS ((gi l x).key) from hV 5 (by decide))
         obtain ⟨I2, hI2, H⟩ := Gx.ex hG
         refine L_hcall H (js := []) rfl (caps := #[]) hS fn_47_YMv rfl rfl rfl rfl rfl (fun D1 hS => have hq := c_tree_Tree_api_Cell_Get_nil hx3 hS; hq) fun _ yw D1 hr hF2 => ?_
         obtain ⟨q0_, rfl, I3, K⟩ := hr
         obtain ⟨hK, H2⟩ := hF2 K
         exact ⟨rfl, Gx.go hG hI2 hK K.imm H2⟩
        refine .cons (fun ss hlo hhi vals1 xw hG hV => ?_) ?_
        ·obtain rfl : ss = 1 := Nat.le_antisymm hhi hlo
         rw [← hfe]
         have hS := (hfr vals1).sub (ts := [46]) rfl
         replace hS := hS.conv (t := 46) rfl (show (vals1 6) = .tuple #[(tupAt (vals1 6) 0), vT n0_2.2] from hV 6 (by decide))
         exact L_val hS rfl (Ob_c tMv rfl) ⟨rfl, hG⟩
        refine .cons (fun ss hlo hhi vals1 xw hG hV => ?_) ?_
        ·obtain rfl : ss = 1 := Nat.le_antisymm hhi hlo
         rw [← hfe]
         have hS := (hfr vals1).sub (ts := [39]) rfl
         replace hS := hS.conv (t := 39) rfl (show (vals1 7) = .tuple #[(tupAt (vals1 6) 0), vT n0_2.2] from hV 7 (by decide))
         exact L_val hS rfl (Ob_c tMv rfl) ⟨rfl, hG⟩
        refine .cons (fun ss hlo hhi vals1 xw hG hV => ?_) ?_
        ·obtain rfl : ss = 1 := Nat.le_antisymm hhi hlo
         rw [← hfe]
         have hS := (hfr vals1).sub (ts := [39]) rfl
         replace hS := hS.conv (t := 39) rfl (show (vals1 7) = .tuple #[(tupAt (vals1 6) 0), vT n0_2.2] from hV 7 (by decide))
         exact L_val hS rfl (Ob_c tMv rfl) ⟨rfl, hG⟩
        refine .cons (fun ss hlo hhi vals1 xw hG hV => ?_) ?_
        ·obtain rfl : ss = 1 := Nat.le_antisymm hhi hlo
         rw [← hfe]
         have hS := (hfr vals1).sub (ts := [47]) rfl
         replace hS := hS.conv (t := 47) rfl (show (vals1 8) = (tupAt (vals1 6) 0) from hV 8 (by decide))
         exact L_val hS rfl (Ob_c tMv rfl) ⟨rfl, hG⟩
        refine .cons (fun ss hlo hhi vals1 xw hG hV => ?_) ?_
        ·obtain rfl : ss = 1 := Nat.le_antisymm hhi hlo
         rw [← hfe]
         have hS := (hfr vals1).sub (ts := [48]) rfl
         replace hS := hS.conv (t := 48) rfl (show (vals1 9) = vT n0_2.2 from hV 9 (by decide))
         exact L_val hS rfl (Ob_c tMv rfl) ⟨rfl, hG⟩
        exact .nil
       ·intro vals1 a w6 Z hG hV
        replace Z := Z.sub (ts := [0, 1, 6, 33, 34, 35, 36, 37, 38, 9, 40, 41, 42, 43, 44, 45, 46, 39, 47, 48, 10]) (S' := [(0, pp b_s0 0), (1, vU ts), (6, vI 0), (33, v1_l), (34, vI (ln l)), (35, vI x), (36, vT (decide (x < (ln l)))), (37, .pointer (some ⟨blkOf v1_l, oofOf v1_l + (x).toNat * 3, none⟩)), (38, .agg #[vS ((gi l x).key), vS ((gi l x).val), vT ((gi l x).del)]), (9, pp b1 0), (40, vals1 0), (41, vals1 1), (42, vals1 2), (43, vals1 3), (44, vals1 4), (45, vals1 5), (46, vals1 6), (39, vals1 7), (47, vals1 8), (48, vals1 9), (10, vals1 10)]) rfl
        replace Z := Z.conv (t := 40) rfl (show (vals1 0) = pp b_s0 0 from hV 0 (by decide))
        replace Z := Z.conv (t := 41) rfl (show (vals1 1) = pp b_s0 0 from hV 1 (by decide))
        replace Z := Z.conv (t := 42) rfl (show (vals1 2) = pp b_s0 0 from hV 2 (by decide))
        replace Z := Z.conv (t := 43) rfl (show (vals1 3) = nP from hV 3 (by decide))
        replace Z := Z.conv (t := 44) rfl (show (vals1 4) = pp b1 0 from hV 4 (by decide))
        replace Z := Z.conv (t := 45) rfl (show (vals1 5) = vS ((gi l x).key) from hV 5 (by decide))
        replace Z := Z.conv (t := 46) rfl (show (vals1 6) = .tuple #[(tupAt (vals1 6) 0), vT n0_2.2] from hV 6 (by decide))
        replace Z := Z.conv (t := 39) rfl (show (vals1 7) = .tuple #[(tupAt (vals1 6) 0), vT n0_2.2] from hV 7 (by decide))
        replace Z := Z.conv (t := 47) rfl (show (vals1 8) = (tupAt (vals1 6) 0) from hV 8 (by decide))
        replace Z := Z.conv (t := 48) rfl (show (vals1 9) = vT n0_2.2 from hV 9 (by decide))
        replace Z := Z.conv (t := 10) rfl (show (vals1 10) = (tupAt (vals1 6) 0) from hV 10 (by decide))
        obtain ⟨I4, _, H⟩ := Gx.ex hG
        clear hG hV
        replace Z := Z.sub (ts := [0, 1, 6, 33, 34, 35, 36, 37, 38, 9, 40, 41, 42, 43, 44, 45, 46, 39, 47, 48, 10]) rfl
        replace H := H.nf rfl; try dsimp only at H
        refine p_then (wp_seq ?_)
        obtain ⟨p, hx4, hF⟩ := bnd_in hF
        refine f_region Z fun Z => ?_
        refine s_runk tMv Z 3 rfl rfl fun a Z => ?_
        refine sO Z _ rfl (oL tMv rfl rfl (H.bc 2 1 rfl rfl)) fun a Z => ?_
        refine s_runk tMv Z 1 rfl rfl fun a Z => ?_
        refine sO Z _ rfl (oL tMv rfl rfl (H.bc 2 2 rfl rfl)) fun a Z => ?_
        refine sO Z (.agg #[vU ts, vS ((gi l x).val), vT ((gi l x).del)]) rfl (Ob_build (vs := [(0, vU ts), (1, vS ((gi l x).val)), (2, vT ((gi l x).del))]) rfl rfl (by go_simp <;> rfl)) fun a Z => ?_
        refine hC Z H [(0, true)] rfl #[] fn_82_YMv rfl rfl (fun D h => have q := c_vers_Put hx4 h; q) fun vv a w7 D2 hr hF2 Z => ?_
        obtain ⟨q1, rfl, I5, K⟩ := hr
        have H := (hF2 K).nf rfl
        refine s_runk tMv Z 5 rfl rfl fun a Z => ?_
        refine s_end Z [0, 1, 6, 33, 34, 35, 36, 37, 38, 9, 40, 41, 42, 43, 44, 45, 46, 39, 47, 48, 10, 50, 51, 52, 53, 54, 55, 56, 57, 49, 58, 59, 12] rfl fun Z => ?_
        refine p_then (wp_seq ?_)
        obtain ⟨n0_3, hx5, hF⟩ := bnd_in hF
        refine f_quietS 7 (by kernel_rfl) (by kernel_rfl) (by kernel_rfl) (by kernel_rfl) (by kernel_rfl) Z fun Z => ?_
        refine q_runk tMv Z 3 rfl rfl fun a Z => ?_
        refine qO Z _ rfl (fun _ hw => oL tMv rfl rfl ((H.blw hw).bc 2 0 rfl rfl)) fun a Z => ?_
        refine q_runk tMv Z 1 rfl rfl fun a Z => ?_
        refine qO Z _ rfl (fun _ hw => oL tMv rfl rfl ((H.blw hw).bc 3 0 rfl rfl)) fun a Z => ?_
        refine q_runk tMv Z 1 rfl rfl fun a Z => ?_
        refine q_endS Z [0, 1, 6, 33, 34, 35, 36, 37, 38, 9, 40, 41, 42, 43, 44, 45, 46, 39, 47, 48, 10, 50, 51, 52, 53, 54, 55, 56, 57, 49, 58, 59, 12, 60, 61, 62, 63, 64, 65, 66] rfl fun w8 hb Z => ?_
        replace H := H.blw hb
        clear hb
        refine hC Z H [(0, true)] rfl #[] fn_83_YMv rfl rfl (fun D h => have q := c_tree_Tree_api_Cell_Put_nil hx5 h; q) fun vv a w9 D2 hr hF2 Z => ?_
        obtain ⟨rfl, I6, K⟩ := hr
        have H := (hF2 K).nf rfl
        refine s_end Z [0, 1, 6, 33, 34, 35, 36, 37, 38, 9, 40, 41, 42, 43, 44, 45, 46, 39, 47, 48, 10, 50, 51, 52, 53, 54, 55, 56, 57, 49, 58, 59, 12, 60, 61, 62, 63, 64, 65, 66] rfl fun Z => ?_
        refine p_then ?_
        obtain ⟨hg2, hF⟩ := chk_in hF
        refine f_region Z fun Z => ?_
        refine s_runk tMv Z 3 rfl rfl fun a Z => ?_
        refine sO Z _ rfl (oL tMv rfl rfl (H.bc 2 2 rfl rfl)) fun a Z => ?_
        refine sO Z (vI (s0_2.n + 1)) rfl (Ob_add rfl rfl rfl (wrI hg2)) fun a Z => ?_
        refine s_runk tMv Z 2 rfl rfl fun a Z => ?_
        refine hT tMv Z H 2 rfl rfl rfl rfl rfl (one_cons rfl one_nil) (Nat.le_of_ble_eq_true rfl) rfl fun w10 H => ?_
        dsimp only [List.eraseIdx] at H
        refine s_end Z [0, 1, 6, 33, 34, 35, 36, 37, 38, 9, 40, 41, 42, 43, 44, 45, 46, 39, 47, 48, 10, 50, 51, 52, 53, 54, 55, 56, 57, 49, 58, 59, 12, 60, 61, 62, 63, 64, 65, 66, 68, 69, 70, 71, 72, 73, 74] rfl fun Z => ?_
        refine p_blk ?_
        refine p_then ?_
        obtain ⟨hg3, hF⟩ := chk_in hF
        refine f_region Z fun Z => ?_
        refine sO Z (vI (x + 1)) rfl (Ob_add rfl rfl rfl (wrI hg3)) fun a Z => ?_
        refine s_runk tMv Z 1 rfl rfl fun a Z => ?_
        refine s_end Z [0, 1, 6, 33, 34, 35, 36, 37, 38, 9, 40, 41, 42, 43, 44, 45, 46, 39, 47, 48, 10, 50, 51, 52, 53, 54, 55, 56, 57, 49, 58, 59, 12, 60, 61, 62, 63, 64, 65, 66, 68, 69, 70, 71, 72, 73, 74, 75] rfl fun Z => ?_
        refine p_then ?_
        replace H := H.mkN OEtree_Tree_api_Cell
        replace H := H.sX (OEmvcc_Store b_s0 ({ s0_2 with t := none, n := s0_2.n + 1 } : Emvcc_Store)) (nP) [(1, false), (0, false)] rfl rfl rfl
        exact ⟨(x + 1, ({ s0_2 with t := none, n := s0_2.n + 1 } : Emvcc_Store)), ⟨Z.sub (ts := [0, 1, 6, 33, 34, 35]) rfl, ⟨I6, (H.sub [(0, false), (3, true)] rfl).eq rfl⟩⟩, hF⟩
      ·obtain ⟨b2, hv, H⟩ := H.optS 1 rfl ho1
       (try have Zq22 := Z); subst hv; (try have Z := Zq22)
       replace H := H.nf rfl; try dsimp only at H
       obtain ⟨g, hx6, hF⟩ := bnd_in hF
       refine f_regionM Z (by kernel_rfl) (by kernel_rfl) (by decide) (by decide) [6] [(0, 0, 0), (1, 0, 0), (3, 0, 0), (7, 0, 0), (0, 0, 0), (16, 0, 0), (63, 0, 0), (127, 1, 1), (255, 1, 1), (255, 1, 1), (511, 1, 1), (2047, 1, 1)] (by kernel_rfl) (fun jj => match jj with | 7 => 6 | 8 => 6 | 10 => 6 | _ => jj) (by kernel_rfl) (fun jj rv vv => match jj with | 0 => vv = pp b_s0 0 | 1 => vv = pp b_s0 0 | 2 => vv = pp b_s0 0 | 3 => vv = pp b2 0 | 4 => vv = pp b1 0 | 5 => vv = vS ((gi l x).key) | 6 => vv = .tuple #[(tupAt vv 0), vT g.2] | 7 => vv = .tuple #[(tupAt rv 0), vT g.2] | 8 => vv = (tupAt rv 0) | 9 => vv = vT g.2 | 10 => vv = (tupAt rv 0) | 11 => vv = vT g.2 | _ => True) (fun ss vals2 xw => match ss with | 0 => Gx I D w I3 w5 xw [OEtree_Tree_api_Cell b2 x_2, BxC b_s0 92 [pp b2 0, vU s0_2.last, vI s0_2.n], BxC b1 58 [vS ((gi l x).key), vS ((gi l x).val), vT ((gi l x).del)], SlC NEOp v1_l l] | _ => Gx I D w I3 w5 xw [OEtree_Tree_api_Cell b2 x_2, SlC NECell (tupAt (vals2 6) 0) g.1, BxC b_s0 92 [pp b2 0, vU s0_2.last, vI s0_2.n], BxC b1 58 [vS ((gi l x).key), vS ((gi l x).val), vT ((gi l x).del)], SlC NEOp v1_l l]) (fun _ => Gx.start H) ?_ ?_
       ·intro fr hfr hfe
        refine .cons (fun ss hlo hhi vals2 xw hG hV => ?_) ?_
        ·obtain rfl : ss = 0 := Nat.le_antisymm hhi hlo
         rw [← hfe]
         have hS := (hfr vals2).sub (ts := [0]) rfl
         exact L_val hS rfl (Ob_c tMv rfl) ⟨rfl, hG⟩
        refine .cons (fun ss hlo hhi vals2 xw hG hV => ?_) ?_
        ·obtain rfl : ss = 0 := Nat.le_antisymm hhi hlo
         rw [← hfe]
         have hS := (hfr vals2).sub (ts := [40]) rfl
         replace hS := hS.conv (t := 40) rfl (show (vals2 0) = pp b_s0 0 from hV 0 (by decide))
         exact L_val hS rfl (Ob_c tMv rfl) ⟨rfl, hG⟩
        refine .cons (fun ss hlo hhi vals2 xw hG hV => ?_) ?_
        ·obtain rfl : ss = 0 := Nat.le_antisymm hhi hlo
         rw [← hfe]
         have hS := (hfr vals2).sub (ts := [41]) rfl
         replace hS := hS.conv (t := 41) rfl (show (vals2 1) = pp b_s0 0 from hV 1 (by decide))
         exact L_val hS rfl (Ob_c tMv rfl) ⟨rfl, hG⟩
        refine .cons (fun ss hlo hhi vals2 xw hG hV => ?_) ?_
        ·obtain rfl : ss = 0 := Nat.le_antisymm hhi hlo
         rw [← hfe]
         have hS := (hfr vals2).sub (ts := [42]) rfl
         replace hS := hS.conv (t := 42) rfl (show (vals2 2) = pp b_s0 0 from hV 2 (by decide))
         obtain ⟨I2, hI2, H⟩ := Gx.ex hG
         exact L_val hS rfl (oL tMv rfl rfl (H.bc 1 0 rfl rfl)) ⟨rfl, hG⟩
        refine .cons (fun ss hlo hhi vals2 xw hG hV => ?_) ?_
        ·obtain rfl : ss = 0 := Nat.le_antisymm hhi hlo
         rw [← hfe]
         have hS := (hfr vals2).sub (ts := [9]) rfl
         exact L_val hS rfl (Ob_c tMv rfl) ⟨rfl, hG⟩
        refine .cons (fun ss hlo hhi vals2 xw hG hV => ?_) ?_
        ·obtain rfl : ss = 0 := Nat.le_antisymm hhi hlo
         rw [← hfe]
         have hS := (hfr vals2).sub (ts := [44]) rfl
         replace hS := hS.conv (t := 44) rfl (show (vals2 4) = pp b1 0 from hV 4 (by decide))
         obtain ⟨I2, hI2, H⟩ := Gx.ex hG
         exact L_val hS rfl (oL tMv rfl rfl (H.bc 2 0 rfl rfl)) ⟨rfl, hG⟩
        refine .cons (fun ss hlo hhi vals2 xw hG hV => ?_) ?_
        ·obtain rfl : ss = 0 := Nat.le_antisymm hhi hlo
         rw [← hfe]
         have hS := (hfr vals2).sub (ts := [43, 45]) rfl
         replace hS := hS.conv (t := 43) rfl (show (vals2 3) = pp b2 0 from hV 3 (by decide))
         replace hS := hS.conv (t := 45) rfl (show (vals2 5) = vS ((gi l x).key) from hV 5 (by decide))
         obtain ⟨I2, hI2, H⟩ := Gx.ex hG
         refine L_hcall H (js := [(0, false)]) rfl (caps := #[]) hS fn_47_YMv rfl rfl rfl rfl rfl (fun D1 hS => have hq := c_tree_Tree_api_Cell_Get hx6 hS; hq) fun _ yw D1 hr hF2 => ?_
         obtain ⟨q0_, rfl, I3, K⟩ := hr
         obtain ⟨hK, H2⟩ := hF2 K
         exact ⟨rfl, Gx.go hG hI2 hK K.imm H2⟩
        refine .cons (fun ss hlo hhi vals2 xw hG hV => ?_) ?_
        ·obtain rfl : ss = 1 := Nat.le_antisymm hhi hlo
         rw [← hfe]
         have hS := (hfr vals2).sub (ts := [46]) rfl
         replace hS := hS.conv (t := 46) rfl (show (vals2 6) = .tuple #[(tupAt (vals2 6) 0), vT g.2] from hV 6 (by decide))
         exact L_val hS rfl (Ob_c tMv rfl) ⟨rfl, hG⟩
        refine .cons (fun ss hlo hhi vals2 xw hG hV => ?_) ?_
        ·obtain rfl : ss = 1 := Nat.le_antisymm hhi hlo
         rw [← hfe]
         have hS := (hfr vals2).sub (ts := [39]) rfl
         replace hS := hS.conv (t := 39) rfl (show (vals2 7) = .tuple #[(tupAt (vals2 6) 0), vT g.2] from hV 7 (by decide))
         exact L_val hS rfl (Ob_c tMv rfl) ⟨rfl, hG⟩
        refine .cons (fun ss hlo hhi vals2 xw hG hV => ?_) ?_
        ·obtain rfl : ss = 1 := Nat.le_antisymm hhi hlo
         rw [← hfe]
         have hS := (hfr vals2).sub (ts := [39]) rfl
         replace hS := hS.conv (t := 39) rfl (show (vals2 7) = .tuple #[(tupAt (vals2 6) 0), vT g.2] from hV 7 (by decide))
         exact L_val hS rfl (Ob_c tMv rfl) ⟨rfl, hG⟩
        refine .cons (fun ss hlo hhi vals2 xw hG hV => ?_) ?_
        ·obtain rfl : ss = 1 := Nat.le_antisymm hhi hlo
         rw [← hfe]
         have hS := (hfr vals2).sub (ts := [47]) rfl
         replace hS := hS.conv (t := 47) rfl (show (vals2 8) = (tupAt (vals2 6) 0) from hV 8 (by decide))
         exact L_val hS rfl (Ob_c tMv rfl) ⟨rfl, hG⟩
        refine .cons (fun ss hlo hhi vals2 xw hG hV => ?_) ?_
        ·obtain rfl : ss = 1 := Nat.le_antisymm hhi hlo
         rw [← hfe]
         have hS := (hfr vals2).sub (ts := [48]) rfl
         replace hS := hS.conv (t := 48) rfl (show (vals2 9) = vT g.2 from hV 9 (by decide))
         exact L_val hS rfl (Ob_c tMv rfl) ⟨rfl, hG⟩
        exact .nil
       ·intro vals2 a w11 Z hG hV
        replace Z := Z.sub (ts := [0, 1, 6, 33, 34, 35, 36, 37, 38, 9, 40, 41, 42, 43, 44, 45, 46, 39, 47, 48, 10]) (S' := [(0, pp b_s0 0), (1, vU ts), (6, vI 0), (33, v1_l), (34, vI (ln l)), (35, vI x), (36, vT (decide (x < (ln l)))), (37, .pointer (some ⟨blkOf v1_l, oofOf v1_l + (x).toNat * 3, none⟩)), (38, .agg #[vS ((gi l x).key), vS ((gi l x).val), vT ((gi l x).del)]), (9, pp b1 0), (40, vals2 0), (41, vals2 1), (42, vals2 2), (43, vals2 3), (44, vals2 4), (45, vals2 5), (46, vals2 6), (39, vals2 7), (47, vals2 8), (48, vals2 9), (10, vals2 10)]) rfl
        replace Z := Z.conv (t := 40) rfl (show (vals2 0) = pp b_s0 0 from hV 0 (by decide))
        replace Z := Z.conv (t := 41) rfl (show (vals2 1) = pp b_s0 0 from hV 1 (by decide))
        replace Z := Z.conv (t := 42) rfl (show (vals2 2) = pp b_s0 0 from hV 2 (by decide))
        replace Z := Z.conv (t := 43) rfl (show (vals2 3) = pp b2 0 from hV 3 (by decide))
        replace Z := Z.conv (t := 44) rfl (show (vals2 4) = pp b1 0 from hV 4 (by decide))
        replace Z := Z.conv (t := 45) rfl (show (vals2 5) = vS ((gi l x).key) from hV 5 (by decide))
        replace Z := Z.conv (t := 46) rfl (show (vals2 6) = .tuple #[(tupAt (vals2 6) 0), vT g.2] from hV 6 (by decide))
        replace Z := Z.conv (t := 39) rfl (show (vals2 7) = .tuple #[(tupAt (vals2 6) 0), vT g.2] from hV 7 (by decide))
        replace Z := Z.conv (t := 47) rfl (show (vals2 8) = (tupAt (vals2 6) 0) from hV 8 (by decide))
        replace Z := Z.conv (t := 48) rfl (show (vals2 9) = vT g.2 from hV 9 (by decide))
        replace Z := Z.conv (t := 10) rfl (show (vals2 10) = (tupAt (vals2 6) 0) from hV 10 (by decide))
        obtain ⟨I7, _, H⟩ := Gx.ex hG
        clear hG hV
        replace Z := Z.sub (ts := [0, 1, 6, 33, 34, 35, 36, 37, 38, 9, 40, 41, 42, 43, 44, 45, 46, 39, 47, 48, 10]) rfl
        replace H := H.nf rfl; try dsimp only at H
        refine p_then (wp_seq ?_)
        obtain ⟨p_2, hx7, hF⟩ := bnd_in hF
        refine f_region Z fun Z => ?_
        refine s_runk tMv Z 3 rfl rfl fun a Z => ?_
        refine sO Z _ rfl (oL tMv rfl rfl (H.bc 3 1 rfl rfl)) fun a Z => ?_
        refine s_runk tMv Z 1 rfl rfl fun a Z => ?_
        refine sO Z _ rfl (oL tMv rfl rfl (H.bc 3 2 rfl rfl)) fun a Z => ?_
        refine sO Z (.agg #[vU ts, vS ((gi l x).val), vT ((gi l x).del)]) rfl (Ob_build (vs := [(0, vU ts), (1, vS ((gi l x).val)), (2, vT ((gi l x).del))]) rfl rfl (by go_simp <;> rfl)) fun a Z => ?_
        refine hC Z H [(1, true)] rfl #[] fn_82_YMv rfl rfl (fun D h => have q := c_vers_Put hx7 h; q) fun vv a w12 D2 hr hF2 Z => ?_
        obtain ⟨q2, rfl, I8, K⟩ := hr
        have H := (hF2 K).nf rfl
        refine s_runk tMv Z 5 rfl rfl fun a Z => ?_
        refine s_end Z [0, 1, 6, 33, 34, 35, 36, 37, 38, 9, 40, 41, 42, 43, 44, 45, 46, 39, 47, 48, 10, 50, 51, 52, 53, 54, 55, 56, 57, 49, 58, 59, 12] rfl fun Z => ?_
        refine p_then (wp_seq ?_)
        obtain ⟨p_3, hx8, hF⟩ := bnd_in hF
        refine f_quietS 7 (by kernel_rfl) (by kernel_rfl) (by kernel_rfl) (by kernel_rfl) (by kernel_rfl) Z fun Z => ?_
        refine q_runk tMv Z 3 rfl rfl fun a Z => ?_
        refine qO Z _ rfl (fun _ hw => oL tMv rfl rfl ((H.blw hw).bc 3 0 rfl rfl)) fun a Z => ?_
        refine q_runk tMv Z 1 rfl rfl fun a Z => ?_
        refine qO Z _ rfl (fun _ hw => oL tMv rfl rfl ((H.blw hw).bc 4 0 rfl rfl)) fun a Z => ?_
        refine q_runk tMv Z 1 rfl rfl fun a Z => ?_
        refine q_endS Z [0, 1, 6, 33, 34, 35, 36, 37, 38, 9, 40, 41, 42, 43, 44, 45, 46, 39, 47, 48, 10, 50, 51, 52, 53, 54, 55, 56, 57, 49, 58, 59, 12, 60, 61, 62, 63, 64, 65, 66] rfl fun w13 hb Z => ?_
        replace H := H.blw hb
        clear hb
        refine hC Z H [(1, false), (0, true)] rfl #[] fn_83_YMv rfl rfl (fun D h => have q := c_tree_Tree_api_Cell_Put hx8 h; q) fun vv a w14 D2 hr hF2 Z => ?_
        obtain ⟨rfl, I9, K⟩ := hr
        have H := (hF2 K).nf rfl
        refine s_end Z [0, 1, 6, 33, 34, 35, 36, 37, 38, 9, 40, 41, 42, 43, 44, 45, 46, 39, 47, 48, 10, 50, 51, 52, 53, 54, 55, 56, 57, 49, 58, 59, 12, 60, 61, 62, 63, 64, 65, 66] rfl fun Z => ?_
        refine p_then ?_
        obtain ⟨hg4, hF⟩ := chk_in hF
        refine f_region Z fun Z => ?_
        refine s_runk tMv Z 3 rfl rfl fun a Z => ?_
        refine sO Z _ rfl (oL tMv rfl rfl (H.bc 3 2 rfl rfl)) fun a Z => ?_
        refine sO Z (vI (s0_2.n + 1)) rfl (Ob_add rfl rfl rfl (wrI hg4)) fun a Z => ?_
        refine s_runk tMv Z 2 rfl rfl fun a Z => ?_
        refine hT tMv Z H 3 rfl rfl rfl rfl rfl (one_cons rfl one_nil) (Nat.le_of_ble_eq_true rfl) rfl fun w15 H => ?_
        dsimp only [List.eraseIdx] at H
        refine s_end Z [0, 1, 6, 33, 34, 35, 36, 37, 38, 9, 40, 41, 42, 43, 44, 45, 46, 39, 47, 48, 10, 50, 51, 52, 53, 54, 55, 56, 57, 49, 58, 59, 12, 60, 61, 62, 63, 64, 65, 66, 68, 69, 70, 71, 72, 73, 74] rfl fun Z => ?_
        refine p_blk ?_
        refine p_then ?_
        obtain ⟨hg5, hF⟩ := chk_in hF
        refine f_region Z fun Z => ?_
        refine sO Z (vI (x + 1)) rfl (Ob_add rfl rfl rfl (wrI hg5)) fun a Z => ?_
        refine s_runk tMv Z 1 rfl rfl fun a Z => ?_
        refine s_end Z [0, 1, 6, 33, 34, 35, 36, 37, 38, 9, 40, 41, 42, 43, 44, 45, 46, 39, 47, 48, 10, 50, 51, 52, 53, 54, 55, 56, 57, 49, 58, 59, 12, 60, 61, 62, 63, 64, 65, 66, 68, 69, 70, 71, 72, 73, 74, 75] rfl fun Z => ?_
        refine p_then ?_
        replace H := (H.mkS (K := OEtree_Tree_api_Cell) 1 rfl).nf rfl
        replace H := H.sX (OEmvcc_Store b_s0 ({ s0_2 with t := some p_3.2, n := s0_2.n + 1 } : Emvcc_Store)) (pp b2 0) [(1, false), (0, false)] rfl rfl rfl
        exact ⟨(x + 1, ({ s0_2 with t := some p_3.2, n := s0_2.n + 1 } : Emvcc_Store)), ⟨Z.sub (ts := [0, 1, 6, 33, 34, 35]) rfl, ⟨I9, (H.sub [(0, false), (3, true)] rfl).eq rfl⟩⟩, hF⟩
     ·replace hF := ite_f hc5 hF
      refine wp_exit ?_
      refine p_then_x ?_
      refine p_then_x ?_
      refine f_exit_here ?_
      refine pR Z fun Z => ?_
      refine s_runk tMv Z 4 rfl rfl fun a Z => ?_
      obtain ⟨v4, H⟩ := H.openX 0 rfl
      replace H := H.nf rfl; try dsimp only at H
      refine hT tMv Z H 0 rfl rfl rfl rfl rfl (one_cons rfl one_nil) (Nat.le_of_ble_eq_true rfl) rfl fun w16 H => ?_
      dsimp only [List.eraseIdx] at H
      refine s_end Z [6] rfl fun Z => ?_
      refine pR Z fun Z => ?_
      refine s_runk tMv Z 1 rfl rfl fun a Z => ?_
      refine s_end Z [6] rfl fun Z => ?_
      refine p_then (wp_ret ?_)
      replace H := H.sX (OEmvcc_Store b_s0 ({ s0_2 with last := ts } : Emvcc_Store)) (v4) [(0, false), (0, false)] rfl rfl rfl
      obtain rfl := some_in hF
      exact f_ret Z (run_results1 rfl Z rfl) ⟨rfl, I3, (H.sub [(0, false)] rfl).eq rfl⟩

end Go.Proofs.YtglfajjcgbfehaaGreat
