/- Entries. -/
import Derived.Test.YthmjkcdpbbcdgaaGreatYOps1
import Derived.Test.YthmjkcdpbbcdgaaGreatYConf1
namespace Go.Proofs.YthmjkcdpbbcdgaaGreat
open Go.RowKit
structure EEntry where
 batch : EBatch
 ts : Int

instance : Inhabited EEntry := ⟨⟨default, 0⟩⟩

def cEEntry (x : EEntry) (v0 : Value) : List Value := [.int .i64 x.batch.client, .int .i64 x.batch.req, v0, .int .u64 x.ts]

def NEEntry : Rp EEntry where
 n := 4
 rep A w cs x := ∃ v0 : Value, cs = cEEntry x v0 ∧ slRep NEOp A w v0 x.batch.ops
 len := fun ⟨v0, h, _⟩ => by rw [h]; rfl
 one := fun ⟨v0, h, s0⟩ c hc => by
  rw [h] at hc
  simp only [cEEntry, List.mem_cons, List.not_mem_nil, or_false] at hc
  rcases hc with rfl | rfl | rfl | rfl
  ·rfl
  ·rfl
  ·exact s0.one
  ·rfl
 mono := fun ⟨v0, h, s0⟩ hA hk => ⟨v0, h, s0.mono hA hk⟩
 bound := fun ⟨v0, h, s0⟩ => ⟨v0, h, s0.bound⟩

theorem NEEntry.dft (A : Dm) (w : World) : ∃ cl, NEEntry.rep A w cl default := ⟨_, .slice none 0 0, rfl, slRep.nil _ _ _ _ _ (Nat.zero_le _)⟩

structure EPair where
 key : ByteArray
 val : ByteArray

instance : Inhabited EPair := ⟨⟨ByteArray.empty, ByteArray.empty⟩⟩

def eqEPair (x y : EPair) : Bool := (seqB x.key y.key) && (seqB x.val y.val)

theorem eqEPair_iff {x y : EPair} : eqEPair x y = true ↔ x = y := by cases x; cases y; simp [eqEPair, seqB_iff, and_assoc]

def cEPair (x : EPair) : List Value := [.string x.key, .string x.val]

def NEPair : Rp EPair := Rp.flat 2 (fun _ => True) (fun x => cEPair x) (fun _ => rfl) (fun x c hc => by simp only [cEPair, List.mem_cons, List.not_mem_nil, or_false] at hc; rcases hc with rfl | rfl <;> rfl)

structure EMsg where
 k : Int
 epoch : Int
 req : Int
 serial : Int
 flag : Bool
 at_ : Int
 last : Int
 n : Int
 m : Int
 p : Int
 e : Int
 key : ByteArray
 to_ : ByteArray
 conf : EConf
 batch : EBatch
 entries : List EEntry
 stamps : List Int
 pairs : List EPair

instance : Inhabited EMsg := ⟨⟨0, 0, 0, 0, false, 0, 0, 0, 0, 0, 0, ByteArray.empty, ByteArray.empty, default, default, [], [], []⟩⟩

def cEMsg (x : EMsg) (v0 : Value) (v1 : Value) (v2 : Value) (v3 : Value) (v4 : Value) : List Value := [.int .i64 x.k, .int .i64 x.epoch, .int .i64 x.req, .int .i64 x.serial, .bool x.flag, .int .u64 x.at_, .int .u64 x.last, .int .i64 x.n, .int .i64 x.m, .int .i64 x.p, .int .i64 x.e, .string x.key, .string x.to_, .int .i64 x.conf.epoch, v0, .int .u64 x.conf.floor, .int .i64 x.batch.client, .int .i64 x.batch.req, v1, v2, v3, v4]

def tIL : TabL := ⟨[(90112, 0), (90113, 3)], [], [], [], [(23, (1, false)), (30, (3, true)), (61, (3, true)), (78, (2, true)), (88, (4, true))]⟩

def tI : Tab Tryz.prog := ⟨tIL, by kernel_rfl⟩

theorem fn_17_YItem : IsFn Tryz.prog 17 := ⟨_, Tryz.func17, by kernel_rfl, by kernel_rfl⟩

theorem fn_23_YItem : IsFn Tryz.prog 23 := ⟨_, Tryz.func23, by kernel_rfl, by kernel_rfl⟩

theorem fn_28_YItem : IsFn Tryz.prog 28 := ⟨_, Tryz.func28, by kernel_rfl, by kernel_rfl⟩

theorem fn_30_YItem : IsFn Tryz.prog 30 := ⟨_, Tryz.func30, by kernel_rfl, by kernel_rfl⟩

theorem fn_62_YItem : IsFn Tryz.prog 62 := ⟨_, Tryz.func62, by kernel_rfl, by kernel_rfl⟩

theorem fn_64_YItem : IsFn Tryz.prog 64 := ⟨_, Tryz.func64, by kernel_rfl, by kernel_rfl⟩

theorem fn_68_YItem : IsFn Tryz.prog 68 := ⟨_, Tryz.func68, by kernel_rfl, by kernel_rfl⟩

theorem fn_70_YItem : IsFn Tryz.prog 70 := ⟨_, Tryz.func70, by kernel_rfl, by kernel_rfl⟩

theorem fn_92_YItem : IsFn Tryz.prog 92 := ⟨_, Tryz.func92, by kernel_rfl, by kernel_rfl⟩

theorem fn_99_YItem : IsFn Tryz.prog 99 := ⟨_, Tryz.func99, by kernel_rfl, by kernel_rfl⟩

theorem fn_106_YItem : IsFn Tryz.prog 106 := ⟨_, Tryz.func106, by kernel_rfl, by kernel_rfl⟩

theorem fn_113_YItem : IsFn Tryz.prog 113 := ⟨_, Tryz.func113, by kernel_rfl, by kernel_rfl⟩

def F_ref08_Check (e : EEntry) : Option Int := (F_ref06_Check e.batch).bind fun c => (some c)

set_option maxHeartbeats 1000000 in
theorem c_ref08_Check {I D : Dm} {e : EEntry} {v1_e : Value} {w : World} {rr : Int} (hF : F_ref08_Check e = some rr) (H : St I D w [SlC NEOp v1_e e.batch.ops]) :
  Calls Tryz.prog 126 #[.agg (cEEntry e v1_e).toArray] w (Ret fun vv w' => vv = vI rr ∧ ∃ I', Hf I D w I' w' []) := by
 replace H := H.hf
 unfold F_ref08_Check at hF
 refine f_enter 6 Tryz.func126 rfl rfl (Nat.le_of_ble_eq_true rfl) fun a Z => ?_
 replace Z := Z.sub (ts := [0]) rfl
 refine wp_seq (f_region Z ?_); clear Z; intro Z
 refine h_boxv Z H (cl := (cEEntry e v1_e)) rfl rfl rfl (by decide) rfl rfl rfl fun a w1 b1 H Z => ?_
 refine s_runk tI Z 1 rfl rfl fun a Z => ?_
 refine s_end Z [1, 2] rfl fun Z => ?_
 refine p_then (wp_seq ?_)
 obtain ⟨c, hx1, hF⟩ := bnd_in hF
 refine f_region Z fun Z => ?_
 refine s_runk tI Z 1 rfl rfl fun a Z => ?_
 refine sO Z (.agg #[vI e.batch.client, vI e.batch.req, v1_e]) rfl (oA tI rfl rfl ((H.bx 0 rfl).part 0 rfl)) fun a Z => ?_
 refine hC Z H [(1, true)] rfl #[] fn_99_YItem rfl rfl (fun D h => have q := c_ref06_Check hx1 h; q) fun vv a w2 D2 hr hF2 Z => ?_
 obtain ⟨rfl, I1, K⟩ := hr
 have H := (hF2 K).nf rfl
 refine s_runk tI Z 1 rfl rfl fun a Z => ?_
 refine s_end Z [2] rfl fun Z => ?_
 refine p_then (wp_ret ?_)
 obtain rfl := some_in hF
 exact f_ret Z (run_results1 rfl Z rfl) ⟨rfl, I1, (H.sub [] rfl).eq rfl⟩

def F_item_Check (e : EEntry) : Option Int := (F_ops_Check e.batch).bind fun c => (some c)

set_option maxHeartbeats 1000000 in
theorem c_item_Check {I D : Dm} {e : EEntry} {v1_e : Value} {w : World} {rr : Int} (hF : F_item_Check e = some rr) (H : St I D w [SlC NEOp v1_e e.batch.ops]) :
  Calls Tryz.prog 123 #[.agg (cEEntry e v1_e).toArray] w (Ret fun vv w' => vv = vI rr ∧ ∃ I', Hf I D w I' w' []) := by
 replace H := H.hf
 unfold F_item_Check at hF
 refine f_enter 6 Tryz.func123 rfl rfl (Nat.le_of_ble_eq_true rfl) fun a Z => ?_
 replace Z := Z.sub (ts := [0]) rfl
 refine wp_seq (f_region Z ?_); clear Z; intro Z
 refine h_boxv Z H (cl := (cEEntry e v1_e)) rfl rfl rfl (by decide) rfl rfl rfl fun a w1 b1 H Z => ?_
 refine s_runk tI Z 1 rfl rfl fun a Z => ?_
 refine s_end Z [1, 2] rfl fun Z => ?_
 refine p_then (wp_seq ?_)
 obtain ⟨c, hx1, hF⟩ := bnd_in hF
 refine f_region Z fun Z => ?_
 refine s_runk tI Z 1 rfl rfl fun a Z => ?_
 refine sO Z (.agg #[vI e.batch.client, vI e.batch.req, v1_e]) rfl (oA tI rfl rfl ((H.bx 0 rfl).part 0 rfl)) fun a Z => ?_
 refine hC Z H [(1, true)] rfl #[] fn_92_YItem rfl rfl (fun D h => have q := c_ops_Check hx1 h; q) fun vv a w2 D2 hr hF2 Z => ?_
 obtain ⟨rfl, I1, K⟩ := hr
 have H := (hF2 K).nf rfl
 refine s_runk tI Z 1 rfl rfl fun a Z => ?_
 refine s_end Z [2] rfl fun Z => ?_
 refine p_then (wp_ret ?_)
 obtain rfl := some_in hF
 exact f_ret Z (run_results1 rfl Z rfl) ⟨rfl, I1, (H.sub [] rfl).eq rfl⟩

def F_ref08_Of (s0 : ByteArray) : Option (EEntry × Int) := (F_ref02_Reader_Big ({ (default : Eref02_Reader) with s := s0 } : Eref02_Reader)).bind fun b => ((F_ref02_Reader_Text b.2 65536).bind fun t => ((F_ref02_Reader_End t.2).bind fun e => (if (e != 0) = true then (some ((default : EEntry), e)) else ((F_ref06_Of t.1).bind fun o => (if (o.2 != 0) = true then (some ((default : EEntry), o.2)) else (some (({ batch := o.1, ts := b.1 } : EEntry), 0)))))))

set_option maxHeartbeats 1000000 in
theorem c_ref08_Of {I D : Dm} {s0 : ByteArray} {w : World} {rr : EEntry × Int} (hF : F_ref08_Of s0 = some rr) (H : St I D w []) :
  Calls Tryz.prog 114 #[vS s0] w (Ret fun vv w' => ∃ q1 : Value, vv = .tuple #[.agg (cEEntry rr.1 q1).toArray, vI rr.2] ∧ ∃ I', Hf I D w I' w' [SlC NEOp q1 rr.1.batch.ops]) := by
 replace H := H.hf
 unfold F_ref08_Of at hF
 refine f_enter 35 Tryz.func114 rfl rfl (Nat.le_of_ble_eq_true rfl) fun a Z => ?_
 replace Z := Z.sub (ts := [0]) rfl
 refine wp_seq (f_region Z ?_); clear Z; intro Z
 refine hA Z H [vI 0, vI 0, nS, vU 0] rfl rfl (by kernel_rfl) fun a w1 b1 H Z => ?_
 refine s_runk tI Z 1 rfl rfl fun a Z => ?_
 refine s_end Z [0, 2, 3] rfl fun Z => ?_
 refine p_then (wp_seq (f_region Z ?_)); clear Z; intro Z
 refine s_runk tI Z 1 rfl rfl fun a Z => ?_
 refine sO Z (.agg #[vS s0, vI 0, vI 0]) rfl (Ob_build (vs := [(0, vS s0)]) rfl rfl (by go_simp <;> rfl)) fun a Z => ?_
 refine hB Z H [vS s0, vI 0, vI 0] rfl rfl rfl rfl fun a w2 b2 H Z => ?_
 refine s_runk tI Z 1 rfl rfl fun a Z => ?_
 refine s_end Z [2, 3, 4] rfl fun Z => ?_
 refine p_then (wp_seq ?_)
 obtain ⟨b, hx1, hF⟩ := bnd_in hF
 refine f_region Z fun Z => ?_
 refine s_runk tI Z 1 rfl rfl fun a Z => ?_
 refine hC Z H [(0, false)] rfl #[] fn_68_YItem rfl rfl (fun D h => have q := c_ref02_Reader_Big hx1 h; q) fun vv a w3 D2 hr hF2 Z => ?_
 obtain ⟨rfl, I1, K⟩ := hr
 have H := (hF2 K).nf rfl
 refine s_runk tI Z 1 rfl rfl fun a Z => ?_
 refine s_end Z [2, 3, 4, 5] rfl fun Z => ?_
 refine p_then (wp_seq ?_)
 obtain ⟨t, hx2, hF⟩ := bnd_in hF
 refine f_region Z fun Z => ?_
 refine s_runk tI Z 1 rfl rfl fun a Z => ?_
 refine hC Z H [(0, false)] rfl #[] fn_70_YItem rfl rfl (fun D h => have q := c_ref02_Reader_Text hx2 h; q) fun vv a w4 D2 hr hF2 Z => ?_
 obtain ⟨rfl, I2, K⟩ := hr
 have H := (hF2 K).nf rfl
 refine s_runk tI Z 1 rfl rfl fun a Z => ?_
 refine s_end Z [2, 3, 4, 5, 6] rfl fun Z => ?_
 refine p_then (wp_seq ?_)
 refine wp_seq ?_
 obtain ⟨e, hx3, hF⟩ := bnd_in hF
 refine f_region Z fun Z => ?_
 refine s_runk tI Z 1 rfl rfl fun a Z => ?_
 refine hC Z H [(0, false)] rfl #[] fn_28_YItem rfl rfl (fun D h => have q := c_ref02_Reader_End hx3 h; q) fun vv a w5 D2 hr hF2 Z => ?_
 obtain ⟨rfl, I3, K⟩ := hr
 have H := (hF2 K).nf rfl
 refine s_runk tI Z 1 rfl rfl fun a Z => ?_
 refine s_end Z [2, 3, 5, 6, 7] rfl fun Z => ?_
 refine p_then (wp_seq (f_region Z ?_)); clear Z; intro Z
 refine s_runk tI Z 2 rfl rfl fun a Z => ?_
 refine s_end Z [2, 3, 5, 6, 7, 20] rfl fun Z => ?_
 refine p_then ?_
 refine f_cond Z rfl (fun hc1 => ?_) (fun hc1 => ?_)
 ·replace hF := ite_t hc1 hF
  refine wp_seq (f_region Z ?_); clear Z; intro Z
  refine sO Z (.agg #[vI 0, vI 0, nS, vU 0]) rfl (Ob_build (vs := []) rfl rfl (by go_simp <;> rfl)) fun a Z => ?_
  refine s_runk tI Z 1 rfl rfl fun a Z => ?_
  refine hT tI Z H 1 rfl rfl rfl rfl rfl (onR 2 rfl (one_cons (slS.one slS.nil) (one_cons rfl one_nil))) (Nat.le_of_ble_eq_true rfl) rfl fun w6 H => ?_
  dsimp only [List.eraseIdx] at H
  refine s_runk tI Z 1 rfl rfl fun a Z => ?_
  refine s_end Z [2, 3, 5, 6] rfl fun Z => ?_
  refine p_then (wp_ret ?_)
  refine p_then_r ?_
  replace H := H.slNil NEOp
  obtain rfl := some_in hF
  exact f_ret Z (run_resultsCT rfl Z rfl (run_loadVar_agg tI rfl (H.bx 1 rfl).at) rfl) ⟨nS, rfl, I3, (H.sub [(0, true)] rfl).eq rfl⟩
 ·replace hF := ite_f hc1 hF
  refine wp_skip ?_
  refine p_then (wp_seq ?_)
  obtain ⟨o, hx4, hF⟩ := bnd_in hF
  refine f_region Z fun Z => ?_
  refine s_runk tI Z 1 rfl rfl fun a Z => ?_
  refine hC Z H [] rfl #[] fn_113_YItem rfl rfl (fun D h => have q := c_ref06_Of hx4 h; q) fun vv a w7 D2 hr hF2 Z => ?_
  obtain ⟨q1, rfl, I4, K⟩ := hr
  have H := (hF2 K).nf rfl
  refine s_runk tI Z 3 rfl rfl fun a Z => ?_
  refine hA Z H [vI 0, vI 0, nS] rfl rfl (by kernel_rfl) fun a w8 b3 H Z => ?_
  refine hT tI Z H 0 rfl rfl rfl rfl rfl (onR 2 rfl (one_cons (slS.one (H.slshape 1 rfl)) one_nil)) (Nat.le_of_ble_eq_true rfl) rfl fun w9 H => ?_
  dsimp only [List.eraseIdx] at H
  refine s_runk tI Z 1 rfl rfl fun a Z => ?_
  refine s_end Z [2, 3, 5, 8, 9] rfl fun Z => ?_
  refine p_then (wp_seq ?_)
  refine wp_seq (f_region Z ?_); clear Z; intro Z
  refine s_runk tI Z 2 rfl rfl fun a Z => ?_
  refine s_end Z [2, 3, 5, 8, 9, 29] rfl fun Z => ?_
  refine p_then ?_
  refine f_cond Z rfl (fun hc2 => ?_) (fun hc2 => ?_)
  ·replace hF := ite_t hc2 hF
   refine wp_seq (f_region Z ?_); clear Z; intro Z
   refine sO Z (.agg #[vI 0, vI 0, nS, vU 0]) rfl (Ob_build (vs := []) rfl rfl (by go_simp <;> rfl)) fun a Z => ?_
   refine s_runk tI Z 1 rfl rfl fun a Z => ?_
   refine hT tI Z H 3 rfl rfl rfl rfl rfl (onR 2 rfl (one_cons (slS.one slS.nil) (one_cons rfl one_nil))) (Nat.le_of_ble_eq_true rfl) rfl fun w10 H => ?_
   dsimp only [List.eraseIdx] at H
   refine s_runk tI Z 1 rfl rfl fun a Z => ?_
   refine s_end Z [2, 3, 5, 8] rfl fun Z => ?_
   refine p_then (wp_ret ?_)
   refine p_then_r ?_
   replace H := H.slNil NEOp
   obtain rfl := some_in hF
   exact f_ret Z (run_resultsCT rfl Z rfl (run_loadVar_agg tI rfl (H.bx 1 rfl).at) rfl) ⟨nS, rfl, I4, (H.sub [(0, true)] rfl).eq rfl⟩
  ·replace hF := ite_f hc2 hF
   refine wp_skip ?_
   refine p_then (wp_seq (f_region Z ?_)); clear Z; intro Z
   refine sO Z (.agg #[vI o.1.client, vI o.1.req, q1]) rfl (oA tI rfl rfl ((H.bx 0 rfl).part 0 rfl)) fun a Z => ?_
   refine s_runk tI Z 1 rfl rfl fun a Z => ?_
   refine sO Z (.agg #[vI o.1.client, vI o.1.req, q1, vU b.1]) rfl (Ob_build (vs := [(0, .agg #[vI o.1.client, vI o.1.req, q1]), (1, vU b.1)]) rfl rfl (by go_simp <;> rfl)) fun a Z => ?_
   refine hT tI Z H 3 rfl rfl rfl rfl rfl (onR 2 rfl (one_cons (slS.one (H.slshape 1 rfl)) (one_cons rfl one_nil))) (Nat.le_of_ble_eq_true rfl) rfl fun w11 H => ?_
   dsimp only [List.eraseIdx] at H
   refine s_runk tI Z 1 rfl rfl fun a Z => ?_
   refine s_end Z [2, 3] rfl fun Z => ?_
   refine p_then (wp_ret ?_)
   obtain rfl := some_in hF
   exact f_ret Z (run_resultsCT rfl Z rfl (run_loadVar_agg tI rfl (H.bx 0 rfl).at) rfl) ⟨q1, rfl, I4, (H.sub [(2, true)] rfl).eq rfl⟩

def F_item_Of (s0 : ByteArray) : Option (EEntry × Int) := (F_wire_Open s0).bind fun o => ((F_wire_Reader_Big o).bind fun b => ((F_wire_Reader_Text b.2 65536).bind fun t => ((F_wire_Reader_End t.2).bind fun e => (if (e != 0) = true then (some ((default : EEntry), e)) else ((F_ops_Of t.1).bind fun o_2 => (if (o_2.2 != 0) = true then (some ((default : EEntry), o_2.2)) else (some (({ batch := o_2.1, ts := b.1 } : EEntry), 0))))))))

set_option maxHeartbeats 1000000 in
theorem c_item_Of {I D : Dm} {s0 : ByteArray} {w : World} {rr : EEntry × Int} (hF : F_item_Of s0 = some rr) (H : St I D w []) :
  Calls Tryz.prog 109 #[vS s0] w (Ret fun vv w' => ∃ q1 : Value, vv = .tuple #[.agg (cEEntry rr.1 q1).toArray, vI rr.2] ∧ ∃ I', Hf I D w I' w' [SlC NEOp q1 rr.1.batch.ops]) := by
 replace H := H.hf
 unfold F_item_Of at hF
 refine f_enter 34 Tryz.func109 rfl rfl (Nat.le_of_ble_eq_true rfl) fun a Z => ?_
 replace Z := Z.sub (ts := [0]) rfl
 refine wp_seq (f_region Z ?_); clear Z; intro Z
 refine hA Z H [vI 0, vI 0, nS, vU 0] rfl rfl (by kernel_rfl) fun a w1 b1 H Z => ?_
 refine s_runk tI Z 1 rfl rfl fun a Z => ?_
 refine s_end Z [0, 2, 3] rfl fun Z => ?_
 refine p_then (wp_seq ?_)
 obtain ⟨o, hx1, hF⟩ := bnd_in hF
 refine f_region Z fun Z => ?_
 refine s_runk tI Z 1 rfl rfl fun a Z => ?_
 refine hC Z H [] rfl #[] fn_17_YItem rfl rfl (fun D h => have q := c_wire_Open hx1 h; q) fun vv a w2 D2 hr hF2 Z => ?_
 obtain ⟨g1, rfl, I1, K⟩ := hr
 have H := (hF2 K).nf rfl
 refine s_runk tI Z 1 rfl rfl fun a Z => ?_
 refine s_end Z [2, 3, 4] rfl fun Z => ?_
 refine p_then (wp_seq ?_)
 obtain ⟨b, hx2, hF⟩ := bnd_in hF
 refine f_region Z fun Z => ?_
 refine s_runk tI Z 1 rfl rfl fun a Z => ?_
 refine hC Z H [(0, false)] rfl #[] fn_64_YItem rfl rfl (fun D h => have q := c_wire_Reader_Big hx2 h; q) fun vv a w3 D2 hr hF2 Z => ?_
 obtain ⟨rfl, I2, K⟩ := hr
 have H := (hF2 K).nf rfl
 refine s_runk tI Z 1 rfl rfl fun a Z => ?_
 refine s_end Z [2, 3, 4, 5] rfl fun Z => ?_
 refine p_then (wp_seq ?_)
 obtain ⟨t, hx3, hF⟩ := bnd_in hF
 refine f_region Z fun Z => ?_
 refine s_runk tI Z 1 rfl rfl fun a Z => ?_
 refine hC Z H [(0, false)] rfl #[] fn_106_YItem rfl rfl (fun D h => have q := c_wire_Reader_Text hx3 h; q) fun vv a w4 D2 hr hF2 Z => ?_
 obtain ⟨rfl, I3, K⟩ := hr
 have H := (hF2 K).nf rfl
 refine s_runk tI Z 1 rfl rfl fun a Z => ?_
 refine s_end Z [2, 3, 4, 5, 6] rfl fun Z => ?_
 refine p_then (wp_seq ?_)
 refine wp_seq ?_
 obtain ⟨e, hx4, hF⟩ := bnd_in hF
 refine f_region Z fun Z => ?_
 refine s_runk tI Z 1 rfl rfl fun a Z => ?_
 refine hC Z H [(0, false)] rfl #[] fn_23_YItem rfl rfl (fun D h => have q := c_wire_Reader_End hx4 h; q) fun vv a w5 D2 hr hF2 Z => ?_
 obtain ⟨rfl, I4, K⟩ := hr
 have H := (hF2 K).nf rfl
 refine s_runk tI Z 1 rfl rfl fun a Z => ?_
 refine s_end Z [2, 3, 5, 6, 7] rfl fun Z => ?_
 refine p_then (wp_seq (f_region Z ?_)); clear Z; intro Z
 refine s_runk tI Z 2 rfl rfl fun a Z => ?_
 refine s_end Z [2, 3, 5, 6, 7, 19] rfl fun Z => ?_
 refine p_then ?_
 refine f_cond Z rfl (fun hc1 => ?_) (fun hc1 => ?_)
 ·replace hF := ite_t hc1 hF
  refine wp_seq (f_region Z ?_); clear Z; intro Z
  refine sO Z (.agg #[vI 0, vI 0, nS, vU 0]) rfl (Ob_build (vs := []) rfl rfl (by go_simp <;> rfl)) fun a Z => ?_
  refine s_runk tI Z 1 rfl rfl fun a Z => ?_
  refine hT tI Z H 1 rfl rfl rfl rfl rfl (onR 2 rfl (one_cons (slS.one slS.nil) (one_cons rfl one_nil))) (Nat.le_of_ble_eq_true rfl) rfl fun w6 H => ?_
  dsimp only [List.eraseIdx] at H
  refine s_runk tI Z 1 rfl rfl fun a Z => ?_
  refine s_end Z [2, 3, 5, 6] rfl fun Z => ?_
  refine p_then (wp_ret ?_)
  refine p_then_r ?_
  replace H := H.slNil NEOp
  obtain rfl := some_in hF
  exact f_ret Z (run_resultsCT rfl Z rfl (run_loadVar_agg tI rfl (H.bx 1 rfl).at) rfl) ⟨nS, rfl, I4, (H.sub [(0, true)] rfl).eq rfl⟩
 ·replace hF := ite_f hc1 hF
  refine wp_skip ?_
  refine p_then (wp_seq ?_)
  obtain ⟨o_2, hx5, hF⟩ := bnd_in hF
  refine f_region Z fun Z => ?_
  refine s_runk tI Z 1 rfl rfl fun a Z => ?_
  refine hC Z H [] rfl #[] fn_62_YItem rfl rfl (fun D h => have q := c_ops_Of hx5 h; q) fun vv a w7 D2 hr hF2 Z => ?_
  obtain ⟨q1, rfl, I5, K⟩ := hr
  have H := (hF2 K).nf rfl
  refine s_runk tI Z 3 rfl rfl fun a Z => ?_
  refine hA Z H [vI 0, vI 0, nS] rfl rfl (by kernel_rfl) fun a w8 b2 H Z => ?_
  refine hT tI Z H 0 rfl rfl rfl rfl rfl (onR 2 rfl (one_cons (slS.one (H.slshape 1 rfl)) one_nil)) (Nat.le_of_ble_eq_true rfl) rfl fun w9 H => ?_
  dsimp only [List.eraseIdx] at H
  refine s_runk tI Z 1 rfl rfl fun a Z => ?_
  refine s_end Z [2, 3, 5, 8, 9] rfl fun Z => ?_
  refine p_then (wp_seq ?_)
  refine wp_seq (f_region Z ?_); clear Z; intro Z
  refine s_runk tI Z 2 rfl rfl fun a Z => ?_
  refine s_end Z [2, 3, 5, 8, 9, 28] rfl fun Z => ?_
  refine p_then ?_
  refine f_cond Z rfl (fun hc2 => ?_) (fun hc2 => ?_)
  ·replace hF := ite_t hc2 hF
   refine wp_seq (f_region Z ?_); clear Z; intro Z
   refine sO Z (.agg #[vI 0, vI 0, nS, vU 0]) rfl (Ob_build (vs := []) rfl rfl (by go_simp <;> rfl)) fun a Z => ?_
   refine s_runk tI Z 1 rfl rfl fun a Z => ?_
   refine hT tI Z H 3 rfl rfl rfl rfl rfl (onR 2 rfl (one_cons (slS.one slS.nil) (one_cons rfl one_nil))) (Nat.le_of_ble_eq_true rfl) rfl fun w10 H => ?_
   dsimp only [List.eraseIdx] at H
   refine s_runk tI Z 1 rfl rfl fun a Z => ?_
   refine s_end Z [2, 3, 5, 8] rfl fun Z => ?_
   refine p_then (wp_ret ?_)
   refine p_then_r ?_
   replace H := H.slNil NEOp
   obtain rfl := some_in hF
   exact f_ret Z (run_resultsCT rfl Z rfl (run_loadVar_agg tI rfl (H.bx 1 rfl).at) rfl) ⟨nS, rfl, I5, (H.sub [(0, true)] rfl).eq rfl⟩
  ·replace hF := ite_f hc2 hF
   refine wp_skip ?_
   refine p_then (wp_seq (f_region Z ?_)); clear Z; intro Z
   refine sO Z (.agg #[vI o_2.1.client, vI o_2.1.req, q1]) rfl (oA tI rfl rfl ((H.bx 0 rfl).part 0 rfl)) fun a Z => ?_
   refine s_runk tI Z 1 rfl rfl fun a Z => ?_
   refine sO Z (.agg #[vI o_2.1.client, vI o_2.1.req, q1, vU b.1]) rfl (Ob_build (vs := [(0, .agg #[vI o_2.1.client, vI o_2.1.req, q1]), (1, vU b.1)]) rfl rfl (by go_simp <;> rfl)) fun a Z => ?_
   refine hT tI Z H 3 rfl rfl rfl rfl rfl (onR 2 rfl (one_cons (slS.one (H.slshape 1 rfl)) (one_cons rfl one_nil))) (Nat.le_of_ble_eq_true rfl) rfl fun w11 H => ?_
   dsimp only [List.eraseIdx] at H
   refine s_runk tI Z 1 rfl rfl fun a Z => ?_
   refine s_end Z [2, 3] rfl fun Z => ?_
   refine p_then (wp_ret ?_)
   obtain rfl := some_in hF
   exact f_ret Z (run_resultsCT rfl Z rfl (run_loadVar_agg tI rfl (H.bx 0 rfl).at) rfl) ⟨q1, rfl, I5, (H.sub [(2, true)] rfl).eq rfl⟩

def F_ref08_Same (a0 : EEntry) (b : EEntry) : Option Bool := (gif (a0.ts == b.ts) (F_ref06_Same a0.batch b.batch) default).bind fun s0 => (some ((a0.ts == b.ts) && s0))

set_option maxHeartbeats 1000000 in
theorem c_ref08_Same {I D : Dm} {a0 : EEntry} {v1_a0 : Value} {b : EEntry} {v2_b : Value} {w : World} {rr : Bool} (hF : F_ref08_Same a0 b = some rr) (H : St I D w [SlC NEOp v1_a0 a0.batch.ops, SlC NEOp v2_b b.batch.ops]) :
  Calls Tryz.prog 73 #[.agg (cEEntry a0 v1_a0).toArray, .agg (cEEntry b v2_b).toArray] w (Ret fun vv w' => vv = vT rr ∧ ∃ I', Hf I D w I' w' []) := by
 replace H := H.hf
 unfold F_ref08_Same at hF
 refine f_enter 17 Tryz.func73 rfl rfl (Nat.le_of_ble_eq_true rfl) fun a Z => ?_
 replace Z := Z.sub (ts := [0, 1]) rfl
 refine wp_seq (f_region Z ?_); clear Z; intro Z
 refine h_boxv Z H (cl := (cEEntry a0 v1_a0)) rfl rfl rfl (by decide) rfl rfl rfl fun a w1 b1 H Z => ?_
 refine h_boxv Z H (cl := (cEEntry b v2_b)) rfl rfl rfl (by decide) rfl rfl rfl fun a w2 b2 H Z => ?_
 refine s_runk tI Z 1 rfl rfl fun a Z => ?_
 refine s_end Z [2, 3, 4] rfl fun Z => ?_
 refine p_then (wp_seq ?_)
 obtain ⟨s0, hx1, hF⟩ := bnd_in hF
 refine f_region Z fun Z => ?_
 refine s_runk tI Z 1 rfl rfl fun a Z => ?_
 refine sO Z _ rfl (oL tI rfl rfl (H.bc 1 3 rfl rfl)) fun a Z => ?_
 refine s_runk tI Z 1 rfl rfl fun a Z => ?_
 refine sO Z _ rfl (oL tI rfl rfl (H.bc 0 3 rfl rfl)) fun a Z => ?_
 refine s_runk tI Z 2 rfl rfl fun a Z => ?_
 refine gO Z (pp b1 0) rfl (wantB_t _) (.n 2 rfl .z) (fun hp => Ob_c tI rfl) fun a Z => ?_
 refine gO Z (.agg #[vI a0.batch.client, vI a0.batch.req, v1_a0]) rfl (wantB_t _) (.c 11 rfl id .z) (fun hp => oA tI rfl rfl ((H.bx 1 rfl).part 0 rfl)) fun a Z => ?_
 refine gO Z (pp b2 0) rfl (wantB_t _) (.n 3 rfl .z) (fun hp => Ob_c tI rfl) fun a Z => ?_
 refine gO Z (.agg #[vI b.batch.client, vI b.batch.req, v2_b]) rfl (wantB_t _) (.c 13 rfl id .z) (fun hp => oA tI rfl rfl ((H.bx 0 rfl).part 0 rfl)) fun a Z => ?_
 refine g_call Z (p := (a0.ts == b.ts)) (v := vT s0) (S' := [(12, .agg #[vI a0.batch.client, vI a0.batch.req, v1_a0]), (14, .agg #[vI b.batch.client, vI b.batch.req, v2_b])]) (caps := #[]) fn_30_YItem rfl rfl rfl (wantB_t _) rfl (by decide) (fun hp hS => ((hS.conv (t := 12) rfl (cond_t hp)).conv (t := 14) rfl (cond_t hp)).sub (ts := [12, 14]) rfl) rfl rfl rfl rfl (fun hp => (have hq := c_ref06_Same (gif_in hx1 hp) ((H).pick0 (js := [(2, true), (3, true)]) rfl rfl); plainC hq)) fun a w3 hb Z => ?_
 replace H := H.blw hb
 clear hb
 refine sO Z (vT ((a0.ts == b.ts) && s0)) rfl (Ob_pick rfl rfl rfl rfl (pick_and _ _)) fun a Z => ?_
 refine s_runk tI Z 1 rfl rfl fun a Z => ?_
 refine s_end Z [4] rfl fun Z => ?_
 refine p_then (wp_ret ?_)
 obtain rfl := some_in hF
 exact f_ret Z (run_results1 rfl Z rfl) ⟨rfl, I, (H.sub [] rfl).eq rfl⟩

def F_item_Same (a0 : EEntry) (b : EEntry) : Option Bool := (gif (a0.ts == b.ts) (F_ops_Same a0.batch b.batch) default).bind fun s0 => (some ((a0.ts == b.ts) && s0))

end Go.Proofs.YthmjkcdpbbcdgaaGreat
