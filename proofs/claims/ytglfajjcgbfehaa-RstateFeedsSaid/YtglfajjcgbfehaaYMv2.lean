/- Many versions: the document's store. -/
import Derived.Test.YtglfajjcgbfehaaYMv1
import Derived.Test.YtglfajjcgbfehaaYRv
namespace Go.Proofs.Ytglfajjcgbfehaa
open Go.RowKit
structure Eref16_Row where
 k : ByteArray
 l : List ECell

instance : Inhabited Eref16_Row := ⟨⟨ByteArray.empty, []⟩⟩

def cEref16_Row (x : Eref16_Row) (v0 : Value) : List Value := [.string x.k, v0]

def NEref16_Row : Rp Eref16_Row where
 n := 2
 rep A w cs x := ∃ v0 : Value, cs = cEref16_Row x v0 ∧ slRep NECell A w v0 x.l
 len := fun ⟨v0, h, _⟩ => by rw [h]; rfl
 one := fun ⟨v0, h, s0⟩ c hc => by
  rw [h] at hc
  simp only [cEref16_Row, List.mem_cons, List.not_mem_nil, or_false] at hc
  rcases hc with rfl | rfl
  ·rfl
  ·exact s0.one
 mono := fun ⟨v0, h, s0⟩ hA hk => ⟨v0, h, s0.mono hA hk⟩
 bound := fun ⟨v0, h, s0⟩ => ⟨v0, h, s0.bound⟩

theorem NEref16_Row.dft (A : Dm) (w : World) : ∃ cl, NEref16_Row.rep A w cl default := ⟨_, .slice none 0 0, rfl, slRep.nil _ _ _ _ _ (Nat.zero_le _)⟩

structure Eref16_Store where
 l : List Eref16_Row
 last : Int

instance : Inhabited Eref16_Store := ⟨⟨[], 0⟩⟩

def cEref16_Store (x : Eref16_Store) (v0 : Value) : List Value := [v0, .int .u64 x.last]

def OEref16_Store (b : Nat) (x : Eref16_Store) : Ch := ExC fun (p : Value) => [BxC b 56 (cEref16_Store x p), OwC NEref16_Row 103 p x.l]

def tMv2L : TabL := ⟨[(38912, 0), (38913, 1), (38914, 2), (57344, 0), (57345, 1), (75776, 0), (75777, 1), (75778, 2), (99328, 0), (99329, 1), (105472, 0), (105473, 1)], [9], [], [(36, (74, 3)), (54, (103, 2)), (58, (97, 2)), (86, (95, 3)), (99, (9, 1))], [(3, (1, false)), (4, (1, false)), (9, (1, false)), (27, (1, false)), (36, (1, false)), (38, (3, true)), (54, (1, false)), (74, (3, true)), (86, (1, false)), (95, (3, true)), (97, (2, true))]⟩

def tMv2 : Tab Try.prog := ⟨tMv2L, by kernel_rfl⟩

theorem fn_42_YMv2 : IsFn Try.prog 42 := ⟨_, Try.func42, by kernel_rfl, by kernel_rfl⟩

theorem fn_43_YMv2 : IsFn Try.prog 43 := ⟨_, Try.func43, by kernel_rfl, by kernel_rfl⟩

theorem fn_44_YMv2 : IsFn Try.prog 44 := ⟨_, Try.func44, by kernel_rfl, by kernel_rfl⟩

theorem fn_74_YMv2 : IsFn Try.prog 74 := ⟨_, Try.func74, by kernel_rfl, by kernel_rfl⟩

theorem fn_75_YMv2 : IsFn Try.prog 75 := ⟨_, Try.func75, by kernel_rfl, by kernel_rfl⟩

theorem E_36_YMv2 : Elem Try.prog 36 74 3 40 := ⟨Try.underlying36, by
 have h : (Try.prog.info? 74).map (fun i => (i.zero, i.size, i.bytes)) = some (some (.agg #[.string ByteArray.empty, .string ByteArray.empty, .bool false]), 3, 40) := by kernel_rfl
 obtain ⟨i, hi, h1⟩ := Option.map_eq_some_iff.1 h
 simp only [Prod.mk.injEq] at h1
 exact ⟨i, _, hi, h1.1, h1.2.1, h1.2.2, by rfl⟩, by decide⟩

theorem E_54_YMv2 : Elem Try.prog 54 103 2 40 := ⟨Try.underlying54, by
 have h : (Try.prog.info? 103).map (fun i => (i.zero, i.size, i.bytes)) = some (some (.agg #[.string ByteArray.empty, .slice none 0 0]), 2, 40) := by kernel_rfl
 obtain ⟨i, hi, h1⟩ := Option.map_eq_some_iff.1 h
 simp only [Prod.mk.injEq] at h1
 exact ⟨i, _, hi, h1.1, h1.2.1, h1.2.2, by rfl⟩, by decide⟩

theorem E_58_YMv2 : Elem Try.prog 58 97 2 32 := ⟨Try.underlying58, by
 have h : (Try.prog.info? 97).map (fun i => (i.zero, i.size, i.bytes)) = some (some (.agg #[.string ByteArray.empty, .string ByteArray.empty]), 2, 32) := by kernel_rfl
 obtain ⟨i, hi, h1⟩ := Option.map_eq_some_iff.1 h
 simp only [Prod.mk.injEq] at h1
 exact ⟨i, _, hi, h1.1, h1.2.1, h1.2.2, by rfl⟩, by decide⟩

theorem E_86_YMv2 : Elem Try.prog 86 95 3 32 := ⟨Try.underlying86, by
 have h : (Try.prog.info? 95).map (fun i => (i.zero, i.size, i.bytes)) = some (some (.agg #[.int .u64 0, .string ByteArray.empty, .bool false]), 3, 32) := by kernel_rfl
 obtain ⟨i, hi, h1⟩ := Option.map_eq_some_iff.1 h
 simp only [Prod.mk.injEq] at h1
 exact ⟨i, _, hi, h1.1, h1.2.1, h1.2.2, by rfl⟩, by decide⟩

theorem E_99_YMv2 : Elem Try.prog 99 9 1 16 := ⟨Try.underlying99, by
 have h : (Try.prog.info? 9).map (fun i => (i.zero, i.size, i.bytes)) = some (some (.string ByteArray.empty), 1, 16) := by kernel_rfl
 obtain ⟨i, hi, h1⟩ := Option.map_eq_some_iff.1 h
 simp only [Prod.mk.injEq] at h1
 exact ⟨i, _, hi, h1.1, h1.2.1, h1.2.2, by rfl⟩, by decide⟩

theorem neq_EPair (x y : EPair) (w : World) : (binOp .neq 97 (.agg (cEPair x).toArray) (.agg (cEPair y).toArray)).run Try.prog w = .ok (.bool (!eqEPair x y)) w := by
 have h1 := run_equalIn_struct (P := Try.prog) w 9999 97 (cEPair x).toArray (cEPair y).toArray (by rw [fieldsOf_of Try.underlying97]; exact Try.underlying97) (by kernel_rfl)
 rw [run_neq_struct, h1, fieldsOf_of Try.underlying97]
 simp [Op.eqFields, part, isAgg, cEPair, beqS, eqEPair, seqB_eq, run_underlying Try.underlying9, run_equalIn_string w 9998 9 _ _ Try.underlying9]
 try ((repeat' split) <;> simp_all)

theorem eqg_EPair (op : BinOp) (x y : Operand) (a b : Array Value) (w : World) : (eqGuard op 97 x y (.agg a) (.agg b)).run Try.prog w = .ok () w := run_eqGuard_agg (by kernel_rfl) op x y a b w

def F_ref16_Store_Cells_l1 (s0 : Eref16_Store) (rc : (Int × Int) → Option Int) (sg : Int × Int) : Option Int := match sg with | (n0, i) => if (decide (i < (s0.l.length : Int))) = true then (chk ((0 : Int) ≤ i ∧ i < (s0.l.length : Int)) (chk (inI (n0 + (((s0.l.getD (i).toNat default).l).length : Int))) (chk (inI (i + 1)) (rc (n0 + (((s0.l.getD (i).toNat default).l).length : Int), i + 1))))) else (some n0)

def F_ref16_Store_Cells (s0 : Eref16_Store) : Option Int := iter (F_ref16_Store_Cells_l1 s0) FU (0, 0)

set_option maxHeartbeats 1000000 in
theorem c_ref16_Store_Cells {I D : Dm} {b_s0 : Nat} {s0 : Eref16_Store} {w : World} {rr : Int} (hF : F_ref16_Store_Cells s0 = some rr) (H : St I D w [OEref16_Store b_s0 s0]) :
  Calls Try.prog 23 #[pp b_s0 0] w (Ret fun vv w' => vv = vI rr ∧ ∃ I', Hf I D w I' w' [OEref16_Store b_s0 s0]) := by
 replace H := H.hf
 unfold F_ref16_Store_Cells at hF
 refine f_enter 26 Try.func23 rfl rfl (Nat.le_of_ble_eq_true rfl) fun a Z => ?_
 replace Z := Z.sub (ts := [0]) rfl
 refine wp_seq (f_region Z ?_); clear Z; intro Z
 refine s_runk tMv2 Z 1 rfl rfl fun a Z => ?_
 refine s_end Z [0, 2] rfl fun Z => ?_
 refine p_then (wp_seq (f_region Z ?_)); clear Z; intro Z
 refine s_runk tMv2 Z 1 rfl rfl fun a Z => ?_
 refine s_end Z [0, 2, 3] rfl fun Z => ?_
 refine p_then (wp_seq ?_)
 refine wp_seq (f_region Z ?_); clear Z; intro Z
 refine s_runk tMv2 Z 1 rfl rfl fun a Z => ?_
 refine s_end Z [0, 2, 3, 4] rfl fun Z => ?_
 refine p_then (wp_block ?_)
 refine f_iter hF (fun sg a' w' => match sg with | (n0, i) => Sl 26 [(0, pp b_s0 0), (2, vI 0), (3, vI n0), (4, vI i)] a' ∧ ∃ I2, Hf I D w I2 w' [OEref16_Store b_s0 s0]) ⟨Z.sub (ts := [0, 2, 3, 4]) rfl, ⟨I, (H.sub [(0, false)] rfl).eq rfl⟩⟩ ?_
 rintro rc ⟨n0, i⟩ a w1 ⟨Z, I1, H⟩ hF
 unfold F_ref16_Store_Cells_l1 at hF
 try dsimp only at hF
 refine wp_seq ?_
 refine wp_seq (f_region Z ?_); clear Z; intro Z
 refine s_runk tMv2 Z 4 rfl rfl fun a Z => ?_
 obtain ⟨v1, H⟩ := H.openX 0 rfl
 replace H := H.nf rfl; try dsimp only at H
 refine sO Z _ rfl (oL tMv2 rfl rfl (H.bc 0 0 rfl rfl)) fun a Z => ?_
 refine sO Z (vI (ln s0.l)) rfl (Ob_slen tMv2 rfl rfl rfl (H.owshape 1 rfl)) fun a Z => ?_
 refine s_runk tMv2 Z 1 rfl rfl fun a Z => ?_
 refine s_end Z [0, 2, 3, 4, 5, 6, 7, 8, 9, 10, 11] rfl fun Z => ?_
 refine p_then ?_
 refine f_cond Z rfl (fun hc1 => ?_) (fun hc1 => ?_)
 ·replace hF := ite_t hc1 hF
  refine wp_skip ?_
  refine p_then (wp_seq ?_)
  refine wp_block ?_
  obtain ⟨hg1, hF⟩ := chk_in hF
  obtain ⟨hg2, hF⟩ := chk_in hF
  refine f_region Z fun Z => ?_
  refine s_runk tMv2 Z 4 rfl rfl fun a Z => ?_
  refine sO Z _ rfl (oL tMv2 rfl rfl (H.bc 0 0 rfl rfl)) fun a Z => ?_
  refine s_runk tMv2 Z 1 rfl rfl fun a Z => ?_
  refine sO Z (.pointer (some ⟨blkOf v1, oofOf v1 + (i).toNat * 2, none⟩)) rfl (Ob_sidx tMv2 rfl rfl rfl rfl (slPl (H.owA 1 rfl) hg1) hg1) fun a Z => ?_
  refine s_runk tMv2 Z 1 rfl rfl fun a Z => ?_
  obtain ⟨_, ⟨u1, rfl, L1⟩, hat1⟩ := H.owEl 1 rfl hg1
  replace H : Hf I D w I1 w1 [SlC NECell u1 ((gi s0.l i).l), BxC b_s0 56 [v1, vU s0.last], OwC NEref16_Row 103 v1 s0.l] := H.addsl L1
  refine sO Z u1 rfl (oL tMv2 rfl rfl (hat1 1 _ rfl)) fun a Z => ?_
  refine sO Z (vI (((gi s0.l i).l).length : Int)) rfl (Ob_slen tMv2 rfl rfl rfl (H.slshape 0 rfl)) fun a Z => ?_
  refine sO Z (vI (n0 + (((gi s0.l i).l).length : Int))) rfl (Ob_add rfl rfl rfl (wrI hg2)) fun a Z => ?_
  refine s_runk tMv2 Z 1 rfl rfl fun a Z => ?_
  refine s_end Z [0, 2, 3, 4, 5, 6, 7, 8, 9, 10, 11, 14, 15, 16, 17, 18, 19, 20, 21, 22, 23, 24] rfl fun Z => ?_
  refine p_blk ?_
  refine p_then ?_
  obtain ⟨hg3, hF⟩ := chk_in hF
  refine f_region Z fun Z => ?_
  refine s_runk tMv2 Z 1 rfl rfl fun a Z => ?_
  refine sO Z (vI (i + 1)) rfl (Ob_add rfl rfl rfl (wrI hg3)) fun a Z => ?_
  refine s_runk tMv2 Z 1 rfl rfl fun a Z => ?_
  refine s_end Z [0, 2, 3, 4, 5, 6, 7, 8, 9, 10, 11, 14, 15, 16, 17, 18, 19, 20, 21, 22, 23, 24, 12, 13] rfl fun Z => ?_
  refine p_then ?_
  replace H := H.sX (OEref16_Store b_s0 s0) (v1) [(1, false), (1, false)] rfl rfl rfl
  exact ⟨(n0 + (((gi s0.l i).l).length : Int), i + 1), ⟨Z.sub (ts := [0, 2, 3, 4]) rfl, ⟨I1, (H.sub [(0, false)] rfl).eq rfl⟩⟩, hF⟩
 ·replace hF := ite_f hc1 hF
  refine wp_exit ?_
  refine p_then_x ?_
  refine p_then_x ?_
  refine f_exit_here ?_
  refine p_then (wp_seq (f_region Z ?_)); clear Z; intro Z
  refine s_runk tMv2 Z 2 rfl rfl fun a Z => ?_
  refine s_end Z [2] rfl fun Z => ?_
  refine p_then (wp_ret ?_)
  replace H := H.sX (OEref16_Store b_s0 s0) (v1) [(0, false), (0, false)] rfl rfl rfl
  obtain rfl := some_in hF
  exact f_ret Z (run_results1 rfl Z rfl) ⟨rfl, I1, (H.sub [(0, false)] rfl).eq rfl⟩

def F_ref16_Store_lay_k2 (s0 : Eref16_Store) (c : ECell) (i : Int) (s_l : List Eref16_Row) : Option Eref16_Store := chk ((0 : Int) ≤ i ∧ i < (s_l.length : Int)) (chk (((([] : List ECell).length + ((s_l.getD (i).toNat default).l).length : Nat) : Int) * 32 ≤ 140737488355328) (chk ((((([] : List ECell) ++ ((s_l.getD (i).toNat default).l)).length + [c].length : Nat) : Int) * 32 ≤ 140737488355328) (chk ((0 : Int) ≤ i ∧ i < (s_l.length : Int)) (some ({ s0 with l := s_l.set (i).toNat ({ (s_l.getD (i).toNat default) with l := (([] : List ECell) ++ ((s_l.getD (i).toNat default).l)) ++ [c] } : Eref16_Row) } : Eref16_Store)))))

def F_ref16_Store_lay_l1 (s0 : Eref16_Store) (k : ByteArray) (c : ECell) (rc : Int → Option Eref16_Store) (sg : Int) : Option Eref16_Store := match sg with | i => chk ((decide (i < (s0.l.length : Int))) = true → (0 : Int) ≤ i ∧ i < (s0.l.length : Int)) (if ((decide (i < (s0.l.length : Int))) && (sltB ((s0.l.getD (i).toNat default).k) k)) = true then (chk (inI (i + 1)) (rc (i + 1))) else (chk ((!(i == (s0.l.length : Int))) = true → (0 : Int) ≤ i ∧ i < (s0.l.length : Int)) (if ((i == (s0.l.length : Int)) || (!seqB ((s0.l.getD (i).toNat default).k) k)) = true then (chk ((0 : Int) ≤ i ∧ i ≤ (s0.l.length : Int)) (chk (((([] : List Eref16_Row).length + (s0.l.take ((i).toNat)).length : Nat) : Int) * 40 ≤ 140737488355328) (chk (((([] ++ (s0.l.take ((i).toNat))).length + [({ k := k, l := ([] : List ECell) } : Eref16_Row)].length : Nat) : Int) * 40 ≤ 140737488355328) (chk ((0 : Int) ≤ i ∧ i ≤ (s0.l.length : Int)) (chk ((((([] ++ (s0.l.take ((i).toNat))) ++ [({ k := k, l := ([] : List ECell) } : Eref16_Row)]).length + (s0.l.drop ((i).toNat)).length : Nat) : Int) * 40 ≤ 140737488355328) (F_ref16_Store_lay_k2 s0 c i ((([] ++ (s0.l.take ((i).toNat))) ++ [({ k := k, l := ([] : List ECell) } : Eref16_Row)]) ++ (s0.l.drop ((i).toNat))))))))) else (F_ref16_Store_lay_k2 s0 c i s0.l))))

def F_ref16_Store_lay (s0 : Eref16_Store) (k : ByteArray) (c : ECell) : Option Eref16_Store := iter (F_ref16_Store_lay_l1 s0 k c) FU 0

set_option maxHeartbeats 1000000 in
theorem c_ref16_Store_lay {I D : Dm} {b_s0 : Nat} {s0 : Eref16_Store} {k : ByteArray} {c : ECell} {w : World} {rr : Eref16_Store} (hF : F_ref16_Store_lay s0 k c = some rr) (H : St I D w [OEref16_Store b_s0 s0]) :
  Calls Try.prog 43 #[pp b_s0 0, vS k, .agg #[vU c.ts, vS c.val, vT c.del]] w (Ret fun vv w' => vv = .tuple #[] ∧ ∃ I', Hf I D w I' w' [OEref16_Store b_s0 rr]) := by
 replace H := H.hf
 unfold F_ref16_Store_lay at hF
 refine f_enter 94 Try.func43 rfl rfl (Nat.le_of_ble_eq_true rfl) fun a Z => ?_
 replace Z := Z.sub (ts := [0, 1, 2]) rfl
 refine wp_seq (f_region Z ?_); clear Z; intro Z
 refine hB Z H [vU c.ts, vS c.val, vT c.del] rfl rfl rfl rfl fun a w1 b1 H Z => ?_
 refine s_end Z [0, 1, 5] rfl fun Z => ?_
 refine p_then (wp_seq (f_region Z ?_)); clear Z; intro Z
 refine s_runk tMv2 Z 1 rfl rfl fun a Z => ?_
 refine s_end Z [0, 1, 5, 6] rfl fun Z => ?_
 refine p_then (wp_seq ?_)
 refine wp_block ?_
 refine f_iter hF (fun sg a' w' => match sg with | i => Sl 94 [(0, pp b_s0 0), (1, vS k), (5, pp b1 0), (6, vI i)] a' ∧ ∃ I2, Hf I D w I2 w' [OEref16_Store b_s0 s0, BxC b1 95 [vU c.ts, vS c.val, vT c.del]]) ⟨Z.sub (ts := [0, 1, 5, 6]) rfl, ⟨I, (H.sub [(1, false), (0, false)] rfl).eq rfl⟩⟩ ?_
 rintro rc i a w2 ⟨Z, I1, H⟩ hF
 unfold F_ref16_Store_lay_l1 at hF
 try dsimp only at hF
 refine wp_seq ?_
 refine wp_seq ?_
 obtain ⟨hg1, hF⟩ := chk_in hF
 refine f_region Z fun Z => ?_
 refine s_runk tMv2 Z 4 rfl rfl fun a Z => ?_
 obtain ⟨v1, H⟩ := H.openX 0 rfl
 replace H := H.nf rfl; try dsimp only at H
 refine sO Z _ rfl (oL tMv2 rfl rfl (H.bc 0 0 rfl rfl)) fun a Z => ?_
 refine sO Z (vI (ln s0.l)) rfl (Ob_slen tMv2 rfl rfl rfl (H.owshape 1 rfl)) fun a Z => ?_
 refine s_runk tMv2 Z 2 rfl rfl fun a Z => ?_
 refine gO Z (pp b_s0 0) rfl (wantB_t _) (.n 0 rfl .z) (fun hp => Ob_c tMv2 rfl) fun a Z => ?_
 refine gO Z (pp b_s0 0) rfl (wantB_t _) (.c 17 rfl id .z) (fun hp => Ob_c tMv2 rfl) fun a Z => ?_
 refine gO Z (pp b_s0 0) rfl (wantB_t _) (.c 18 rfl id .z) (fun hp => Ob_c tMv2 rfl) fun a Z => ?_
 refine gO Z _ rfl (wantB_t _) (.c 19 rfl id .z) (fun hp => oL tMv2 rfl rfl (H.bc 0 0 rfl rfl)) fun a Z => ?_
 refine gO Z (vI i) rfl (wantB_t _) (.n 6 rfl .z) (fun hp => Ob_c tMv2 rfl) fun a Z => ?_
 refine gO Z (.pointer (some ⟨blkOf v1, oofOf v1 + (i).toNat * 2, none⟩)) rfl (wantB_t _) (.c 20 rfl id (.c 21 rfl id .z)) (fun hp => Ob_sidx tMv2 rfl rfl rfl rfl (slPl (H.owA 1 rfl) (hg1 hp)) (hg1 hp)) fun a Z => ?_
 refine gO Z (.pointer (some ⟨blkOf v1, oofOf v1 + (i).toNat * 2, none⟩)) rfl (wantB_t _) (.c 22 rfl id .z) (fun hp => Ob_c tMv2 rfl) fun a Z => ?_
 obtain ⟨_, ⟨u1, rfl, L1⟩, hat1⟩ := H.owElG 1 rfl (i) (NEref16_Row.dft _ _)
 replace H : Hf I D w I1 w2 [SlC NECell u1 ((gi s0.l i).l), BxC b_s0 56 [v1, vU s0.last], OwC NEref16_Row 103 v1 s0.l, BxC b1 95 [vU c.ts, vS c.val, vT c.del]] := H.addsl L1
 refine gO Z (vS ((gi s0.l i).k)) rfl (wantB_t _) (.c 23 rfl id .z) (fun hp => oL tMv2 rfl rfl ((hat1 (hg1 hp)) 0 _ rfl)) fun a Z => ?_
 refine gO Z (vS k) rfl (wantB_t _) (.n 1 rfl .z) (fun hp => Ob_c tMv2 rfl) fun a Z => ?_
 refine gO Z (vT (sltB ((gi s0.l i).k) k)) rfl (wantB_t _) (.c 24 rfl id (.c 25 rfl id .z)) (fun hp => Ob_c tMv2 rfl) fun a Z => ?_
 refine sO Z (vT ((decide (i < (ln s0.l))) && (sltB ((gi s0.l i).k) k))) rfl (Ob_pick rfl rfl rfl rfl (pick_and _ _)) fun a Z => ?_
 refine s_end Z [0, 1, 5, 6, 9, 10, 11, 12, 13, 14, 15, 16, 27] rfl fun Z => ?_
 refine p_then ?_
 refine f_cond Z rfl (fun hc1 => ?_) (fun hc1 => ?_)
 ·replace hF := ite_t hc1 hF
  refine wp_skip ?_
  refine p_then (wp_block ?_)
  obtain ⟨hg2, hF⟩ := chk_in hF
  refine f_region Z fun Z => ?_
  refine s_runk tMv2 Z 1 rfl rfl fun a Z => ?_
  refine sO Z (vI (i + 1)) rfl (Ob_add rfl rfl rfl (wrI hg2)) fun a Z => ?_
  refine s_runk tMv2 Z 1 rfl rfl fun a Z => ?_
  refine s_end Z [0, 1, 5, 6, 9, 10, 11, 12, 13, 14, 15, 16, 27, 28, 29] rfl fun Z => ?_
  refine p_blk ?_
  refine p_then ?_
  replace H := H.sX (OEref16_Store b_s0 s0) (v1) [(1, false), (1, false)] rfl rfl rfl
  exact ⟨(i + 1), ⟨Z.sub (ts := [0, 1, 5, 6]) rfl, ⟨I1, (H.sub [(0, false), (1, false)] rfl).eq rfl⟩⟩, hF⟩
 ·replace hF := ite_f hc1 hF
  refine wp_exit ?_
  refine p_then_x ?_
  refine p_then_x ?_
  refine f_exit_here ?_
  refine p_then ?_
  refine f_cut (fun a' w' => ∃ (s_l : List Eref16_Row), ∃ v2 : Value, Sl 94 [(0, pp b_s0 0), (5, pp b1 0), (6, vI i)] a' ∧ (∃ I2, Hf I D w I2 w' [BxC b_s0 56 [v2, vU s0.last], BxC b1 95 [vU c.ts, vS c.val, vT c.del], OwC NEref16_Row 103 v2 s_l]) ∧ F_ref16_Store_lay_k2 s0 c i s_l = some rr) ?_ ?_
  ·rintro a w3 ⟨s_l, v2, Z, ⟨I2, H⟩, hF⟩
   unfold F_ref16_Store_lay_k2 at hF
   try dsimp only at hF
   refine wp_seq ?_
   obtain ⟨css1, hl1, H⟩ := H.rwOpen 2 rfl
   replace H := H.nf rfl; try dsimp only at H
   obtain ⟨_, ⟨u2, rfl, L2⟩, hcs1⟩ := H.rwG 0 rfl (i) (NEref16_Row.dft _ _)
   replace H : Hf I D w I2 w3 [SlC NECell u2 ((gi s_l i).l), RpsC NEref16_Row css1 s_l, OwC (Rraw 2) 103 v2 css1, BxC b_s0 56 [v2, vU s0.last], BxC b1 95 [vU c.ts, vS c.val, vT c.del]] := H.addsl L2
   obtain ⟨hg3, hF⟩ := chk_in hF
   obtain ⟨hg4, hF⟩ := chk_in hF
   obtain ⟨hg5, hF⟩ := chk_in hF
   refine f_regionG Z (by kernel_rfl) (by kernel_rfl) (by decide) (by decide) [0, 9, 11, 12] [(0, [0, 4]), (0, [0, 1, 4, 5]), (2, [0, 1, 4, 5]), (6, [0, 1, 4, 5]), (14, [0, 1, 4, 5]), (0, [0, 1, 4, 5]), (62, [0, 1, 4, 5]), (126, [0, 1, 4, 5]), (254, [0, 1, 4, 5]), (511, [1, 5]), (0, [0, 1, 3]), (1024, [0, 1, 3]), (4095, [7]), (8191, [15])] (by kernel_rfl) (fun jj => match jj with | 13 => 12 | _ => jj) (by kernel_rfl) (fun jj rv vv => cond (Nat.blt jj 7) (cond (Nat.blt jj 3) (cond (Nat.blt jj 1) (vv = .slice (some ⟨blkOf vv, 0, none⟩) 0 0) (cond (Nat.blt jj 2) (vv = pp b_s0 0) (vv = pp b_s0 0))) (cond (Nat.blt jj 5) (cond (Nat.blt jj 4) (vv = pp b_s0 0) (vv = v2)) (cond (Nat.blt jj 6) (vv = vI i) (vv = .pointer (some ⟨blkOf v2, oofOf v2 + (i).toNat * 2, none⟩))))) (cond (Nat.blt jj 10) (cond (Nat.blt jj 8) (vv = .pointer (some ⟨blkOf v2, oofOf v2 + (i).toNat * 2 + 1, none⟩)) (cond (Nat.blt jj 9) (vv = u2) (True))) (cond (Nat.blt jj 12) (cond (Nat.blt jj 11) (vv = .agg #[vU c.ts, vS c.val, vT c.del]) (vv = .slice (some ⟨blkOf vv, 0, none⟩) 1 1)) (cond (Nat.blt jj 13) (True) (vv = rv))))) (fun ss vals1 xw => match ss with | 0 => Gx I D w I2 w3 xw [SlC NECell u2 ((gi s_l i).l), RpsC NEref16_Row css1 s_l, OwC (Rraw 2) 103 v2 css1, BxC b_s0 56 [v2, vU s0.last], BxC b1 95 [vU c.ts, vS c.val, vT c.del]] | 1 => Gx I D w I2 w3 xw [BxC (blkOf (vals1 0)) 95 [], SlC NECell u2 ((gi s_l i).l), RpsC NEref16_Row css1 s_l, OwC (Rraw 2) 103 v2 css1, BxC b_s0 56 [v2, vU s0.last], BxC b1 95 [vU c.ts, vS c.val, vT c.del]] | 3 => Gx I D w I2 w3 xw [OwC NECell 95 (vals1 9) (([] : List ECell) ++ ((gi s_l i).l)), SlC NECell u2 ((gi s_l i).l), RpsC NEref16_Row css1 s_l, OwC (Rraw 2) 103 v2 css1, BxC b_s0 56 [v2, vU s0.last], BxC b1 95 [vU c.ts, vS c.val, vT c.del]] | 4 => Gx I D w I2 w3 xw [BxC (blkOf (vals1 11)) 95 [vU c.ts, vS c.val, vT c.del], SlC NECell u2 ((gi s_l i).l), RpsC NEref16_Row css1 s_l, OwC (Rraw 2) 103 v2 css1, BxC b_s0 56 [v2, vU s0.last], BxC b1 95 [vU c.ts, vS c.val, vT c.del]] | 5 => Gx I D w I2 w3 xw [BxC (blkOf (vals1 11)) 95 [vU c.ts, vS c.val, vT c.del], BxC (blkOf (vals1 0)) 95 [], SlC NECell u2 ((gi s_l i).l), RpsC NEref16_Row css1 s_l, OwC (Rraw 2) 103 v2 css1, BxC b_s0 56 [v2, vU s0.last], BxC b1 95 [vU c.ts, vS c.val, vT c.del]] | 7 => Gx I D w I2 w3 xw [BxC (blkOf (vals1 11)) 95 [vU c.ts, vS c.val, vT c.del], OwC NECell 95 (vals1 9) (([] : List ECell) ++ ((gi s_l i).l)), SlC NECell u2 ((gi s_l i).l), RpsC NEref16_Row css1 s_l, OwC (Rraw 2) 103 v2 css1, BxC b_s0 56 [v2, vU s0.last], BxC b1 95 [vU c.ts, vS c.val, vT c.del]] | _ => Gx I D w I2 w3 xw [OwC NECell 95 (vals1 12) ((([] : List ECell) ++ ((gi s_l i).l)) ++ [c]), SlC NECell u2 ((gi s_l i).l), RpsC NEref16_Row css1 s_l, OwC (Rraw 2) 103 v2 css1, BxC b_s0 56 [v2, vU s0.last], BxC b1 95 [vU c.ts, vS c.val, vT c.del]]) (fun _ => Gx.start H) ?_ ?_
   ·intro fr hfr hfe
    refine .cons (fun ss hs vals1 xw hG hV => ?_) ?_
    ·obtain rfl | rfl : ss = 0 ∨ ss = 4 := by simpa using hs
     ·rw [← hfe]
      have hS := (hfr vals1).sub (ts := []) rfl
      obtain ⟨I2, hI2, H⟩ := Gx.ex hG
      exact L_bslice H (vs := []) (cl := []) (e := 95) hS rfl rfl rfl (fun w => run_bslice (z := .agg #[vU 0, vS ByteArray.empty, vT false]) (m := 3) Try.underlying86 (by kernel_rfl) rfl rfl (by decide) (by simp [Instr.fill, Value.cells]) w) fun yw b hK H => ⟨rfl, Gx.go hG hI2 hK (fun _ h => h) H⟩
     ·rw [← hfe]
      have hS := (hfr vals1).sub (ts := []) rfl
      obtain ⟨I2, hI2, H⟩ := Gx.ex hG
      exact L_bslice H (vs := []) (cl := []) (e := 95) hS rfl rfl rfl (fun w => run_bslice (z := .agg #[vU 0, vS ByteArray.empty, vT false]) (m := 3) Try.underlying86 (by kernel_rfl) rfl rfl (by decide) (by simp [Instr.fill, Value.cells]) w) fun yw b hK H => ⟨rfl, Gx.go hG hI2 hK (fun _ h => h) (Hf.sub H [(1, false), (0, false), (0, true), (1, true), (2, false), (2, false), (2, false)] rfl)⟩
    refine .cons (fun ss hs vals1 xw hG hV => ?_) ?_
    ·obtain rfl | rfl | rfl | rfl : ss = 0 ∨ ss = 1 ∨ ss = 4 ∨ ss = 5 := by simpa using hs
     all_goals
     ·rw [← hfe]
      have hS := (hfr vals1).sub (ts := [0]) rfl
      exact L_val hS rfl (Ob_c tMv2 rfl) ⟨rfl, hG⟩
    refine .cons (fun ss hs vals1 xw hG hV => ?_) ?_
    ·obtain rfl | rfl | rfl | rfl : ss = 0 ∨ ss = 1 ∨ ss = 4 ∨ ss = 5 := by simpa using hs
     all_goals
     ·rw [← hfe]
      have hS := (hfr vals1).sub (ts := [74]) rfl
      replace hS := hS.conv (t := 74) rfl (show (vals1 1) = pp b_s0 0 from hV 1 (by decide))
      exact L_val hS rfl (Ob_c tMv2 rfl) ⟨rfl, hG⟩
    refine .cons (fun ss hs vals1 xw hG hV => ?_) ?_
    ·obtain rfl | rfl | rfl | rfl : ss = 0 ∨ ss = 1 ∨ ss = 4 ∨ ss = 5 := by simpa using hs
     all_goals
     ·rw [← hfe]
      have hS := (hfr vals1).sub (ts := [75]) rfl
      replace hS := hS.conv (t := 75) rfl (show (vals1 2) = pp b_s0 0 from hV 2 (by decide))
      exact L_val hS rfl (Ob_c tMv2 rfl) ⟨rfl, hG⟩
    refine .cons (fun ss hs vals1 xw hG hV => ?_) ?_
    ·obtain rfl | rfl | rfl | rfl : ss = 0 ∨ ss = 1 ∨ ss = 4 ∨ ss = 5 := by simpa using hs
     ·rw [← hfe]
      have hS := (hfr vals1).sub (ts := [76]) rfl
      replace hS := hS.conv (t := 76) rfl (show (vals1 3) = pp b_s0 0 from hV 3 (by decide))
      obtain ⟨I2, hI2, H⟩ := Gx.ex hG
      exact L_val hS rfl (oL tMv2 rfl rfl (H.bc 3 0 rfl rfl)) ⟨rfl, hG⟩
     ·rw [← hfe]
      have hS := (hfr vals1).sub (ts := [76]) rfl
      replace hS := hS.conv (t := 76) rfl (show (vals1 3) = pp b_s0 0 from hV 3 (by decide))
      obtain ⟨I2, hI2, H⟩ := Gx.ex hG
      exact L_val hS rfl (oL tMv2 rfl rfl (H.bc 4 0 rfl rfl)) ⟨rfl, hG⟩
     ·rw [← hfe]
      have hS := (hfr vals1).sub (ts := [76]) rfl
      replace hS := hS.conv (t := 76) rfl (show (vals1 3) = pp b_s0 0 from hV 3 (by decide))
      obtain ⟨I2, hI2, H⟩ := Gx.ex hG
      exact L_val hS rfl (oL tMv2 rfl rfl (H.bc 4 0 rfl rfl)) ⟨rfl, hG⟩
     ·rw [← hfe]
      have hS := (hfr vals1).sub (ts := [76]) rfl
      replace hS := hS.conv (t := 76) rfl (show (vals1 3) = pp b_s0 0 from hV 3 (by decide))
      obtain ⟨I2, hI2, H⟩ := Gx.ex hG
      exact L_val hS rfl (oL tMv2 rfl rfl (H.bc 5 0 rfl rfl)) ⟨rfl, hG⟩
    refine .cons (fun ss hs vals1 xw hG hV => ?_) ?_
    ·obtain rfl | rfl | rfl | rfl : ss = 0 ∨ ss = 1 ∨ ss = 4 ∨ ss = 5 := by simpa using hs
     all_goals
     ·rw [← hfe]
      have hS := (hfr vals1).sub (ts := [6]) rfl
      exact L_val hS rfl (Ob_c tMv2 rfl) ⟨rfl, hG⟩
    refine .cons (fun ss hs vals1 xw hG hV => ?_) ?_
    ·obtain rfl | rfl | rfl | rfl : ss = 0 ∨ ss = 1 ∨ ss = 4 ∨ ss = 5 := by simpa using hs
     ·rw [← hfe]
      have hS := (hfr vals1).sub (ts := [77, 78]) rfl
      replace hS := hS.conv (t := 77) rfl (show (vals1 4) = v2 from hV 4 (by decide))
      replace hS := hS.conv (t := 78) rfl (show (vals1 5) = vI i from hV 5 (by decide))
      obtain ⟨I2, hI2, H⟩ := Gx.ex hG
      exact L_val hS rfl (Ob_sidx tMv2 rfl rfl rfl rfl (slPl (H.rwA 2 1 rfl rfl rfl) hg3) hg3) ⟨rfl, hG⟩
     ·rw [← hfe]
      have hS := (hfr vals1).sub (ts := [77, 78]) rfl
      replace hS := hS.conv (t := 77) rfl (show (vals1 4) = v2 from hV 4 (by decide))
      replace hS := hS.conv (t := 78) rfl (show (vals1 5) = vI i from hV 5 (by decide))
      obtain ⟨I2, hI2, H⟩ := Gx.ex hG
      exact L_val hS rfl (Ob_sidx tMv2 rfl rfl rfl rfl (slPl (H.rwA 3 2 rfl rfl rfl) hg3) hg3) ⟨rfl, hG⟩
     ·rw [← hfe]
      have hS := (hfr vals1).sub (ts := [77, 78]) rfl
      replace hS := hS.conv (t := 77) rfl (show (vals1 4) = v2 from hV 4 (by decide))
      replace hS := hS.conv (t := 78) rfl (show (vals1 5) = vI i from hV 5 (by decide))
      obtain ⟨I2, hI2, H⟩ := Gx.ex hG
      exact L_val hS rfl (Ob_sidx tMv2 rfl rfl rfl rfl (slPl (H.rwA 3 2 rfl rfl rfl) hg3) hg3) ⟨rfl, hG⟩
     ·rw [← hfe]
      have hS := (hfr vals1).sub (ts := [77, 78]) rfl
      replace hS := hS.conv (t := 77) rfl (show (vals1 4) = v2 from hV 4 (by decide))
      replace hS := hS.conv (t := 78) rfl (show (vals1 5) = vI i from hV 5 (by decide))
      obtain ⟨I2, hI2, H⟩ := Gx.ex hG
      exact L_val hS rfl (Ob_sidx tMv2 rfl rfl rfl rfl (slPl (H.rwA 4 3 rfl rfl rfl) hg3) hg3) ⟨rfl, hG⟩
    refine .cons (fun ss hs vals1 xw hG hV => ?_) ?_
    ·obtain rfl | rfl | rfl | rfl : ss = 0 ∨ ss = 1 ∨ ss = 4 ∨ ss = 5 := by simpa using hs
     all_goals
     ·rw [← hfe]
      have hS := (hfr vals1).sub (ts := [79]) rfl
      replace hS := hS.conv (t := 79) rfl (show (vals1 6) = .pointer (some ⟨blkOf v2, oofOf v2 + (i).toNat * 2, none⟩) from hV 6 (by decide))
      exact L_val hS rfl (Ob_c tMv2 rfl) ⟨rfl, hG⟩
    refine .cons (fun ss hs vals1 xw hG hV => ?_) ?_
    ·obtain rfl | rfl | rfl | rfl : ss = 0 ∨ ss = 1 ∨ ss = 4 ∨ ss = 5 := by simpa using hs
     ·rw [← hfe]
      have hS := (hfr vals1).sub (ts := [80]) rfl
      replace hS := hS.conv (t := 80) rfl (show (vals1 7) = .pointer (some ⟨blkOf v2, oofOf v2 + (i).toNat * 2 + 1, none⟩) from hV 7 (by decide))
      obtain ⟨I2, hI2, H⟩ := Gx.ex hG
      exact L_val hS rfl (oL tMv2 rfl rfl ((H.rwAt 2 rfl hl1 hg3 (hcs1 hg3)) 1 _ rfl)) ⟨rfl, hG⟩
     ·rw [← hfe]
      have hS := (hfr vals1).sub (ts := [80]) rfl
      replace hS := hS.conv (t := 80) rfl (show (vals1 7) = .pointer (some ⟨blkOf v2, oofOf v2 + (i).toNat * 2 + 1, none⟩) from hV 7 (by decide))
      obtain ⟨I2, hI2, H⟩ := Gx.ex hG
      exact L_val hS rfl (oL tMv2 rfl rfl ((H.rwAt 3 rfl hl1 hg3 (hcs1 hg3)) 1 _ rfl)) ⟨rfl, hG⟩
     ·rw [← hfe]
      have hS := (hfr vals1).sub (ts := [80]) rfl
      replace hS := hS.conv (t := 80) rfl (show (vals1 7) = .pointer (some ⟨blkOf v2, oofOf v2 + (i).toNat * 2 + 1, none⟩) from hV 7 (by decide))
      obtain ⟨I2, hI2, H⟩ := Gx.ex hG
      exact L_val hS rfl (oL tMv2 rfl rfl ((H.rwAt 3 rfl hl1 hg3 (hcs1 hg3)) 1 _ rfl)) ⟨rfl, hG⟩
     ·rw [← hfe]
      have hS := (hfr vals1).sub (ts := [80]) rfl
      replace hS := hS.conv (t := 80) rfl (show (vals1 7) = .pointer (some ⟨blkOf v2, oofOf v2 + (i).toNat * 2 + 1, none⟩) from hV 7 (by decide))
      obtain ⟨I2, hI2, H⟩ := Gx.ex hG
      exact L_val hS rfl (oL tMv2 rfl rfl ((H.rwAt 4 rfl hl1 hg3 (hcs1 hg3)) 1 _ rfl)) ⟨rfl, hG⟩
    refine .cons (fun ss hs vals1 xw hG hV => ?_) ?_
    ·obtain rfl | rfl : ss = 1 ∨ ss = 5 := by simpa using hs
     ·rw [← hfe]
      have hS := (hfr vals1).sub (ts := [73, 81]) rfl
      replace hS := hS.conv (t := 73) rfl (show (vals1 0) = .slice (some ⟨blkOf (vals1 0), 0, none⟩) 0 0 from hV 0 (by decide))
      replace hS := hS.conv (t := 81) rfl (show (vals1 8) = u2 from hV 8 (by decide))
      obtain ⟨I2, hI2, H⟩ := Gx.ex hG
      replace H := H.emptyow 0 rfl NECell
      exact L_appO H 0 E_86_YMv2 ((gi s_l i).l) rfl rfl hS rfl rfl rfl rfl (H.sl2 1 rfl) hg4 (by decide) fun v yw hK H => ⟨trivial, Gx.go hG hI2 hK (fun _ h => h) H⟩
     ·rw [← hfe]
      have hS := (hfr vals1).sub (ts := [73, 81]) rfl
      replace hS := hS.conv (t := 73) rfl (show (vals1 0) = .slice (some ⟨blkOf (vals1 0), 0, none⟩) 0 0 from hV 0 (by decide))
      replace hS := hS.conv (t := 81) rfl (show (vals1 8) = u2 from hV 8 (by decide))
      obtain ⟨I2, hI2, H⟩ := Gx.ex hG
      replace H := H.emptyow 1 rfl NECell
      exact L_appO H 0 E_86_YMv2 ((gi s_l i).l) rfl rfl hS rfl rfl rfl rfl (H.sl2 2 rfl) hg4 (by decide) fun v yw hK H => ⟨trivial, Gx.go hG hI2 hK (fun _ h => h) (Hf.sub H [(1, false), (0, false), (0, true), (1, true), (2, false), (2, false), (2, false)] rfl)⟩
    refine .cons (fun ss hs vals1 xw hG hV => ?_) ?_
    ·obtain rfl | rfl | rfl : ss = 0 ∨ ss = 1 ∨ ss = 3 := by simpa using hs
     ·rw [← hfe]
      have hS := (hfr vals1).sub (ts := [5]) rfl
      obtain ⟨I2, hI2, H⟩ := Gx.ex hG
      exact L_val hS rfl (oA tMv2 rfl rfl ((H.bx 4 rfl).part 0 rfl)) ⟨rfl, hG⟩
     ·rw [← hfe]
      have hS := (hfr vals1).sub (ts := [5]) rfl
      obtain ⟨I2, hI2, H⟩ := Gx.ex hG
      exact L_val hS rfl (oA tMv2 rfl rfl ((H.bx 5 rfl).part 0 rfl)) ⟨rfl, hG⟩
     ·rw [← hfe]
      have hS := (hfr vals1).sub (ts := [5]) rfl
      obtain ⟨I2, hI2, H⟩ := Gx.ex hG
      exact L_val hS rfl (oA tMv2 rfl rfl ((H.bx 5 rfl).part 0 rfl)) ⟨rfl, hG⟩
    refine .cons (fun ss hs vals1 xw hG hV => ?_) ?_
    ·obtain rfl | rfl | rfl : ss = 0 ∨ ss = 1 ∨ ss = 3 := by simpa using hs
     all_goals
     ·rw [← hfe]
      have hS := (hfr vals1).sub (ts := [83]) rfl
      replace hS := hS.conv (t := 83) rfl (show (vals1 10) = .agg #[vU c.ts, vS c.val, vT c.del] from hV 10 (by decide))
      obtain ⟨I2, hI2, H⟩ := Gx.ex hG
      exact L_bslice H (vs := [(0, .agg #[vU c.ts, vS c.val, vT c.del])]) (cl := [vU c.ts, vS c.val, vT c.del]) (e := 95) hS rfl rfl rfl (fun w => run_bslice (z := .agg #[vU 0, vS ByteArray.empty, vT false]) (m := 3) Try.underlying86 (by kernel_rfl) rfl rfl (by decide) (by simp [Instr.fill, Value.cells]) w) fun yw b hK H => ⟨rfl, Gx.go hG hI2 hK (fun _ h => h) H⟩
    refine .cons (fun ss hs vals1 xw hG hV => ?_) ?_
    ·obtain rfl : ss = 7 := by simpa using hs
     rw [← hfe]
     have hS := (hfr vals1).sub (ts := [82, 84]) rfl
     replace hS := hS.conv (t := 84) rfl (show (vals1 11) = .slice (some ⟨blkOf (vals1 11), 0, none⟩) 1 1 from hV 11 (by decide))
     obtain ⟨I2, hI2, H⟩ := Gx.ex hG
     exact L_appO H 1 E_86_YMv2 [c] rfl rfl hS rfl rfl rfl rfl (slRep2.box1 (H.bx 0 rfl) ⟨rfl, trivial⟩) hg5 (by decide) fun v yw hK H => ⟨trivial, Gx.go hG hI2 hK (fun _ h => h) (H.sub [(0, false), (1, true), (2, true), (3, false), (3, false), (3, false)] rfl)⟩
    refine .cons (fun ss hs vals1 xw hG hV => ?_) ?_
    ·obtain rfl : ss = 15 := by simpa using hs
     rw [← hfe]
     have hS := (hfr vals1).sub (ts := [85]) rfl
     exact L_val hS rfl (Ob_c tMv2 rfl) ⟨rfl, hG⟩
    exact .nil
   ·intro vals1 a w4 Z hG hV
    replace Z := Z.sub (ts := [0, 6, 8]) (S' := [(0, pp b_s0 0), (6, vI i), (8, vals1 13)]) rfl
    replace Z := Z.conv (t := 8) rfl (show (vals1 13) = (vals1 12) from hV 13 (by decide))
    obtain ⟨I3, _, H⟩ := Gx.ex hG
    clear hG hV
    replace Z := Z.sub (ts := [0, 6, 8]) rfl
    replace H := H.nf rfl; try dsimp only at H
    replace H : Hf I D w I3 w4 [OwC NEref16_Row 103 v2 s_l, OwC NECell 95 (vals1 12) ((([] : List ECell) ++ ((gi s_l i).l)) ++ [c]), SlC NECell u2 ((gi s_l i).l), BxC b_s0 56 [v2, vU s0.last], BxC b1 95 [vU c.ts, vS c.val, vT c.del]] := (H.rwShut 3 2 rfl rfl rfl).erase 3 rfl
    refine p_then ?_
    obtain ⟨hg6, hF⟩ := chk_in hF
    refine f_region Z fun Z => ?_
    refine s_runk tMv2 Z 3 rfl rfl fun a Z => ?_
    refine sO Z _ rfl (oL tMv2 rfl rfl (H.bc 3 0 rfl rfl)) fun a Z => ?_
    refine s_runk tMv2 Z 2 rfl rfl fun a Z => ?_
    refine sO Z (.pointer (some ⟨blkOf v2, oofOf v2 + (i).toNat * 2, none⟩)) rfl (Ob_sidx tMv2 rfl rfl rfl rfl (slPl (H.owA 0 rfl) hg6) hg6) fun a Z => ?_
    refine s_runk tMv2 Z 1 rfl rfl fun a Z => ?_
    obtain ⟨I4, _, H⟩ := H.frzow 1 rfl
    replace H := H.nf rfl; try dsimp only at H
    refine h_setR tMv2 Z H 1 (z := i) (d := default) 1 ({ (gi s_l i) with l := (([] : List ECell) ++ ((gi s_l i).l)) ++ [c] } : Eref16_Row) rfl hg6 rfl rfl rfl 2 rfl rfl (slS.one (H.slshape 0 rfl)) rfl rfl (by decide) (fun cl ⟨s0_, e, h0_⟩ => ⟨(vals1 12), by rw [e]; rfl, (H.sl 0 rfl)⟩) fun w6 H => ?_
    dsimp only [List.eraseIdx] at H
    refine s_end Z [] rfl fun Z => ?_
    replace H := H.sX (OEref16_Store b_s0 ({ s0 with l := s_l.set (i).toNat ({ (gi s_l i) with l := (([] : List ECell) ++ ((gi s_l i).l)) ++ [c] } : Eref16_Row) } : Eref16_Store)) (v2) [(3, false), (0, false)] rfl rfl rfl
    obtain rfl := some_in hF
    exact f_fall Z (run_results0 rfl) ⟨rfl, I4, (H.sub [(0, false)] rfl).eq rfl⟩
  ·skip
   refine wp_seq ?_
   obtain ⟨hg7, hF⟩ := chk_in hF
   refine f_region Z fun Z => ?_
   refine s_runk tMv2 Z 4 rfl rfl fun a Z => ?_
   refine sO Z _ rfl (oL tMv2 rfl rfl (H.bc 1 0 rfl rfl)) fun a Z => ?_
   refine sO Z (vI (ln s0.l)) rfl (Ob_slen tMv2 rfl rfl rfl (H.owshape 2 rfl)) fun a Z => ?_
   refine s_runk tMv2 Z 2 rfl rfl fun a Z => ?_
   refine gO Z (pp b_s0 0) rfl (wantB_f _) (.n 0 rfl .z) (fun hp => Ob_c tMv2 rfl) fun a Z => ?_
   refine gO Z (pp b_s0 0) rfl (wantB_f _) (.c 38 rfl id .z) (fun hp => Ob_c tMv2 rfl) fun a Z => ?_
   refine gO Z (pp b_s0 0) rfl (wantB_f _) (.c 39 rfl id .z) (fun hp => Ob_c tMv2 rfl) fun a Z => ?_
   refine gO Z _ rfl (wantB_f _) (.c 40 rfl id .z) (fun hp => oL tMv2 rfl rfl (H.bc 1 0 rfl rfl)) fun a Z => ?_
   refine gO Z (vI i) rfl (wantB_f _) (.n 6 rfl .z) (fun hp => Ob_c tMv2 rfl) fun a Z => ?_
   refine gO Z (.pointer (some ⟨blkOf v1, oofOf v1 + (i).toNat * 2, none⟩)) rfl (wantB_f _) (.c 41 rfl id (.c 42 rfl id .z)) (fun hp => Ob_sidx tMv2 rfl rfl rfl rfl (slPl (H.owA 2 rfl) (hg7 hp)) (hg7 hp)) fun a Z => ?_
   refine gO Z (.pointer (some ⟨blkOf v1, oofOf v1 + (i).toNat * 2, none⟩)) rfl (wantB_f _) (.c 43 rfl id .z) (fun hp => Ob_c tMv2 rfl) fun a Z => ?_
   obtain ⟨_, ⟨u3, rfl, L3⟩, hat2⟩ := H.owElG 2 rfl (i) (NEref16_Row.dft _ _)
   replace H : Hf I D w I1 w2 [SlC NECell u3 ((gi s0.l i).l), SlC NECell u1 ((gi s0.l i).l), BxC b_s0 56 [v1, vU s0.last], OwC NEref16_Row 103 v1 s0.l, BxC b1 95 [vU c.ts, vS c.val, vT c.del]] := H.addsl L3
   refine gO Z (vS ((gi s0.l i).k)) rfl (wantB_f _) (.c 44 rfl id .z) (fun hp => oL tMv2 rfl rfl ((hat2 (hg7 hp)) 0 _ rfl)) fun a Z => ?_
   refine gO Z (vS k) rfl (wantB_f _) (.n 1 rfl .z) (fun hp => Ob_c tMv2 rfl) fun a Z => ?_
   refine gO Z (vT (!seqB ((gi s0.l i).k) k)) rfl (wantB_f _) (.c 45 rfl id (.c 46 rfl id .z)) (fun hp => Ob_c tMv2 rfl) fun a Z => ?_
   refine sO Z (vT ((i == (ln s0.l)) || (!seqB ((gi s0.l i).k) k))) rfl (Ob_pick rfl rfl rfl rfl (pick_or _ _)) fun a Z => ?_
   refine s_end Z [0, 1, 5, 6, 48] rfl fun Z => ?_
   refine p_then ?_
   refine f_cond Z rfl (fun hc2 => ?_) (fun hc2 => ?_)
   ·replace hF := ite_t hc2 hF
    refine wp_seq ?_
    obtain ⟨hg8, hF⟩ := chk_in hF
    obtain ⟨hg9, hF⟩ := chk_in hF
    obtain ⟨hg10, hF⟩ := chk_in hF
    refine f_region Z fun Z => ?_
    refine h_bslice Z H (vs := []) (cl := []) (e := 103) rfl rfl rfl (by decide) rfl rfl (fun w => run_bslice (z := .agg #[vS ByteArray.empty, nS]) (m := 2) Try.underlying54 (by kernel_rfl) rfl rfl (by decide) (by simp [Instr.fill, Value.cells]) w) fun a w7 b2 H Z => ?_
    refine s_runk tMv2 Z 3 rfl rfl fun a Z => ?_
    refine sO Z _ rfl (oL tMv2 rfl rfl (H.bc 3 0 rfl rfl)) fun a Z => ?_
    refine s_runk tMv2 Z 1 rfl rfl fun a Z => ?_
    refine sO Z (subV v1 0 ((i).toNat) 2) rfl (Ob_sub_to tMv2 rfl rfl rfl rfl (H.owshape 4 rfl) hg8) fun a Z => ?_
    replace H : Hf I D w I1 w7 [OwC NEref16_Row 103 (.slice (some ⟨b2, 0, none⟩) 0 0) [], SlC NECell u3 ((gi s0.l i).l), SlC NECell u1 ((gi s0.l i).l), BxC b_s0 56 [v1, vU s0.last], OwC NEref16_Row 103 v1 s0.l, BxC b1 95 [vU c.ts, vS c.val, vT c.del]] := H.emptyow 0 rfl NEref16_Row
    refine h_appO Z H 0 E_54_YMv2 (s0.l.take ((i).toNat)) rfl rfl rfl rfl rfl (by decide) rfl rfl rfl ((H.ow2 4 rfl).part_to hg8 2 rfl) hg9 (by decide) fun v3 a w8 H Z => ?_
    dsimp only [List.eraseIdx] at H
    refine s_runk tMv2 Z 1 rfl rfl fun a Z => ?_
    refine sO Z (.agg #[vS k, nS]) rfl (Ob_build (vs := [(0, vS k)]) rfl rfl (by go_simp <;> rfl)) fun a Z => ?_
    refine h_bslice Z H (vs := [(0, .agg #[vS k, nS])]) (cl := [vS k, nS]) (e := 103) rfl rfl rfl (by decide) rfl rfl (fun w => run_bslice (z := .agg #[vS ByteArray.empty, nS]) (m := 2) Try.underlying54 (by kernel_rfl) rfl rfl (by decide) (by simp [Instr.fill, Value.cells]) w) fun a w9 b3 H Z => ?_
    replace H := H.slNil NECell
    refine h_appO Z H 2 E_54_YMv2 [({ k := k, l := ([] : List ECell) } : Eref16_Row)] rfl rfl rfl rfl rfl (by decide) rfl rfl rfl (slRep2.box1 (H.bx 1 rfl) ⟨_, rfl, (H.sl 0 rfl)⟩) hg10 (by decide) fun v4 a w10 H Z => ?_
    dsimp only [List.eraseIdx] at H
    replace H := (H.sub [(0, false), (0, true), (2, true), (3, true), (4, false), (4, false), (4, false)] rfl).nf rfl
    refine s_runk tMv2 Z 1 rfl rfl fun a Z => ?_
    refine s_end Z [0, 5, 6, 7] rfl fun Z => ?_
    refine p_then (wp_seq ?_)
    obtain ⟨hg11, hF⟩ := chk_in hF
    obtain ⟨hg12, hF⟩ := chk_in hF
    refine f_region Z fun Z => ?_
    refine s_runk tMv2 Z 4 rfl rfl fun a Z => ?_
    refine sO Z _ rfl (oL tMv2 rfl rfl (H.bc 4 0 rfl rfl)) fun a Z => ?_
    refine s_runk tMv2 Z 1 rfl rfl fun a Z => ?_
    refine sO Z (subV v1 ((i).toNat) s0.l.length 2) rfl (Ob_sub_from tMv2 rfl rfl rfl rfl (H.owshape 5 rfl) hg11) fun a Z => ?_
    refine h_appO Z H 0 E_54_YMv2 (s0.l.drop ((i).toNat)) rfl rfl rfl rfl rfl (by decide) rfl rfl rfl ((H.ow2 5 rfl).part_from hg11 2 rfl) hg12 (by decide) fun v5 a w11 H Z => ?_
    dsimp only [List.eraseIdx] at H
    refine s_runk tMv2 Z 1 rfl rfl fun a Z => ?_
    refine s_end Z [0, 5, 6, 7] rfl fun Z => ?_
    refine p_then ?_
    refine f_region Z fun Z => ?_
    refine s_runk tMv2 Z 4 rfl rfl fun a Z => ?_
    refine hT tMv2 Z H 4 rfl rfl (slS.cells (H.owshape 0 rfl)) rfl rfl (one_cons (slS.one (H.owshape 0 rfl)) one_nil) (Nat.le_of_ble_eq_true rfl) rfl fun w12 H => ?_
    dsimp only [List.eraseIdx] at H
    refine s_end Z [0, 5, 6] rfl fun Z => ?_
    refine p_then ?_
    exact ⟨(([] ++ (s0.l.take ((i).toNat))) ++ [({ k := k, l := ([] : List ECell) } : Eref16_Row)]) ++ (s0.l.drop ((i).toNat)), v5, Z.sub (ts := [0, 5, 6]) rfl, ⟨I1, (H.sub [(0, false), (5, false), (0, false)] rfl).eq rfl⟩, hF⟩
   ·replace hF := ite_f hc2 hF
    refine wp_skip ?_
    refine p_then ?_
    exact ⟨s0.l, v1, Z.sub (ts := [0, 5, 6]) rfl, ⟨I1, (H.sub [(2, false), (3, false), (2, false)] rfl).eq rfl⟩, hF⟩

def F_ref05_Check (k : ByteArray) : Option Int := if ((decide ((k.size : Int) < 1)) || (decide ((k.size : Int) > 8))) = true then (some 10) else (some 0)

set_option maxHeartbeats 1000000 in
theorem c_ref05_Check {I D : Dm} {k : ByteArray} {w : World} {rr : Int} (hF : F_ref05_Check k = some rr) (H : St I D w []) :
  Calls Try.prog 74 #[vS k] w (Ret fun vv w' => vv = vI rr ∧ ∃ I', Hf I D w I' w' []) := by
 replace H := H.hf
 unfold F_ref05_Check at hF
 refine f_enter 11 Try.func74 rfl rfl (Nat.le_of_ble_eq_true rfl) fun a Z => ?_
 replace Z := Z.sub (ts := [0]) rfl
 refine wp_seq (f_region Z ?_); clear Z; intro Z
 refine s_runk tMv2 Z 1 rfl rfl fun a Z => ?_
 refine s_end Z [0, 2] rfl fun Z => ?_
 refine p_then (wp_seq ?_)
 refine wp_seq (f_region Z ?_); clear Z; intro Z
 refine s_runk tMv2 Z 4 rfl rfl fun a Z => ?_
 refine gO Z (vS k) rfl (wantB_f _) (.n 0 rfl .z) (fun hp => Ob_c tMv2 rfl) fun a Z => ?_
 refine gO Z (vI (k.size : Int)) rfl (wantB_f _) (.c 7 rfl id .z) (fun hp => Ob_c tMv2 rfl) fun a Z => ?_
 refine gO Z (vT (decide ((k.size : Int) > 8))) rfl (wantB_f _) (.c 8 rfl id .z) (fun hp => Ob_c tMv2 rfl) fun a Z => ?_
 refine sO Z (vT ((decide ((k.size : Int) < 1)) || (decide ((k.size : Int) > 8)))) rfl (Ob_pick rfl rfl rfl rfl (pick_or _ _)) fun a Z => ?_
 refine s_end Z [2, 10] rfl fun Z => ?_
 refine p_then ?_
 refine f_cond Z rfl (fun hc1 => ?_) (fun hc1 => ?_)
 ·replace hF := ite_t hc1 hF
  refine wp_seq (f_region Z ?_); clear Z; intro Z
  refine s_runk tMv2 Z 1 rfl rfl fun a Z => ?_
  refine s_end Z [2] rfl fun Z => ?_
  refine p_then (wp_ret ?_)
  refine p_then_r ?_
  obtain rfl := some_in hF
  exact f_ret Z (run_results1 rfl Z rfl) ⟨rfl, I, (H.sub [] rfl).eq rfl⟩
 ·replace hF := ite_f hc1 hF
  refine wp_skip ?_
  refine p_then (wp_seq (f_region Z ?_)); clear Z; intro Z
  refine s_runk tMv2 Z 1 rfl rfl fun a Z => ?_
  refine s_end Z [2] rfl fun Z => ?_
  refine p_then (wp_ret ?_)
  obtain rfl := some_in hF
  exact f_ret Z (run_results1 rfl Z rfl) ⟨rfl, I, (H.sub [] rfl).eq rfl⟩

def F_ref06_Check_l1 (b : EBatch) (rc : Int → Option Int) (sg : Int) : Option Int := match sg with | i => if (decide (i < (b.ops.length : Int))) = true then (chk ((0 : Int) ≤ i ∧ i < (b.ops.length : Int)) ((F_ref05_Check ((b.ops.getD (i).toNat default).key)).bind fun c => (if (c != 0) = true then (some 10) else (if (decide ((((b.ops.getD (i).toNat default).val).size : Int) > 8)) = true then (some 3) else (if (((b.ops.getD (i).toNat default).del) && (!seqB ((b.ops.getD (i).toNat default).val) ⟨#[]⟩)) = true then (some 4) else (chk ((decide (i > 0)) = true → inI (i - 1)) (chk ((decide (i > 0)) = true → (0 : Int) ≤ i - 1 ∧ i - 1 < (b.ops.length : Int)) (if ((decide (i > 0)) && (!sltB ((b.ops.getD (i - 1).toNat default).key) ((b.ops.getD (i).toNat default).key))) = true then (some 18) else (chk (inI (i + 1)) (rc (i + 1))))))))))) else (some 0)

def F_ref06_Check (b : EBatch) : Option Int := if ((decide (b.client < 0)) || (decide (b.client ≥ 3))) = true then (some 1) else (if ((decide (b.req < 1)) || (decide (b.req > 1073741824))) = true then (some 5) else (if (decide ((b.ops.length : Int) > 4)) = true then (some 6) else (iter (F_ref06_Check_l1 b) FU 0)))

set_option maxHeartbeats 1000000 in
theorem c_ref06_Check {I D : Dm} {b : EBatch} {v1_b : Value} {w : World} {rr : Int} (hF : F_ref06_Check b = some rr) (H : St I D w [SlC NEOp v1_b b.ops]) :
  Calls Try.prog 42 #[.agg #[vI b.client, vI b.req, v1_b]] w (Ret fun vv w' => vv = vI rr ∧ ∃ I', Hf I D w I' w' []) := by
 replace H := H.hf
 unfold F_ref06_Check at hF
 refine f_enter 66 Try.func42 rfl rfl (Nat.le_of_ble_eq_true rfl) fun a Z => ?_
 replace Z := Z.sub (ts := [0]) rfl
 refine wp_seq (f_region Z ?_); clear Z; intro Z
 refine hB Z H [vI b.client, vI b.req, v1_b] rfl rfl rfl rfl fun a w1 b1 H Z => ?_
 refine s_runk tMv2 Z 1 rfl rfl fun a Z => ?_
 refine s_end Z [1, 2] rfl fun Z => ?_
 refine p_then (wp_seq ?_)
 refine wp_seq (f_region Z ?_); clear Z; intro Z
 refine s_runk tMv2 Z 1 rfl rfl fun a Z => ?_
 refine sO Z _ rfl (oL tMv2 rfl rfl (H.bc 0 0 rfl rfl)) fun a Z => ?_
 refine s_runk tMv2 Z 2 rfl rfl fun a Z => ?_
 refine gO Z (pp b1 0) rfl (wantB_f _) (.n 1 rfl .z) (fun hp => Ob_c tMv2 rfl) fun a Z => ?_
 refine gO Z _ rfl (wantB_f _) (.c 9 rfl id .z) (fun hp => oL tMv2 rfl rfl (H.bc 0 0 rfl rfl)) fun a Z => ?_
 refine gO Z (vT (decide (b.client ≥ 3))) rfl (wantB_f _) (.c 10 rfl id .z) (fun hp => Ob_c tMv2 rfl) fun a Z => ?_
 refine sO Z (vT ((decide (b.client < 0)) || (decide (b.client ≥ 3)))) rfl (Ob_pick rfl rfl rfl rfl (pick_or _ _)) fun a Z => ?_
 refine s_end Z [1, 2, 12] rfl fun Z => ?_
 refine p_then ?_
 refine f_cond Z rfl (fun hc1 => ?_) (fun hc1 => ?_)
 ·replace hF := ite_t hc1 hF
  refine wp_seq (f_region Z ?_); clear Z; intro Z
  refine s_runk tMv2 Z 1 rfl rfl fun a Z => ?_
  refine s_end Z [1, 2] rfl fun Z => ?_
  refine p_then (wp_ret ?_)
  refine p_then_r ?_
  obtain rfl := some_in hF
  exact f_ret Z (run_results1 rfl Z rfl) ⟨rfl, I, (H.sub [] rfl).eq rfl⟩
 ·replace hF := ite_f hc1 hF
  refine wp_skip ?_
  refine p_then (wp_seq ?_)
  refine wp_seq (f_region Z ?_); clear Z; intro Z
  refine s_runk tMv2 Z 1 rfl rfl fun a Z => ?_
  refine sO Z _ rfl (oL tMv2 rfl rfl (H.bc 0 1 rfl rfl)) fun a Z => ?_
  refine s_runk tMv2 Z 2 rfl rfl fun a Z => ?_
  refine gO Z (pp b1 1) rfl (wantB_f _) (.n 1 rfl .z) (fun hp => Ob_c tMv2 rfl) fun a Z => ?_
  refine gO Z _ rfl (wantB_f _) (.c 17 rfl id .z) (fun hp => oL tMv2 rfl rfl (H.bc 0 1 rfl rfl)) fun a Z => ?_
  refine gO Z (vT (decide (b.req > 1073741824))) rfl (wantB_f _) (.c 18 rfl id .z) (fun hp => Ob_c tMv2 rfl) fun a Z => ?_
  refine sO Z (vT ((decide (b.req < 1)) || (decide (b.req > 1073741824)))) rfl (Ob_pick rfl rfl rfl rfl (pick_or _ _)) fun a Z => ?_
  refine s_end Z [1, 2, 20] rfl fun Z => ?_
  refine p_then ?_
  refine f_cond Z rfl (fun hc2 => ?_) (fun hc2 => ?_)
  ·replace hF := ite_t hc2 hF
   refine wp_seq (f_region Z ?_); clear Z; intro Z
   refine s_runk tMv2 Z 1 rfl rfl fun a Z => ?_
   refine s_end Z [1, 2] rfl fun Z => ?_
   refine p_then (wp_ret ?_)
   refine p_then_r ?_
   obtain rfl := some_in hF
   exact f_ret Z (run_results1 rfl Z rfl) ⟨rfl, I, (H.sub [] rfl).eq rfl⟩
  ·replace hF := ite_f hc2 hF
   refine wp_skip ?_
   refine p_then (wp_seq ?_)
   refine wp_seq (f_region Z ?_); clear Z; intro Z
   refine s_runk tMv2 Z 1 rfl rfl fun a Z => ?_
   refine sO Z _ rfl (oL tMv2 rfl rfl (H.bc 0 2 rfl rfl)) fun a Z => ?_
   refine sO Z (vI (ln b.ops)) rfl (Ob_slen tMv2 rfl rfl rfl (H.slshape 1 rfl)) fun a Z => ?_
   refine s_runk tMv2 Z 1 rfl rfl fun a Z => ?_
   refine s_end Z [1, 2, 24] rfl fun Z => ?_
   refine p_then ?_
   refine f_cond Z rfl (fun hc3 => ?_) (fun hc3 => ?_)
   ·replace hF := ite_t hc3 hF
    refine wp_seq (f_region Z ?_); clear Z; intro Z
    refine s_runk tMv2 Z 1 rfl rfl fun a Z => ?_
    refine s_end Z [1, 2] rfl fun Z => ?_
    refine p_then (wp_ret ?_)
    refine p_then_r ?_
    obtain rfl := some_in hF
    exact f_ret Z (run_results1 rfl Z rfl) ⟨rfl, I, (H.sub [] rfl).eq rfl⟩
   ·replace hF := ite_f hc3 hF
    refine wp_skip ?_
    refine p_then (wp_seq ?_)
    refine wp_seq (f_region Z ?_); clear Z; intro Z
    refine s_runk tMv2 Z 1 rfl rfl fun a Z => ?_
    refine s_end Z [1, 2, 3] rfl fun Z => ?_
    refine p_then (wp_block ?_)
    refine f_iter hF (fun sg a' w' => match sg with | i => Sl 66 [(1, pp b1 0), (2, vI 0), (3, vI i)] a' ∧ ∃ I2, Hf I D w I2 w' [BxC b1 38 [vI b.client, vI b.req, v1_b], SlC NEOp v1_b b.ops]) ⟨Z.sub (ts := [1, 2, 3]) rfl, ⟨I, (H.sub [(0, false), (0, true)] rfl).eq rfl⟩⟩ ?_
    rintro rc i a w2 ⟨Z, I1, H⟩ hF
    unfold F_ref06_Check_l1 at hF
    try dsimp only at hF
    refine wp_seq ?_
    refine wp_seq (f_region Z ?_); clear Z; intro Z
    refine s_runk tMv2 Z 2 rfl rfl fun a Z => ?_
    refine sO Z _ rfl (oL tMv2 rfl rfl (H.bc 0 2 rfl rfl)) fun a Z => ?_
    refine sO Z (vI (ln b.ops)) rfl (Ob_slen tMv2 rfl rfl rfl (H.slshape 1 rfl)) fun a Z => ?_
    refine s_runk tMv2 Z 1 rfl rfl fun a Z => ?_
    refine s_end Z [1, 2, 3, 25, 26, 27, 28, 29] rfl fun Z => ?_
    refine p_then ?_
    refine f_cond Z rfl (fun hc4 => ?_) (fun hc4 => ?_)
    ·replace hF := ite_t hc4 hF
     refine wp_skip ?_
     refine p_then (wp_seq ?_)
     refine wp_block ?_
     refine wp_seq ?_
     obtain ⟨hg1, hF⟩ := chk_in hF
     refine f_region Z fun Z => ?_
     refine s_runk tMv2 Z 1 rfl rfl fun a Z => ?_
     refine sO Z _ rfl (oL tMv2 rfl rfl (H.bc 0 2 rfl rfl)) fun a Z => ?_
     refine s_runk tMv2 Z 1 rfl rfl fun a Z => ?_
     refine sO Z (.pointer (some ⟨blkOf v1_b, oofOf v1_b + (i).toNat * 3, none⟩)) rfl (Ob_sidx tMv2 rfl rfl rfl rfl (slPl (H.sl 1 rfl) hg1) hg1) fun a Z => ?_
     refine sO Z (.agg #[vS ((gi b.ops i).key), vS ((gi b.ops i).val), vT ((gi b.ops i).del)]) rfl (oA tMv2 rfl rfl ((slFl (H.sl 1 rfl) hg1).part 0 rfl)) fun a Z => ?_
     refine hA Z H [vS ByteArray.empty, vS ByteArray.empty, vT false] rfl rfl (by kernel_rfl) fun a w3 b2 H Z => ?_
     refine hT tMv2 Z H 0 rfl rfl rfl rfl rfl (onR 3 rfl one_nil) (Nat.le_of_ble_eq_true rfl) rfl fun w4 H => ?_
     dsimp only [List.eraseIdx] at H
     refine s_end Z [1, 2, 3, 25, 26, 27, 28, 29, 32, 33, 34, 35, 36, 4] rfl fun Z => ?_
     refine p_then (wp_seq ?_)
     refine wp_seq ?_
     obtain ⟨c, hx1, hF⟩ := bnd_in hF
     refine f_region Z fun Z => ?_
     refine s_runk tMv2 Z 1 rfl rfl fun a Z => ?_
     refine sO Z _ rfl (oL tMv2 rfl rfl (H.bc 0 0 rfl rfl)) fun a Z => ?_
     refine hC Z H [] rfl #[] fn_74_YMv2 rfl rfl (fun D h => have q := c_ref05_Check hx1 h; q) fun vv a w5 D2 hr hF2 Z => ?_
     obtain ⟨rfl, I2, K⟩ := hr
     have H := (hF2 K).nf rfl
     refine s_runk tMv2 Z 1 rfl rfl fun a Z => ?_
     refine s_end Z [1, 2, 3, 25, 26, 27, 28, 29, 32, 33, 34, 35, 36, 4, 37, 38, 39, 40] rfl fun Z => ?_
     refine p_then ?_
     refine f_cond Z rfl (fun hc5 => ?_) (fun hc5 => ?_)
     ·replace hF := ite_t hc5 hF
      refine wp_seq (f_region Z ?_); clear Z; intro Z
      refine s_runk tMv2 Z 1 rfl rfl fun a Z => ?_
      refine s_end Z [1, 2, 3, 25, 26, 27, 28, 29, 32, 33, 34, 35, 36, 4, 37, 38, 39, 40] rfl fun Z => ?_
      refine p_then (wp_ret ?_)
      refine p_then_r ?_
      refine p_blk_r ?_
      refine p_then_r ?_
      refine p_then_r ?_
      refine p_blk_r ?_
      refine p_then_r ?_
      obtain rfl := some_in hF
      exact f_ret Z (run_results1 rfl Z rfl) ⟨rfl, I2, (H.sub [] rfl).eq rfl⟩
     ·replace hF := ite_f hc5 hF
      refine wp_skip ?_
      refine p_then (wp_seq ?_)
      refine wp_seq (f_region Z ?_); clear Z; intro Z
      refine s_runk tMv2 Z 1 rfl rfl fun a Z => ?_
      refine sO Z _ rfl (oL tMv2 rfl rfl (H.bc 0 1 rfl rfl)) fun a Z => ?_
      refine s_runk tMv2 Z 2 rfl rfl fun a Z => ?_
      refine s_end Z [1, 2, 3, 25, 26, 27, 28, 29, 32, 33, 34, 35, 36, 4, 37, 38, 39, 40, 41, 42, 43, 44] rfl fun Z => ?_
      refine p_then ?_
      refine f_cond Z rfl (fun hc6 => ?_) (fun hc6 => ?_)
      ·replace hF := ite_t hc6 hF
       refine wp_seq (f_region Z ?_); clear Z; intro Z
       refine s_runk tMv2 Z 1 rfl rfl fun a Z => ?_
       refine s_end Z [1, 2, 3, 25, 26, 27, 28, 29, 32, 33, 34, 35, 36, 4, 37, 38, 39, 40, 41, 42, 43, 44] rfl fun Z => ?_
       refine p_then (wp_ret ?_)
       refine p_then_r ?_
       refine p_blk_r ?_
       refine p_then_r ?_
       refine p_then_r ?_
       refine p_blk_r ?_
       refine p_then_r ?_
       obtain rfl := some_in hF
       exact f_ret Z (run_results1 rfl Z rfl) ⟨rfl, I2, (H.sub [] rfl).eq rfl⟩
      ·replace hF := ite_f hc6 hF
       refine wp_skip ?_
       refine p_then (wp_seq ?_)
       refine wp_seq (f_region Z ?_); clear Z; intro Z
       refine s_runk tMv2 Z 1 rfl rfl fun a Z => ?_
       refine sO Z _ rfl (oL tMv2 rfl rfl (H.bc 0 2 rfl rfl)) fun a Z => ?_
       refine s_runk tMv2 Z 1 rfl rfl fun a Z => ?_
       refine gO Z (pp b2 1) rfl (wantB_t _) (.n 4 rfl .z) (fun hp => Ob_c tMv2 rfl) fun a Z => ?_
       refine gO Z _ rfl (wantB_t _) (.c 48 rfl id .z) (fun hp => oL tMv2 rfl rfl (H.bc 0 1 rfl rfl)) fun a Z => ?_
       refine gO Z (vT (!seqB ((gi b.ops i).val) ⟨#[]⟩)) rfl (wantB_t _) (.c 49 rfl id .z) (fun hp => Ob_c tMv2 rfl) fun a Z => ?_
       refine sO Z (vT (((gi b.ops i).del) && (!seqB ((gi b.ops i).val) ⟨#[]⟩))) rfl (Ob_pick rfl rfl rfl rfl (pick_and _ _)) fun a Z => ?_
       refine s_end Z [1, 2, 3, 25, 26, 27, 28, 29, 32, 33, 34, 35, 36, 4, 37, 38, 39, 40, 41, 42, 43, 44, 45, 46, 47, 51] rfl fun Z => ?_
       refine p_then ?_
       refine f_cond Z rfl (fun hc7 => ?_) (fun hc7 => ?_)
       ·replace hF := ite_t hc7 hF
        refine wp_seq (f_region Z ?_); clear Z; intro Z
        refine s_runk tMv2 Z 1 rfl rfl fun a Z => ?_
        refine s_end Z [1, 2, 3, 25, 26, 27, 28, 29, 32, 33, 34, 35, 36, 4, 37, 38, 39, 40, 41, 42, 43, 44, 45, 46, 47, 51] rfl fun Z => ?_
        refine p_then (wp_ret ?_)
        refine p_then_r ?_
        refine p_blk_r ?_
        refine p_then_r ?_
        refine p_then_r ?_
        refine p_blk_r ?_
        refine p_then_r ?_
        obtain rfl := some_in hF
        exact f_ret Z (run_results1 rfl Z rfl) ⟨rfl, I2, (H.sub [] rfl).eq rfl⟩
       ·replace hF := ite_f hc7 hF
        refine wp_skip ?_
        refine p_then (wp_seq ?_)
        obtain ⟨hg2, hF⟩ := chk_in hF
        obtain ⟨hg3, hF⟩ := chk_in hF
        refine f_quietd (by kernel_rfl) (by kernel_rfl) Z fun Z => ?_
        refine q_runk tMv2 Z 3 rfl rfl fun a Z => ?_
        refine jO Z (pp b1 2) rfl (wantB_t _) (.n 1 rfl .z) (fun hp _ hw => Ob_c tMv2 rfl) fun a Z => ?_
        refine jO Z _ rfl (wantB_t _) (.c 55 rfl id .z) (fun hp _ hw => oL tMv2 rfl rfl ((H.blw hw).bc 1 2 rfl rfl)) fun a Z => ?_
        refine jO Z (vI i) rfl (wantB_t _) (.n 3 rfl .z) (fun hp _ hw => Ob_c tMv2 rfl) fun a Z => ?_
        refine jO Z (vI (i - 1)) rfl (wantB_t _) (.c 57 rfl id .z) (fun hp _ hw => Ob_sub rfl rfl rfl (wrI (hg2 hp))) fun a Z => ?_
        refine jO Z (.pointer (some ⟨blkOf v1_b, oofOf v1_b + (i - 1).toNat * 3, none⟩)) rfl (wantB_t _) (.c 56 rfl id (.c 58 rfl id .z)) (fun hp _ hw => Ob_sidx tMv2 rfl rfl rfl rfl (slPl ((H.blw hw).sl 2 rfl) (hg3 hp)) (hg3 hp)) fun a Z => ?_
        refine jO Z (.pointer (some ⟨blkOf v1_b, oofOf v1_b + (i - 1).toNat * 3, none⟩)) rfl (wantB_t _) (.c 59 rfl id .z) (fun hp _ hw => Ob_c tMv2 rfl) fun a Z => ?_
        refine jO Z (vS ((b.ops.getD (i - 1).toNat default).key)) rfl (wantB_t _) (.c 60 rfl id .z) (fun hp _ hw => oL tMv2 rfl rfl ((slFl ((H.blw hw).sl 2 rfl) (hg3 hp)) 0 _ rfl)) fun a Z => ?_
        refine jO Z (pp b2 0) rfl (wantB_t _) (.n 4 rfl .z) (fun hp _ hw => Ob_c tMv2 rfl) fun a Z => ?_
        refine jO Z _ rfl (wantB_t _) (.c 62 rfl id .z) (fun hp _ hw => oL tMv2 rfl rfl ((H.blw hw).bc 0 0 rfl rfl)) fun a Z => ?_
        refine jO Z (vT (!sltB ((b.ops.getD (i - 1).toNat default).key) ((gi b.ops i).key))) rfl (wantB_t _) (.c 61 rfl id (.c 63 rfl id .z)) (fun hp _ hw => Ob_c tMv2 rfl) fun a Z => ?_
        refine qO Z (vT ((decide (i > 0)) && (!sltB ((b.ops.getD (i - 1).toNat default).key) ((gi b.ops i).key)))) rfl (fun _ hw => Ob_pick rfl rfl rfl rfl (pick_and _ _)) fun a Z => ?_
        refine q_end Z [1, 2, 3, 25, 26, 27, 28, 29, 32, 33, 34, 35, 36, 4, 37, 38, 39, 40, 41, 42, 43, 44, 45, 46, 47, 51, 52, 53, 54, 65] rfl fun w6 hb Z => ?_
        replace H := H.blw hb
        clear hb
        refine p_then ?_
        refine f_cond Z rfl (fun hc8 => ?_) (fun hc8 => ?_)
        ·replace hF := ite_t hc8 hF
         refine wp_seq (f_region Z ?_); clear Z; intro Z
         refine s_runk tMv2 Z 1 rfl rfl fun a Z => ?_
         refine s_end Z [1, 2, 3, 25, 26, 27, 28, 29, 32, 33, 34, 35, 36, 4, 37, 38, 39, 40, 41, 42, 43, 44, 45, 46, 47, 51, 52, 53, 54, 65] rfl fun Z => ?_
         refine p_then (wp_ret ?_)
         refine p_blk_r ?_
         refine p_then_r ?_
         refine p_then_r ?_
         refine p_blk_r ?_
         refine p_then_r ?_
         obtain rfl := some_in hF
         exact f_ret Z (run_results1 rfl Z rfl) ⟨rfl, I2, (H.sub [] rfl).eq rfl⟩
        ·replace hF := ite_f hc8 hF
         refine wp_skip ?_
         refine p_blk ?_
         refine p_then ?_
         obtain ⟨hg4, hF⟩ := chk_in hF
         refine f_region Z fun Z => ?_
         refine s_runk tMv2 Z 1 rfl rfl fun a Z => ?_
         refine sO Z (vI (i + 1)) rfl (Ob_add rfl rfl rfl (wrI hg4)) fun a Z => ?_
         refine s_runk tMv2 Z 1 rfl rfl fun a Z => ?_
         refine s_end Z [1, 2, 3, 25, 26, 27, 28, 29, 32, 33, 34, 35, 36, 4, 37, 38, 39, 40, 41, 42, 43, 44, 45, 46, 47, 51, 52, 53, 54, 65, 30, 31] rfl fun Z => ?_
         refine p_then ?_
         exact ⟨(i + 1), ⟨Z.sub (ts := [1, 2, 3]) rfl, ⟨I2, (H.sub [(1, false), (1, true)] rfl).eq rfl⟩⟩, hF⟩
    ·replace hF := ite_f hc4 hF
     refine wp_exit ?_
     refine p_then_x ?_
     refine p_then_x ?_
     refine f_exit_here ?_
     refine p_then (wp_seq (f_region Z ?_)); clear Z; intro Z
     refine s_runk tMv2 Z 1 rfl rfl fun a Z => ?_
     refine s_end Z [2] rfl fun Z => ?_
     refine p_then (wp_ret ?_)
     obtain rfl := some_in hF
     exact f_ret Z (run_results1 rfl Z rfl) ⟨rfl, I1, (H.sub [] rfl).eq rfl⟩

def F_ref16_Store_Put_l1 (ts : Int) (l : List EOp) (rc : (Int × Eref16_Store) → Option (Int × Eref16_Store)) (sg : Int × Eref16_Store) : Option (Int × Eref16_Store) := match sg with | (i, s0_2) => if (decide (i < (l.length : Int))) = true then (chk ((0 : Int) ≤ i ∧ i < (l.length : Int)) (chk ((0 : Int) ≤ i ∧ i < (l.length : Int)) (chk ((0 : Int) ≤ i ∧ i < (l.length : Int)) ((F_ref16_Store_lay s0_2 ((l.getD (i).toNat default).key) ({ ts := ts, val := (l.getD (i).toNat default).val, del := (l.getD (i).toNat default).del } : ECell)).bind fun l_2 => (chk (inI (i + 1)) (rc (i + 1, l_2))))))) else (some (0, ({ s0_2 with last := ts } : Eref16_Store)))

def F_ref16_Store_Put (s0 : Eref16_Store) (ts : Int) (l : List EOp) : Option (Int × Eref16_Store) := if (ts == 0) = true then (some (5, s0)) else (if (decide (ts ≤ s0.last)) = true then (some (18, s0)) else ((F_ref06_Check ({ client := 0, req := 1, ops := l } : EBatch)).bind fun c => (if (c != 0) = true then (some (c, s0)) else (iter (F_ref16_Store_Put_l1 ts l) FU (0, s0)))))

set_option maxHeartbeats 1000000 in
theorem c_ref16_Store_Put {I D : Dm} {b_s0 : Nat} {s0 : Eref16_Store} {ts : Int} {l : List EOp} {v1_l : Value} {w : World} {rr : Int × Eref16_Store} (hF : F_ref16_Store_Put s0 ts l = some rr) (H : St I D w [OEref16_Store b_s0 s0, SlC NEOp v1_l l]) :
  Calls Try.prog 16 #[pp b_s0 0, vU ts, v1_l] w (Ret fun vv w' => vv = vI rr.1 ∧ ∃ I', Hf I D w I' w' [OEref16_Store b_s0 rr.2]) := by
 replace H := H.hf
 unfold F_ref16_Store_Put at hF
 refine f_enter 52 Try.func16 rfl rfl (Nat.le_of_ble_eq_true rfl) fun a Z => ?_
 replace Z := Z.sub (ts := [0, 1, 2]) rfl
 refine wp_seq (f_region Z ?_); clear Z; intro Z
 refine s_runk tMv2 Z 1 rfl rfl fun a Z => ?_
 refine s_end Z [0, 1, 2, 6] rfl fun Z => ?_
 refine p_then (wp_seq ?_)
 refine wp_seq (f_region Z ?_); clear Z; intro Z
 refine s_runk tMv2 Z 2 rfl rfl fun a Z => ?_
 refine s_end Z [0, 1, 2, 6, 10] rfl fun Z => ?_
 refine p_then ?_
 refine f_cond Z rfl (fun hc1 => ?_) (fun hc1 => ?_)
 ·replace hF := ite_t hc1 hF
  refine wp_seq (f_region Z ?_); clear Z; intro Z
  refine s_runk tMv2 Z 1 rfl rfl fun a Z => ?_
  refine s_end Z [0, 1, 2, 6] rfl fun Z => ?_
  refine p_then (wp_ret ?_)
  refine p_then_r ?_
  obtain rfl := some_in hF
  exact f_ret Z (run_results1 rfl Z rfl) ⟨rfl, I, (H.sub [(0, false)] rfl).eq rfl⟩
 ·replace hF := ite_f hc1 hF
  refine wp_skip ?_
  refine p_then (wp_seq ?_)
  refine wp_seq (f_region Z ?_); clear Z; intro Z
  refine s_runk tMv2 Z 4 rfl rfl fun a Z => ?_
  obtain ⟨v2, H⟩ := H.openX 0 rfl
  replace H := H.nf rfl; try dsimp only at H
  refine sO Z _ rfl (oL tMv2 rfl rfl (H.bc 0 1 rfl rfl)) fun a Z => ?_
  refine s_runk tMv2 Z 1 rfl rfl fun a Z => ?_
  refine s_end Z [0, 1, 2, 6, 16] rfl fun Z => ?_
  refine p_then ?_
  refine f_cond Z rfl (fun hc2 => ?_) (fun hc2 => ?_)
  ·replace hF := ite_t hc2 hF
   refine wp_seq (f_region Z ?_); clear Z; intro Z
   refine s_runk tMv2 Z 1 rfl rfl fun a Z => ?_
   refine s_end Z [0, 1, 2, 6] rfl fun Z => ?_
   refine p_then (wp_ret ?_)
   refine p_then_r ?_
   replace H := H.sX (OEref16_Store b_s0 s0) (v2) [(0, false), (0, false)] rfl rfl rfl
   obtain rfl := some_in hF
   exact f_ret Z (run_results1 rfl Z rfl) ⟨rfl, I, (H.sub [(0, false)] rfl).eq rfl⟩
  ·replace hF := ite_f hc2 hF
   refine wp_skip ?_
   refine p_then (wp_seq ?_)
   refine wp_seq ?_
   obtain ⟨c, hx1, hF⟩ := bnd_in hF
   refine f_region Z fun Z => ?_
   refine s_runk tMv2 Z 1 rfl rfl fun a Z => ?_
   refine sO Z (.agg #[vI 0, vI 1, v1_l]) rfl (Ob_build (vs := [(1, vI 1), (2, v1_l)]) rfl rfl (by obtain ⟨_, _, e, _⟩ := (H.slshape 2 rfl); rw [e]; clear e; go_simp <;> rfl)) fun a Z => ?_
   refine hC Z H [(2, true)] rfl #[] fn_42_YMv2 rfl rfl (fun D h => have q := c_ref06_Check hx1 h; q) fun vv a w1 D2 hr hF2 Z => ?_
   obtain ⟨rfl, I1, K⟩ := hr
   have H := (hF2 K).nf rfl
   refine s_runk tMv2 Z 1 rfl rfl fun a Z => ?_
   refine s_end Z [0, 1, 2, 6, 7] rfl fun Z => ?_
   refine p_then (wp_seq (f_region Z ?_)); clear Z; intro Z
   refine s_runk tMv2 Z 2 rfl rfl fun a Z => ?_
   refine s_end Z [0, 1, 2, 6, 7, 21] rfl fun Z => ?_
   refine p_then ?_
   refine f_cond Z rfl (fun hc3 => ?_) (fun hc3 => ?_)
   ·replace hF := ite_t hc3 hF
    refine wp_seq (f_region Z ?_); clear Z; intro Z
    refine s_runk tMv2 Z 2 rfl rfl fun a Z => ?_
    refine s_end Z [0, 1, 2, 6] rfl fun Z => ?_
    refine p_then (wp_ret ?_)
    refine p_then_r ?_
    replace H := H.sX (OEref16_Store b_s0 s0) (v2) [(0, false), (0, false)] rfl rfl rfl
    obtain rfl := some_in hF
    exact f_ret Z (run_results1 rfl Z rfl) ⟨rfl, I1, (H.sub [(0, false)] rfl).eq rfl⟩
   ·replace hF := ite_f hc3 hF
    refine wp_skip ?_
    refine p_then (wp_seq ?_)
    refine wp_seq (f_region Z ?_); clear Z; intro Z
    refine s_runk tMv2 Z 1 rfl rfl fun a Z => ?_
    refine s_end Z [0, 1, 2, 6, 8] rfl fun Z => ?_
    refine p_then (wp_block ?_)
    replace H := H.sX (OEref16_Store b_s0 s0) (v2) [(0, false), (0, false)] rfl rfl rfl
    refine f_iter hF (fun sg a' w' => match sg with | (i, s0_2) => Sl 52 [(0, pp b_s0 0), (1, vU ts), (2, v1_l), (6, vI 0), (8, vI i)] a' ∧ ∃ I2, Hf I D w I2 w' [OEref16_Store b_s0 s0_2, SlC NEOp v1_l l]) ⟨Z.sub (ts := [0, 1, 2, 6, 8]) rfl, ⟨I1, (H.sub [(0, false), (0, true)] rfl).eq rfl⟩⟩ ?_
    rintro rc ⟨i, s0_2⟩ a w2 ⟨Z, I2, H⟩ hF
    unfold F_ref16_Store_Put_l1 at hF
    try dsimp only at hF
    refine wp_seq ?_
    refine wp_seq (f_region Z ?_); clear Z; intro Z
    refine s_runk tMv2 Z 2 rfl rfl fun a Z => ?_
    refine sO Z (vI (ln l)) rfl (Ob_slen tMv2 rfl rfl rfl (H.slshape 1 rfl)) fun a Z => ?_
    refine s_runk tMv2 Z 1 rfl rfl fun a Z => ?_
    refine s_end Z [0, 1, 2, 6, 8, 23, 24, 25, 26] rfl fun Z => ?_
    refine p_then ?_
    refine f_cond Z rfl (fun hc4 => ?_) (fun hc4 => ?_)
    ·replace hF := ite_t hc4 hF
     refine wp_skip ?_
     refine p_then (wp_seq ?_)
     refine wp_block ?_
     obtain ⟨hg1, hF⟩ := chk_in hF
     obtain ⟨hg2, hF⟩ := chk_in hF
     obtain ⟨hg3, hF⟩ := chk_in hF
     obtain ⟨l_2, hx2, hF⟩ := bnd_in hF
     refine f_quietS 18 (by kernel_rfl) (by kernel_rfl) (by kernel_rfl) (by kernel_rfl) (by kernel_rfl) Z fun Z => ?_
     refine q_runk tMv2 Z 3 rfl rfl fun a Z => ?_
     refine qO Z (.pointer (some ⟨blkOf v1_l, oofOf v1_l + (i).toNat * 3, none⟩)) rfl (fun _ hw => Ob_sidx tMv2 rfl rfl rfl rfl (slPl ((H.blw hw).sl 1 rfl) hg1) hg1) fun a Z => ?_
     refine q_runk tMv2 Z 1 rfl rfl fun a Z => ?_
     refine qO Z (vS ((gi l i).key)) rfl (fun _ hw => oL tMv2 rfl rfl ((slFl ((H.blw hw).sl 1 rfl) hg1) 0 _ rfl)) fun a Z => ?_
     refine q_runk tMv2 Z 3 rfl rfl fun a Z => ?_
     refine qO Z (.pointer (some ⟨blkOf v1_l, oofOf v1_l + (i).toNat * 3, none⟩)) rfl (fun _ hw => Ob_sidx tMv2 rfl rfl rfl rfl (slPl ((H.blw hw).sl 1 rfl) hg2) hg2) fun a Z => ?_
     refine q_runk tMv2 Z 1 rfl rfl fun a Z => ?_
     refine qO Z (vS ((gi l i).val)) rfl (fun _ hw => oL tMv2 rfl rfl ((slFl ((H.blw hw).sl 1 rfl) hg2) 1 _ rfl)) fun a Z => ?_
     refine q_runk tMv2 Z 2 rfl rfl fun a Z => ?_
     refine qO Z (.pointer (some ⟨blkOf v1_l, oofOf v1_l + (i).toNat * 3, none⟩)) rfl (fun _ hw => Ob_sidx tMv2 rfl rfl rfl rfl (slPl ((H.blw hw).sl 1 rfl) hg3) hg3) fun a Z => ?_
     refine q_runk tMv2 Z 1 rfl rfl fun a Z => ?_
     refine qO Z (vT ((gi l i).del)) rfl (fun _ hw => oL tMv2 rfl rfl ((slFl ((H.blw hw).sl 1 rfl) hg3) 2 _ rfl)) fun a Z => ?_
     refine qO Z (.agg #[vU ts, vS ((gi l i).val), vT ((gi l i).del)]) rfl (fun _ hw => Ob_build (vs := [(0, vU ts), (1, vS ((gi l i).val)), (2, vT ((gi l i).del))]) rfl rfl (by go_simp <;> rfl)) fun a Z => ?_
     refine q_endS Z [0, 1, 2, 6, 8, 23, 24, 25, 26, 29, 30, 31, 32, 33, 34, 35, 36, 37, 38, 39, 40, 41, 42, 43, 44, 45, 46] rfl fun w3 hb Z => ?_
     replace H := H.blw hb
     clear hb
     refine hC Z H [(0, false)] rfl #[] fn_43_YMv2 rfl rfl (fun D h => have q := c_ref16_Store_lay hx2 h; q) fun vv a w4 D2 hr hF2 Z => ?_
     obtain ⟨rfl, I3, K⟩ := hr
     have H := (hF2 K).nf rfl
     refine s_end Z [0, 1, 2, 6, 8, 23, 24, 25, 26, 29, 30, 31, 32, 33, 34, 35, 36, 37, 38, 39, 40, 41, 42, 43, 44, 45, 46] rfl fun Z => ?_
     refine p_blk ?_
     refine p_then ?_
     obtain ⟨hg4, hF⟩ := chk_in hF
     refine f_region Z fun Z => ?_
     refine s_runk tMv2 Z 1 rfl rfl fun a Z => ?_
     refine sO Z (vI (i + 1)) rfl (Ob_add rfl rfl rfl (wrI hg4)) fun a Z => ?_
     refine s_runk tMv2 Z 1 rfl rfl fun a Z => ?_
     refine s_end Z [0, 1, 2, 6, 8, 23, 24, 25, 26, 29, 30, 31, 32, 33, 34, 35, 36, 37, 38, 39, 40, 41, 42, 43, 44, 45, 46, 27, 28] rfl fun Z => ?_
     refine p_then ?_
     exact ⟨(i + 1, l_2), ⟨Z.sub (ts := [0, 1, 2, 6, 8]) rfl, ⟨I3, (H.sub [(0, false), (0, true)] rfl).eq rfl⟩⟩, hF⟩
    ·replace hF := ite_f hc4 hF
     refine wp_exit ?_
     refine p_then_x ?_
     refine p_then_x ?_
     refine f_exit_here ?_
     refine p_then (wp_seq (f_region Z ?_)); clear Z; intro Z
     refine s_runk tMv2 Z 4 rfl rfl fun a Z => ?_
     obtain ⟨v3, H⟩ := H.openX 0 rfl
     replace H := H.nf rfl; try dsimp only at H
     refine hT tMv2 Z H 0 rfl rfl rfl rfl rfl (one_cons rfl one_nil) (Nat.le_of_ble_eq_true rfl) rfl fun w5 H => ?_
     dsimp only [List.eraseIdx] at H
     refine s_end Z [6] rfl fun Z => ?_
     refine p_then (wp_seq (f_region Z ?_)); clear Z; intro Z
     refine s_runk tMv2 Z 1 rfl rfl fun a Z => ?_
     refine s_end Z [6] rfl fun Z => ?_
     refine p_then (wp_ret ?_)
     replace H := H.sX (OEref16_Store b_s0 ({ s0_2 with last := ts } : Eref16_Store)) (v3) [(0, false), (0, false)] rfl rfl rfl
     obtain rfl := some_in hF
     exact f_ret Z (run_results1 rfl Z rfl) ⟨rfl, I2, (H.sub [(0, false)] rfl).eq rfl⟩

def F_ref06_SamePairs_l1 (a0 : List EPair) (b : List EPair) (rc : Int → Option Bool) (sg : Int) : Option Bool := match sg with | i => if ((decide (i < (a0.length : Int))) && (decide (i < (b.length : Int)))) = true then (chk ((0 : Int) ≤ i ∧ i < (a0.length : Int)) (chk ((0 : Int) ≤ i ∧ i < (b.length : Int)) (if (!eqEPair (a0.getD (i).toNat default) (b.getD (i).toNat default)) = true then (some false) else (chk (inI (i + 1)) (rc (i + 1)))))) else (some true)

def F_ref06_SamePairs (a0 : List EPair) (b : List EPair) : Option Bool := if ((a0.length : Int) != (b.length : Int)) = true then (some false) else (iter (F_ref06_SamePairs_l1 a0 b) FU 0)

set_option maxHeartbeats 1000000 in
theorem c_ref06_SamePairs {I D : Dm} {a0 : List EPair} {v1_a0 : Value} {b : List EPair} {v2_b : Value} {w : World} {rr : Bool} (hF : F_ref06_SamePairs a0 b = some rr) (H : St I D w [SlC NEPair v1_a0 a0, SlC NEPair v2_b b]) :
  Calls Try.prog 20 #[v1_a0, v2_b] w (Ret fun vv w' => vv = vT rr ∧ ∃ I', Hf I D w I' w' []) := by
 replace H := H.hf
 unfold F_ref06_SamePairs at hF
 refine f_enter 32 Try.func20 rfl rfl (Nat.le_of_ble_eq_true rfl) fun a Z => ?_
 replace Z := Z.sub (ts := [0, 1]) rfl
 refine wp_seq (f_region Z ?_); clear Z; intro Z
 refine s_runk tMv2 Z 1 rfl rfl fun a Z => ?_
 refine s_end Z [0, 1, 4] rfl fun Z => ?_
 refine p_then (wp_seq ?_)
 refine wp_seq (f_region Z ?_); clear Z; intro Z
 refine s_runk tMv2 Z 1 rfl rfl fun a Z => ?_
 refine sO Z (vI (ln a0)) rfl (Ob_slen tMv2 rfl rfl rfl (H.slshape 0 rfl)) fun a Z => ?_
 refine s_runk tMv2 Z 1 rfl rfl fun a Z => ?_
 refine sO Z (vI (ln b)) rfl (Ob_slen tMv2 rfl rfl rfl (H.slshape 1 rfl)) fun a Z => ?_
 refine s_runk tMv2 Z 1 rfl rfl fun a Z => ?_
 refine s_end Z [0, 1, 4, 10] rfl fun Z => ?_
 refine p_then ?_
 refine f_cond Z rfl (fun hc1 => ?_) (fun hc1 => ?_)
 ·replace hF := ite_t hc1 hF
  refine wp_seq (f_region Z ?_); clear Z; intro Z
  refine s_runk tMv2 Z 1 rfl rfl fun a Z => ?_
  refine s_end Z [0, 1, 4] rfl fun Z => ?_
  refine p_then (wp_ret ?_)
  refine p_then_r ?_
  obtain rfl := some_in hF
  exact f_ret Z (run_results1 rfl Z rfl) ⟨rfl, I, (H.sub [] rfl).eq rfl⟩
 ·replace hF := ite_f hc1 hF
  refine wp_skip ?_
  refine p_then (wp_seq ?_)
  refine wp_seq (f_region Z ?_); clear Z; intro Z
  refine s_runk tMv2 Z 1 rfl rfl fun a Z => ?_
  refine s_end Z [0, 1, 4, 5] rfl fun Z => ?_
  refine p_then (wp_block ?_)
  refine f_iter hF (fun sg a' w' => match sg with | i => Sl 32 [(0, v1_a0), (1, v2_b), (4, vT false), (5, vI i)] a' ∧ ∃ I2, Hf I D w I2 w' [SlC NEPair v1_a0 a0, SlC NEPair v2_b b]) ⟨Z.sub (ts := [0, 1, 4, 5]) rfl, ⟨I, (H.sub [(0, true), (1, true)] rfl).eq rfl⟩⟩ ?_
  rintro rc i a w1 ⟨Z, I1, H⟩ hF
  unfold F_ref06_SamePairs_l1 at hF
  try dsimp only at hF
  refine wp_seq ?_
  refine wp_seq (f_region Z ?_); clear Z; intro Z
  refine s_runk tMv2 Z 2 rfl rfl fun a Z => ?_
  refine sO Z (vI (ln a0)) rfl (Ob_slen tMv2 rfl rfl rfl (H.slshape 0 rfl)) fun a Z => ?_
  refine s_runk tMv2 Z 2 rfl rfl fun a Z => ?_
  refine gO Z (vI i) rfl (wantB_t _) (.n 5 rfl .z) (fun hp => Ob_c tMv2 rfl) fun a Z => ?_
  refine gO Z v2_b rfl (wantB_t _) (.n 1 rfl .z) (fun hp => Ob_c tMv2 rfl) fun a Z => ?_
  refine gO Z (vI (ln b)) rfl (wantB_t _) (.c 17 rfl id .z) (fun hp => Ob_slen tMv2 rfl rfl rfl (H.slshape 1 rfl)) fun a Z => ?_
  refine gO Z (vT (decide (i < (ln b)))) rfl (wantB_t _) (.c 16 rfl id (.c 18 rfl id .z)) (fun hp => Ob_c tMv2 rfl) fun a Z => ?_
  refine sO Z (vT ((decide (i < (ln a0))) && (decide (i < (ln b))))) rfl (Ob_pick rfl rfl rfl rfl (pick_and _ _)) fun a Z => ?_
  refine s_end Z [0, 1, 4, 5, 11, 12, 13, 14, 15, 20] rfl fun Z => ?_
  refine p_then ?_
  refine f_cond Z rfl (fun hc2 => ?_) (fun hc2 => ?_)
  ·replace hF := ite_t hc2 hF
   refine wp_skip ?_
   refine p_then (wp_seq ?_)
   refine wp_block ?_
   refine wp_seq ?_
   obtain ⟨hg1, hF⟩ := chk_in hF
   obtain ⟨hg2, hF⟩ := chk_in hF
   refine f_quietd (by kernel_rfl) (by kernel_rfl) Z fun Z => ?_
   refine q_runk tMv2 Z 2 rfl rfl fun a Z => ?_
   refine qO Z (.pointer (some ⟨blkOf v1_a0, oofOf v1_a0 + (i).toNat * 2, none⟩)) rfl (fun _ hw => Ob_sidx tMv2 rfl rfl rfl rfl (slPl ((H.blw hw).sl 0 rfl) hg1) hg1) fun a Z => ?_
   refine qO Z (.agg #[vS ((gi a0 i).key), vS ((gi a0 i).val)]) rfl (fun _ hw => oA tMv2 rfl rfl ((slFl ((H.blw hw).sl 0 rfl) hg1).part 0 rfl)) fun a Z => ?_
   refine q_runk tMv2 Z 2 rfl rfl fun a Z => ?_
   refine qO Z (.pointer (some ⟨blkOf v2_b, oofOf v2_b + (i).toNat * 2, none⟩)) rfl (fun _ hw => Ob_sidx tMv2 rfl rfl rfl rfl (slPl ((H.blw hw).sl 1 rfl) hg2) hg2) fun a Z => ?_
   refine qO Z (.agg #[vS ((gi b i).key), vS ((gi b i).val)]) rfl (fun _ hw => oA tMv2 rfl rfl ((slFl ((H.blw hw).sl 1 rfl) hg2).part 0 rfl)) fun a Z => ?_
   refine qO Z (vT (!eqEPair (gi a0 i) (gi b i))) rfl (fun _ hw => Ob_bin rfl rfl rfl (eqg_EPair _ _ _ _ _ _) (neq_EPair (gi a0 i) (gi b i) _)) fun a Z => ?_
   refine q_end Z [0, 1, 4, 5, 11, 12, 13, 14, 15, 20, 23, 24, 25, 26, 27, 28, 29, 30, 31] rfl fun w2 hb Z => ?_
   replace H := H.blw hb
   clear hb
   refine p_then ?_
   refine f_cond Z rfl (fun hc3 => ?_) (fun hc3 => ?_)
   ·replace hF := ite_t hc3 hF
    refine wp_seq (f_region Z ?_); clear Z; intro Z
    refine s_runk tMv2 Z 1 rfl rfl fun a Z => ?_
    refine s_end Z [0, 1, 4, 5, 11, 12, 13, 14, 15, 20, 23, 24, 25, 26, 27, 28, 29, 30, 31] rfl fun Z => ?_
    refine p_then (wp_ret ?_)
    refine p_blk_r ?_
    refine p_then_r ?_
    refine p_then_r ?_
    refine p_blk_r ?_
    refine p_then_r ?_
    obtain rfl := some_in hF
    exact f_ret Z (run_results1 rfl Z rfl) ⟨rfl, I1, (H.sub [] rfl).eq rfl⟩
   ·replace hF := ite_f hc3 hF
    refine wp_skip ?_
    refine p_blk ?_
    refine p_then ?_
    obtain ⟨hg3, hF⟩ := chk_in hF
    refine f_region Z fun Z => ?_
    refine s_runk tMv2 Z 1 rfl rfl fun a Z => ?_
    refine sO Z (vI (i + 1)) rfl (Ob_add rfl rfl rfl (wrI hg3)) fun a Z => ?_
    refine s_runk tMv2 Z 1 rfl rfl fun a Z => ?_
    refine s_end Z [0, 1, 4, 5, 11, 12, 13, 14, 15, 20, 23, 24, 25, 26, 27, 28, 29, 30, 31, 21, 22] rfl fun Z => ?_
    refine p_then ?_
    exact ⟨(i + 1), ⟨Z.sub (ts := [0, 1, 4, 5]) rfl, ⟨I1, (H.sub [(0, true), (1, true)] rfl).eq rfl⟩⟩, hF⟩
  ·replace hF := ite_f hc2 hF
   refine wp_exit ?_
   refine p_then_x ?_
   refine p_then_x ?_
   refine f_exit_here ?_
   refine p_then (wp_seq (f_region Z ?_)); clear Z; intro Z
   refine s_runk tMv2 Z 1 rfl rfl fun a Z => ?_
   refine s_end Z [4] rfl fun Z => ?_
   refine p_then (wp_ret ?_)
   obtain rfl := some_in hF
   exact f_ret Z (run_results1 rfl Z rfl) ⟨rfl, I1, (H.sub [] rfl).eq rfl⟩

def F_ref05_Set_k2 (i : Int) (rc : ((List ByteArray) × Int) → Option (List ByteArray)) (out_2 : List ByteArray) (k : Int) (x : Int) (x_2 : Bool) (x_3 : Bool) (x_4 : Bool) (x_5 : Int) (x_6 : Bool) (x_7 : Bool) (x_8 : Bool) : Option (List ByteArray) := chk (inI (i + 1)) (rc (out_2, i + 1))

def F_ref05_Set_l3 (l : List ByteArray) (out : List ByteArray) (i : Int) (rc : ((List ByteArray) × Int) → Option (List ByteArray)) (rc_2 : Int → Option (List ByteArray)) (sg : Int) : Option (List ByteArray) := match sg with | k_2 => chk ((decide (k_2 < (out.length : Int))) = true → (0 : Int) ≤ k_2 ∧ k_2 < (out.length : Int)) (chk ((decide (k_2 < (out.length : Int))) = true → (0 : Int) ≤ i ∧ i < (l.length : Int)) (if ((decide (k_2 < (out.length : Int))) && (sltB (out.getD (k_2).toNat default) (l.getD (i).toNat default))) = true then (chk (inI (k_2 + 1)) (rc_2 (k_2 + 1))) else (chk ((decide (k_2 < (out.length : Int))) = true → (0 : Int) ≤ k_2 ∧ k_2 < (out.length : Int)) (chk ((decide (k_2 < (out.length : Int))) = true → (0 : Int) ≤ i ∧ i < (l.length : Int)) (if ((decide (k_2 < (out.length : Int))) && (seqB (out.getD (k_2).toNat default) (l.getD (i).toNat default))) = true then (F_ref05_Set_k2 i rc out k_2 k_2 (decide (k_2 < (out.length : Int))) (decide (k_2 < (out.length : Int))) ((decide (k_2 < (out.length : Int))) && (sltB (out.getD (k_2).toNat default) (l.getD (i).toNat default))) k_2 (decide (k_2 < (out.length : Int))) (decide (k_2 < (out.length : Int))) ((decide (k_2 < (out.length : Int))) && (seqB (out.getD (k_2).toNat default) (l.getD (i).toNat default)))) else (chk ((0 : Int) ≤ k_2 ∧ k_2 ≤ (out.length : Int)) (chk ((0 : Int) ≤ k_2 ∧ k_2 ≤ (out.length : Int)) (chk (((([] : List ByteArray).length + (out.take ((k_2).toNat)).length : Nat) : Int) * 16 ≤ 140737488355328) (chk ((0 : Int) ≤ i ∧ i < (l.length : Int)) (chk ((((([] : List ByteArray) ++ (out.take ((k_2).toNat))).length + [(l.getD (i).toNat default)].length : Nat) : Int) * 16 ≤ 140737488355328) (chk ((0 : Int) ≤ k_2 ∧ k_2 ≤ (out.length : Int)) (chk (((((([] : List ByteArray) ++ (out.take ((k_2).toNat))) ++ [(l.getD (i).toNat default)]).length + (out.drop ((k_2).toNat)).length : Nat) : Int) * 16 ≤ 140737488355328) (F_ref05_Set_k2 i rc (((([] : List ByteArray) ++ (out.take ((k_2).toNat))) ++ [(l.getD (i).toNat default)]) ++ (out.drop ((k_2).toNat))) k_2 k_2 (decide (k_2 < (out.length : Int))) (decide (k_2 < (out.length : Int))) ((decide (k_2 < (out.length : Int))) && (sltB (out.getD (k_2).toNat default) (l.getD (i).toNat default))) k_2 (decide (k_2 < (out.length : Int))) (decide (k_2 < (out.length : Int))) ((decide (k_2 < (out.length : Int))) && (seqB (out.getD (k_2).toNat default) (l.getD (i).toNat default))))))))))))))))

def F_ref05_Set_l1 (l : List ByteArray) (rc : ((List ByteArray) × Int) → Option (List ByteArray)) (sg : (List ByteArray) × Int) : Option (List ByteArray) := match sg with | (out, i) => if (decide (i < (l.length : Int))) = true then (iter (F_ref05_Set_l3 l out i rc) FU 0) else (some out)

def F_ref05_Set (l : List ByteArray) : Option (List ByteArray) := iter (F_ref05_Set_l1 l) FU (([] : List ByteArray), 0)

set_option maxHeartbeats 1000000 in
theorem c_ref05_Set {I D : Dm} {l : List ByteArray} {v1_l : Value} {w : World} {rr : List ByteArray} (hF : F_ref05_Set l = some rr) (H : St I D w [SlC NS v1_l l]) :
  Calls Try.prog 75 #[v1_l] w (Ret fun vv w' => ∃ q1 : Value, vv = q1 ∧ ∃ I', Hf I D w I' w' [SlC NS q1 rr]) := by
 replace H := H.hf
 unfold F_ref05_Set at hF
 refine f_enter 63 Try.func75 rfl rfl (Nat.le_of_ble_eq_true rfl) fun a Z => ?_
 replace Z := Z.sub (ts := [0]) rfl
 refine wp_seq (f_region Z ?_); clear Z; intro Z
 refine s_runk tMv2 Z 1 rfl rfl fun a Z => ?_
 refine s_end Z [0, 2] rfl fun Z => ?_
 refine p_then (wp_seq (f_region Z ?_)); clear Z; intro Z
 refine s_runk tMv2 Z 1 rfl rfl fun a Z => ?_
 refine s_end Z [0, 2, 3] rfl fun Z => ?_
 refine p_then (wp_seq ?_)
 refine wp_seq (f_region Z ?_); clear Z; intro Z
 refine s_runk tMv2 Z 1 rfl rfl fun a Z => ?_
 refine s_end Z [0, 2, 3, 4] rfl fun Z => ?_
 refine p_then (wp_block ?_)
 replace H := H.slNil NS
 refine f_iter hF (fun sg a' w' => match sg with | (out, i) => ∃ v2 : Value, Sl 63 [(0, v1_l), (2, nS), (3, v2), (4, vI i)] a' ∧ ∃ I2, Hf I D w I2 w' [SlC NS v1_l l, SlC NS v2 out]) ⟨nS, Z.sub (ts := [0, 2, 3, 4]) rfl, ⟨I, (H.sub [(1, true), (0, true)] rfl).eq rfl⟩⟩ ?_
 rintro rc ⟨out, i⟩ a w1 ⟨v2, Z, I1, H⟩ hF
 unfold F_ref05_Set_l1 at hF
 try dsimp only at hF
 refine wp_seq ?_
 refine wp_seq (f_region Z ?_); clear Z; intro Z
 refine s_runk tMv2 Z 2 rfl rfl fun a Z => ?_
 refine sO Z (vI (ln l)) rfl (Ob_slen tMv2 rfl rfl rfl (H.slshape 0 rfl)) fun a Z => ?_
 refine s_runk tMv2 Z 1 rfl rfl fun a Z => ?_
 refine s_end Z [0, 2, 3, 4, 7, 8, 9, 10] rfl fun Z => ?_
 refine p_then ?_
 refine f_cond Z rfl (fun hc1 => ?_) (fun hc1 => ?_)
 ·replace hF := ite_t hc1 hF
  refine wp_skip ?_
  refine p_then ?_
  refine f_cut (fun a' w' => ∃ (out_2 : List ByteArray) (k : Int) (x : Int) (x_2 : Bool) (x_3 : Bool) (x_4 : Bool) (x_5 : Int) (x_6 : Bool) (x_7 : Bool) (x_8 : Bool), ∃ v3 : Value, Sl 63 [(0, v1_l), (2, nS), (3, v3), (4, vI i), (5, vI k), (7, vI i), (8, v1_l), (9, vI (ln l)), (10, vT (decide (i < (ln l)))), (13, vI x), (14, v2), (15, vI (ln out)), (16, vT x_2), (17, vT x_3), (27, vT x_4), (30, vI x_5), (31, v2), (32, vI (ln out)), (33, vT x_6), (34, vT x_7), (44, vT x_8)] a' ∧ (∃ I2, Hf I D w I2 w' [SlC NS v1_l l, SlC NS v2 out, SlC NS v3 out_2]) ∧ F_ref05_Set_k2 i rc out_2 k x x_2 x_3 x_4 x_5 x_6 x_7 x_8 = some rr) ?_ ?_
  ·rintro a w2 ⟨out_2, k, x, x_2, x_3, x_4, x_5, x_6, x_7, x_8, v3, Z, ⟨I2, H⟩, hF⟩
   unfold F_ref05_Set_k2 at hF
   try dsimp only at hF
   obtain ⟨hg1, hF⟩ := chk_in hF
   refine f_region Z fun Z => ?_
   refine s_runk tMv2 Z 1 rfl rfl fun a Z => ?_
   refine sO Z (vI (i + 1)) rfl (Ob_add rfl rfl rfl (wrI hg1)) fun a Z => ?_
   refine s_runk tMv2 Z 1 rfl rfl fun a Z => ?_
   refine s_end Z [0, 2, 3, 4, 5, 7, 8, 9, 10, 13, 14, 15, 16, 17, 27, 30, 31, 32, 33, 34, 44, 11, 12] rfl fun Z => ?_
   refine p_then ?_
   exact ⟨(out_2, i + 1), ⟨v3, Z.sub (ts := [0, 2, 3, 4]) rfl, ⟨I2, (H.sub [(0, true), (2, true)] rfl).eq rfl⟩⟩, hF⟩
  ·skip
   refine wp_block ?_
   refine wp_seq (f_region Z ?_); clear Z; intro Z
   refine s_runk tMv2 Z 1 rfl rfl fun a Z => ?_
   refine s_end Z [0, 2, 3, 4, 7, 8, 9, 10, 5] rfl fun Z => ?_
   refine p_then (wp_seq ?_)
   refine wp_block ?_
   refine f_iter hF (fun sg a' w' => match sg with | k_2 => Sl 63 [(0, v1_l), (2, nS), (3, v2), (4, vI i), (5, vI k_2), (7, vI i), (8, v1_l), (9, vI (ln l)), (10, vT (decide (i < (ln l))))] a' ∧ ∃ I2, Hf I D w I2 w' [SlC NS v1_l l, SlC NS v2 out]) ⟨Z.sub (ts := [0, 2, 3, 4, 5, 7, 8, 9, 10]) rfl, ⟨I1, (H.sub [(0, true), (1, true)] rfl).eq rfl⟩⟩ ?_
   rintro rc_2 k_2 a w3 ⟨Z, I3, H⟩ hF
   unfold F_ref05_Set_l3 at hF
   try dsimp only at hF
   refine wp_seq ?_
   refine wp_seq ?_
   obtain ⟨hg2, hF⟩ := chk_in hF
   obtain ⟨hg3, hF⟩ := chk_in hF
   refine f_quietd (by kernel_rfl) (by kernel_rfl) Z fun Z => ?_
   refine q_runk tMv2 Z 2 rfl rfl fun a Z => ?_
   refine qO Z (vI (ln out)) rfl (fun _ hw => Ob_slen tMv2 rfl rfl rfl ((H.blw hw).slshape 1 rfl)) fun a Z => ?_
   refine q_runk tMv2 Z 2 rfl rfl fun a Z => ?_
   refine jO Z v2 rfl (wantB_t _) (.n 3 rfl .z) (fun hp _ hw => Ob_c tMv2 rfl) fun a Z => ?_
   refine jO Z (vI k_2) rfl (wantB_t _) (.n 5 rfl .z) (fun hp _ hw => Ob_c tMv2 rfl) fun a Z => ?_
   refine jO Z (.pointer (some ⟨blkOf v2, oofOf v2 + (k_2).toNat * 1, none⟩)) rfl (wantB_t _) (.c 18 rfl id (.c 19 rfl id .z)) (fun hp _ hw => Ob_sidx tMv2 rfl rfl rfl rfl (slPl ((H.blw hw).sl 1 rfl) (hg2 hp)) (hg2 hp)) fun a Z => ?_
   refine jO Z (vS (gi out k_2)) rfl (wantB_t _) (.c 20 rfl id .z) (fun hp _ hw => oL tMv2 rfl rfl ((slFl ((H.blw hw).sl 1 rfl) (hg2 hp)) 0 _ rfl)) fun a Z => ?_
   refine jO Z v1_l rfl (wantB_t _) (.n 0 rfl .z) (fun hp _ hw => Ob_c tMv2 rfl) fun a Z => ?_
   refine jO Z (vI i) rfl (wantB_t _) (.n 4 rfl .z) (fun hp _ hw => Ob_c tMv2 rfl) fun a Z => ?_
   refine jO Z (.pointer (some ⟨blkOf v1_l, oofOf v1_l + (i).toNat * 1, none⟩)) rfl (wantB_t _) (.c 22 rfl id (.c 23 rfl id .z)) (fun hp _ hw => Ob_sidx tMv2 rfl rfl rfl rfl (slPl ((H.blw hw).sl 0 rfl) (hg3 hp)) (hg3 hp)) fun a Z => ?_
   refine jO Z (vS (gi l i)) rfl (wantB_t _) (.c 24 rfl id .z) (fun hp _ hw => oL tMv2 rfl rfl ((slFl ((H.blw hw).sl 0 rfl) (hg3 hp)) 0 _ rfl)) fun a Z => ?_
   refine jO Z (vT (sltB (gi out k_2) (gi l i))) rfl (wantB_t _) (.c 21 rfl id (.c 25 rfl id .z)) (fun hp _ hw => Ob_c tMv2 rfl) fun a Z => ?_
   refine qO Z (vT ((decide (k_2 < (ln out))) && (sltB (gi out k_2) (gi l i)))) rfl (fun _ hw => Ob_pick rfl rfl rfl rfl (pick_and _ _)) fun a Z => ?_
   refine q_end Z [0, 2, 3, 4, 5, 7, 8, 9, 10, 13, 14, 15, 16, 17, 27] rfl fun w4 hb Z => ?_
   replace H := H.blw hb
   clear hb
   refine p_then ?_
   refine f_cond Z rfl (fun hc2 => ?_) (fun hc2 => ?_)
   ·replace hF := ite_t hc2 hF
    refine wp_skip ?_
    refine p_then (wp_block ?_)
    obtain ⟨hg4, hF⟩ := chk_in hF
    refine f_region Z fun Z => ?_
    refine s_runk tMv2 Z 1 rfl rfl fun a Z => ?_
    refine sO Z (vI (k_2 + 1)) rfl (Ob_add rfl rfl rfl (wrI hg4)) fun a Z => ?_
    refine s_runk tMv2 Z 1 rfl rfl fun a Z => ?_
    refine s_end Z [0, 2, 3, 4, 5, 7, 8, 9, 10, 13, 14, 15, 16, 17, 27, 28, 29] rfl fun Z => ?_
    refine p_blk ?_
    refine p_then ?_
    exact ⟨(k_2 + 1), ⟨Z.sub (ts := [0, 2, 3, 4, 5, 7, 8, 9, 10]) rfl, ⟨I3, (H.sub [(0, true), (1, true)] rfl).eq rfl⟩⟩, hF⟩
   ·replace hF := ite_f hc2 hF
    refine wp_exit ?_
    refine p_then_x ?_
    refine p_then_x ?_
    refine f_exit_here ?_
    refine p_then (wp_seq ?_)
    refine wp_seq ?_
    obtain ⟨hg5, hF⟩ := chk_in hF
    obtain ⟨hg6, hF⟩ := chk_in hF
    refine f_quietd (by kernel_rfl) (by kernel_rfl) Z fun Z => ?_
    refine q_runk tMv2 Z 2 rfl rfl fun a Z => ?_
    refine qO Z (vI (ln out)) rfl (fun _ hw => Ob_slen tMv2 rfl rfl rfl ((H.blw hw).slshape 1 rfl)) fun a Z => ?_
    refine q_runk tMv2 Z 2 rfl rfl fun a Z => ?_
    refine jO Z v2 rfl (wantB_t _) (.n 3 rfl .z) (fun hp _ hw => Ob_c tMv2 rfl) fun a Z => ?_
    refine jO Z (vI k_2) rfl (wantB_t _) (.n 5 rfl .z) (fun hp _ hw => Ob_c tMv2 rfl) fun a Z => ?_
    refine jO Z (.pointer (some ⟨blkOf v2, oofOf v2 + (k_2).toNat * 1, none⟩)) rfl (wantB_t _) (.c 35 rfl id (.c 36 rfl id .z)) (fun hp _ hw => Ob_sidx tMv2 rfl rfl rfl rfl (slPl ((H.blw hw).sl 1 rfl) (hg5 hp)) (hg5 hp)) fun a Z => ?_
    refine jO Z (vS (gi out k_2)) rfl (wantB_t _) (.c 37 rfl id .z) (fun hp _ hw => oL tMv2 rfl rfl ((slFl ((H.blw hw).sl 1 rfl) (hg5 hp)) 0 _ rfl)) fun a Z => ?_
    refine jO Z v1_l rfl (wantB_t _) (.n 0 rfl .z) (fun hp _ hw => Ob_c tMv2 rfl) fun a Z => ?_
    refine jO Z (vI i) rfl (wantB_t _) (.n 4 rfl .z) (fun hp _ hw => Ob_c tMv2 rfl) fun a Z => ?_
    refine jO Z (.pointer (some ⟨blkOf v1_l, oofOf v1_l + (i).toNat * 1, none⟩)) rfl (wantB_t _) (.c 39 rfl id (.c 40 rfl id .z)) (fun hp _ hw => Ob_sidx tMv2 rfl rfl rfl rfl (slPl ((H.blw hw).sl 0 rfl) (hg6 hp)) (hg6 hp)) fun a Z => ?_
    refine jO Z (vS (gi l i)) rfl (wantB_t _) (.c 41 rfl id .z) (fun hp _ hw => oL tMv2 rfl rfl ((slFl ((H.blw hw).sl 0 rfl) (hg6 hp)) 0 _ rfl)) fun a Z => ?_
    refine jO Z (vT (seqB (gi out k_2) (gi l i))) rfl (wantB_t _) (.c 38 rfl id (.c 42 rfl id .z)) (fun hp _ hw => Ob_c tMv2 rfl) fun a Z => ?_
    refine qO Z (vT ((decide (k_2 < (ln out))) && (seqB (gi out k_2) (gi l i)))) rfl (fun _ hw => Ob_pick rfl rfl rfl rfl (pick_and _ _)) fun a Z => ?_
    refine q_end Z [0, 2, 3, 4, 5, 7, 8, 9, 10, 13, 14, 15, 16, 17, 27, 30, 31, 32, 33, 34, 44] rfl fun w5 hb Z => ?_
    replace H := H.blw hb
    clear hb
    refine p_then ?_
    refine f_cond Z rfl (fun hc3 => ?_) (fun hc3 => ?_)
    ·replace hF := ite_t hc3 hF
     refine wp_exit ?_
     refine p_then_x ?_
     refine f_exit_here ?_
     refine p_then ?_
     exact ⟨out, k_2, k_2, decide (k_2 < (ln out)), decide (k_2 < (ln out)), (decide (k_2 < (ln out))) && (sltB (gi out k_2) (gi l i)), k_2, decide (k_2 < (ln out)), decide (k_2 < (ln out)), (decide (k_2 < (ln out))) && (seqB (gi out k_2) (gi l i)), v2, Z.sub (ts := [0, 2, 3, 4, 5, 7, 8, 9, 10, 13, 14, 15, 16, 17, 27, 30, 31, 32, 33, 34, 44]) rfl, ⟨I3, (H.sub [(0, true), (1, true), (1, true)] rfl).eq rfl⟩, hF⟩
    ·replace hF := ite_f hc3 hF
     refine wp_skip ?_
     refine p_then (wp_seq ?_)
     obtain ⟨hg7, hF⟩ := chk_in hF
     replace H : Hf I D w I3 w5 [SlC NS (subV v2 0 ((k_2).toNat) 1) (out.take ((k_2).toNat)), SlC NS v1_l l, SlC NS v2 out] := H.slPart_to 1 rfl hg7 1 rfl
     obtain ⟨hg8, hF⟩ := chk_in hF
     obtain ⟨hg9, hF⟩ := chk_in hF
     obtain ⟨hg10, hF⟩ := chk_in hF
     obtain ⟨hg11, hF⟩ := chk_in hF
     refine f_regionG Z (by kernel_rfl) (by kernel_rfl) (by decide) (by decide) [0, 4, 9, 10] [(0, [0, 4]), (0, [0, 1, 4, 5]), (0, [0, 1, 4, 5]), (6, [0, 1, 4, 5]), (15, [1, 5]), (0, [0, 1, 3]), (0, [0, 1, 3]), (96, [0, 1, 3]), (224, [0, 1, 3]), (480, [0, 1, 3]), (1023, [7]), (2047, [15])] (by kernel_rfl) (fun jj => match jj with | 11 => 10 | _ => jj) (by kernel_rfl) (fun jj rv vv => match jj with | 0 => vv = .slice (some ⟨blkOf vv, 0, none⟩) 0 0 | 1 => vv = v2 | 2 => vv = vI k_2 | 3 => vv = subV v2 0 ((k_2).toNat) 1 | 4 => True | 5 => vv = v1_l | 6 => vv = vI i | 7 => vv = .pointer (some ⟨blkOf v1_l, oofOf v1_l + (i).toNat * 1, none⟩) | 8 => vv = vS (gi l i) | 9 => vv = .slice (some ⟨blkOf vv, 0, none⟩) 1 1 | 10 => True | 11 => vv = rv | _ => True) (fun ss vals1 xw => match ss with | 0 => Gx I D w I3 w5 xw [SlC NS (subV v2 0 ((k_2).toNat) 1) (out.take ((k_2).toNat)), SlC NS v1_l l, SlC NS v2 out] | 1 => Gx I D w I3 w5 xw [BxC (blkOf (vals1 0)) 9 [], SlC NS (subV v2 0 ((k_2).toNat) 1) (out.take ((k_2).toNat)), SlC NS v1_l l, SlC NS v2 out] | 3 => Gx I D w I3 w5 xw [OwC NS 9 (vals1 4) (([] : List ByteArray) ++ (out.take ((k_2).toNat))), SlC NS (subV v2 0 ((k_2).toNat) 1) (out.take ((k_2).toNat)), SlC NS v1_l l, SlC NS v2 out] | 4 => Gx I D w I3 w5 xw [BxC (blkOf (vals1 9)) 9 [vS (gi l i)], SlC NS (subV v2 0 ((k_2).toNat) 1) (out.take ((k_2).toNat)), SlC NS v1_l l, SlC NS v2 out] | 5 => Gx I D w I3 w5 xw [BxC (blkOf (vals1 9)) 9 [vS (gi l i)], BxC (blkOf (vals1 0)) 9 [], SlC NS (subV v2 0 ((k_2).toNat) 1) (out.take ((k_2).toNat)), SlC NS v1_l l, SlC NS v2 out] | 7 => Gx I D w I3 w5 xw [BxC (blkOf (vals1 9)) 9 [vS (gi l i)], OwC NS 9 (vals1 4) (([] : List ByteArray) ++ (out.take ((k_2).toNat))), SlC NS (subV v2 0 ((k_2).toNat) 1) (out.take ((k_2).toNat)), SlC NS v1_l l, SlC NS v2 out] | _ => Gx I D w I3 w5 xw [OwC NS 9 (vals1 10) ((([] : List ByteArray) ++ (out.take ((k_2).toNat))) ++ [(gi l i)]), SlC NS (subV v2 0 ((k_2).toNat) 1) (out.take ((k_2).toNat)), SlC NS v1_l l, SlC NS v2 out]) (fun _ => Gx.start H) ?_ ?_
     ·intro fr hfr hfe
      refine .cons (fun ss hs vals1 xw hG hV => ?_) ?_
      ·obtain rfl | rfl : ss = 0 ∨ ss = 4 := by simpa using hs
       ·rw [← hfe]
        have hS := (hfr vals1).sub (ts := []) rfl
        obtain ⟨I2, hI2, H⟩ := Gx.ex hG
        exact L_bslice H (vs := []) (cl := []) (e := 9) hS rfl rfl rfl (fun w => run_bslice (z := vS ByteArray.empty) (m := 1) Try.underlying99 (by kernel_rfl) rfl rfl (by decide) (by simp [Instr.fill, Value.cells]) w) fun yw b hK H => ⟨rfl, Gx.go hG hI2 hK (fun _ h => h) H⟩
       ·rw [← hfe]
        have hS := (hfr vals1).sub (ts := []) rfl
        obtain ⟨I2, hI2, H⟩ := Gx.ex hG
        exact L_bslice H (vs := []) (cl := []) (e := 9) hS rfl rfl rfl (fun w => run_bslice (z := vS ByteArray.empty) (m := 1) Try.underlying99 (by kernel_rfl) rfl rfl (by decide) (by simp [Instr.fill, Value.cells]) w) fun yw b hK H => ⟨rfl, Gx.go hG hI2 hK (fun _ h => h) (Hf.sub H [(1, false), (0, false), (0, true), (1, true), (2, true)] rfl)⟩
      refine .cons (fun ss hs vals1 xw hG hV => ?_) ?_
      ·obtain rfl | rfl | rfl | rfl : ss = 0 ∨ ss = 1 ∨ ss = 4 ∨ ss = 5 := by simpa using hs
       all_goals
       ·rw [← hfe]
        have hS := (hfr vals1).sub (ts := [3]) rfl
        exact L_val hS rfl (Ob_c tMv2 rfl) ⟨rfl, hG⟩
      refine .cons (fun ss hs vals1 xw hG hV => ?_) ?_
      ·obtain rfl | rfl | rfl | rfl : ss = 0 ∨ ss = 1 ∨ ss = 4 ∨ ss = 5 := by simpa using hs
       all_goals
       ·rw [← hfe]
        have hS := (hfr vals1).sub (ts := [5]) rfl
        exact L_val hS rfl (Ob_c tMv2 rfl) ⟨rfl, hG⟩
      refine .cons (fun ss hs vals1 xw hG hV => ?_) ?_
      ·obtain rfl | rfl | rfl | rfl : ss = 0 ∨ ss = 1 ∨ ss = 4 ∨ ss = 5 := by simpa using hs
       ·rw [← hfe]
        have hS := (hfr vals1).sub (ts := [46, 47]) rfl
        replace hS := hS.conv (t := 46) rfl (show (vals1 1) = v2 from hV 1 (by decide))
        replace hS := hS.conv (t := 47) rfl (show (vals1 2) = vI k_2 from hV 2 (by decide))
        obtain ⟨I2, hI2, H⟩ := Gx.ex hG
        exact L_val hS rfl (Ob_sub_to tMv2 rfl rfl rfl rfl (H.slshape 2 rfl) hg8) ⟨rfl, hG⟩
       ·rw [← hfe]
        have hS := (hfr vals1).sub (ts := [46, 47]) rfl
        replace hS := hS.conv (t := 46) rfl (show (vals1 1) = v2 from hV 1 (by decide))
        replace hS := hS.conv (t := 47) rfl (show (vals1 2) = vI k_2 from hV 2 (by decide))
        obtain ⟨I2, hI2, H⟩ := Gx.ex hG
        exact L_val hS rfl (Ob_sub_to tMv2 rfl rfl rfl rfl (H.slshape 3 rfl) hg8) ⟨rfl, hG⟩
       ·rw [← hfe]
        have hS := (hfr vals1).sub (ts := [46, 47]) rfl
        replace hS := hS.conv (t := 46) rfl (show (vals1 1) = v2 from hV 1 (by decide))
        replace hS := hS.conv (t := 47) rfl (show (vals1 2) = vI k_2 from hV 2 (by decide))
        obtain ⟨I2, hI2, H⟩ := Gx.ex hG
        exact L_val hS rfl (Ob_sub_to tMv2 rfl rfl rfl rfl (H.slshape 3 rfl) hg8) ⟨rfl, hG⟩
       ·rw [← hfe]
        have hS := (hfr vals1).sub (ts := [46, 47]) rfl
        replace hS := hS.conv (t := 46) rfl (show (vals1 1) = v2 from hV 1 (by decide))
        replace hS := hS.conv (t := 47) rfl (show (vals1 2) = vI k_2 from hV 2 (by decide))
        obtain ⟨I2, hI2, H⟩ := Gx.ex hG
        exact L_val hS rfl (Ob_sub_to tMv2 rfl rfl rfl rfl (H.slshape 4 rfl) hg8) ⟨rfl, hG⟩
      refine .cons (fun ss hs vals1 xw hG hV => ?_) ?_
      ·obtain rfl | rfl : ss = 1 ∨ ss = 5 := by simpa using hs
       ·rw [← hfe]
        have hS := (hfr vals1).sub (ts := [45, 48]) rfl
        replace hS := hS.conv (t := 45) rfl (show (vals1 0) = .slice (some ⟨blkOf (vals1 0), 0, none⟩) 0 0 from hV 0 (by decide))
        replace hS := hS.conv (t := 48) rfl (show (vals1 3) = subV v2 0 ((k_2).toNat) 1 from hV 3 (by decide))
        obtain ⟨I2, hI2, H⟩ := Gx.ex hG
        replace H := H.emptyow 0 rfl NS
        exact L_appO H 0 E_99_YMv2 (out.take ((k_2).toNat)) rfl rfl hS rfl rfl rfl rfl (H.sl2 1 rfl) hg9 (by decide) fun v yw hK H => ⟨trivial, Gx.go hG hI2 hK (fun _ h => h) H⟩
       ·rw [← hfe]
        have hS := (hfr vals1).sub (ts := [45, 48]) rfl
        replace hS := hS.conv (t := 45) rfl (show (vals1 0) = .slice (some ⟨blkOf (vals1 0), 0, none⟩) 0 0 from hV 0 (by decide))
        replace hS := hS.conv (t := 48) rfl (show (vals1 3) = subV v2 0 ((k_2).toNat) 1 from hV 3 (by decide))
        obtain ⟨I2, hI2, H⟩ := Gx.ex hG
        replace H := H.emptyow 1 rfl NS
        exact L_appO H 0 E_99_YMv2 (out.take ((k_2).toNat)) rfl rfl hS rfl rfl rfl rfl (H.sl2 2 rfl) hg9 (by decide) fun v yw hK H => ⟨trivial, Gx.go hG hI2 hK (fun _ h => h) (Hf.sub H [(1, false), (0, false), (0, true), (1, true), (2, true)] rfl)⟩
      refine .cons (fun ss hs vals1 xw hG hV => ?_) ?_
      ·obtain rfl | rfl | rfl : ss = 0 ∨ ss = 1 ∨ ss = 3 := by simpa using hs
       all_goals
       ·rw [← hfe]
        have hS := (hfr vals1).sub (ts := [0]) rfl
        exact L_val hS rfl (Ob_c tMv2 rfl) ⟨rfl, hG⟩
      refine .cons (fun ss hs vals1 xw hG hV => ?_) ?_
      ·obtain rfl | rfl | rfl : ss = 0 ∨ ss = 1 ∨ ss = 3 := by simpa using hs
       all_goals
       ·rw [← hfe]
        have hS := (hfr vals1).sub (ts := [4]) rfl
        exact L_val hS rfl (Ob_c tMv2 rfl) ⟨rfl, hG⟩
      refine .cons (fun ss hs vals1 xw hG hV => ?_) ?_
      ·obtain rfl | rfl | rfl : ss = 0 ∨ ss = 1 ∨ ss = 3 := by simpa using hs
       ·rw [← hfe]
        have hS := (hfr vals1).sub (ts := [50, 51]) rfl
        replace hS := hS.conv (t := 50) rfl (show (vals1 5) = v1_l from hV 5 (by decide))
        replace hS := hS.conv (t := 51) rfl (show (vals1 6) = vI i from hV 6 (by decide))
        obtain ⟨I2, hI2, H⟩ := Gx.ex hG
        exact L_val hS rfl (Ob_sidx tMv2 rfl rfl rfl rfl (slPl (H.sl 1 rfl) hg10) hg10) ⟨rfl, hG⟩
       ·rw [← hfe]
        have hS := (hfr vals1).sub (ts := [50, 51]) rfl
        replace hS := hS.conv (t := 50) rfl (show (vals1 5) = v1_l from hV 5 (by decide))
        replace hS := hS.conv (t := 51) rfl (show (vals1 6) = vI i from hV 6 (by decide))
        obtain ⟨I2, hI2, H⟩ := Gx.ex hG
        exact L_val hS rfl (Ob_sidx tMv2 rfl rfl rfl rfl (slPl (H.sl 2 rfl) hg10) hg10) ⟨rfl, hG⟩
       ·rw [← hfe]
        have hS := (hfr vals1).sub (ts := [50, 51]) rfl
        replace hS := hS.conv (t := 50) rfl (show (vals1 5) = v1_l from hV 5 (by decide))
        replace hS := hS.conv (t := 51) rfl (show (vals1 6) = vI i from hV 6 (by decide))
        obtain ⟨I2, hI2, H⟩ := Gx.ex hG
        exact L_val hS rfl (Ob_sidx tMv2 rfl rfl rfl rfl (slPl (H.sl 2 rfl) hg10) hg10) ⟨rfl, hG⟩
      refine .cons (fun ss hs vals1 xw hG hV => ?_) ?_
      ·obtain rfl | rfl | rfl : ss = 0 ∨ ss = 1 ∨ ss = 3 := by simpa using hs
       ·rw [← hfe]
        have hS := (hfr vals1).sub (ts := [52]) rfl
        replace hS := hS.conv (t := 52) rfl (show (vals1 7) = .pointer (some ⟨blkOf v1_l, oofOf v1_l + (i).toNat * 1, none⟩) from hV 7 (by decide))
        obtain ⟨I2, hI2, H⟩ := Gx.ex hG
        exact L_val hS rfl (oL tMv2 rfl rfl ((slFl (H.sl 1 rfl) hg10) 0 _ rfl)) ⟨rfl, hG⟩
       ·rw [← hfe]
        have hS := (hfr vals1).sub (ts := [52]) rfl
        replace hS := hS.conv (t := 52) rfl (show (vals1 7) = .pointer (some ⟨blkOf v1_l, oofOf v1_l + (i).toNat * 1, none⟩) from hV 7 (by decide))
        obtain ⟨I2, hI2, H⟩ := Gx.ex hG
        exact L_val hS rfl (oL tMv2 rfl rfl ((slFl (H.sl 2 rfl) hg10) 0 _ rfl)) ⟨rfl, hG⟩
       ·rw [← hfe]
        have hS := (hfr vals1).sub (ts := [52]) rfl
        replace hS := hS.conv (t := 52) rfl (show (vals1 7) = .pointer (some ⟨blkOf v1_l, oofOf v1_l + (i).toNat * 1, none⟩) from hV 7 (by decide))
        obtain ⟨I2, hI2, H⟩ := Gx.ex hG
        exact L_val hS rfl (oL tMv2 rfl rfl ((slFl (H.sl 2 rfl) hg10) 0 _ rfl)) ⟨rfl, hG⟩
      refine .cons (fun ss hs vals1 xw hG hV => ?_) ?_
      ·obtain rfl | rfl | rfl : ss = 0 ∨ ss = 1 ∨ ss = 3 := by simpa using hs
       all_goals
       ·rw [← hfe]
        have hS := (hfr vals1).sub (ts := [53]) rfl
        replace hS := hS.conv (t := 53) rfl (show (vals1 8) = vS (gi l i) from hV 8 (by decide))
        obtain ⟨I2, hI2, H⟩ := Gx.ex hG
        exact L_bslice H (vs := [(0, vS (gi l i))]) (cl := [vS (gi l i)]) (e := 9) hS rfl rfl rfl (fun w => run_bslice (z := vS ByteArray.empty) (m := 1) Try.underlying99 (by kernel_rfl) rfl rfl (by decide) (by simp [Instr.fill, Value.cells]) w) fun yw b hK H => ⟨rfl, Gx.go hG hI2 hK (fun _ h => h) H⟩
      refine .cons (fun ss hs vals1 xw hG hV => ?_) ?_
      ·obtain rfl : ss = 7 := by simpa using hs
       rw [← hfe]
       have hS := (hfr vals1).sub (ts := [49, 54]) rfl
       replace hS := hS.conv (t := 54) rfl (show (vals1 9) = .slice (some ⟨blkOf (vals1 9), 0, none⟩) 1 1 from hV 9 (by decide))
       obtain ⟨I2, hI2, H⟩ := Gx.ex hG
       exact L_appO H 1 E_99_YMv2 [(gi l i)] rfl rfl hS rfl rfl rfl rfl (slRep2.box1 (H.bx 0 rfl) ⟨rfl, trivial⟩) hg11 (by decide) fun v yw hK H => ⟨trivial, Gx.go hG hI2 hK (fun _ h => h) (H.sub [(0, false), (1, true), (2, true), (3, true)] rfl)⟩
      refine .cons (fun ss hs vals1 xw hG hV => ?_) ?_
      ·obtain rfl : ss = 15 := by simpa using hs
       rw [← hfe]
       have hS := (hfr vals1).sub (ts := [55]) rfl
       exact L_val hS rfl (Ob_c tMv2 rfl) ⟨rfl, hG⟩
      exact .nil
     ·intro vals1 a w6 Z hG hV
      replace Z := Z.sub (ts := [0, 2, 3, 4, 5, 7, 8, 9, 10, 13, 14, 15, 16, 17, 27, 30, 31, 32, 33, 34, 44, 45, 46, 47, 48, 49, 50, 51, 52, 53, 54, 55, 6]) (S' := [(0, v1_l), (2, nS), (3, v2), (4, vI i), (5, vI k_2), (7, vI i), (8, v1_l), (9, vI (ln l)), (10, vT (decide (i < (ln l)))), (13, vI k_2), (14, v2), (15, vI (ln out)), (16, vT (decide (k_2 < (ln out)))), (17, vT (decide (k_2 < (ln out)))), (27, vT ((decide (k_2 < (ln out))) && (sltB (gi out k_2) (gi l i)))), (30, vI k_2), (31, v2), (32, vI (ln out)), (33, vT (decide (k_2 < (ln out)))), (34, vT (decide (k_2 < (ln out)))), (44, vT ((decide (k_2 < (ln out))) && (seqB (gi out k_2) (gi l i)))), (45, vals1 0), (46, vals1 1), (47, vals1 2), (48, vals1 3), (49, vals1 4), (50, vals1 5), (51, vals1 6), (52, vals1 7), (53, vals1 8), (54, vals1 9), (55, vals1 10), (6, vals1 11)]) rfl
      replace Z := Z.conv (t := 45) rfl (show (vals1 0) = .slice (some ⟨blkOf (vals1 0), 0, none⟩) 0 0 from hV 0 (by decide))
      replace Z := Z.conv (t := 46) rfl (show (vals1 1) = v2 from hV 1 (by decide))
      replace Z := Z.conv (t := 47) rfl (show (vals1 2) = vI k_2 from hV 2 (by decide))
      replace Z := Z.conv (t := 48) rfl (show (vals1 3) = subV v2 0 ((k_2).toNat) 1 from hV 3 (by decide))
      replace Z := Z.conv (t := 50) rfl (show (vals1 5) = v1_l from hV 5 (by decide))
      replace Z := Z.conv (t := 51) rfl (show (vals1 6) = vI i from hV 6 (by decide))
      replace Z := Z.conv (t := 52) rfl (show (vals1 7) = .pointer (some ⟨blkOf v1_l, oofOf v1_l + (i).toNat * 1, none⟩) from hV 7 (by decide))
      replace Z := Z.conv (t := 53) rfl (show (vals1 8) = vS (gi l i) from hV 8 (by decide))
      replace Z := Z.conv (t := 54) rfl (show (vals1 9) = .slice (some ⟨blkOf (vals1 9), 0, none⟩) 1 1 from hV 9 (by decide))
      replace Z := Z.conv (t := 6) rfl (show (vals1 11) = (vals1 10) from hV 11 (by decide))
      obtain ⟨I4, _, H⟩ := Gx.ex hG
      clear hG hV
      replace Z := Z.sub (ts := [0, 2, 3, 4, 5, 7, 8, 9, 10, 13, 14, 15, 16, 17, 27, 30, 31, 32, 33, 34, 44, 45, 46, 47, 48, 49, 50, 51, 52, 53, 54, 55, 6]) rfl
      replace H := H.nf rfl; try dsimp only at H
      refine p_then (wp_seq ?_)
      obtain ⟨hg12, hF⟩ := chk_in hF
      obtain ⟨hg13, hF⟩ := chk_in hF
      refine f_region Z fun Z => ?_
      refine s_runk tMv2 Z 3 rfl rfl fun a Z => ?_
      replace H : Hf I D w I4 w6 [SlC NS (subV v2 ((k_2).toNat) out.length 1) (out.drop ((k_2).toNat)), OwC NS 9 (vals1 10) ((([] : List ByteArray) ++ (out.take ((k_2).toNat))) ++ [(gi l i)]), SlC NS (subV v2 0 ((k_2).toNat) 1) (out.take ((k_2).toNat)), SlC NS v1_l l, SlC NS v2 out] := H.slPart_from 3 rfl hg12 1 rfl
      refine sO Z (subV v2 ((k_2).toNat) out.length 1) rfl (Ob_sub_from tMv2 rfl rfl rfl rfl (H.slshape 4 rfl) hg12) fun a Z => ?_
      refine h_appO Z H 1 E_99_YMv2 (out.drop ((k_2).toNat)) rfl rfl rfl rfl rfl (by decide) rfl rfl rfl (H.sl2 0 rfl) hg13 (by decide) fun v4 a w7 H Z => ?_
      dsimp only [List.eraseIdx] at H
      refine s_runk tMv2 Z 1 rfl rfl fun a Z => ?_
      refine s_end Z [0, 2, 3, 4, 5, 7, 8, 9, 10, 13, 14, 15, 16, 17, 27, 30, 31, 32, 33, 34, 44, 45, 46, 47, 48, 49, 50, 51, 52, 53, 54, 55, 6, 56, 57, 58, 59, 60] rfl fun Z => ?_
      refine p_then ?_
      refine f_region Z fun Z => ?_
      refine s_runk tMv2 Z 2 rfl rfl fun a Z => ?_
      refine s_end Z [0, 2, 3, 4, 5, 7, 8, 9, 10, 13, 14, 15, 16, 17, 27, 30, 31, 32, 33, 34, 44, 45, 46, 47, 48, 49, 50, 51, 52, 53, 54, 55, 6, 56, 57, 58, 59, 60, 61] rfl fun Z => ?_
      refine p_blk ?_
      refine p_then ?_
      obtain ⟨I5, _, H⟩ := H.frzow 0 rfl
      replace H := H.nf rfl; try dsimp only at H
      exact ⟨((([] : List ByteArray) ++ (out.take ((k_2).toNat))) ++ [(gi l i)]) ++ (out.drop ((k_2).toNat)), k_2, k_2, decide (k_2 < (ln out)), decide (k_2 < (ln out)), (decide (k_2 < (ln out))) && (sltB (gi out k_2) (gi l i)), k_2, decide (k_2 < (ln out)), decide (k_2 < (ln out)), (decide (k_2 < (ln out))) && (seqB (gi out k_2) (gi l i)), v4, Z.sub (ts := [0, 2, 3, 4, 5, 7, 8, 9, 10, 13, 14, 15, 16, 17, 27, 30, 31, 32, 33, 34, 44]) rfl, ⟨I5, (H.sub [(3, true), (4, true), (0, true)] rfl).eq rfl⟩, hF⟩
 ·replace hF := ite_f hc1 hF
  refine wp_exit ?_
  refine p_then_x ?_
  refine p_then_x ?_
  refine f_exit_here ?_
  refine p_then (wp_seq (f_region Z ?_)); clear Z; intro Z
  refine s_runk tMv2 Z 2 rfl rfl fun a Z => ?_
  refine s_end Z [2] rfl fun Z => ?_
  refine p_then (wp_ret ?_)
  obtain rfl := some_in hF
  exact f_ret Z (run_results1 rfl Z rfl) ⟨v2, rfl, I1, (H.sub [(1, true)] rfl).eq rfl⟩

def F_ref06_Norm_k4 (k : Int) (rc_3 : (Int × ByteArray × ByteArray × Bool) → Option (List EOp)) (last_key_2 : ByteArray) (last_val_2 : ByteArray) (last_del_2 : Bool) : Option (List EOp) := chk (inI (k + 1)) (rc_3 (k + 1, last_key_2, last_val_2, last_del_2))

def F_ref06_Norm_l3 (l : List EOp) (s0 : List ByteArray) (out : List EOp) (i_2 : Int) (rc_2 : ((List EOp) × Int) → Option (List EOp)) (rc_3 : (Int × ByteArray × ByteArray × Bool) → Option (List EOp)) (sg : Int × ByteArray × ByteArray × Bool) : Option (List EOp) := match sg with | (k, last_key, last_val, last_del) => if (decide (k < (l.length : Int))) = true then (chk ((0 : Int) ≤ k ∧ k < (l.length : Int)) (chk ((0 : Int) ≤ i_2 ∧ i_2 < (s0.length : Int)) (if (seqB ((l.getD (k).toNat default).key) (s0.getD (i_2).toNat default)) = true then (chk ((0 : Int) ≤ k ∧ k < (l.length : Int)) (F_ref06_Norm_k4 k rc_3 ((l.getD (k).toNat default).key) ((l.getD (k).toNat default).val) ((l.getD (k).toNat default).del))) else (F_ref06_Norm_k4 k rc_3 last_key last_val last_del)))) else (chk (((out.length + [({ key := last_key, val := last_val, del := last_del } : EOp)].length : Nat) : Int) * 40 ≤ 140737488355328) (chk (inI (i_2 + 1)) (rc_2 (out ++ [({ key := last_key, val := last_val, del := last_del } : EOp)], i_2 + 1))))

def F_ref06_Norm_l2 (l : List EOp) (s0 : List ByteArray) (rc_2 : ((List EOp) × Int) → Option (List EOp)) (sg : (List EOp) × Int) : Option (List EOp) := match sg with | (out, i_2) => if (decide (i_2 < (s0.length : Int))) = true then (iter (F_ref06_Norm_l3 l s0 out i_2 rc_2) FU (0, ByteArray.empty, ByteArray.empty, false)) else (some out)

def F_ref06_Norm_l1 (l : List EOp) (rc : ((List ByteArray) × Int) → Option (List EOp)) (sg : (List ByteArray) × Int) : Option (List EOp) := match sg with | (names, i) => if (decide (i < (l.length : Int))) = true then (chk ((0 : Int) ≤ i ∧ i < (l.length : Int)) (chk (((names.length + [(l.getD (i).toNat default).key].length : Nat) : Int) * 16 ≤ 140737488355328) (chk (inI (i + 1)) (rc (names ++ [(l.getD (i).toNat default).key], i + 1))))) else ((F_ref05_Set names).bind fun s0 => (iter (F_ref06_Norm_l2 l s0) FU (([] : List EOp), 0)))

def F_ref06_Norm (l : List EOp) : Option (List EOp) := iter (F_ref06_Norm_l1 l) FU (([] : List ByteArray), 0)

set_option maxHeartbeats 1000000 in
theorem c_ref06_Norm {I D : Dm} {l : List EOp} {v1_l : Value} {w : World} {rr : List EOp} (hF : F_ref06_Norm l = some rr) (H : St I D w [SlC NEOp v1_l l]) :
  Calls Try.prog 44 #[v1_l] w (Ret fun vv w' => ∃ q1 : Value, vv = q1 ∧ ∃ I', Hf I D w I' w' [SlC NEOp q1 rr]) := by
 replace H := H.hf
 unfold F_ref06_Norm at hF
 refine f_enter 57 Try.func44 rfl rfl (Nat.le_of_ble_eq_true rfl) fun a Z => ?_
 replace Z := Z.sub (ts := [0]) rfl
 refine wp_seq (f_region Z ?_); clear Z; intro Z
 refine s_runk tMv2 Z 1 rfl rfl fun a Z => ?_
 refine s_end Z [0, 2] rfl fun Z => ?_
 refine p_then (wp_seq (f_region Z ?_)); clear Z; intro Z
 refine s_runk tMv2 Z 1 rfl rfl fun a Z => ?_
 refine s_end Z [0, 2, 3] rfl fun Z => ?_
 refine p_then (wp_seq ?_)
 refine wp_seq (f_region Z ?_); clear Z; intro Z
 refine s_runk tMv2 Z 1 rfl rfl fun a Z => ?_
 refine s_end Z [0, 2, 3, 4] rfl fun Z => ?_
 refine p_then (wp_block ?_)
 replace H := H.nilow NS 9
 refine f_iter hF (fun sg a' w' => match sg with | (names, i) => ∃ v2 : Value, Sl 57 [(0, v1_l), (2, nS), (3, v2), (4, vI i)] a' ∧ ∃ I2, Hf I D w I2 w' [SlC NEOp v1_l l, OwC NS 9 v2 names]) ⟨nS, Z.sub (ts := [0, 2, 3, 4]) rfl, ⟨I, (H.sub [(1, true), (0, false)] rfl).eq rfl⟩⟩ ?_
 rintro rc ⟨names, i⟩ a w1 ⟨v2, Z, I1, H⟩ hF
 unfold F_ref06_Norm_l1 at hF
 try dsimp only at hF
 refine wp_seq ?_
 refine wp_seq (f_region Z ?_); clear Z; intro Z
 refine s_runk tMv2 Z 2 rfl rfl fun a Z => ?_
 refine sO Z (vI (ln l)) rfl (Ob_slen tMv2 rfl rfl rfl (H.slshape 0 rfl)) fun a Z => ?_
 refine s_runk tMv2 Z 1 rfl rfl fun a Z => ?_
 refine s_end Z [0, 2, 3, 4, 9, 10, 11, 12] rfl fun Z => ?_
 refine p_then ?_
 refine f_cond Z rfl (fun hc1 => ?_) (fun hc1 => ?_)
 ·replace hF := ite_t hc1 hF
  refine wp_skip ?_
  refine p_then (wp_seq ?_)
  refine wp_block ?_
  obtain ⟨hg1, hF⟩ := chk_in hF
  obtain ⟨hg2, hF⟩ := chk_in hF
  refine f_region Z fun Z => ?_
  refine s_runk tMv2 Z 3 rfl rfl fun a Z => ?_
  refine sO Z (.pointer (some ⟨blkOf v1_l, oofOf v1_l + (i).toNat * 3, none⟩)) rfl (Ob_sidx tMv2 rfl rfl rfl rfl (slPl (H.sl 0 rfl) hg1) hg1) fun a Z => ?_
  refine s_runk tMv2 Z 1 rfl rfl fun a Z => ?_
  refine sO Z (vS ((gi l i).key)) rfl (oL tMv2 rfl rfl ((slFl (H.sl 0 rfl) hg1) 0 _ rfl)) fun a Z => ?_
  refine h_bslice Z H (vs := [(0, vS ((gi l i).key))]) (cl := [vS ((gi l i).key)]) (e := 9) rfl rfl rfl (by decide) rfl rfl (fun w => run_bslice (z := vS ByteArray.empty) (m := 1) Try.underlying99 (by kernel_rfl) rfl rfl (by decide) (by simp [Instr.fill, Value.cells]) w) fun a w2 b1 H Z => ?_
  refine h_appO Z H 2 E_99_YMv2 [(gi l i).key] rfl rfl rfl rfl rfl (by decide) rfl rfl rfl (slRep2.box1 (H.bx 0 rfl) ⟨rfl, trivial⟩) hg2 (by decide) fun v3 a w3 H Z => ?_
  dsimp only [List.eraseIdx] at H
  replace H := (H.sub [(0, false), (1, true)] rfl).nf rfl
  refine s_runk tMv2 Z 1 rfl rfl fun a Z => ?_
  refine s_end Z [0, 2, 3, 4, 9, 10, 11, 12, 15, 16, 17, 18, 19, 20, 21, 22] rfl fun Z => ?_
  refine p_blk ?_
  refine p_then ?_
  obtain ⟨hg3, hF⟩ := chk_in hF
  refine f_region Z fun Z => ?_
  refine s_runk tMv2 Z 1 rfl rfl fun a Z => ?_
  refine sO Z (vI (i + 1)) rfl (Ob_add rfl rfl rfl (wrI hg3)) fun a Z => ?_
  refine s_runk tMv2 Z 1 rfl rfl fun a Z => ?_
  refine s_end Z [0, 2, 3, 4, 9, 10, 11, 12, 15, 16, 17, 18, 19, 20, 21, 22, 13, 14] rfl fun Z => ?_
  refine p_then ?_
  exact ⟨(names ++ [(gi l i).key], i + 1), ⟨v3, Z.sub (ts := [0, 2, 3, 4]) rfl, ⟨I1, (H.sub [(1, true), (0, false)] rfl).eq rfl⟩⟩, hF⟩
 ·replace hF := ite_f hc1 hF
  refine wp_exit ?_
  refine p_then_x ?_
  refine p_then_x ?_
  refine f_exit_here ?_
  refine p_then (wp_seq ?_)
  obtain ⟨s0, hx1, hF⟩ := bnd_in hF
  refine f_region Z fun Z => ?_
  refine s_runk tMv2 Z 1 rfl rfl fun a Z => ?_
  obtain ⟨I2, _, H⟩ := H.frzow 1 rfl
  replace H := H.nf rfl; try dsimp only at H
  refine hC Z H [(0, true)] rfl #[] fn_75_YMv2 rfl rfl (fun D h => have q := c_ref05_Set hx1 h; q) fun vv a w4 D2 hr hF2 Z => ?_
  obtain ⟨q1, hvv, I3, K⟩ := hr; obtain rfl := hvv.symm
  have H := (hF2 K).nf rfl
  refine s_runk tMv2 Z 1 rfl rfl fun a Z => ?_
  refine s_end Z [0, 2, 3] rfl fun Z => ?_
  refine p_then (wp_seq (f_region Z ?_)); clear Z; intro Z
  refine s_runk tMv2 Z 1 rfl rfl fun a Z => ?_
  refine s_end Z [0, 2, 3, 5] rfl fun Z => ?_
  refine p_then (wp_seq ?_)
  refine wp_seq (f_region Z ?_); clear Z; intro Z
  refine s_runk tMv2 Z 1 rfl rfl fun a Z => ?_
  refine s_end Z [0, 2, 3, 5, 6] rfl fun Z => ?_
  refine p_then (wp_block ?_)
  replace H := H.nilow NEOp 74
  refine f_iter hF (fun sg a' w' => match sg with | (out, i_2) => ∃ v4 : Value, Sl 57 [(0, v1_l), (2, nS), (3, q1), (5, v4), (6, vI i_2)] a' ∧ ∃ I2, Hf I D w I2 w' [SlC NS q1 s0, SlC NEOp v1_l l, OwC NEOp 74 v4 out]) ⟨nS, Z.sub (ts := [0, 2, 3, 5, 6]) rfl, ⟨I3, (H.sub [(1, true), (3, true), (0, false)] rfl).eq rfl⟩⟩ ?_
  rintro rc_2 ⟨out, i_2⟩ a w5 ⟨v4, Z, I4, H⟩ hF
  unfold F_ref06_Norm_l2 at hF
  try dsimp only at hF
  refine wp_seq ?_
  refine wp_seq (f_region Z ?_); clear Z; intro Z
  refine s_runk tMv2 Z 2 rfl rfl fun a Z => ?_
  refine sO Z (vI (ln s0)) rfl (Ob_slen tMv2 rfl rfl rfl (H.slshape 0 rfl)) fun a Z => ?_
  refine s_runk tMv2 Z 1 rfl rfl fun a Z => ?_
  refine s_end Z [0, 2, 3, 5, 6, 25, 26, 27, 28] rfl fun Z => ?_
  refine p_then ?_
  refine f_cond Z rfl (fun hc2 => ?_) (fun hc2 => ?_)
  ·replace hF := ite_t hc2 hF
   refine wp_skip ?_
   refine p_then (wp_seq ?_)
   refine wp_block ?_
   refine wp_seq (f_region Z ?_); clear Z; intro Z
   refine sO Z (.agg #[vS ByteArray.empty, vS ByteArray.empty, vT false]) rfl (Ob_build (vs := []) rfl rfl (by go_simp <;> rfl)) fun a Z => ?_
   refine hA Z H [vS ByteArray.empty, vS ByteArray.empty, vT false] rfl rfl (by kernel_rfl) fun a w6 b2 H Z => ?_
   refine hT tMv2 Z H 0 rfl rfl rfl rfl rfl (onR 3 rfl one_nil) (Nat.le_of_ble_eq_true rfl) rfl fun w7 H => ?_
   dsimp only [List.eraseIdx] at H
   refine s_end Z [0, 2, 3, 5, 6, 25, 26, 27, 28, 31, 7] rfl fun Z => ?_
   refine p_then (wp_seq ?_)
   refine wp_seq (f_region Z ?_); clear Z; intro Z
   refine s_runk tMv2 Z 1 rfl rfl fun a Z => ?_
   refine s_end Z [0, 2, 3, 5, 6, 25, 26, 27, 28, 31, 7, 8] rfl fun Z => ?_
   refine p_then (wp_block ?_)
   refine f_iter hF (fun sg a' w' => match sg with | (k, last_key, last_val, last_del) => Sl 57 [(0, v1_l), (2, nS), (3, q1), (5, v4), (6, vI i_2), (7, pp b2 0), (8, vI k), (25, vI i_2), (26, q1), (27, vI (ln s0)), (28, vT (decide (i_2 < (ln s0)))), (31, .agg #[vS ByteArray.empty, vS ByteArray.empty, vT false])] a' ∧ ∃ I2, Hf I D w I2 w' [BxC b2 74 [vS last_key, vS last_val, vT last_del], SlC NS q1 s0, SlC NEOp v1_l l, OwC NEOp 74 v4 out]) ⟨Z.sub (ts := [0, 2, 3, 5, 6, 7, 8, 25, 26, 27, 28, 31]) rfl, ⟨I4, (H.sub [(0, false), (0, true), (1, true), (2, false)] rfl).eq rfl⟩⟩ ?_
   rintro rc_3 ⟨k, last_key, last_val, last_del⟩ a w8 ⟨Z, I5, H⟩ hF
   unfold F_ref06_Norm_l3 at hF
   try dsimp only at hF
   refine wp_seq ?_
   refine wp_seq (f_region Z ?_); clear Z; intro Z
   refine s_runk tMv2 Z 2 rfl rfl fun a Z => ?_
   refine sO Z (vI (ln l)) rfl (Ob_slen tMv2 rfl rfl rfl (H.slshape 2 rfl)) fun a Z => ?_
   refine s_runk tMv2 Z 1 rfl rfl fun a Z => ?_
   refine s_end Z [0, 2, 3, 5, 6, 7, 8, 25, 26, 27, 28, 31, 32, 33, 34, 35] rfl fun Z => ?_
   refine p_then ?_
   refine f_cond Z rfl (fun hc3 => ?_) (fun hc3 => ?_)
   ·replace hF := ite_t hc3 hF
    refine wp_skip ?_
    refine p_then ?_
    refine f_cut (fun a' w' => ∃ (last_key_2 : ByteArray) (last_val_2 : ByteArray) (last_del_2 : Bool), Sl 57 [(0, v1_l), (2, nS), (3, q1), (5, v4), (6, vI i_2), (7, pp b2 0), (8, vI k), (25, vI i_2), (26, q1), (27, vI (ln s0)), (28, vT (decide (i_2 < (ln s0)))), (31, .agg #[vS ByteArray.empty, vS ByteArray.empty, vT false]), (32, vI k), (33, v1_l), (34, vI (ln l)), (35, vT (decide (k < (ln l)))), (38, v1_l), (39, vI k), (40, .pointer (some ⟨blkOf v1_l, oofOf v1_l + (k).toNat * 3, none⟩)), (41, .pointer (some ⟨blkOf v1_l, oofOf v1_l + (k).toNat * 3, none⟩)), (42, vS ((gi l k).key)), (43, q1), (44, vI i_2), (45, .pointer (some ⟨blkOf q1, oofOf q1 + (i_2).toNat * 1, none⟩)), (46, vS (gi s0 i_2)), (47, vT (seqB ((gi l k).key) (gi s0 i_2)))] a' ∧ (∃ I2, Hf I D w I2 w' [BxC b2 74 [vS last_key_2, vS last_val_2, vT last_del_2], SlC NS q1 s0, SlC NEOp v1_l l, OwC NEOp 74 v4 out]) ∧ F_ref06_Norm_k4 k rc_3 last_key_2 last_val_2 last_del_2 = some rr) ?_ ?_
    ·rintro a w9 ⟨last_key_2, last_val_2, last_del_2, Z, ⟨I6, H⟩, hF⟩
     unfold F_ref06_Norm_k4 at hF
     try dsimp only at hF
     obtain ⟨hg4, hF⟩ := chk_in hF
     refine f_region Z fun Z => ?_
     refine s_runk tMv2 Z 1 rfl rfl fun a Z => ?_
     refine sO Z (vI (k + 1)) rfl (Ob_add rfl rfl rfl (wrI hg4)) fun a Z => ?_
     refine s_runk tMv2 Z 1 rfl rfl fun a Z => ?_
     refine s_end Z [0, 2, 3, 5, 6, 7, 8, 25, 26, 27, 28, 31, 32, 33, 34, 35, 38, 39, 40, 41, 42, 43, 44, 45, 46, 47, 36, 37] rfl fun Z => ?_
     refine p_then ?_
     exact ⟨(k + 1, last_key_2, last_val_2, last_del_2), ⟨Z.sub (ts := [0, 2, 3, 5, 6, 7, 8, 25, 26, 27, 28, 31]) rfl, ⟨I6, (H.sub [(0, false), (0, true), (1, true), (2, false)] rfl).eq rfl⟩⟩, hF⟩
    ·skip
     refine wp_block ?_
     refine wp_seq ?_
     obtain ⟨hg5, hF⟩ := chk_in hF
     obtain ⟨hg6, hF⟩ := chk_in hF
     refine f_quietd (by kernel_rfl) (by kernel_rfl) Z fun Z => ?_
     refine q_runk tMv2 Z 2 rfl rfl fun a Z => ?_
     refine qO Z (.pointer (some ⟨blkOf v1_l, oofOf v1_l + (k).toNat * 3, none⟩)) rfl (fun _ hw => Ob_sidx tMv2 rfl rfl rfl rfl (slPl ((H.blw hw).sl 2 rfl) hg5) hg5) fun a Z => ?_
     refine q_runk tMv2 Z 1 rfl rfl fun a Z => ?_
     refine qO Z (vS ((gi l k).key)) rfl (fun _ hw => oL tMv2 rfl rfl ((slFl ((H.blw hw).sl 2 rfl) hg5) 0 _ rfl)) fun a Z => ?_
     refine q_runk tMv2 Z 2 rfl rfl fun a Z => ?_
     refine qO Z (.pointer (some ⟨blkOf q1, oofOf q1 + (i_2).toNat * 1, none⟩)) rfl (fun _ hw => Ob_sidx tMv2 rfl rfl rfl rfl (slPl ((H.blw hw).sl 1 rfl) hg6) hg6) fun a Z => ?_
     refine qO Z (vS (gi s0 i_2)) rfl (fun _ hw => oL tMv2 rfl rfl ((slFl ((H.blw hw).sl 1 rfl) hg6) 0 _ rfl)) fun a Z => ?_
     refine q_runk tMv2 Z 1 rfl rfl fun a Z => ?_
     refine q_end Z [0, 2, 3, 5, 6, 7, 8, 25, 26, 27, 28, 31, 32, 33, 34, 35, 38, 39, 40, 41, 42, 43, 44, 45, 46, 47] rfl fun w10 hb Z => ?_
     replace H := H.blw hb
     clear hb
     refine p_then ?_
     refine f_cond Z rfl (fun hc4 => ?_) (fun hc4 => ?_)
     ·replace hF := ite_t hc4 hF
      obtain ⟨hg7, hF⟩ := chk_in hF
      refine f_region Z fun Z => ?_
      refine s_runk tMv2 Z 2 rfl rfl fun a Z => ?_
      refine sO Z (.pointer (some ⟨blkOf v1_l, oofOf v1_l + (k).toNat * 3, none⟩)) rfl (Ob_sidx tMv2 rfl rfl rfl rfl (slPl (H.sl 2 rfl) hg7) hg7) fun a Z => ?_
      refine sO Z (.agg #[vS ((gi l k).key), vS ((gi l k).val), vT ((gi l k).del)]) rfl (oA tMv2 rfl rfl ((slFl (H.sl 2 rfl) hg7).part 0 rfl)) fun a Z => ?_
      refine hT tMv2 Z H 0 rfl rfl rfl rfl rfl (onR 3 rfl one_nil) (Nat.le_of_ble_eq_true rfl) rfl fun w11 H => ?_
      dsimp only [List.eraseIdx] at H
      refine s_end Z [0, 2, 3, 5, 6, 7, 8, 25, 26, 27, 28, 31, 32, 33, 34, 35, 38, 39, 40, 41, 42, 43, 44, 45, 46, 47, 48, 49, 50, 51] rfl fun Z => ?_
      refine p_blk ?_
      refine p_then ?_
      exact ⟨(gi l k).key, (gi l k).val, (gi l k).del, Z.sub (ts := [0, 2, 3, 5, 6, 7, 8, 25, 26, 27, 28, 31, 32, 33, 34, 35, 38, 39, 40, 41, 42, 43, 44, 45, 46, 47]) rfl, ⟨I5, (H.sub [(0, false), (0, true), (1, true), (2, false)] rfl).eq rfl⟩, hF⟩
     ·replace hF := ite_f hc4 hF
      refine wp_skip ?_
      refine p_blk ?_
      refine p_then ?_
      exact ⟨last_key, last_val, last_del, Z.sub (ts := [0, 2, 3, 5, 6, 7, 8, 25, 26, 27, 28, 31, 32, 33, 34, 35, 38, 39, 40, 41, 42, 43, 44, 45, 46, 47]) rfl, ⟨I5, (H.sub [(0, false), (0, true), (1, true), (2, false)] rfl).eq rfl⟩, hF⟩
   ·replace hF := ite_f hc3 hF
    refine wp_exit ?_
    refine p_then_x ?_
    refine p_then_x ?_
    refine f_exit_here ?_
    refine p_then ?_
    obtain ⟨hg8, hF⟩ := chk_in hF
    refine f_region Z fun Z => ?_
    refine s_runk tMv2 Z 1 rfl rfl fun a Z => ?_
    refine sO Z (.agg #[vS last_key, vS last_val, vT last_del]) rfl (oA tMv2 rfl rfl ((H.bx 0 rfl).part 0 rfl)) fun a Z => ?_
    refine h_bslice Z H (vs := [(0, .agg #[vS last_key, vS last_val, vT last_del])]) (cl := [vS last_key, vS last_val, vT last_del]) (e := 74) rfl rfl rfl (by decide) rfl rfl (fun w => run_bslice (z := .agg #[vS ByteArray.empty, vS ByteArray.empty, vT false]) (m := 3) Try.underlying36 (by kernel_rfl) rfl rfl (by decide) (by simp [Instr.fill, Value.cells]) w) fun a w12 b3 H Z => ?_
    refine h_appO Z H 4 E_36_YMv2 [({ key := last_key, val := last_val, del := last_del } : EOp)] rfl rfl rfl rfl rfl (by decide) rfl rfl rfl (slRep2.box1 (H.bx 0 rfl) ⟨rfl, trivial⟩) hg8 (by decide) fun v5 a w13 H Z => ?_
    dsimp only [List.eraseIdx] at H
    replace H := (H.sub [(0, false), (1, false), (1, true), (2, true)] rfl).nf rfl
    refine s_runk tMv2 Z 1 rfl rfl fun a Z => ?_
    refine s_end Z [0, 2, 3, 5, 6, 7, 8, 25, 26, 27, 28, 31, 32, 33, 34, 35, 52, 53, 54, 55] rfl fun Z => ?_
    refine p_blk ?_
    refine p_then ?_
    obtain ⟨hg9, hF⟩ := chk_in hF
    refine f_region Z fun Z => ?_
    refine s_runk tMv2 Z 1 rfl rfl fun a Z => ?_
    refine sO Z (vI (i_2 + 1)) rfl (Ob_add rfl rfl rfl (wrI hg9)) fun a Z => ?_
    refine s_runk tMv2 Z 1 rfl rfl fun a Z => ?_
    refine s_end Z [0, 2, 3, 5, 6, 7, 8, 25, 26, 27, 28, 31, 32, 33, 34, 35, 52, 53, 54, 55, 29, 30] rfl fun Z => ?_
    refine p_then ?_
    exact ⟨(out ++ [({ key := last_key, val := last_val, del := last_del } : EOp)], i_2 + 1), ⟨v5, Z.sub (ts := [0, 2, 3, 5, 6]) rfl, ⟨I5, (H.sub [(2, true), (3, true), (0, false)] rfl).eq rfl⟩⟩, hF⟩
  ·replace hF := ite_f hc2 hF
   refine wp_exit ?_
   refine p_then_x ?_
   refine p_then_x ?_
   refine f_exit_here ?_
   refine p_then (wp_seq (f_region Z ?_)); clear Z; intro Z
   refine s_runk tMv2 Z 2 rfl rfl fun a Z => ?_
   refine s_end Z [2] rfl fun Z => ?_
   refine p_then (wp_ret ?_)
   obtain ⟨I7, _, H⟩ := H.frzow 2 rfl
   replace H := H.nf rfl; try dsimp only at H
   obtain rfl := some_in hF
   exact f_ret Z (run_results1 rfl Z rfl) ⟨v4, rfl, I7, (H.sub [(0, true)] rfl).eq rfl⟩

def F_ref06_Over_k3 (i_2 : Int) (rc_2 : ((List EPair) × Int) → Option (List EPair)) (out_2 : List EPair) : Option (List EPair) := chk (inI (i_2 + 1)) (rc_2 (out_2, i_2 + 1))

def F_ref06_Over_l2 (n0 : List EOp) (rc_2 : ((List EPair) × Int) → Option (List EPair)) (sg : (List EPair) × Int) : Option (List EPair) := match sg with | (out, i_2) => if (decide (i_2 < (n0.length : Int))) = true then (chk ((0 : Int) ≤ i_2 ∧ i_2 < (n0.length : Int)) (if (!((n0.getD (i_2).toNat default).del)) = true then (chk ((0 : Int) ≤ i_2 ∧ i_2 < (n0.length : Int)) (chk ((0 : Int) ≤ i_2 ∧ i_2 < (n0.length : Int)) (chk (((out.length + [({ key := (n0.getD (i_2).toNat default).key, val := (n0.getD (i_2).toNat default).val } : EPair)].length : Nat) : Int) * 32 ≤ 140737488355328) (F_ref06_Over_k3 i_2 rc_2 (out ++ [({ key := (n0.getD (i_2).toNat default).key, val := (n0.getD (i_2).toNat default).val } : EPair)]))))) else (F_ref06_Over_k3 i_2 rc_2 out))) else (some out)

def F_ref06_Over_l1 (l : List EPair) (m : List EOp) (rc : ((List EOp) × Int) → Option (List EPair)) (sg : (List EOp) × Int) : Option (List EPair) := match sg with | (all, i) => if (decide (i < (l.length : Int))) = true then (chk ((0 : Int) ≤ i ∧ i < (l.length : Int)) (chk ((0 : Int) ≤ i ∧ i < (l.length : Int)) (chk (((all.length + [({ key := (l.getD (i).toNat default).key, val := (l.getD (i).toNat default).val, del := false } : EOp)].length : Nat) : Int) * 40 ≤ 140737488355328) (chk (inI (i + 1)) (rc (all ++ [({ key := (l.getD (i).toNat default).key, val := (l.getD (i).toNat default).val, del := false } : EOp)], i + 1)))))) else (chk (((all.length + m.length : Nat) : Int) * 40 ≤ 140737488355328) ((F_ref06_Norm (all ++ m)).bind fun n0 => (iter (F_ref06_Over_l2 n0) FU (([] : List EPair), 0))))

def F_ref06_Over (l : List EPair) (m : List EOp) : Option (List EPair) := iter (F_ref06_Over_l1 l m) FU (([] : List EOp), 0)

set_option maxHeartbeats 1000000 in
theorem c_ref06_Over {I D : Dm} {l : List EPair} {v1_l : Value} {m : List EOp} {v2_m : Value} {w : World} {rr : List EPair} (hF : F_ref06_Over l m = some rr) (H : St I D w [SlC NEPair v1_l l, SlC NEOp v2_m m]) :
  Calls Try.prog 17 #[v1_l, v2_m] w (Ret fun vv w' => ∃ q1 : Value, vv = q1 ∧ ∃ I', Hf I D w I' w' [SlC NEPair q1 rr]) := by
 replace H := H.hf
 unfold F_ref06_Over at hF
 refine f_enter 61 Try.func17 rfl rfl (Nat.le_of_ble_eq_true rfl) fun a Z => ?_
 replace Z := Z.sub (ts := [0, 1]) rfl
 refine wp_seq (f_region Z ?_); clear Z; intro Z
 refine s_runk tMv2 Z 1 rfl rfl fun a Z => ?_
 refine s_end Z [0, 1, 4] rfl fun Z => ?_
 refine p_then (wp_seq (f_region Z ?_)); clear Z; intro Z
 refine s_runk tMv2 Z 1 rfl rfl fun a Z => ?_
 refine s_end Z [0, 1, 4, 5] rfl fun Z => ?_
 refine p_then (wp_seq ?_)
 refine wp_seq (f_region Z ?_); clear Z; intro Z
 refine s_runk tMv2 Z 1 rfl rfl fun a Z => ?_
 refine s_end Z [0, 1, 4, 5, 6] rfl fun Z => ?_
 refine p_then (wp_block ?_)
 replace H := H.nilow NEOp 74
 refine f_iter hF (fun sg a' w' => match sg with | (all, i) => ∃ v3 : Value, Sl 61 [(0, v1_l), (1, v2_m), (4, nS), (5, v3), (6, vI i)] a' ∧ ∃ I2, Hf I D w I2 w' [SlC NEPair v1_l l, SlC NEOp v2_m m, OwC NEOp 74 v3 all]) ⟨nS, Z.sub (ts := [0, 1, 4, 5, 6]) rfl, ⟨I, (H.sub [(1, true), (2, true), (0, false)] rfl).eq rfl⟩⟩ ?_
 rintro rc ⟨all, i⟩ a w1 ⟨v3, Z, I1, H⟩ hF
 unfold F_ref06_Over_l1 at hF
 try dsimp only at hF
 refine wp_seq ?_
 refine wp_seq (f_region Z ?_); clear Z; intro Z
 refine s_runk tMv2 Z 2 rfl rfl fun a Z => ?_
 refine sO Z (vI (ln l)) rfl (Ob_slen tMv2 rfl rfl rfl (H.slshape 0 rfl)) fun a Z => ?_
 refine s_runk tMv2 Z 1 rfl rfl fun a Z => ?_
 refine s_end Z [0, 1, 4, 5, 6, 9, 10, 11, 12] rfl fun Z => ?_
 refine p_then ?_
 refine f_cond Z rfl (fun hc1 => ?_) (fun hc1 => ?_)
 ·replace hF := ite_t hc1 hF
  refine wp_skip ?_
  refine p_then (wp_seq ?_)
  refine wp_block ?_
  obtain ⟨hg1, hF⟩ := chk_in hF
  obtain ⟨hg2, hF⟩ := chk_in hF
  obtain ⟨hg3, hF⟩ := chk_in hF
  refine f_regionU Z (by kernel_rfl) (by kernel_rfl) (by decide) (by decide) [12, 13] [(0, [0, 1]), (0, [0]), (0, [0]), (6, [0]), (14, [0]), (30, [0]), (0, [0]), (0, [0]), (192, [0]), (448, [0]), (960, [0]), (2046, [0]), (4094, [0]), (8191, [1]), (16383, [3])] (by kernel_rfl) (fun jj => match jj with | 14 => 13 | _ => jj) (by kernel_rfl) (fun jj rv vv => cond (Nat.blt jj 7) (cond (Nat.blt jj 3) (cond (Nat.blt jj 1) (vv = v3) (cond (Nat.blt jj 2) (vv = v1_l) (vv = vI i))) (cond (Nat.blt jj 5) (cond (Nat.blt jj 4) (vv = .pointer (some ⟨blkOf v1_l, oofOf v1_l + (i).toNat * 2, none⟩)) (vv = .pointer (some ⟨blkOf v1_l, oofOf v1_l + (i).toNat * 2, none⟩))) (cond (Nat.blt jj 6) (vv = vS ((gi l i).key)) (vv = v1_l)))) (cond (Nat.blt jj 11) (cond (Nat.blt jj 9) (cond (Nat.blt jj 8) (vv = vI i) (vv = .pointer (some ⟨blkOf v1_l, oofOf v1_l + (i).toNat * 2, none⟩))) (cond (Nat.blt jj 10) (vv = .pointer (some ⟨blkOf v1_l, oofOf v1_l + (i).toNat * 2 + 1, none⟩)) (vv = vS ((gi l i).val)))) (cond (Nat.blt jj 13) (cond (Nat.blt jj 12) (vv = .agg #[vS ((gi l i).key), vS ((gi l i).val), vT false]) (vv = .slice (some ⟨blkOf vv, 0, none⟩) 1 1)) (cond (Nat.blt jj 14) (True) (vv = rv))))) (fun ss vals1 xw => match ss with | 0 => Gx I D w I1 w1 xw [SlC NEPair v1_l l, SlC NEOp v2_m m, OwC NEOp 74 v3 all] | 1 => Gx I D w I1 w1 xw [BxC (blkOf (vals1 12)) 74 [vS ((gi l i).key), vS ((gi l i).val), vT false], SlC NEPair v1_l l, SlC NEOp v2_m m, OwC NEOp 74 v3 all] | _ => Gx I D w I1 w1 xw [OwC NEOp 74 (vals1 13) (all ++ [({ key := (gi l i).key, val := (gi l i).val, del := false } : EOp)]), SlC NEPair v1_l l, SlC NEOp v2_m m]) (fun _ => Gx.start H) ?_ ?_
  ·intro fr hfr hfe
   refine .cons (fun ss hs vals1 xw hG hV hU => ?_) ?_
   ·obtain rfl | rfl : ss = 0 ∨ ss = 1 := by simpa using hs
    all_goals
    ·rw [← hfe]
     have hS := (hfr vals1).sub (ts := [5]) rfl
     replace hS := hS.conv (t := 5) rfl (show vals1 14 = v3 from (hU 14 rfl).trans (orig_at Z rfl rfl))
     exact L_val hS rfl (Ob_c tMv2 rfl) ⟨rfl, hG⟩
   refine .cons (fun ss hs vals1 xw hG hV hU => ?_) ?_
   ·obtain rfl : ss = 0 := by simpa using hs
    rw [← hfe]
    have hS := (hfr vals1).sub (ts := [0]) rfl
    exact L_val hS rfl (Ob_c tMv2 rfl) ⟨rfl, hG⟩
   refine .cons (fun ss hs vals1 xw hG hV hU => ?_) ?_
   ·obtain rfl : ss = 0 := by simpa using hs
    rw [← hfe]
    have hS := (hfr vals1).sub (ts := [6]) rfl
    exact L_val hS rfl (Ob_c tMv2 rfl) ⟨rfl, hG⟩
   refine .cons (fun ss hs vals1 xw hG hV hU => ?_) ?_
   ·obtain rfl : ss = 0 := by simpa using hs
    rw [← hfe]
    have hS := (hfr vals1).sub (ts := [16, 17]) rfl
    replace hS := hS.conv (t := 16) rfl (show (vals1 1) = v1_l from hV 1 (by decide))
    replace hS := hS.conv (t := 17) rfl (show (vals1 2) = vI i from hV 2 (by decide))
    obtain ⟨I2, hI2, H⟩ := Gx.ex hG
    exact L_val hS rfl (Ob_sidx tMv2 rfl rfl rfl rfl (slPl (H.sl 0 rfl) hg1) hg1) ⟨rfl, hG⟩
   refine .cons (fun ss hs vals1 xw hG hV hU => ?_) ?_
   ·obtain rfl : ss = 0 := by simpa using hs
    rw [← hfe]
    have hS := (hfr vals1).sub (ts := [18]) rfl
    replace hS := hS.conv (t := 18) rfl (show (vals1 3) = .pointer (some ⟨blkOf v1_l, oofOf v1_l + (i).toNat * 2, none⟩) from hV 3 (by decide))
    exact L_val hS rfl (Ob_c tMv2 rfl) ⟨rfl, hG⟩
   refine .cons (fun ss hs vals1 xw hG hV hU => ?_) ?_
   ·obtain rfl : ss = 0 := by simpa using hs
    rw [← hfe]
    have hS := (hfr vals1).sub (ts := [19]) rfl
    replace hS := hS.conv (t := 19) rfl (show (vals1 4) = .pointer (some ⟨blkOf v1_l, oofOf v1_l + (i).toNat * 2, none⟩) from hV 4 (by decide))
    obtain ⟨I2, hI2, H⟩ := Gx.ex hG
    exact L_val hS rfl (oL tMv2 rfl rfl ((slFl (H.sl 0 rfl) hg1) 0 _ rfl)) ⟨rfl, hG⟩
   refine .cons (fun ss hs vals1 xw hG hV hU => ?_) ?_
   ·obtain rfl : ss = 0 := by simpa using hs
    rw [← hfe]
    have hS := (hfr vals1).sub (ts := [0]) rfl
    exact L_val hS rfl (Ob_c tMv2 rfl) ⟨rfl, hG⟩
   refine .cons (fun ss hs vals1 xw hG hV hU => ?_) ?_
   ·obtain rfl : ss = 0 := by simpa using hs
    rw [← hfe]
    have hS := (hfr vals1).sub (ts := [6]) rfl
    exact L_val hS rfl (Ob_c tMv2 rfl) ⟨rfl, hG⟩
   refine .cons (fun ss hs vals1 xw hG hV hU => ?_) ?_
   ·obtain rfl : ss = 0 := by simpa using hs
    rw [← hfe]
    have hS := (hfr vals1).sub (ts := [21, 22]) rfl
    replace hS := hS.conv (t := 21) rfl (show (vals1 6) = v1_l from hV 6 (by decide))
    replace hS := hS.conv (t := 22) rfl (show (vals1 7) = vI i from hV 7 (by decide))
    obtain ⟨I2, hI2, H⟩ := Gx.ex hG
    exact L_val hS rfl (Ob_sidx tMv2 rfl rfl rfl rfl (slPl (H.sl 0 rfl) hg2) hg2) ⟨rfl, hG⟩
   refine .cons (fun ss hs vals1 xw hG hV hU => ?_) ?_
   ·obtain rfl : ss = 0 := by simpa using hs
    rw [← hfe]
    have hS := (hfr vals1).sub (ts := [23]) rfl
    replace hS := hS.conv (t := 23) rfl (show (vals1 8) = .pointer (some ⟨blkOf v1_l, oofOf v1_l + (i).toNat * 2, none⟩) from hV 8 (by decide))
    exact L_val hS rfl (Ob_c tMv2 rfl) ⟨rfl, hG⟩
   refine .cons (fun ss hs vals1 xw hG hV hU => ?_) ?_
   ·obtain rfl : ss = 0 := by simpa using hs
    rw [← hfe]
    have hS := (hfr vals1).sub (ts := [24]) rfl
    replace hS := hS.conv (t := 24) rfl (show (vals1 9) = .pointer (some ⟨blkOf v1_l, oofOf v1_l + (i).toNat * 2 + 1, none⟩) from hV 9 (by decide))
    obtain ⟨I2, hI2, H⟩ := Gx.ex hG
    exact L_val hS rfl (oL tMv2 rfl rfl ((slFl (H.sl 0 rfl) hg2) 1 _ rfl)) ⟨rfl, hG⟩
   refine .cons (fun ss hs vals1 xw hG hV hU => ?_) ?_
   ·obtain rfl : ss = 0 := by simpa using hs
    rw [← hfe]
    have hS := (hfr vals1).sub (ts := [20, 25]) rfl
    replace hS := hS.conv (t := 20) rfl (show (vals1 5) = vS ((gi l i).key) from hV 5 (by decide))
    replace hS := hS.conv (t := 25) rfl (show (vals1 10) = vS ((gi l i).val) from hV 10 (by decide))
    exact L_val hS rfl (Ob_build (vs := [(0, vS ((gi l i).key)), (1, vS ((gi l i).val))]) rfl rfl (by go_simp <;> rfl)) ⟨rfl, hG⟩
   refine .cons (fun ss hs vals1 xw hG hV hU => ?_) ?_
   ·obtain rfl : ss = 0 := by simpa using hs
    rw [← hfe]
    have hS := (hfr vals1).sub (ts := [26]) rfl
    replace hS := hS.conv (t := 26) rfl (show (vals1 11) = .agg #[vS ((gi l i).key), vS ((gi l i).val), vT false] from hV 11 (by decide))
    obtain ⟨I2, hI2, H⟩ := Gx.ex hG
    exact L_bslice H (vs := [(0, .agg #[vS ((gi l i).key), vS ((gi l i).val), vT false])]) (cl := [vS ((gi l i).key), vS ((gi l i).val), vT false]) (e := 74) hS rfl rfl rfl (fun w => run_bslice (z := .agg #[vS ByteArray.empty, vS ByteArray.empty, vT false]) (m := 3) Try.underlying36 (by kernel_rfl) rfl rfl (by decide) (by simp [Instr.fill, Value.cells]) w) fun yw b hK H => ⟨rfl, Gx.go hG hI2 hK (fun _ h => h) H⟩
   refine .cons (fun ss hs vals1 xw hG hV hU => ?_) ?_
   ·obtain rfl : ss = 1 := by simpa using hs
    rw [← hfe]
    have hS := (hfr vals1).sub (ts := [15, 27]) rfl
    replace hS := hS.conv (t := 15) rfl (show (vals1 0) = v3 from hV 0 (by decide))
    replace hS := hS.conv (t := 27) rfl (show (vals1 12) = .slice (some ⟨blkOf (vals1 12), 0, none⟩) 1 1 from hV 12 (by decide))
    obtain ⟨I2, hI2, H⟩ := Gx.ex hG
    exact L_appO H 3 E_36_YMv2 [({ key := (gi l i).key, val := (gi l i).val, del := false } : EOp)] rfl rfl hS rfl rfl rfl rfl (slRep2.box1 (H.bx 0 rfl) ⟨rfl, trivial⟩) hg3 (by decide) fun v yw hK H => ⟨trivial, Gx.go hG hI2 hK (fun _ h => h) (H.sub [(0, false), (1, true), (2, true)] rfl)⟩
   refine .cons (fun ss hs vals1 xw hG hV hU => ?_) ?_
   ·obtain rfl : ss = 3 := by simpa using hs
    rw [← hfe]
    have hS := (hfr vals1).sub (ts := [28]) rfl
    exact L_val hS rfl (Ob_c tMv2 rfl) ⟨rfl, hG⟩
   exact .nil
  ·intro vals1 a w2 Z hG hV
   replace Z := Z.sub (ts := [0, 1, 4, 5, 6, 9, 10, 11, 12, 15, 16, 17, 18, 19, 20, 21, 22, 23, 24, 25, 26, 27, 28]) (S' := [(0, v1_l), (1, v2_m), (4, nS), (5, vals1 14), (6, vI i), (9, vI i), (10, v1_l), (11, vI (ln l)), (12, vT (decide (i < (ln l)))), (15, vals1 0), (16, vals1 1), (17, vals1 2), (18, vals1 3), (19, vals1 4), (20, vals1 5), (21, vals1 6), (22, vals1 7), (23, vals1 8), (24, vals1 9), (25, vals1 10), (26, vals1 11), (27, vals1 12), (28, vals1 13)]) rfl
   replace Z := Z.conv (t := 5) rfl (show (vals1 14) = (vals1 13) from hV 14 (by decide))
   replace Z := Z.conv (t := 15) rfl (show (vals1 0) = v3 from hV 0 (by decide))
   replace Z := Z.conv (t := 16) rfl (show (vals1 1) = v1_l from hV 1 (by decide))
   replace Z := Z.conv (t := 17) rfl (show (vals1 2) = vI i from hV 2 (by decide))
   replace Z := Z.conv (t := 18) rfl (show (vals1 3) = .pointer (some ⟨blkOf v1_l, oofOf v1_l + (i).toNat * 2, none⟩) from hV 3 (by decide))
   replace Z := Z.conv (t := 19) rfl (show (vals1 4) = .pointer (some ⟨blkOf v1_l, oofOf v1_l + (i).toNat * 2, none⟩) from hV 4 (by decide))
   replace Z := Z.conv (t := 20) rfl (show (vals1 5) = vS ((gi l i).key) from hV 5 (by decide))
   replace Z := Z.conv (t := 21) rfl (show (vals1 6) = v1_l from hV 6 (by decide))
   replace Z := Z.conv (t := 22) rfl (show (vals1 7) = vI i from hV 7 (by decide))
   replace Z := Z.conv (t := 23) rfl (show (vals1 8) = .pointer (some ⟨blkOf v1_l, oofOf v1_l + (i).toNat * 2, none⟩) from hV 8 (by decide))
   replace Z := Z.conv (t := 24) rfl (show (vals1 9) = .pointer (some ⟨blkOf v1_l, oofOf v1_l + (i).toNat * 2 + 1, none⟩) from hV 9 (by decide))
   replace Z := Z.conv (t := 25) rfl (show (vals1 10) = vS ((gi l i).val) from hV 10 (by decide))
   replace Z := Z.conv (t := 26) rfl (show (vals1 11) = .agg #[vS ((gi l i).key), vS ((gi l i).val), vT false] from hV 11 (by decide))
   replace Z := Z.conv (t := 27) rfl (show (vals1 12) = .slice (some ⟨blkOf (vals1 12), 0, none⟩) 1 1 from hV 12 (by decide))
   obtain ⟨I2, _, H⟩ := Gx.ex hG
   clear hG hV
   replace Z := Z.sub (ts := [0, 1, 4, 5, 6, 9, 10, 11, 12, 15, 16, 17, 18, 19, 20, 21, 22, 23, 24, 25, 26, 27, 28]) rfl
   replace H := H.nf rfl; try dsimp only at H
   refine p_blk ?_
   refine p_then ?_
   obtain ⟨hg4, hF⟩ := chk_in hF
   refine f_region Z fun Z => ?_
   refine s_runk tMv2 Z 1 rfl rfl fun a Z => ?_
   refine sO Z (vI (i + 1)) rfl (Ob_add rfl rfl rfl (wrI hg4)) fun a Z => ?_
   refine s_runk tMv2 Z 1 rfl rfl fun a Z => ?_
   refine s_end Z [0, 1, 4, 5, 6, 9, 10, 11, 12, 15, 16, 17, 18, 19, 20, 21, 22, 23, 24, 25, 26, 27, 28, 13, 14] rfl fun Z => ?_
   refine p_then ?_
   exact ⟨(all ++ [({ key := (gi l i).key, val := (gi l i).val, del := false } : EOp)], i + 1), ⟨(vals1 13), Z.sub (ts := [0, 1, 4, 5, 6]) rfl, ⟨I2, (H.sub [(1, true), (2, true), (0, false)] rfl).eq rfl⟩⟩, hF⟩
 ·replace hF := ite_f hc1 hF
  refine wp_exit ?_
  refine p_then_x ?_
  refine p_then_x ?_
  refine f_exit_here ?_
  refine p_then (wp_seq ?_)
  obtain ⟨hg5, hF⟩ := chk_in hF
  refine f_region Z fun Z => ?_
  refine s_runk tMv2 Z 2 rfl rfl fun a Z => ?_
  refine h_appO Z H 2 E_36_YMv2 m rfl rfl rfl rfl rfl (by decide) rfl rfl rfl (H.sl2 1 rfl) hg5 (by decide) fun v4 a w3 H Z => ?_
  dsimp only [List.eraseIdx] at H
  refine s_runk tMv2 Z 1 rfl rfl fun a Z => ?_
  refine s_end Z [4, 5] rfl fun Z => ?_
  refine p_then (wp_seq ?_)
  obtain ⟨n0, hx1, hF⟩ := bnd_in hF
  refine f_region Z fun Z => ?_
  refine s_runk tMv2 Z 1 rfl rfl fun a Z => ?_
  obtain ⟨I3, _, H⟩ := H.frzow 0 rfl
  replace H := H.nf rfl; try dsimp only at H
  refine hC Z H [(0, true)] rfl #[] fn_44_YMv2 rfl rfl (fun D h => have q := c_ref06_Norm hx1 h; q) fun vv a w4 D2 hr hF2 Z => ?_
  obtain ⟨q1, hvv, I4, K⟩ := hr; obtain rfl := hvv.symm
  have H := (hF2 K).nf rfl
  refine s_runk tMv2 Z 1 rfl rfl fun a Z => ?_
  refine s_end Z [4, 5] rfl fun Z => ?_
  refine p_then (wp_seq (f_region Z ?_)); clear Z; intro Z
  refine s_runk tMv2 Z 1 rfl rfl fun a Z => ?_
  refine s_end Z [4, 5, 7] rfl fun Z => ?_
  refine p_then (wp_seq ?_)
  refine wp_seq (f_region Z ?_); clear Z; intro Z
  refine s_runk tMv2 Z 1 rfl rfl fun a Z => ?_
  refine s_end Z [4, 5, 7, 8] rfl fun Z => ?_
  refine p_then (wp_block ?_)
  replace H := H.nilow NEPair 97
  replace H := H.nilow NEPair 97
  refine f_iter hF (fun sg a' w' => match sg with | (out, i_2) => ∃ v5 : Value, Sl 61 [(4, nS), (5, q1), (7, v5), (8, vI i_2)] a' ∧ ∃ I2, Hf I D w I2 w' [OwC NEPair 97 (nS) ([] : List EPair), SlC NEOp q1 n0, OwC NEPair 97 v5 out]) ⟨nS, Z.sub (ts := [4, 5, 7, 8]) rfl, ⟨I4, (H.sub [(1, false), (1, true), (0, false)] rfl).eq rfl⟩⟩ ?_
  rintro rc_2 ⟨out, i_2⟩ a w5 ⟨v5, Z, I5, H⟩ hF
  unfold F_ref06_Over_l2 at hF
  try dsimp only at hF
  refine wp_seq ?_
  refine wp_seq (f_region Z ?_); clear Z; intro Z
  refine s_runk tMv2 Z 2 rfl rfl fun a Z => ?_
  refine sO Z (vI (ln n0)) rfl (Ob_slen tMv2 rfl rfl rfl (H.slshape 1 rfl)) fun a Z => ?_
  refine s_runk tMv2 Z 1 rfl rfl fun a Z => ?_
  refine s_end Z [4, 5, 7, 8, 34, 35, 36, 37] rfl fun Z => ?_
  refine p_then ?_
  refine f_cond Z rfl (fun hc2 => ?_) (fun hc2 => ?_)
  ·replace hF := ite_t hc2 hF
   refine wp_skip ?_
   refine p_then ?_
   refine f_cut (fun a' w' => ∃ (out_2 : List EPair), ∃ v6 : Value, Sl 61 [(4, nS), (5, q1), (7, v6), (8, vI i_2), (34, vI i_2), (35, q1), (36, vI (ln n0)), (37, vT (decide (i_2 < (ln n0)))), (40, q1), (41, vI i_2), (42, .pointer (some ⟨blkOf q1, oofOf q1 + (i_2).toNat * 3, none⟩)), (43, .pointer (some ⟨blkOf q1, oofOf q1 + (i_2).toNat * 3 + 2, none⟩)), (44, vT ((gi n0 i_2).del)), (45, vT (!((gi n0 i_2).del)))] a' ∧ (∃ I2, Hf I D w I2 w' [OwC NEPair 97 (nS) ([] : List EPair), SlC NEOp q1 n0, OwC NEPair 97 v6 out_2]) ∧ F_ref06_Over_k3 i_2 rc_2 out_2 = some rr) ?_ ?_
   ·rintro a w6 ⟨out_2, v6, Z, ⟨I6, H⟩, hF⟩
    unfold F_ref06_Over_k3 at hF
    try dsimp only at hF
    obtain ⟨hg6, hF⟩ := chk_in hF
    refine f_region Z fun Z => ?_
    refine s_runk tMv2 Z 1 rfl rfl fun a Z => ?_
    refine sO Z (vI (i_2 + 1)) rfl (Ob_add rfl rfl rfl (wrI hg6)) fun a Z => ?_
    refine s_runk tMv2 Z 1 rfl rfl fun a Z => ?_
    refine s_end Z [4, 5, 7, 8, 34, 35, 36, 37, 40, 41, 42, 43, 44, 45, 38, 39] rfl fun Z => ?_
    refine p_then ?_
    exact ⟨(out_2, i_2 + 1), ⟨v6, Z.sub (ts := [4, 5, 7, 8]) rfl, ⟨I6, (H.sub [(0, false), (0, true), (1, false)] rfl).eq rfl⟩⟩, hF⟩
   ·skip
    refine wp_block ?_
    refine wp_seq ?_
    obtain ⟨hg7, hF⟩ := chk_in hF
    refine f_region Z fun Z => ?_
    refine s_runk tMv2 Z 2 rfl rfl fun a Z => ?_
    refine sO Z (.pointer (some ⟨blkOf q1, oofOf q1 + (i_2).toNat * 3, none⟩)) rfl (Ob_sidx tMv2 rfl rfl rfl rfl (slPl (H.sl 1 rfl) hg7) hg7) fun a Z => ?_
    refine s_runk tMv2 Z 1 rfl rfl fun a Z => ?_
    refine sO Z (vT ((gi n0 i_2).del)) rfl (oL tMv2 rfl rfl ((slFl (H.sl 1 rfl) hg7) 2 _ rfl)) fun a Z => ?_
    refine s_runk tMv2 Z 1 rfl rfl fun a Z => ?_
    refine s_end Z [4, 5, 7, 8, 34, 35, 36, 37, 40, 41, 42, 43, 44, 45] rfl fun Z => ?_
    refine p_then ?_
    refine f_cond Z rfl (fun hc3 => ?_) (fun hc3 => ?_)
    ·replace hF := ite_t hc3 hF
     obtain ⟨hg8, hF⟩ := chk_in hF
     obtain ⟨hg9, hF⟩ := chk_in hF
     obtain ⟨hg10, hF⟩ := chk_in hF
     refine f_regionU Z (by kernel_rfl) (by kernel_rfl) (by decide) (by decide) [12, 13] [(0, [0, 1]), (0, [0]), (0, [0]), (6, [0]), (14, [0]), (30, [0]), (0, [0]), (0, [0]), (192, [0]), (448, [0]), (960, [0]), (2046, [0]), (4094, [0]), (8191, [1]), (16383, [3])] (by kernel_rfl) (fun jj => match jj with | 14 => 13 | _ => jj) (by kernel_rfl) (fun jj rv vv => cond (Nat.blt jj 7) (cond (Nat.blt jj 3) (cond (Nat.blt jj 1) (vv = v5) (cond (Nat.blt jj 2) (vv = q1) (vv = vI i_2))) (cond (Nat.blt jj 5) (cond (Nat.blt jj 4) (vv = .pointer (some ⟨blkOf q1, oofOf q1 + (i_2).toNat * 3, none⟩)) (vv = .pointer (some ⟨blkOf q1, oofOf q1 + (i_2).toNat * 3, none⟩))) (cond (Nat.blt jj 6) (vv = vS ((gi n0 i_2).key)) (vv = q1)))) (cond (Nat.blt jj 11) (cond (Nat.blt jj 9) (cond (Nat.blt jj 8) (vv = vI i_2) (vv = .pointer (some ⟨blkOf q1, oofOf q1 + (i_2).toNat * 3, none⟩))) (cond (Nat.blt jj 10) (vv = .pointer (some ⟨blkOf q1, oofOf q1 + (i_2).toNat * 3 + 1, none⟩)) (vv = vS ((gi n0 i_2).val)))) (cond (Nat.blt jj 13) (cond (Nat.blt jj 12) (vv = .agg #[vS ((gi n0 i_2).key), vS ((gi n0 i_2).val)]) (vv = .slice (some ⟨blkOf vv, 0, none⟩) 1 1)) (cond (Nat.blt jj 14) (True) (vv = rv))))) (fun ss vals2 xw => match ss with | 0 => Gx I D w I5 w5 xw [OwC NEPair 97 (nS) ([] : List EPair), SlC NEOp q1 n0, OwC NEPair 97 v5 out] | 1 => Gx I D w I5 w5 xw [BxC (blkOf (vals2 12)) 97 [vS ((gi n0 i_2).key), vS ((gi n0 i_2).val)], OwC NEPair 97 (nS) ([] : List EPair), SlC NEOp q1 n0, OwC NEPair 97 v5 out] | _ => Gx I D w I5 w5 xw [OwC NEPair 97 (vals2 13) (out ++ [({ key := (gi n0 i_2).key, val := (gi n0 i_2).val } : EPair)]), OwC NEPair 97 (nS) ([] : List EPair), SlC NEOp q1 n0]) (fun _ => Gx.start H) ?_ ?_
     ·intro fr hfr hfe
      refine .cons (fun ss hs vals2 xw hG hV hU => ?_) ?_
      ·obtain rfl | rfl : ss = 0 ∨ ss = 1 := by simpa using hs
       all_goals
       ·rw [← hfe]
        have hS := (hfr vals2).sub (ts := [7]) rfl
        replace hS := hS.conv (t := 7) rfl (show vals2 14 = v5 from (hU 14 rfl).trans (orig_at Z rfl rfl))
        exact L_val hS rfl (Ob_c tMv2 rfl) ⟨rfl, hG⟩
      refine .cons (fun ss hs vals2 xw hG hV hU => ?_) ?_
      ·obtain rfl : ss = 0 := by simpa using hs
       rw [← hfe]
       have hS := (hfr vals2).sub (ts := [5]) rfl
       exact L_val hS rfl (Ob_c tMv2 rfl) ⟨rfl, hG⟩
      refine .cons (fun ss hs vals2 xw hG hV hU => ?_) ?_
      ·obtain rfl : ss = 0 := by simpa using hs
       rw [← hfe]
       have hS := (hfr vals2).sub (ts := [8]) rfl
       exact L_val hS rfl (Ob_c tMv2 rfl) ⟨rfl, hG⟩
      refine .cons (fun ss hs vals2 xw hG hV hU => ?_) ?_
      ·obtain rfl : ss = 0 := by simpa using hs
       rw [← hfe]
       have hS := (hfr vals2).sub (ts := [47, 48]) rfl
       replace hS := hS.conv (t := 47) rfl (show (vals2 1) = q1 from hV 1 (by decide))
       replace hS := hS.conv (t := 48) rfl (show (vals2 2) = vI i_2 from hV 2 (by decide))
       obtain ⟨I2, hI2, H⟩ := Gx.ex hG
       exact L_val hS rfl (Ob_sidx tMv2 rfl rfl rfl rfl (slPl (H.sl 1 rfl) hg8) hg8) ⟨rfl, hG⟩
      refine .cons (fun ss hs vals2 xw hG hV hU => ?_) ?_
      ·obtain rfl : ss = 0 := by simpa using hs
       rw [← hfe]
       have hS := (hfr vals2).sub (ts := [49]) rfl
       replace hS := hS.conv (t := 49) rfl (show (vals2 3) = .pointer (some ⟨blkOf q1, oofOf q1 + (i_2).toNat * 3, none⟩) from hV 3 (by decide))
       exact L_val hS rfl (Ob_c tMv2 rfl) ⟨rfl, hG⟩
      refine .cons (fun ss hs vals2 xw hG hV hU => ?_) ?_
      ·obtain rfl : ss = 0 := by simpa using hs
       rw [← hfe]
       have hS := (hfr vals2).sub (ts := [50]) rfl
       replace hS := hS.conv (t := 50) rfl (show (vals2 4) = .pointer (some ⟨blkOf q1, oofOf q1 + (i_2).toNat * 3, none⟩) from hV 4 (by decide))
       obtain ⟨I2, hI2, H⟩ := Gx.ex hG
       exact L_val hS rfl (oL tMv2 rfl rfl ((slFl (H.sl 1 rfl) hg8) 0 _ rfl)) ⟨rfl, hG⟩
      refine .cons (fun ss hs vals2 xw hG hV hU => ?_) ?_
      ·obtain rfl : ss = 0 := by simpa using hs
       rw [← hfe]
       have hS := (hfr vals2).sub (ts := [5]) rfl
       exact L_val hS rfl (Ob_c tMv2 rfl) ⟨rfl, hG⟩
      refine .cons (fun ss hs vals2 xw hG hV hU => ?_) ?_
      ·obtain rfl : ss = 0 := by simpa using hs
       rw [← hfe]
       have hS := (hfr vals2).sub (ts := [8]) rfl
       exact L_val hS rfl (Ob_c tMv2 rfl) ⟨rfl, hG⟩
      refine .cons (fun ss hs vals2 xw hG hV hU => ?_) ?_
      ·obtain rfl : ss = 0 := by simpa using hs
       rw [← hfe]
       have hS := (hfr vals2).sub (ts := [52, 53]) rfl
       replace hS := hS.conv (t := 52) rfl (show (vals2 6) = q1 from hV 6 (by decide))
       replace hS := hS.conv (t := 53) rfl (show (vals2 7) = vI i_2 from hV 7 (by decide))
       obtain ⟨I2, hI2, H⟩ := Gx.ex hG
       exact L_val hS rfl (Ob_sidx tMv2 rfl rfl rfl rfl (slPl (H.sl 1 rfl) hg9) hg9) ⟨rfl, hG⟩
      refine .cons (fun ss hs vals2 xw hG hV hU => ?_) ?_
      ·obtain rfl : ss = 0 := by simpa using hs
       rw [← hfe]
       have hS := (hfr vals2).sub (ts := [54]) rfl
       replace hS := hS.conv (t := 54) rfl (show (vals2 8) = .pointer (some ⟨blkOf q1, oofOf q1 + (i_2).toNat * 3, none⟩) from hV 8 (by decide))
       exact L_val hS rfl (Ob_c tMv2 rfl) ⟨rfl, hG⟩
      refine .cons (fun ss hs vals2 xw hG hV hU => ?_) ?_
      ·obtain rfl : ss = 0 := by simpa using hs
       rw [← hfe]
       have hS := (hfr vals2).sub (ts := [55]) rfl
       replace hS := hS.conv (t := 55) rfl (show (vals2 9) = .pointer (some ⟨blkOf q1, oofOf q1 + (i_2).toNat * 3 + 1, none⟩) from hV 9 (by decide))
       obtain ⟨I2, hI2, H⟩ := Gx.ex hG
       exact L_val hS rfl (oL tMv2 rfl rfl ((slFl (H.sl 1 rfl) hg9) 1 _ rfl)) ⟨rfl, hG⟩
      refine .cons (fun ss hs vals2 xw hG hV hU => ?_) ?_
      ·obtain rfl : ss = 0 := by simpa using hs
       rw [← hfe]
       have hS := (hfr vals2).sub (ts := [51, 56]) rfl
       replace hS := hS.conv (t := 51) rfl (show (vals2 5) = vS ((gi n0 i_2).key) from hV 5 (by decide))
       replace hS := hS.conv (t := 56) rfl (show (vals2 10) = vS ((gi n0 i_2).val) from hV 10 (by decide))
       exact L_val hS rfl (Ob_build (vs := [(0, vS ((gi n0 i_2).key)), (1, vS ((gi n0 i_2).val))]) rfl rfl (by go_simp <;> rfl)) ⟨rfl, hG⟩
      refine .cons (fun ss hs vals2 xw hG hV hU => ?_) ?_
      ·obtain rfl : ss = 0 := by simpa using hs
       rw [← hfe]
       have hS := (hfr vals2).sub (ts := [57]) rfl
       replace hS := hS.conv (t := 57) rfl (show (vals2 11) = .agg #[vS ((gi n0 i_2).key), vS ((gi n0 i_2).val)] from hV 11 (by decide))
       obtain ⟨I2, hI2, H⟩ := Gx.ex hG
       exact L_bslice H (vs := [(0, .agg #[vS ((gi n0 i_2).key), vS ((gi n0 i_2).val)])]) (cl := [vS ((gi n0 i_2).key), vS ((gi n0 i_2).val)]) (e := 97) hS rfl rfl rfl (fun w => run_bslice (z := .agg #[vS ByteArray.empty, vS ByteArray.empty]) (m := 2) Try.underlying58 (by kernel_rfl) rfl rfl (by decide) (by simp [Instr.fill, Value.cells]) w) fun yw b hK H => ⟨rfl, Gx.go hG hI2 hK (fun _ h => h) H⟩
      refine .cons (fun ss hs vals2 xw hG hV hU => ?_) ?_
      ·obtain rfl : ss = 1 := by simpa using hs
       rw [← hfe]
       have hS := (hfr vals2).sub (ts := [46, 58]) rfl
       replace hS := hS.conv (t := 46) rfl (show (vals2 0) = v5 from hV 0 (by decide))
       replace hS := hS.conv (t := 58) rfl (show (vals2 12) = .slice (some ⟨blkOf (vals2 12), 0, none⟩) 1 1 from hV 12 (by decide))
       obtain ⟨I2, hI2, H⟩ := Gx.ex hG
       exact L_appO H 3 E_58_YMv2 [({ key := (gi n0 i_2).key, val := (gi n0 i_2).val } : EPair)] rfl rfl hS rfl rfl rfl rfl (slRep2.box1 (H.bx 0 rfl) ⟨rfl, trivial⟩) hg10 (by decide) fun v yw hK H => ⟨trivial, Gx.go hG hI2 hK (fun _ h => h) (H.sub [(0, false), (1, false), (1, true)] rfl)⟩
      refine .cons (fun ss hs vals2 xw hG hV hU => ?_) ?_
      ·obtain rfl : ss = 3 := by simpa using hs
       rw [← hfe]
       have hS := (hfr vals2).sub (ts := [59]) rfl
       exact L_val hS rfl (Ob_c tMv2 rfl) ⟨rfl, hG⟩
      exact .nil
     ·intro vals2 a w7 Z hG hV
      replace Z := Z.sub (ts := [4, 5, 7, 8, 34, 35, 36, 37, 40, 41, 42, 43, 44, 45, 46, 47, 48, 49, 50, 51, 52, 53, 54, 55, 56, 57, 58, 59]) (S' := [(4, nS), (5, q1), (7, vals2 14), (8, vI i_2), (34, vI i_2), (35, q1), (36, vI (ln n0)), (37, vT (decide (i_2 < (ln n0)))), (40, q1), (41, vI i_2), (42, .pointer (some ⟨blkOf q1, oofOf q1 + (i_2).toNat * 3, none⟩)), (43, .pointer (some ⟨blkOf q1, oofOf q1 + (i_2).toNat * 3 + 2, none⟩)), (44, vT ((gi n0 i_2).del)), (45, vT (!((gi n0 i_2).del))), (46, vals2 0), (47, vals2 1), (48, vals2 2), (49, vals2 3), (50, vals2 4), (51, vals2 5), (52, vals2 6), (53, vals2 7), (54, vals2 8), (55, vals2 9), (56, vals2 10), (57, vals2 11), (58, vals2 12), (59, vals2 13)]) rfl
      replace Z := Z.conv (t := 7) rfl (show (vals2 14) = (vals2 13) from hV 14 (by decide))
      replace Z := Z.conv (t := 46) rfl (show (vals2 0) = v5 from hV 0 (by decide))
      replace Z := Z.conv (t := 47) rfl (show (vals2 1) = q1 from hV 1 (by decide))
      replace Z := Z.conv (t := 48) rfl (show (vals2 2) = vI i_2 from hV 2 (by decide))
      replace Z := Z.conv (t := 49) rfl (show (vals2 3) = .pointer (some ⟨blkOf q1, oofOf q1 + (i_2).toNat * 3, none⟩) from hV 3 (by decide))
      replace Z := Z.conv (t := 50) rfl (show (vals2 4) = .pointer (some ⟨blkOf q1, oofOf q1 + (i_2).toNat * 3, none⟩) from hV 4 (by decide))
      replace Z := Z.conv (t := 51) rfl (show (vals2 5) = vS ((gi n0 i_2).key) from hV 5 (by decide))
      replace Z := Z.conv (t := 52) rfl (show (vals2 6) = q1 from hV 6 (by decide))
      replace Z := Z.conv (t := 53) rfl (show (vals2 7) = vI i_2 from hV 7 (by decide))
      replace Z := Z.conv (t := 54) rfl (show (vals2 8) = .pointer (some ⟨blkOf q1, oofOf q1 + (i_2).toNat * 3, none⟩) from hV 8 (by decide))
      replace Z := Z.conv (t := 55) rfl (show (vals2 9) = .pointer (some ⟨blkOf q1, oofOf q1 + (i_2).toNat * 3 + 1, none⟩) from hV 9 (by decide))
      replace Z := Z.conv (t := 56) rfl (show (vals2 10) = vS ((gi n0 i_2).val) from hV 10 (by decide))
      replace Z := Z.conv (t := 57) rfl (show (vals2 11) = .agg #[vS ((gi n0 i_2).key), vS ((gi n0 i_2).val)] from hV 11 (by decide))
      replace Z := Z.conv (t := 58) rfl (show (vals2 12) = .slice (some ⟨blkOf (vals2 12), 0, none⟩) 1 1 from hV 12 (by decide))
      obtain ⟨I7, _, H⟩ := Gx.ex hG
      clear hG hV
      replace Z := Z.sub (ts := [4, 5, 7, 8, 34, 35, 36, 37, 40, 41, 42, 43, 44, 45, 46, 47, 48, 49, 50, 51, 52, 53, 54, 55, 56, 57, 58, 59]) rfl
      replace H := H.nf rfl; try dsimp only at H
      refine p_blk ?_
      refine p_then ?_
      exact ⟨out ++ [({ key := (gi n0 i_2).key, val := (gi n0 i_2).val } : EPair)], (vals2 13), Z.sub (ts := [4, 5, 7, 8, 34, 35, 36, 37, 40, 41, 42, 43, 44, 45]) rfl, ⟨I7, (H.sub [(1, false), (1, true), (0, false)] rfl).eq rfl⟩, hF⟩
    ·replace hF := ite_f hc3 hF
     refine wp_skip ?_
     refine p_blk ?_
     refine p_then ?_
     exact ⟨out, v5, Z.sub (ts := [4, 5, 7, 8, 34, 35, 36, 37, 40, 41, 42, 43, 44, 45]) rfl, ⟨I5, (H.sub [(0, false), (0, true), (1, false)] rfl).eq rfl⟩, hF⟩
  ·replace hF := ite_f hc2 hF
   refine wp_exit ?_
   refine p_then_x ?_
   refine p_then_x ?_
   refine f_exit_here ?_
   refine p_then (wp_seq (f_region Z ?_)); clear Z; intro Z
   refine s_runk tMv2 Z 2 rfl rfl fun a Z => ?_
   refine s_end Z [4] rfl fun Z => ?_
   refine p_then (wp_ret ?_)
   obtain ⟨I8, _, H⟩ := H.frzow 2 rfl
   replace H := H.nf rfl; try dsimp only at H
   obtain rfl := some_in hF
   exact f_ret Z (run_results1 rfl Z rfl) ⟨v5, rfl, I8, (H.sub [(0, true)] rfl).eq rfl⟩

end Go.Proofs.Ytglfajjcgbfehaa
