/- Many versions: the document's store. -/
import Derived.Test.YtaknkbbjimielaaYMv1
import Derived.Test.YtaknkbbjimielaaYRv
namespace Go.Proofs.Ytaknkbbjimielaa
open Go.RowKit
structure Eref16_Row where
 k : ByteArray
 l : List ECell

instance : Inhabited Eref16_Row := ⟨⟨ByteArray.empty, []⟩⟩

def cEref16_Row (x : Eref16_Row) (v0 : Value) : List Value := [.string x.k, v0]

def NEref16_Row : Rp Eref16_Row where
 n := 2
 rep A w cs x := ∃ v0 : Value, cs = cEref16_Row x v0 ∧ slRep NECell A w v0 x.l
 len := fun ⟨v0, h, _⟩ => by rw [h]; rfl
 one := fun ⟨v0, h, s0⟩ c hc => by
  rw [h] at hc
  simp only [cEref16_Row, List.mem_cons, List.not_mem_nil, or_false] at hc
  rcases hc with rfl | rfl
  ·rfl
  ·exact s0.one
 mono := fun ⟨v0, h, s0⟩ hA hk => ⟨v0, h, s0.mono hA hk⟩
 bound := fun ⟨v0, h, s0⟩ => ⟨v0, h, s0.bound⟩

theorem NEref16_Row.dft (A : Dm) (w : World) : ∃ cl, NEref16_Row.rep A w cl default := ⟨_, .slice none 0 0, rfl, slRep.nil _ _ _ _ _ (Nat.zero_le _)⟩

structure Eref16_Store where
 l : List Eref16_Row
 last : Int

instance : Inhabited Eref16_Store := ⟨⟨[], 0⟩⟩

def cEref16_Store (x : Eref16_Store) (v0 : Value) : List Value := [v0, .int .u64 x.last]

def OEref16_Store (b : Nat) (x : Eref16_Store) : Ch := ExC fun (p : Value) => [BxC b 59 (cEref16_Store x p), OwC NEref16_Row 118 p x.l]

def tMv2L : TabL := ⟨[(32768, 0), (32769, 1), (32770, 2), (60416, 0), (60417, 1), (70656, 0), (70657, 1), (70658, 2), (98304, 0), (98305, 1), (98306, 2), (120832, 0), (120833, 1)], [9], [], [(30, (69, 3)), (35, (81, 2)), (57, (118, 2)), (90, (96, 3))], [(3, (1, false)), (4, (1, false)), (9, (1, false)), (23, (1, false)), (30, (1, false)), (32, (3, true)), (57, (1, false)), (69, (3, true)), (81, (2, true)), (90, (1, false)), (96, (3, true))]⟩

def tMv2 : Tab Try.prog := ⟨tMv2L, by kernel_rfl⟩

theorem fn_47_YMv2 : IsFn Try.prog 47 := ⟨_, Try.func47, by kernel_rfl, by kernel_rfl⟩

theorem fn_48_YMv2 : IsFn Try.prog 48 := ⟨_, Try.func48, by kernel_rfl, by kernel_rfl⟩

theorem fn_67_YMv2 : IsFn Try.prog 67 := ⟨_, Try.func67, by kernel_rfl, by kernel_rfl⟩

theorem E_57_YMv2 : Elem Try.prog 57 118 2 40 := ⟨Try.underlying57, by
 have h : (Try.prog.info? 118).map (fun i => (i.zero, i.size, i.bytes)) = some (some (.agg #[.string ByteArray.empty, .slice none 0 0]), 2, 40) := by kernel_rfl
 obtain ⟨i, hi, h1⟩ := Option.map_eq_some_iff.1 h
 simp only [Prod.mk.injEq] at h1
 exact ⟨i, _, hi, h1.1, h1.2.1, h1.2.2, by rfl⟩, by decide⟩

theorem E_90_YMv2 : Elem Try.prog 90 96 3 32 := ⟨Try.underlying90, by
 have h : (Try.prog.info? 96).map (fun i => (i.zero, i.size, i.bytes)) = some (some (.agg #[.int .u64 0, .string ByteArray.empty, .bool false]), 3, 32) := by kernel_rfl
 obtain ⟨i, hi, h1⟩ := Option.map_eq_some_iff.1 h
 simp only [Prod.mk.injEq] at h1
 exact ⟨i, _, hi, h1.1, h1.2.1, h1.2.2, by rfl⟩, by decide⟩

theorem neq_EPair (x y : EPair) (w : World) : (binOp .neq 81 (.agg (cEPair x).toArray) (.agg (cEPair y).toArray)).run Try.prog w = .ok (.bool (!eqEPair x y)) w := by
 have h1 := run_equalIn_struct (P := Try.prog) w 9999 81 (cEPair x).toArray (cEPair y).toArray (by rw [fieldsOf_of Try.underlying81]; exact Try.underlying81) (by kernel_rfl)
 rw [run_neq_struct, h1, fieldsOf_of Try.underlying81]
 simp [Op.eqFields, part, isAgg, cEPair, beqS, eqEPair, seqB_eq, run_underlying Try.underlying9, run_equalIn_string w 9998 9 _ _ Try.underlying9]
 try ((repeat' split) <;> simp_all)

theorem eqg_EPair (op : BinOp) (x y : Operand) (a b : Array Value) (w : World) : (eqGuard op 81 x y (.agg a) (.agg b)).run Try.prog w = .ok () w := run_eqGuard_agg (by kernel_rfl) op x y a b w

def F_ref16_Store_lay_k2 (s0 : Eref16_Store) (c : ECell) (i : Int) (s_l : List Eref16_Row) : Option Eref16_Store := chk ((0 : Int) ≤ i ∧ i < (s_l.length : Int)) (chk (((([] : List ECell).length + ((s_l.getD (i).toNat default).l).length : Nat) : Int) * 32 ≤ 140737488355328) (chk ((((([] : List ECell) ++ ((s_l.getD (i).toNat default).l)).length + [c].length : Nat) : Int) * 32 ≤ 140737488355328) (chk ((0 : Int) ≤ i ∧ i < (s_l.length : Int)) (some ({ s0 with l := s_l.set (i).toNat ({ (s_l.getD (i).toNat default) with l := (([] : List ECell) ++ ((s_l.getD (i).toNat default).l)) ++ [c] } : Eref16_Row) } : Eref16_Store)))))

def F_ref16_Store_lay_l1 (s0 : Eref16_Store) (k : ByteArray) (c : ECell) (rc : Int → Option Eref16_Store) (sg : Int) : Option Eref16_Store := match sg with | i => chk ((decide (i < (s0.l.length : Int))) = true → (0 : Int) ≤ i ∧ i < (s0.l.length : Int)) (if ((decide (i < (s0.l.length : Int))) && (sltB ((s0.l.getD (i).toNat default).k) k)) = true then (chk (inI (i + 1)) (rc (i + 1))) else (chk ((!(i == (s0.l.length : Int))) = true → (0 : Int) ≤ i ∧ i < (s0.l.length : Int)) (if ((i == (s0.l.length : Int)) || (!seqB ((s0.l.getD (i).toNat default).k) k)) = true then (chk ((0 : Int) ≤ i ∧ i ≤ (s0.l.length : Int)) (chk (((([] : List Eref16_Row).length + (s0.l.take ((i).toNat)).length : Nat) : Int) * 40 ≤ 140737488355328) (chk (((([] ++ (s0.l.take ((i).toNat))).length + [({ k := k, l := ([] : List ECell) } : Eref16_Row)].length : Nat) : Int) * 40 ≤ 140737488355328) (chk ((0 : Int) ≤ i ∧ i ≤ (s0.l.length : Int)) (chk ((((([] ++ (s0.l.take ((i).toNat))) ++ [({ k := k, l := ([] : List ECell) } : Eref16_Row)]).length + (s0.l.drop ((i).toNat)).length : Nat) : Int) * 40 ≤ 140737488355328) (F_ref16_Store_lay_k2 s0 c i ((([] ++ (s0.l.take ((i).toNat))) ++ [({ k := k, l := ([] : List ECell) } : Eref16_Row)]) ++ (s0.l.drop ((i).toNat))))))))) else (F_ref16_Store_lay_k2 s0 c i s0.l))))

def F_ref16_Store_lay (s0 : Eref16_Store) (k : ByteArray) (c : ECell) : Option Eref16_Store := iter (F_ref16_Store_lay_l1 s0 k c) FU 0

set_option maxHeartbeats 1000000 in
theorem c_ref16_Store_lay {I D : Dm} {b_s0 : Nat} {s0 : Eref16_Store} {k : ByteArray} {c : ECell} {w : World} {rr : Eref16_Store} (hF : F_ref16_Store_lay s0 k c = some rr) (H : St I D w [OEref16_Store b_s0 s0]) :
  Calls Try.prog 48 #[pp b_s0 0, vS k, .agg #[vU c.ts, vS c.val, vT c.del]] w (Ret fun vv w' => vv = .tuple #[] ∧ ∃ I', Hf I D w I' w' [OEref16_Store b_s0 rr]) := by
 replace H := H.hf
 unfold F_ref16_Store_lay at hF
 refine f_enter 94 Try.func48 rfl rfl (Nat.le_of_ble_eq_true rfl) fun a Z => ?_
 replace Z := Z.sub (ts := [0, 1, 2]) rfl
 refine wp_seq (f_region Z ?_); clear Z; intro Z
 refine hB Z H [vU c.ts, vS c.val, vT c.del] rfl rfl rfl rfl fun a w1 b1 H Z => ?_
 refine s_end Z [0, 1, 5] rfl fun Z => ?_
 refine p_then (wp_seq (f_region Z ?_)); clear Z; intro Z
 refine s_runk tMv2 Z 1 rfl rfl fun a Z => ?_
 refine s_end Z [0, 1, 5, 6] rfl fun Z => ?_
 refine p_then (wp_seq ?_)
 refine wp_block ?_
 refine f_iter hF (fun sg a' w' => match sg with | i => Sl 94 [(0, pp b_s0 0), (1, vS k), (5, pp b1 0), (6, vI i)] a' ∧ ∃ I2, Hf I D w I2 w' [OEref16_Store b_s0 s0, BxC b1 96 [vU c.ts, vS c.val, vT c.del]]) ⟨Z.sub (ts := [0, 1, 5, 6]) rfl, ⟨I, (H.sub [(1, false), (0, false)] rfl).eq rfl⟩⟩ ?_
 rintro rc i a w2 ⟨Z, I1, H⟩ hF
 unfold F_ref16_Store_lay_l1 at hF
 try dsimp only at hF
 refine wp_seq ?_
 refine wp_seq ?_
 obtain ⟨hg1, hF⟩ := chk_in hF
 refine f_region Z fun Z => ?_
 refine s_runk tMv2 Z 4 rfl rfl fun a Z => ?_
 obtain ⟨v1, H⟩ := H.openX 0 rfl
 replace H := H.nf rfl; try dsimp only at H
 refine sO Z _ rfl (oL tMv2 rfl rfl (H.bc 0 0 rfl rfl)) fun a Z => ?_
 refine sO Z (vI (ln s0.l)) rfl (Ob_slen tMv2 rfl rfl rfl (H.owshape 1 rfl)) fun a Z => ?_
 refine s_runk tMv2 Z 2 rfl rfl fun a Z => ?_
 refine gO Z (pp b_s0 0) rfl (wantB_t _) (.n 0 rfl .z) (fun hp => Ob_c tMv2 rfl) fun a Z => ?_
 refine gO Z (pp b_s0 0) rfl (wantB_t _) (.c 17 rfl id .z) (fun hp => Ob_c tMv2 rfl) fun a Z => ?_
 refine gO Z (pp b_s0 0) rfl (wantB_t _) (.c 18 rfl id .z) (fun hp => Ob_c tMv2 rfl) fun a Z => ?_
 refine gO Z _ rfl (wantB_t _) (.c 19 rfl id .z) (fun hp => oL tMv2 rfl rfl (H.bc 0 0 rfl rfl)) fun a Z => ?_
 refine gO Z (vI i) rfl (wantB_t _) (.n 6 rfl .z) (fun hp => Ob_c tMv2 rfl) fun a Z => ?_
 refine gO Z (.pointer (some ⟨blkOf v1, oofOf v1 + (i).toNat * 2, none⟩)) rfl (wantB_t _) (.c 20 rfl id (.c 21 rfl id .z)) (fun hp => Ob_sidx tMv2 rfl rfl rfl rfl (slPl (H.owA 1 rfl) (hg1 hp)) (hg1 hp)) fun a Z => ?_
 refine gO Z (.pointer (some ⟨blkOf v1, oofOf v1 + (i).toNat * 2, none⟩)) rfl (wantB_t _) (.c 22 rfl id .z) (fun hp => Ob_c tMv2 rfl) fun a Z => ?_
 obtain ⟨_, ⟨u1, rfl, L1⟩, hat1⟩ := H.owElG 1 rfl (i) (NEref16_Row.dft _ _)
 replace H : Hf I D w I1 w2 [SlC NECell u1 ((gi s0.l i).l), BxC b_s0 59 [v1, vU s0.last], OwC NEref16_Row 118 v1 s0.l, BxC b1 96 [vU c.ts, vS c.val, vT c.del]] := H.addsl L1
 refine gO Z (vS ((gi s0.l i).k)) rfl (wantB_t _) (.c 23 rfl id .z) (fun hp => oL tMv2 rfl rfl ((hat1 (hg1 hp)) 0 _ rfl)) fun a Z => ?_
 refine gO Z (vS k) rfl (wantB_t _) (.n 1 rfl .z) (fun hp => Ob_c tMv2 rfl) fun a Z => ?_
 refine gO Z (vT (sltB ((gi s0.l i).k) k)) rfl (wantB_t _) (.c 24 rfl id (.c 25 rfl id .z)) (fun hp => Ob_c tMv2 rfl) fun a Z => ?_
 refine sO Z (vT ((decide (i < (ln s0.l))) && (sltB ((gi s0.l i).k) k))) rfl (Ob_pick rfl rfl rfl rfl (pick_and _ _)) fun a Z => ?_
 refine s_end Z [0, 1, 5, 6, 9, 10, 11, 12, 13, 14, 15, 16, 27] rfl fun Z => ?_
 refine p_then ?_
 refine f_cond Z rfl (fun hc1 => ?_) (fun hc1 => ?_)
 ·replace hF := ite_t hc1 hF
  refine wp_skip ?_
  refine p_then (wp_block ?_)
  obtain ⟨hg2, hF⟩ := chk_in hF
  refine f_region Z fun Z => ?_
  refine s_runk tMv2 Z 1 rfl rfl fun a Z => ?_
  refine sO Z (vI (i + 1)) rfl (Ob_add rfl rfl rfl (wrI hg2)) fun a Z => ?_
  refine s_runk tMv2 Z 1 rfl rfl fun a Z => ?_
  refine s_end Z [0, 1, 5, 6, 9, 10, 11, 12, 13, 14, 15, 16, 27, 28, 29] rfl fun Z => ?_
  refine p_blk ?_
  refine p_then ?_
  replace H := H.sX (OEref16_Store b_s0 s0) (v1) [(1, false), (1, false)] rfl rfl rfl
  exact ⟨(i + 1), ⟨Z.sub (ts := [0, 1, 5, 6]) rfl, ⟨I1, (H.sub [(0, false), (1, false)] rfl).eq rfl⟩⟩, hF⟩
 ·replace hF := ite_f hc1 hF
  refine wp_exit ?_
  refine p_then_x ?_
  refine p_then_x ?_
  refine f_exit_here ?_
  refine p_then ?_
  refine f_cut (fun a' w' => ∃ (s_l : List Eref16_Row), ∃ v2 : Value, Sl 94 [(0, pp b_s0 0), (5, pp b1 0), (6, vI i)] a' ∧ (∃ I2, Hf I D w I2 w' [BxC b_s0 59 [v2, vU s0.last], BxC b1 96 [vU c.ts, vS c.val, vT c.del], OwC NEref16_Row 118 v2 s_l]) ∧ F_ref16_Store_lay_k2 s0 c i s_l = some rr) ?_ ?_
  ·rintro a w3 ⟨s_l, v2, Z, ⟨I2, H⟩, hF⟩
   unfold F_ref16_Store_lay_k2 at hF
   try dsimp only at hF
   refine wp_seq ?_
   obtain ⟨css1, hl1, H⟩ := H.rwOpen 2 rfl
   replace H := H.nf rfl; try dsimp only at H
   obtain ⟨_, ⟨u2, rfl, L2⟩, hcs1⟩ := H.rwG 0 rfl (i) (NEref16_Row.dft _ _)
   replace H : Hf I D w I2 w3 [SlC NECell u2 ((gi s_l i).l), RpsC NEref16_Row css1 s_l, OwC (Rraw 2) 118 v2 css1, BxC b_s0 59 [v2, vU s0.last], BxC b1 96 [vU c.ts, vS c.val, vT c.del]] := H.addsl L2
   obtain ⟨hg3, hF⟩ := chk_in hF
   obtain ⟨hg4, hF⟩ := chk_in hF
   obtain ⟨hg5, hF⟩ := chk_in hF
   refine f_regionG Z (by kernel_rfl) (by kernel_rfl) (by decide) (by decide) [0, 9, 11, 12] [(0, [0, 4]), (0, [0, 1, 4, 5]), (2, [0, 1, 4, 5]), (6, [0, 1, 4, 5]), (14, [0, 1, 4, 5]), (0, [0, 1, 4, 5]), (62, [0, 1, 4, 5]), (126, [0, 1, 4, 5]), (254, [0, 1, 4, 5]), (511, [1, 5]), (0, [0, 1, 3]), (1024, [0, 1, 3]), (4095, [7]), (8191, [15])] (by kernel_rfl) (fun jj => match jj with | 13 => 12 | _ => jj) (by kernel_rfl) (fun jj rv vv => cond (Nat.blt jj 7) (cond (Nat.blt jj 3) (cond (Nat.blt jj 1) (vv = .slice (some ⟨blkOf vv, 0, none⟩) 0 0) (cond (Nat.blt jj 2) (vv = pp b_s0 0) (vv = pp b_s0 0))) (cond (Nat.blt jj 5) (cond (Nat.blt jj 4) (vv = pp b_s0 0) (vv = v2)) (cond (Nat.blt jj 6) (vv = vI i) (vv = .pointer (some ⟨blkOf v2, oofOf v2 + (i).toNat * 2, none⟩))))) (cond (Nat.blt jj 10) (cond (Nat.blt jj 8) (vv = .pointer (some ⟨blkOf v2, oofOf v2 + (i).toNat * 2 + 1, none⟩)) (cond (Nat.blt jj 9) (vv = u2) (True))) (cond (Nat.blt jj 12) (cond (Nat.blt jj 11) (vv = .agg #[vU c.ts, vS c.val, vT c.del]) (vv = .slice (some ⟨blkOf vv, 0, none⟩) 1 1)) (cond (Nat.blt jj 13) (True) (vv = rv))))) (fun ss vals1 xw => match ss with | 0 => Gx I D w I2 w3 xw [SlC NECell u2 ((gi s_l i).l), RpsC NEref16_Row css1 s_l, OwC (Rraw 2) 118 v2 css1, BxC b_s0 59 [v2, vU s0.last], BxC b1 96 [vU c.ts, vS c.val, vT c.del]] | 1 => Gx I D w I2 w3 xw [BxC (blkOf (vals1 0)) 96 [], SlC NECell u2 ((gi s_l i).l), RpsC NEref16_Row css1 s_l, OwC (Rraw 2) 118 v2 css1, BxC b_s0 59 [v2, vU s0.last], BxC b1 96 [vU c.ts, vS c.val, vT c.del]] | 3 => Gx I D w I2 w3 xw [OwC NECell 96 (vals1 9) (([] : List ECell) ++ ((gi s_l i).l)), SlC NECell u2 ((gi s_l i).l), RpsC NEref16_Row css1 s_l, OwC (Rraw 2) 118 v2 css1, BxC b_s0 59 [v2, vU s0.last], BxC b1 96 [vU c.ts, vS c.val, vT c.del]] | 4 => Gx I D w I2 w3 xw [BxC (blkOf (vals1 11)) 96 [vU c.ts, vS c.val, vT c.del], SlC NECell u2 ((gi s_l i).l), RpsC NEref16_Row css1 s_l, OwC (Rraw 2) 118 v2 css1, BxC b_s0 59 [v2, vU s0.last], BxC b1 96 [vU c.ts, vS c.val, vT c.del]] | 5 => Gx I D w I2 w3 xw [BxC (blkOf (vals1 11)) 96 [vU c.ts, vS c.val, vT c.del], BxC (blkOf (vals1 0)) 96 [], SlC NECell u2 ((gi s_l i).l), RpsC NEref16_Row css1 s_l, OwC (Rraw 2) 118 v2 css1, BxC b_s0 59 [v2, vU s0.last], BxC b1 96 [vU c.ts, vS c.val, vT c.del]] | 7 => Gx I D w I2 w3 xw [BxC (blkOf (vals1 11)) 96 [vU c.ts, vS c.val, vT c.del], OwC NECell 96 (vals1 9) (([] : List ECell) ++ ((gi s_l i).l)), SlC NECell u2 ((gi s_l i).l), RpsC NEref16_Row css1 s_l, OwC (Rraw 2) 118 v2 css1, BxC b_s0 59 [v2, vU s0.last], BxC b1 96 [vU c.ts, vS c.val, vT c.del]] | _ => Gx I D w I2 w3 xw [OwC NECell 96 (vals1 12) ((([] : List ECell) ++ ((gi s_l i).l)) ++ [c]), SlC NECell u2 ((gi s_l i).l), RpsC NEref16_Row css1 s_l, OwC (Rraw 2) 118 v2 css1, BxC b_s0 59 [v2, vU s0.last], BxC b1 96 [vU c.ts, vS c.val, vT c.del]]) (fun _ => Gx.start H) ?_ ?_
   ·intro fr hfr hfe
    refine .cons (fun ss hs vals1 xw hG hV => ?_) ?_
    ·obtain rfl | rfl : ss = 0 ∨ ss = 4 := by simpa using hs
     ·rw [← hfe]
      have hS := (hfr vals1).sub (ts := []) rfl
      obtain ⟨I2, hI2, H⟩ := Gx.ex hG
      exact L_bslice H (vs := []) (cl := []) (e := 96) hS rfl rfl rfl (fun w => run_bslice (z := .agg #[vU 0, vS ByteArray.empty, vT false]) (m := 3) Try.underlying90 (by kernel_rfl) rfl rfl (by decide) (by simp [Instr.fill, Value.cells]) w) fun yw b hK H => ⟨rfl, Gx.go hG hI2 hK (fun _ h => h) H⟩
     ·rw [← hfe]
      have hS := (hfr vals1).sub (ts := []) rfl
      obtain ⟨I2, hI2, H⟩ := Gx.ex hG
      exact L_bslice H (vs := []) (cl := []) (e := 96) hS rfl rfl rfl (fun w => run_bslice (z := .agg #[vU 0, vS ByteArray.empty, vT false]) (m := 3) Try.underlying90 (by kernel_rfl) rfl rfl (by decide) (by simp [Instr.fill, Value.cells]) w) fun yw b hK H => ⟨rfl, Gx.go hG hI2 hK (fun _ h => h) (Hf.sub H [(1, false), (0, false), (0, true), (1, true), (2, false), (2, false), (2, false)] rfl)⟩
    refine .cons (fun ss hs vals1 xw hG hV => ?_) ?_
    ·obtain rfl | rfl | rfl | rfl : ss = 0 ∨ ss = 1 ∨ ss = 4 ∨ ss = 5 := by simpa using hs
     all_goals
     ·rw [← hfe]
      have hS := (hfr vals1).sub (ts := [0]) rfl
      exact L_val hS rfl (Ob_c tMv2 rfl) ⟨rfl, hG⟩
    refine .cons (fun ss hs vals1 xw hG hV => ?_) ?_
    ·obtain rfl | rfl | rfl | rfl : ss = 0 ∨ ss = 1 ∨ ss = 4 ∨ ss = 5 := by simpa using hs
     all_goals
     ·rw [← hfe]
      have hS := (hfr vals1).sub (ts := [74]) rfl
      replace hS := hS.conv (t := 74) rfl (show (vals1 1) = pp b_s0 0 from hV 1 (by decide))
      exact L_val hS rfl (Ob_c tMv2 rfl) ⟨rfl, hG⟩
    refine .cons (fun ss hs vals1 xw hG hV => ?_) ?_
    ·obtain rfl | rfl | rfl | rfl : ss = 0 ∨ ss = 1 ∨ ss = 4 ∨ ss = 5 := by simpa using hs
     all_goals
     ·rw [← hfe]
      have hS := (hfr vals1).sub (ts := [75]) rfl
      replace hS := hS.conv (t := 75) rfl (show (vals1 2) = pp b_s0 0 from hV 2 (by decide))
      exact L_val hS rfl (Ob_c tMv2 rfl) ⟨rfl, hG⟩
    refine .cons (fun ss hs vals1 xw hG hV => ?_) ?_
    ·obtain rfl | rfl | rfl | rfl : ss = 0 ∨ ss = 1 ∨ ss = 4 ∨ ss = 5 := by simpa using hs
     ·rw [← hfe]
      have hS := (hfr vals1).sub (ts := [76]) rfl
      replace hS := hS.conv (t := 76) rfl (show (vals1 3) = pp b_s0 0 from hV 3 (by decide))
      obtain ⟨I2, hI2, H⟩ := Gx.ex hG
      exact L_val hS rfl (oL tMv2 rfl rfl (H.bc 3 0 rfl rfl)) ⟨rfl, hG⟩
     ·rw [← hfe]
      have hS := (hfr vals1).sub (ts := [76]) rfl
      replace hS := hS.conv (t := 76) rfl (show (vals1 3) = pp b_s0 0 from hV 3 (by decide))
      obtain ⟨I2, hI2, H⟩ := Gx.ex hG
      exact L_val hS rfl (oL tMv2 rfl rfl (H.bc 4 0 rfl rfl)) ⟨rfl, hG⟩
     ·rw [← hfe]
      have hS := (hfr vals1).sub (ts := [76]) rfl
      replace hS := hS.conv (t := 76) rfl (show (vals1 3) = pp b_s0 0 from hV 3 (by decide))
      obtain ⟨I2, hI2, H⟩ := Gx.ex hG
      exact L_val hS rfl (oL tMv2 rfl rfl (H.bc 4 0 rfl rfl)) ⟨rfl, hG⟩
     ·rw [← hfe]
      have hS := (hfr vals1).sub (ts := [76]) rfl
      replace hS := hS.conv (t := 76) rfl (show (vals1 3) = pp b_s0 0 from hV 3 (by decide))
      obtain ⟨I2, hI2, H⟩ := Gx.ex hG
      exact L_val hS rfl (oL tMv2 rfl rfl (H.bc 5 0 rfl rfl)) ⟨rfl, hG⟩
    refine .cons (fun ss hs vals1 xw hG hV => ?_) ?_
    ·obtain rfl | rfl | rfl | rfl : ss = 0 ∨ ss = 1 ∨ ss = 4 ∨ ss = 5 := by simpa using hs
     all_goals
     ·rw [← hfe]
      have hS := (hfr vals1).sub (ts := [6]) rfl
      exact L_val hS rfl (Ob_c tMv2 rfl) ⟨rfl, hG⟩
    refine .cons (fun ss hs vals1 xw hG hV => ?_) ?_
    ·obtain rfl | rfl | rfl | rfl : ss = 0 ∨ ss = 1 ∨ ss = 4 ∨ ss = 5 := by simpa using hs
     ·rw [← hfe]
      have hS := (hfr vals1).sub (ts := [77, 78]) rfl
      replace hS := hS.conv (t := 77) rfl (show (vals1 4) = v2 from hV 4 (by decide))
      replace hS := hS.conv (t := 78) rfl (show (vals1 5) = vI i from hV 5 (by decide))
      obtain ⟨I2, hI2, H⟩ := Gx.ex hG
      exact L_val hS rfl (Ob_sidx tMv2 rfl rfl rfl rfl (slPl (H.rwA 2 1 rfl rfl rfl) hg3) hg3) ⟨rfl, hG⟩
     ·rw [← hfe]
      have hS := (hfr vals1).sub (ts := [77, 78]) rfl
      replace hS := hS.conv (t := 77) rfl (show (vals1 4) = v2 from hV 4 (by decide))
      replace hS := hS.conv (t := 78) rfl (show (vals1 5) = vI i from hV 5 (by decide))
      obtain ⟨I2, hI2, H⟩ := Gx.ex hG
      exact L_val hS rfl (Ob_sidx tMv2 rfl rfl rfl rfl (slPl (H.rwA 3 2 rfl rfl rfl) hg3) hg3) ⟨rfl, hG⟩
     ·rw [← hfe]
      have hS := (hfr vals1).sub (ts := [77, 78]) rfl
      replace hS := hS.conv (t := 77) rfl (show (vals1 4) = v2 from hV 4 (by decide))
      replace hS := hS.conv (t := 78) rfl (show (vals1 5) = vI i from hV 5 (by decide))
      obtain ⟨I2, hI2, H⟩ := Gx.ex hG
      exact L_val hS rfl (Ob_sidx tMv2 rfl rfl rfl rfl (slPl (H.rwA 3 2 rfl rfl rfl) hg3) hg3) ⟨rfl, hG⟩
     ·rw [← hfe]
      have hS := (hfr vals1).sub (ts := [77, 78]) rfl
      replace hS := hS.conv (t := 77) rfl (show (vals1 4) = v2 from hV 4 (by decide))
      replace hS := hS.conv (t := 78) rfl (show (vals1 5) = vI i from hV 5 (by decide))
      obtain ⟨I2, hI2, H⟩ := Gx.ex hG
      exact L_val hS rfl (Ob_sidx tMv2 rfl rfl rfl rfl (slPl (H.rwA 4 3 rfl rfl rfl) hg3) hg3) ⟨rfl, hG⟩
    refine .cons (fun ss hs vals1 xw hG hV => ?_) ?_
    ·obtain rfl | rfl | rfl | rfl : ss = 0 ∨ ss = 1 ∨ ss = 4 ∨ ss = 5 := by simpa using hs
     all_goals
     ·rw [← hfe]
      have hS := (hfr vals1).sub (ts := [79]) rfl
      replace hS := hS.conv (t := 79) rfl (show (vals1 6) = .pointer (some ⟨blkOf v2, oofOf v2 + (i).toNat * 2, none⟩) from hV 6 (by decide))
      exact L_val hS rfl (Ob_c tMv2 rfl) ⟨rfl, hG⟩
    refine .cons (fun ss hs vals1 xw hG hV => ?_) ?_
    ·obtain rfl | rfl | rfl | rfl : ss = 0 ∨ ss = 1 ∨ ss = 4 ∨ ss = 5 := by simpa using hs
     ·rw [← hfe]
      have hS := (hfr vals1).sub (ts := [80]) rfl
      replace hS := hS.conv (t := 80) rfl (show (vals1 7) = .pointer (some ⟨blkOf v2, oofOf v2 + (i).toNat * 2 + 1, none⟩) from hV 7 (by decide))
      obtain ⟨I2, hI2, H⟩ := Gx.ex hG
      exact L_val hS rfl (oL tMv2 rfl rfl ((H.rwAt 2 rfl hl1 hg3 (hcs1 hg3)) 1 _ rfl)) ⟨rfl, hG⟩
     ·rw [← hfe]
      have hS := (hfr vals1).sub (ts := [80]) rfl
      replace hS := hS.conv (t := 80) rfl (show (vals1 7) = .pointer (some ⟨blkOf v2, oofOf v2 + (i).toNat * 2 + 1, none⟩) from hV 7 (by decide))
      obtain ⟨I2, hI2, H⟩ := Gx.ex hG
      exact L_val hS rfl (oL tMv2 rfl rfl ((H.rwAt 3 rfl hl1 hg3 (hcs1 hg3)) 1 _ rfl)) ⟨rfl, hG⟩
     ·rw [← hfe]
      have hS := (hfr vals1).sub (ts := [80]) rfl
      replace hS := hS.conv (t := 80) rfl (show (vals1 7) = .pointer (some ⟨blkOf v2, oofOf v2 + (i).toNat * 2 + 1, none⟩) from hV 7 (by decide))
      obtain ⟨I2, hI2, H⟩ := Gx.ex hG
      exact L_val hS rfl (oL tMv2 rfl rfl ((H.rwAt 3 rfl hl1 hg3 (hcs1 hg3)) 1 _ rfl)) ⟨rfl, hG⟩
     ·rw [← hfe]
      have hS := (hfr vals1).sub (ts := [80]) rfl
      replace hS := hS.conv (t := 80) rfl (show (vals1 7) = .pointer (some ⟨blkOf v2, oofOf v2 + (i).toNat * 2 + 1, none⟩) from hV 7 (by decide))
      obtain ⟨I2, hI2, H⟩ := Gx.ex hG
      exact L_val hS rfl (oL tMv2 rfl rfl ((H.rwAt 4 rfl hl1 hg3 (hcs1 hg3)) 1 _ rfl)) ⟨rfl, hG⟩
    refine .cons (fun ss hs vals1 xw hG hV => ?_) ?_
    ·obtain rfl | rfl : ss = 1 ∨ ss = 5 := by simpa using hs
     ·rw [← hfe]
      have hS := (hfr vals1).sub (ts := [73, 81]) rfl
      replace hS := hS.conv (t := 73) rfl (show (vals1 0) = .slice (some ⟨blkOf (vals1 0), 0, none⟩) 0 0 from hV 0 (by decide))
      replace hS := hS.conv (t := 81) rfl (show (vals1 8) = u2 from hV 8 (by decide))
      obtain ⟨I2, hI2, H⟩ := Gx.ex hG
      replace H := H.emptyow 0 rfl NECell
      exact L_appO H 0 E_90_YMv2 ((gi s_l i).l) rfl rfl hS rfl rfl rfl rfl (H.sl2 1 rfl) hg4 (by decide) fun v yw hK H => ⟨trivial, Gx.go hG hI2 hK (fun _ h => h) H⟩
     ·rw [← hfe]
      have hS := (hfr vals1).sub (ts := [73, 81]) rfl
      replace hS := hS.conv (t := 73) rfl (show (vals1 0) = .slice (some ⟨blkOf (vals1 0), 0, none⟩) 0 0 from hV 0 (by decide))
      replace hS := hS.conv (t := 81) rfl (show (vals1 8) = u2 from hV 8 (by decide))
      obtain ⟨I2, hI2, H⟩ := Gx.ex hG
      replace H := H.emptyow 1 rfl NECell
      exact L_appO H 0 E_90_YMv2 ((gi s_l i).l) rfl rfl hS rfl rfl rfl rfl (H.sl2 2 rfl) hg4 (by decide) fun v yw hK H => ⟨trivial, Gx.go hG hI2 hK (fun _ h => h) (Hf.sub H [(1, false), (0, false), (0, true), (1, true), (2, false), (2, false), (2, false)] rfl)⟩
    refine .cons (fun ss hs vals1 xw hG hV => ?_) ?_
    ·obtain rfl | rfl | rfl : ss = 0 ∨ ss = 1 ∨ ss = 3 := by simpa using hs
     ·rw [← hfe]
      have hS := (hfr vals1).sub (ts := [5]) rfl
      obtain ⟨I2, hI2, H⟩ := Gx.ex hG
      exact L_val hS rfl (oA tMv2 rfl rfl ((H.bx 4 rfl).part 0 rfl)) ⟨rfl, hG⟩
     ·rw [← hfe]
      have hS := (hfr vals1).sub (ts := [5]) rfl
      obtain ⟨I2, hI2, H⟩ := Gx.ex hG
      exact L_val hS rfl (oA tMv2 rfl rfl ((H.bx 5 rfl).part 0 rfl)) ⟨rfl, hG⟩
     ·rw [← hfe]
      have hS := (hfr vals1).sub (ts := [5]) rfl
      obtain ⟨I2, hI2, H⟩ := Gx.ex hG
      exact L_val hS rfl (oA tMv2 rfl rfl ((H.bx 5 rfl).part 0 rfl)) ⟨rfl, hG⟩
    refine .cons (fun ss hs vals1 xw hG hV => ?_) ?_
    ·obtain rfl | rfl | rfl : ss = 0 ∨ ss = 1 ∨ ss = 3 := by simpa using hs
     all_goals
     ·rw [← hfe]
      have hS := (hfr vals1).sub (ts := [83]) rfl
      replace hS := hS.conv (t := 83) rfl (show (vals1 10) = .agg #[vU c.ts, vS c.val, vT c.del] from hV 10 (by decide))
      obtain ⟨I2, hI2, H⟩ := Gx.ex hG
      exact L_bslice H (vs := [(0, .agg #[vU c.ts, vS c.val, vT c.del])]) (cl := [vU c.ts, vS c.val, vT c.del]) (e := 96) hS rfl rfl rfl (fun w => run_bslice (z := .agg #[vU 0, vS ByteArray.empty, vT false]) (m := 3) Try.underlying90 (by kernel_rfl) rfl rfl (by decide) (by simp [Instr.fill, Value.cells]) w) fun yw b hK H => ⟨rfl, Gx.go hG hI2 hK (fun _ h => h) H⟩
    refine .cons (fun ss hs vals1 xw hG hV => ?_) ?_
    ·obtain rfl : ss = 7 := by simpa using hs
     rw [← hfe]
     have hS := (hfr vals1).sub (ts := [82, 84]) rfl
     replace hS := hS.conv (t := 84) rfl (show (vals1 11) = .slice (some ⟨blkOf (vals1 11), 0, none⟩) 1 1 from hV 11 (by decide))
     obtain ⟨I2, hI2, H⟩ := Gx.ex hG
     exact L_appO H 1 E_90_YMv2 [c] rfl rfl hS rfl rfl rfl rfl (slRep2.box1 (H.bx 0 rfl) ⟨rfl, trivial⟩) hg5 (by decide) fun v yw hK H => ⟨trivial, Gx.go hG hI2 hK (fun _ h => h) (H.sub [(0, false), (1, true), (2, true), (3, false), (3, false), (3, false)] rfl)⟩
    refine .cons (fun ss hs vals1 xw hG hV => ?_) ?_
    ·obtain rfl : ss = 15 := by simpa using hs
     rw [← hfe]
     have hS := (hfr vals1).sub (ts := [85]) rfl
     exact L_val hS rfl (Ob_c tMv2 rfl) ⟨rfl, hG⟩
    exact .nil
   ·intro vals1 a w4 Z hG hV
    replace Z := Z.sub (ts := [0, 6, 8]) (S' := [(0, pp b_s0 0), (6, vI i), (8, vals1 13)]) rfl
    replace Z := Z.conv (t := 8) rfl (show (vals1 13) = (vals1 12) from hV 13 (by decide))
    obtain ⟨I3, _, H⟩ := Gx.ex hG
    clear hG hV
    replace Z := Z.sub (ts := [0, 6, 8]) rfl
    replace H := H.nf rfl; try dsimp only at H
    replace H : Hf I D w I3 w4 [OwC NEref16_Row 118 v2 s_l, OwC NECell 96 (vals1 12) ((([] : List ECell) ++ ((gi s_l i).l)) ++ [c]), SlC NECell u2 ((gi s_l i).l), BxC b_s0 59 [v2, vU s0.last], BxC b1 96 [vU c.ts, vS c.val, vT c.del]] := (H.rwShut 3 2 rfl rfl rfl).erase 3 rfl
    refine p_then ?_
    obtain ⟨hg6, hF⟩ := chk_in hF
    refine f_region Z fun Z => ?_
    refine s_runk tMv2 Z 3 rfl rfl fun a Z => ?_
    refine sO Z _ rfl (oL tMv2 rfl rfl (H.bc 3 0 rfl rfl)) fun a Z => ?_
    refine s_runk tMv2 Z 2 rfl rfl fun a Z => ?_
    refine sO Z (.pointer (some ⟨blkOf v2, oofOf v2 + (i).toNat * 2, none⟩)) rfl (Ob_sidx tMv2 rfl rfl rfl rfl (slPl (H.owA 0 rfl) hg6) hg6) fun a Z => ?_
    refine s_runk tMv2 Z 1 rfl rfl fun a Z => ?_
    obtain ⟨I4, _, H⟩ := H.frzow 1 rfl
    replace H := H.nf rfl; try dsimp only at H
    refine h_setR tMv2 Z H 1 (z := i) (d := default) 1 ({ (gi s_l i) with l := (([] : List ECell) ++ ((gi s_l i).l)) ++ [c] } : Eref16_Row) rfl hg6 rfl rfl rfl 2 rfl rfl (slS.one (H.slshape 0 rfl)) rfl rfl (by decide) (fun cl ⟨s0_, e, h0_⟩ => ⟨(vals1 12), by rw [e]; rfl, (H.sl 0 rfl)⟩) fun w6 H => ?_
    dsimp only [List.eraseIdx] at H
    refine s_end Z [] rfl fun Z => ?_
    replace H := H.sX (OEref16_Store b_s0 ({ s0 with l := s_l.set (i).toNat ({ (gi s_l i) with l := (([] : List ECell) ++ ((gi s_l i).l)) ++ [c] } : Eref16_Row) } : Eref16_Store)) (v2) [(3, false), (0, false)] rfl rfl rfl
    obtain rfl := some_in hF
    exact f_fall Z (run_results0 rfl) ⟨rfl, I4, (H.sub [(0, false)] rfl).eq rfl⟩
  ·skip
   refine wp_seq ?_
   obtain ⟨hg7, hF⟩ := chk_in hF
   refine f_region Z fun Z => ?_
   refine s_runk tMv2 Z 4 rfl rfl fun a Z => ?_
   refine sO Z _ rfl (oL tMv2 rfl rfl (H.bc 1 0 rfl rfl)) fun a Z => ?_
   refine sO Z (vI (ln s0.l)) rfl (Ob_slen tMv2 rfl rfl rfl (H.owshape 2 rfl)) fun a Z => ?_
   refine s_runk tMv2 Z 2 rfl rfl fun a Z => ?_
   refine gO Z (pp b_s0 0) rfl (wantB_f _) (.n 0 rfl .z) (fun hp => Ob_c tMv2 rfl) fun a Z => ?_
   refine gO Z (pp b_s0 0) rfl (wantB_f _) (.c 38 rfl id .z) (fun hp => Ob_c tMv2 rfl) fun a Z => ?_
   refine gO Z (pp b_s0 0) rfl (wantB_f _) (.c 39 rfl id .z) (fun hp => Ob_c tMv2 rfl) fun a Z => ?_
   refine gO Z _ rfl (wantB_f _) (.c 40 rfl id .z) (fun hp => oL tMv2 rfl rfl (H.bc 1 0 rfl rfl)) fun a Z => ?_
   refine gO Z (vI i) rfl (wantB_f _) (.n 6 rfl .z) (fun hp => Ob_c tMv2 rfl) fun a Z => ?_
   refine gO Z (.pointer (some ⟨blkOf v1, oofOf v1 + (i).toNat * 2, none⟩)) rfl (wantB_f _) (.c 41 rfl id (.c 42 rfl id .z)) (fun hp => Ob_sidx tMv2 rfl rfl rfl rfl (slPl (H.owA 2 rfl) (hg7 hp)) (hg7 hp)) fun a Z => ?_
   refine gO Z (.pointer (some ⟨blkOf v1, oofOf v1 + (i).toNat * 2, none⟩)) rfl (wantB_f _) (.c 43 rfl id .z) (fun hp => Ob_c tMv2 rfl) fun a Z => ?_
   obtain ⟨_, ⟨u3, rfl, L3⟩, hat2⟩ := H.owElG 2 rfl (i) (NEref16_Row.dft _ _)
   replace H : Hf I D w I1 w2 [SlC NECell u3 ((gi s0.l i).l), SlC NECell u1 ((gi s0.l i).l), BxC b_s0 59 [v1, vU s0.last], OwC NEref16_Row 118 v1 s0.l, BxC b1 96 [vU c.ts, vS c.val, vT c.del]] := H.addsl L3
   refine gO Z (vS ((gi s0.l i).k)) rfl (wantB_f _) (.c 44 rfl id .z) (fun hp => oL tMv2 rfl rfl ((hat2 (hg7 hp)) 0 _ rfl)) fun a Z => ?_
   refine gO Z (vS k) rfl (wantB_f _) (.n 1 rfl .z) (fun hp => Ob_c tMv2 rfl) fun a Z => ?_
   refine gO Z (vT (!seqB ((gi s0.l i).k) k)) rfl (wantB_f _) (.c 45 rfl id (.c 46 rfl id .z)) (fun hp => Ob_c tMv2 rfl) fun a Z => ?_
   refine sO Z (vT ((i == (ln s0.l)) || (!seqB ((gi s0.l i).k) k))) rfl (Ob_pick rfl rfl rfl rfl (pick_or _ _)) fun a Z => ?_
   refine s_end Z [0, 1, 5, 6, 48] rfl fun Z => ?_
   refine p_then ?_
   refine f_cond Z rfl (fun hc2 => ?_) (fun hc2 => ?_)
   ·replace hF := ite_t hc2 hF
    refine wp_seq ?_
    obtain ⟨hg8, hF⟩ := chk_in hF
    obtain ⟨hg9, hF⟩ := chk_in hF
    obtain ⟨hg10, hF⟩ := chk_in hF
    refine f_region Z fun Z => ?_
    refine h_bslice Z H (vs := []) (cl := []) (e := 118) rfl rfl rfl (by decide) rfl rfl (fun w => run_bslice (z := .agg #[vS ByteArray.empty, nS]) (m := 2) Try.underlying57 (by kernel_rfl) rfl rfl (by decide) (by simp [Instr.fill, Value.cells]) w) fun a w7 b2 H Z => ?_
    refine s_runk tMv2 Z 3 rfl rfl fun a Z => ?_
    refine sO Z _ rfl (oL tMv2 rfl rfl (H.bc 3 0 rfl rfl)) fun a Z => ?_
    refine s_runk tMv2 Z 1 rfl rfl fun a Z => ?_
    refine sO Z (subV v1 0 ((i).toNat) 2) rfl (Ob_sub_to tMv2 rfl rfl rfl rfl (H.owshape 4 rfl) hg8) fun a Z => ?_
    replace H : Hf I D w I1 w7 [OwC NEref16_Row 118 (.slice (some ⟨b2, 0, none⟩) 0 0) [], SlC NECell u3 ((gi s0.l i).l), SlC NECell u1 ((gi s0.l i).l), BxC b_s0 59 [v1, vU s0.last], OwC NEref16_Row 118 v1 s0.l, BxC b1 96 [vU c.ts, vS c.val, vT c.del]] := H.emptyow 0 rfl NEref16_Row
    refine h_appO Z H 0 E_57_YMv2 (s0.l.take ((i).toNat)) rfl rfl rfl rfl rfl (by decide) rfl rfl rfl ((H.ow2 4 rfl).part_to hg8 2 rfl) hg9 (by decide) fun v3 a w8 H Z => ?_
    dsimp only [List.eraseIdx] at H
    refine s_runk tMv2 Z 1 rfl rfl fun a Z => ?_
    refine sO Z (.agg #[vS k, nS]) rfl (Ob_build (vs := [(0, vS k)]) rfl rfl (by go_simp <;> rfl)) fun a Z => ?_
    refine h_bslice Z H (vs := [(0, .agg #[vS k, nS])]) (cl := [vS k, nS]) (e := 118) rfl rfl rfl (by decide) rfl rfl (fun w => run_bslice (z := .agg #[vS ByteArray.empty, nS]) (m := 2) Try.underlying57 (by kernel_rfl) rfl rfl (by decide) (by simp [Instr.fill, Value.cells]) w) fun a w9 b3 H Z => ?_
    replace H := H.slNil NECell
    refine h_appO Z H 2 E_57_YMv2 [({ k := k, l := ([] : List ECell) } : Eref16_Row)] rfl rfl rfl rfl rfl (by decide) rfl rfl rfl (slRep2.box1 (H.bx 1 rfl) ⟨_, rfl, (H.sl 0 rfl)⟩) hg10 (by decide) fun v4 a w10 H Z => ?_
    dsimp only [List.eraseIdx] at H
    replace H := (H.sub [(0, false), (0, true), (2, true), (3, true), (4, false), (4, false), (4, false)] rfl).nf rfl
    refine s_runk tMv2 Z 1 rfl rfl fun a Z => ?_
    refine s_end Z [0, 5, 6, 7] rfl fun Z => ?_
    refine p_then (wp_seq ?_)
    obtain ⟨hg11, hF⟩ := chk_in hF
    obtain ⟨hg12, hF⟩ := chk_in hF
    refine f_region Z fun Z => ?_
    refine s_runk tMv2 Z 4 rfl rfl fun a Z => ?_
    refine sO Z _ rfl (oL tMv2 rfl rfl (H.bc 4 0 rfl rfl)) fun a Z => ?_
    refine s_runk tMv2 Z 1 rfl rfl fun a Z => ?_
    refine sO Z (subV v1 ((i).toNat) s0.l.length 2) rfl (Ob_sub_from tMv2 rfl rfl rfl rfl (H.owshape 5 rfl) hg11) fun a Z => ?_
    refine h_appO Z H 0 E_57_YMv2 (s0.l.drop ((i).toNat)) rfl rfl rfl rfl rfl (by decide) rfl rfl rfl ((H.ow2 5 rfl).part_from hg11 2 rfl) hg12 (by decide) fun v5 a w11 H Z => ?_
    dsimp only [List.eraseIdx] at H
    refine s_runk tMv2 Z 1 rfl rfl fun a Z => ?_
    refine s_end Z [0, 5, 6, 7] rfl fun Z => ?_
    refine p_then ?_
    refine f_region Z fun Z => ?_
    refine s_runk tMv2 Z 4 rfl rfl fun a Z => ?_
    refine hT tMv2 Z H 4 rfl rfl (slS.cells (H.owshape 0 rfl)) rfl rfl (one_cons (slS.one (H.owshape 0 rfl)) one_nil) (Nat.le_of_ble_eq_true rfl) rfl fun w12 H => ?_
    dsimp only [List.eraseIdx] at H
    refine s_end Z [0, 5, 6] rfl fun Z => ?_
    refine p_then ?_
    exact ⟨(([] ++ (s0.l.take ((i).toNat))) ++ [({ k := k, l := ([] : List ECell) } : Eref16_Row)]) ++ (s0.l.drop ((i).toNat)), v5, Z.sub (ts := [0, 5, 6]) rfl, ⟨I1, (H.sub [(0, false), (5, false), (0, false)] rfl).eq rfl⟩, hF⟩
   ·replace hF := ite_f hc2 hF
    refine wp_skip ?_
    refine p_then ?_
    exact ⟨s0.l, v1, Z.sub (ts := [0, 5, 6]) rfl, ⟨I1, (H.sub [(2, false), (3, false), (2, false)] rfl).eq rfl⟩, hF⟩

def F_ref05_Check (k : ByteArray) : Option Int := if ((decide ((k.size : Int) < 1)) || (decide ((k.size : Int) > 8))) = true then (some 10) else (some 0)

set_option maxHeartbeats 1000000 in
theorem c_ref05_Check {I D : Dm} {k : ByteArray} {w : World} {rr : Int} (hF : F_ref05_Check k = some rr) (H : St I D w []) :
  Calls Try.prog 67 #[vS k] w (Ret fun vv w' => vv = vI rr ∧ ∃ I', Hf I D w I' w' []) := by
 replace H := H.hf
 unfold F_ref05_Check at hF
 refine f_enter 11 Try.func67 rfl rfl (Nat.le_of_ble_eq_true rfl) fun a Z => ?_
 replace Z := Z.sub (ts := [0]) rfl
 refine wp_seq (f_region Z ?_); clear Z; intro Z
 refine s_runk tMv2 Z 1 rfl rfl fun a Z => ?_
 refine s_end Z [0, 2] rfl fun Z => ?_
 refine p_then (wp_seq ?_)
 refine wp_seq (f_region Z ?_); clear Z; intro Z
 refine s_runk tMv2 Z 4 rfl rfl fun a Z => ?_
 refine gO Z (vS k) rfl (wantB_f _) (.n 0 rfl .z) (fun hp => Ob_c tMv2 rfl) fun a Z => ?_
 refine gO Z (vI (k.size : Int)) rfl (wantB_f _) (.c 7 rfl id .z) (fun hp => Ob_c tMv2 rfl) fun a Z => ?_
 refine gO Z (vT (decide ((k.size : Int) > 8))) rfl (wantB_f _) (.c 8 rfl id .z) (fun hp => Ob_c tMv2 rfl) fun a Z => ?_
 refine sO Z (vT ((decide ((k.size : Int) < 1)) || (decide ((k.size : Int) > 8)))) rfl (Ob_pick rfl rfl rfl rfl (pick_or _ _)) fun a Z => ?_
 refine s_end Z [2, 10] rfl fun Z => ?_
 refine p_then ?_
 refine f_cond Z rfl (fun hc1 => ?_) (fun hc1 => ?_)
 ·replace hF := ite_t hc1 hF
  refine wp_seq (f_region Z ?_); clear Z; intro Z
  refine s_runk tMv2 Z 1 rfl rfl fun a Z => ?_
  refine s_end Z [2] rfl fun Z => ?_
  refine p_then (wp_ret ?_)
  refine p_then_r ?_
  obtain rfl := some_in hF
  exact f_ret Z (run_results1 rfl Z rfl) ⟨rfl, I, (H.sub [] rfl).eq rfl⟩
 ·replace hF := ite_f hc1 hF
  refine wp_skip ?_
  refine p_then (wp_seq (f_region Z ?_)); clear Z; intro Z
  refine s_runk tMv2 Z 1 rfl rfl fun a Z => ?_
  refine s_end Z [2] rfl fun Z => ?_
  refine p_then (wp_ret ?_)
  obtain rfl := some_in hF
  exact f_ret Z (run_results1 rfl Z rfl) ⟨rfl, I, (H.sub [] rfl).eq rfl⟩

def F_ref06_Check_l1 (b : EBatch) (rc : Int → Option Int) (sg : Int) : Option Int := match sg with | i => if (decide (i < (b.ops.length : Int))) = true then (chk ((0 : Int) ≤ i ∧ i < (b.ops.length : Int)) ((F_ref05_Check ((b.ops.getD (i).toNat default).key)).bind fun c => (if (c != 0) = true then (some 10) else (if (decide ((((b.ops.getD (i).toNat default).val).size : Int) > 8)) = true then (some 3) else (if (((b.ops.getD (i).toNat default).del) && (!seqB ((b.ops.getD (i).toNat default).val) ⟨#[]⟩)) = true then (some 4) else (chk ((decide (i > 0)) = true → inI (i - 1)) (chk ((decide (i > 0)) = true → (0 : Int) ≤ i - 1 ∧ i - 1 < (b.ops.length : Int)) (if ((decide (i > 0)) && (!sltB ((b.ops.getD (i - 1).toNat default).key) ((b.ops.getD (i).toNat default).key))) = true then (some 18) else (chk (inI (i + 1)) (rc (i + 1))))))))))) else (some 0)

def F_ref06_Check (b : EBatch) : Option Int := if ((decide (b.client < 0)) || (decide (b.client ≥ 3))) = true then (some 1) else (if ((decide (b.req < 1)) || (decide (b.req > 1073741824))) = true then (some 5) else (if (decide ((b.ops.length : Int) > 4)) = true then (some 6) else (iter (F_ref06_Check_l1 b) FU 0)))

set_option maxHeartbeats 1000000 in
theorem c_ref06_Check {I D : Dm} {b : EBatch} {v1_b : Value} {w : World} {rr : Int} (hF : F_ref06_Check b = some rr) (H : St I D w [SlC NEOp v1_b b.ops]) :
  Calls Try.prog 47 #[.agg #[vI b.client, vI b.req, v1_b]] w (Ret fun vv w' => vv = vI rr ∧ ∃ I', Hf I D w I' w' []) := by
 replace H := H.hf
 unfold F_ref06_Check at hF
 refine f_enter 66 Try.func47 rfl rfl (Nat.le_of_ble_eq_true rfl) fun a Z => ?_
 replace Z := Z.sub (ts := [0]) rfl
 refine wp_seq (f_region Z ?_); clear Z; intro Z
 refine hB Z H [vI b.client, vI b.req, v1_b] rfl rfl rfl rfl fun a w1 b1 H Z => ?_
 refine s_runk tMv2 Z 1 rfl rfl fun a Z => ?_
 refine s_end Z [1, 2] rfl fun Z => ?_
 refine p_then (wp_seq ?_)
 refine wp_seq (f_region Z ?_); clear Z; intro Z
 refine s_runk tMv2 Z 1 rfl rfl fun a Z => ?_
 refine sO Z _ rfl (oL tMv2 rfl rfl (H.bc 0 0 rfl rfl)) fun a Z => ?_
 refine s_runk tMv2 Z 2 rfl rfl fun a Z => ?_
 refine gO Z (pp b1 0) rfl (wantB_f _) (.n 1 rfl .z) (fun hp => Ob_c tMv2 rfl) fun a Z => ?_
 refine gO Z _ rfl (wantB_f _) (.c 9 rfl id .z) (fun hp => oL tMv2 rfl rfl (H.bc 0 0 rfl rfl)) fun a Z => ?_
 refine gO Z (vT (decide (b.client ≥ 3))) rfl (wantB_f _) (.c 10 rfl id .z) (fun hp => Ob_c tMv2 rfl) fun a Z => ?_
 refine sO Z (vT ((decide (b.client < 0)) || (decide (b.client ≥ 3)))) rfl (Ob_pick rfl rfl rfl rfl (pick_or _ _)) fun a Z => ?_
 refine s_end Z [1, 2, 12] rfl fun Z => ?_
 refine p_then ?_
 refine f_cond Z rfl (fun hc1 => ?_) (fun hc1 => ?_)
 ·replace hF := ite_t hc1 hF
  refine wp_seq (f_region Z ?_); clear Z; intro Z
  refine s_runk tMv2 Z 1 rfl rfl fun a Z => ?_
  refine s_end Z [1, 2] rfl fun Z => ?_
  refine p_then (wp_ret ?_)
  refine p_then_r ?_
  obtain rfl := some_in hF
  exact f_ret Z (run_results1 rfl Z rfl) ⟨rfl, I, (H.sub [] rfl).eq rfl⟩
 ·replace hF := ite_f hc1 hF
  refine wp_skip ?_
  refine p_then (wp_seq ?_)
  refine wp_seq (f_region Z ?_); clear Z; intro Z
  refine s_runk tMv2 Z 1 rfl rfl fun a Z => ?_
  refine sO Z _ rfl (oL tMv2 rfl rfl (H.bc 0 1 rfl rfl)) fun a Z => ?_
  refine s_runk tMv2 Z 2 rfl rfl fun a Z => ?_
  refine gO Z (pp b1 1) rfl (wantB_f _) (.n 1 rfl .z) (fun hp => Ob_c tMv2 rfl) fun a Z => ?_
  refine gO Z _ rfl (wantB_f _) (.c 17 rfl id .z) (fun hp => oL tMv2 rfl rfl (H.bc 0 1 rfl rfl)) fun a Z => ?_
  refine gO Z (vT (decide (b.req > 1073741824))) rfl (wantB_f _) (.c 18 rfl id .z) (fun hp => Ob_c tMv2 rfl) fun a Z => ?_
  refine sO Z (vT ((decide (b.req < 1)) || (decide (b.req > 1073741824)))) rfl (Ob_pick rfl rfl rfl rfl (pick_or _ _)) fun a Z => ?_
  refine s_end Z [1, 2, 20] rfl fun Z => ?_
  refine p_then ?_
  refine f_cond Z rfl (fun hc2 => ?_) (fun hc2 => ?_)
  ·replace hF := ite_t hc2 hF
   refine wp_seq (f_region Z ?_); clear Z; intro Z
   refine s_runk tMv2 Z 1 rfl rfl fun a Z => ?_
   refine s_end Z [1, 2] rfl fun Z => ?_
   refine p_then (wp_ret ?_)
   refine p_then_r ?_
   obtain rfl := some_in hF
   exact f_ret Z (run_results1 rfl Z rfl) ⟨rfl, I, (H.sub [] rfl).eq rfl⟩
  ·replace hF := ite_f hc2 hF
   refine wp_skip ?_
   refine p_then (wp_seq ?_)
   refine wp_seq (f_region Z ?_); clear Z; intro Z
   refine s_runk tMv2 Z 1 rfl rfl fun a Z => ?_
   refine sO Z _ rfl (oL tMv2 rfl rfl (H.bc 0 2 rfl rfl)) fun a Z => ?_
   refine sO Z (vI (ln b.ops)) rfl (Ob_slen tMv2 rfl rfl rfl (H.slshape 1 rfl)) fun a Z => ?_
   refine s_runk tMv2 Z 1 rfl rfl fun a Z => ?_
   refine s_end Z [1, 2, 24] rfl fun Z => ?_
   refine p_then ?_
   refine f_cond Z rfl (fun hc3 => ?_) (fun hc3 => ?_)
   ·replace hF := ite_t hc3 hF
    refine wp_seq (f_region Z ?_); clear Z; intro Z
    refine s_runk tMv2 Z 1 rfl rfl fun a Z => ?_
    refine s_end Z [1, 2] rfl fun Z => ?_
    refine p_then (wp_ret ?_)
    refine p_then_r ?_
    obtain rfl := some_in hF
    exact f_ret Z (run_results1 rfl Z rfl) ⟨rfl, I, (H.sub [] rfl).eq rfl⟩
   ·replace hF := ite_f hc3 hF
    refine wp_skip ?_
    refine p_then (wp_seq ?_)
    refine wp_seq (f_region Z ?_); clear Z; intro Z
    refine s_runk tMv2 Z 1 rfl rfl fun a Z => ?_
    refine s_end Z [1, 2, 3] rfl fun Z => ?_
    refine p_then (wp_block ?_)
    refine f_iter hF (fun sg a' w' => match sg with | i => Sl 66 [(1, pp b1 0), (2, vI 0), (3, vI i)] a' ∧ ∃ I2, Hf I D w I2 w' [BxC b1 32 [vI b.client, vI b.req, v1_b], SlC NEOp v1_b b.ops]) ⟨Z.sub (ts := [1, 2, 3]) rfl, ⟨I, (H.sub [(0, false), (0, true)] rfl).eq rfl⟩⟩ ?_
    rintro rc i a w2 ⟨Z, I1, H⟩ hF
    unfold F_ref06_Check_l1 at hF
    try dsimp only at hF
    refine wp_seq ?_
    refine wp_seq (f_region Z ?_); clear Z; intro Z
    refine s_runk tMv2 Z 2 rfl rfl fun a Z => ?_
    refine sO Z _ rfl (oL tMv2 rfl rfl (H.bc 0 2 rfl rfl)) fun a Z => ?_
    refine sO Z (vI (ln b.ops)) rfl (Ob_slen tMv2 rfl rfl rfl (H.slshape 1 rfl)) fun a Z => ?_
    refine s_runk tMv2 Z 1 rfl rfl fun a Z => ?_
    refine s_end Z [1, 2, 3, 25, 26, 27, 28, 29] rfl fun Z => ?_
    refine p_then ?_
    refine f_cond Z rfl (fun hc4 => ?_) (fun hc4 => ?_)
    ·replace hF := ite_t hc4 hF
     refine wp_skip ?_
     refine p_then (wp_seq ?_)
     refine wp_block ?_
     refine wp_seq ?_
     obtain ⟨hg1, hF⟩ := chk_in hF
     refine f_region Z fun Z => ?_
     refine s_runk tMv2 Z 1 rfl rfl fun a Z => ?_
     refine sO Z _ rfl (oL tMv2 rfl rfl (H.bc 0 2 rfl rfl)) fun a Z => ?_
     refine s_runk tMv2 Z 1 rfl rfl fun a Z => ?_
     refine sO Z (.pointer (some ⟨blkOf v1_b, oofOf v1_b + (i).toNat * 3, none⟩)) rfl (Ob_sidx tMv2 rfl rfl rfl rfl (slPl (H.sl 1 rfl) hg1) hg1) fun a Z => ?_
     refine sO Z (.agg #[vS ((gi b.ops i).key), vS ((gi b.ops i).val), vT ((gi b.ops i).del)]) rfl (oA tMv2 rfl rfl ((slFl (H.sl 1 rfl) hg1).part 0 rfl)) fun a Z => ?_
     refine hA Z H [vS ByteArray.empty, vS ByteArray.empty, vT false] rfl rfl (by kernel_rfl) fun a w3 b2 H Z => ?_
     refine hT tMv2 Z H 0 rfl rfl rfl rfl rfl (onR 3 rfl one_nil) (Nat.le_of_ble_eq_true rfl) rfl fun w4 H => ?_
     dsimp only [List.eraseIdx] at H
     refine s_end Z [1, 2, 3, 25, 26, 27, 28, 29, 32, 33, 34, 35, 36, 4] rfl fun Z => ?_
     refine p_then (wp_seq ?_)
     refine wp_seq ?_
     obtain ⟨c, hx1, hF⟩ := bnd_in hF
     refine f_region Z fun Z => ?_
     refine s_runk tMv2 Z 1 rfl rfl fun a Z => ?_
     refine sO Z _ rfl (oL tMv2 rfl rfl (H.bc 0 0 rfl rfl)) fun a Z => ?_
     refine hC Z H [] rfl #[] fn_67_YMv2 rfl rfl (fun D h => have q := c_ref05_Check hx1 h; q) fun vv a w5 D2 hr hF2 Z => ?_
     obtain ⟨rfl, I2, K⟩ := hr
     have H := (hF2 K).nf rfl
     refine s_runk tMv2 Z 1 rfl rfl fun a Z => ?_
     refine s_end Z [1, 2, 3, 25, 26, 27, 28, 29, 32, 33, 34, 35, 36, 4, 37, 38, 39, 40] rfl fun Z => ?_
     refine p_then ?_
     refine f_cond Z rfl (fun hc5 => ?_) (fun hc5 => ?_)
     ·replace hF := ite_t hc5 hF
      refine wp_seq (f_region Z ?_); clear Z; intro Z
      refine s_runk tMv2 Z 1 rfl rfl fun a Z => ?_
      refine s_end Z [1, 2, 3, 25, 26, 27, 28, 29, 32, 33, 34, 35, 36, 4, 37, 38, 39, 40] rfl fun Z => ?_
      refine p_then (wp_ret ?_)
      refine p_then_r ?_
      refine p_blk_r ?_
      refine p_then_r ?_
      refine p_then_r ?_
      refine p_blk_r ?_
      refine p_then_r ?_
      obtain rfl := some_in hF
      exact f_ret Z (run_results1 rfl Z rfl) ⟨rfl, I2, (H.sub [] rfl).eq rfl⟩
     ·replace hF := ite_f hc5 hF
      refine wp_skip ?_
      refine p_then (wp_seq ?_)
      refine wp_seq (f_region Z ?_); clear Z; intro Z
      refine s_runk tMv2 Z 1 rfl rfl fun a Z => ?_
      refine sO Z _ rfl (oL tMv2 rfl rfl (H.bc 0 1 rfl rfl)) fun a Z => ?_
      refine s_runk tMv2 Z 2 rfl rfl fun a Z => ?_
      refine s_end Z [1, 2, 3, 25, 26, 27, 28, 29, 32, 33, 34, 35, 36, 4, 37, 38, 39, 40, 41, 42, 43, 44] rfl fun Z => ?_
      refine p_then ?_
      refine f_cond Z rfl (fun hc6 => ?_) (fun hc6 => ?_)
      ·replace hF := ite_t hc6 hF
       refine wp_seq (f_region Z ?_); clear Z; intro Z
       refine s_runk tMv2 Z 1 rfl rfl fun a Z => ?_
       refine s_end Z [1, 2, 3, 25, 26, 27, 28, 29, 32, 33, 34, 35, 36, 4, 37, 38, 39, 40, 41, 42, 43, 44] rfl fun Z => ?_
       refine p_then (wp_ret ?_)
       refine p_then_r ?_
       refine p_blk_r ?_
       refine p_then_r ?_
       refine p_then_r ?_
       refine p_blk_r ?_
       refine p_then_r ?_
       obtain rfl := some_in hF
       exact f_ret Z (run_results1 rfl Z rfl) ⟨rfl, I2, (H.sub [] rfl).eq rfl⟩
      ·replace hF := ite_f hc6 hF
       refine wp_skip ?_
       refine p_then (wp_seq ?_)
       refine wp_seq (f_region Z ?_); clear Z; intro Z
       refine s_runk tMv2 Z 1 rfl rfl fun a Z => ?_
       refine sO Z _ rfl (oL tMv2 rfl rfl (H.bc 0 2 rfl rfl)) fun a Z => ?_
       refine s_runk tMv2 Z 1 rfl rfl fun a Z => ?_
       refine gO Z (pp b2 1) rfl (wantB_t _) (.n 4 rfl .z) (fun hp => Ob_c tMv2 rfl) fun a Z => ?_
       refine gO Z _ rfl (wantB_t _) (.c 48 rfl id .z) (fun hp => oL tMv2 rfl rfl (H.bc 0 1 rfl rfl)) fun a Z => ?_
       refine gO Z (vT (!seqB ((gi b.ops i).val) ⟨#[]⟩)) rfl (wantB_t _) (.c 49 rfl id .z) (fun hp => Ob_c tMv2 rfl) fun a Z => ?_
       refine sO Z (vT (((gi b.ops i).del) && (!seqB ((gi b.ops i).val) ⟨#[]⟩))) rfl (Ob_pick rfl rfl rfl rfl (pick_and _ _)) fun a Z => ?_
       refine s_end Z [1, 2, 3, 25, 26, 27, 28, 29, 32, 33, 34, 35, 36, 4, 37, 38, 39, 40, 41, 42, 43, 44, 45, 46, 47, 51] rfl fun Z => ?_
       refine p_then ?_
       refine f_cond Z rfl (fun hc7 => ?_) (fun hc7 => ?_)
       ·replace hF := ite_t hc7 hF
        refine wp_seq (f_region Z ?_); clear Z; intro Z
        refine s_runk tMv2 Z 1 rfl rfl fun a Z => ?_
        refine s_end Z [1, 2, 3, 25, 26, 27, 28, 29, 32, 33, 34, 35, 36, 4, 37, 38, 39, 40, 41, 42, 43, 44, 45, 46, 47, 51] rfl fun Z => ?_
        refine p_then (wp_ret ?_)
        refine p_then_r ?_
        refine p_blk_r ?_
        refine p_then_r ?_
        refine p_then_r ?_
        refine p_blk_r ?_
        refine p_then_r ?_
        obtain rfl := some_in hF
        exact f_ret Z (run_results1 rfl Z rfl) ⟨rfl, I2, (H.sub [] rfl).eq rfl⟩
       ·replace hF := ite_f hc7 hF
        refine wp_skip ?_
        refine p_then (wp_seq ?_)
        obtain ⟨hg2, hF⟩ := chk_in hF
        obtain ⟨hg3, hF⟩ := chk_in hF
        refine f_quietd (by kernel_rfl) (by kernel_rfl) Z fun Z => ?_
        refine q_runk tMv2 Z 3 rfl rfl fun a Z => ?_
        refine jO Z (pp b1 2) rfl (wantB_t _) (.n 1 rfl .z) (fun hp _ hw => Ob_c tMv2 rfl) fun a Z => ?_
        refine jO Z _ rfl (wantB_t _) (.c 55 rfl id .z) (fun hp _ hw => oL tMv2 rfl rfl ((H.blw hw).bc 1 2 rfl rfl)) fun a Z => ?_
        refine jO Z (vI i) rfl (wantB_t _) (.n 3 rfl .z) (fun hp _ hw => Ob_c tMv2 rfl) fun a Z => ?_
        refine jO Z (vI (i - 1)) rfl (wantB_t _) (.c 57 rfl id .z) (fun hp _ hw => Ob_sub rfl rfl rfl (wrI (hg2 hp))) fun a Z => ?_
        refine jO Z (.pointer (some ⟨blkOf v1_b, oofOf v1_b + (i - 1).toNat * 3, none⟩)) rfl (wantB_t _) (.c 56 rfl id (.c 58 rfl id .z)) (fun hp _ hw => Ob_sidx tMv2 rfl rfl rfl rfl (slPl ((H.blw hw).sl 2 rfl) (hg3 hp)) (hg3 hp)) fun a Z => ?_
        refine jO Z (.pointer (some ⟨blkOf v1_b, oofOf v1_b + (i - 1).toNat * 3, none⟩)) rfl (wantB_t _) (.c 59 rfl id .z) (fun hp _ hw => Ob_c tMv2 rfl) fun a Z => ?_
        refine jO Z (vS ((b.ops.getD (i - 1).toNat default).key)) rfl (wantB_t _) (.c 60 rfl id .z) (fun hp _ hw => oL tMv2 rfl rfl ((slFl ((H.blw hw).sl 2 rfl) (hg3 hp)) 0 _ rfl)) fun a Z => ?_
        refine jO Z (pp b2 0) rfl (wantB_t _) (.n 4 rfl .z) (fun hp _ hw => Ob_c tMv2 rfl) fun a Z => ?_
        refine jO Z _ rfl (wantB_t _) (.c 62 rfl id .z) (fun hp _ hw => oL tMv2 rfl rfl ((H.blw hw).bc 0 0 rfl rfl)) fun a Z => ?_
        refine jO Z (vT (!sltB ((b.ops.getD (i - 1).toNat default).key) ((gi b.ops i).key))) rfl (wantB_t _) (.c 61 rfl id (.c 63 rfl id .z)) (fun hp _ hw => Ob_c tMv2 rfl) fun a Z => ?_
        refine qO Z (vT ((decide (i > 0)) && (!sltB ((b.ops.getD (i - 1).toNat default).key) ((gi b.ops i).key)))) rfl (fun _ hw => Ob_pick rfl rfl rfl rfl (pick_and _ _)) fun a Z => ?_
        refine q_end Z [1, 2, 3, 25, 26, 27, 28, 29, 32, 33, 34, 35, 36, 4, 37, 38, 39, 40, 41, 42, 43, 44, 45, 46, 47, 51, 52, 53, 54, 65] rfl fun w6 hb Z => ?_
        replace H := H.blw hb
        clear hb
        refine p_then ?_
        refine f_cond Z rfl (fun hc8 => ?_) (fun hc8 => ?_)
        ·replace hF := ite_t hc8 hF
         refine wp_seq (f_region Z ?_); clear Z; intro Z
         refine s_runk tMv2 Z 1 rfl rfl fun a Z => ?_
         refine s_end Z [1, 2, 3, 25, 26, 27, 28, 29, 32, 33, 34, 35, 36, 4, 37, 38, 39, 40, 41, 42, 43, 44, 45, 46, 47, 51, 52, 53, 54, 65] rfl fun Z => ?_
         refine p_then (wp_ret ?_)
         refine p_blk_r ?_
         refine p_then_r ?_
         refine p_then_r ?_
         refine p_blk_r ?_
         refine p_then_r ?_
         obtain rfl := some_in hF
         exact f_ret Z (run_results1 rfl Z rfl) ⟨rfl, I2, (H.sub [] rfl).eq rfl⟩
        ·replace hF := ite_f hc8 hF
         refine wp_skip ?_
         refine p_blk ?_
         refine p_then ?_
         obtain ⟨hg4, hF⟩ := chk_in hF
         refine f_region Z fun Z => ?_
         refine s_runk tMv2 Z 1 rfl rfl fun a Z => ?_
         refine sO Z (vI (i + 1)) rfl (Ob_add rfl rfl rfl (wrI hg4)) fun a Z => ?_
         refine s_runk tMv2 Z 1 rfl rfl fun a Z => ?_
         refine s_end Z [1, 2, 3, 25, 26, 27, 28, 29, 32, 33, 34, 35, 36, 4, 37, 38, 39, 40, 41, 42, 43, 44, 45, 46, 47, 51, 52, 53, 54, 65, 30, 31] rfl fun Z => ?_
         refine p_then ?_
         exact ⟨(i + 1), ⟨Z.sub (ts := [1, 2, 3]) rfl, ⟨I2, (H.sub [(1, false), (1, true)] rfl).eq rfl⟩⟩, hF⟩
    ·replace hF := ite_f hc4 hF
     refine wp_exit ?_
     refine p_then_x ?_
     refine p_then_x ?_
     refine f_exit_here ?_
     refine p_then (wp_seq (f_region Z ?_)); clear Z; intro Z
     refine s_runk tMv2 Z 1 rfl rfl fun a Z => ?_
     refine s_end Z [2] rfl fun Z => ?_
     refine p_then (wp_ret ?_)
     obtain rfl := some_in hF
     exact f_ret Z (run_results1 rfl Z rfl) ⟨rfl, I1, (H.sub [] rfl).eq rfl⟩

def F_ref16_Store_Put_l1 (ts : Int) (l : List EOp) (rc : (Int × Eref16_Store) → Option (Int × Eref16_Store)) (sg : Int × Eref16_Store) : Option (Int × Eref16_Store) := match sg with | (i, s0_2) => if (decide (i < (l.length : Int))) = true then (chk ((0 : Int) ≤ i ∧ i < (l.length : Int)) (chk ((0 : Int) ≤ i ∧ i < (l.length : Int)) (chk ((0 : Int) ≤ i ∧ i < (l.length : Int)) ((F_ref16_Store_lay s0_2 ((l.getD (i).toNat default).key) ({ ts := ts, val := (l.getD (i).toNat default).val, del := (l.getD (i).toNat default).del } : ECell)).bind fun l_2 => (chk (inI (i + 1)) (rc (i + 1, l_2))))))) else (some (0, ({ s0_2 with last := ts } : Eref16_Store)))

def F_ref16_Store_Put (s0 : Eref16_Store) (ts : Int) (l : List EOp) : Option (Int × Eref16_Store) := if (ts == 0) = true then (some (5, s0)) else (if (decide (ts ≤ s0.last)) = true then (some (18, s0)) else ((F_ref06_Check ({ client := 0, req := 1, ops := l } : EBatch)).bind fun c => (if (c != 0) = true then (some (c, s0)) else (iter (F_ref16_Store_Put_l1 ts l) FU (0, s0)))))

set_option maxHeartbeats 1000000 in
theorem c_ref16_Store_Put {I D : Dm} {b_s0 : Nat} {s0 : Eref16_Store} {ts : Int} {l : List EOp} {v1_l : Value} {w : World} {rr : Int × Eref16_Store} (hF : F_ref16_Store_Put s0 ts l = some rr) (H : St I D w [OEref16_Store b_s0 s0, SlC NEOp v1_l l]) :
  Calls Try.prog 23 #[pp b_s0 0, vU ts, v1_l] w (Ret fun vv w' => vv = vI rr.1 ∧ ∃ I', Hf I D w I' w' [OEref16_Store b_s0 rr.2]) := by
 replace H := H.hf
 unfold F_ref16_Store_Put at hF
 refine f_enter 52 Try.func23 rfl rfl (Nat.le_of_ble_eq_true rfl) fun a Z => ?_
 replace Z := Z.sub (ts := [0, 1, 2]) rfl
 refine wp_seq (f_region Z ?_); clear Z; intro Z
 refine s_runk tMv2 Z 1 rfl rfl fun a Z => ?_
 refine s_end Z [0, 1, 2, 6] rfl fun Z => ?_
 refine p_then (wp_seq ?_)
 refine wp_seq (f_region Z ?_); clear Z; intro Z
 refine s_runk tMv2 Z 2 rfl rfl fun a Z => ?_
 refine s_end Z [0, 1, 2, 6, 10] rfl fun Z => ?_
 refine p_then ?_
 refine f_cond Z rfl (fun hc1 => ?_) (fun hc1 => ?_)
 ·replace hF := ite_t hc1 hF
  refine wp_seq (f_region Z ?_); clear Z; intro Z
  refine s_runk tMv2 Z 1 rfl rfl fun a Z => ?_
  refine s_end Z [0, 1, 2, 6] rfl fun Z => ?_
  refine p_then (wp_ret ?_)
  refine p_then_r ?_
  obtain rfl := some_in hF
  exact f_ret Z (run_results1 rfl Z rfl) ⟨rfl, I, (H.sub [(0, false)] rfl).eq rfl⟩
 ·replace hF := ite_f hc1 hF
  refine wp_skip ?_
  refine p_then (wp_seq ?_)
  refine wp_seq (f_region Z ?_); clear Z; intro Z
  refine s_runk tMv2 Z 4 rfl rfl fun a Z => ?_
  obtain ⟨v2, H⟩ := H.openX 0 rfl
  replace H := H.nf rfl; try dsimp only at H
  refine sO Z _ rfl (oL tMv2 rfl rfl (H.bc 0 1 rfl rfl)) fun a Z => ?_
  refine s_runk tMv2 Z 1 rfl rfl fun a Z => ?_
  refine s_end Z [0, 1, 2, 6, 16] rfl fun Z => ?_
  refine p_then ?_
  refine f_cond Z rfl (fun hc2 => ?_) (fun hc2 => ?_)
  ·replace hF := ite_t hc2 hF
   refine wp_seq (f_region Z ?_); clear Z; intro Z
   refine s_runk tMv2 Z 1 rfl rfl fun a Z => ?_
   refine s_end Z [0, 1, 2, 6] rfl fun Z => ?_
   refine p_then (wp_ret ?_)
   refine p_then_r ?_
   replace H := H.sX (OEref16_Store b_s0 s0) (v2) [(0, false), (0, false)] rfl rfl rfl
   obtain rfl := some_in hF
   exact f_ret Z (run_results1 rfl Z rfl) ⟨rfl, I, (H.sub [(0, false)] rfl).eq rfl⟩
  ·replace hF := ite_f hc2 hF
   refine wp_skip ?_
   refine p_then (wp_seq ?_)
   refine wp_seq ?_
   obtain ⟨c, hx1, hF⟩ := bnd_in hF
   refine f_region Z fun Z => ?_
   refine s_runk tMv2 Z 1 rfl rfl fun a Z => ?_
   refine sO Z (.agg #[vI 0, vI 1, v1_l]) rfl (Ob_build (vs := [(1, vI 1), (2, v1_l)]) rfl rfl (by obtain ⟨_, _, e, _⟩ := (H.slshape 2 rfl); rw [e]; clear e; go_simp <;> rfl)) fun a Z => ?_
   refine hC Z H [(2, true)] rfl #[] fn_47_YMv2 rfl rfl (fun D h => have q := c_ref06_Check hx1 h; q) fun vv a w1 D2 hr hF2 Z => ?_
   obtain ⟨rfl, I1, K⟩ := hr
   have H := (hF2 K).nf rfl
   refine s_runk tMv2 Z 1 rfl rfl fun a Z => ?_
   refine s_end Z [0, 1, 2, 6, 7] rfl fun Z => ?_
   refine p_then (wp_seq (f_region Z ?_)); clear Z; intro Z
   refine s_runk tMv2 Z 2 rfl rfl fun a Z => ?_
   refine s_end Z [0, 1, 2, 6, 7, 21] rfl fun Z => ?_
   refine p_then ?_
   refine f_cond Z rfl (fun hc3 => ?_) (fun hc3 => ?_)
   ·replace hF := ite_t hc3 hF
    refine wp_seq (f_region Z ?_); clear Z; intro Z
    refine s_runk tMv2 Z 2 rfl rfl fun a Z => ?_
    refine s_end Z [0, 1, 2, 6] rfl fun Z => ?_
    refine p_then (wp_ret ?_)
    refine p_then_r ?_
    replace H := H.sX (OEref16_Store b_s0 s0) (v2) [(0, false), (0, false)] rfl rfl rfl
    obtain rfl := some_in hF
    exact f_ret Z (run_results1 rfl Z rfl) ⟨rfl, I1, (H.sub [(0, false)] rfl).eq rfl⟩
   ·replace hF := ite_f hc3 hF
    refine wp_skip ?_
    refine p_then (wp_seq ?_)
    refine wp_seq (f_region Z ?_); clear Z; intro Z
    refine s_runk tMv2 Z 1 rfl rfl fun a Z => ?_
    refine s_end Z [0, 1, 2, 6, 8] rfl fun Z => ?_
    refine p_then (wp_block ?_)
    replace H := H.sX (OEref16_Store b_s0 s0) (v2) [(0, false), (0, false)] rfl rfl rfl
    refine f_iter hF (fun sg a' w' => match sg with | (i, s0_2) => Sl 52 [(0, pp b_s0 0), (1, vU ts), (2, v1_l), (6, vI 0), (8, vI i)] a' ∧ ∃ I2, Hf I D w I2 w' [OEref16_Store b_s0 s0_2, SlC NEOp v1_l l]) ⟨Z.sub (ts := [0, 1, 2, 6, 8]) rfl, ⟨I1, (H.sub [(0, false), (0, true)] rfl).eq rfl⟩⟩ ?_
    rintro rc ⟨i, s0_2⟩ a w2 ⟨Z, I2, H⟩ hF
    unfold F_ref16_Store_Put_l1 at hF
    try dsimp only at hF
    refine wp_seq ?_
    refine wp_seq (f_region Z ?_); clear Z; intro Z
    refine s_runk tMv2 Z 2 rfl rfl fun a Z => ?_
    refine sO Z (vI (ln l)) rfl (Ob_slen tMv2 rfl rfl rfl (H.slshape 1 rfl)) fun a Z => ?_
    refine s_runk tMv2 Z 1 rfl rfl fun a Z => ?_
    refine s_end Z [0, 1, 2, 6, 8, 23, 24, 25, 26] rfl fun Z => ?_
    refine p_then ?_
    refine f_cond Z rfl (fun hc4 => ?_) (fun hc4 => ?_)
    ·replace hF := ite_t hc4 hF
     refine wp_skip ?_
     refine p_then (wp_seq ?_)
     refine wp_block ?_
     obtain ⟨hg1, hF⟩ := chk_in hF
     obtain ⟨hg2, hF⟩ := chk_in hF
     obtain ⟨hg3, hF⟩ := chk_in hF
     obtain ⟨l_2, hx2, hF⟩ := bnd_in hF
     refine f_quietS 18 (by kernel_rfl) (by kernel_rfl) (by kernel_rfl) (by kernel_rfl) (by kernel_rfl) Z fun Z => ?_
     refine q_runk tMv2 Z 3 rfl rfl fun a Z => ?_
     refine qO Z (.pointer (some ⟨blkOf v1_l, oofOf v1_l + (i).toNat * 3, none⟩)) rfl (fun _ hw => Ob_sidx tMv2 rfl rfl rfl rfl (slPl ((H.blw hw).sl 1 rfl) hg1) hg1) fun a Z => ?_
     refine q_runk tMv2 Z 1 rfl rfl fun a Z => ?_
     refine qO Z (vS ((gi l i).key)) rfl (fun _ hw => oL tMv2 rfl rfl ((slFl ((H.blw hw).sl 1 rfl) hg1) 0 _ rfl)) fun a Z => ?_
     refine q_runk tMv2 Z 3 rfl rfl fun a Z => ?_
     refine qO Z (.pointer (some ⟨blkOf v1_l, oofOf v1_l + (i).toNat * 3, none⟩)) rfl (fun _ hw => Ob_sidx tMv2 rfl rfl rfl rfl (slPl ((H.blw hw).sl 1 rfl) hg2) hg2) fun a Z => ?_
     refine q_runk tMv2 Z 1 rfl rfl fun a Z => ?_
     refine qO Z (vS ((gi l i).val)) rfl (fun _ hw => oL tMv2 rfl rfl ((slFl ((H.blw hw).sl 1 rfl) hg2) 1 _ rfl)) fun a Z => ?_
     refine q_runk tMv2 Z 2 rfl rfl fun a Z => ?_
     refine qO Z (.pointer (some ⟨blkOf v1_l, oofOf v1_l + (i).toNat * 3, none⟩)) rfl (fun _ hw => Ob_sidx tMv2 rfl rfl rfl rfl (slPl ((H.blw hw).sl 1 rfl) hg3) hg3) fun a Z => ?_
     refine q_runk tMv2 Z 1 rfl rfl fun a Z => ?_
     refine qO Z (vT ((gi l i).del)) rfl (fun _ hw => oL tMv2 rfl rfl ((slFl ((H.blw hw).sl 1 rfl) hg3) 2 _ rfl)) fun a Z => ?_
     refine qO Z (.agg #[vU ts, vS ((gi l i).val), vT ((gi l i).del)]) rfl (fun _ hw => Ob_build (vs := [(0, vU ts), (1, vS ((gi l i).val)), (2, vT ((gi l i).del))]) rfl rfl (by go_simp <;> rfl)) fun a Z => ?_
     refine q_endS Z [0, 1, 2, 6, 8, 23, 24, 25, 26, 29, 30, 31, 32, 33, 34, 35, 36, 37, 38, 39, 40, 41, 42, 43, 44, 45, 46] rfl fun w3 hb Z => ?_
     replace H := H.blw hb
     clear hb
     refine hC Z H [(0, false)] rfl #[] fn_48_YMv2 rfl rfl (fun D h => have q := c_ref16_Store_lay hx2 h; q) fun vv a w4 D2 hr hF2 Z => ?_
     obtain ⟨rfl, I3, K⟩ := hr
     have H := (hF2 K).nf rfl
     refine s_end Z [0, 1, 2, 6, 8, 23, 24, 25, 26, 29, 30, 31, 32, 33, 34, 35, 36, 37, 38, 39, 40, 41, 42, 43, 44, 45, 46] rfl fun Z => ?_
     refine p_blk ?_
     refine p_then ?_
     obtain ⟨hg4, hF⟩ := chk_in hF
     refine f_region Z fun Z => ?_
     refine s_runk tMv2 Z 1 rfl rfl fun a Z => ?_
     refine sO Z (vI (i + 1)) rfl (Ob_add rfl rfl rfl (wrI hg4)) fun a Z => ?_
     refine s_runk tMv2 Z 1 rfl rfl fun a Z => ?_
     refine s_end Z [0, 1, 2, 6, 8, 23, 24, 25, 26, 29, 30, 31, 32, 33, 34, 35, 36, 37, 38, 39, 40, 41, 42, 43, 44, 45, 46, 27, 28] rfl fun Z => ?_
     refine p_then ?_
     exact ⟨(i + 1, l_2), ⟨Z.sub (ts := [0, 1, 2, 6, 8]) rfl, ⟨I3, (H.sub [(0, false), (0, true)] rfl).eq rfl⟩⟩, hF⟩
    ·replace hF := ite_f hc4 hF
     refine wp_exit ?_
     refine p_then_x ?_
     refine p_then_x ?_
     refine f_exit_here ?_
     refine p_then (wp_seq (f_region Z ?_)); clear Z; intro Z
     refine s_runk tMv2 Z 4 rfl rfl fun a Z => ?_
     obtain ⟨v3, H⟩ := H.openX 0 rfl
     replace H := H.nf rfl; try dsimp only at H
     refine hT tMv2 Z H 0 rfl rfl rfl rfl rfl (one_cons rfl one_nil) (Nat.le_of_ble_eq_true rfl) rfl fun w5 H => ?_
     dsimp only [List.eraseIdx] at H
     refine s_end Z [6] rfl fun Z => ?_
     refine p_then (wp_seq (f_region Z ?_)); clear Z; intro Z
     refine s_runk tMv2 Z 1 rfl rfl fun a Z => ?_
     refine s_end Z [6] rfl fun Z => ?_
     refine p_then (wp_ret ?_)
     replace H := H.sX (OEref16_Store b_s0 ({ s0_2 with last := ts } : Eref16_Store)) (v3) [(0, false), (0, false)] rfl rfl rfl
     obtain rfl := some_in hF
     exact f_ret Z (run_results1 rfl Z rfl) ⟨rfl, I2, (H.sub [(0, false)] rfl).eq rfl⟩

def F_ref06_SamePairs_l1 (a0 : List EPair) (b : List EPair) (rc : Int → Option Bool) (sg : Int) : Option Bool := match sg with | i => if ((decide (i < (a0.length : Int))) && (decide (i < (b.length : Int)))) = true then (chk ((0 : Int) ≤ i ∧ i < (a0.length : Int)) (chk ((0 : Int) ≤ i ∧ i < (b.length : Int)) (if (!eqEPair (a0.getD (i).toNat default) (b.getD (i).toNat default)) = true then (some false) else (chk (inI (i + 1)) (rc (i + 1)))))) else (some true)

def F_ref06_SamePairs (a0 : List EPair) (b : List EPair) : Option Bool := if ((a0.length : Int) != (b.length : Int)) = true then (some false) else (iter (F_ref06_SamePairs_l1 a0 b) FU 0)

set_option maxHeartbeats 1000000 in
theorem c_ref06_SamePairs {I D : Dm} {a0 : List EPair} {v1_a0 : Value} {b : List EPair} {v2_b : Value} {w : World} {rr : Bool} (hF : F_ref06_SamePairs a0 b = some rr) (H : St I D w [SlC NEPair v1_a0 a0, SlC NEPair v2_b b]) :
  Calls Try.prog 21 #[v1_a0, v2_b] w (Ret fun vv w' => vv = vT rr ∧ ∃ I', Hf I D w I' w' []) := by
 replace H := H.hf
 unfold F_ref06_SamePairs at hF
 refine f_enter 32 Try.func21 rfl rfl (Nat.le_of_ble_eq_true rfl) fun a Z => ?_
 replace Z := Z.sub (ts := [0, 1]) rfl
 refine wp_seq (f_region Z ?_); clear Z; intro Z
 refine s_runk tMv2 Z 1 rfl rfl fun a Z => ?_
 refine s_end Z [0, 1, 4] rfl fun Z => ?_
 refine p_then (wp_seq ?_)
 refine wp_seq (f_region Z ?_); clear Z; intro Z
 refine s_runk tMv2 Z 1 rfl rfl fun a Z => ?_
 refine sO Z (vI (ln a0)) rfl (Ob_slen tMv2 rfl rfl rfl (H.slshape 0 rfl)) fun a Z => ?_
 refine s_runk tMv2 Z 1 rfl rfl fun a Z => ?_
 refine sO Z (vI (ln b)) rfl (Ob_slen tMv2 rfl rfl rfl (H.slshape 1 rfl)) fun a Z => ?_
 refine s_runk tMv2 Z 1 rfl rfl fun a Z => ?_
 refine s_end Z [0, 1, 4, 10] rfl fun Z => ?_
 refine p_then ?_
 refine f_cond Z rfl (fun hc1 => ?_) (fun hc1 => ?_)
 ·replace hF := ite_t hc1 hF
  refine wp_seq (f_region Z ?_); clear Z; intro Z
  refine s_runk tMv2 Z 1 rfl rfl fun a Z => ?_
  refine s_end Z [0, 1, 4] rfl fun Z => ?_
  refine p_then (wp_ret ?_)
  refine p_then_r ?_
  obtain rfl := some_in hF
  exact f_ret Z (run_results1 rfl Z rfl) ⟨rfl, I, (H.sub [] rfl).eq rfl⟩
 ·replace hF := ite_f hc1 hF
  refine wp_skip ?_
  refine p_then (wp_seq ?_)
  refine wp_seq (f_region Z ?_); clear Z; intro Z
  refine s_runk tMv2 Z 1 rfl rfl fun a Z => ?_
  refine s_end Z [0, 1, 4, 5] rfl fun Z => ?_
  refine p_then (wp_block ?_)
  refine f_iter hF (fun sg a' w' => match sg with | i => Sl 32 [(0, v1_a0), (1, v2_b), (4, vT false), (5, vI i)] a' ∧ ∃ I2, Hf I D w I2 w' [SlC NEPair v1_a0 a0, SlC NEPair v2_b b]) ⟨Z.sub (ts := [0, 1, 4, 5]) rfl, ⟨I, (H.sub [(0, true), (1, true)] rfl).eq rfl⟩⟩ ?_
  rintro rc i a w1 ⟨Z, I1, H⟩ hF
  unfold F_ref06_SamePairs_l1 at hF
  try dsimp only at hF
  refine wp_seq ?_
  refine wp_seq (f_region Z ?_); clear Z; intro Z
  refine s_runk tMv2 Z 2 rfl rfl fun a Z => ?_
  refine sO Z (vI (ln a0)) rfl (Ob_slen tMv2 rfl rfl rfl (H.slshape 0 rfl)) fun a Z => ?_
  refine s_runk tMv2 Z 2 rfl rfl fun a Z => ?_
  refine gO Z (vI i) rfl (wantB_t _) (.n 5 rfl .z) (fun hp => Ob_c tMv2 rfl) fun a Z => ?_
  refine gO Z v2_b rfl (wantB_t _) (.n 1 rfl .z) (fun hp => Ob_c tMv2 rfl) fun a Z => ?_
  refine gO Z (vI (ln b)) rfl (wantB_t _) (.c 17 rfl id .z) (fun hp => Ob_slen tMv2 rfl rfl rfl (H.slshape 1 rfl)) fun a Z => ?_
  refine gO Z (vT (decide (i < (ln b)))) rfl (wantB_t _) (.c 16 rfl id (.c 18 rfl id .z)) (fun hp => Ob_c tMv2 rfl) fun a Z => ?_
  refine sO Z (vT ((decide (i < (ln a0))) && (decide (i < (ln b))))) rfl (Ob_pick rfl rfl rfl rfl (pick_and _ _)) fun a Z => ?_
  refine s_end Z [0, 1, 4, 5, 11, 12, 13, 14, 15, 20] rfl fun Z => ?_
  refine p_then ?_
  refine f_cond Z rfl (fun hc2 => ?_) (fun hc2 => ?_)
  ·replace hF := ite_t hc2 hF
   refine wp_skip ?_
   refine p_then (wp_seq ?_)
   refine wp_block ?_
   refine wp_seq ?_
   obtain ⟨hg1, hF⟩ := chk_in hF
   obtain ⟨hg2, hF⟩ := chk_in hF
   refine f_quietd (by kernel_rfl) (by kernel_rfl) Z fun Z => ?_
   refine q_runk tMv2 Z 2 rfl rfl fun a Z => ?_
   refine qO Z (.pointer (some ⟨blkOf v1_a0, oofOf v1_a0 + (i).toNat * 2, none⟩)) rfl (fun _ hw => Ob_sidx tMv2 rfl rfl rfl rfl (slPl ((H.blw hw).sl 0 rfl) hg1) hg1) fun a Z => ?_
   refine qO Z (.agg #[vS ((gi a0 i).key), vS ((gi a0 i).val)]) rfl (fun _ hw => oA tMv2 rfl rfl ((slFl ((H.blw hw).sl 0 rfl) hg1).part 0 rfl)) fun a Z => ?_
   refine q_runk tMv2 Z 2 rfl rfl fun a Z => ?_
   refine qO Z (.pointer (some ⟨blkOf v2_b, oofOf v2_b + (i).toNat * 2, none⟩)) rfl (fun _ hw => Ob_sidx tMv2 rfl rfl rfl rfl (slPl ((H.blw hw).sl 1 rfl) hg2) hg2) fun a Z => ?_
   refine qO Z (.agg #[vS ((gi b i).key), vS ((gi b i).val)]) rfl (fun _ hw => oA tMv2 rfl rfl ((slFl ((H.blw hw).sl 1 rfl) hg2).part 0 rfl)) fun a Z => ?_
   refine qO Z (vT (!eqEPair (gi a0 i) (gi b i))) rfl (fun _ hw => Ob_bin rfl rfl rfl (eqg_EPair _ _ _ _ _ _) (neq_EPair (gi a0 i) (gi b i) _)) fun a Z => ?_
   refine q_end Z [0, 1, 4, 5, 11, 12, 13, 14, 15, 20, 23, 24, 25, 26, 27, 28, 29, 30, 31] rfl fun w2 hb Z => ?_
   replace H := H.blw hb
   clear hb
   refine p_then ?_
   refine f_cond Z rfl (fun hc3 => ?_) (fun hc3 => ?_)
   ·replace hF := ite_t hc3 hF
    refine wp_seq (f_region Z ?_); clear Z; intro Z
    refine s_runk tMv2 Z 1 rfl rfl fun a Z => ?_
    refine s_end Z [0, 1, 4, 5, 11, 12, 13, 14, 15, 20, 23, 24, 25, 26, 27, 28, 29, 30, 31] rfl fun Z => ?_
    refine p_then (wp_ret ?_)
    refine p_blk_r ?_
    refine p_then_r ?_
    refine p_then_r ?_
    refine p_blk_r ?_
    refine p_then_r ?_
    obtain rfl := some_in hF
    exact f_ret Z (run_results1 rfl Z rfl) ⟨rfl, I1, (H.sub [] rfl).eq rfl⟩
   ·replace hF := ite_f hc3 hF
    refine wp_skip ?_
    refine p_blk ?_
    refine p_then ?_
    obtain ⟨hg3, hF⟩ := chk_in hF
    refine f_region Z fun Z => ?_
    refine s_runk tMv2 Z 1 rfl rfl fun a Z => ?_
    refine sO Z (vI (i + 1)) rfl (Ob_add rfl rfl rfl (wrI hg3)) fun a Z => ?_
    refine s_runk tMv2 Z 1 rfl rfl fun a Z => ?_
    refine s_end Z [0, 1, 4, 5, 11, 12, 13, 14, 15, 20, 23, 24, 25, 26, 27, 28, 29, 30, 31, 21, 22] rfl fun Z => ?_
    refine p_then ?_
    exact ⟨(i + 1), ⟨Z.sub (ts := [0, 1, 4, 5]) rfl, ⟨I1, (H.sub [(0, true), (1, true)] rfl).eq rfl⟩⟩, hF⟩
  ·replace hF := ite_f hc2 hF
   refine wp_exit ?_
   refine p_then_x ?_
   refine p_then_x ?_
   refine f_exit_here ?_
   refine p_then (wp_seq (f_region Z ?_)); clear Z; intro Z
   refine s_runk tMv2 Z 1 rfl rfl fun a Z => ?_
   refine s_end Z [4] rfl fun Z => ?_
   refine p_then (wp_ret ?_)
   obtain rfl := some_in hF
   exact f_ret Z (run_results1 rfl Z rfl) ⟨rfl, I1, (H.sub [] rfl).eq rfl⟩

end Go.Proofs.Ytaknkbbjimielaa
