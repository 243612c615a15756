/- Many versions: the document's store. -/
import Derived.Test.YtfefmdllnjpmgaaYMv1
import Derived.Test.YtfefmdllnjpmgaaYQU
import Derived.Test.YtfefmdllnjpmgaaYRw
namespace Go.Proofs.Ytfefmdllnjpmgaa
open Go.RowKit
def OEref16_Store (b : Nat) (x : Eref16_Store) : Ch := ExC fun (p : Value) => [BxC b 46 (cEref16_Store x p), OwC NEref16_Row 83 p x.l]

def tMv2L : TabL := ⟨[(39936, 0), (39937, 1), (47104, 0), (47105, 1), (61440, 0), (61441, 1), (61442, 2), (66560, 0), (66561, 1), (66562, 2), (72704, 0), (72705, 1), (72706, 2), (84992, 0), (84993, 1)], [9], [], [(30, (60, 3)), (33, (39, 2)), (44, (83, 2)), (62, (71, 3)), (73, (9, 1)), (76, (5, 1))], [(3, (1, false)), (4, (1, false)), (5, (1, false)), (9, (1, false)), (23, (1, false)), (30, (1, false)), (39, (2, true)), (44, (1, false)), (60, (3, true)), (62, (1, false)), (65, (3, true)), (71, (3, true))]⟩

def tMv2 : Tab Try.prog := ⟨tMv2L, by kernel_rfl⟩

theorem fn_32_YMv2 : IsFn Try.prog 32 := ⟨_, Try.func32, by kernel_rfl, by kernel_rfl⟩

theorem fn_46_YMv2 : IsFn Try.prog 46 := ⟨_, Try.func46, by kernel_rfl, by kernel_rfl⟩

theorem E_30_YMv2 : Elem Try.prog 30 60 3 40 := ⟨Try.underlying30, by
 have h : (Try.prog.info? 60).map (fun i => (i.zero, i.size, i.bytes)) = some (some (.agg #[.string ByteArray.empty, .string ByteArray.empty, .bool false]), 3, 40) := by kernel_rfl
 obtain ⟨i, hi, h1⟩ := Option.map_eq_some_iff.1 h
 simp only [Prod.mk.injEq] at h1
 exact ⟨i, _, hi, h1.1, h1.2.1, h1.2.2, by rfl⟩, by decide⟩

theorem E_33_YMv2 : Elem Try.prog 33 39 2 32 := ⟨Try.underlying33, by
 have h : (Try.prog.info? 39).map (fun i => (i.zero, i.size, i.bytes)) = some (some (.agg #[.string ByteArray.empty, .string ByteArray.empty]), 2, 32) := by kernel_rfl
 obtain ⟨i, hi, h1⟩ := Option.map_eq_some_iff.1 h
 simp only [Prod.mk.injEq] at h1
 exact ⟨i, _, hi, h1.1, h1.2.1, h1.2.2, by rfl⟩, by decide⟩

theorem E_44_YMv2 : Elem Try.prog 44 83 2 40 := ⟨Try.underlying44, by
 have h : (Try.prog.info? 83).map (fun i => (i.zero, i.size, i.bytes)) = some (some (.agg #[.string ByteArray.empty, .slice none 0 0]), 2, 40) := by kernel_rfl
 obtain ⟨i, hi, h1⟩ := Option.map_eq_some_iff.1 h
 simp only [Prod.mk.injEq] at h1
 exact ⟨i, _, hi, h1.1, h1.2.1, h1.2.2, by rfl⟩, by decide⟩

theorem E_62_YMv2 : Elem Try.prog 62 71 3 32 := ⟨Try.underlying62, by
 have h : (Try.prog.info? 71).map (fun i => (i.zero, i.size, i.bytes)) = some (some (.agg #[.int .u64 0, .string ByteArray.empty, .bool false]), 3, 32) := by kernel_rfl
 obtain ⟨i, hi, h1⟩ := Option.map_eq_some_iff.1 h
 simp only [Prod.mk.injEq] at h1
 exact ⟨i, _, hi, h1.1, h1.2.1, h1.2.2, by rfl⟩, by decide⟩

theorem E_73_YMv2 : Elem Try.prog 73 9 1 16 := ⟨Try.underlying73, by
 have h : (Try.prog.info? 9).map (fun i => (i.zero, i.size, i.bytes)) = some (some (.string ByteArray.empty), 1, 16) := by kernel_rfl
 obtain ⟨i, hi, h1⟩ := Option.map_eq_some_iff.1 h
 simp only [Prod.mk.injEq] at h1
 exact ⟨i, _, hi, h1.1, h1.2.1, h1.2.2, by rfl⟩, by decide⟩

theorem neq_EPair (x y : EPair) (w : World) : (binOp .neq 39 (.agg (cEPair x).toArray) (.agg (cEPair y).toArray)).run Try.prog w = .ok (.bool (!eqEPair x y)) w := by
 have h1 := run_equalIn_struct (P := Try.prog) w 9999 39 (cEPair x).toArray (cEPair y).toArray (by rw [fieldsOf_of Try.underlying39]; exact Try.underlying39) (by kernel_rfl)
 rw [run_neq_struct, h1, fieldsOf_of Try.underlying39]
 simp [Op.eqFields, part, isAgg, cEPair, beqS, eqEPair, seqB_eq, run_underlying Try.underlying9, run_equalIn_string w 9998 9 _ _ Try.underlying9]
 try ((repeat' split) <;> simp_all)

theorem eqg_EPair (op : BinOp) (x y : Operand) (a b : Array Value) (w : World) : (eqGuard op 39 x y (.agg a) (.agg b)).run Try.prog w = .ok () w := run_eqGuard_agg (by kernel_rfl) op x y a b w

def F_ref14_last_l1 (l : List ECell) (t : Int) (rc : Int → Option Int) (sg : Int) : Option Int := match sg with | i => if (decide (i ≥ 0)) = true then (chk ((0 : Int) ≤ i ∧ i < (l.length : Int)) (if (decide ((l.getD (i).toNat default).ts ≤ t)) = true then (some i) else (chk (inI (i - 1)) (rc (i - 1))))) else (some (-1))

def F_ref14_last (l : List ECell) (t : Int) : Option Int := chk (inI ((l.length : Int) - 1)) (iter (F_ref14_last_l1 l t) FU ((l.length : Int) - 1))

def F_ref14_At (l : List ECell) (t : Int) : Option (ByteArray × Bool) := (F_ref14_last l t).bind fun l_2 => (chk ((!(decide (l_2 < 0))) = true → (0 : Int) ≤ l_2 ∧ l_2 < (l.length : Int)) (if ((decide (l_2 < 0)) || ((l.getD (l_2).toNat default).del)) = true then (some (⟨#[]⟩, false)) else (chk ((0 : Int) ≤ l_2 ∧ l_2 < (l.length : Int)) (some ((l.getD (l_2).toNat default).val, true)))))

def F_ref05_In (k : ByteArray) (from_ : ByteArray) (to_ : ByteArray) : Option Bool := some ((!sltB k from_) && ((seqB to_ ⟨#[]⟩) || (sltB k to_)))

def F_ref16_Store_Scan_k2 (i : Int) (rc : ((List EPair) × Int) → Option ((List EPair) × Bool)) (out_2 : List EPair) (v : ByteArray) (ok : Bool) (x_0 : ByteArray) (x_1 : Bool) (x : List ECell) (x_0_2 : ByteArray) (x_1_2 : Bool) (x_2 : ByteArray) (x_3 : Bool) (x_4 : Bool) (x_5 : Bool) (x_6 : Bool) (x_7 : Bool) : Option ((List EPair) × Bool) := chk (inI (i + 1)) (rc (out_2, i + 1))

def F_ref16_Store_Scan_l1 (s0 : Eref16_Store) (from_ : ByteArray) (to_ : ByteArray) (t : Int) (most : Int) (rc : ((List EPair) × Int) → Option ((List EPair) × Bool)) (sg : (List EPair) × Int) : Option ((List EPair) × Bool) := match sg with | (out, i) => if (decide (i < (s0.l.length : Int))) = true then (chk ((0 : Int) ≤ i ∧ i < (s0.l.length : Int)) ((F_ref14_At ((s0.l.getD (i).toNat default).l) t).bind fun a0 => (chk ((!(!a0.2)) = true → (0 : Int) ≤ i ∧ i < (s0.l.length : Int)) ((gif (!(!a0.2)) (F_ref05_In ((s0.l.getD (i).toNat default).k) from_ to_) default).bind fun i_2 => (if ((!a0.2) || (!i_2)) = true then (F_ref16_Store_Scan_k2 i rc out a0.1 a0.2 a0.1 a0.2 ((s0.l.getD (i).toNat default).l) a0.1 a0.2 a0.1 a0.2 a0.2 (!a0.2) (!a0.2) ((!a0.2) || (!i_2))) else (if (decide ((out.length : Int) ≥ max most 0)) = true then (some (out, true)) else (chk ((0 : Int) ≤ i ∧ i < (s0.l.length : Int)) (chk (((out.length + [({ key := (s0.l.getD (i).toNat default).k, val := a0.1 } : EPair)].length : Nat) : Int) * 32 ≤ 140737488355328) (F_ref16_Store_Scan_k2 i rc (out ++ [({ key := (s0.l.getD (i).toNat default).k, val := a0.1 } : EPair)]) a0.1 a0.2 a0.1 a0.2 ((s0.l.getD (i).toNat default).l) a0.1 a0.2 a0.1 a0.2 a0.2 (!a0.2) (!a0.2) ((!a0.2) || (!i_2))))))))))) else (some (out, false))

def F_ref16_Store_lay_k2 (s0 : Eref16_Store) (c : ECell) (i : Int) (s_l : List Eref16_Row) : Option Eref16_Store := chk ((0 : Int) ≤ i ∧ i < (s_l.length : Int)) (chk (((([] : List ECell).length + ((s_l.getD (i).toNat default).l).length : Nat) : Int) * 32 ≤ 140737488355328) (chk ((((([] : List ECell) ++ ((s_l.getD (i).toNat default).l)).length + [c].length : Nat) : Int) * 32 ≤ 140737488355328) (chk ((0 : Int) ≤ i ∧ i < (s_l.length : Int)) (some ({ s0 with l := s_l.set (i).toNat ({ (s_l.getD (i).toNat default) with l := (([] : List ECell) ++ ((s_l.getD (i).toNat default).l)) ++ [c] } : Eref16_Row) } : Eref16_Store)))))

def F_ref16_Store_lay_l1 (s0 : Eref16_Store) (k : ByteArray) (c : ECell) (rc : Int → Option Eref16_Store) (sg : Int) : Option Eref16_Store := match sg with | i => chk ((decide (i < (s0.l.length : Int))) = true → (0 : Int) ≤ i ∧ i < (s0.l.length : Int)) (if ((decide (i < (s0.l.length : Int))) && (sltB ((s0.l.getD (i).toNat default).k) k)) = true then (chk (inI (i + 1)) (rc (i + 1))) else (chk ((!(i == (s0.l.length : Int))) = true → (0 : Int) ≤ i ∧ i < (s0.l.length : Int)) (if ((i == (s0.l.length : Int)) || (!seqB ((s0.l.getD (i).toNat default).k) k)) = true then (chk ((0 : Int) ≤ i ∧ i ≤ (s0.l.length : Int)) (chk (((([] : List Eref16_Row).length + (s0.l.take ((i).toNat)).length : Nat) : Int) * 40 ≤ 140737488355328) (chk (((([] ++ (s0.l.take ((i).toNat))).length + [({ k := k, l := ([] : List ECell) } : Eref16_Row)].length : Nat) : Int) * 40 ≤ 140737488355328) (chk ((0 : Int) ≤ i ∧ i ≤ (s0.l.length : Int)) (chk ((((([] ++ (s0.l.take ((i).toNat))) ++ [({ k := k, l := ([] : List ECell) } : Eref16_Row)]).length + (s0.l.drop ((i).toNat)).length : Nat) : Int) * 40 ≤ 140737488355328) (F_ref16_Store_lay_k2 s0 c i ((([] ++ (s0.l.take ((i).toNat))) ++ [({ k := k, l := ([] : List ECell) } : Eref16_Row)]) ++ (s0.l.drop ((i).toNat))))))))) else (F_ref16_Store_lay_k2 s0 c i s0.l))))

def F_ref16_Store_lay (s0 : Eref16_Store) (k : ByteArray) (c : ECell) : Option Eref16_Store := iter (F_ref16_Store_lay_l1 s0 k c) FU 0

set_option maxHeartbeats 1000000 in
theorem c_ref16_Store_lay {I D : Dm} {b_s0 : Nat} {s0 : Eref16_Store} {k : ByteArray} {c : ECell} {w : World} {rr : Eref16_Store} (hF : F_ref16_Store_lay s0 k c = some rr) (H : St I D w [OEref16_Store b_s0 s0]) :
  Calls Try.prog 34 #[.pointer (some ⟨b_s0, 0, none⟩), .string k, .agg #[.int .u64 c.ts, .string c.val, .bool c.del]] w (Ret fun vv w' => vv = .tuple #[] ∧ ∃ I', Hf I D w I' w' [OEref16_Store b_s0 rr]) := by
 replace H := H.hf
 unfold F_ref16_Store_lay at hF
 refine f_enter 94 Try.func34 rfl rfl (Nat.le_of_ble_eq_true rfl) fun a Z => ?_
 replace Z := Z.sub (ts := [0, 1, 2]) rfl
 refine wp_seq (f_region Z ?_); clear Z; intro Z
 refine h_boxv Z H (cl := [.int .u64 c.ts, .string c.val, .bool c.del]) rfl rfl rfl (by decide) rfl rfl rfl ?_; clear Z a H; intro a w1 b1 H Z
 refine s_end Z [0, 1, 5] rfl ?_; clear Z; intro Z
 refine p_then (wp_seq (f_region Z ?_)); clear Z; intro Z
 refine s_runk tMv2 Z 1 rfl rfl ?_; clear Z a; intro a Z
 refine s_end Z [0, 1, 5, 6] rfl ?_; clear Z; intro Z
 refine p_then (wp_seq ?_)
 refine wp_block ?_
 refine f_iter hF (fun sg a' w' => match sg with | i => Sl 94 [(0, .pointer (some ⟨b_s0, 0, none⟩)), (1, .string k), (5, .pointer (some ⟨b1, 0, none⟩)), (6, .int .i64 i)] a' ∧ ∃ I2, Hf I D w I2 w' [OEref16_Store b_s0 s0, BxC b1 71 [.int .u64 c.ts, .string c.val, .bool c.del]]) ⟨Z.sub (ts := [0, 1, 5, 6]) rfl, ⟨I, (H.sub [(1, false), (0, false)] rfl).eq rfl⟩⟩ ?_
 clear Z H hF a
 rintro rc i a w2 ⟨Z, I1, H⟩ hF
 unfold F_ref16_Store_lay_l1 at hF
 try dsimp only at hF
 refine wp_seq ?_
 refine wp_seq ?_
 obtain ⟨hg1, hF⟩ := chk_in hF
 refine f_region Z ?_; clear Z; intro Z
 refine s_runk tMv2 Z 4 rfl rfl ?_; clear Z a; intro a Z
 obtain ⟨v1, H⟩ := H.openX 0 rfl
 replace H : Hf I D w I1 w2 [BxC b_s0 46 [v1, .int .u64 s0.last], OwC NEref16_Row 83 v1 s0.l, BxC b1 71 [.int .u64 c.ts, .string c.val, .bool c.del]] := H
 refine s_ob Z (v := v1) rfl rfl (by decide) rfl (Ob_load tMv2 rfl rfl rfl ((H.bx 0 rfl).cell 0 rfl)) ?_; clear Z a; intro a Z
 refine s_ob Z (v := .int .i64 (s0.l.length : Int)) rfl rfl (by decide) rfl (Ob_slen tMv2 rfl rfl rfl (H.owshape 1 rfl)) ?_; clear Z a; intro a Z
 refine s_runk tMv2 Z 2 rfl rfl ?_; clear Z a; intro a Z
 refine g_ob Z (p := (decide (i < (s0.l.length : Int)))) (v := .pointer (some ⟨b_s0, 0, none⟩)) (S' := [(0, .pointer (some ⟨b_s0, 0, none⟩))]) rfl rfl rfl (wantB_t _) rfl (by decide) (fun hp hS => hS.sub (ts := [0]) rfl) (fun hp => Ob_c tMv2 rfl) ?_; clear Z a; intro a Z
 refine g_ob Z (p := (decide (i < (s0.l.length : Int)))) (v := .pointer (some ⟨b_s0, 0, none⟩)) (S' := [(17, .pointer (some ⟨b_s0, 0, none⟩))]) rfl rfl rfl (wantB_t _) rfl (by decide) (fun hp hS => (hS.conv (t := 17) rfl (cond_t hp)).sub (ts := [17]) rfl) (fun hp => Ob_c tMv2 rfl) ?_; clear Z a; intro a Z
 refine g_ob Z (p := (decide (i < (s0.l.length : Int)))) (v := .pointer (some ⟨b_s0, 0, none⟩)) (S' := [(18, .pointer (some ⟨b_s0, 0, none⟩))]) rfl rfl rfl (wantB_t _) rfl (by decide) (fun hp hS => (hS.conv (t := 18) rfl (cond_t hp)).sub (ts := [18]) rfl) (fun hp => Ob_c tMv2 rfl) ?_; clear Z a; intro a Z
 refine g_ob Z (p := (decide (i < (s0.l.length : Int)))) (v := v1) (S' := [(19, .pointer (some ⟨b_s0, 0, none⟩))]) rfl rfl rfl (wantB_t _) rfl (by decide) (fun hp hS => (hS.conv (t := 19) rfl (cond_t hp)).sub (ts := [19]) rfl) (fun hp => Ob_load tMv2 rfl rfl rfl ((H.bx 0 rfl).cell 0 rfl)) ?_; clear Z a; intro a Z
 refine g_ob Z (p := (decide (i < (s0.l.length : Int)))) (v := .int .i64 i) (S' := [(6, .int .i64 i)]) rfl rfl rfl (wantB_t _) rfl (by decide) (fun hp hS => hS.sub (ts := [6]) rfl) (fun hp => Ob_c tMv2 rfl) ?_; clear Z a; intro a Z
 refine g_ob Z (p := (decide (i < (s0.l.length : Int)))) (v := .pointer (some ⟨blkOf v1, oofOf v1 + (i).toNat * 2, none⟩)) (S' := [(20, v1), (21, .int .i64 i)]) rfl rfl rfl (wantB_t _) rfl (by decide) (fun hp hS => ((hS.conv (t := 20) rfl (cond_t hp)).conv (t := 21) rfl (cond_t hp)).sub (ts := [20, 21]) rfl) (fun hp => Ob_sidx tMv2 rfl rfl rfl rfl (slPl (H.owA 1 rfl) (hg1 hp)) (hg1 hp)) ?_; clear Z a; intro a Z
 refine g_ob Z (p := (decide (i < (s0.l.length : Int)))) (v := .pointer (some ⟨blkOf v1, oofOf v1 + (i).toNat * 2, none⟩)) (S' := [(22, .pointer (some ⟨blkOf v1, oofOf v1 + (i).toNat * 2, none⟩))]) rfl rfl rfl (wantB_t _) rfl (by decide) (fun hp hS => (hS.conv (t := 22) rfl (cond_t hp)).sub (ts := [22]) rfl) (fun hp => Ob_c tMv2 rfl) ?_; clear Z a; intro a Z
 obtain ⟨_, ⟨u1, rfl, L1⟩, hat1⟩ := H.owElG 1 rfl (i) (NEref16_Row.dft _ _)
 replace H : Hf I D w I1 w2 [SlC NECell u1 ((s0.l.getD (i).toNat default).l), BxC b_s0 46 [v1, .int .u64 s0.last], OwC NEref16_Row 83 v1 s0.l, BxC b1 71 [.int .u64 c.ts, .string c.val, .bool c.del]] := H.addsl L1
 refine g_ob Z (p := (decide (i < (s0.l.length : Int)))) (v := .string ((s0.l.getD (i).toNat default).k)) (S' := [(23, .pointer (some ⟨blkOf v1, oofOf v1 + (i).toNat * 2, none⟩))]) rfl rfl rfl (wantB_t _) rfl (by decide) (fun hp hS => (hS.conv (t := 23) rfl (cond_t hp)).sub (ts := [23]) rfl) (fun hp => Ob_load tMv2 rfl rfl rfl ((hat1 (hg1 hp)) 0 _ rfl)) ?_; clear Z a; intro a Z
 refine g_ob Z (p := (decide (i < (s0.l.length : Int)))) (v := .string k) (S' := [(1, .string k)]) rfl rfl rfl (wantB_t _) rfl (by decide) (fun hp hS => hS.sub (ts := [1]) rfl) (fun hp => Ob_c tMv2 rfl) ?_; clear Z a; intro a Z
 refine g_ob Z (p := (decide (i < (s0.l.length : Int)))) (v := .bool (sltB ((s0.l.getD (i).toNat default).k) k)) (S' := [(24, .string ((s0.l.getD (i).toNat default).k)), (25, .string k)]) rfl rfl rfl (wantB_t _) rfl (by decide) (fun hp hS => ((hS.conv (t := 24) rfl (cond_t hp)).conv (t := 25) rfl (cond_t hp)).sub (ts := [24, 25]) rfl) (fun hp => Ob_c tMv2 rfl) ?_; clear Z a; intro a Z
 refine s_ob Z (v := .bool ((decide (i < (s0.l.length : Int))) && (sltB ((s0.l.getD (i).toNat default).k) k))) rfl rfl (by decide) rfl (Ob_pick rfl rfl rfl rfl (pick_and _ _)) ?_; clear Z a; intro a Z
 refine s_end Z [0, 1, 5, 6, 9, 10, 11, 12, 13, 14, 15, 16, 27] rfl ?_; clear Z; intro Z
 refine p_then ?_
 refine f_cond Z rfl (fun hc1 => ?_) (fun hc1 => ?_)
 ·replace hF := ite_t hc1 hF
  refine wp_skip ?_
  refine p_then (wp_block ?_)
  obtain ⟨hg2, hF⟩ := chk_in hF
  refine f_region Z ?_; clear Z; intro Z
  refine s_runk tMv2 Z 1 rfl rfl ?_; clear Z a; intro a Z
  refine s_ob Z (v := .int .i64 (i + 1)) rfl rfl (by decide) rfl (Ob_add rfl rfl rfl (wrI hg2)) ?_; clear Z a; intro a Z
  refine s_runk tMv2 Z 1 rfl rfl ?_; clear Z a; intro a Z
  refine s_end Z [0, 1, 5, 6, 9, 10, 11, 12, 13, 14, 15, 16, 27, 28, 29] rfl ?_; clear Z; intro Z
  refine p_blk ?_
  refine p_then ?_
  replace H : Hf I D w I1 w2 [OEref16_Store b_s0 s0, SlC NECell u1 ((s0.l.getD (i).toNat default).l), BxC b1 71 [.int .u64 c.ts, .string c.val, .bool c.del]] := H.shutX (v1) [(1, false), (1, false)] rfl
  exact ⟨(i + 1), ⟨Z.sub (ts := [0, 1, 5, 6]) rfl, ⟨I1, (H.sub [(0, false), (1, false)] rfl).eq rfl⟩⟩, hF⟩
 ·replace hF := ite_f hc1 hF
  refine wp_exit ?_
  refine p_then_x ?_
  refine p_then_x ?_
  refine f_exit_here ?_
  refine p_then ?_
  refine f_cut (fun a' w' => ∃ (s_l : List Eref16_Row), ∃ v2 : Value, Sl 94 [(0, .pointer (some ⟨b_s0, 0, none⟩)), (5, .pointer (some ⟨b1, 0, none⟩)), (6, .int .i64 i)] a' ∧ (∃ I2, Hf I D w I2 w' [BxC b_s0 46 [v2, .int .u64 s0.last], BxC b1 71 [.int .u64 c.ts, .string c.val, .bool c.del], OwC NEref16_Row 83 v2 s_l]) ∧ F_ref16_Store_lay_k2 s0 c i s_l = some rr) ?_ ?_
  ·rintro a w3 ⟨s_l, v2, Z, ⟨I2, H⟩, hF⟩
   unfold F_ref16_Store_lay_k2 at hF
   try dsimp only at hF
   refine wp_seq ?_
   obtain ⟨css1, hl1, H⟩ := H.rwOpen 2 rfl
   replace H : Hf I D w I2 w3 [RpsC NEref16_Row css1 s_l, OwC (Rraw 2) 83 v2 css1, BxC b_s0 46 [v2, .int .u64 s0.last], BxC b1 71 [.int .u64 c.ts, .string c.val, .bool c.del]] := H
   obtain ⟨_, ⟨u2, rfl, L2⟩, hcs1⟩ := H.rwG 0 rfl (i) (NEref16_Row.dft _ _)
   replace H : Hf I D w I2 w3 [SlC NECell u2 ((s_l.getD (i).toNat default).l), RpsC NEref16_Row css1 s_l, OwC (Rraw 2) 83 v2 css1, BxC b_s0 46 [v2, .int .u64 s0.last], BxC b1 71 [.int .u64 c.ts, .string c.val, .bool c.del]] := H.addsl L2
   obtain ⟨hg3, hF⟩ := chk_in hF
   obtain ⟨hg4, hF⟩ := chk_in hF
   obtain ⟨hg5, hF⟩ := chk_in hF
   refine f_regionG Z (by kernel_rfl) (by kernel_rfl) (by decide) (by decide) [0, 9, 11, 12] [(0, [0, 4]), (0, [0, 1, 4, 5]), (2, [0, 1, 4, 5]), (6, [0, 1, 4, 5]), (14, [0, 1, 4, 5]), (0, [0, 1, 4, 5]), (62, [0, 1, 4, 5]), (126, [0, 1, 4, 5]), (254, [0, 1, 4, 5]), (511, [1, 5]), (0, [0, 1, 3]), (1024, [0, 1, 3]), (4095, [7]), (8191, [15])] (by kernel_rfl) (fun jj => match jj with | 13 => 12 | _ => jj) (by kernel_rfl) (fun jj rv vv => cond (Nat.blt jj 7) (cond (Nat.blt jj 3) (cond (Nat.blt jj 1) (vv = .slice (some ⟨blkOf vv, 0, none⟩) 0 0) (cond (Nat.blt jj 2) (vv = .pointer (some ⟨b_s0, 0, none⟩)) (vv = .pointer (some ⟨b_s0, 0, none⟩)))) (cond (Nat.blt jj 5) (cond (Nat.blt jj 4) (vv = .pointer (some ⟨b_s0, 0, none⟩)) (vv = v2)) (cond (Nat.blt jj 6) (vv = .int .i64 i) (vv = .pointer (some ⟨blkOf v2, oofOf v2 + (i).toNat * 2, none⟩))))) (cond (Nat.blt jj 10) (cond (Nat.blt jj 8) (vv = .pointer (some ⟨blkOf v2, oofOf v2 + (i).toNat * 2 + 1, none⟩)) (cond (Nat.blt jj 9) (vv = u2) (True))) (cond (Nat.blt jj 12) (cond (Nat.blt jj 11) (vv = .agg #[.int .u64 c.ts, .string c.val, .bool c.del]) (vv = .slice (some ⟨blkOf vv, 0, none⟩) 1 1)) (cond (Nat.blt jj 13) (True) (vv = rv))))) (fun ss vals1 xw => match ss with | 0 => Gx I D w I2 w3 xw [SlC NECell u2 ((s_l.getD (i).toNat default).l), RpsC NEref16_Row css1 s_l, OwC (Rraw 2) 83 v2 css1, BxC b_s0 46 [v2, .int .u64 s0.last], BxC b1 71 [.int .u64 c.ts, .string c.val, .bool c.del]] | 1 => Gx I D w I2 w3 xw [BxC (blkOf (vals1 0)) 71 [], SlC NECell u2 ((s_l.getD (i).toNat default).l), RpsC NEref16_Row css1 s_l, OwC (Rraw 2) 83 v2 css1, BxC b_s0 46 [v2, .int .u64 s0.last], BxC b1 71 [.int .u64 c.ts, .string c.val, .bool c.del]] | 3 => Gx I D w I2 w3 xw [OwC NECell 71 (vals1 9) (([] : List ECell) ++ ((s_l.getD (i).toNat default).l)), SlC NECell u2 ((s_l.getD (i).toNat default).l), RpsC NEref16_Row css1 s_l, OwC (Rraw 2) 83 v2 css1, BxC b_s0 46 [v2, .int .u64 s0.last], BxC b1 71 [.int .u64 c.ts, .string c.val, .bool c.del]] | 4 => Gx I D w I2 w3 xw [BxC (blkOf (vals1 11)) 71 [.int .u64 c.ts, .string c.val, .bool c.del], SlC NECell u2 ((s_l.getD (i).toNat default).l), RpsC NEref16_Row css1 s_l, OwC (Rraw 2) 83 v2 css1, BxC b_s0 46 [v2, .int .u64 s0.last], BxC b1 71 [.int .u64 c.ts, .string c.val, .bool c.del]] | 5 => Gx I D w I2 w3 xw [BxC (blkOf (vals1 11)) 71 [.int .u64 c.ts, .string c.val, .bool c.del], BxC (blkOf (vals1 0)) 71 [], SlC NECell u2 ((s_l.getD (i).toNat default).l), RpsC NEref16_Row css1 s_l, OwC (Rraw 2) 83 v2 css1, BxC b_s0 46 [v2, .int .u64 s0.last], BxC b1 71 [.int .u64 c.ts, .string c.val, .bool c.del]] | 7 => Gx I D w I2 w3 xw [BxC (blkOf (vals1 11)) 71 [.int .u64 c.ts, .string c.val, .bool c.del], OwC NECell 71 (vals1 9) (([] : List ECell) ++ ((s_l.getD (i).toNat default).l)), SlC NECell u2 ((s_l.getD (i).toNat default).l), RpsC NEref16_Row css1 s_l, OwC (Rraw 2) 83 v2 css1, BxC b_s0 46 [v2, .int .u64 s0.last], BxC b1 71 [.int .u64 c.ts, .string c.val, .bool c.del]] | _ => Gx I D w I2 w3 xw [OwC NECell 71 (vals1 12) ((([] : List ECell) ++ ((s_l.getD (i).toNat default).l)) ++ [c]), SlC NECell u2 ((s_l.getD (i).toNat default).l), RpsC NEref16_Row css1 s_l, OwC (Rraw 2) 83 v2 css1, BxC b_s0 46 [v2, .int .u64 s0.last], BxC b1 71 [.int .u64 c.ts, .string c.val, .bool c.del]]) (fun _ => Gx.start H) ?_ ?_
   ·intro fr hfr hfe
    refine .cons (fun ss hs vals1 xw hG hV => ?_) ?_
    ·obtain rfl | rfl : ss = 0 ∨ ss = 4 := by simpa using hs
     ·rw [← hfe]
      have hS := (hfr vals1).sub (ts := []) (S' := []) rfl
      obtain ⟨I2, hI2, H⟩ := Gx.ex hG
      exact L_bslice H (vs := []) (cl := []) (e := 71) hS rfl rfl rfl (fun w => run_bslice (z := .agg #[.int .u64 0, .string ByteArray.empty, .bool false]) (m := 3) Try.underlying62 (by kernel_rfl) rfl rfl (by decide) (by simp [Instr.fill, Value.cells]) w) fun yw b hK H => ⟨rfl, Gx.go hG hI2 hK (fun _ h => h) H⟩
     ·rw [← hfe]
      have hS := (hfr vals1).sub (ts := []) (S' := []) rfl
      obtain ⟨I2, hI2, H⟩ := Gx.ex hG
      exact L_bslice H (vs := []) (cl := []) (e := 71) hS rfl rfl rfl (fun w => run_bslice (z := .agg #[.int .u64 0, .string ByteArray.empty, .bool false]) (m := 3) Try.underlying62 (by kernel_rfl) rfl rfl (by decide) (by simp [Instr.fill, Value.cells]) w) fun yw b hK H => ⟨rfl, Gx.go hG hI2 hK (fun _ h => h) (Hf.sub H [(1, false), (0, false), (0, true), (1, true), (2, false), (2, false), (2, false)] rfl)⟩
    refine .cons (fun ss hs vals1 xw hG hV => ?_) ?_
    ·obtain rfl | rfl | rfl | rfl : ss = 0 ∨ ss = 1 ∨ ss = 4 ∨ ss = 5 := by simpa using hs
     all_goals
     ·rw [← hfe]
      have hS := (hfr vals1).sub (ts := [0]) (S' := [(0, .pointer (some ⟨b_s0, 0, none⟩))]) rfl
      exact L_val hS rfl (Ob_c tMv2 rfl) ⟨rfl, hG⟩
    refine .cons (fun ss hs vals1 xw hG hV => ?_) ?_
    ·obtain rfl | rfl | rfl | rfl : ss = 0 ∨ ss = 1 ∨ ss = 4 ∨ ss = 5 := by simpa using hs
     all_goals
     ·rw [← hfe]
      have hS := (hfr vals1).sub (ts := [74]) (S' := [(74, vals1 1)]) rfl
      replace hS := hS.conv (t := 74) rfl (show (vals1 1) = .pointer (some ⟨b_s0, 0, none⟩) from hV 1 (by decide))
      exact L_val hS rfl (Ob_c tMv2 rfl) ⟨rfl, hG⟩
    refine .cons (fun ss hs vals1 xw hG hV => ?_) ?_
    ·obtain rfl | rfl | rfl | rfl : ss = 0 ∨ ss = 1 ∨ ss = 4 ∨ ss = 5 := by simpa using hs
     all_goals
     ·rw [← hfe]
      have hS := (hfr vals1).sub (ts := [75]) (S' := [(75, vals1 2)]) rfl
      replace hS := hS.conv (t := 75) rfl (show (vals1 2) = .pointer (some ⟨b_s0, 0, none⟩) from hV 2 (by decide))
      exact L_val hS rfl (Ob_c tMv2 rfl) ⟨rfl, hG⟩
    refine .cons (fun ss hs vals1 xw hG hV => ?_) ?_
    ·obtain rfl | rfl | rfl | rfl : ss = 0 ∨ ss = 1 ∨ ss = 4 ∨ ss = 5 := by simpa using hs
     ·rw [← hfe]
      have hS := (hfr vals1).sub (ts := [76]) (S' := [(76, vals1 3)]) rfl
      replace hS := hS.conv (t := 76) rfl (show (vals1 3) = .pointer (some ⟨b_s0, 0, none⟩) from hV 3 (by decide))
      obtain ⟨I2, hI2, H⟩ := Gx.ex hG
      exact L_val hS rfl (Ob_load tMv2 rfl rfl rfl ((H.bx 3 rfl).cell 0 rfl)) ⟨rfl, hG⟩
     ·rw [← hfe]
      have hS := (hfr vals1).sub (ts := [76]) (S' := [(76, vals1 3)]) rfl
      replace hS := hS.conv (t := 76) rfl (show (vals1 3) = .pointer (some ⟨b_s0, 0, none⟩) from hV 3 (by decide))
      obtain ⟨I2, hI2, H⟩ := Gx.ex hG
      exact L_val hS rfl (Ob_load tMv2 rfl rfl rfl ((H.bx 4 rfl).cell 0 rfl)) ⟨rfl, hG⟩
     ·rw [← hfe]
      have hS := (hfr vals1).sub (ts := [76]) (S' := [(76, vals1 3)]) rfl
      replace hS := hS.conv (t := 76) rfl (show (vals1 3) = .pointer (some ⟨b_s0, 0, none⟩) from hV 3 (by decide))
      obtain ⟨I2, hI2, H⟩ := Gx.ex hG
      exact L_val hS rfl (Ob_load tMv2 rfl rfl rfl ((H.bx 4 rfl).cell 0 rfl)) ⟨rfl, hG⟩
     ·rw [← hfe]
      have hS := (hfr vals1).sub (ts := [76]) (S' := [(76, vals1 3)]) rfl
      replace hS := hS.conv (t := 76) rfl (show (vals1 3) = .pointer (some ⟨b_s0, 0, none⟩) from hV 3 (by decide))
      obtain ⟨I2, hI2, H⟩ := Gx.ex hG
      exact L_val hS rfl (Ob_load tMv2 rfl rfl rfl ((H.bx 5 rfl).cell 0 rfl)) ⟨rfl, hG⟩
    refine .cons (fun ss hs vals1 xw hG hV => ?_) ?_
    ·obtain rfl | rfl | rfl | rfl : ss = 0 ∨ ss = 1 ∨ ss = 4 ∨ ss = 5 := by simpa using hs
     all_goals
     ·rw [← hfe]
      have hS := (hfr vals1).sub (ts := [6]) (S' := [(6, .int .i64 i)]) rfl
      exact L_val hS rfl (Ob_c tMv2 rfl) ⟨rfl, hG⟩
    refine .cons (fun ss hs vals1 xw hG hV => ?_) ?_
    ·obtain rfl | rfl | rfl | rfl : ss = 0 ∨ ss = 1 ∨ ss = 4 ∨ ss = 5 := by simpa using hs
     ·rw [← hfe]
      have hS := (hfr vals1).sub (ts := [77, 78]) (S' := [(77, vals1 4), (78, vals1 5)]) rfl
      replace hS := hS.conv (t := 77) rfl (show (vals1 4) = v2 from hV 4 (by decide))
      replace hS := hS.conv (t := 78) rfl (show (vals1 5) = .int .i64 i from hV 5 (by decide))
      obtain ⟨I2, hI2, H⟩ := Gx.ex hG
      exact L_val hS rfl (Ob_sidx tMv2 rfl rfl rfl rfl (slPl (H.rwA 2 1 rfl rfl rfl) hg3) hg3) ⟨rfl, hG⟩
     ·rw [← hfe]
      have hS := (hfr vals1).sub (ts := [77, 78]) (S' := [(77, vals1 4), (78, vals1 5)]) rfl
      replace hS := hS.conv (t := 77) rfl (show (vals1 4) = v2 from hV 4 (by decide))
      replace hS := hS.conv (t := 78) rfl (show (vals1 5) = .int .i64 i from hV 5 (by decide))
      obtain ⟨I2, hI2, H⟩ := Gx.ex hG
      exact L_val hS rfl (Ob_sidx tMv2 rfl rfl rfl rfl (slPl (H.rwA 3 2 rfl rfl rfl) hg3) hg3) ⟨rfl, hG⟩
     ·rw [← hfe]
      have hS := (hfr vals1).sub (ts := [77, 78]) (S' := [(77, vals1 4), (78, vals1 5)]) rfl
      replace hS := hS.conv (t := 77) rfl (show (vals1 4) = v2 from hV 4 (by decide))
      replace hS := hS.conv (t := 78) rfl (show (vals1 5) = .int .i64 i from hV 5 (by decide))
      obtain ⟨I2, hI2, H⟩ := Gx.ex hG
      exact L_val hS rfl (Ob_sidx tMv2 rfl rfl rfl rfl (slPl (H.rwA 3 2 rfl rfl rfl) hg3) hg3) ⟨rfl, hG⟩
     ·rw [← hfe]
      have hS := (hfr vals1).sub (ts := [77, 78]) (S' := [(77, vals1 4), (78, vals1 5)]) rfl
      replace hS := hS.conv (t := 77) rfl (show (vals1 4) = v2 from hV 4 (by decide))
      replace hS := hS.conv (t := 78) rfl (show (vals1 5) = .int .i64 i from hV 5 (by decide))
      obtain ⟨I2, hI2, H⟩ := Gx.ex hG
      exact L_val hS rfl (Ob_sidx tMv2 rfl rfl rfl rfl (slPl (H.rwA 4 3 rfl rfl rfl) hg3) hg3) ⟨rfl, hG⟩
    refine .cons (fun ss hs vals1 xw hG hV => ?_) ?_
    ·obtain rfl | rfl | rfl | rfl : ss = 0 ∨ ss = 1 ∨ ss = 4 ∨ ss = 5 := by simpa using hs
     all_goals
     ·rw [← hfe]
      have hS := (hfr vals1).sub (ts := [79]) (S' := [(79, vals1 6)]) rfl
      replace hS := hS.conv (t := 79) rfl (show (vals1 6) = .pointer (some ⟨blkOf v2, oofOf v2 + (i).toNat * 2, none⟩) from hV 6 (by decide))
      exact L_val hS rfl (Ob_c tMv2 rfl) ⟨rfl, hG⟩
    refine .cons (fun ss hs vals1 xw hG hV => ?_) ?_
    ·obtain rfl | rfl | rfl | rfl : ss = 0 ∨ ss = 1 ∨ ss = 4 ∨ ss = 5 := by simpa using hs
     ·rw [← hfe]
      have hS := (hfr vals1).sub (ts := [80]) (S' := [(80, vals1 7)]) rfl
      replace hS := hS.conv (t := 80) rfl (show (vals1 7) = .pointer (some ⟨blkOf v2, oofOf v2 + (i).toNat * 2 + 1, none⟩) from hV 7 (by decide))
      obtain ⟨I2, hI2, H⟩ := Gx.ex hG
      exact L_val hS rfl (Ob_load tMv2 rfl rfl rfl ((H.rwAt 2 rfl hl1 hg3 (hcs1 hg3)) 1 _ rfl)) ⟨rfl, hG⟩
     ·rw [← hfe]
      have hS := (hfr vals1).sub (ts := [80]) (S' := [(80, vals1 7)]) rfl
      replace hS := hS.conv (t := 80) rfl (show (vals1 7) = .pointer (some ⟨blkOf v2, oofOf v2 + (i).toNat * 2 + 1, none⟩) from hV 7 (by decide))
      obtain ⟨I2, hI2, H⟩ := Gx.ex hG
      exact L_val hS rfl (Ob_load tMv2 rfl rfl rfl ((H.rwAt 3 rfl hl1 hg3 (hcs1 hg3)) 1 _ rfl)) ⟨rfl, hG⟩
     ·rw [← hfe]
      have hS := (hfr vals1).sub (ts := [80]) (S' := [(80, vals1 7)]) rfl
      replace hS := hS.conv (t := 80) rfl (show (vals1 7) = .pointer (some ⟨blkOf v2, oofOf v2 + (i).toNat * 2 + 1, none⟩) from hV 7 (by decide))
      obtain ⟨I2, hI2, H⟩ := Gx.ex hG
      exact L_val hS rfl (Ob_load tMv2 rfl rfl rfl ((H.rwAt 3 rfl hl1 hg3 (hcs1 hg3)) 1 _ rfl)) ⟨rfl, hG⟩
     ·rw [← hfe]
      have hS := (hfr vals1).sub (ts := [80]) (S' := [(80, vals1 7)]) rfl
      replace hS := hS.conv (t := 80) rfl (show (vals1 7) = .pointer (some ⟨blkOf v2, oofOf v2 + (i).toNat * 2 + 1, none⟩) from hV 7 (by decide))
      obtain ⟨I2, hI2, H⟩ := Gx.ex hG
      exact L_val hS rfl (Ob_load tMv2 rfl rfl rfl ((H.rwAt 4 rfl hl1 hg3 (hcs1 hg3)) 1 _ rfl)) ⟨rfl, hG⟩
    refine .cons (fun ss hs vals1 xw hG hV => ?_) ?_
    ·obtain rfl | rfl : ss = 1 ∨ ss = 5 := by simpa using hs
     ·rw [← hfe]
      have hS := (hfr vals1).sub (ts := [73, 81]) (S' := [(73, vals1 0), (81, vals1 8)]) rfl
      replace hS := hS.conv (t := 73) rfl (show (vals1 0) = .slice (some ⟨blkOf (vals1 0), 0, none⟩) 0 0 from hV 0 (by decide))
      replace hS := hS.conv (t := 81) rfl (show (vals1 8) = u2 from hV 8 (by decide))
      obtain ⟨I2, hI2, H⟩ := Gx.ex hG
      replace H := H.emptyow 0 rfl NECell
      exact L_appO H 0 E_62_YMv2 ((s_l.getD (i).toNat default).l) rfl rfl hS rfl rfl rfl rfl (H.sl2 1 rfl) hg4 (by decide) fun v yw hK H => ⟨trivial, Gx.go hG hI2 hK (fun _ h => h) H⟩
     ·rw [← hfe]
      have hS := (hfr vals1).sub (ts := [73, 81]) (S' := [(73, vals1 0), (81, vals1 8)]) rfl
      replace hS := hS.conv (t := 73) rfl (show (vals1 0) = .slice (some ⟨blkOf (vals1 0), 0, none⟩) 0 0 from hV 0 (by decide))
      replace hS := hS.conv (t := 81) rfl (show (vals1 8) = u2 from hV 8 (by decide))
      obtain ⟨I2, hI2, H⟩ := Gx.ex hG
      replace H := H.emptyow 1 rfl NECell
      exact L_appO H 0 E_62_YMv2 ((s_l.getD (i).toNat default).l) rfl rfl hS rfl rfl rfl rfl (H.sl2 2 rfl) hg4 (by decide) fun v yw hK H => ⟨trivial, Gx.go hG hI2 hK (fun _ h => h) (Hf.sub H [(1, false), (0, false), (0, true), (1, true), (2, false), (2, false), (2, false)] rfl)⟩
    refine .cons (fun ss hs vals1 xw hG hV => ?_) ?_
    ·obtain rfl | rfl | rfl : ss = 0 ∨ ss = 1 ∨ ss = 3 := by simpa using hs
     ·rw [← hfe]
      have hS := (hfr vals1).sub (ts := [5]) (S' := [(5, .pointer (some ⟨b1, 0, none⟩))]) rfl
      obtain ⟨I2, hI2, H⟩ := Gx.ex hG
      exact L_val hS rfl (Ob_loads tMv2 rfl rfl rfl ((H.bx 4 rfl).part 0 rfl)) ⟨rfl, hG⟩
     ·rw [← hfe]
      have hS := (hfr vals1).sub (ts := [5]) (S' := [(5, .pointer (some ⟨b1, 0, none⟩))]) rfl
      obtain ⟨I2, hI2, H⟩ := Gx.ex hG
      exact L_val hS rfl (Ob_loads tMv2 rfl rfl rfl ((H.bx 5 rfl).part 0 rfl)) ⟨rfl, hG⟩
     ·rw [← hfe]
      have hS := (hfr vals1).sub (ts := [5]) (S' := [(5, .pointer (some ⟨b1, 0, none⟩))]) rfl
      obtain ⟨I2, hI2, H⟩ := Gx.ex hG
      exact L_val hS rfl (Ob_loads tMv2 rfl rfl rfl ((H.bx 5 rfl).part 0 rfl)) ⟨rfl, hG⟩
    refine .cons (fun ss hs vals1 xw hG hV => ?_) ?_
    ·obtain rfl | rfl | rfl : ss = 0 ∨ ss = 1 ∨ ss = 3 := by simpa using hs
     all_goals
     ·rw [← hfe]
      have hS := (hfr vals1).sub (ts := [83]) (S' := [(83, vals1 10)]) rfl
      replace hS := hS.conv (t := 83) rfl (show (vals1 10) = .agg #[.int .u64 c.ts, .string c.val, .bool c.del] from hV 10 (by decide))
      obtain ⟨I2, hI2, H⟩ := Gx.ex hG
      exact L_bslice H (vs := [(0, .agg #[.int .u64 c.ts, .string c.val, .bool c.del])]) (cl := [.int .u64 c.ts, .string c.val, .bool c.del]) (e := 71) hS rfl rfl rfl (fun w => run_bslice (z := .agg #[.int .u64 0, .string ByteArray.empty, .bool false]) (m := 3) Try.underlying62 (by kernel_rfl) rfl rfl (by decide) (by simp [Instr.fill, Value.cells]) w) fun yw b hK H => ⟨rfl, Gx.go hG hI2 hK (fun _ h => h) H⟩
    refine .cons (fun ss hs vals1 xw hG hV => ?_) ?_
    ·obtain rfl : ss = 7 := by simpa using hs
     rw [← hfe]
     have hS := (hfr vals1).sub (ts := [82, 84]) (S' := [(82, vals1 9), (84, vals1 11)]) rfl
     replace hS := hS.conv (t := 84) rfl (show (vals1 11) = .slice (some ⟨blkOf (vals1 11), 0, none⟩) 1 1 from hV 11 (by decide))
     obtain ⟨I2, hI2, H⟩ := Gx.ex hG
     exact L_appO H 1 E_62_YMv2 [c] rfl rfl hS rfl rfl rfl rfl (slRep2.box1 (H.bx 0 rfl) ⟨rfl, trivial⟩) hg5 (by decide) fun v yw hK H => ⟨trivial, Gx.go hG hI2 hK (fun _ h => h) (H.sub [(0, false), (1, true), (2, true), (3, false), (3, false), (3, false)] rfl)⟩
    refine .cons (fun ss hs vals1 xw hG hV => ?_) ?_
    ·obtain rfl : ss = 15 := by simpa using hs
     rw [← hfe]
     have hS := (hfr vals1).sub (ts := [85]) (S' := [(85, vals1 12)]) rfl
     exact L_val hS rfl (Ob_c tMv2 rfl) ⟨rfl, hG⟩
    exact .nil
   ·intro vals1 a w4 Z hG hV
    replace Z := Z.sub (ts := [0, 6, 8]) (S' := [(0, .pointer (some ⟨b_s0, 0, none⟩)), (6, .int .i64 i), (8, vals1 13)]) rfl
    replace Z := Z.conv (t := 8) rfl (show (vals1 13) = (vals1 12) from hV 13 (by decide))
    obtain ⟨I3, _, H⟩ := Gx.ex hG
    clear hG hV
    replace Z := Z.sub (ts := [0, 6, 8]) rfl
    replace H : Hf I D w I3 w4 [OwC NECell 71 (vals1 12) ((([] : List ECell) ++ ((s_l.getD (i).toNat default).l)) ++ [c]), SlC NECell u2 ((s_l.getD (i).toNat default).l), RpsC NEref16_Row css1 s_l, OwC (Rraw 2) 83 v2 css1, BxC b_s0 46 [v2, .int .u64 s0.last], BxC b1 71 [.int .u64 c.ts, .string c.val, .bool c.del]] := H
    replace H : Hf I D w I3 w4 [OwC NEref16_Row 83 v2 s_l, OwC NECell 71 (vals1 12) ((([] : List ECell) ++ ((s_l.getD (i).toNat default).l)) ++ [c]), SlC NECell u2 ((s_l.getD (i).toNat default).l), BxC b_s0 46 [v2, .int .u64 s0.last], BxC b1 71 [.int .u64 c.ts, .string c.val, .bool c.del]] := (H.rwShut 3 2 rfl rfl rfl).erase 3 rfl
    refine p_then ?_
    obtain ⟨hg6, hF⟩ := chk_in hF
    refine f_region Z ?_; clear Z; intro Z
    refine s_runk tMv2 Z 3 rfl rfl ?_; clear Z a; intro a Z
    refine s_ob Z (v := v2) rfl rfl (by decide) rfl (Ob_load tMv2 rfl rfl rfl ((H.bx 3 rfl).cell 0 rfl)) ?_; clear Z a; intro a Z
    refine s_runk tMv2 Z 2 rfl rfl ?_; clear Z a; intro a Z
    refine s_ob Z (v := .pointer (some ⟨blkOf v2, oofOf v2 + (i).toNat * 2, none⟩)) rfl rfl (by decide) rfl (Ob_sidx tMv2 rfl rfl rfl rfl (slPl (H.owA 0 rfl) hg6) hg6) ?_; clear Z a; intro a Z
    refine s_runk tMv2 Z 1 rfl rfl ?_; clear Z a; intro a Z
    obtain ⟨I4, _, H⟩ := H.frzow 1 rfl
    replace H : Hf I D w I4 w4 [SlC NECell (vals1 12) ((([] : List ECell) ++ ((s_l.getD (i).toNat default).l)) ++ [c]), OwC NEref16_Row 83 v2 s_l, SlC NECell u2 ((s_l.getD (i).toNat default).l), BxC b_s0 46 [v2, .int .u64 s0.last], BxC b1 71 [.int .u64 c.ts, .string c.val, .bool c.del]] := H
    refine h_setR tMv2 Z H 1 (z := i) (d := default) 1 ({ (s_l.getD (i).toNat default) with l := (([] : List ECell) ++ ((s_l.getD (i).toNat default).l)) ++ [c] } : Eref16_Row) rfl hg6 rfl rfl rfl 2 rfl rfl (slS.one (H.slshape 0 rfl)) rfl rfl (by decide) (fun cl ⟨s0_, e, h0_⟩ => ⟨(vals1 12), by rw [e]; rfl, (H.sl 0 rfl)⟩) ?_; clear H; intro w6 H
    dsimp only [List.eraseIdx] at H
    refine s_end Z [] rfl ?_; clear Z; intro Z
    replace H : Hf I D w I4 w6 [OEref16_Store b_s0 ({ s0 with l := s_l.set (i).toNat ({ (s_l.getD (i).toNat default) with l := (([] : List ECell) ++ ((s_l.getD (i).toNat default).l)) ++ [c] } : Eref16_Row) } : Eref16_Store), SlC NECell (vals1 12) ((([] : List ECell) ++ ((s_l.getD (i).toNat default).l)) ++ [c]), SlC NECell u2 ((s_l.getD (i).toNat default).l), BxC b1 71 [.int .u64 c.ts, .string c.val, .bool c.del]] := H.shutX (v2) [(3, false), (0, false)] rfl
    obtain rfl := some_in hF
    exact f_fall Z (run_results0 rfl) ⟨rfl, I4, (H.sub [(0, false)] rfl).eq rfl⟩
  ·skip
   refine wp_seq ?_
   obtain ⟨hg7, hF⟩ := chk_in hF
   refine f_region Z ?_; clear Z; intro Z
   refine s_runk tMv2 Z 4 rfl rfl ?_; clear Z a; intro a Z
   refine s_ob Z (v := v1) rfl rfl (by decide) rfl (Ob_load tMv2 rfl rfl rfl ((H.bx 1 rfl).cell 0 rfl)) ?_; clear Z a; intro a Z
   refine s_ob Z (v := .int .i64 (s0.l.length : Int)) rfl rfl (by decide) rfl (Ob_slen tMv2 rfl rfl rfl (H.owshape 2 rfl)) ?_; clear Z a; intro a Z
   refine s_runk tMv2 Z 2 rfl rfl ?_; clear Z a; intro a Z
   refine g_ob Z (p := (!(i == (s0.l.length : Int)))) (v := .pointer (some ⟨b_s0, 0, none⟩)) (S' := [(0, .pointer (some ⟨b_s0, 0, none⟩))]) rfl rfl rfl (wantB_f _) rfl (by decide) (fun hp hS => hS.sub (ts := [0]) rfl) (fun hp => Ob_c tMv2 rfl) ?_; clear Z a; intro a Z
   refine g_ob Z (p := (!(i == (s0.l.length : Int)))) (v := .pointer (some ⟨b_s0, 0, none⟩)) (S' := [(38, .pointer (some ⟨b_s0, 0, none⟩))]) rfl rfl rfl (wantB_f _) rfl (by decide) (fun hp hS => (hS.conv (t := 38) rfl (cond_t hp)).sub (ts := [38]) rfl) (fun hp => Ob_c tMv2 rfl) ?_; clear Z a; intro a Z
   refine g_ob Z (p := (!(i == (s0.l.length : Int)))) (v := .pointer (some ⟨b_s0, 0, none⟩)) (S' := [(39, .pointer (some ⟨b_s0, 0, none⟩))]) rfl rfl rfl (wantB_f _) rfl (by decide) (fun hp hS => (hS.conv (t := 39) rfl (cond_t hp)).sub (ts := [39]) rfl) (fun hp => Ob_c tMv2 rfl) ?_; clear Z a; intro a Z
   refine g_ob Z (p := (!(i == (s0.l.length : Int)))) (v := v1) (S' := [(40, .pointer (some ⟨b_s0, 0, none⟩))]) rfl rfl rfl (wantB_f _) rfl (by decide) (fun hp hS => (hS.conv (t := 40) rfl (cond_t hp)).sub (ts := [40]) rfl) (fun hp => Ob_load tMv2 rfl rfl rfl ((H.bx 1 rfl).cell 0 rfl)) ?_; clear Z a; intro a Z
   refine g_ob Z (p := (!(i == (s0.l.length : Int)))) (v := .int .i64 i) (S' := [(6, .int .i64 i)]) rfl rfl rfl (wantB_f _) rfl (by decide) (fun hp hS => hS.sub (ts := [6]) rfl) (fun hp => Ob_c tMv2 rfl) ?_; clear Z a; intro a Z
   refine g_ob Z (p := (!(i == (s0.l.length : Int)))) (v := .pointer (some ⟨blkOf v1, oofOf v1 + (i).toNat * 2, none⟩)) (S' := [(41, v1), (42, .int .i64 i)]) rfl rfl rfl (wantB_f _) rfl (by decide) (fun hp hS => ((hS.conv (t := 41) rfl (cond_t hp)).conv (t := 42) rfl (cond_t hp)).sub (ts := [41, 42]) rfl) (fun hp => Ob_sidx tMv2 rfl rfl rfl rfl (slPl (H.owA 2 rfl) (hg7 hp)) (hg7 hp)) ?_; clear Z a; intro a Z
   refine g_ob Z (p := (!(i == (s0.l.length : Int)))) (v := .pointer (some ⟨blkOf v1, oofOf v1 + (i).toNat * 2, none⟩)) (S' := [(43, .pointer (some ⟨blkOf v1, oofOf v1 + (i).toNat * 2, none⟩))]) rfl rfl rfl (wantB_f _) rfl (by decide) (fun hp hS => (hS.conv (t := 43) rfl (cond_t hp)).sub (ts := [43]) rfl) (fun hp => Ob_c tMv2 rfl) ?_; clear Z a; intro a Z
   obtain ⟨_, ⟨u3, rfl, L3⟩, hat2⟩ := H.owElG 2 rfl (i) (NEref16_Row.dft _ _)
   replace H : Hf I D w I1 w2 [SlC NECell u3 ((s0.l.getD (i).toNat default).l), SlC NECell u1 ((s0.l.getD (i).toNat default).l), BxC b_s0 46 [v1, .int .u64 s0.last], OwC NEref16_Row 83 v1 s0.l, BxC b1 71 [.int .u64 c.ts, .string c.val, .bool c.del]] := H.addsl L3
   refine g_ob Z (p := (!(i == (s0.l.length : Int)))) (v := .string ((s0.l.getD (i).toNat default).k)) (S' := [(44, .pointer (some ⟨blkOf v1, oofOf v1 + (i).toNat * 2, none⟩))]) rfl rfl rfl (wantB_f _) rfl (by decide) (fun hp hS => (hS.conv (t := 44) rfl (cond_t hp)).sub (ts := [44]) rfl) (fun hp => Ob_load tMv2 rfl rfl rfl ((hat2 (hg7 hp)) 0 _ rfl)) ?_; clear Z a; intro a Z
   refine g_ob Z (p := (!(i == (s0.l.length : Int)))) (v := .string k) (S' := [(1, .string k)]) rfl rfl rfl (wantB_f _) rfl (by decide) (fun hp hS => hS.sub (ts := [1]) rfl) (fun hp => Ob_c tMv2 rfl) ?_; clear Z a; intro a Z
   refine g_ob Z (p := (!(i == (s0.l.length : Int)))) (v := .bool (!seqB ((s0.l.getD (i).toNat default).k) k)) (S' := [(45, .string ((s0.l.getD (i).toNat default).k)), (46, .string k)]) rfl rfl rfl (wantB_f _) rfl (by decide) (fun hp hS => ((hS.conv (t := 45) rfl (cond_t hp)).conv (t := 46) rfl (cond_t hp)).sub (ts := [45, 46]) rfl) (fun hp => Ob_c tMv2 rfl) ?_; clear Z a; intro a Z
   refine s_ob Z (v := .bool ((i == (s0.l.length : Int)) || (!seqB ((s0.l.getD (i).toNat default).k) k))) rfl rfl (by decide) rfl (Ob_pick rfl rfl rfl rfl (pick_or _ _)) ?_; clear Z a; intro a Z
   refine s_end Z [0, 1, 5, 6, 48] rfl ?_; clear Z; intro Z
   refine p_then ?_
   refine f_cond Z rfl (fun hc2 => ?_) (fun hc2 => ?_)
   ·replace hF := ite_t hc2 hF
    refine wp_seq ?_
    obtain ⟨hg8, hF⟩ := chk_in hF
    obtain ⟨hg9, hF⟩ := chk_in hF
    obtain ⟨hg10, hF⟩ := chk_in hF
    refine f_region Z ?_; clear Z; intro Z
    refine h_bslice Z H (vs := []) (cl := []) (e := 83) rfl rfl rfl (by decide) rfl rfl (fun w => run_bslice (z := .agg #[.string ByteArray.empty, .slice none 0 0]) (m := 2) Try.underlying44 (by kernel_rfl) rfl rfl (by decide) (by simp [Instr.fill, Value.cells]) w) ?_; clear Z a H; intro a w7 b2 H Z
    refine s_runk tMv2 Z 3 rfl rfl ?_; clear Z a; intro a Z
    refine s_ob Z (v := v1) rfl rfl (by decide) rfl (Ob_load tMv2 rfl rfl rfl ((H.bx 3 rfl).cell 0 rfl)) ?_; clear Z a; intro a Z
    refine s_runk tMv2 Z 1 rfl rfl ?_; clear Z a; intro a Z
    refine s_ob Z (v := subV v1 0 ((i).toNat) 2) rfl rfl (by decide) rfl (Ob_sub_to tMv2 rfl rfl rfl rfl (H.owshape 4 rfl) hg8) ?_; clear Z a; intro a Z
    replace H : Hf I D w I1 w7 [OwC NEref16_Row 83 (.slice (some ⟨b2, 0, none⟩) 0 0) [], SlC NECell u3 ((s0.l.getD (i).toNat default).l), SlC NECell u1 ((s0.l.getD (i).toNat default).l), BxC b_s0 46 [v1, .int .u64 s0.last], OwC NEref16_Row 83 v1 s0.l, BxC b1 71 [.int .u64 c.ts, .string c.val, .bool c.del]] := H.emptyow 0 rfl NEref16_Row
    refine h_appO Z H 0 E_44_YMv2 (s0.l.take ((i).toNat)) rfl rfl rfl rfl rfl (by decide) rfl rfl rfl ((H.ow2 4 rfl).part_to hg8 2 rfl) hg9 (by decide) ?_; clear Z a H; intro v3 a w8 H Z
    dsimp only [List.eraseIdx] at H
    refine s_runk tMv2 Z 1 rfl rfl ?_; clear Z a; intro a Z
    refine s_ob Z (v := .agg #[.string k, .slice none 0 0]) rfl rfl (by decide) rfl (Ob_build (vs := [(0, .string k)]) rfl rfl (by go_simp <;> rfl)) ?_; clear Z a; intro a Z
    refine h_bslice Z H (vs := [(0, .agg #[.string k, .slice none 0 0])]) (cl := [.string k, .slice none 0 0]) (e := 83) rfl rfl rfl (by decide) rfl rfl (fun w => run_bslice (z := .agg #[.string ByteArray.empty, .slice none 0 0]) (m := 2) Try.underlying44 (by kernel_rfl) rfl rfl (by decide) (by simp [Instr.fill, Value.cells]) w) ?_; clear Z a H; intro a w9 b3 H Z
    replace H : Hf I D w I1 w9 [SlC NECell (.slice none 0 0) ([] : List ECell), BxC b3 83 [.string k, .slice none 0 0], OwC NEref16_Row 83 v3 ([] ++ (s0.l.take ((i).toNat))), SlC NECell u3 ((s0.l.getD (i).toNat default).l), SlC NECell u1 ((s0.l.getD (i).toNat default).l), BxC b_s0 46 [v1, .int .u64 s0.last], OwC NEref16_Row 83 v1 s0.l, BxC b1 71 [.int .u64 c.ts, .string c.val, .bool c.del]] := H.slNil NECell
    refine h_appO Z H 2 E_44_YMv2 [({ k := k, l := ([] : List ECell) } : Eref16_Row)] rfl rfl rfl rfl rfl (by decide) rfl rfl rfl (slRep2.box1 (H.bx 1 rfl) ⟨_, rfl, (H.sl 0 rfl)⟩) hg10 (by decide) ?_; clear Z a H; intro v4 a w10 H Z
    dsimp only [List.eraseIdx] at H
    replace H : Hf I D w I1 w10 [OwC NEref16_Row 83 v4 (([] ++ (s0.l.take ((i).toNat))) ++ [({ k := k, l := ([] : List ECell) } : Eref16_Row)]), SlC NECell (.slice none 0 0) ([] : List ECell), SlC NECell u3 ((s0.l.getD (i).toNat default).l), SlC NECell u1 ((s0.l.getD (i).toNat default).l), BxC b_s0 46 [v1, .int .u64 s0.last], OwC NEref16_Row 83 v1 s0.l, BxC b1 71 [.int .u64 c.ts, .string c.val, .bool c.del]] := H.sub [(0, false), (0, true), (2, true), (3, true), (4, false), (4, false), (4, false)] rfl
    refine s_runk tMv2 Z 1 rfl rfl ?_; clear Z a; intro a Z
    refine s_end Z [0, 5, 6, 7] rfl ?_; clear Z; intro Z
    refine p_then (wp_seq ?_)
    obtain ⟨hg11, hF⟩ := chk_in hF
    obtain ⟨hg12, hF⟩ := chk_in hF
    refine f_region Z ?_; clear Z; intro Z
    refine s_runk tMv2 Z 4 rfl rfl ?_; clear Z a; intro a Z
    refine s_ob Z (v := v1) rfl rfl (by decide) rfl (Ob_load tMv2 rfl rfl rfl ((H.bx 4 rfl).cell 0 rfl)) ?_; clear Z a; intro a Z
    refine s_runk tMv2 Z 1 rfl rfl ?_; clear Z a; intro a Z
    refine s_ob Z (v := subV v1 ((i).toNat) s0.l.length 2) rfl rfl (by decide) rfl (Ob_sub_from tMv2 rfl rfl rfl rfl (H.owshape 5 rfl) hg11) ?_; clear Z a; intro a Z
    refine h_appO Z H 0 E_44_YMv2 (s0.l.drop ((i).toNat)) rfl rfl rfl rfl rfl (by decide) rfl rfl rfl ((H.ow2 5 rfl).part_from hg11 2 rfl) hg12 (by decide) ?_; clear Z a H; intro v5 a w11 H Z
    dsimp only [List.eraseIdx] at H
    refine s_runk tMv2 Z 1 rfl rfl ?_; clear Z a; intro a Z
    refine s_end Z [0, 5, 6, 7] rfl ?_; clear Z; intro Z
    refine p_then ?_
    refine f_region Z ?_; clear Z; intro Z
    refine s_runk tMv2 Z 4 rfl rfl ?_; clear Z a; intro a Z
    refine h_store tMv2 Z H 4 rfl rfl rfl rfl rfl rfl (slS.cells (H.owshape 0 rfl)) rfl rfl (one_cons (slS.one (H.owshape 0 rfl)) one_nil) (Nat.le_of_ble_eq_true rfl) rfl ?_; clear H; intro w12 H
    dsimp only [List.eraseIdx] at H
    refine s_end Z [0, 5, 6] rfl ?_; clear Z; intro Z
    refine p_then ?_
    exact ⟨(([] ++ (s0.l.take ((i).toNat))) ++ [({ k := k, l := ([] : List ECell) } : Eref16_Row)]) ++ (s0.l.drop ((i).toNat)), v5, Z.sub (ts := [0, 5, 6]) rfl, ⟨I1, (H.sub [(0, false), (5, false), (0, false)] rfl).eq rfl⟩, hF⟩
   ·replace hF := ite_f hc2 hF
    refine wp_skip ?_
    refine p_then ?_
    exact ⟨s0.l, v1, Z.sub (ts := [0, 5, 6]) rfl, ⟨I1, (H.sub [(2, false), (3, false), (2, false)] rfl).eq rfl⟩, hF⟩

def F_ref05_Check (k : ByteArray) : Option Int := if ((decide ((k.size : Int) < 1)) || (decide ((k.size : Int) > 8))) = true then (some 10) else (some 0)

def F_ref06_Check_l1 (b : EBatch) (rc : Int → Option Int) (sg : Int) : Option Int := match sg with | i => if (decide (i < (b.ops.length : Int))) = true then (chk ((0 : Int) ≤ i ∧ i < (b.ops.length : Int)) ((F_ref05_Check ((b.ops.getD (i).toNat default).key)).bind fun c => (if (c != 0) = true then (some 10) else (if (decide ((((b.ops.getD (i).toNat default).val).size : Int) > 8)) = true then (some 3) else (if (((b.ops.getD (i).toNat default).del) && (!seqB ((b.ops.getD (i).toNat default).val) ⟨#[]⟩)) = true then (some 4) else (chk ((decide (i > 0)) = true → inI (i - 1)) (chk ((decide (i > 0)) = true → (0 : Int) ≤ i - 1 ∧ i - 1 < (b.ops.length : Int)) (if ((decide (i > 0)) && (!sltB ((b.ops.getD (i - 1).toNat default).key) ((b.ops.getD (i).toNat default).key))) = true then (some 18) else (chk (inI (i + 1)) (rc (i + 1))))))))))) else (some 0)

def F_ref06_Check (b : EBatch) : Option Int := if ((decide (b.client < 0)) || (decide (b.client ≥ 3))) = true then (some 1) else (if ((decide (b.req < 1)) || (decide (b.req > 1073741824))) = true then (some 5) else (if (decide ((b.ops.length : Int) > 4)) = true then (some 6) else (iter (F_ref06_Check_l1 b) FU 0)))

def F_ref06_SamePairs_l1 (a0 : List EPair) (b : List EPair) (rc : Int → Option Bool) (sg : Int) : Option Bool := match sg with | i => if ((decide (i < (a0.length : Int))) && (decide (i < (b.length : Int)))) = true then (chk ((0 : Int) ≤ i ∧ i < (a0.length : Int)) (chk ((0 : Int) ≤ i ∧ i < (b.length : Int)) (if (!eqEPair (a0.getD (i).toNat default) (b.getD (i).toNat default)) = true then (some false) else (chk (inI (i + 1)) (rc (i + 1)))))) else (some true)

def F_ref06_SamePairs (a0 : List EPair) (b : List EPair) : Option Bool := if ((a0.length : Int) != (b.length : Int)) = true then (some false) else (iter (F_ref06_SamePairs_l1 a0 b) FU 0)

set_option maxHeartbeats 1000000 in
theorem c_ref06_SamePairs {I D : Dm} {a0 : List EPair} {v1_a0 : Value} {b : List EPair} {v2_b : Value} {w : World} {rr : Bool} (hF : F_ref06_SamePairs a0 b = some rr) (H : St I D w [SlC NEPair v1_a0 a0, SlC NEPair v2_b b]) :
  Calls Try.prog 13 #[v1_a0, v2_b] w (Ret fun vv w' => vv = .bool rr ∧ ∃ I', Hf I D w I' w' []) := by
 replace H := H.hf
 unfold F_ref06_SamePairs at hF
 refine f_enter 32 Try.func13 rfl rfl (Nat.le_of_ble_eq_true rfl) fun a Z => ?_
 replace Z := Z.sub (ts := [0, 1]) rfl
 refine wp_seq (f_region Z ?_); clear Z; intro Z
 refine s_runk tMv2 Z 1 rfl rfl ?_; clear Z a; intro a Z
 refine s_end Z [0, 1, 4] rfl ?_; clear Z; intro Z
 refine p_then (wp_seq ?_)
 refine wp_seq (f_region Z ?_); clear Z; intro Z
 refine s_runk tMv2 Z 1 rfl rfl ?_; clear Z a; intro a Z
 refine s_ob Z (v := .int .i64 (a0.length : Int)) rfl rfl (by decide) rfl (Ob_slen tMv2 rfl rfl rfl (H.slshape 0 rfl)) ?_; clear Z a; intro a Z
 refine s_runk tMv2 Z 1 rfl rfl ?_; clear Z a; intro a Z
 refine s_ob Z (v := .int .i64 (b.length : Int)) rfl rfl (by decide) rfl (Ob_slen tMv2 rfl rfl rfl (H.slshape 1 rfl)) ?_; clear Z a; intro a Z
 refine s_runk tMv2 Z 1 rfl rfl ?_; clear Z a; intro a Z
 refine s_end Z [0, 1, 4, 10] rfl ?_; clear Z; intro Z
 refine p_then ?_
 refine f_cond Z rfl (fun hc1 => ?_) (fun hc1 => ?_)
 ·replace hF := ite_t hc1 hF
  refine wp_seq (f_region Z ?_); clear Z; intro Z
  refine s_runk tMv2 Z 1 rfl rfl ?_; clear Z a; intro a Z
  refine s_end Z [0, 1, 4] rfl ?_; clear Z; intro Z
  refine p_then (wp_ret ?_)
  refine p_then_r ?_
  obtain rfl := some_in hF
  exact f_ret Z (run_results1 rfl Z rfl) ⟨rfl, I, (H.sub [] rfl).eq rfl⟩
 ·replace hF := ite_f hc1 hF
  refine wp_skip ?_
  refine p_then (wp_seq ?_)
  refine wp_seq (f_region Z ?_); clear Z; intro Z
  refine s_runk tMv2 Z 1 rfl rfl ?_; clear Z a; intro a Z
  refine s_end Z [0, 1, 4, 5] rfl ?_; clear Z; intro Z
  refine p_then (wp_block ?_)
  refine f_iter hF (fun sg a' w' => match sg with | i => Sl 32 [(0, v1_a0), (1, v2_b), (4, .bool false), (5, .int .i64 i)] a' ∧ ∃ I2, Hf I D w I2 w' [SlC NEPair v1_a0 a0, SlC NEPair v2_b b]) ⟨Z.sub (ts := [0, 1, 4, 5]) rfl, ⟨I, (H.sub [(0, true), (1, true)] rfl).eq rfl⟩⟩ ?_
  clear Z H hF a
  rintro rc i a w1 ⟨Z, I1, H⟩ hF
  unfold F_ref06_SamePairs_l1 at hF
  try dsimp only at hF
  refine wp_seq ?_
  refine wp_seq (f_region Z ?_); clear Z; intro Z
  refine s_runk tMv2 Z 2 rfl rfl ?_; clear Z a; intro a Z
  refine s_ob Z (v := .int .i64 (a0.length : Int)) rfl rfl (by decide) rfl (Ob_slen tMv2 rfl rfl rfl (H.slshape 0 rfl)) ?_; clear Z a; intro a Z
  refine s_runk tMv2 Z 2 rfl rfl ?_; clear Z a; intro a Z
  refine g_ob Z (p := (decide (i < (a0.length : Int)))) (v := .int .i64 i) (S' := [(5, .int .i64 i)]) rfl rfl rfl (wantB_t _) rfl (by decide) (fun hp hS => hS.sub (ts := [5]) rfl) (fun hp => Ob_c tMv2 rfl) ?_; clear Z a; intro a Z
  refine g_ob Z (p := (decide (i < (a0.length : Int)))) (v := v2_b) (S' := [(1, v2_b)]) rfl rfl rfl (wantB_t _) rfl (by decide) (fun hp hS => hS.sub (ts := [1]) rfl) (fun hp => Ob_c tMv2 rfl) ?_; clear Z a; intro a Z
  refine g_ob Z (p := (decide (i < (a0.length : Int)))) (v := .int .i64 (b.length : Int)) (S' := [(17, v2_b)]) rfl rfl rfl (wantB_t _) rfl (by decide) (fun hp hS => (hS.conv (t := 17) rfl (cond_t hp)).sub (ts := [17]) rfl) (fun hp => Ob_slen tMv2 rfl rfl rfl (H.slshape 1 rfl)) ?_; clear Z a; intro a Z
  refine g_ob Z (p := (decide (i < (a0.length : Int)))) (v := .bool (decide (i < (b.length : Int)))) (S' := [(16, .int .i64 i), (18, .int .i64 (b.length : Int))]) rfl rfl rfl (wantB_t _) rfl (by decide) (fun hp hS => ((hS.conv (t := 16) rfl (cond_t hp)).conv (t := 18) rfl (cond_t hp)).sub (ts := [16, 18]) rfl) (fun hp => Ob_c tMv2 rfl) ?_; clear Z a; intro a Z
  refine s_ob Z (v := .bool ((decide (i < (a0.length : Int))) && (decide (i < (b.length : Int))))) rfl rfl (by decide) rfl (Ob_pick rfl rfl rfl rfl (pick_and _ _)) ?_; clear Z a; intro a Z
  refine s_end Z [0, 1, 4, 5, 11, 12, 13, 14, 15, 20] rfl ?_; clear Z; intro Z
  refine p_then ?_
  refine f_cond Z rfl (fun hc2 => ?_) (fun hc2 => ?_)
  ·replace hF := ite_t hc2 hF
   refine wp_skip ?_
   refine p_then (wp_seq ?_)
   refine wp_block ?_
   refine wp_seq ?_
   obtain ⟨hg1, hF⟩ := chk_in hF
   obtain ⟨hg2, hF⟩ := chk_in hF
   refine f_quietd (by kernel_rfl) (by kernel_rfl) Z ?_; clear Z; intro Z
   refine q_runk tMv2 Z 2 rfl rfl ?_; clear Z a; intro a Z
   refine q_ob Z (v := .pointer (some ⟨blkOf v1_a0, oofOf v1_a0 + (i).toNat * 2, none⟩)) rfl rfl (by decide) rfl (fun _ hw => Ob_sidx tMv2 rfl rfl rfl rfl (slPl ((H.blw hw).sl 0 rfl) hg1) hg1) ?_; clear Z a; intro a Z
   refine q_ob Z (v := .agg #[.string ((a0.getD (i).toNat default).key), .string ((a0.getD (i).toNat default).val)]) rfl rfl (by decide) rfl (fun _ hw => Ob_loads tMv2 rfl rfl rfl ((slFl ((H.blw hw).sl 0 rfl) hg1).part 0 rfl)) ?_; clear Z a; intro a Z
   refine q_runk tMv2 Z 2 rfl rfl ?_; clear Z a; intro a Z
   refine q_ob Z (v := .pointer (some ⟨blkOf v2_b, oofOf v2_b + (i).toNat * 2, none⟩)) rfl rfl (by decide) rfl (fun _ hw => Ob_sidx tMv2 rfl rfl rfl rfl (slPl ((H.blw hw).sl 1 rfl) hg2) hg2) ?_; clear Z a; intro a Z
   refine q_ob Z (v := .agg #[.string ((b.getD (i).toNat default).key), .string ((b.getD (i).toNat default).val)]) rfl rfl (by decide) rfl (fun _ hw => Ob_loads tMv2 rfl rfl rfl ((slFl ((H.blw hw).sl 1 rfl) hg2).part 0 rfl)) ?_; clear Z a; intro a Z
   refine q_ob Z (v := .bool (!eqEPair (a0.getD (i).toNat default) (b.getD (i).toNat default))) rfl rfl (by decide) rfl (fun _ hw => Ob_bin rfl rfl rfl (eqg_EPair _ _ _ _ _ _) (neq_EPair (a0.getD (i).toNat default) (b.getD (i).toNat default) _)) ?_; clear Z a; intro a Z
   refine q_end Z [0, 1, 4, 5, 11, 12, 13, 14, 15, 20, 23, 24, 25, 26, 27, 28, 29, 30, 31] rfl ?_; clear Z; intro w2 hb Z
   replace H : Hf I D w I1 w2 [SlC NEPair v1_a0 a0, SlC NEPair v2_b b] := H.blw hb
   clear hb
   refine p_then ?_
   refine f_cond Z rfl (fun hc3 => ?_) (fun hc3 => ?_)
   ·replace hF := ite_t hc3 hF
    refine wp_seq (f_region Z ?_); clear Z; intro Z
    refine s_runk tMv2 Z 1 rfl rfl ?_; clear Z a; intro a Z
    refine s_end Z [0, 1, 4, 5, 11, 12, 13, 14, 15, 20, 23, 24, 25, 26, 27, 28, 29, 30, 31] rfl ?_; clear Z; intro Z
    refine p_then (wp_ret ?_)
    refine p_blk_r ?_
    refine p_then_r ?_
    refine p_then_r ?_
    refine p_blk_r ?_
    refine p_then_r ?_
    obtain rfl := some_in hF
    exact f_ret Z (run_results1 rfl Z rfl) ⟨rfl, I1, (H.sub [] rfl).eq rfl⟩
   ·replace hF := ite_f hc3 hF
    refine wp_skip ?_
    refine p_blk ?_
    refine p_then ?_
    obtain ⟨hg3, hF⟩ := chk_in hF
    refine f_region Z ?_; clear Z; intro Z
    refine s_runk tMv2 Z 1 rfl rfl ?_; clear Z a; intro a Z
    refine s_ob Z (v := .int .i64 (i + 1)) rfl rfl (by decide) rfl (Ob_add rfl rfl rfl (wrI hg3)) ?_; clear Z a; intro a Z
    refine s_runk tMv2 Z 1 rfl rfl ?_; clear Z a; intro a Z
    refine s_end Z [0, 1, 4, 5, 11, 12, 13, 14, 15, 20, 23, 24, 25, 26, 27, 28, 29, 30, 31, 21, 22] rfl ?_; clear Z; intro Z
    refine p_then ?_
    exact ⟨(i + 1), ⟨Z.sub (ts := [0, 1, 4, 5]) rfl, ⟨I1, (H.sub [(0, true), (1, true)] rfl).eq rfl⟩⟩, hF⟩
  ·replace hF := ite_f hc2 hF
   refine wp_exit ?_
   refine p_then_x ?_
   refine p_then_x ?_
   refine f_exit_here ?_
   refine p_then (wp_seq (f_region Z ?_)); clear Z; intro Z
   refine s_runk tMv2 Z 1 rfl rfl ?_; clear Z a; intro a Z
   refine s_end Z [4] rfl ?_; clear Z; intro Z
   refine p_then (wp_ret ?_)
   obtain rfl := some_in hF
   exact f_ret Z (run_results1 rfl Z rfl) ⟨rfl, I1, (H.sub [] rfl).eq rfl⟩

def F_ref05_Set_k2 (i : Int) (rc : ((List ByteArray) × Int) → Option (List ByteArray)) (out_2 : List ByteArray) (k : Int) (x : Int) (x_2 : Bool) (x_3 : Bool) (x_4 : Bool) (x_5 : Int) (x_6 : Bool) (x_7 : Bool) (x_8 : Bool) : Option (List ByteArray) := chk (inI (i + 1)) (rc (out_2, i + 1))

def F_ref05_Set_l3 (l : List ByteArray) (out : List ByteArray) (i : Int) (rc : ((List ByteArray) × Int) → Option (List ByteArray)) (rc_2 : Int → Option (List ByteArray)) (sg : Int) : Option (List ByteArray) := match sg with | k_2 => chk ((decide (k_2 < (out.length : Int))) = true → (0 : Int) ≤ k_2 ∧ k_2 < (out.length : Int)) (chk ((decide (k_2 < (out.length : Int))) = true → (0 : Int) ≤ i ∧ i < (l.length : Int)) (if ((decide (k_2 < (out.length : Int))) && (sltB (out.getD (k_2).toNat default) (l.getD (i).toNat default))) = true then (chk (inI (k_2 + 1)) (rc_2 (k_2 + 1))) else (chk ((decide (k_2 < (out.length : Int))) = true → (0 : Int) ≤ k_2 ∧ k_2 < (out.length : Int)) (chk ((decide (k_2 < (out.length : Int))) = true → (0 : Int) ≤ i ∧ i < (l.length : Int)) (if ((decide (k_2 < (out.length : Int))) && (seqB (out.getD (k_2).toNat default) (l.getD (i).toNat default))) = true then (F_ref05_Set_k2 i rc out k_2 k_2 (decide (k_2 < (out.length : Int))) (decide (k_2 < (out.length : Int))) ((decide (k_2 < (out.length : Int))) && (sltB (out.getD (k_2).toNat default) (l.getD (i).toNat default))) k_2 (decide (k_2 < (out.length : Int))) (decide (k_2 < (out.length : Int))) ((decide (k_2 < (out.length : Int))) && (seqB (out.getD (k_2).toNat default) (l.getD (i).toNat default)))) else (chk ((0 : Int) ≤ k_2 ∧ k_2 ≤ (out.length : Int)) (chk ((0 : Int) ≤ k_2 ∧ k_2 ≤ (out.length : Int)) (chk (((([] : List ByteArray).length + (out.take ((k_2).toNat)).length : Nat) : Int) * 16 ≤ 140737488355328) (chk ((0 : Int) ≤ i ∧ i < (l.length : Int)) (chk ((((([] : List ByteArray) ++ (out.take ((k_2).toNat))).length + [(l.getD (i).toNat default)].length : Nat) : Int) * 16 ≤ 140737488355328) (chk ((0 : Int) ≤ k_2 ∧ k_2 ≤ (out.length : Int)) (chk (((((([] : List ByteArray) ++ (out.take ((k_2).toNat))) ++ [(l.getD (i).toNat default)]).length + (out.drop ((k_2).toNat)).length : Nat) : Int) * 16 ≤ 140737488355328) (F_ref05_Set_k2 i rc (((([] : List ByteArray) ++ (out.take ((k_2).toNat))) ++ [(l.getD (i).toNat default)]) ++ (out.drop ((k_2).toNat))) k_2 k_2 (decide (k_2 < (out.length : Int))) (decide (k_2 < (out.length : Int))) ((decide (k_2 < (out.length : Int))) && (sltB (out.getD (k_2).toNat default) (l.getD (i).toNat default))) k_2 (decide (k_2 < (out.length : Int))) (decide (k_2 < (out.length : Int))) ((decide (k_2 < (out.length : Int))) && (seqB (out.getD (k_2).toNat default) (l.getD (i).toNat default))))))))))))))))

def F_ref05_Set_l1 (l : List ByteArray) (rc : ((List ByteArray) × Int) → Option (List ByteArray)) (sg : (List ByteArray) × Int) : Option (List ByteArray) := match sg with | (out, i) => if (decide (i < (l.length : Int))) = true then (iter (F_ref05_Set_l3 l out i rc) FU 0) else (some out)

def F_ref05_Set (l : List ByteArray) : Option (List ByteArray) := iter (F_ref05_Set_l1 l) FU (([] : List ByteArray), 0)

set_option maxHeartbeats 1000000 in
theorem c_ref05_Set {I D : Dm} {l : List ByteArray} {v1_l : Value} {w : World} {rr : List ByteArray} (hF : F_ref05_Set l = some rr) (H : St I D w [SlC NS v1_l l]) :
  Calls Try.prog 46 #[v1_l] w (Ret fun vv w' => ∃ q1 : Value, vv = q1 ∧ ∃ I', Hf I D w I' w' [SlC NS q1 rr]) := by
 replace H := H.hf
 unfold F_ref05_Set at hF
 refine f_enter 63 Try.func46 rfl rfl (Nat.le_of_ble_eq_true rfl) fun a Z => ?_
 replace Z := Z.sub (ts := [0]) rfl
 refine wp_seq (f_region Z ?_); clear Z; intro Z
 refine s_runk tMv2 Z 1 rfl rfl ?_; clear Z a; intro a Z
 refine s_end Z [0, 2] rfl ?_; clear Z; intro Z
 refine p_then (wp_seq (f_region Z ?_)); clear Z; intro Z
 refine s_runk tMv2 Z 1 rfl rfl ?_; clear Z a; intro a Z
 refine s_end Z [0, 2, 3] rfl ?_; clear Z; intro Z
 refine p_then (wp_seq ?_)
 refine wp_seq (f_region Z ?_); clear Z; intro Z
 refine s_runk tMv2 Z 1 rfl rfl ?_; clear Z a; intro a Z
 refine s_end Z [0, 2, 3, 4] rfl ?_; clear Z; intro Z
 refine p_then (wp_block ?_)
 replace H : Hf I D w I w [SlC NS (.slice none 0 0) ([] : List ByteArray), SlC NS v1_l l] := H.slNil NS
 refine f_iter hF (fun sg a' w' => match sg with | (out, i) => ∃ v2 : Value, Sl 63 [(0, v1_l), (2, .slice none 0 0), (3, v2), (4, .int .i64 i)] a' ∧ ∃ I2, Hf I D w I2 w' [SlC NS v1_l l, SlC NS v2 out]) ⟨.slice none 0 0, Z.sub (ts := [0, 2, 3, 4]) rfl, ⟨I, (H.sub [(1, true), (0, true)] rfl).eq rfl⟩⟩ ?_
 clear Z H hF a
 rintro rc ⟨out, i⟩ a w1 ⟨v2, Z, I1, H⟩ hF
 unfold F_ref05_Set_l1 at hF
 try dsimp only at hF
 refine wp_seq ?_
 refine wp_seq (f_region Z ?_); clear Z; intro Z
 refine s_runk tMv2 Z 2 rfl rfl ?_; clear Z a; intro a Z
 refine s_ob Z (v := .int .i64 (l.length : Int)) rfl rfl (by decide) rfl (Ob_slen tMv2 rfl rfl rfl (H.slshape 0 rfl)) ?_; clear Z a; intro a Z
 refine s_runk tMv2 Z 1 rfl rfl ?_; clear Z a; intro a Z
 refine s_end Z [0, 2, 3, 4, 7, 8, 9, 10] rfl ?_; clear Z; intro Z
 refine p_then ?_
 refine f_cond Z rfl (fun hc1 => ?_) (fun hc1 => ?_)
 ·replace hF := ite_t hc1 hF
  refine wp_skip ?_
  refine p_then ?_
  refine f_cut (fun a' w' => ∃ (out_2 : List ByteArray) (k : Int) (x : Int) (x_2 : Bool) (x_3 : Bool) (x_4 : Bool) (x_5 : Int) (x_6 : Bool) (x_7 : Bool) (x_8 : Bool), ∃ v3 : Value, Sl 63 [(0, v1_l), (2, .slice none 0 0), (3, v3), (4, .int .i64 i), (5, .int .i64 k), (7, .int .i64 i), (8, v1_l), (9, .int .i64 (l.length : Int)), (10, .bool (decide (i < (l.length : Int)))), (13, .int .i64 x), (14, v2), (15, .int .i64 (out.length : Int)), (16, .bool x_2), (17, .bool x_3), (27, .bool x_4), (30, .int .i64 x_5), (31, v2), (32, .int .i64 (out.length : Int)), (33, .bool x_6), (34, .bool x_7), (44, .bool x_8)] a' ∧ (∃ I2, Hf I D w I2 w' [SlC NS v1_l l, SlC NS v2 out, SlC NS v3 out_2]) ∧ F_ref05_Set_k2 i rc out_2 k x x_2 x_3 x_4 x_5 x_6 x_7 x_8 = some rr) ?_ ?_
  ·rintro a w2 ⟨out_2, k, x, x_2, x_3, x_4, x_5, x_6, x_7, x_8, v3, Z, ⟨I2, H⟩, hF⟩
   unfold F_ref05_Set_k2 at hF
   try dsimp only at hF
   obtain ⟨hg1, hF⟩ := chk_in hF
   refine f_region Z ?_; clear Z; intro Z
   refine s_runk tMv2 Z 1 rfl rfl ?_; clear Z a; intro a Z
   refine s_ob Z (v := .int .i64 (i + 1)) rfl rfl (by decide) rfl (Ob_add rfl rfl rfl (wrI hg1)) ?_; clear Z a; intro a Z
   refine s_runk tMv2 Z 1 rfl rfl ?_; clear Z a; intro a Z
   refine s_end Z [0, 2, 3, 4, 5, 7, 8, 9, 10, 13, 14, 15, 16, 17, 27, 30, 31, 32, 33, 34, 44, 11, 12] rfl ?_; clear Z; intro Z
   refine p_then ?_
   exact ⟨(out_2, i + 1), ⟨v3, Z.sub (ts := [0, 2, 3, 4]) rfl, ⟨I2, (H.sub [(0, true), (2, true)] rfl).eq rfl⟩⟩, hF⟩
  ·skip
   refine wp_block ?_
   refine wp_seq (f_region Z ?_); clear Z; intro Z
   refine s_runk tMv2 Z 1 rfl rfl ?_; clear Z a; intro a Z
   refine s_end Z [0, 2, 3, 4, 7, 8, 9, 10, 5] rfl ?_; clear Z; intro Z
   refine p_then (wp_seq ?_)
   refine wp_block ?_
   refine f_iter hF (fun sg a' w' => match sg with | k_2 => Sl 63 [(0, v1_l), (2, .slice none 0 0), (3, v2), (4, .int .i64 i), (5, .int .i64 k_2), (7, .int .i64 i), (8, v1_l), (9, .int .i64 (l.length : Int)), (10, .bool (decide (i < (l.length : Int))))] a' ∧ ∃ I2, Hf I D w I2 w' [SlC NS v1_l l, SlC NS v2 out]) ⟨Z.sub (ts := [0, 2, 3, 4, 5, 7, 8, 9, 10]) rfl, ⟨I1, (H.sub [(0, true), (1, true)] rfl).eq rfl⟩⟩ ?_
   clear Z H hF a
   rintro rc_2 k_2 a w3 ⟨Z, I3, H⟩ hF
   unfold F_ref05_Set_l3 at hF
   try dsimp only at hF
   refine wp_seq ?_
   refine wp_seq ?_
   obtain ⟨hg2, hF⟩ := chk_in hF
   obtain ⟨hg3, hF⟩ := chk_in hF
   refine f_quietd (by kernel_rfl) (by kernel_rfl) Z ?_; clear Z; intro Z
   refine q_runk tMv2 Z 2 rfl rfl ?_; clear Z a; intro a Z
   refine q_ob Z (v := .int .i64 (out.length : Int)) rfl rfl (by decide) rfl (fun _ hw => Ob_slen tMv2 rfl rfl rfl ((H.blw hw).slshape 1 rfl)) ?_; clear Z a; intro a Z
   refine q_runk tMv2 Z 2 rfl rfl ?_; clear Z a; intro a Z
   refine gq_ob Z (p := (decide (k_2 < (out.length : Int)))) (v := v2) (S' := [(3, v2)]) rfl rfl rfl (wantB_t _) rfl (by decide) (fun hp hS => hS.sub (ts := [3]) rfl) (fun hp _ hw => Ob_c tMv2 rfl) ?_; clear Z a; intro a Z
   refine gq_ob Z (p := (decide (k_2 < (out.length : Int)))) (v := .int .i64 k_2) (S' := [(5, .int .i64 k_2)]) rfl rfl rfl (wantB_t _) rfl (by decide) (fun hp hS => hS.sub (ts := [5]) rfl) (fun hp _ hw => Ob_c tMv2 rfl) ?_; clear Z a; intro a Z
   refine gq_ob Z (p := (decide (k_2 < (out.length : Int)))) (v := .pointer (some ⟨blkOf v2, oofOf v2 + (k_2).toNat * 1, none⟩)) (S' := [(18, v2), (19, .int .i64 k_2)]) rfl rfl rfl (wantB_t _) rfl (by decide) (fun hp hS => ((hS.conv (t := 18) rfl (cond_t hp)).conv (t := 19) rfl (cond_t hp)).sub (ts := [18, 19]) rfl) (fun hp _ hw => Ob_sidx tMv2 rfl rfl rfl rfl (slPl ((H.blw hw).sl 1 rfl) (hg2 hp)) (hg2 hp)) ?_; clear Z a; intro a Z
   refine gq_ob Z (p := (decide (k_2 < (out.length : Int)))) (v := .string (out.getD (k_2).toNat default)) (S' := [(20, .pointer (some ⟨blkOf v2, oofOf v2 + (k_2).toNat * 1, none⟩))]) rfl rfl rfl (wantB_t _) rfl (by decide) (fun hp hS => (hS.conv (t := 20) rfl (cond_t hp)).sub (ts := [20]) rfl) (fun hp _ hw => Ob_load tMv2 rfl rfl rfl ((slFl ((H.blw hw).sl 1 rfl) (hg2 hp)) 0 _ rfl)) ?_; clear Z a; intro a Z
   refine gq_ob Z (p := (decide (k_2 < (out.length : Int)))) (v := v1_l) (S' := [(0, v1_l)]) rfl rfl rfl (wantB_t _) rfl (by decide) (fun hp hS => hS.sub (ts := [0]) rfl) (fun hp _ hw => Ob_c tMv2 rfl) ?_; clear Z a; intro a Z
   refine gq_ob Z (p := (decide (k_2 < (out.length : Int)))) (v := .int .i64 i) (S' := [(4, .int .i64 i)]) rfl rfl rfl (wantB_t _) rfl (by decide) (fun hp hS => hS.sub (ts := [4]) rfl) (fun hp _ hw => Ob_c tMv2 rfl) ?_; clear Z a; intro a Z
   refine gq_ob Z (p := (decide (k_2 < (out.length : Int)))) (v := .pointer (some ⟨blkOf v1_l, oofOf v1_l + (i).toNat * 1, none⟩)) (S' := [(22, v1_l), (23, .int .i64 i)]) rfl rfl rfl (wantB_t _) rfl (by decide) (fun hp hS => ((hS.conv (t := 22) rfl (cond_t hp)).conv (t := 23) rfl (cond_t hp)).sub (ts := [22, 23]) rfl) (fun hp _ hw => Ob_sidx tMv2 rfl rfl rfl rfl (slPl ((H.blw hw).sl 0 rfl) (hg3 hp)) (hg3 hp)) ?_; clear Z a; intro a Z
   refine gq_ob Z (p := (decide (k_2 < (out.length : Int)))) (v := .string (l.getD (i).toNat default)) (S' := [(24, .pointer (some ⟨blkOf v1_l, oofOf v1_l + (i).toNat * 1, none⟩))]) rfl rfl rfl (wantB_t _) rfl (by decide) (fun hp hS => (hS.conv (t := 24) rfl (cond_t hp)).sub (ts := [24]) rfl) (fun hp _ hw => Ob_load tMv2 rfl rfl rfl ((slFl ((H.blw hw).sl 0 rfl) (hg3 hp)) 0 _ rfl)) ?_; clear Z a; intro a Z
   refine gq_ob Z (p := (decide (k_2 < (out.length : Int)))) (v := .bool (sltB (out.getD (k_2).toNat default) (l.getD (i).toNat default))) (S' := [(21, .string (out.getD (k_2).toNat default)), (25, .string (l.getD (i).toNat default))]) rfl rfl rfl (wantB_t _) rfl (by decide) (fun hp hS => ((hS.conv (t := 21) rfl (cond_t hp)).conv (t := 25) rfl (cond_t hp)).sub (ts := [21, 25]) rfl) (fun hp _ hw => Ob_c tMv2 rfl) ?_; clear Z a; intro a Z
   refine q_ob Z (v := .bool ((decide (k_2 < (out.length : Int))) && (sltB (out.getD (k_2).toNat default) (l.getD (i).toNat default)))) rfl rfl (by decide) rfl (fun _ hw => Ob_pick rfl rfl rfl rfl (pick_and _ _)) ?_; clear Z a; intro a Z
   refine q_end Z [0, 2, 3, 4, 5, 7, 8, 9, 10, 13, 14, 15, 16, 17, 27] rfl ?_; clear Z; intro w4 hb Z
   replace H : Hf I D w I3 w4 [SlC NS v1_l l, SlC NS v2 out] := H.blw hb
   clear hb
   refine p_then ?_
   refine f_cond Z rfl (fun hc2 => ?_) (fun hc2 => ?_)
   ·replace hF := ite_t hc2 hF
    refine wp_skip ?_
    refine p_then (wp_block ?_)
    obtain ⟨hg4, hF⟩ := chk_in hF
    refine f_region Z ?_; clear Z; intro Z
    refine s_runk tMv2 Z 1 rfl rfl ?_; clear Z a; intro a Z
    refine s_ob Z (v := .int .i64 (k_2 + 1)) rfl rfl (by decide) rfl (Ob_add rfl rfl rfl (wrI hg4)) ?_; clear Z a; intro a Z
    refine s_runk tMv2 Z 1 rfl rfl ?_; clear Z a; intro a Z
    refine s_end Z [0, 2, 3, 4, 5, 7, 8, 9, 10, 13, 14, 15, 16, 17, 27, 28, 29] rfl ?_; clear Z; intro Z
    refine p_blk ?_
    refine p_then ?_
    exact ⟨(k_2 + 1), ⟨Z.sub (ts := [0, 2, 3, 4, 5, 7, 8, 9, 10]) rfl, ⟨I3, (H.sub [(0, true), (1, true)] rfl).eq rfl⟩⟩, hF⟩
   ·replace hF := ite_f hc2 hF
    refine wp_exit ?_
    refine p_then_x ?_
    refine p_then_x ?_
    refine f_exit_here ?_
    refine p_then (wp_seq ?_)
    refine wp_seq ?_
    obtain ⟨hg5, hF⟩ := chk_in hF
    obtain ⟨hg6, hF⟩ := chk_in hF
    refine f_quietd (by kernel_rfl) (by kernel_rfl) Z ?_; clear Z; intro Z
    refine q_runk tMv2 Z 2 rfl rfl ?_; clear Z a; intro a Z
    refine q_ob Z (v := .int .i64 (out.length : Int)) rfl rfl (by decide) rfl (fun _ hw => Ob_slen tMv2 rfl rfl rfl ((H.blw hw).slshape 1 rfl)) ?_; clear Z a; intro a Z
    refine q_runk tMv2 Z 2 rfl rfl ?_; clear Z a; intro a Z
    refine gq_ob Z (p := (decide (k_2 < (out.length : Int)))) (v := v2) (S' := [(3, v2)]) rfl rfl rfl (wantB_t _) rfl (by decide) (fun hp hS => hS.sub (ts := [3]) rfl) (fun hp _ hw => Ob_c tMv2 rfl) ?_; clear Z a; intro a Z
    refine gq_ob Z (p := (decide (k_2 < (out.length : Int)))) (v := .int .i64 k_2) (S' := [(5, .int .i64 k_2)]) rfl rfl rfl (wantB_t _) rfl (by decide) (fun hp hS => hS.sub (ts := [5]) rfl) (fun hp _ hw => Ob_c tMv2 rfl) ?_; clear Z a; intro a Z
    refine gq_ob Z (p := (decide (k_2 < (out.length : Int)))) (v := .pointer (some ⟨blkOf v2, oofOf v2 + (k_2).toNat * 1, none⟩)) (S' := [(35, v2), (36, .int .i64 k_2)]) rfl rfl rfl (wantB_t _) rfl (by decide) (fun hp hS => ((hS.conv (t := 35) rfl (cond_t hp)).conv (t := 36) rfl (cond_t hp)).sub (ts := [35, 36]) rfl) (fun hp _ hw => Ob_sidx tMv2 rfl rfl rfl rfl (slPl ((H.blw hw).sl 1 rfl) (hg5 hp)) (hg5 hp)) ?_; clear Z a; intro a Z
    refine gq_ob Z (p := (decide (k_2 < (out.length : Int)))) (v := .string (out.getD (k_2).toNat default)) (S' := [(37, .pointer (some ⟨blkOf v2, oofOf v2 + (k_2).toNat * 1, none⟩))]) rfl rfl rfl (wantB_t _) rfl (by decide) (fun hp hS => (hS.conv (t := 37) rfl (cond_t hp)).sub (ts := [37]) rfl) (fun hp _ hw => Ob_load tMv2 rfl rfl rfl ((slFl ((H.blw hw).sl 1 rfl) (hg5 hp)) 0 _ rfl)) ?_; clear Z a; intro a Z
    refine gq_ob Z (p := (decide (k_2 < (out.length : Int)))) (v := v1_l) (S' := [(0, v1_l)]) rfl rfl rfl (wantB_t _) rfl (by decide) (fun hp hS => hS.sub (ts := [0]) rfl) (fun hp _ hw => Ob_c tMv2 rfl) ?_; clear Z a; intro a Z
    refine gq_ob Z (p := (decide (k_2 < (out.length : Int)))) (v := .int .i64 i) (S' := [(4, .int .i64 i)]) rfl rfl rfl (wantB_t _) rfl (by decide) (fun hp hS => hS.sub (ts := [4]) rfl) (fun hp _ hw => Ob_c tMv2 rfl) ?_; clear Z a; intro a Z
    refine gq_ob Z (p := (decide (k_2 < (out.length : Int)))) (v := .pointer (some ⟨blkOf v1_l, oofOf v1_l + (i).toNat * 1, none⟩)) (S' := [(39, v1_l), (40, .int .i64 i)]) rfl rfl rfl (wantB_t _) rfl (by decide) (fun hp hS => ((hS.conv (t := 39) rfl (cond_t hp)).conv (t := 40) rfl (cond_t hp)).sub (ts := [39, 40]) rfl) (fun hp _ hw => Ob_sidx tMv2 rfl rfl rfl rfl (slPl ((H.blw hw).sl 0 rfl) (hg6 hp)) (hg6 hp)) ?_; clear Z a; intro a Z
    refine gq_ob Z (p := (decide (k_2 < (out.length : Int)))) (v := .string (l.getD (i).toNat default)) (S' := [(41, .pointer (some ⟨blkOf v1_l, oofOf v1_l + (i).toNat * 1, none⟩))]) rfl rfl rfl (wantB_t _) rfl (by decide) (fun hp hS => (hS.conv (t := 41) rfl (cond_t hp)).sub (ts := [41]) rfl) (fun hp _ hw => Ob_load tMv2 rfl rfl rfl ((slFl ((H.blw hw).sl 0 rfl) (hg6 hp)) 0 _ rfl)) ?_; clear Z a; intro a Z
    refine gq_ob Z (p := (decide (k_2 < (out.length : Int)))) (v := .bool (seqB (out.getD (k_2).toNat default) (l.getD (i).toNat default))) (S' := [(38, .string (out.getD (k_2).toNat default)), (42, .string (l.getD (i).toNat default))]) rfl rfl rfl (wantB_t _) rfl (by decide) (fun hp hS => ((hS.conv (t := 38) rfl (cond_t hp)).conv (t := 42) rfl (cond_t hp)).sub (ts := [38, 42]) rfl) (fun hp _ hw => Ob_c tMv2 rfl) ?_; clear Z a; intro a Z
    refine q_ob Z (v := .bool ((decide (k_2 < (out.length : Int))) && (seqB (out.getD (k_2).toNat default) (l.getD (i).toNat default)))) rfl rfl (by decide) rfl (fun _ hw => Ob_pick rfl rfl rfl rfl (pick_and _ _)) ?_; clear Z a; intro a Z
    refine q_end Z [0, 2, 3, 4, 5, 7, 8, 9, 10, 13, 14, 15, 16, 17, 27, 30, 31, 32, 33, 34, 44] rfl ?_; clear Z; intro w5 hb Z
    replace H : Hf I D w I3 w5 [SlC NS v1_l l, SlC NS v2 out] := H.blw hb
    clear hb
    refine p_then ?_
    refine f_cond Z rfl (fun hc3 => ?_) (fun hc3 => ?_)
    ·replace hF := ite_t hc3 hF
     refine wp_exit ?_
     refine p_then_x ?_
     refine f_exit_here ?_
     refine p_then ?_
     exact ⟨out, k_2, k_2, decide (k_2 < (out.length : Int)), decide (k_2 < (out.length : Int)), (decide (k_2 < (out.length : Int))) && (sltB (out.getD (k_2).toNat default) (l.getD (i).toNat default)), k_2, decide (k_2 < (out.length : Int)), decide (k_2 < (out.length : Int)), (decide (k_2 < (out.length : Int))) && (seqB (out.getD (k_2).toNat default) (l.getD (i).toNat default)), v2, Z.sub (ts := [0, 2, 3, 4, 5, 7, 8, 9, 10, 13, 14, 15, 16, 17, 27, 30, 31, 32, 33, 34, 44]) rfl, ⟨I3, (H.sub [(0, true), (1, true), (1, true)] rfl).eq rfl⟩, hF⟩
    ·replace hF := ite_f hc3 hF
     refine wp_skip ?_
     refine p_then (wp_seq ?_)
     obtain ⟨hg7, hF⟩ := chk_in hF
     replace H : Hf I D w I3 w5 [SlC NS (subV v2 0 ((k_2).toNat) 1) (out.take ((k_2).toNat)), SlC NS v1_l l, SlC NS v2 out] := H.slPart_to 1 rfl hg7 1 rfl
     obtain ⟨hg8, hF⟩ := chk_in hF
     obtain ⟨hg9, hF⟩ := chk_in hF
     obtain ⟨hg10, hF⟩ := chk_in hF
     obtain ⟨hg11, hF⟩ := chk_in hF
     refine f_regionG Z (by kernel_rfl) (by kernel_rfl) (by decide) (by decide) [0, 4, 9, 10] [(0, [0, 4]), (0, [0, 1, 4, 5]), (0, [0, 1, 4, 5]), (6, [0, 1, 4, 5]), (15, [1, 5]), (0, [0, 1, 3]), (0, [0, 1, 3]), (96, [0, 1, 3]), (224, [0, 1, 3]), (480, [0, 1, 3]), (1023, [7]), (2047, [15])] (by kernel_rfl) (fun jj => match jj with | 11 => 10 | _ => jj) (by kernel_rfl) (fun jj rv vv => match jj with | 0 => vv = .slice (some ⟨blkOf vv, 0, none⟩) 0 0 | 1 => vv = v2 | 2 => vv = .int .i64 k_2 | 3 => vv = subV v2 0 ((k_2).toNat) 1 | 4 => True | 5 => vv = v1_l | 6 => vv = .int .i64 i | 7 => vv = .pointer (some ⟨blkOf v1_l, oofOf v1_l + (i).toNat * 1, none⟩) | 8 => vv = .string (l.getD (i).toNat default) | 9 => vv = .slice (some ⟨blkOf vv, 0, none⟩) 1 1 | 10 => True | 11 => vv = rv | _ => True) (fun ss vals1 xw => match ss with | 0 => Gx I D w I3 w5 xw [SlC NS (subV v2 0 ((k_2).toNat) 1) (out.take ((k_2).toNat)), SlC NS v1_l l, SlC NS v2 out] | 1 => Gx I D w I3 w5 xw [BxC (blkOf (vals1 0)) 9 [], SlC NS (subV v2 0 ((k_2).toNat) 1) (out.take ((k_2).toNat)), SlC NS v1_l l, SlC NS v2 out] | 3 => Gx I D w I3 w5 xw [OwC NS 9 (vals1 4) (([] : List ByteArray) ++ (out.take ((k_2).toNat))), SlC NS (subV v2 0 ((k_2).toNat) 1) (out.take ((k_2).toNat)), SlC NS v1_l l, SlC NS v2 out] | 4 => Gx I D w I3 w5 xw [BxC (blkOf (vals1 9)) 9 [.string (l.getD (i).toNat default)], SlC NS (subV v2 0 ((k_2).toNat) 1) (out.take ((k_2).toNat)), SlC NS v1_l l, SlC NS v2 out] | 5 => Gx I D w I3 w5 xw [BxC (blkOf (vals1 9)) 9 [.string (l.getD (i).toNat default)], BxC (blkOf (vals1 0)) 9 [], SlC NS (subV v2 0 ((k_2).toNat) 1) (out.take ((k_2).toNat)), SlC NS v1_l l, SlC NS v2 out] | 7 => Gx I D w I3 w5 xw [BxC (blkOf (vals1 9)) 9 [.string (l.getD (i).toNat default)], OwC NS 9 (vals1 4) (([] : List ByteArray) ++ (out.take ((k_2).toNat))), SlC NS (subV v2 0 ((k_2).toNat) 1) (out.take ((k_2).toNat)), SlC NS v1_l l, SlC NS v2 out] | _ => Gx I D w I3 w5 xw [OwC NS 9 (vals1 10) ((([] : List ByteArray) ++ (out.take ((k_2).toNat))) ++ [(l.getD (i).toNat default)]), SlC NS (subV v2 0 ((k_2).toNat) 1) (out.take ((k_2).toNat)), SlC NS v1_l l, SlC NS v2 out]) (fun _ => Gx.start H) ?_ ?_
     ·intro fr hfr hfe
      refine .cons (fun ss hs vals1 xw hG hV => ?_) ?_
      ·obtain rfl | rfl : ss = 0 ∨ ss = 4 := by simpa using hs
       ·rw [← hfe]
        have hS := (hfr vals1).sub (ts := []) (S' := []) rfl
        obtain ⟨I2, hI2, H⟩ := Gx.ex hG
        exact L_bslice H (vs := []) (cl := []) (e := 9) hS rfl rfl rfl (fun w => run_bslice (z := .string ByteArray.empty) (m := 1) Try.underlying73 (by kernel_rfl) rfl rfl (by decide) (by simp [Instr.fill, Value.cells]) w) fun yw b hK H => ⟨rfl, Gx.go hG hI2 hK (fun _ h => h) H⟩
       ·rw [← hfe]
        have hS := (hfr vals1).sub (ts := []) (S' := []) rfl
        obtain ⟨I2, hI2, H⟩ := Gx.ex hG
        exact L_bslice H (vs := []) (cl := []) (e := 9) hS rfl rfl rfl (fun w => run_bslice (z := .string ByteArray.empty) (m := 1) Try.underlying73 (by kernel_rfl) rfl rfl (by decide) (by simp [Instr.fill, Value.cells]) w) fun yw b hK H => ⟨rfl, Gx.go hG hI2 hK (fun _ h => h) (Hf.sub H [(1, false), (0, false), (0, true), (1, true), (2, true)] rfl)⟩
      refine .cons (fun ss hs vals1 xw hG hV => ?_) ?_
      ·obtain rfl | rfl | rfl | rfl : ss = 0 ∨ ss = 1 ∨ ss = 4 ∨ ss = 5 := by simpa using hs
       all_goals
       ·rw [← hfe]
        have hS := (hfr vals1).sub (ts := [3]) (S' := [(3, v2)]) rfl
        exact L_val hS rfl (Ob_c tMv2 rfl) ⟨rfl, hG⟩
      refine .cons (fun ss hs vals1 xw hG hV => ?_) ?_
      ·obtain rfl | rfl | rfl | rfl : ss = 0 ∨ ss = 1 ∨ ss = 4 ∨ ss = 5 := by simpa using hs
       all_goals
       ·rw [← hfe]
        have hS := (hfr vals1).sub (ts := [5]) (S' := [(5, .int .i64 k_2)]) rfl
        exact L_val hS rfl (Ob_c tMv2 rfl) ⟨rfl, hG⟩
      refine .cons (fun ss hs vals1 xw hG hV => ?_) ?_
      ·obtain rfl | rfl | rfl | rfl : ss = 0 ∨ ss = 1 ∨ ss = 4 ∨ ss = 5 := by simpa using hs
       ·rw [← hfe]
        have hS := (hfr vals1).sub (ts := [46, 47]) (S' := [(46, vals1 1), (47, vals1 2)]) rfl
        replace hS := hS.conv (t := 46) rfl (show (vals1 1) = v2 from hV 1 (by decide))
        replace hS := hS.conv (t := 47) rfl (show (vals1 2) = .int .i64 k_2 from hV 2 (by decide))
        obtain ⟨I2, hI2, H⟩ := Gx.ex hG
        exact L_val hS rfl (Ob_sub_to tMv2 rfl rfl rfl rfl (H.slshape 2 rfl) hg8) ⟨rfl, hG⟩
       ·rw [← hfe]
        have hS := (hfr vals1).sub (ts := [46, 47]) (S' := [(46, vals1 1), (47, vals1 2)]) rfl
        replace hS := hS.conv (t := 46) rfl (show (vals1 1) = v2 from hV 1 (by decide))
        replace hS := hS.conv (t := 47) rfl (show (vals1 2) = .int .i64 k_2 from hV 2 (by decide))
        obtain ⟨I2, hI2, H⟩ := Gx.ex hG
        exact L_val hS rfl (Ob_sub_to tMv2 rfl rfl rfl rfl (H.slshape 3 rfl) hg8) ⟨rfl, hG⟩
       ·rw [← hfe]
        have hS := (hfr vals1).sub (ts := [46, 47]) (S' := [(46, vals1 1), (47, vals1 2)]) rfl
        replace hS := hS.conv (t := 46) rfl (show (vals1 1) = v2 from hV 1 (by decide))
        replace hS := hS.conv (t := 47) rfl (show (vals1 2) = .int .i64 k_2 from hV 2 (by decide))
        obtain ⟨I2, hI2, H⟩ := Gx.ex hG
        exact L_val hS rfl (Ob_sub_to tMv2 rfl rfl rfl rfl (H.slshape 3 rfl) hg8) ⟨rfl, hG⟩
       ·rw [← hfe]
        have hS := (hfr vals1).sub (ts := [46, 47]) (S' := [(46, vals1 1), (47, vals1 2)]) rfl
        replace hS := hS.conv (t := 46) rfl (show (vals1 1) = v2 from hV 1 (by decide))
        replace hS := hS.conv (t := 47) rfl (show (vals1 2) = .int .i64 k_2 from hV 2 (by decide))
        obtain ⟨I2, hI2, H⟩ := Gx.ex hG
        exact L_val hS rfl (Ob_sub_to tMv2 rfl rfl rfl rfl (H.slshape 4 rfl) hg8) ⟨rfl, hG⟩
      refine .cons (fun ss hs vals1 xw hG hV => ?_) ?_
      ·obtain rfl | rfl : ss = 1 ∨ ss = 5 := by simpa using hs
       ·rw [← hfe]
        have hS := (hfr vals1).sub (ts := [45, 48]) (S' := [(45, vals1 0), (48, vals1 3)]) rfl
        replace hS := hS.conv (t := 45) rfl (show (vals1 0) = .slice (some ⟨blkOf (vals1 0), 0, none⟩) 0 0 from hV 0 (by decide))
        replace hS := hS.conv (t := 48) rfl (show (vals1 3) = subV v2 0 ((k_2).toNat) 1 from hV 3 (by decide))
        obtain ⟨I2, hI2, H⟩ := Gx.ex hG
        replace H := H.emptyow 0 rfl NS
        exact L_appO H 0 E_73_YMv2 (out.take ((k_2).toNat)) rfl rfl hS rfl rfl rfl rfl (H.sl2 1 rfl) hg9 (by decide) fun v yw hK H => ⟨trivial, Gx.go hG hI2 hK (fun _ h => h) H⟩
       ·rw [← hfe]
        have hS := (hfr vals1).sub (ts := [45, 48]) (S' := [(45, vals1 0), (48, vals1 3)]) rfl
        replace hS := hS.conv (t := 45) rfl (show (vals1 0) = .slice (some ⟨blkOf (vals1 0), 0, none⟩) 0 0 from hV 0 (by decide))
        replace hS := hS.conv (t := 48) rfl (show (vals1 3) = subV v2 0 ((k_2).toNat) 1 from hV 3 (by decide))
        obtain ⟨I2, hI2, H⟩ := Gx.ex hG
        replace H := H.emptyow 1 rfl NS
        exact L_appO H 0 E_73_YMv2 (out.take ((k_2).toNat)) rfl rfl hS rfl rfl rfl rfl (H.sl2 2 rfl) hg9 (by decide) fun v yw hK H => ⟨trivial, Gx.go hG hI2 hK (fun _ h => h) (Hf.sub H [(1, false), (0, false), (0, true), (1, true), (2, true)] rfl)⟩
      refine .cons (fun ss hs vals1 xw hG hV => ?_) ?_
      ·obtain rfl | rfl | rfl : ss = 0 ∨ ss = 1 ∨ ss = 3 := by simpa using hs
       all_goals
       ·rw [← hfe]
        have hS := (hfr vals1).sub (ts := [0]) (S' := [(0, v1_l)]) rfl
        exact L_val hS rfl (Ob_c tMv2 rfl) ⟨rfl, hG⟩
      refine .cons (fun ss hs vals1 xw hG hV => ?_) ?_
      ·obtain rfl | rfl | rfl : ss = 0 ∨ ss = 1 ∨ ss = 3 := by simpa using hs
       all_goals
       ·rw [← hfe]
        have hS := (hfr vals1).sub (ts := [4]) (S' := [(4, .int .i64 i)]) rfl
        exact L_val hS rfl (Ob_c tMv2 rfl) ⟨rfl, hG⟩
      refine .cons (fun ss hs vals1 xw hG hV => ?_) ?_
      ·obtain rfl | rfl | rfl : ss = 0 ∨ ss = 1 ∨ ss = 3 := by simpa using hs
       ·rw [← hfe]
        have hS := (hfr vals1).sub (ts := [50, 51]) (S' := [(50, vals1 5), (51, vals1 6)]) rfl
        replace hS := hS.conv (t := 50) rfl (show (vals1 5) = v1_l from hV 5 (by decide))
        replace hS := hS.conv (t := 51) rfl (show (vals1 6) = .int .i64 i from hV 6 (by decide))
        obtain ⟨I2, hI2, H⟩ := Gx.ex hG
        exact L_val hS rfl (Ob_sidx tMv2 rfl rfl rfl rfl (slPl (H.sl 1 rfl) hg10) hg10) ⟨rfl, hG⟩
       ·rw [← hfe]
        have hS := (hfr vals1).sub (ts := [50, 51]) (S' := [(50, vals1 5), (51, vals1 6)]) rfl
        replace hS := hS.conv (t := 50) rfl (show (vals1 5) = v1_l from hV 5 (by decide))
        replace hS := hS.conv (t := 51) rfl (show (vals1 6) = .int .i64 i from hV 6 (by decide))
        obtain ⟨I2, hI2, H⟩ := Gx.ex hG
        exact L_val hS rfl (Ob_sidx tMv2 rfl rfl rfl rfl (slPl (H.sl 2 rfl) hg10) hg10) ⟨rfl, hG⟩
       ·rw [← hfe]
        have hS := (hfr vals1).sub (ts := [50, 51]) (S' := [(50, vals1 5), (51, vals1 6)]) rfl
        replace hS := hS.conv (t := 50) rfl (show (vals1 5) = v1_l from hV 5 (by decide))
        replace hS := hS.conv (t := 51) rfl (show (vals1 6) = .int .i64 i from hV 6 (by decide))
        obtain ⟨I2, hI2, H⟩ := Gx.ex hG
        exact L_val hS rfl (Ob_sidx tMv2 rfl rfl rfl rfl (slPl (H.sl 2 rfl) hg10) hg10) ⟨rfl, hG⟩
      refine .cons (fun ss hs vals1 xw hG hV => ?_) ?_
      ·obtain rfl | rfl | rfl : ss = 0 ∨ ss = 1 ∨ ss = 3 := by simpa using hs
       ·rw [← hfe]
        have hS := (hfr vals1).sub (ts := [52]) (S' := [(52, vals1 7)]) rfl
        replace hS := hS.conv (t := 52) rfl (show (vals1 7) = .pointer (some ⟨blkOf v1_l, oofOf v1_l + (i).toNat * 1, none⟩) from hV 7 (by decide))
        obtain ⟨I2, hI2, H⟩ := Gx.ex hG
        exact L_val hS rfl (Ob_load tMv2 rfl rfl rfl ((slFl (H.sl 1 rfl) hg10) 0 _ rfl)) ⟨rfl, hG⟩
       ·rw [← hfe]
        have hS := (hfr vals1).sub (ts := [52]) (S' := [(52, vals1 7)]) rfl
        replace hS := hS.conv (t := 52) rfl (show (vals1 7) = .pointer (some ⟨blkOf v1_l, oofOf v1_l + (i).toNat * 1, none⟩) from hV 7 (by decide))
        obtain ⟨I2, hI2, H⟩ := Gx.ex hG
        exact L_val hS rfl (Ob_load tMv2 rfl rfl rfl ((slFl (H.sl 2 rfl) hg10) 0 _ rfl)) ⟨rfl, hG⟩
       ·rw [← hfe]
        have hS := (hfr vals1).sub (ts := [52]) (S' := [(52, vals1 7)]) rfl
        replace hS := hS.conv (t := 52) rfl (show (vals1 7) = .pointer (some ⟨blkOf v1_l, oofOf v1_l + (i).toNat * 1, none⟩) from hV 7 (by decide))
        obtain ⟨I2, hI2, H⟩ := Gx.ex hG
        exact L_val hS rfl (Ob_load tMv2 rfl rfl rfl ((slFl (H.sl 2 rfl) hg10) 0 _ rfl)) ⟨rfl, hG⟩
      refine .cons (fun ss hs vals1 xw hG hV => ?_) ?_
      ·obtain rfl | rfl | rfl : ss = 0 ∨ ss = 1 ∨ ss = 3 := by simpa using hs
       all_goals
       ·rw [← hfe]
        have hS := (hfr vals1).sub (ts := [53]) (S' := [(53, vals1 8)]) rfl
        replace hS := hS.conv (t := 53) rfl (show (vals1 8) = .string (l.getD (i).toNat default) from hV 8 (by decide))
        obtain ⟨I2, hI2, H⟩ := Gx.ex hG
        exact L_bslice H (vs := [(0, .string (l.getD (i).toNat default))]) (cl := [.string (l.getD (i).toNat default)]) (e := 9) hS rfl rfl rfl (fun w => run_bslice (z := .string ByteArray.empty) (m := 1) Try.underlying73 (by kernel_rfl) rfl rfl (by decide) (by simp [Instr.fill, Value.cells]) w) fun yw b hK H => ⟨rfl, Gx.go hG hI2 hK (fun _ h => h) H⟩
      refine .cons (fun ss hs vals1 xw hG hV => ?_) ?_
      ·obtain rfl : ss = 7 := by simpa using hs
       rw [← hfe]
       have hS := (hfr vals1).sub (ts := [49, 54]) (S' := [(49, vals1 4), (54, vals1 9)]) rfl
       replace hS := hS.conv (t := 54) rfl (show (vals1 9) = .slice (some ⟨blkOf (vals1 9), 0, none⟩) 1 1 from hV 9 (by decide))
       obtain ⟨I2, hI2, H⟩ := Gx.ex hG
       exact L_appO H 1 E_73_YMv2 [(l.getD (i).toNat default)] rfl rfl hS rfl rfl rfl rfl (slRep2.box1 (H.bx 0 rfl) ⟨rfl, trivial⟩) hg11 (by decide) fun v yw hK H => ⟨trivial, Gx.go hG hI2 hK (fun _ h => h) (H.sub [(0, false), (1, true), (2, true), (3, true)] rfl)⟩
      refine .cons (fun ss hs vals1 xw hG hV => ?_) ?_
      ·obtain rfl : ss = 15 := by simpa using hs
       rw [← hfe]
       have hS := (hfr vals1).sub (ts := [55]) (S' := [(55, vals1 10)]) rfl
       exact L_val hS rfl (Ob_c tMv2 rfl) ⟨rfl, hG⟩
      exact .nil
     ·intro vals1 a w6 Z hG hV
      replace Z := Z.sub (ts := [0, 2, 3, 4, 5, 7, 8, 9, 10, 13, 14, 15, 16, 17, 27, 30, 31, 32, 33, 34, 44, 45, 46, 47, 48, 49, 50, 51, 52, 53, 54, 55, 6]) (S' := [(0, v1_l), (2, .slice none 0 0), (3, v2), (4, .int .i64 i), (5, .int .i64 k_2), (7, .int .i64 i), (8, v1_l), (9, .int .i64 (l.length : Int)), (10, .bool (decide (i < (l.length : Int)))), (13, .int .i64 k_2), (14, v2), (15, .int .i64 (out.length : Int)), (16, .bool (decide (k_2 < (out.length : Int)))), (17, .bool (decide (k_2 < (out.length : Int)))), (27, .bool ((decide (k_2 < (out.length : Int))) && (sltB (out.getD (k_2).toNat default) (l.getD (i).toNat default)))), (30, .int .i64 k_2), (31, v2), (32, .int .i64 (out.length : Int)), (33, .bool (decide (k_2 < (out.length : Int)))), (34, .bool (decide (k_2 < (out.length : Int)))), (44, .bool ((decide (k_2 < (out.length : Int))) && (seqB (out.getD (k_2).toNat default) (l.getD (i).toNat default)))), (45, vals1 0), (46, vals1 1), (47, vals1 2), (48, vals1 3), (49, vals1 4), (50, vals1 5), (51, vals1 6), (52, vals1 7), (53, vals1 8), (54, vals1 9), (55, vals1 10), (6, vals1 11)]) rfl
      replace Z := Z.conv (t := 45) rfl (show (vals1 0) = .slice (some ⟨blkOf (vals1 0), 0, none⟩) 0 0 from hV 0 (by decide))
      replace Z := Z.conv (t := 46) rfl (show (vals1 1) = v2 from hV 1 (by decide))
      replace Z := Z.conv (t := 47) rfl (show (vals1 2) = .int .i64 k_2 from hV 2 (by decide))
      replace Z := Z.conv (t := 48) rfl (show (vals1 3) = subV v2 0 ((k_2).toNat) 1 from hV 3 (by decide))
      replace Z := Z.conv (t := 50) rfl (show (vals1 5) = v1_l from hV 5 (by decide))
      replace Z := Z.conv (t := 51) rfl (show (vals1 6) = .int .i64 i from hV 6 (by decide))
      replace Z := Z.conv (t := 52) rfl (show (vals1 7) = .pointer (some ⟨blkOf v1_l, oofOf v1_l + (i).toNat * 1, none⟩) from hV 7 (by decide))
      replace Z := Z.conv (t := 53) rfl (show (vals1 8) = .string (l.getD (i).toNat default) from hV 8 (by decide))
      replace Z := Z.conv (t := 54) rfl (show (vals1 9) = .slice (some ⟨blkOf (vals1 9), 0, none⟩) 1 1 from hV 9 (by decide))
      replace Z := Z.conv (t := 6) rfl (show (vals1 11) = (vals1 10) from hV 11 (by decide))
      obtain ⟨I4, _, H⟩ := Gx.ex hG
      clear hG hV
      replace Z := Z.sub (ts := [0, 2, 3, 4, 5, 7, 8, 9, 10, 13, 14, 15, 16, 17, 27, 30, 31, 32, 33, 34, 44, 45, 46, 47, 48, 49, 50, 51, 52, 53, 54, 55, 6]) rfl
      replace H : Hf I D w I4 w6 [OwC NS 9 (vals1 10) ((([] : List ByteArray) ++ (out.take ((k_2).toNat))) ++ [(l.getD (i).toNat default)]), SlC NS (subV v2 0 ((k_2).toNat) 1) (out.take ((k_2).toNat)), SlC NS v1_l l, SlC NS v2 out] := H
      refine p_then (wp_seq ?_)
      obtain ⟨hg12, hF⟩ := chk_in hF
      obtain ⟨hg13, hF⟩ := chk_in hF
      refine f_region Z ?_; clear Z; intro Z
      refine s_runk tMv2 Z 3 rfl rfl ?_; clear Z a; intro a Z
      replace H : Hf I D w I4 w6 [SlC NS (subV v2 ((k_2).toNat) out.length 1) (out.drop ((k_2).toNat)), OwC NS 9 (vals1 10) ((([] : List ByteArray) ++ (out.take ((k_2).toNat))) ++ [(l.getD (i).toNat default)]), SlC NS (subV v2 0 ((k_2).toNat) 1) (out.take ((k_2).toNat)), SlC NS v1_l l, SlC NS v2 out] := H.slPart_from 3 rfl hg12 1 rfl
      refine s_ob Z (v := subV v2 ((k_2).toNat) out.length 1) rfl rfl (by decide) rfl (Ob_sub_from tMv2 rfl rfl rfl rfl (H.slshape 4 rfl) hg12) ?_; clear Z a; intro a Z
      refine h_appO Z H 1 E_73_YMv2 (out.drop ((k_2).toNat)) rfl rfl rfl rfl rfl (by decide) rfl rfl rfl (H.sl2 0 rfl) hg13 (by decide) ?_; clear Z a H; intro v4 a w7 H Z
      dsimp only [List.eraseIdx] at H
      refine s_runk tMv2 Z 1 rfl rfl ?_; clear Z a; intro a Z
      refine s_end Z [0, 2, 3, 4, 5, 7, 8, 9, 10, 13, 14, 15, 16, 17, 27, 30, 31, 32, 33, 34, 44, 45, 46, 47, 48, 49, 50, 51, 52, 53, 54, 55, 6, 56, 57, 58, 59, 60] rfl ?_; clear Z; intro Z
      refine p_then ?_
      refine f_region Z ?_; clear Z; intro Z
      refine s_runk tMv2 Z 2 rfl rfl ?_; clear Z a; intro a Z
      refine s_end Z [0, 2, 3, 4, 5, 7, 8, 9, 10, 13, 14, 15, 16, 17, 27, 30, 31, 32, 33, 34, 44, 45, 46, 47, 48, 49, 50, 51, 52, 53, 54, 55, 6, 56, 57, 58, 59, 60, 61] rfl ?_; clear Z; intro Z
      refine p_blk ?_
      refine p_then ?_
      obtain ⟨I5, _, H⟩ := H.frzow 0 rfl
      replace H : Hf I D w I5 w7 [SlC NS v4 (((([] : List ByteArray) ++ (out.take ((k_2).toNat))) ++ [(l.getD (i).toNat default)]) ++ (out.drop ((k_2).toNat))), SlC NS (subV v2 ((k_2).toNat) out.length 1) (out.drop ((k_2).toNat)), SlC NS (subV v2 0 ((k_2).toNat) 1) (out.take ((k_2).toNat)), SlC NS v1_l l, SlC NS v2 out] := H
      exact ⟨((([] : List ByteArray) ++ (out.take ((k_2).toNat))) ++ [(l.getD (i).toNat default)]) ++ (out.drop ((k_2).toNat)), k_2, k_2, decide (k_2 < (out.length : Int)), decide (k_2 < (out.length : Int)), (decide (k_2 < (out.length : Int))) && (sltB (out.getD (k_2).toNat default) (l.getD (i).toNat default)), k_2, decide (k_2 < (out.length : Int)), decide (k_2 < (out.length : Int)), (decide (k_2 < (out.length : Int))) && (seqB (out.getD (k_2).toNat default) (l.getD (i).toNat default)), v4, Z.sub (ts := [0, 2, 3, 4, 5, 7, 8, 9, 10, 13, 14, 15, 16, 17, 27, 30, 31, 32, 33, 34, 44]) rfl, ⟨I5, (H.sub [(3, true), (4, true), (0, true)] rfl).eq rfl⟩, hF⟩
 ·replace hF := ite_f hc1 hF
  refine wp_exit ?_
  refine p_then_x ?_
  refine p_then_x ?_
  refine f_exit_here ?_
  refine p_then (wp_seq (f_region Z ?_)); clear Z; intro Z
  refine s_runk tMv2 Z 2 rfl rfl ?_; clear Z a; intro a Z
  refine s_end Z [2] rfl ?_; clear Z; intro Z
  refine p_then (wp_ret ?_)
  obtain rfl := some_in hF
  exact f_ret Z (run_results1 rfl Z rfl) ⟨v2, rfl, I1, (H.sub [(1, true)] rfl).eq rfl⟩

def F_ref06_Norm_k4 (k : Int) (rc_3 : (Int × ByteArray × ByteArray × Bool) → Option (List EOp)) (last_key_2 : ByteArray) (last_val_2 : ByteArray) (last_del_2 : Bool) : Option (List EOp) := chk (inI (k + 1)) (rc_3 (k + 1, last_key_2, last_val_2, last_del_2))

def F_ref06_Norm_l3 (l : List EOp) (s0 : List ByteArray) (out : List EOp) (i_2 : Int) (rc_2 : ((List EOp) × Int) → Option (List EOp)) (rc_3 : (Int × ByteArray × ByteArray × Bool) → Option (List EOp)) (sg : Int × ByteArray × ByteArray × Bool) : Option (List EOp) := match sg with | (k, last_key, last_val, last_del) => if (decide (k < (l.length : Int))) = true then (chk ((0 : Int) ≤ k ∧ k < (l.length : Int)) (chk ((0 : Int) ≤ i_2 ∧ i_2 < (s0.length : Int)) (if (seqB ((l.getD (k).toNat default).key) (s0.getD (i_2).toNat default)) = true then (chk ((0 : Int) ≤ k ∧ k < (l.length : Int)) (F_ref06_Norm_k4 k rc_3 ((l.getD (k).toNat default).key) ((l.getD (k).toNat default).val) ((l.getD (k).toNat default).del))) else (F_ref06_Norm_k4 k rc_3 last_key last_val last_del)))) else (chk (((out.length + [({ key := last_key, val := last_val, del := last_del } : EOp)].length : Nat) : Int) * 40 ≤ 140737488355328) (chk (inI (i_2 + 1)) (rc_2 (out ++ [({ key := last_key, val := last_val, del := last_del } : EOp)], i_2 + 1))))

def F_ref06_Norm_l2 (l : List EOp) (s0 : List ByteArray) (rc_2 : ((List EOp) × Int) → Option (List EOp)) (sg : (List EOp) × Int) : Option (List EOp) := match sg with | (out, i_2) => if (decide (i_2 < (s0.length : Int))) = true then (iter (F_ref06_Norm_l3 l s0 out i_2 rc_2) FU (0, ByteArray.empty, ByteArray.empty, false)) else (some out)

def F_ref06_Norm_l1 (l : List EOp) (rc : ((List ByteArray) × Int) → Option (List EOp)) (sg : (List ByteArray) × Int) : Option (List EOp) := match sg with | (names, i) => if (decide (i < (l.length : Int))) = true then (chk ((0 : Int) ≤ i ∧ i < (l.length : Int)) (chk (((names.length + [(l.getD (i).toNat default).key].length : Nat) : Int) * 16 ≤ 140737488355328) (chk (inI (i + 1)) (rc (names ++ [(l.getD (i).toNat default).key], i + 1))))) else ((F_ref05_Set names).bind fun s0 => (iter (F_ref06_Norm_l2 l s0) FU (([] : List EOp), 0)))

def F_ref06_Norm (l : List EOp) : Option (List EOp) := iter (F_ref06_Norm_l1 l) FU (([] : List ByteArray), 0)

set_option maxHeartbeats 1000000 in
theorem c_ref06_Norm {I D : Dm} {l : List EOp} {v1_l : Value} {w : World} {rr : List EOp} (hF : F_ref06_Norm l = some rr) (H : St I D w [SlC NEOp v1_l l]) :
  Calls Try.prog 32 #[v1_l] w (Ret fun vv w' => ∃ q1 : Value, vv = q1 ∧ ∃ I', Hf I D w I' w' [SlC NEOp q1 rr]) := by
 replace H := H.hf
 unfold F_ref06_Norm at hF
 refine f_enter 57 Try.func32 rfl rfl (Nat.le_of_ble_eq_true rfl) fun a Z => ?_
 replace Z := Z.sub (ts := [0]) rfl
 refine wp_seq (f_region Z ?_); clear Z; intro Z
 refine s_runk tMv2 Z 1 rfl rfl ?_; clear Z a; intro a Z
 refine s_end Z [0, 2] rfl ?_; clear Z; intro Z
 refine p_then (wp_seq (f_region Z ?_)); clear Z; intro Z
 refine s_runk tMv2 Z 1 rfl rfl ?_; clear Z a; intro a Z
 refine s_end Z [0, 2, 3] rfl ?_; clear Z; intro Z
 refine p_then (wp_seq ?_)
 refine wp_seq (f_region Z ?_); clear Z; intro Z
 refine s_runk tMv2 Z 1 rfl rfl ?_; clear Z a; intro a Z
 refine s_end Z [0, 2, 3, 4] rfl ?_; clear Z; intro Z
 refine p_then (wp_block ?_)
 replace H : Hf I D w I w [OwC NS 9 (.slice none 0 0) ([] : List ByteArray), SlC NEOp v1_l l] := H.nilow NS 9
 refine f_iter hF (fun sg a' w' => match sg with | (names, i) => ∃ v2 : Value, Sl 57 [(0, v1_l), (2, .slice none 0 0), (3, v2), (4, .int .i64 i)] a' ∧ ∃ I2, Hf I D w I2 w' [SlC NEOp v1_l l, OwC NS 9 v2 names]) ⟨.slice none 0 0, Z.sub (ts := [0, 2, 3, 4]) rfl, ⟨I, (H.sub [(1, true), (0, false)] rfl).eq rfl⟩⟩ ?_
 clear Z H hF a
 rintro rc ⟨names, i⟩ a w1 ⟨v2, Z, I1, H⟩ hF
 unfold F_ref06_Norm_l1 at hF
 try dsimp only at hF
 refine wp_seq ?_
 refine wp_seq (f_region Z ?_); clear Z; intro Z
 refine s_runk tMv2 Z 2 rfl rfl ?_; clear Z a; intro a Z
 refine s_ob Z (v := .int .i64 (l.length : Int)) rfl rfl (by decide) rfl (Ob_slen tMv2 rfl rfl rfl (H.slshape 0 rfl)) ?_; clear Z a; intro a Z
 refine s_runk tMv2 Z 1 rfl rfl ?_; clear Z a; intro a Z
 refine s_end Z [0, 2, 3, 4, 9, 10, 11, 12] rfl ?_; clear Z; intro Z
 refine p_then ?_
 refine f_cond Z rfl (fun hc1 => ?_) (fun hc1 => ?_)
 ·replace hF := ite_t hc1 hF
  refine wp_skip ?_
  refine p_then (wp_seq ?_)
  refine wp_block ?_
  obtain ⟨hg1, hF⟩ := chk_in hF
  obtain ⟨hg2, hF⟩ := chk_in hF
  refine f_region Z ?_; clear Z; intro Z
  refine s_runk tMv2 Z 3 rfl rfl ?_; clear Z a; intro a Z
  refine s_ob Z (v := .pointer (some ⟨blkOf v1_l, oofOf v1_l + (i).toNat * 3, none⟩)) rfl rfl (by decide) rfl (Ob_sidx tMv2 rfl rfl rfl rfl (slPl (H.sl 0 rfl) hg1) hg1) ?_; clear Z a; intro a Z
  refine s_runk tMv2 Z 1 rfl rfl ?_; clear Z a; intro a Z
  refine s_ob Z (v := .string ((l.getD (i).toNat default).key)) rfl rfl (by decide) rfl (Ob_load tMv2 rfl rfl rfl ((slFl (H.sl 0 rfl) hg1) 0 _ rfl)) ?_; clear Z a; intro a Z
  refine h_bslice Z H (vs := [(0, .string ((l.getD (i).toNat default).key))]) (cl := [.string ((l.getD (i).toNat default).key)]) (e := 9) rfl rfl rfl (by decide) rfl rfl (fun w => run_bslice (z := .string ByteArray.empty) (m := 1) Try.underlying73 (by kernel_rfl) rfl rfl (by decide) (by simp [Instr.fill, Value.cells]) w) ?_; clear Z a H; intro a w2 b1 H Z
  refine h_appO Z H 2 E_73_YMv2 [(l.getD (i).toNat default).key] rfl rfl rfl rfl rfl (by decide) rfl rfl rfl (slRep2.box1 (H.bx 0 rfl) ⟨rfl, trivial⟩) hg2 (by decide) ?_; clear Z a H; intro v3 a w3 H Z
  dsimp only [List.eraseIdx] at H
  replace H : Hf I D w I1 w3 [OwC NS 9 v3 (names ++ [(l.getD (i).toNat default).key]), SlC NEOp v1_l l] := H.sub [(0, false), (1, true)] rfl
  refine s_runk tMv2 Z 1 rfl rfl ?_; clear Z a; intro a Z
  refine s_end Z [0, 2, 3, 4, 9, 10, 11, 12, 15, 16, 17, 18, 19, 20, 21, 22] rfl ?_; clear Z; intro Z
  refine p_blk ?_
  refine p_then ?_
  obtain ⟨hg3, hF⟩ := chk_in hF
  refine f_region Z ?_; clear Z; intro Z
  refine s_runk tMv2 Z 1 rfl rfl ?_; clear Z a; intro a Z
  refine s_ob Z (v := .int .i64 (i + 1)) rfl rfl (by decide) rfl (Ob_add rfl rfl rfl (wrI hg3)) ?_; clear Z a; intro a Z
  refine s_runk tMv2 Z 1 rfl rfl ?_; clear Z a; intro a Z
  refine s_end Z [0, 2, 3, 4, 9, 10, 11, 12, 15, 16, 17, 18, 19, 20, 21, 22, 13, 14] rfl ?_; clear Z; intro Z
  refine p_then ?_
  exact ⟨(names ++ [(l.getD (i).toNat default).key], i + 1), ⟨v3, Z.sub (ts := [0, 2, 3, 4]) rfl, ⟨I1, (H.sub [(1, true), (0, false)] rfl).eq rfl⟩⟩, hF⟩
 ·replace hF := ite_f hc1 hF
  refine wp_exit ?_
  refine p_then_x ?_
  refine p_then_x ?_
  refine f_exit_here ?_
  refine p_then (wp_seq ?_)
  obtain ⟨s0, hx1, hF⟩ := bnd_in hF
  refine f_region Z ?_; clear Z; intro Z
  refine s_runk tMv2 Z 1 rfl rfl ?_; clear Z a; intro a Z
  obtain ⟨I2, _, H⟩ := H.frzow 1 rfl
  replace H : Hf I D w I2 w1 [SlC NS v2 names, SlC NEOp v1_l l] := H
  refine h_call Z H (js := [(0, true)]) rfl (caps := #[]) fn_46_YMv2 rfl rfl rfl rfl rfl (by decide) rfl rfl (fun D1 hS => have hq := c_ref05_Set hx1 hS; hq) ?_; clear Z a; intro vv a w4 D2 hr hF2 Z
  obtain ⟨q1, hvv, I3, K⟩ := hr; obtain rfl := hvv.symm
  have H : Hf I D w I3 w4 [SlC NS q1 s0, SlC NS v2 names, SlC NEOp v1_l l] := hF2 K
  clear hF2 K
  refine s_runk tMv2 Z 1 rfl rfl ?_; clear Z a; intro a Z
  refine s_end Z [0, 2, 3] rfl ?_; clear Z; intro Z
  refine p_then (wp_seq (f_region Z ?_)); clear Z; intro Z
  refine s_runk tMv2 Z 1 rfl rfl ?_; clear Z a; intro a Z
  refine s_end Z [0, 2, 3, 5] rfl ?_; clear Z; intro Z
  refine p_then (wp_seq ?_)
  refine wp_seq (f_region Z ?_); clear Z; intro Z
  refine s_runk tMv2 Z 1 rfl rfl ?_; clear Z a; intro a Z
  refine s_end Z [0, 2, 3, 5, 6] rfl ?_; clear Z; intro Z
  refine p_then (wp_block ?_)
  replace H : Hf I D w I3 w4 [OwC NEOp 60 (.slice none 0 0) ([] : List EOp), SlC NS q1 s0, SlC NS v2 names, SlC NEOp v1_l l] := H.nilow NEOp 60
  refine f_iter hF (fun sg a' w' => match sg with | (out, i_2) => ∃ v4 : Value, Sl 57 [(0, v1_l), (2, .slice none 0 0), (3, q1), (5, v4), (6, .int .i64 i_2)] a' ∧ ∃ I2, Hf I D w I2 w' [SlC NS q1 s0, SlC NEOp v1_l l, OwC NEOp 60 v4 out]) ⟨.slice none 0 0, Z.sub (ts := [0, 2, 3, 5, 6]) rfl, ⟨I3, (H.sub [(1, true), (3, true), (0, false)] rfl).eq rfl⟩⟩ ?_
  clear Z H hF a
  rintro rc_2 ⟨out, i_2⟩ a w5 ⟨v4, Z, I4, H⟩ hF
  unfold F_ref06_Norm_l2 at hF
  try dsimp only at hF
  refine wp_seq ?_
  refine wp_seq (f_region Z ?_); clear Z; intro Z
  refine s_runk tMv2 Z 2 rfl rfl ?_; clear Z a; intro a Z
  refine s_ob Z (v := .int .i64 (s0.length : Int)) rfl rfl (by decide) rfl (Ob_slen tMv2 rfl rfl rfl (H.slshape 0 rfl)) ?_; clear Z a; intro a Z
  refine s_runk tMv2 Z 1 rfl rfl ?_; clear Z a; intro a Z
  refine s_end Z [0, 2, 3, 5, 6, 25, 26, 27, 28] rfl ?_; clear Z; intro Z
  refine p_then ?_
  refine f_cond Z rfl (fun hc2 => ?_) (fun hc2 => ?_)
  ·replace hF := ite_t hc2 hF
   refine wp_skip ?_
   refine p_then (wp_seq ?_)
   refine wp_block ?_
   refine wp_seq (f_region Z ?_); clear Z; intro Z
   refine s_ob Z (v := .agg #[.string ByteArray.empty, .string ByteArray.empty, .bool false]) rfl rfl (by decide) rfl (Ob_build (vs := []) rfl rfl (by go_simp <;> rfl)) ?_; clear Z a; intro a Z
   refine h_alloc Z H (cl := [.string ByteArray.empty, .string ByteArray.empty, .bool false]) (z := .agg #[.string ByteArray.empty, .string ByteArray.empty, .bool false]) rfl rfl rfl (by decide) rfl (by kernel_rfl) rfl ?_; clear Z a H; intro a w6 b2 H Z
   refine h_store tMv2 Z H 0 rfl rfl rfl rfl rfl rfl rfl rfl rfl (one_cons rfl (one_cons rfl (one_cons rfl one_nil))) (Nat.le_of_ble_eq_true rfl) rfl ?_; clear H; intro w7 H
   dsimp only [List.eraseIdx] at H
   refine s_end Z [0, 2, 3, 5, 6, 25, 26, 27, 28, 31, 7] rfl ?_; clear Z; intro Z
   refine p_then (wp_seq ?_)
   refine wp_seq (f_region Z ?_); clear Z; intro Z
   refine s_runk tMv2 Z 1 rfl rfl ?_; clear Z a; intro a Z
   refine s_end Z [0, 2, 3, 5, 6, 25, 26, 27, 28, 31, 7, 8] rfl ?_; clear Z; intro Z
   refine p_then (wp_block ?_)
   refine f_iter hF (fun sg a' w' => match sg with | (k, last_key, last_val, last_del) => Sl 57 [(0, v1_l), (2, .slice none 0 0), (3, q1), (5, v4), (6, .int .i64 i_2), (7, .pointer (some ⟨b2, 0, none⟩)), (8, .int .i64 k), (25, .int .i64 i_2), (26, q1), (27, .int .i64 (s0.length : Int)), (28, .bool (decide (i_2 < (s0.length : Int)))), (31, .agg #[.string ByteArray.empty, .string ByteArray.empty, .bool false])] a' ∧ ∃ I2, Hf I D w I2 w' [BxC b2 60 [.string last_key, .string last_val, .bool last_del], SlC NS q1 s0, SlC NEOp v1_l l, OwC NEOp 60 v4 out]) ⟨Z.sub (ts := [0, 2, 3, 5, 6, 7, 8, 25, 26, 27, 28, 31]) rfl, ⟨I4, (H.sub [(0, false), (0, true), (1, true), (2, false)] rfl).eq rfl⟩⟩ ?_
   clear Z H hF a
   rintro rc_3 ⟨k, last_key, last_val, last_del⟩ a w8 ⟨Z, I5, H⟩ hF
   unfold F_ref06_Norm_l3 at hF
   try dsimp only at hF
   refine wp_seq ?_
   refine wp_seq (f_region Z ?_); clear Z; intro Z
   refine s_runk tMv2 Z 2 rfl rfl ?_; clear Z a; intro a Z
   refine s_ob Z (v := .int .i64 (l.length : Int)) rfl rfl (by decide) rfl (Ob_slen tMv2 rfl rfl rfl (H.slshape 2 rfl)) ?_; clear Z a; intro a Z
   refine s_runk tMv2 Z 1 rfl rfl ?_; clear Z a; intro a Z
   refine s_end Z [0, 2, 3, 5, 6, 7, 8, 25, 26, 27, 28, 31, 32, 33, 34, 35] rfl ?_; clear Z; intro Z
   refine p_then ?_
   refine f_cond Z rfl (fun hc3 => ?_) (fun hc3 => ?_)
   ·replace hF := ite_t hc3 hF
    refine wp_skip ?_
    refine p_then ?_
    refine f_cut (fun a' w' => ∃ (last_key_2 : ByteArray) (last_val_2 : ByteArray) (last_del_2 : Bool), Sl 57 [(0, v1_l), (2, .slice none 0 0), (3, q1), (5, v4), (6, .int .i64 i_2), (7, .pointer (some ⟨b2, 0, none⟩)), (8, .int .i64 k), (25, .int .i64 i_2), (26, q1), (27, .int .i64 (s0.length : Int)), (28, .bool (decide (i_2 < (s0.length : Int)))), (31, .agg #[.string ByteArray.empty, .string ByteArray.empty, .bool false]), (32, .int .i64 k), (33, v1_l), (34, .int .i64 (l.length : Int)), (35, .bool (decide (k < (l.length : Int)))), (38, v1_l), (39, .int .i64 k), (40, .pointer (some ⟨blkOf v1_l, oofOf v1_l + (k).toNat * 3, none⟩)), (41, .pointer (some ⟨blkOf v1_l, oofOf v1_l + (k).toNat * 3, none⟩)), (42, .string ((l.getD (k).toNat default).key)), (43, q1), (44, .int .i64 i_2), (45, .pointer (some ⟨blkOf q1, oofOf q1 + (i_2).toNat * 1, none⟩)), (46, .string (s0.getD (i_2).toNat default)), (47, .bool (seqB ((l.getD (k).toNat default).key) (s0.getD (i_2).toNat default)))] a' ∧ (∃ I2, Hf I D w I2 w' [BxC b2 60 [.string last_key_2, .string last_val_2, .bool last_del_2], SlC NS q1 s0, SlC NEOp v1_l l, OwC NEOp 60 v4 out]) ∧ F_ref06_Norm_k4 k rc_3 last_key_2 last_val_2 last_del_2 = some rr) ?_ ?_
    ·rintro a w9 ⟨last_key_2, last_val_2, last_del_2, Z, ⟨I6, H⟩, hF⟩
     unfold F_ref06_Norm_k4 at hF
     try dsimp only at hF
     obtain ⟨hg4, hF⟩ := chk_in hF
     refine f_region Z ?_; clear Z; intro Z
     refine s_runk tMv2 Z 1 rfl rfl ?_; clear Z a; intro a Z
     refine s_ob Z (v := .int .i64 (k + 1)) rfl rfl (by decide) rfl (Ob_add rfl rfl rfl (wrI hg4)) ?_; clear Z a; intro a Z
     refine s_runk tMv2 Z 1 rfl rfl ?_; clear Z a; intro a Z
     refine s_end Z [0, 2, 3, 5, 6, 7, 8, 25, 26, 27, 28, 31, 32, 33, 34, 35, 38, 39, 40, 41, 42, 43, 44, 45, 46, 47, 36, 37] rfl ?_; clear Z; intro Z
     refine p_then ?_
     exact ⟨(k + 1, last_key_2, last_val_2, last_del_2), ⟨Z.sub (ts := [0, 2, 3, 5, 6, 7, 8, 25, 26, 27, 28, 31]) rfl, ⟨I6, (H.sub [(0, false), (0, true), (1, true), (2, false)] rfl).eq rfl⟩⟩, hF⟩
    ·skip
     refine wp_block ?_
     refine wp_seq ?_
     obtain ⟨hg5, hF⟩ := chk_in hF
     obtain ⟨hg6, hF⟩ := chk_in hF
     refine f_quietd (by kernel_rfl) (by kernel_rfl) Z ?_; clear Z; intro Z
     refine q_runk tMv2 Z 2 rfl rfl ?_; clear Z a; intro a Z
     refine q_ob Z (v := .pointer (some ⟨blkOf v1_l, oofOf v1_l + (k).toNat * 3, none⟩)) rfl rfl (by decide) rfl (fun _ hw => Ob_sidx tMv2 rfl rfl rfl rfl (slPl ((H.blw hw).sl 2 rfl) hg5) hg5) ?_; clear Z a; intro a Z
     refine q_runk tMv2 Z 1 rfl rfl ?_; clear Z a; intro a Z
     refine q_ob Z (v := .string ((l.getD (k).toNat default).key)) rfl rfl (by decide) rfl (fun _ hw => Ob_load tMv2 rfl rfl rfl ((slFl ((H.blw hw).sl 2 rfl) hg5) 0 _ rfl)) ?_; clear Z a; intro a Z
     refine q_runk tMv2 Z 2 rfl rfl ?_; clear Z a; intro a Z
     refine q_ob Z (v := .pointer (some ⟨blkOf q1, oofOf q1 + (i_2).toNat * 1, none⟩)) rfl rfl (by decide) rfl (fun _ hw => Ob_sidx tMv2 rfl rfl rfl rfl (slPl ((H.blw hw).sl 1 rfl) hg6) hg6) ?_; clear Z a; intro a Z
     refine q_ob Z (v := .string (s0.getD (i_2).toNat default)) rfl rfl (by decide) rfl (fun _ hw => Ob_load tMv2 rfl rfl rfl ((slFl ((H.blw hw).sl 1 rfl) hg6) 0 _ rfl)) ?_; clear Z a; intro a Z
     refine q_runk tMv2 Z 1 rfl rfl ?_; clear Z a; intro a Z
     refine q_end Z [0, 2, 3, 5, 6, 7, 8, 25, 26, 27, 28, 31, 32, 33, 34, 35, 38, 39, 40, 41, 42, 43, 44, 45, 46, 47] rfl ?_; clear Z; intro w10 hb Z
     replace H : Hf I D w I5 w10 [BxC b2 60 [.string last_key, .string last_val, .bool last_del], SlC NS q1 s0, SlC NEOp v1_l l, OwC NEOp 60 v4 out] := H.blw hb
     clear hb
     refine p_then ?_
     refine f_cond Z rfl (fun hc4 => ?_) (fun hc4 => ?_)
     ·replace hF := ite_t hc4 hF
      obtain ⟨hg7, hF⟩ := chk_in hF
      refine f_region Z ?_; clear Z; intro Z
      refine s_runk tMv2 Z 2 rfl rfl ?_; clear Z a; intro a Z
      refine s_ob Z (v := .pointer (some ⟨blkOf v1_l, oofOf v1_l + (k).toNat * 3, none⟩)) rfl rfl (by decide) rfl (Ob_sidx tMv2 rfl rfl rfl rfl (slPl (H.sl 2 rfl) hg7) hg7) ?_; clear Z a; intro a Z
      refine s_ob Z (v := .agg #[.string ((l.getD (k).toNat default).key), .string ((l.getD (k).toNat default).val), .bool ((l.getD (k).toNat default).del)]) rfl rfl (by decide) rfl (Ob_loads tMv2 rfl rfl rfl ((slFl (H.sl 2 rfl) hg7).part 0 rfl)) ?_; clear Z a; intro a Z
      refine h_store tMv2 Z H 0 rfl rfl rfl rfl rfl rfl rfl rfl rfl (one_cons rfl (one_cons rfl (one_cons rfl one_nil))) (Nat.le_of_ble_eq_true rfl) rfl ?_; clear H; intro w11 H
      dsimp only [List.eraseIdx] at H
      refine s_end Z [0, 2, 3, 5, 6, 7, 8, 25, 26, 27, 28, 31, 32, 33, 34, 35, 38, 39, 40, 41, 42, 43, 44, 45, 46, 47, 48, 49, 50, 51] rfl ?_; clear Z; intro Z
      refine p_blk ?_
      refine p_then ?_
      exact ⟨(l.getD (k).toNat default).key, (l.getD (k).toNat default).val, (l.getD (k).toNat default).del, Z.sub (ts := [0, 2, 3, 5, 6, 7, 8, 25, 26, 27, 28, 31, 32, 33, 34, 35, 38, 39, 40, 41, 42, 43, 44, 45, 46, 47]) rfl, ⟨I5, (H.sub [(0, false), (0, true), (1, true), (2, false)] rfl).eq rfl⟩, hF⟩
     ·replace hF := ite_f hc4 hF
      refine wp_skip ?_
      refine p_blk ?_
      refine p_then ?_
      exact ⟨last_key, last_val, last_del, Z.sub (ts := [0, 2, 3, 5, 6, 7, 8, 25, 26, 27, 28, 31, 32, 33, 34, 35, 38, 39, 40, 41, 42, 43, 44, 45, 46, 47]) rfl, ⟨I5, (H.sub [(0, false), (0, true), (1, true), (2, false)] rfl).eq rfl⟩, hF⟩
   ·replace hF := ite_f hc3 hF
    refine wp_exit ?_
    refine p_then_x ?_
    refine p_then_x ?_
    refine f_exit_here ?_
    refine p_then ?_
    obtain ⟨hg8, hF⟩ := chk_in hF
    refine f_region Z ?_; clear Z; intro Z
    refine s_runk tMv2 Z 1 rfl rfl ?_; clear Z a; intro a Z
    refine s_ob Z (v := .agg #[.string last_key, .string last_val, .bool last_del]) rfl rfl (by decide) rfl (Ob_loads tMv2 rfl rfl rfl ((H.bx 0 rfl).part 0 rfl)) ?_; clear Z a; intro a Z
    refine h_bslice Z H (vs := [(0, .agg #[.string last_key, .string last_val, .bool last_del])]) (cl := [.string last_key, .string last_val, .bool last_del]) (e := 60) rfl rfl rfl (by decide) rfl rfl (fun w => run_bslice (z := .agg #[.string ByteArray.empty, .string ByteArray.empty, .bool false]) (m := 3) Try.underlying30 (by kernel_rfl) rfl rfl (by decide) (by simp [Instr.fill, Value.cells]) w) ?_; clear Z a H; intro a w12 b3 H Z
    refine h_appO Z H 4 E_30_YMv2 [({ key := last_key, val := last_val, del := last_del } : EOp)] rfl rfl rfl rfl rfl (by decide) rfl rfl rfl (slRep2.box1 (H.bx 0 rfl) ⟨rfl, trivial⟩) hg8 (by decide) ?_; clear Z a H; intro v5 a w13 H Z
    dsimp only [List.eraseIdx] at H
    replace H : Hf I D w I5 w13 [OwC NEOp 60 v5 (out ++ [({ key := last_key, val := last_val, del := last_del } : EOp)]), BxC b2 60 [.string last_key, .string last_val, .bool last_del], SlC NS q1 s0, SlC NEOp v1_l l] := H.sub [(0, false), (1, false), (1, true), (2, true)] rfl
    refine s_runk tMv2 Z 1 rfl rfl ?_; clear Z a; intro a Z
    refine s_end Z [0, 2, 3, 5, 6, 7, 8, 25, 26, 27, 28, 31, 32, 33, 34, 35, 52, 53, 54, 55] rfl ?_; clear Z; intro Z
    refine p_blk ?_
    refine p_then ?_
    obtain ⟨hg9, hF⟩ := chk_in hF
    refine f_region Z ?_; clear Z; intro Z
    refine s_runk tMv2 Z 1 rfl rfl ?_; clear Z a; intro a Z
    refine s_ob Z (v := .int .i64 (i_2 + 1)) rfl rfl (by decide) rfl (Ob_add rfl rfl rfl (wrI hg9)) ?_; clear Z a; intro a Z
    refine s_runk tMv2 Z 1 rfl rfl ?_; clear Z a; intro a Z
    refine s_end Z [0, 2, 3, 5, 6, 7, 8, 25, 26, 27, 28, 31, 32, 33, 34, 35, 52, 53, 54, 55, 29, 30] rfl ?_; clear Z; intro Z
    refine p_then ?_
    exact ⟨(out ++ [({ key := last_key, val := last_val, del := last_del } : EOp)], i_2 + 1), ⟨v5, Z.sub (ts := [0, 2, 3, 5, 6]) rfl, ⟨I5, (H.sub [(2, true), (3, true), (0, false)] rfl).eq rfl⟩⟩, hF⟩
  ·replace hF := ite_f hc2 hF
   refine wp_exit ?_
   refine p_then_x ?_
   refine p_then_x ?_
   refine f_exit_here ?_
   refine p_then (wp_seq (f_region Z ?_)); clear Z; intro Z
   refine s_runk tMv2 Z 2 rfl rfl ?_; clear Z a; intro a Z
   refine s_end Z [2] rfl ?_; clear Z; intro Z
   refine p_then (wp_ret ?_)
   obtain ⟨I7, _, H⟩ := H.frzow 2 rfl
   replace H : Hf I D w I7 w5 [SlC NEOp v4 out, SlC NS q1 s0, SlC NEOp v1_l l] := H
   obtain rfl := some_in hF
   exact f_ret Z (run_results1 rfl Z rfl) ⟨v4, rfl, I7, (H.sub [(0, true)] rfl).eq rfl⟩

def F_ref06_Over_k3 (i_2 : Int) (rc_2 : ((List EPair) × Int) → Option (List EPair)) (out_2 : List EPair) : Option (List EPair) := chk (inI (i_2 + 1)) (rc_2 (out_2, i_2 + 1))

def F_ref06_Over_l2 (n0 : List EOp) (rc_2 : ((List EPair) × Int) → Option (List EPair)) (sg : (List EPair) × Int) : Option (List EPair) := match sg with | (out, i_2) => if (decide (i_2 < (n0.length : Int))) = true then (chk ((0 : Int) ≤ i_2 ∧ i_2 < (n0.length : Int)) (if (!((n0.getD (i_2).toNat default).del)) = true then (chk ((0 : Int) ≤ i_2 ∧ i_2 < (n0.length : Int)) (chk ((0 : Int) ≤ i_2 ∧ i_2 < (n0.length : Int)) (chk (((out.length + [({ key := (n0.getD (i_2).toNat default).key, val := (n0.getD (i_2).toNat default).val } : EPair)].length : Nat) : Int) * 32 ≤ 140737488355328) (F_ref06_Over_k3 i_2 rc_2 (out ++ [({ key := (n0.getD (i_2).toNat default).key, val := (n0.getD (i_2).toNat default).val } : EPair)]))))) else (F_ref06_Over_k3 i_2 rc_2 out))) else (some out)

def F_ref06_Over_l1 (l : List EPair) (m : List EOp) (rc : ((List EOp) × Int) → Option (List EPair)) (sg : (List EOp) × Int) : Option (List EPair) := match sg with | (all, i) => if (decide (i < (l.length : Int))) = true then (chk ((0 : Int) ≤ i ∧ i < (l.length : Int)) (chk ((0 : Int) ≤ i ∧ i < (l.length : Int)) (chk (((all.length + [({ key := (l.getD (i).toNat default).key, val := (l.getD (i).toNat default).val, del := false } : EOp)].length : Nat) : Int) * 40 ≤ 140737488355328) (chk (inI (i + 1)) (rc (all ++ [({ key := (l.getD (i).toNat default).key, val := (l.getD (i).toNat default).val, del := false } : EOp)], i + 1)))))) else (chk (((all.length + m.length : Nat) : Int) * 40 ≤ 140737488355328) ((F_ref06_Norm (all ++ m)).bind fun n0 => (iter (F_ref06_Over_l2 n0) FU (([] : List EPair), 0))))

def F_ref06_Over (l : List EPair) (m : List EOp) : Option (List EPair) := iter (F_ref06_Over_l1 l m) FU (([] : List EOp), 0)

set_option maxHeartbeats 1000000 in
theorem c_ref06_Over {I D : Dm} {l : List EPair} {v1_l : Value} {m : List EOp} {v2_m : Value} {w : World} {rr : List EPair} (hF : F_ref06_Over l m = some rr) (H : St I D w [SlC NEPair v1_l l, SlC NEOp v2_m m]) :
  Calls Try.prog 15 #[v1_l, v2_m] w (Ret fun vv w' => ∃ q1 : Value, vv = q1 ∧ ∃ I', Hf I D w I' w' [SlC NEPair q1 rr]) := by
 replace H := H.hf
 unfold F_ref06_Over at hF
 refine f_enter 61 Try.func15 rfl rfl (Nat.le_of_ble_eq_true rfl) fun a Z => ?_
 replace Z := Z.sub (ts := [0, 1]) rfl
 refine wp_seq (f_region Z ?_); clear Z; intro Z
 refine s_runk tMv2 Z 1 rfl rfl ?_; clear Z a; intro a Z
 refine s_end Z [0, 1, 4] rfl ?_; clear Z; intro Z
 refine p_then (wp_seq (f_region Z ?_)); clear Z; intro Z
 refine s_runk tMv2 Z 1 rfl rfl ?_; clear Z a; intro a Z
 refine s_end Z [0, 1, 4, 5] rfl ?_; clear Z; intro Z
 refine p_then (wp_seq ?_)
 refine wp_seq (f_region Z ?_); clear Z; intro Z
 refine s_runk tMv2 Z 1 rfl rfl ?_; clear Z a; intro a Z
 refine s_end Z [0, 1, 4, 5, 6] rfl ?_; clear Z; intro Z
 refine p_then (wp_block ?_)
 replace H : Hf I D w I w [OwC NEOp 60 (.slice none 0 0) ([] : List EOp), SlC NEPair v1_l l, SlC NEOp v2_m m] := H.nilow NEOp 60
 refine f_iter hF (fun sg a' w' => match sg with | (all, i) => ∃ v3 : Value, Sl 61 [(0, v1_l), (1, v2_m), (4, .slice none 0 0), (5, v3), (6, .int .i64 i)] a' ∧ ∃ I2, Hf I D w I2 w' [SlC NEPair v1_l l, SlC NEOp v2_m m, OwC NEOp 60 v3 all]) ⟨.slice none 0 0, Z.sub (ts := [0, 1, 4, 5, 6]) rfl, ⟨I, (H.sub [(1, true), (2, true), (0, false)] rfl).eq rfl⟩⟩ ?_
 clear Z H hF a
 rintro rc ⟨all, i⟩ a w1 ⟨v3, Z, I1, H⟩ hF
 unfold F_ref06_Over_l1 at hF
 try dsimp only at hF
 refine wp_seq ?_
 refine wp_seq (f_region Z ?_); clear Z; intro Z
 refine s_runk tMv2 Z 2 rfl rfl ?_; clear Z a; intro a Z
 refine s_ob Z (v := .int .i64 (l.length : Int)) rfl rfl (by decide) rfl (Ob_slen tMv2 rfl rfl rfl (H.slshape 0 rfl)) ?_; clear Z a; intro a Z
 refine s_runk tMv2 Z 1 rfl rfl ?_; clear Z a; intro a Z
 refine s_end Z [0, 1, 4, 5, 6, 9, 10, 11, 12] rfl ?_; clear Z; intro Z
 refine p_then ?_
 refine f_cond Z rfl (fun hc1 => ?_) (fun hc1 => ?_)
 ·replace hF := ite_t hc1 hF
  refine wp_skip ?_
  refine p_then (wp_seq ?_)
  refine wp_block ?_
  obtain ⟨hg1, hF⟩ := chk_in hF
  obtain ⟨hg2, hF⟩ := chk_in hF
  obtain ⟨hg3, hF⟩ := chk_in hF
  refine f_regionU Z (by kernel_rfl) (by kernel_rfl) (by decide) (by decide) [12, 13] [(0, [0, 1]), (0, [0]), (0, [0]), (6, [0]), (14, [0]), (30, [0]), (0, [0]), (0, [0]), (192, [0]), (448, [0]), (960, [0]), (2046, [0]), (4094, [0]), (8191, [1]), (16383, [3])] (by kernel_rfl) (fun jj => match jj with | 14 => 13 | _ => jj) (by kernel_rfl) (fun jj rv vv => cond (Nat.blt jj 7) (cond (Nat.blt jj 3) (cond (Nat.blt jj 1) (vv = v3) (cond (Nat.blt jj 2) (vv = v1_l) (vv = .int .i64 i))) (cond (Nat.blt jj 5) (cond (Nat.blt jj 4) (vv = .pointer (some ⟨blkOf v1_l, oofOf v1_l + (i).toNat * 2, none⟩)) (vv = .pointer (some ⟨blkOf v1_l, oofOf v1_l + (i).toNat * 2, none⟩))) (cond (Nat.blt jj 6) (vv = .string ((l.getD (i).toNat default).key)) (vv = v1_l)))) (cond (Nat.blt jj 11) (cond (Nat.blt jj 9) (cond (Nat.blt jj 8) (vv = .int .i64 i) (vv = .pointer (some ⟨blkOf v1_l, oofOf v1_l + (i).toNat * 2, none⟩))) (cond (Nat.blt jj 10) (vv = .pointer (some ⟨blkOf v1_l, oofOf v1_l + (i).toNat * 2 + 1, none⟩)) (vv = .string ((l.getD (i).toNat default).val)))) (cond (Nat.blt jj 13) (cond (Nat.blt jj 12) (vv = .agg #[.string ((l.getD (i).toNat default).key), .string ((l.getD (i).toNat default).val), .bool false]) (vv = .slice (some ⟨blkOf vv, 0, none⟩) 1 1)) (cond (Nat.blt jj 14) (True) (vv = rv))))) (fun ss vals1 xw => match ss with | 0 => Gx I D w I1 w1 xw [SlC NEPair v1_l l, SlC NEOp v2_m m, OwC NEOp 60 v3 all] | 1 => Gx I D w I1 w1 xw [BxC (blkOf (vals1 12)) 60 [.string ((l.getD (i).toNat default).key), .string ((l.getD (i).toNat default).val), .bool false], SlC NEPair v1_l l, SlC NEOp v2_m m, OwC NEOp 60 v3 all] | _ => Gx I D w I1 w1 xw [OwC NEOp 60 (vals1 13) (all ++ [({ key := (l.getD (i).toNat default).key, val := (l.getD (i).toNat default).val, del := false } : EOp)]), SlC NEPair v1_l l, SlC NEOp v2_m m]) (fun _ => Gx.start H) ?_ ?_
  ·intro fr hfr hfe
   refine .cons (fun ss hs vals1 xw hG hV hU => ?_) ?_
   ·obtain rfl | rfl : ss = 0 ∨ ss = 1 := by simpa using hs
    all_goals
    ·rw [← hfe]
     have hS := (hfr vals1).sub (ts := [5]) (S' := [(5, vals1 14)]) rfl
     replace hS := hS.conv (t := 5) rfl (show vals1 14 = v3 from (hU 14 rfl).trans (orig_at Z rfl rfl))
     exact L_val hS rfl (Ob_c tMv2 rfl) ⟨rfl, hG⟩
   refine .cons (fun ss hs vals1 xw hG hV hU => ?_) ?_
   ·obtain rfl : ss = 0 := by simpa using hs
    rw [← hfe]
    have hS := (hfr vals1).sub (ts := [0]) (S' := [(0, v1_l)]) rfl
    exact L_val hS rfl (Ob_c tMv2 rfl) ⟨rfl, hG⟩
   refine .cons (fun ss hs vals1 xw hG hV hU => ?_) ?_
   ·obtain rfl : ss = 0 := by simpa using hs
    rw [← hfe]
    have hS := (hfr vals1).sub (ts := [6]) (S' := [(6, .int .i64 i)]) rfl
    exact L_val hS rfl (Ob_c tMv2 rfl) ⟨rfl, hG⟩
   refine .cons (fun ss hs vals1 xw hG hV hU => ?_) ?_
   ·obtain rfl : ss = 0 := by simpa using hs
    rw [← hfe]
    have hS := (hfr vals1).sub (ts := [16, 17]) (S' := [(16, vals1 1), (17, vals1 2)]) rfl
    replace hS := hS.conv (t := 16) rfl (show (vals1 1) = v1_l from hV 1 (by decide))
    replace hS := hS.conv (t := 17) rfl (show (vals1 2) = .int .i64 i from hV 2 (by decide))
    obtain ⟨I2, hI2, H⟩ := Gx.ex hG
    exact L_val hS rfl (Ob_sidx tMv2 rfl rfl rfl rfl (slPl (H.sl 0 rfl) hg1) hg1) ⟨rfl, hG⟩
   refine .cons (fun ss hs vals1 xw hG hV hU => ?_) ?_
   ·obtain rfl : ss = 0 := by simpa using hs
    rw [← hfe]
    have hS := (hfr vals1).sub (ts := [18]) (S' := [(18, vals1 3)]) rfl
    replace hS := hS.conv (t := 18) rfl (show (vals1 3) = .pointer (some ⟨blkOf v1_l, oofOf v1_l + (i).toNat * 2, none⟩) from hV 3 (by decide))
    exact L_val hS rfl (Ob_c tMv2 rfl) ⟨rfl, hG⟩
   refine .cons (fun ss hs vals1 xw hG hV hU => ?_) ?_
   ·obtain rfl : ss = 0 := by simpa using hs
    rw [← hfe]
    have hS := (hfr vals1).sub (ts := [19]) (S' := [(19, vals1 4)]) rfl
    replace hS := hS.conv (t := 19) rfl (show (vals1 4) = .pointer (some ⟨blkOf v1_l, oofOf v1_l + (i).toNat * 2, none⟩) from hV 4 (by decide))
    obtain ⟨I2, hI2, H⟩ := Gx.ex hG
    exact L_val hS rfl (Ob_load tMv2 rfl rfl rfl ((slFl (H.sl 0 rfl) hg1) 0 _ rfl)) ⟨rfl, hG⟩
   refine .cons (fun ss hs vals1 xw hG hV hU => ?_) ?_
   ·obtain rfl : ss = 0 := by simpa using hs
    rw [← hfe]
    have hS := (hfr vals1).sub (ts := [0]) (S' := [(0, v1_l)]) rfl
    exact L_val hS rfl (Ob_c tMv2 rfl) ⟨rfl, hG⟩
   refine .cons (fun ss hs vals1 xw hG hV hU => ?_) ?_
   ·obtain rfl : ss = 0 := by simpa using hs
    rw [← hfe]
    have hS := (hfr vals1).sub (ts := [6]) (S' := [(6, .int .i64 i)]) rfl
    exact L_val hS rfl (Ob_c tMv2 rfl) ⟨rfl, hG⟩
   refine .cons (fun ss hs vals1 xw hG hV hU => ?_) ?_
   ·obtain rfl : ss = 0 := by simpa using hs
    rw [← hfe]
    have hS := (hfr vals1).sub (ts := [21, 22]) (S' := [(21, vals1 6), (22, vals1 7)]) rfl
    replace hS := hS.conv (t := 21) rfl (show (vals1 6) = v1_l from hV 6 (by decide))
    replace hS := hS.conv (t := 22) rfl (show (vals1 7) = .int .i64 i from hV 7 (by decide))
    obtain ⟨I2, hI2, H⟩ := Gx.ex hG
    exact L_val hS rfl (Ob_sidx tMv2 rfl rfl rfl rfl (slPl (H.sl 0 rfl) hg2) hg2) ⟨rfl, hG⟩
   refine .cons (fun ss hs vals1 xw hG hV hU => ?_) ?_
   ·obtain rfl : ss = 0 := by simpa using hs
    rw [← hfe]
    have hS := (hfr vals1).sub (ts := [23]) (S' := [(23, vals1 8)]) rfl
    replace hS := hS.conv (t := 23) rfl (show (vals1 8) = .pointer (some ⟨blkOf v1_l, oofOf v1_l + (i).toNat * 2, none⟩) from hV 8 (by decide))
    exact L_val hS rfl (Ob_c tMv2 rfl) ⟨rfl, hG⟩
   refine .cons (fun ss hs vals1 xw hG hV hU => ?_) ?_
   ·obtain rfl : ss = 0 := by simpa using hs
    rw [← hfe]
    have hS := (hfr vals1).sub (ts := [24]) (S' := [(24, vals1 9)]) rfl
    replace hS := hS.conv (t := 24) rfl (show (vals1 9) = .pointer (some ⟨blkOf v1_l, oofOf v1_l + (i).toNat * 2 + 1, none⟩) from hV 9 (by decide))
    obtain ⟨I2, hI2, H⟩ := Gx.ex hG
    exact L_val hS rfl (Ob_load tMv2 rfl rfl rfl ((slFl (H.sl 0 rfl) hg2) 1 _ rfl)) ⟨rfl, hG⟩
   refine .cons (fun ss hs vals1 xw hG hV hU => ?_) ?_
   ·obtain rfl : ss = 0 := by simpa using hs
    rw [← hfe]
    have hS := (hfr vals1).sub (ts := [20, 25]) (S' := [(20, vals1 5), (25, vals1 10)]) rfl
    replace hS := hS.conv (t := 20) rfl (show (vals1 5) = .string ((l.getD (i).toNat default).key) from hV 5 (by decide))
    replace hS := hS.conv (t := 25) rfl (show (vals1 10) = .string ((l.getD (i).toNat default).val) from hV 10 (by decide))
    exact L_val hS rfl (Ob_build (vs := [(0, .string ((l.getD (i).toNat default).key)), (1, .string ((l.getD (i).toNat default).val))]) rfl rfl (by go_simp <;> rfl)) ⟨rfl, hG⟩
   refine .cons (fun ss hs vals1 xw hG hV hU => ?_) ?_
   ·obtain rfl : ss = 0 := by simpa using hs
    rw [← hfe]
    have hS := (hfr vals1).sub (ts := [26]) (S' := [(26, vals1 11)]) rfl
    replace hS := hS.conv (t := 26) rfl (show (vals1 11) = .agg #[.string ((l.getD (i).toNat default).key), .string ((l.getD (i).toNat default).val), .bool false] from hV 11 (by decide))
    obtain ⟨I2, hI2, H⟩ := Gx.ex hG
    exact L_bslice H (vs := [(0, .agg #[.string ((l.getD (i).toNat default).key), .string ((l.getD (i).toNat default).val), .bool false])]) (cl := [.string ((l.getD (i).toNat default).key), .string ((l.getD (i).toNat default).val), .bool false]) (e := 60) hS rfl rfl rfl (fun w => run_bslice (z := .agg #[.string ByteArray.empty, .string ByteArray.empty, .bool false]) (m := 3) Try.underlying30 (by kernel_rfl) rfl rfl (by decide) (by simp [Instr.fill, Value.cells]) w) fun yw b hK H => ⟨rfl, Gx.go hG hI2 hK (fun _ h => h) H⟩
   refine .cons (fun ss hs vals1 xw hG hV hU => ?_) ?_
   ·obtain rfl : ss = 1 := by simpa using hs
    rw [← hfe]
    have hS := (hfr vals1).sub (ts := [15, 27]) (S' := [(15, vals1 0), (27, vals1 12)]) rfl
    replace hS := hS.conv (t := 15) rfl (show (vals1 0) = v3 from hV 0 (by decide))
    replace hS := hS.conv (t := 27) rfl (show (vals1 12) = .slice (some ⟨blkOf (vals1 12), 0, none⟩) 1 1 from hV 12 (by decide))
    obtain ⟨I2, hI2, H⟩ := Gx.ex hG
    exact L_appO H 3 E_30_YMv2 [({ key := (l.getD (i).toNat default).key, val := (l.getD (i).toNat default).val, del := false } : EOp)] rfl rfl hS rfl rfl rfl rfl (slRep2.box1 (H.bx 0 rfl) ⟨rfl, trivial⟩) hg3 (by decide) fun v yw hK H => ⟨trivial, Gx.go hG hI2 hK (fun _ h => h) (H.sub [(0, false), (1, true), (2, true)] rfl)⟩
   refine .cons (fun ss hs vals1 xw hG hV hU => ?_) ?_
   ·obtain rfl : ss = 3 := by simpa using hs
    rw [← hfe]
    have hS := (hfr vals1).sub (ts := [28]) (S' := [(28, vals1 13)]) rfl
    exact L_val hS rfl (Ob_c tMv2 rfl) ⟨rfl, hG⟩
   exact .nil
  ·intro vals1 a w2 Z hG hV
   replace Z := Z.sub (ts := [0, 1, 4, 5, 6, 9, 10, 11, 12, 15, 16, 17, 18, 19, 20, 21, 22, 23, 24, 25, 26, 27, 28]) (S' := [(0, v1_l), (1, v2_m), (4, .slice none 0 0), (5, vals1 14), (6, .int .i64 i), (9, .int .i64 i), (10, v1_l), (11, .int .i64 (l.length : Int)), (12, .bool (decide (i < (l.length : Int)))), (15, vals1 0), (16, vals1 1), (17, vals1 2), (18, vals1 3), (19, vals1 4), (20, vals1 5), (21, vals1 6), (22, vals1 7), (23, vals1 8), (24, vals1 9), (25, vals1 10), (26, vals1 11), (27, vals1 12), (28, vals1 13)]) rfl
   replace Z := Z.conv (t := 5) rfl (show (vals1 14) = (vals1 13) from hV 14 (by decide))
   replace Z := Z.conv (t := 15) rfl (show (vals1 0) = v3 from hV 0 (by decide))
   replace Z := Z.conv (t := 16) rfl (show (vals1 1) = v1_l from hV 1 (by decide))
   replace Z := Z.conv (t := 17) rfl (show (vals1 2) = .int .i64 i from hV 2 (by decide))
   replace Z := Z.conv (t := 18) rfl (show (vals1 3) = .pointer (some ⟨blkOf v1_l, oofOf v1_l + (i).toNat * 2, none⟩) from hV 3 (by decide))
   replace Z := Z.conv (t := 19) rfl (show (vals1 4) = .pointer (some ⟨blkOf v1_l, oofOf v1_l + (i).toNat * 2, none⟩) from hV 4 (by decide))
   replace Z := Z.conv (t := 20) rfl (show (vals1 5) = .string ((l.getD (i).toNat default).key) from hV 5 (by decide))
   replace Z := Z.conv (t := 21) rfl (show (vals1 6) = v1_l from hV 6 (by decide))
   replace Z := Z.conv (t := 22) rfl (show (vals1 7) = .int .i64 i from hV 7 (by decide))
   replace Z := Z.conv (t := 23) rfl (show (vals1 8) = .pointer (some ⟨blkOf v1_l, oofOf v1_l + (i).toNat * 2, none⟩) from hV 8 (by decide))
   replace Z := Z.conv (t := 24) rfl (show (vals1 9) = .pointer (some ⟨blkOf v1_l, oofOf v1_l + (i).toNat * 2 + 1, none⟩) from hV 9 (by decide))
   replace Z := Z.conv (t := 25) rfl (show (vals1 10) = .string ((l.getD (i).toNat default).val) from hV 10 (by decide))
   replace Z := Z.conv (t := 26) rfl (show (vals1 11) = .agg #[.string ((l.getD (i).toNat default).key), .string ((l.getD (i).toNat default).val), .bool false] from hV 11 (by decide))
   replace Z := Z.conv (t := 27) rfl (show (vals1 12) = .slice (some ⟨blkOf (vals1 12), 0, none⟩) 1 1 from hV 12 (by decide))
   obtain ⟨I2, _, H⟩ := Gx.ex hG
   clear hG hV
   replace Z := Z.sub (ts := [0, 1, 4, 5, 6, 9, 10, 11, 12, 15, 16, 17, 18, 19, 20, 21, 22, 23, 24, 25, 26, 27, 28]) rfl
   replace H : Hf I D w I2 w2 [OwC NEOp 60 (vals1 13) (all ++ [({ key := (l.getD (i).toNat default).key, val := (l.getD (i).toNat default).val, del := false } : EOp)]), SlC NEPair v1_l l, SlC NEOp v2_m m] := H
   refine p_blk ?_
   refine p_then ?_
   obtain ⟨hg4, hF⟩ := chk_in hF
   refine f_region Z ?_; clear Z; intro Z
   refine s_runk tMv2 Z 1 rfl rfl ?_; clear Z a; intro a Z
   refine s_ob Z (v := .int .i64 (i + 1)) rfl rfl (by decide) rfl (Ob_add rfl rfl rfl (wrI hg4)) ?_; clear Z a; intro a Z
   refine s_runk tMv2 Z 1 rfl rfl ?_; clear Z a; intro a Z
   refine s_end Z [0, 1, 4, 5, 6, 9, 10, 11, 12, 15, 16, 17, 18, 19, 20, 21, 22, 23, 24, 25, 26, 27, 28, 13, 14] rfl ?_; clear Z; intro Z
   refine p_then ?_
   exact ⟨(all ++ [({ key := (l.getD (i).toNat default).key, val := (l.getD (i).toNat default).val, del := false } : EOp)], i + 1), ⟨(vals1 13), Z.sub (ts := [0, 1, 4, 5, 6]) rfl, ⟨I2, (H.sub [(1, true), (2, true), (0, false)] rfl).eq rfl⟩⟩, hF⟩
 ·replace hF := ite_f hc1 hF
  refine wp_exit ?_
  refine p_then_x ?_
  refine p_then_x ?_
  refine f_exit_here ?_
  refine p_then (wp_seq ?_)
  obtain ⟨hg5, hF⟩ := chk_in hF
  refine f_region Z ?_; clear Z; intro Z
  refine s_runk tMv2 Z 2 rfl rfl ?_; clear Z a; intro a Z
  refine h_appO Z H 2 E_30_YMv2 m rfl rfl rfl rfl rfl (by decide) rfl rfl rfl (H.sl2 1 rfl) hg5 (by decide) ?_; clear Z a H; intro v4 a w3 H Z
  dsimp only [List.eraseIdx] at H
  refine s_runk tMv2 Z 1 rfl rfl ?_; clear Z a; intro a Z
  refine s_end Z [4, 5] rfl ?_; clear Z; intro Z
  refine p_then (wp_seq ?_)
  obtain ⟨n0, hx1, hF⟩ := bnd_in hF
  refine f_region Z ?_; clear Z; intro Z
  refine s_runk tMv2 Z 1 rfl rfl ?_; clear Z a; intro a Z
  obtain ⟨I3, _, H⟩ := H.frzow 0 rfl
  replace H : Hf I D w I3 w3 [SlC NEOp v4 (all ++ m), SlC NEPair v1_l l, SlC NEOp v2_m m] := H
  refine h_call Z H (js := [(0, true)]) rfl (caps := #[]) fn_32_YMv2 rfl rfl rfl rfl rfl (by decide) rfl rfl (fun D1 hS => have hq := c_ref06_Norm hx1 hS; hq) ?_; clear Z a; intro vv a w4 D2 hr hF2 Z
  obtain ⟨q1, hvv, I4, K⟩ := hr; obtain rfl := hvv.symm
  have H : Hf I D w I4 w4 [SlC NEOp q1 n0, SlC NEOp v4 (all ++ m), SlC NEPair v1_l l, SlC NEOp v2_m m] := hF2 K
  clear hF2 K
  refine s_runk tMv2 Z 1 rfl rfl ?_; clear Z a; intro a Z
  refine s_end Z [4, 5] rfl ?_; clear Z; intro Z
  refine p_then (wp_seq (f_region Z ?_)); clear Z; intro Z
  refine s_runk tMv2 Z 1 rfl rfl ?_; clear Z a; intro a Z
  refine s_end Z [4, 5, 7] rfl ?_; clear Z; intro Z
  refine p_then (wp_seq ?_)
  refine wp_seq (f_region Z ?_); clear Z; intro Z
  refine s_runk tMv2 Z 1 rfl rfl ?_; clear Z a; intro a Z
  refine s_end Z [4, 5, 7, 8] rfl ?_; clear Z; intro Z
  refine p_then (wp_block ?_)
  replace H : Hf I D w I4 w4 [OwC NEPair 39 (.slice none 0 0) ([] : List EPair), SlC NEOp q1 n0, SlC NEOp v4 (all ++ m), SlC NEPair v1_l l, SlC NEOp v2_m m] := H.nilow NEPair 39
  replace H : Hf I D w I4 w4 [OwC NEPair 39 (.slice none 0 0) ([] : List EPair), OwC NEPair 39 (.slice none 0 0) ([] : List EPair), SlC NEOp q1 n0, SlC NEOp v4 (all ++ m), SlC NEPair v1_l l, SlC NEOp v2_m m] := H.nilow NEPair 39
  refine f_iter hF (fun sg a' w' => match sg with | (out, i_2) => ∃ v5 : Value, Sl 61 [(4, .slice none 0 0), (5, q1), (7, v5), (8, .int .i64 i_2)] a' ∧ ∃ I2, Hf I D w I2 w' [OwC NEPair 39 (.slice none 0 0) ([] : List EPair), SlC NEOp q1 n0, OwC NEPair 39 v5 out]) ⟨.slice none 0 0, Z.sub (ts := [4, 5, 7, 8]) rfl, ⟨I4, (H.sub [(1, false), (1, true), (0, false)] rfl).eq rfl⟩⟩ ?_
  clear Z H hF a
  rintro rc_2 ⟨out, i_2⟩ a w5 ⟨v5, Z, I5, H⟩ hF
  unfold F_ref06_Over_l2 at hF
  try dsimp only at hF
  refine wp_seq ?_
  refine wp_seq (f_region Z ?_); clear Z; intro Z
  refine s_runk tMv2 Z 2 rfl rfl ?_; clear Z a; intro a Z
  refine s_ob Z (v := .int .i64 (n0.length : Int)) rfl rfl (by decide) rfl (Ob_slen tMv2 rfl rfl rfl (H.slshape 1 rfl)) ?_; clear Z a; intro a Z
  refine s_runk tMv2 Z 1 rfl rfl ?_; clear Z a; intro a Z
  refine s_end Z [4, 5, 7, 8, 34, 35, 36, 37] rfl ?_; clear Z; intro Z
  refine p_then ?_
  refine f_cond Z rfl (fun hc2 => ?_) (fun hc2 => ?_)
  ·replace hF := ite_t hc2 hF
   refine wp_skip ?_
   refine p_then ?_
   refine f_cut (fun a' w' => ∃ (out_2 : List EPair), ∃ v6 : Value, Sl 61 [(4, .slice none 0 0), (5, q1), (7, v6), (8, .int .i64 i_2), (34, .int .i64 i_2), (35, q1), (36, .int .i64 (n0.length : Int)), (37, .bool (decide (i_2 < (n0.length : Int)))), (40, q1), (41, .int .i64 i_2), (42, .pointer (some ⟨blkOf q1, oofOf q1 + (i_2).toNat * 3, none⟩)), (43, .pointer (some ⟨blkOf q1, oofOf q1 + (i_2).toNat * 3 + 2, none⟩)), (44, .bool ((n0.getD (i_2).toNat default).del)), (45, .bool (!((n0.getD (i_2).toNat default).del)))] a' ∧ (∃ I2, Hf I D w I2 w' [OwC NEPair 39 (.slice none 0 0) ([] : List EPair), SlC NEOp q1 n0, OwC NEPair 39 v6 out_2]) ∧ F_ref06_Over_k3 i_2 rc_2 out_2 = some rr) ?_ ?_
   ·rintro a w6 ⟨out_2, v6, Z, ⟨I6, H⟩, hF⟩
    unfold F_ref06_Over_k3 at hF
    try dsimp only at hF
    obtain ⟨hg6, hF⟩ := chk_in hF
    refine f_region Z ?_; clear Z; intro Z
    refine s_runk tMv2 Z 1 rfl rfl ?_; clear Z a; intro a Z
    refine s_ob Z (v := .int .i64 (i_2 + 1)) rfl rfl (by decide) rfl (Ob_add rfl rfl rfl (wrI hg6)) ?_; clear Z a; intro a Z
    refine s_runk tMv2 Z 1 rfl rfl ?_; clear Z a; intro a Z
    refine s_end Z [4, 5, 7, 8, 34, 35, 36, 37, 40, 41, 42, 43, 44, 45, 38, 39] rfl ?_; clear Z; intro Z
    refine p_then ?_
    exact ⟨(out_2, i_2 + 1), ⟨v6, Z.sub (ts := [4, 5, 7, 8]) rfl, ⟨I6, (H.sub [(0, false), (0, true), (1, false)] rfl).eq rfl⟩⟩, hF⟩
   ·skip
    refine wp_block ?_
    refine wp_seq ?_
    obtain ⟨hg7, hF⟩ := chk_in hF
    refine f_region Z ?_; clear Z; intro Z
    refine s_runk tMv2 Z 2 rfl rfl ?_; clear Z a; intro a Z
    refine s_ob Z (v := .pointer (some ⟨blkOf q1, oofOf q1 + (i_2).toNat * 3, none⟩)) rfl rfl (by decide) rfl (Ob_sidx tMv2 rfl rfl rfl rfl (slPl (H.sl 1 rfl) hg7) hg7) ?_; clear Z a; intro a Z
    refine s_runk tMv2 Z 1 rfl rfl ?_; clear Z a; intro a Z
    refine s_ob Z (v := .bool ((n0.getD (i_2).toNat default).del)) rfl rfl (by decide) rfl (Ob_load tMv2 rfl rfl rfl ((slFl (H.sl 1 rfl) hg7) 2 _ rfl)) ?_; clear Z a; intro a Z
    refine s_runk tMv2 Z 1 rfl rfl ?_; clear Z a; intro a Z
    refine s_end Z [4, 5, 7, 8, 34, 35, 36, 37, 40, 41, 42, 43, 44, 45] rfl ?_; clear Z; intro Z
    refine p_then ?_
    refine f_cond Z rfl (fun hc3 => ?_) (fun hc3 => ?_)
    ·replace hF := ite_t hc3 hF
     obtain ⟨hg8, hF⟩ := chk_in hF
     obtain ⟨hg9, hF⟩ := chk_in hF
     obtain ⟨hg10, hF⟩ := chk_in hF
     refine f_regionU Z (by kernel_rfl) (by kernel_rfl) (by decide) (by decide) [12, 13] [(0, [0, 1]), (0, [0]), (0, [0]), (6, [0]), (14, [0]), (30, [0]), (0, [0]), (0, [0]), (192, [0]), (448, [0]), (960, [0]), (2046, [0]), (4094, [0]), (8191, [1]), (16383, [3])] (by kernel_rfl) (fun jj => match jj with | 14 => 13 | _ => jj) (by kernel_rfl) (fun jj rv vv => cond (Nat.blt jj 7) (cond (Nat.blt jj 3) (cond (Nat.blt jj 1) (vv = v5) (cond (Nat.blt jj 2) (vv = q1) (vv = .int .i64 i_2))) (cond (Nat.blt jj 5) (cond (Nat.blt jj 4) (vv = .pointer (some ⟨blkOf q1, oofOf q1 + (i_2).toNat * 3, none⟩)) (vv = .pointer (some ⟨blkOf q1, oofOf q1 + (i_2).toNat * 3, none⟩))) (cond (Nat.blt jj 6) (vv = .string ((n0.getD (i_2).toNat default).key)) (vv = q1)))) (cond (Nat.blt jj 11) (cond (Nat.blt jj 9) (cond (Nat.blt jj 8) (vv = .int .i64 i_2) (vv = .pointer (some ⟨blkOf q1, oofOf q1 + (i_2).toNat * 3, none⟩))) (cond (Nat.blt jj 10) (vv = .pointer (some ⟨blkOf q1, oofOf q1 + (i_2).toNat * 3 + 1, none⟩)) (vv = .string ((n0.getD (i_2).toNat default).val)))) (cond (Nat.blt jj 13) (cond (Nat.blt jj 12) (vv = .agg #[.string ((n0.getD (i_2).toNat default).key), .string ((n0.getD (i_2).toNat default).val)]) (vv = .slice (some ⟨blkOf vv, 0, none⟩) 1 1)) (cond (Nat.blt jj 14) (True) (vv = rv))))) (fun ss vals2 xw => match ss with | 0 => Gx I D w I5 w5 xw [OwC NEPair 39 (.slice none 0 0) ([] : List EPair), SlC NEOp q1 n0, OwC NEPair 39 v5 out] | 1 => Gx I D w I5 w5 xw [BxC (blkOf (vals2 12)) 39 [.string ((n0.getD (i_2).toNat default).key), .string ((n0.getD (i_2).toNat default).val)], OwC NEPair 39 (.slice none 0 0) ([] : List EPair), SlC NEOp q1 n0, OwC NEPair 39 v5 out] | _ => Gx I D w I5 w5 xw [OwC NEPair 39 (vals2 13) (out ++ [({ key := (n0.getD (i_2).toNat default).key, val := (n0.getD (i_2).toNat default).val } : EPair)]), OwC NEPair 39 (.slice none 0 0) ([] : List EPair), SlC NEOp q1 n0]) (fun _ => Gx.start H) ?_ ?_
     ·intro fr hfr hfe
      refine .cons (fun ss hs vals2 xw hG hV hU => ?_) ?_
      ·obtain rfl | rfl : ss = 0 ∨ ss = 1 := by simpa using hs
       all_goals
       ·rw [← hfe]
        have hS := (hfr vals2).sub (ts := [7]) (S' := [(7, vals2 14)]) rfl
        replace hS := hS.conv (t := 7) rfl (show vals2 14 = v5 from (hU 14 rfl).trans (orig_at Z rfl rfl))
        exact L_val hS rfl (Ob_c tMv2 rfl) ⟨rfl, hG⟩
      refine .cons (fun ss hs vals2 xw hG hV hU => ?_) ?_
      ·obtain rfl : ss = 0 := by simpa using hs
       rw [← hfe]
       have hS := (hfr vals2).sub (ts := [5]) (S' := [(5, q1)]) rfl
       exact L_val hS rfl (Ob_c tMv2 rfl) ⟨rfl, hG⟩
      refine .cons (fun ss hs vals2 xw hG hV hU => ?_) ?_
      ·obtain rfl : ss = 0 := by simpa using hs
       rw [← hfe]
       have hS := (hfr vals2).sub (ts := [8]) (S' := [(8, .int .i64 i_2)]) rfl
       exact L_val hS rfl (Ob_c tMv2 rfl) ⟨rfl, hG⟩
      refine .cons (fun ss hs vals2 xw hG hV hU => ?_) ?_
      ·obtain rfl : ss = 0 := by simpa using hs
       rw [← hfe]
       have hS := (hfr vals2).sub (ts := [47, 48]) (S' := [(47, vals2 1), (48, vals2 2)]) rfl
       replace hS := hS.conv (t := 47) rfl (show (vals2 1) = q1 from hV 1 (by decide))
       replace hS := hS.conv (t := 48) rfl (show (vals2 2) = .int .i64 i_2 from hV 2 (by decide))
       obtain ⟨I2, hI2, H⟩ := Gx.ex hG
       exact L_val hS rfl (Ob_sidx tMv2 rfl rfl rfl rfl (slPl (H.sl 1 rfl) hg8) hg8) ⟨rfl, hG⟩
      refine .cons (fun ss hs vals2 xw hG hV hU => ?_) ?_
      ·obtain rfl : ss = 0 := by simpa using hs
       rw [← hfe]
       have hS := (hfr vals2).sub (ts := [49]) (S' := [(49, vals2 3)]) rfl
       replace hS := hS.conv (t := 49) rfl (show (vals2 3) = .pointer (some ⟨blkOf q1, oofOf q1 + (i_2).toNat * 3, none⟩) from hV 3 (by decide))
       exact L_val hS rfl (Ob_c tMv2 rfl) ⟨rfl, hG⟩
      refine .cons (fun ss hs vals2 xw hG hV hU => ?_) ?_
      ·obtain rfl : ss = 0 := by simpa using hs
       rw [← hfe]
       have hS := (hfr vals2).sub (ts := [50]) (S' := [(50, vals2 4)]) rfl
       replace hS := hS.conv (t := 50) rfl (show (vals2 4) = .pointer (some ⟨blkOf q1, oofOf q1 + (i_2).toNat * 3, none⟩) from hV 4 (by decide))
       obtain ⟨I2, hI2, H⟩ := Gx.ex hG
       exact L_val hS rfl (Ob_load tMv2 rfl rfl rfl ((slFl (H.sl 1 rfl) hg8) 0 _ rfl)) ⟨rfl, hG⟩
      refine .cons (fun ss hs vals2 xw hG hV hU => ?_) ?_
      ·obtain rfl : ss = 0 := by simpa using hs
       rw [← hfe]
       have hS := (hfr vals2).sub (ts := [5]) (S' := [(5, q1)]) rfl
       exact L_val hS rfl (Ob_c tMv2 rfl) ⟨rfl, hG⟩
      refine .cons (fun ss hs vals2 xw hG hV hU => ?_) ?_
      ·obtain rfl : ss = 0 := by simpa using hs
       rw [← hfe]
       have hS := (hfr vals2).sub (ts := [8]) (S' := [(8, .int .i64 i_2)]) rfl
       exact L_val hS rfl (Ob_c tMv2 rfl) ⟨rfl, hG⟩
      refine .cons (fun ss hs vals2 xw hG hV hU => ?_) ?_
      ·obtain rfl : ss = 0 := by simpa using hs
       rw [← hfe]
       have hS := (hfr vals2).sub (ts := [52, 53]) (S' := [(52, vals2 6), (53, vals2 7)]) rfl
       replace hS := hS.conv (t := 52) rfl (show (vals2 6) = q1 from hV 6 (by decide))
       replace hS := hS.conv (t := 53) rfl (show (vals2 7) = .int .i64 i_2 from hV 7 (by decide))
       obtain ⟨I2, hI2, H⟩ := Gx.ex hG
       exact L_val hS rfl (Ob_sidx tMv2 rfl rfl rfl rfl (slPl (H.sl 1 rfl) hg9) hg9) ⟨rfl, hG⟩
      refine .cons (fun ss hs vals2 xw hG hV hU => ?_) ?_
      ·obtain rfl : ss = 0 := by simpa using hs
       rw [← hfe]
       have hS := (hfr vals2).sub (ts := [54]) (S' := [(54, vals2 8)]) rfl
       replace hS := hS.conv (t := 54) rfl (show (vals2 8) = .pointer (some ⟨blkOf q1, oofOf q1 + (i_2).toNat * 3, none⟩) from hV 8 (by decide))
       exact L_val hS rfl (Ob_c tMv2 rfl) ⟨rfl, hG⟩
      refine .cons (fun ss hs vals2 xw hG hV hU => ?_) ?_
      ·obtain rfl : ss = 0 := by simpa using hs
       rw [← hfe]
       have hS := (hfr vals2).sub (ts := [55]) (S' := [(55, vals2 9)]) rfl
       replace hS := hS.conv (t := 55) rfl (show (vals2 9) = .pointer (some ⟨blkOf q1, oofOf q1 + (i_2).toNat * 3 + 1, none⟩) from hV 9 (by decide))
       obtain ⟨I2, hI2, H⟩ := Gx.ex hG
       exact L_val hS rfl (Ob_load tMv2 rfl rfl rfl ((slFl (H.sl 1 rfl) hg9) 1 _ rfl)) ⟨rfl, hG⟩
      refine .cons (fun ss hs vals2 xw hG hV hU => ?_) ?_
      ·obtain rfl : ss = 0 := by simpa using hs
       rw [← hfe]
       have hS := (hfr vals2).sub (ts := [51, 56]) (S' := [(51, vals2 5), (56, vals2 10)]) rfl
       replace hS := hS.conv (t := 51) rfl (show (vals2 5) = .string ((n0.getD (i_2).toNat default).key) from hV 5 (by decide))
       replace hS := hS.conv (t := 56) rfl (show (vals2 10) = .string ((n0.getD (i_2).toNat default).val) from hV 10 (by decide))
       exact L_val hS rfl (Ob_build (vs := [(0, .string ((n0.getD (i_2).toNat default).key)), (1, .string ((n0.getD (i_2).toNat default).val))]) rfl rfl (by go_simp <;> rfl)) ⟨rfl, hG⟩
      refine .cons (fun ss hs vals2 xw hG hV hU => ?_) ?_
      ·obtain rfl : ss = 0 := by simpa using hs
       rw [← hfe]
       have hS := (hfr vals2).sub (ts := [57]) (S' := [(57, vals2 11)]) rfl
       replace hS := hS.conv (t := 57) rfl (show (vals2 11) = .agg #[.string ((n0.getD (i_2).toNat default).key), .string ((n0.getD (i_2).toNat default).val)] from hV 11 (by decide))
       obtain ⟨I2, hI2, H⟩ := Gx.ex hG
       exact L_bslice H (vs := [(0, .agg #[.string ((n0.getD (i_2).toNat default).key), .string ((n0.getD (i_2).toNat default).val)])]) (cl := [.string ((n0.getD (i_2).toNat default).key), .string ((n0.getD (i_2).toNat default).val)]) (e := 39) hS rfl rfl rfl (fun w => run_bslice (z := .agg #[.string ByteArray.empty, .string ByteArray.empty]) (m := 2) Try.underlying33 (by kernel_rfl) rfl rfl (by decide) (by simp [Instr.fill, Value.cells]) w) fun yw b hK H => ⟨rfl, Gx.go hG hI2 hK (fun _ h => h) H⟩
      refine .cons (fun ss hs vals2 xw hG hV hU => ?_) ?_
      ·obtain rfl : ss = 1 := by simpa using hs
       rw [← hfe]
       have hS := (hfr vals2).sub (ts := [46, 58]) (S' := [(46, vals2 0), (58, vals2 12)]) rfl
       replace hS := hS.conv (t := 46) rfl (show (vals2 0) = v5 from hV 0 (by decide))
       replace hS := hS.conv (t := 58) rfl (show (vals2 12) = .slice (some ⟨blkOf (vals2 12), 0, none⟩) 1 1 from hV 12 (by decide))
       obtain ⟨I2, hI2, H⟩ := Gx.ex hG
       exact L_appO H 3 E_33_YMv2 [({ key := (n0.getD (i_2).toNat default).key, val := (n0.getD (i_2).toNat default).val } : EPair)] rfl rfl hS rfl rfl rfl rfl (slRep2.box1 (H.bx 0 rfl) ⟨rfl, trivial⟩) hg10 (by decide) fun v yw hK H => ⟨trivial, Gx.go hG hI2 hK (fun _ h => h) (H.sub [(0, false), (1, false), (1, true)] rfl)⟩
      refine .cons (fun ss hs vals2 xw hG hV hU => ?_) ?_
      ·obtain rfl : ss = 3 := by simpa using hs
       rw [← hfe]
       have hS := (hfr vals2).sub (ts := [59]) (S' := [(59, vals2 13)]) rfl
       exact L_val hS rfl (Ob_c tMv2 rfl) ⟨rfl, hG⟩
      exact .nil
     ·intro vals2 a w7 Z hG hV
      replace Z := Z.sub (ts := [4, 5, 7, 8, 34, 35, 36, 37, 40, 41, 42, 43, 44, 45, 46, 47, 48, 49, 50, 51, 52, 53, 54, 55, 56, 57, 58, 59]) (S' := [(4, .slice none 0 0), (5, q1), (7, vals2 14), (8, .int .i64 i_2), (34, .int .i64 i_2), (35, q1), (36, .int .i64 (n0.length : Int)), (37, .bool (decide (i_2 < (n0.length : Int)))), (40, q1), (41, .int .i64 i_2), (42, .pointer (some ⟨blkOf q1, oofOf q1 + (i_2).toNat * 3, none⟩)), (43, .pointer (some ⟨blkOf q1, oofOf q1 + (i_2).toNat * 3 + 2, none⟩)), (44, .bool ((n0.getD (i_2).toNat default).del)), (45, .bool (!((n0.getD (i_2).toNat default).del))), (46, vals2 0), (47, vals2 1), (48, vals2 2), (49, vals2 3), (50, vals2 4), (51, vals2 5), (52, vals2 6), (53, vals2 7), (54, vals2 8), (55, vals2 9), (56, vals2 10), (57, vals2 11), (58, vals2 12), (59, vals2 13)]) rfl
      replace Z := Z.conv (t := 7) rfl (show (vals2 14) = (vals2 13) from hV 14 (by decide))
      replace Z := Z.conv (t := 46) rfl (show (vals2 0) = v5 from hV 0 (by decide))
      replace Z := Z.conv (t := 47) rfl (show (vals2 1) = q1 from hV 1 (by decide))
      replace Z := Z.conv (t := 48) rfl (show (vals2 2) = .int .i64 i_2 from hV 2 (by decide))
      replace Z := Z.conv (t := 49) rfl (show (vals2 3) = .pointer (some ⟨blkOf q1, oofOf q1 + (i_2).toNat * 3, none⟩) from hV 3 (by decide))
      replace Z := Z.conv (t := 50) rfl (show (vals2 4) = .pointer (some ⟨blkOf q1, oofOf q1 + (i_2).toNat * 3, none⟩) from hV 4 (by decide))
      replace Z := Z.conv (t := 51) rfl (show (vals2 5) = .string ((n0.getD (i_2).toNat default).key) from hV 5 (by decide))
      replace Z := Z.conv (t := 52) rfl (show (vals2 6) = q1 from hV 6 (by decide))
      replace Z := Z.conv (t := 53) rfl (show (vals2 7) = .int .i64 i_2 from hV 7 (by decide))
      replace Z := Z.conv (t := 54) rfl (show (vals2 8) = .pointer (some ⟨blkOf q1, oofOf q1 + (i_2).toNat * 3, none⟩) from hV 8 (by decide))
      replace Z := Z.conv (t := 55) rfl (show (vals2 9) = .pointer (some ⟨blkOf q1, oofOf q1 + (i_2).toNat * 3 + 1, none⟩) from hV 9 (by decide))
      replace Z := Z.conv (t := 56) rfl (show (vals2 10) = .string ((n0.getD (i_2).toNat default).val) from hV 10 (by decide))
      replace Z := Z.conv (t := 57) rfl (show (vals2 11) = .agg #[.string ((n0.getD (i_2).toNat default).key), .string ((n0.getD (i_2).toNat default).val)] from hV 11 (by decide))
      replace Z := Z.conv (t := 58) rfl (show (vals2 12) = .slice (some ⟨blkOf (vals2 12), 0, none⟩) 1 1 from hV 12 (by decide))
      obtain ⟨I7, _, H⟩ := Gx.ex hG
      clear hG hV
      replace Z := Z.sub (ts := [4, 5, 7, 8, 34, 35, 36, 37, 40, 41, 42, 43, 44, 45, 46, 47, 48, 49, 50, 51, 52, 53, 54, 55, 56, 57, 58, 59]) rfl
      replace H : Hf I D w I7 w7 [OwC NEPair 39 (vals2 13) (out ++ [({ key := (n0.getD (i_2).toNat default).key, val := (n0.getD (i_2).toNat default).val } : EPair)]), OwC NEPair 39 (.slice none 0 0) ([] : List EPair), SlC NEOp q1 n0] := H
      refine p_blk ?_
      refine p_then ?_
      exact ⟨out ++ [({ key := (n0.getD (i_2).toNat default).key, val := (n0.getD (i_2).toNat default).val } : EPair)], (vals2 13), Z.sub (ts := [4, 5, 7, 8, 34, 35, 36, 37, 40, 41, 42, 43, 44, 45]) rfl, ⟨I7, (H.sub [(1, false), (1, true), (0, false)] rfl).eq rfl⟩, hF⟩
    ·replace hF := ite_f hc3 hF
     refine wp_skip ?_
     refine p_blk ?_
     refine p_then ?_
     exact ⟨out, v5, Z.sub (ts := [4, 5, 7, 8, 34, 35, 36, 37, 40, 41, 42, 43, 44, 45]) rfl, ⟨I5, (H.sub [(0, false), (0, true), (1, false)] rfl).eq rfl⟩, hF⟩
  ·replace hF := ite_f hc2 hF
   refine wp_exit ?_
   refine p_then_x ?_
   refine p_then_x ?_
   refine f_exit_here ?_
   refine p_then (wp_seq (f_region Z ?_)); clear Z; intro Z
   refine s_runk tMv2 Z 2 rfl rfl ?_; clear Z a; intro a Z
   refine s_end Z [4] rfl ?_; clear Z; intro Z
   refine p_then (wp_ret ?_)
   obtain ⟨I8, _, H⟩ := H.frzow 2 rfl
   replace H : Hf I D w I8 w5 [SlC NEPair v5 out, OwC NEPair 39 (.slice none 0 0) ([] : List EPair), SlC NEOp q1 n0] := H
   obtain rfl := some_in hF
   exact f_ret Z (run_results1 rfl Z rfl) ⟨v5, rfl, I8, (H.sub [(0, true)] rfl).eq rfl⟩

end Go.Proofs.Ytfefmdllnjpmgaa
