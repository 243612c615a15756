/- Adopting: the laws' parts. -/
import Derived.Test.YtdofpehcojboeaaYAd4
import Derived.Test.YtdofpehcojboeaaYAd5
namespace Go.Proofs.Ytdofpehcojboeaa
open Go.RowKit
def tAd6L : TabL := ⟨[(31744, 0), (31745, 1), (31746, 2), (34816, 0), (34817, 3), (47104, 0), (47105, 1), (47106, 2), (55296, 0), (55297, 1), (55298, 2), (55299, 3), (55300, 6), (55301, 7), (55302, 11), (55303, 14), (65536, 0)], [], [], [(22, (34, 4)), (25, (54, 18)), (29, (93, 3)), (44, (95, 2)), (47, (3, 1))], [(3, (1, false)), (22, (1, false)), (29, (1, false)), (31, (3, true)), (32, (1, false)), (34, (4, true)), (44, (1, false)), (46, (3, true)), (47, (1, false)), (49, (3, true)), (52, (4, true)), (54, (18, true)), (64, (1, true)), (93, (3, true)), (95, (2, true))]⟩

def tAd6 : Tab Try.prog := ⟨tAd6L, by kernel_rfl⟩

theorem fn_9_YAd6 : IsFn Try.prog 9 := ⟨_, Try.func9, by kernel_rfl, by kernel_rfl⟩

theorem fn_15_YAd6 : IsFn Try.prog 15 := ⟨_, Try.func15, by kernel_rfl, by kernel_rfl⟩

theorem fn_23_YAd6 : IsFn Try.prog 23 := ⟨_, Try.func23, by kernel_rfl, by kernel_rfl⟩

theorem fn_24_YAd6 : IsFn Try.prog 24 := ⟨_, Try.func24, by kernel_rfl, by kernel_rfl⟩

theorem fn_25_YAd6 : IsFn Try.prog 25 := ⟨_, Try.func25, by kernel_rfl, by kernel_rfl⟩

theorem fn_33_YAd6 : IsFn Try.prog 33 := ⟨_, Try.func33, by kernel_rfl, by kernel_rfl⟩

theorem neq_EOp (x y : EOp) (w : World) : (binOp .neq 93 (.agg (cEOp x).toArray) (.agg (cEOp y).toArray)).run Try.prog w = .ok (.bool (!eqEOp x y)) w := by
 have h1 := run_equalIn_struct (P := Try.prog) w 9999 93 (cEOp x).toArray (cEOp y).toArray (by rw [fieldsOf_of Try.underlying93]; exact Try.underlying93) (by kernel_rfl)
 rw [run_neq_struct, h1, fieldsOf_of Try.underlying93]
 simp [Op.eqFields, part, isAgg, cEOp, beqS, eqEOp, seqB_eq, run_underlying Try.underlying9, run_equalIn_string w 9998 9 _ _ Try.underlying9, run_underlying Try.underlying4, run_equalIn_bool' w 9998 4 _ _ Try.underlying4]
 try ((repeat' split) <;> simp_all)

theorem eqg_EOp (op : BinOp) (x y : Operand) (a b : Array Value) (w : World) : (eqGuard op 93 x y (.agg a) (.agg b)).run Try.prog w = .ok () w := run_eqGuard_agg (by kernel_rfl) op x y a b w

def F_law08_Much_l1 (l : List EEntry) (rc : (Int × Int) → Option Int) (sg : Int × Int) : Option Int := match sg with | (n0, i) => if ((decide (i < (l.length : Int))) && (decide (i < 200))) = true then (chk ((0 : Int) ≤ i ∧ i < (l.length : Int)) (chk (inI (n0 + ((((l.getD (i).toNat default).batch).ops).length : Int))) (chk (inI (i + 1)) (rc (n0 + ((((l.getD (i).toNat default).batch).ops).length : Int), i + 1))))) else (some n0)

def F_law08_Much (l : List EEntry) : Option Int := iter (F_law08_Much_l1 l) FU ((l.length : Int), 0)

set_option maxHeartbeats 1000000 in
theorem c_law08_Much {I D : Dm} {l : List EEntry} {v1_l : Value} {w : World} {rr : Int} (hF : F_law08_Much l = some rr) (H : St I D w [SlC NEEntry v1_l l]) :
  Calls Try.prog 7 #[v1_l] w (Ret fun vv w' => vv = .int .i64 rr ∧ ∃ I', Hf I D w I' w' []) := by
 replace H := H.hf
 unfold F_law08_Much at hF
 refine f_enter 27 Try.func7 rfl rfl (Nat.le_of_ble_eq_true rfl) fun a Z => ?_
 replace Z := Z.sub (ts := [0]) rfl
 refine wp_seq (f_region Z ?_); clear Z; intro Z
 refine s_runk tAd6 Z 1 rfl rfl ?_; clear Z a; intro a Z
 refine s_end Z [0, 2] rfl ?_; clear Z; intro Z
 refine p_then (wp_seq (f_region Z ?_)); clear Z; intro Z
 refine s_runk tAd6 Z 1 rfl rfl ?_; clear Z a; intro a Z
 refine s_ob Z (v := .int .i64 (l.length : Int)) rfl rfl (by decide) rfl (Ob_slen tAd6 rfl rfl rfl (H.slshape 0 rfl)) ?_; clear Z a; intro a Z
 refine s_runk tAd6 Z 1 rfl rfl ?_; clear Z a; intro a Z
 refine s_end Z [0, 2, 3] rfl ?_; clear Z; intro Z
 refine p_then (wp_seq ?_)
 refine wp_seq (f_region Z ?_); clear Z; intro Z
 refine s_runk tAd6 Z 1 rfl rfl ?_; clear Z a; intro a Z
 refine s_end Z [0, 2, 3, 4] rfl ?_; clear Z; intro Z
 refine p_then (wp_block ?_)
 refine f_iter hF (fun sg a' w' => match sg with | (n0, i) => Sl 27 [(0, v1_l), (2, .int .i64 0), (3, .int .i64 n0), (4, .int .i64 i)] a' ∧ ∃ I2, Hf I D w I2 w' [SlC NEEntry v1_l l]) ⟨Z.sub (ts := [0, 2, 3, 4]) rfl, ⟨I, (H.sub [(0, true)] rfl).eq rfl⟩⟩ ?_
 clear Z H hF a
 rintro rc ⟨n0, i⟩ a w1 ⟨Z, I1, H⟩ hF
 unfold F_law08_Much_l1 at hF
 try dsimp only at hF
 refine wp_seq ?_
 refine wp_seq (f_region Z ?_); clear Z; intro Z
 refine s_runk tAd6 Z 2 rfl rfl ?_; clear Z a; intro a Z
 refine s_ob Z (v := .int .i64 (l.length : Int)) rfl rfl (by decide) rfl (Ob_slen tAd6 rfl rfl rfl (H.slshape 0 rfl)) ?_; clear Z a; intro a Z
 refine s_runk tAd6 Z 2 rfl rfl ?_; clear Z a; intro a Z
 refine g_ob Z (p := (decide (i < (l.length : Int)))) (v := .int .i64 i) (S' := [(4, .int .i64 i)]) rfl rfl rfl (wantB_t _) rfl (by decide) (fun hp hS => hS.sub (ts := [4]) rfl) (fun hp => Ob_c tAd6 rfl) ?_; clear Z a; intro a Z
 refine g_ob Z (p := (decide (i < (l.length : Int)))) (v := .bool (decide (i < 200))) (S' := [(12, .int .i64 i)]) rfl rfl rfl (wantB_t _) rfl (by decide) (fun hp hS => (hS.conv (t := 12) rfl (cond_t hp)).sub (ts := [12]) rfl) (fun hp => Ob_c tAd6 rfl) ?_; clear Z a; intro a Z
 refine s_ob Z (v := .bool ((decide (i < (l.length : Int))) && (decide (i < 200)))) rfl rfl (by decide) rfl (Ob_pick rfl rfl rfl rfl (pick_and _ _)) ?_; clear Z a; intro a Z
 refine s_end Z [0, 2, 3, 4, 7, 8, 9, 10, 11, 14] rfl ?_; clear Z; intro Z
 refine p_then ?_
 refine f_cond Z rfl (fun hc1 => ?_) (fun hc1 => ?_)
 ·replace hF := ite_t hc1 hF
  refine wp_skip ?_
  refine p_then (wp_seq ?_)
  refine wp_block ?_
  obtain ⟨hg1, hF⟩ := chk_in hF
  obtain ⟨hg2, hF⟩ := chk_in hF
  refine f_region Z ?_; clear Z; intro Z
  refine s_runk tAd6 Z 3 rfl rfl ?_; clear Z a; intro a Z
  refine s_ob Z (v := .pointer (some ⟨blkOf v1_l, oofOf v1_l + (i).toNat * 4, none⟩)) rfl rfl (by decide) rfl (Ob_sidx tAd6 rfl rfl rfl rfl (slPl (H.sl 0 rfl) hg1) hg1) ?_; clear Z a; intro a Z
  refine s_runk tAd6 Z 2 rfl rfl ?_; clear Z a; intro a Z
  obtain ⟨_, ⟨u1, rfl, L1⟩, H⟩ := H.elG 0 rfl (i) (NEEntry.dft _ _)
  replace H := H.addsl L1
  replace H : Hf I D w I1 w1 [SlC NEOp u1 (((l.getD (i).toNat default).batch).ops), AtG ((0 : Int) ≤ i ∧ i < (l.length : Int)) (blkOf v1_l) (oofOf v1_l + (i).toNat * 4) [.int .i64 (((l.getD (i).toNat default).batch).client), .int .i64 (((l.getD (i).toNat default).batch).req), u1, .int .u64 ((l.getD (i).toNat default).ts)], SlC NEEntry v1_l l] := H
  refine s_ob Z (v := u1) rfl rfl (by decide) rfl (Ob_load tAd6 rfl rfl rfl ((H.atg 1 rfl hg1) 2 _ rfl)) ?_; clear Z a; intro a Z
  refine s_ob Z (v := .int .i64 ((((l.getD (i).toNat default).batch).ops).length : Int)) rfl rfl (by decide) rfl (Ob_slen tAd6 rfl rfl rfl (H.slshape 0 rfl)) ?_; clear Z a; intro a Z
  refine s_ob Z (v := .int .i64 (n0 + ((((l.getD (i).toNat default).batch).ops).length : Int))) rfl rfl (by decide) rfl (Ob_add rfl rfl rfl (wrI hg2)) ?_; clear Z a; intro a Z
  refine s_runk tAd6 Z 1 rfl rfl ?_; clear Z a; intro a Z
  refine s_end Z [0, 2, 3, 4, 7, 8, 9, 10, 11, 14, 17, 18, 19, 20, 21, 22, 23, 24, 25] rfl ?_; clear Z; intro Z
  refine p_blk ?_
  refine p_then ?_
  obtain ⟨hg3, hF⟩ := chk_in hF
  refine f_region Z ?_; clear Z; intro Z
  refine s_runk tAd6 Z 1 rfl rfl ?_; clear Z a; intro a Z
  refine s_ob Z (v := .int .i64 (i + 1)) rfl rfl (by decide) rfl (Ob_add rfl rfl rfl (wrI hg3)) ?_; clear Z a; intro a Z
  refine s_runk tAd6 Z 1 rfl rfl ?_; clear Z a; intro a Z
  refine s_end Z [0, 2, 3, 4, 7, 8, 9, 10, 11, 14, 17, 18, 19, 20, 21, 22, 23, 24, 25, 15, 16] rfl ?_; clear Z; intro Z
  refine p_then ?_
  exact ⟨(n0 + ((((l.getD (i).toNat default).batch).ops).length : Int), i + 1), ⟨Z.sub (ts := [0, 2, 3, 4]) rfl, ⟨I1, (H.sub [(2, true)] rfl).eq rfl⟩⟩, hF⟩
 ·replace hF := ite_f hc1 hF
  refine wp_exit ?_
  refine p_then_x ?_
  refine p_then_x ?_
  refine f_exit_here ?_
  refine p_then (wp_seq (f_region Z ?_)); clear Z; intro Z
  refine s_runk tAd6 Z 2 rfl rfl ?_; clear Z a; intro a Z
  refine s_end Z [2] rfl ?_; clear Z; intro Z
  refine p_then (wp_ret ?_)
  obtain rfl := some_in hF
  exact f_ret Z (run_results1 rfl Z rfl) ⟨rfl, I1, (H.sub [] rfl).eq rfl⟩

def F_law18_awake : Option Bool := (F_adopt_Take [({ batch := ({ (default : EBatch) with req := 1 } : EBatch), ts := 3 } : EEntry), ({ batch := ({ (default : EBatch) with req := 2 } : EBatch), ts := 5 } : EEntry)] 0 0 [({ batch := ({ (default : EBatch) with req := 1 } : EBatch), ts := 3 } : EEntry), ({ batch := ({ (default : EBatch) with req := 4 } : EBatch), ts := 0 } : EEntry)]).bind fun t => (chk (((t.1.length : Int) == 1) = true → (0 : Int) ≤ 0 ∧ 0 < (t.1.length : Int)) (if ((((t.1.length : Int) == 1) && (((t.1.getD (0 : Int).toNat default).n) == 1)) && (t.2 == 2)) = true then ((F_adopt_Base [({ batch := ({ (default : EBatch) with req := 1 } : EBatch), ts := 3 } : EEntry), ({ batch := ({ (default : EBatch) with req := 2 } : EBatch), ts := 5 } : EEntry)] [({ batch := ({ (default : EBatch) with req := 1 } : EBatch), ts := 3 } : EEntry), ({ batch := ({ (default : EBatch) with req := 4 } : EBatch), ts := 0 } : EEntry)]).bind fun b => (some (b == 1))) else (some false)))

set_option maxHeartbeats 1000000 in
theorem c_law18_awake {I D : Dm} {w : World} {rr : Bool} (hF : F_law18_awake = some rr) (H : St I D w []) :
  Calls Try.prog 8 #[] w (Ret fun vv w' => vv = .bool rr ∧ ∃ I', Hf I D w I' w' []) := by
 replace H := H.hf
 unfold F_law18_awake at hF
 refine f_enter 46 Try.func8 rfl rfl (Nat.le_of_ble_eq_true rfl) fun a Z => ?_
 replace Z := Z.sub (ts := []) rfl
 refine wp_seq (f_region Z ?_); clear Z; intro Z
 refine s_runk tAd6 Z 1 rfl rfl ?_; clear Z a; intro a Z
 refine s_end Z [0] rfl ?_; clear Z; intro Z
 refine p_then (wp_seq (f_region Z ?_)); clear Z; intro Z
 refine s_ob Z (v := .agg #[.int .i64 0, .int .i64 1, .slice none 0 0]) rfl rfl (by decide) rfl (Ob_build (vs := [(1, .int .i64 1)]) rfl rfl (by go_simp <;> rfl)) ?_; clear Z a; intro a Z
 refine s_ob Z (v := .agg #[.int .i64 0, .int .i64 1, .slice none 0 0, .int .u64 3]) rfl rfl (by decide) rfl (Ob_build (vs := [(0, .agg #[.int .i64 0, .int .i64 1, .slice none 0 0]), (1, .int .u64 3)]) rfl rfl (by go_simp <;> rfl)) ?_; clear Z a; intro a Z
 refine h_alloc Z H (cl := [.int .i64 0, .int .i64 0, .slice none 0 0, .int .u64 0]) (z := .agg #[.int .i64 0, .int .i64 0, .slice none 0 0, .int .u64 0]) rfl rfl rfl (by decide) rfl (by kernel_rfl) rfl ?_; clear Z a H; intro a w1 b1 H Z
 refine h_store tAd6 Z H 0 rfl rfl rfl rfl rfl rfl rfl rfl rfl (one_cons rfl (one_cons rfl (one_cons (slS.one slS.nil) (one_cons rfl one_nil)))) (Nat.le_of_ble_eq_true rfl) rfl ?_; clear H; intro w2 H
 dsimp only [List.eraseIdx] at H
 refine s_end Z [0, 1] rfl ?_; clear Z; intro Z
 refine p_then (wp_seq (f_region Z ?_)); clear Z; intro Z
 refine s_ob Z (v := .agg #[.int .i64 0, .int .i64 2, .slice none 0 0]) rfl rfl (by decide) rfl (Ob_build (vs := [(1, .int .i64 2)]) rfl rfl (by go_simp <;> rfl)) ?_; clear Z a; intro a Z
 refine s_ob Z (v := .agg #[.int .i64 0, .int .i64 2, .slice none 0 0, .int .u64 5]) rfl rfl (by decide) rfl (Ob_build (vs := [(0, .agg #[.int .i64 0, .int .i64 2, .slice none 0 0]), (1, .int .u64 5)]) rfl rfl (by go_simp <;> rfl)) ?_; clear Z a; intro a Z
 refine h_alloc Z H (cl := [.int .i64 0, .int .i64 0, .slice none 0 0, .int .u64 0]) (z := .agg #[.int .i64 0, .int .i64 0, .slice none 0 0, .int .u64 0]) rfl rfl rfl (by decide) rfl (by kernel_rfl) rfl ?_; clear Z a H; intro a w3 b2 H Z
 refine h_store tAd6 Z H 0 rfl rfl rfl rfl rfl rfl rfl rfl rfl (one_cons rfl (one_cons rfl (one_cons (slS.one slS.nil) (one_cons rfl one_nil)))) (Nat.le_of_ble_eq_true rfl) rfl ?_; clear H; intro w4 H
 dsimp only [List.eraseIdx] at H
 refine s_end Z [0, 1, 2] rfl ?_; clear Z; intro Z
 refine p_then (wp_seq (f_region Z ?_)); clear Z; intro Z
 refine s_ob Z (v := .agg #[.int .i64 0, .int .i64 4, .slice none 0 0]) rfl rfl (by decide) rfl (Ob_build (vs := [(1, .int .i64 4)]) rfl rfl (by go_simp <;> rfl)) ?_; clear Z a; intro a Z
 refine s_ob Z (v := .agg #[.int .i64 0, .int .i64 4, .slice none 0 0, .int .u64 0]) rfl rfl (by decide) rfl (Ob_build (vs := [(0, .agg #[.int .i64 0, .int .i64 4, .slice none 0 0])]) rfl rfl (by go_simp <;> rfl)) ?_; clear Z a; intro a Z
 refine h_alloc Z H (cl := [.int .i64 0, .int .i64 0, .slice none 0 0, .int .u64 0]) (z := .agg #[.int .i64 0, .int .i64 0, .slice none 0 0, .int .u64 0]) rfl rfl rfl (by decide) rfl (by kernel_rfl) rfl ?_; clear Z a H; intro a w5 b3 H Z
 refine h_store tAd6 Z H 0 rfl rfl rfl rfl rfl rfl rfl rfl rfl (one_cons rfl (one_cons rfl (one_cons (slS.one slS.nil) (one_cons rfl one_nil)))) (Nat.le_of_ble_eq_true rfl) rfl ?_; clear H; intro w6 H
 dsimp only [List.eraseIdx] at H
 refine s_end Z [0, 1, 2, 3] rfl ?_; clear Z; intro Z
 refine p_then (wp_seq ?_)
 obtain ⟨t, hx1, hF⟩ := bnd_in hF
 refine f_region Z ?_; clear Z; intro Z
 refine s_ob Z (v := .agg #[.int .i64 0, .int .i64 1, .slice none 0 0, .int .u64 3]) rfl rfl (by decide) rfl (Ob_loads tAd6 rfl rfl rfl ((H.bx 2 rfl).part 0 rfl)) ?_; clear Z a; intro a Z
 refine s_ob Z (v := .agg #[.int .i64 0, .int .i64 2, .slice none 0 0, .int .u64 5]) rfl rfl (by decide) rfl (Ob_loads tAd6 rfl rfl rfl ((H.bx 1 rfl).part 0 rfl)) ?_; clear Z a; intro a Z
 refine h_bslice Z H (vs := [(0, .agg #[.int .i64 0, .int .i64 1, .slice none 0 0, .int .u64 3]), (1, .agg #[.int .i64 0, .int .i64 2, .slice none 0 0, .int .u64 5])]) (cl := [.int .i64 0, .int .i64 1, .slice none 0 0, .int .u64 3, .int .i64 0, .int .i64 2, .slice none 0 0, .int .u64 5]) (e := 34) rfl rfl rfl (by decide) rfl rfl (fun w => run_bslice (z := .agg #[.int .i64 0, .int .i64 0, .slice none 0 0, .int .u64 0]) (m := 4) Try.underlying22 (by kernel_rfl) rfl rfl (by decide) (by simp [Instr.fill, Value.cells]) w) ?_; clear Z a H; intro a w7 b4 H Z
 refine s_ob Z (v := .agg #[.int .i64 0, .int .i64 1, .slice none 0 0, .int .u64 3]) rfl rfl (by decide) rfl (Ob_loads tAd6 rfl rfl rfl ((H.bx 3 rfl).part 0 rfl)) ?_; clear Z a; intro a Z
 refine s_ob Z (v := .agg #[.int .i64 0, .int .i64 4, .slice none 0 0, .int .u64 0]) rfl rfl (by decide) rfl (Ob_loads tAd6 rfl rfl rfl ((H.bx 1 rfl).part 0 rfl)) ?_; clear Z a; intro a Z
 refine h_bslice Z H (vs := [(0, .agg #[.int .i64 0, .int .i64 1, .slice none 0 0, .int .u64 3]), (1, .agg #[.int .i64 0, .int .i64 4, .slice none 0 0, .int .u64 0])]) (cl := [.int .i64 0, .int .i64 1, .slice none 0 0, .int .u64 3, .int .i64 0, .int .i64 4, .slice none 0 0, .int .u64 0]) (e := 34) rfl rfl rfl (by decide) rfl rfl (fun w => run_bslice (z := .agg #[.int .i64 0, .int .i64 0, .slice none 0 0, .int .u64 0]) (m := 4) Try.underlying22 (by kernel_rfl) rfl rfl (by decide) (by simp [Instr.fill, Value.cells]) w) ?_; clear Z a H; intro a w8 b5 H Z
 replace H : Hf I D w I w8 [SlC NEOp (.slice none 0 0) ([] : List EOp), BxC b5 34 [.int .i64 0, .int .i64 1, .slice none 0 0, .int .u64 3, .int .i64 0, .int .i64 4, .slice none 0 0, .int .u64 0], BxC b4 34 [.int .i64 0, .int .i64 1, .slice none 0 0, .int .u64 3, .int .i64 0, .int .i64 2, .slice none 0 0, .int .u64 5], BxC b3 34 [.int .i64 0, .int .i64 4, .slice none 0 0, .int .u64 0], BxC b2 34 [.int .i64 0, .int .i64 2, .slice none 0 0, .int .u64 5], BxC b1 34 [.int .i64 0, .int .i64 1, .slice none 0 0, .int .u64 3]] := H.slNil NEOp
 replace H : Hf I D w I w8 [SlC NEOp (.slice none 0 0) ([] : List EOp), SlC NEOp (.slice none 0 0) ([] : List EOp), BxC b5 34 [.int .i64 0, .int .i64 1, .slice none 0 0, .int .u64 3, .int .i64 0, .int .i64 4, .slice none 0 0, .int .u64 0], BxC b4 34 [.int .i64 0, .int .i64 1, .slice none 0 0, .int .u64 3, .int .i64 0, .int .i64 2, .slice none 0 0, .int .u64 5], BxC b3 34 [.int .i64 0, .int .i64 4, .slice none 0 0, .int .u64 0], BxC b2 34 [.int .i64 0, .int .i64 2, .slice none 0 0, .int .u64 5], BxC b1 34 [.int .i64 0, .int .i64 1, .slice none 0 0, .int .u64 3]] := H.slNil NEOp
 obtain ⟨I1, _, H⟩ := H.frzlit 3 rfl (R := NEEntry) [[.int .i64 0, .int .i64 1, .slice none 0 0, .int .u64 3], [.int .i64 0, .int .i64 2, .slice none 0 0, .int .u64 5]] [({ batch := ({ (default : EBatch) with req := 1 } : EBatch), ts := 3 } : EEntry), ({ batch := ({ (default : EBatch) with req := 2 } : EBatch), ts := 5 } : EEntry)] rfl rfl (fun i h1 h2 => by match i, h1, h2 with | 0, _, _ => exact ⟨_, rfl, (H.sl 0 rfl)⟩ | 1, _, _ => exact ⟨_, rfl, (H.sl 0 rfl)⟩) (show 2 ≤ maxLen from by decide) (n := 2) rfl
 replace H : Hf I D w I1 w8 [SlC NEEntry (.slice (some ⟨b4, 0, none⟩) 2 2) [({ batch := ({ (default : EBatch) with req := 1 } : EBatch), ts := 3 } : EEntry), ({ batch := ({ (default : EBatch) with req := 2 } : EBatch), ts := 5 } : EEntry)], SlC NEOp (.slice none 0 0) ([] : List EOp), SlC NEOp (.slice none 0 0) ([] : List EOp), BxC b5 34 [.int .i64 0, .int .i64 1, .slice none 0 0, .int .u64 3, .int .i64 0, .int .i64 4, .slice none 0 0, .int .u64 0], BxC b3 34 [.int .i64 0, .int .i64 4, .slice none 0 0, .int .u64 0], BxC b2 34 [.int .i64 0, .int .i64 2, .slice none 0 0, .int .u64 5], BxC b1 34 [.int .i64 0, .int .i64 1, .slice none 0 0, .int .u64 3]] := H
 replace H : Hf I D w I1 w8 [SlC NEOp (.slice none 0 0) ([] : List EOp), SlC NEEntry (.slice (some ⟨b4, 0, none⟩) 2 2) [({ batch := ({ (default : EBatch) with req := 1 } : EBatch), ts := 3 } : EEntry), ({ batch := ({ (default : EBatch) with req := 2 } : EBatch), ts := 5 } : EEntry)], SlC NEOp (.slice none 0 0) ([] : List EOp), SlC NEOp (.slice none 0 0) ([] : List EOp), BxC b5 34 [.int .i64 0, .int .i64 1, .slice none 0 0, .int .u64 3, .int .i64 0, .int .i64 4, .slice none 0 0, .int .u64 0], BxC b3 34 [.int .i64 0, .int .i64 4, .slice none 0 0, .int .u64 0], BxC b2 34 [.int .i64 0, .int .i64 2, .slice none 0 0, .int .u64 5], BxC b1 34 [.int .i64 0, .int .i64 1, .slice none 0 0, .int .u64 3]] := H.slNil NEOp
 obtain ⟨I2, _, H⟩ := H.frzlit 4 rfl (R := NEEntry) [[.int .i64 0, .int .i64 1, .slice none 0 0, .int .u64 3], [.int .i64 0, .int .i64 4, .slice none 0 0, .int .u64 0]] [({ batch := ({ (default : EBatch) with req := 1 } : EBatch), ts := 3 } : EEntry), ({ batch := ({ (default : EBatch) with req := 4 } : EBatch), ts := 0 } : EEntry)] rfl rfl (fun i h1 h2 => by match i, h1, h2 with | 0, _, _ => exact ⟨_, rfl, (H.sl 2 rfl)⟩ | 1, _, _ => exact ⟨_, rfl, (H.sl 0 rfl)⟩) (show 2 ≤ maxLen from by decide) (n := 2) rfl
 replace H : Hf I D w I2 w8 [SlC NEEntry (.slice (some ⟨b5, 0, none⟩) 2 2) [({ batch := ({ (default : EBatch) with req := 1 } : EBatch), ts := 3 } : EEntry), ({ batch := ({ (default : EBatch) with req := 4 } : EBatch), ts := 0 } : EEntry)], SlC NEOp (.slice none 0 0) ([] : List EOp), SlC NEEntry (.slice (some ⟨b4, 0, none⟩) 2 2) [({ batch := ({ (default : EBatch) with req := 1 } : EBatch), ts := 3 } : EEntry), ({ batch := ({ (default : EBatch) with req := 2 } : EBatch), ts := 5 } : EEntry)], SlC NEOp (.slice none 0 0) ([] : List EOp), SlC NEOp (.slice none 0 0) ([] : List EOp), BxC b3 34 [.int .i64 0, .int .i64 4, .slice none 0 0, .int .u64 0], BxC b2 34 [.int .i64 0, .int .i64 2, .slice none 0 0, .int .u64 5], BxC b1 34 [.int .i64 0, .int .i64 1, .slice none 0 0, .int .u64 3]] := H
 refine h_call Z H (js := [(2, true), (0, true)]) rfl (caps := #[]) fn_9_YAd6 rfl rfl rfl rfl rfl (by decide) rfl rfl (fun D1 hS => have hq := c_adopt_Take hx1 hS; hq) ?_; clear Z a; intro vv a w9 D2 hr hF2 Z
 obtain ⟨q1, rfl, I3, K⟩ := hr
 have H : Hf I D w I3 w9 [SlC NENote q1 t.1, SlC NEEntry (.slice (some ⟨b5, 0, none⟩) 2 2) [({ batch := ({ (default : EBatch) with req := 1 } : EBatch), ts := 3 } : EEntry), ({ batch := ({ (default : EBatch) with req := 4 } : EBatch), ts := 0 } : EEntry)], SlC NEOp (.slice none 0 0) ([] : List EOp), SlC NEEntry (.slice (some ⟨b4, 0, none⟩) 2 2) [({ batch := ({ (default : EBatch) with req := 1 } : EBatch), ts := 3 } : EEntry), ({ batch := ({ (default : EBatch) with req := 2 } : EBatch), ts := 5 } : EEntry)], SlC NEOp (.slice none 0 0) ([] : List EOp), SlC NEOp (.slice none 0 0) ([] : List EOp), BxC b3 34 [.int .i64 0, .int .i64 4, .slice none 0 0, .int .u64 0], BxC b2 34 [.int .i64 0, .int .i64 2, .slice none 0 0, .int .u64 5], BxC b1 34 [.int .i64 0, .int .i64 1, .slice none 0 0, .int .u64 3]] := hF2 K
 clear hF2 K
 refine s_runk tAd6 Z 5 rfl rfl ?_; clear Z a; intro a Z
 refine s_end Z [0, 1, 2, 3, 4, 5] rfl ?_; clear Z; intro Z
 refine p_then (wp_seq ?_)
 obtain ⟨hg1, hF⟩ := chk_in hF
 refine f_region Z ?_; clear Z; intro Z
 refine s_runk tAd6 Z 1 rfl rfl ?_; clear Z a; intro a Z
 refine s_ob Z (v := .int .i64 (t.1.length : Int)) rfl rfl (by decide) rfl (Ob_slen tAd6 rfl rfl rfl (H.slshape 0 rfl)) ?_; clear Z a; intro a Z
 refine s_runk tAd6 Z 2 rfl rfl ?_; clear Z a; intro a Z
 refine g_ob Z (p := ((t.1.length : Int) == 1)) (v := q1) (S' := [(4, q1)]) rfl rfl rfl (wantB_t _) rfl (by decide) (fun hp hS => hS.sub (ts := [4]) rfl) (fun hp => Ob_c tAd6 rfl) ?_; clear Z a; intro a Z
 refine g_ob Z (p := ((t.1.length : Int) == 1)) (v := .pointer (some ⟨blkOf q1, oofOf q1 + (0 : Int).toNat * 18, none⟩)) (S' := [(26, q1)]) rfl rfl rfl (wantB_t _) rfl (by decide) (fun hp hS => (hS.conv (t := 26) rfl (cond_t hp)).sub (ts := [26]) rfl) (fun hp => Ob_sidx tAd6 rfl rfl rfl rfl (slPl (H.sl 0 rfl) (hg1 hp)) (hg1 hp)) ?_; clear Z a; intro a Z
 refine g_ob Z (p := ((t.1.length : Int) == 1)) (v := .pointer (some ⟨blkOf q1, oofOf q1 + (0 : Int).toNat * 18 + 1, none⟩)) (S' := [(27, .pointer (some ⟨blkOf q1, oofOf q1 + (0 : Int).toNat * 18, none⟩))]) rfl rfl rfl (wantB_t _) rfl (by decide) (fun hp hS => (hS.conv (t := 27) rfl (cond_t hp)).sub (ts := [27]) rfl) (fun hp => Ob_c tAd6 rfl) ?_; clear Z a; intro a Z
 obtain ⟨_, ⟨u1, u2, u3, rfl, L1, L2, L3⟩, H⟩ := H.elG 0 rfl (0) (NENote.dft _ _)
 replace H := H.addsl L1
 replace H := H.addsl L2
 replace H := H.addsl L3
 replace H : Hf I D w I3 w9 [SlC NEOp u3 ((((t.1.getD (0 : Int).toNat default).entry).batch).ops), SlC Ni64 u2 ((t.1.getD (0 : Int).toNat default).legit), SlC NEMember u1 (((t.1.getD (0 : Int).toNat default).conf).members), AtG ((0 : Int) ≤ 0 ∧ 0 < (t.1.length : Int)) (blkOf q1) (oofOf q1 + (0 : Int).toNat * 18) [.int .i64 ((t.1.getD (0 : Int).toNat default).k), .int .i64 ((t.1.getD (0 : Int).toNat default).n), .int .u64 ((t.1.getD (0 : Int).toNat default).at_), .int .i64 (((t.1.getD (0 : Int).toNat default).conf).epoch), u1, .int .u64 (((t.1.getD (0 : Int).toNat default).conf).floor), u2, .int .i64 ((((t.1.getD (0 : Int).toNat default).entry).batch).client), .int .i64 ((((t.1.getD (0 : Int).toNat default).entry).batch).req), u3, .int .u64 (((t.1.getD (0 : Int).toNat default).entry).ts), .int .i64 (((t.1.getD (0 : Int).toNat default).pin).id), .int .u64 (((t.1.getD (0 : Int).toNat default).pin).at_), .int .i64 (((t.1.getD (0 : Int).toNat default).pin).left), .int .i64 (((t.1.getD (0 : Int).toNat default).said).client), .int .i64 (((t.1.getD (0 : Int).toNat default).said).req), .int .i64 (((t.1.getD (0 : Int).toNat default).said).e), .int .i64 (((t.1.getD (0 : Int).toNat default).said).pin)], SlC NENote q1 t.1, SlC NEEntry (.slice (some ⟨b5, 0, none⟩) 2 2) [({ batch := ({ (default : EBatch) with req := 1 } : EBatch), ts := 3 } : EEntry), ({ batch := ({ (default : EBatch) with req := 4 } : EBatch), ts := 0 } : EEntry)], SlC NEOp (.slice none 0 0) ([] : List EOp), SlC NEEntry (.slice (some ⟨b4, 0, none⟩) 2 2) [({ batch := ({ (default : EBatch) with req := 1 } : EBatch), ts := 3 } : EEntry), ({ batch := ({ (default : EBatch) with req := 2 } : EBatch), ts := 5 } : EEntry)], SlC NEOp (.slice none 0 0) ([] : List EOp), SlC NEOp (.slice none 0 0) ([] : List EOp), BxC b3 34 [.int .i64 0, .int .i64 4, .slice none 0 0, .int .u64 0], BxC b2 34 [.int .i64 0, .int .i64 2, .slice none 0 0, .int .u64 5], BxC b1 34 [.int .i64 0, .int .i64 1, .slice none 0 0, .int .u64 3]] := H
 refine g_ob Z (p := ((t.1.length : Int) == 1)) (v := .int .i64 ((t.1.getD (0 : Int).toNat default).n)) (S' := [(28, .pointer (some ⟨blkOf q1, oofOf q1 + (0 : Int).toNat * 18 + 1, none⟩))]) rfl rfl rfl (wantB_t _) rfl (by decide) (fun hp hS => (hS.conv (t := 28) rfl (cond_t hp)).sub (ts := [28]) rfl) (fun hp => Ob_load tAd6 rfl rfl rfl ((H.atg 3 rfl (hg1 hp)) 1 _ rfl)) ?_; clear Z a; intro a Z
 refine g_ob Z (p := ((t.1.length : Int) == 1)) (v := .bool (((t.1.getD (0 : Int).toNat default).n) == 1)) (S' := [(29, .int .i64 ((t.1.getD (0 : Int).toNat default).n))]) rfl rfl rfl (wantB_t _) rfl (by decide) (fun hp hS => (hS.conv (t := 29) rfl (cond_t hp)).sub (ts := [29]) rfl) (fun hp => Ob_c tAd6 rfl) ?_; clear Z a; intro a Z
 refine s_ob Z (v := .bool (((t.1.length : Int) == 1) && (((t.1.getD (0 : Int).toNat default).n) == 1))) rfl rfl (by decide) rfl (Ob_pick rfl rfl rfl rfl (pick_and _ _)) ?_; clear Z a; intro a Z
 refine s_runk tAd6 Z 1 rfl rfl ?_; clear Z a; intro a Z
 refine g_ob Z (p := (((t.1.length : Int) == 1) && (((t.1.getD (0 : Int).toNat default).n) == 1))) (v := .int .i64 t.2) (S' := [(5, .int .i64 t.2)]) rfl rfl rfl (wantB_t _) rfl (by decide) (fun hp hS => hS.sub (ts := [5]) rfl) (fun hp => Ob_c tAd6 rfl) ?_; clear Z a; intro a Z
 refine g_ob Z (p := (((t.1.length : Int) == 1) && (((t.1.getD (0 : Int).toNat default).n) == 1))) (v := .bool (t.2 == 2)) (S' := [(33, .int .i64 t.2)]) rfl rfl rfl (wantB_t _) rfl (by decide) (fun hp hS => (hS.conv (t := 33) rfl (cond_t hp)).sub (ts := [33]) rfl) (fun hp => Ob_c tAd6 rfl) ?_; clear Z a; intro a Z
 refine s_ob Z (v := .bool ((((t.1.length : Int) == 1) && (((t.1.getD (0 : Int).toNat default).n) == 1)) && (t.2 == 2))) rfl rfl (by decide) rfl (Ob_pick rfl rfl rfl rfl (pick_and _ _)) ?_; clear Z a; intro a Z
 refine s_runk tAd6 Z 1 rfl rfl ?_; clear Z a; intro a Z
 refine g_ob Z (p := ((((t.1.length : Int) == 1) && (((t.1.getD (0 : Int).toNat default).n) == 1)) && (t.2 == 2))) (v := .agg #[.int .i64 0, .int .i64 1, .slice none 0 0, .int .u64 3]) (S' := [(1, .pointer (some ⟨b1, 0, none⟩))]) rfl rfl rfl (wantB_t _) rfl (by decide) (fun hp hS => hS.sub (ts := [1]) rfl) (fun hp => Ob_loads tAd6 rfl rfl rfl ((H.bx 12 rfl).part 0 rfl)) ?_; clear Z a; intro a Z
 refine g_ob Z (p := ((((t.1.length : Int) == 1) && (((t.1.getD (0 : Int).toNat default).n) == 1)) && (t.2 == 2))) (v := .agg #[.int .i64 0, .int .i64 2, .slice none 0 0, .int .u64 5]) (S' := [(2, .pointer (some ⟨b2, 0, none⟩))]) rfl rfl rfl (wantB_t _) rfl (by decide) (fun hp hS => hS.sub (ts := [2]) rfl) (fun hp => Ob_loads tAd6 rfl rfl rfl ((H.bx 11 rfl).part 0 rfl)) ?_; clear Z a; intro a Z
 refine bsplit ((((t.1.length : Int) == 1) && (((t.1.getD (0 : Int).toNat default).n) == 1)) && (t.2 == 2)) (fun hc1 => ?_) (fun hc1 => ?_)
 ·replace hF := ite_t hc1 hF; replace Z := Z.cnv (t := 36) rfl (show Value.bool ((((t.1.length : Int) == 1) && (((t.1.getD (0 : Int).toNat default).n) == 1)) && (t.2 == 2)) = .bool true from congrArg Value.bool hc1); replace Z := Z.sub (ts := [0, 1, 2, 3, 4, 5, 22, 23, 24, 25, 26, 27, 28, 29, 30, 31, 32, 33, 34, 35, 36, 37, 38]) rfl
  replace Z := Z.cnv (t := 37) rfl (cond_t hc1); replace Z := Z.sub (ts := [0, 1, 2, 3, 4, 5, 22, 23, 24, 25, 26, 27, 28, 29, 30, 31, 32, 33, 34, 35, 36, 37, 38]) rfl
  replace Z := Z.cnv (t := 38) rfl (cond_t hc1); replace Z := Z.sub (ts := [0, 1, 2, 3, 4, 5, 22, 23, 24, 25, 26, 27, 28, 29, 30, 31, 32, 33, 34, 35, 36, 37, 38]) rfl
  obtain ⟨b, hx2, hF⟩ := bnd_in hF
  refine g_if Z rfl rfl rfl (p := true) rfl rfl (by decide) (fun _ => ?_) (fun h => by cases h)
  refine h_bslice Z H (vs := [(0, .agg #[.int .i64 0, .int .i64 1, .slice none 0 0, .int .u64 3]), (1, .agg #[.int .i64 0, .int .i64 2, .slice none 0 0, .int .u64 5])]) (cl := [.int .i64 0, .int .i64 1, .slice none 0 0, .int .u64 3, .int .i64 0, .int .i64 2, .slice none 0 0, .int .u64 5]) (e := 34) rfl rfl rfl (by decide) rfl rfl (fun w => run_bslice (z := .agg #[.int .i64 0, .int .i64 0, .slice none 0 0, .int .u64 0]) (m := 4) Try.underlying22 (by kernel_rfl) rfl rfl (by decide) (by simp [Instr.fill, Value.cells]) w) ?_; clear Z a H; intro a w10 b6 H Z
  refine g_if Z rfl rfl rfl (p := true) rfl rfl (by decide) (fun _ => ?_) (fun h => by cases h)
  refine s_ob Z (v := .agg #[.int .i64 0, .int .i64 1, .slice none 0 0, .int .u64 3]) rfl rfl (by decide) rfl (Ob_loads tAd6 rfl rfl rfl ((H.bx 13 rfl).part 0 rfl)) ?_; clear Z a; intro a Z
  refine g_if Z rfl rfl rfl (p := true) rfl rfl (by decide) (fun _ => ?_) (fun h => by cases h)
  refine s_ob Z (v := .agg #[.int .i64 0, .int .i64 4, .slice none 0 0, .int .u64 0]) rfl rfl (by decide) rfl (Ob_loads tAd6 rfl rfl rfl ((H.bx 11 rfl).part 0 rfl)) ?_; clear Z a; intro a Z
  refine g_if Z rfl rfl rfl (p := true) rfl rfl (by decide) (fun _ => ?_) (fun h => by cases h)
  refine h_bslice Z H (vs := [(0, .agg #[.int .i64 0, .int .i64 1, .slice none 0 0, .int .u64 3]), (1, .agg #[.int .i64 0, .int .i64 4, .slice none 0 0, .int .u64 0])]) (cl := [.int .i64 0, .int .i64 1, .slice none 0 0, .int .u64 3, .int .i64 0, .int .i64 4, .slice none 0 0, .int .u64 0]) (e := 34) rfl rfl rfl (by decide) rfl rfl (fun w => run_bslice (z := .agg #[.int .i64 0, .int .i64 0, .slice none 0 0, .int .u64 0]) (m := 4) Try.underlying22 (by kernel_rfl) rfl rfl (by decide) (by simp [Instr.fill, Value.cells]) w) ?_; clear Z a H; intro a w11 b7 H Z
  refine g_if Z rfl rfl rfl (p := true) rfl rfl (by decide) (fun _ => ?_) (fun h => by cases h)
  obtain ⟨I4, _, H⟩ := H.frzlit 1 rfl (R := NEEntry) [[.int .i64 0, .int .i64 1, .slice none 0 0, .int .u64 3], [.int .i64 0, .int .i64 2, .slice none 0 0, .int .u64 5]] [({ batch := ({ (default : EBatch) with req := 1 } : EBatch), ts := 3 } : EEntry), ({ batch := ({ (default : EBatch) with req := 2 } : EBatch), ts := 5 } : EEntry)] rfl rfl (fun i h1 h2 => by match i, h1, h2 with | 0, _, _ => exact ⟨_, rfl, (H.sl 11 rfl)⟩ | 1, _, _ => exact ⟨_, rfl, (H.sl 10 rfl)⟩) (show 2 ≤ maxLen from by decide) (n := 2) rfl
  replace H : Hf I D w I4 w11 [SlC NEEntry (.slice (some ⟨b6, 0, none⟩) 2 2) [({ batch := ({ (default : EBatch) with req := 1 } : EBatch), ts := 3 } : EEntry), ({ batch := ({ (default : EBatch) with req := 2 } : EBatch), ts := 5 } : EEntry)], BxC b7 34 [.int .i64 0, .int .i64 1, .slice none 0 0, .int .u64 3, .int .i64 0, .int .i64 4, .slice none 0 0, .int .u64 0], SlC NEOp u3 ((((t.1.getD (0 : Int).toNat default).entry).batch).ops), SlC Ni64 u2 ((t.1.getD (0 : Int).toNat default).legit), SlC NEMember u1 (((t.1.getD (0 : Int).toNat default).conf).members), AtG ((0 : Int) ≤ 0 ∧ 0 < (t.1.length : Int)) (blkOf q1) (oofOf q1 + (0 : Int).toNat * 18) [.int .i64 ((t.1.getD (0 : Int).toNat default).k), .int .i64 ((t.1.getD (0 : Int).toNat default).n), .int .u64 ((t.1.getD (0 : Int).toNat default).at_), .int .i64 (((t.1.getD (0 : Int).toNat default).conf).epoch), u1, .int .u64 (((t.1.getD (0 : Int).toNat default).conf).floor), u2, .int .i64 ((((t.1.getD (0 : Int).toNat default).entry).batch).client), .int .i64 ((((t.1.getD (0 : Int).toNat default).entry).batch).req), u3, .int .u64 (((t.1.getD (0 : Int).toNat default).entry).ts), .int .i64 (((t.1.getD (0 : Int).toNat default).pin).id), .int .u64 (((t.1.getD (0 : Int).toNat default).pin).at_), .int .i64 (((t.1.getD (0 : Int).toNat default).pin).left), .int .i64 (((t.1.getD (0 : Int).toNat default).said).client), .int .i64 (((t.1.getD (0 : Int).toNat default).said).req), .int .i64 (((t.1.getD (0 : Int).toNat default).said).e), .int .i64 (((t.1.getD (0 : Int).toNat default).said).pin)], SlC NENote q1 t.1, SlC NEEntry (.slice (some ⟨b5, 0, none⟩) 2 2) [({ batch := ({ (default : EBatch) with req := 1 } : EBatch), ts := 3 } : EEntry), ({ batch := ({ (default : EBatch) with req := 4 } : EBatch), ts := 0 } : EEntry)], SlC NEOp (.slice none 0 0) ([] : List EOp), SlC NEEntry (.slice (some ⟨b4, 0, none⟩) 2 2) [({ batch := ({ (default : EBatch) with req := 1 } : EBatch), ts := 3 } : EEntry), ({ batch := ({ (default : EBatch) with req := 2 } : EBatch), ts := 5 } : EEntry)], SlC NEOp (.slice none 0 0) ([] : List EOp), SlC NEOp (.slice none 0 0) ([] : List EOp), BxC b3 34 [.int .i64 0, .int .i64 4, .slice none 0 0, .int .u64 0], BxC b2 34 [.int .i64 0, .int .i64 2, .slice none 0 0, .int .u64 5], BxC b1 34 [.int .i64 0, .int .i64 1, .slice none 0 0, .int .u64 3]] := H
  obtain ⟨I5, _, H⟩ := H.frzlit 1 rfl (R := NEEntry) [[.int .i64 0, .int .i64 1, .slice none 0 0, .int .u64 3], [.int .i64 0, .int .i64 4, .slice none 0 0, .int .u64 0]] [({ batch := ({ (default : EBatch) with req := 1 } : EBatch), ts := 3 } : EEntry), ({ batch := ({ (default : EBatch) with req := 4 } : EBatch), ts := 0 } : EEntry)] rfl rfl (fun i h1 h2 => by match i, h1, h2 with | 0, _, _ => exact ⟨_, rfl, (H.sl 11 rfl)⟩ | 1, _, _ => exact ⟨_, rfl, (H.sl 8 rfl)⟩) (show 2 ≤ maxLen from by decide) (n := 2) rfl
  replace H : Hf I D w I5 w11 [SlC NEEntry (.slice (some ⟨b7, 0, none⟩) 2 2) [({ batch := ({ (default : EBatch) with req := 1 } : EBatch), ts := 3 } : EEntry), ({ batch := ({ (default : EBatch) with req := 4 } : EBatch), ts := 0 } : EEntry)], SlC NEEntry (.slice (some ⟨b6, 0, none⟩) 2 2) [({ batch := ({ (default : EBatch) with req := 1 } : EBatch), ts := 3 } : EEntry), ({ batch := ({ (default : EBatch) with req := 2 } : EBatch), ts := 5 } : EEntry)], SlC NEOp u3 ((((t.1.getD (0 : Int).toNat default).entry).batch).ops), SlC Ni64 u2 ((t.1.getD (0 : Int).toNat default).legit), SlC NEMember u1 (((t.1.getD (0 : Int).toNat default).conf).members), AtG ((0 : Int) ≤ 0 ∧ 0 < (t.1.length : Int)) (blkOf q1) (oofOf q1 + (0 : Int).toNat * 18) [.int .i64 ((t.1.getD (0 : Int).toNat default).k), .int .i64 ((t.1.getD (0 : Int).toNat default).n), .int .u64 ((t.1.getD (0 : Int).toNat default).at_), .int .i64 (((t.1.getD (0 : Int).toNat default).conf).epoch), u1, .int .u64 (((t.1.getD (0 : Int).toNat default).conf).floor), u2, .int .i64 ((((t.1.getD (0 : Int).toNat default).entry).batch).client), .int .i64 ((((t.1.getD (0 : Int).toNat default).entry).batch).req), u3, .int .u64 (((t.1.getD (0 : Int).toNat default).entry).ts), .int .i64 (((t.1.getD (0 : Int).toNat default).pin).id), .int .u64 (((t.1.getD (0 : Int).toNat default).pin).at_), .int .i64 (((t.1.getD (0 : Int).toNat default).pin).left), .int .i64 (((t.1.getD (0 : Int).toNat default).said).client), .int .i64 (((t.1.getD (0 : Int).toNat default).said).req), .int .i64 (((t.1.getD (0 : Int).toNat default).said).e), .int .i64 (((t.1.getD (0 : Int).toNat default).said).pin)], SlC NENote q1 t.1, SlC NEEntry (.slice (some ⟨b5, 0, none⟩) 2 2) [({ batch := ({ (default : EBatch) with req := 1 } : EBatch), ts := 3 } : EEntry), ({ batch := ({ (default : EBatch) with req := 4 } : EBatch), ts := 0 } : EEntry)], SlC NEOp (.slice none 0 0) ([] : List EOp), SlC NEEntry (.slice (some ⟨b4, 0, none⟩) 2 2) [({ batch := ({ (default : EBatch) with req := 1 } : EBatch), ts := 3 } : EEntry), ({ batch := ({ (default : EBatch) with req := 2 } : EBatch), ts := 5 } : EEntry)], SlC NEOp (.slice none 0 0) ([] : List EOp), SlC NEOp (.slice none 0 0) ([] : List EOp), BxC b3 34 [.int .i64 0, .int .i64 4, .slice none 0 0, .int .u64 0], BxC b2 34 [.int .i64 0, .int .i64 2, .slice none 0 0, .int .u64 5], BxC b1 34 [.int .i64 0, .int .i64 1, .slice none 0 0, .int .u64 3]] := H
  refine h_call Z H (js := [(1, true), (0, true)]) rfl (caps := #[]) fn_15_YAd6 rfl rfl rfl rfl rfl (by decide) rfl rfl (fun D1 hS => have hq := c_adopt_Base hx2 hS; hq) ?_; clear Z a; intro vv a w12 D2 hr hF2 Z
  obtain ⟨rfl, I6, K⟩ := hr
  have H : Hf I D w I6 w12 [SlC NEEntry (.slice (some ⟨b7, 0, none⟩) 2 2) [({ batch := ({ (default : EBatch) with req := 1 } : EBatch), ts := 3 } : EEntry), ({ batch := ({ (default : EBatch) with req := 4 } : EBatch), ts := 0 } : EEntry)], SlC NEEntry (.slice (some ⟨b6, 0, none⟩) 2 2) [({ batch := ({ (default : EBatch) with req := 1 } : EBatch), ts := 3 } : EEntry), ({ batch := ({ (default : EBatch) with req := 2 } : EBatch), ts := 5 } : EEntry)], SlC NEOp u3 ((((t.1.getD (0 : Int).toNat default).entry).batch).ops), SlC Ni64 u2 ((t.1.getD (0 : Int).toNat default).legit), SlC NEMember u1 (((t.1.getD (0 : Int).toNat default).conf).members), AtG ((0 : Int) ≤ 0 ∧ 0 < (t.1.length : Int)) (blkOf q1) (oofOf q1 + (0 : Int).toNat * 18) [.int .i64 ((t.1.getD (0 : Int).toNat default).k), .int .i64 ((t.1.getD (0 : Int).toNat default).n), .int .u64 ((t.1.getD (0 : Int).toNat default).at_), .int .i64 (((t.1.getD (0 : Int).toNat default).conf).epoch), u1, .int .u64 (((t.1.getD (0 : Int).toNat default).conf).floor), u2, .int .i64 ((((t.1.getD (0 : Int).toNat default).entry).batch).client), .int .i64 ((((t.1.getD (0 : Int).toNat default).entry).batch).req), u3, .int .u64 (((t.1.getD (0 : Int).toNat default).entry).ts), .int .i64 (((t.1.getD (0 : Int).toNat default).pin).id), .int .u64 (((t.1.getD (0 : Int).toNat default).pin).at_), .int .i64 (((t.1.getD (0 : Int).toNat default).pin).left), .int .i64 (((t.1.getD (0 : Int).toNat default).said).client), .int .i64 (((t.1.getD (0 : Int).toNat default).said).req), .int .i64 (((t.1.getD (0 : Int).toNat default).said).e), .int .i64 (((t.1.getD (0 : Int).toNat default).said).pin)], SlC NENote q1 t.1, SlC NEEntry (.slice (some ⟨b5, 0, none⟩) 2 2) [({ batch := ({ (default : EBatch) with req := 1 } : EBatch), ts := 3 } : EEntry), ({ batch := ({ (default : EBatch) with req := 4 } : EBatch), ts := 0 } : EEntry)], SlC NEOp (.slice none 0 0) ([] : List EOp), SlC NEEntry (.slice (some ⟨b4, 0, none⟩) 2 2) [({ batch := ({ (default : EBatch) with req := 1 } : EBatch), ts := 3 } : EEntry), ({ batch := ({ (default : EBatch) with req := 2 } : EBatch), ts := 5 } : EEntry)], SlC NEOp (.slice none 0 0) ([] : List EOp), SlC NEOp (.slice none 0 0) ([] : List EOp), BxC b3 34 [.int .i64 0, .int .i64 4, .slice none 0 0, .int .u64 0], BxC b2 34 [.int .i64 0, .int .i64 2, .slice none 0 0, .int .u64 5], BxC b1 34 [.int .i64 0, .int .i64 1, .slice none 0 0, .int .u64 3]] := hF2 K
  clear hF2 K
  refine g_if Z rfl rfl rfl (p := true) rfl rfl (by decide) (fun _ => ?_) (fun h => by cases h)
  refine s_runk tAd6 Z 1 rfl rfl ?_; clear Z a; intro a Z
  refine s_ob Z (v := .bool (b == 1)) rfl rfl (by decide) rfl (Ob_pick rfl rfl rfl rfl rfl) ?_; clear Z a; intro a Z
  refine s_runk tAd6 Z 1 rfl rfl ?_; clear Z a; intro a Z
  refine s_end Z [0] rfl ?_; clear Z; intro Z
  refine p_then (wp_ret ?_)
  obtain rfl := some_in hF
  exact f_ret Z (run_results1 rfl Z rfl) ⟨rfl, I6, (H.sub [] rfl).eq rfl⟩
 ·replace hF := ite_f hc1 hF; replace Z := Z.cnv (t := 36) rfl (show Value.bool ((((t.1.length : Int) == 1) && (((t.1.getD (0 : Int).toNat default).n) == 1)) && (t.2 == 2)) = .bool false from congrArg Value.bool hc1); replace Z := Z.sub (ts := [0, 1, 2, 3, 4, 5, 22, 23, 24, 25, 26, 27, 28, 29, 30, 31, 32, 33, 34, 35, 36, 37, 38]) rfl
  refine g_if Z rfl rfl rfl (p := false) rfl rfl (by decide) (fun h => by cases h) ?_; clear Z; intro _ a Z
  refine g_if Z rfl rfl rfl (p := false) rfl rfl (by decide) (fun h => by cases h) ?_; clear Z; intro _ a Z
  refine g_if Z rfl rfl rfl (p := false) rfl rfl (by decide) (fun h => by cases h) ?_; clear Z; intro _ a Z
  refine g_if Z rfl rfl rfl (p := false) rfl rfl (by decide) (fun h => by cases h) ?_; clear Z; intro _ a Z
  refine g_if Z rfl rfl rfl (p := false) rfl rfl (by decide) (fun h => by cases h) ?_; clear Z; intro _ a Z
  refine g_if Z rfl rfl rfl (p := false) rfl rfl (by decide) (fun h => by cases h) ?_; clear Z; intro _ a Z
  refine s_ob Z (v := .bool false) rfl rfl (by decide) rfl (Ob_pick rfl rfl rfl rfl rfl) ?_; clear Z a; intro a Z
  refine s_runk tAd6 Z 1 rfl rfl ?_; clear Z a; intro a Z
  refine s_end Z [0] rfl ?_; clear Z; intro Z
  refine p_then (wp_ret ?_)
  obtain rfl := some_in hF
  exact f_ret Z (run_results1 rfl Z rfl) ⟨rfl, I3, (H.sub [] rfl).eq rfl⟩

def F_ref06_SameOps_l1 (a0 : List EOp) (b : List EOp) (rc : Int → Option Bool) (sg : Int) : Option Bool := match sg with | i => if ((decide (i < (a0.length : Int))) && (decide (i < (b.length : Int)))) = true then (chk ((0 : Int) ≤ i ∧ i < (a0.length : Int)) (chk ((0 : Int) ≤ i ∧ i < (b.length : Int)) (if (!eqEOp (a0.getD (i).toNat default) (b.getD (i).toNat default)) = true then (some false) else (chk (inI (i + 1)) (rc (i + 1)))))) else (some true)

def F_ref06_SameOps (a0 : List EOp) (b : List EOp) : Option Bool := if ((a0.length : Int) != (b.length : Int)) = true then (some false) else (iter (F_ref06_SameOps_l1 a0 b) FU 0)

set_option maxHeartbeats 1000000 in
theorem c_ref06_SameOps {I D : Dm} {a0 : List EOp} {v1_a0 : Value} {b : List EOp} {v2_b : Value} {w : World} {rr : Bool} (hF : F_ref06_SameOps a0 b = some rr) (H : St I D w [SlC NEOp v1_a0 a0, SlC NEOp v2_b b]) :
  Calls Try.prog 33 #[v1_a0, v2_b] w (Ret fun vv w' => vv = .bool rr ∧ ∃ I', Hf I D w I' w' []) := by
 replace H := H.hf
 unfold F_ref06_SameOps at hF
 refine f_enter 32 Try.func33 rfl rfl (Nat.le_of_ble_eq_true rfl) fun a Z => ?_
 replace Z := Z.sub (ts := [0, 1]) rfl
 refine wp_seq (f_region Z ?_); clear Z; intro Z
 refine s_runk tAd6 Z 1 rfl rfl ?_; clear Z a; intro a Z
 refine s_end Z [0, 1, 4] rfl ?_; clear Z; intro Z
 refine p_then (wp_seq ?_)
 refine wp_seq (f_region Z ?_); clear Z; intro Z
 refine s_runk tAd6 Z 1 rfl rfl ?_; clear Z a; intro a Z
 refine s_ob Z (v := .int .i64 (a0.length : Int)) rfl rfl (by decide) rfl (Ob_slen tAd6 rfl rfl rfl (H.slshape 0 rfl)) ?_; clear Z a; intro a Z
 refine s_runk tAd6 Z 1 rfl rfl ?_; clear Z a; intro a Z
 refine s_ob Z (v := .int .i64 (b.length : Int)) rfl rfl (by decide) rfl (Ob_slen tAd6 rfl rfl rfl (H.slshape 1 rfl)) ?_; clear Z a; intro a Z
 refine s_runk tAd6 Z 1 rfl rfl ?_; clear Z a; intro a Z
 refine s_end Z [0, 1, 4, 10] rfl ?_; clear Z; intro Z
 refine p_then ?_
 refine f_cond Z rfl (fun hc1 => ?_) (fun hc1 => ?_)
 ·replace hF := ite_t hc1 hF
  refine wp_seq (f_region Z ?_); clear Z; intro Z
  refine s_runk tAd6 Z 1 rfl rfl ?_; clear Z a; intro a Z
  refine s_end Z [0, 1, 4] rfl ?_; clear Z; intro Z
  refine p_then (wp_ret ?_)
  refine p_then_r ?_
  obtain rfl := some_in hF
  exact f_ret Z (run_results1 rfl Z rfl) ⟨rfl, I, (H.sub [] rfl).eq rfl⟩
 ·replace hF := ite_f hc1 hF
  refine wp_skip ?_
  refine p_then (wp_seq ?_)
  refine wp_seq (f_region Z ?_); clear Z; intro Z
  refine s_runk tAd6 Z 1 rfl rfl ?_; clear Z a; intro a Z
  refine s_end Z [0, 1, 4, 5] rfl ?_; clear Z; intro Z
  refine p_then (wp_block ?_)
  refine f_iter hF (fun sg a' w' => match sg with | i => Sl 32 [(0, v1_a0), (1, v2_b), (4, .bool false), (5, .int .i64 i)] a' ∧ ∃ I2, Hf I D w I2 w' [SlC NEOp v1_a0 a0, SlC NEOp v2_b b]) ⟨Z.sub (ts := [0, 1, 4, 5]) rfl, ⟨I, (H.sub [(0, true), (1, true)] rfl).eq rfl⟩⟩ ?_
  clear Z H hF a
  rintro rc i a w1 ⟨Z, I1, H⟩ hF
  unfold F_ref06_SameOps_l1 at hF
  try dsimp only at hF
  refine wp_seq ?_
  refine wp_seq (f_region Z ?_); clear Z; intro Z
  refine s_runk tAd6 Z 2 rfl rfl ?_; clear Z a; intro a Z
  refine s_ob Z (v := .int .i64 (a0.length : Int)) rfl rfl (by decide) rfl (Ob_slen tAd6 rfl rfl rfl (H.slshape 0 rfl)) ?_; clear Z a; intro a Z
  refine s_runk tAd6 Z 2 rfl rfl ?_; clear Z a; intro a Z
  refine g_ob Z (p := (decide (i < (a0.length : Int)))) (v := .int .i64 i) (S' := [(5, .int .i64 i)]) rfl rfl rfl (wantB_t _) rfl (by decide) (fun hp hS => hS.sub (ts := [5]) rfl) (fun hp => Ob_c tAd6 rfl) ?_; clear Z a; intro a Z
  refine g_ob Z (p := (decide (i < (a0.length : Int)))) (v := v2_b) (S' := [(1, v2_b)]) rfl rfl rfl (wantB_t _) rfl (by decide) (fun hp hS => hS.sub (ts := [1]) rfl) (fun hp => Ob_c tAd6 rfl) ?_; clear Z a; intro a Z
  refine g_ob Z (p := (decide (i < (a0.length : Int)))) (v := .int .i64 (b.length : Int)) (S' := [(17, v2_b)]) rfl rfl rfl (wantB_t _) rfl (by decide) (fun hp hS => (hS.conv (t := 17) rfl (cond_t hp)).sub (ts := [17]) rfl) (fun hp => Ob_slen tAd6 rfl rfl rfl (H.slshape 1 rfl)) ?_; clear Z a; intro a Z
  refine g_ob Z (p := (decide (i < (a0.length : Int)))) (v := .bool (decide (i < (b.length : Int)))) (S' := [(16, .int .i64 i), (18, .int .i64 (b.length : Int))]) rfl rfl rfl (wantB_t _) rfl (by decide) (fun hp hS => ((hS.conv (t := 16) rfl (cond_t hp)).conv (t := 18) rfl (cond_t hp)).sub (ts := [16, 18]) rfl) (fun hp => Ob_c tAd6 rfl) ?_; clear Z a; intro a Z
  refine s_ob Z (v := .bool ((decide (i < (a0.length : Int))) && (decide (i < (b.length : Int))))) rfl rfl (by decide) rfl (Ob_pick rfl rfl rfl rfl (pick_and _ _)) ?_; clear Z a; intro a Z
  refine s_end Z [0, 1, 4, 5, 11, 12, 13, 14, 15, 20] rfl ?_; clear Z; intro Z
  refine p_then ?_
  refine f_cond Z rfl (fun hc2 => ?_) (fun hc2 => ?_)
  ·replace hF := ite_t hc2 hF
   refine wp_skip ?_
   refine p_then (wp_seq ?_)
   refine wp_block ?_
   refine wp_seq ?_
   obtain ⟨hg1, hF⟩ := chk_in hF
   obtain ⟨hg2, hF⟩ := chk_in hF
   refine f_quietd (by kernel_rfl) (by kernel_rfl) Z ?_; clear Z; intro Z
   refine q_runk tAd6 Z 2 rfl rfl ?_; clear Z a; intro a Z
   refine q_ob Z (v := .pointer (some ⟨blkOf v1_a0, oofOf v1_a0 + (i).toNat * 3, none⟩)) rfl rfl (by decide) rfl (fun _ hw => Ob_sidx tAd6 rfl rfl rfl rfl (slPl ((H.blw hw).sl 0 rfl) hg1) hg1) ?_; clear Z a; intro a Z
   refine q_ob Z (v := .agg #[.string ((a0.getD (i).toNat default).key), .string ((a0.getD (i).toNat default).val), .bool ((a0.getD (i).toNat default).del)]) rfl rfl (by decide) rfl (fun _ hw => Ob_loads tAd6 rfl rfl rfl ((slFl ((H.blw hw).sl 0 rfl) hg1).part 0 rfl)) ?_; clear Z a; intro a Z
   refine q_runk tAd6 Z 2 rfl rfl ?_; clear Z a; intro a Z
   refine q_ob Z (v := .pointer (some ⟨blkOf v2_b, oofOf v2_b + (i).toNat * 3, none⟩)) rfl rfl (by decide) rfl (fun _ hw => Ob_sidx tAd6 rfl rfl rfl rfl (slPl ((H.blw hw).sl 1 rfl) hg2) hg2) ?_; clear Z a; intro a Z
   refine q_ob Z (v := .agg #[.string ((b.getD (i).toNat default).key), .string ((b.getD (i).toNat default).val), .bool ((b.getD (i).toNat default).del)]) rfl rfl (by decide) rfl (fun _ hw => Ob_loads tAd6 rfl rfl rfl ((slFl ((H.blw hw).sl 1 rfl) hg2).part 0 rfl)) ?_; clear Z a; intro a Z
   refine q_ob Z (v := .bool (!eqEOp (a0.getD (i).toNat default) (b.getD (i).toNat default))) rfl rfl (by decide) rfl (fun _ hw => Ob_bin rfl rfl rfl (eqg_EOp _ _ _ _ _ _) (neq_EOp (a0.getD (i).toNat default) (b.getD (i).toNat default) _)) ?_; clear Z a; intro a Z
   refine q_end Z [0, 1, 4, 5, 11, 12, 13, 14, 15, 20, 23, 24, 25, 26, 27, 28, 29, 30, 31] rfl ?_; clear Z; intro w2 hb Z
   replace H : Hf I D w I1 w2 [SlC NEOp v1_a0 a0, SlC NEOp v2_b b] := H.blw hb
   clear hb
   refine p_then ?_
   refine f_cond Z rfl (fun hc3 => ?_) (fun hc3 => ?_)
   ·replace hF := ite_t hc3 hF
    refine wp_seq (f_region Z ?_); clear Z; intro Z
    refine s_runk tAd6 Z 1 rfl rfl ?_; clear Z a; intro a Z
    refine s_end Z [0, 1, 4, 5, 11, 12, 13, 14, 15, 20, 23, 24, 25, 26, 27, 28, 29, 30, 31] rfl ?_; clear Z; intro Z
    refine p_then (wp_ret ?_)
    refine p_blk_r ?_
    refine p_then_r ?_
    refine p_then_r ?_
    refine p_blk_r ?_
    refine p_then_r ?_
    obtain rfl := some_in hF
    exact f_ret Z (run_results1 rfl Z rfl) ⟨rfl, I1, (H.sub [] rfl).eq rfl⟩
   ·replace hF := ite_f hc3 hF
    refine wp_skip ?_
    refine p_blk ?_
    refine p_then ?_
    obtain ⟨hg3, hF⟩ := chk_in hF
    refine f_region Z ?_; clear Z; intro Z
    refine s_runk tAd6 Z 1 rfl rfl ?_; clear Z a; intro a Z
    refine s_ob Z (v := .int .i64 (i + 1)) rfl rfl (by decide) rfl (Ob_add rfl rfl rfl (wrI hg3)) ?_; clear Z a; intro a Z
    refine s_runk tAd6 Z 1 rfl rfl ?_; clear Z a; intro a Z
    refine s_end Z [0, 1, 4, 5, 11, 12, 13, 14, 15, 20, 23, 24, 25, 26, 27, 28, 29, 30, 31, 21, 22] rfl ?_; clear Z; intro Z
    refine p_then ?_
    exact ⟨(i + 1), ⟨Z.sub (ts := [0, 1, 4, 5]) rfl, ⟨I1, (H.sub [(0, true), (1, true)] rfl).eq rfl⟩⟩, hF⟩
  ·replace hF := ite_f hc2 hF
   refine wp_exit ?_
   refine p_then_x ?_
   refine p_then_x ?_
   refine f_exit_here ?_
   refine p_then (wp_seq (f_region Z ?_)); clear Z; intro Z
   refine s_runk tAd6 Z 1 rfl rfl ?_; clear Z a; intro a Z
   refine s_end Z [4] rfl ?_; clear Z; intro Z
   refine p_then (wp_ret ?_)
   obtain rfl := some_in hF
   exact f_ret Z (run_results1 rfl Z rfl) ⟨rfl, I1, (H.sub [] rfl).eq rfl⟩

def F_ref06_Same (a0 : EBatch) (b : EBatch) : Option Bool := (gif ((a0.client == b.client) && (a0.req == b.req)) (F_ref06_SameOps a0.ops b.ops) default).bind fun s0 => (some (((a0.client == b.client) && (a0.req == b.req)) && s0))

set_option maxHeartbeats 1000000 in
theorem c_ref06_Same {I D : Dm} {a0 : EBatch} {v1_a0 : Value} {b : EBatch} {v2_b : Value} {w : World} {rr : Bool} (hF : F_ref06_Same a0 b = some rr) (H : St I D w [SlC NEOp v1_a0 a0.ops, SlC NEOp v2_b b.ops]) :
  Calls Try.prog 25 #[.agg #[.int .i64 a0.client, .int .i64 a0.req, v1_a0], .agg #[.int .i64 b.client, .int .i64 b.req, v2_b]] w (Ret fun vv w' => vv = .bool rr ∧ ∃ I', Hf I D w I' w' []) := by
 replace H := H.hf
 unfold F_ref06_Same at hF
 refine f_enter 24 Try.func25 rfl rfl (Nat.le_of_ble_eq_true rfl) fun a Z => ?_
 replace Z := Z.sub (ts := [0, 1]) rfl
 refine wp_seq (f_region Z ?_); clear Z; intro Z
 refine h_boxv Z H (cl := [.int .i64 a0.client, .int .i64 a0.req, v1_a0]) rfl rfl rfl (by decide) rfl rfl rfl ?_; clear Z a H; intro a w1 b1 H Z
 refine h_boxv Z H (cl := [.int .i64 b.client, .int .i64 b.req, v2_b]) rfl rfl rfl (by decide) rfl rfl rfl ?_; clear Z a H; intro a w2 b2 H Z
 refine s_runk tAd6 Z 1 rfl rfl ?_; clear Z a; intro a Z
 refine s_end Z [2, 3, 4] rfl ?_; clear Z; intro Z
 refine p_then (wp_seq ?_)
 obtain ⟨s0, hx1, hF⟩ := bnd_in hF
 refine f_region Z ?_; clear Z; intro Z
 refine s_runk tAd6 Z 1 rfl rfl ?_; clear Z a; intro a Z
 refine s_ob Z (v := .int .i64 a0.client) rfl rfl (by decide) rfl (Ob_load tAd6 rfl rfl rfl ((H.bx 1 rfl).cell 0 rfl)) ?_; clear Z a; intro a Z
 refine s_runk tAd6 Z 1 rfl rfl ?_; clear Z a; intro a Z
 refine s_ob Z (v := .int .i64 b.client) rfl rfl (by decide) rfl (Ob_load tAd6 rfl rfl rfl ((H.bx 0 rfl).cell 0 rfl)) ?_; clear Z a; intro a Z
 refine s_runk tAd6 Z 2 rfl rfl ?_; clear Z a; intro a Z
 refine g_ob Z (p := (a0.client == b.client)) (v := .pointer (some ⟨b1, 1, none⟩)) (S' := [(2, .pointer (some ⟨b1, 0, none⟩))]) rfl rfl rfl (wantB_t _) rfl (by decide) (fun hp hS => hS.sub (ts := [2]) rfl) (fun hp => Ob_c tAd6 rfl) ?_; clear Z a; intro a Z
 refine g_ob Z (p := (a0.client == b.client)) (v := .int .i64 a0.req) (S' := [(11, .pointer (some ⟨b1, 1, none⟩))]) rfl rfl rfl (wantB_t _) rfl (by decide) (fun hp hS => (hS.conv (t := 11) rfl (cond_t hp)).sub (ts := [11]) rfl) (fun hp => Ob_load tAd6 rfl rfl rfl ((H.bx 1 rfl).cell 1 rfl)) ?_; clear Z a; intro a Z
 refine g_ob Z (p := (a0.client == b.client)) (v := .pointer (some ⟨b2, 1, none⟩)) (S' := [(3, .pointer (some ⟨b2, 0, none⟩))]) rfl rfl rfl (wantB_t _) rfl (by decide) (fun hp hS => hS.sub (ts := [3]) rfl) (fun hp => Ob_c tAd6 rfl) ?_; clear Z a; intro a Z
 refine g_ob Z (p := (a0.client == b.client)) (v := .int .i64 b.req) (S' := [(13, .pointer (some ⟨b2, 1, none⟩))]) rfl rfl rfl (wantB_t _) rfl (by decide) (fun hp hS => (hS.conv (t := 13) rfl (cond_t hp)).sub (ts := [13]) rfl) (fun hp => Ob_load tAd6 rfl rfl rfl ((H.bx 0 rfl).cell 1 rfl)) ?_; clear Z a; intro a Z
 refine g_ob Z (p := (a0.client == b.client)) (v := .bool (a0.req == b.req)) (S' := [(12, .int .i64 a0.req), (14, .int .i64 b.req)]) rfl rfl rfl (wantB_t _) rfl (by decide) (fun hp hS => ((hS.conv (t := 12) rfl (cond_t hp)).conv (t := 14) rfl (cond_t hp)).sub (ts := [12, 14]) rfl) (fun hp => Ob_c tAd6 rfl) ?_; clear Z a; intro a Z
 refine s_ob Z (v := .bool ((a0.client == b.client) && (a0.req == b.req))) rfl rfl (by decide) rfl (Ob_pick rfl rfl rfl rfl (pick_and _ _)) ?_; clear Z a; intro a Z
 refine s_runk tAd6 Z 1 rfl rfl ?_; clear Z a; intro a Z
 refine g_ob Z (p := ((a0.client == b.client) && (a0.req == b.req))) (v := .pointer (some ⟨b1, 2, none⟩)) (S' := [(2, .pointer (some ⟨b1, 0, none⟩))]) rfl rfl rfl (wantB_t _) rfl (by decide) (fun hp hS => hS.sub (ts := [2]) rfl) (fun hp => Ob_c tAd6 rfl) ?_; clear Z a; intro a Z
 refine g_ob Z (p := ((a0.client == b.client) && (a0.req == b.req))) (v := v1_a0) (S' := [(18, .pointer (some ⟨b1, 2, none⟩))]) rfl rfl rfl (wantB_t _) rfl (by decide) (fun hp hS => (hS.conv (t := 18) rfl (cond_t hp)).sub (ts := [18]) rfl) (fun hp => Ob_load tAd6 rfl rfl rfl ((H.bx 1 rfl).cell 2 rfl)) ?_; clear Z a; intro a Z
 refine g_ob Z (p := ((a0.client == b.client) && (a0.req == b.req))) (v := .pointer (some ⟨b2, 2, none⟩)) (S' := [(3, .pointer (some ⟨b2, 0, none⟩))]) rfl rfl rfl (wantB_t _) rfl (by decide) (fun hp hS => hS.sub (ts := [3]) rfl) (fun hp => Ob_c tAd6 rfl) ?_; clear Z a; intro a Z
 refine g_ob Z (p := ((a0.client == b.client) && (a0.req == b.req))) (v := v2_b) (S' := [(20, .pointer (some ⟨b2, 2, none⟩))]) rfl rfl rfl (wantB_t _) rfl (by decide) (fun hp hS => (hS.conv (t := 20) rfl (cond_t hp)).sub (ts := [20]) rfl) (fun hp => Ob_load tAd6 rfl rfl rfl ((H.bx 0 rfl).cell 2 rfl)) ?_; clear Z a; intro a Z
 refine g_call Z (p := ((a0.client == b.client) && (a0.req == b.req))) (v := .bool s0) (S' := [(19, v1_a0), (21, v2_b)]) (caps := #[]) fn_33_YAd6 rfl rfl rfl (wantB_t _) rfl (by decide) (fun hp hS => ((hS.conv (t := 19) rfl (cond_t hp)).conv (t := 21) rfl (cond_t hp)).sub (ts := [19, 21]) rfl) rfl rfl rfl rfl (fun hp => (have hq := c_ref06_SameOps (gif_in hx1 hp) ((H).pick0 (js := [(2, true), (3, true)]) rfl rfl); plainC hq)) ?_; clear Z a; intro a w3 hb Z
 replace H : Hf I D w I w3 [BxC b2 31 [.int .i64 b.client, .int .i64 b.req, v2_b], BxC b1 31 [.int .i64 a0.client, .int .i64 a0.req, v1_a0], SlC NEOp v1_a0 a0.ops, SlC NEOp v2_b b.ops] := H.blw hb
 clear hb
 refine s_ob Z (v := .bool (((a0.client == b.client) && (a0.req == b.req)) && s0)) rfl rfl (by decide) rfl (Ob_pick rfl rfl rfl rfl (pick_and _ _)) ?_; clear Z a; intro a Z
 refine s_runk tAd6 Z 1 rfl rfl ?_; clear Z a; intro a Z
 refine s_end Z [4] rfl ?_; clear Z; intro Z
 refine p_then (wp_ret ?_)
 obtain rfl := some_in hF
 exact f_ret Z (run_results1 rfl Z rfl) ⟨rfl, I, (H.sub [] rfl).eq rfl⟩

def F_ref08_Same (a0 : EEntry) (b : EEntry) : Option Bool := (gif (a0.ts == b.ts) (F_ref06_Same a0.batch b.batch) default).bind fun s0 => (some ((a0.ts == b.ts) && s0))

set_option maxHeartbeats 1000000 in
theorem c_ref08_Same {I D : Dm} {a0 : EEntry} {v1_a0 : Value} {b : EEntry} {v2_b : Value} {w : World} {rr : Bool} (hF : F_ref08_Same a0 b = some rr) (H : St I D w [SlC NEOp v1_a0 a0.batch.ops, SlC NEOp v2_b b.batch.ops]) :
  Calls Try.prog 11 #[.agg #[.int .i64 a0.batch.client, .int .i64 a0.batch.req, v1_a0, .int .u64 a0.ts], .agg #[.int .i64 b.batch.client, .int .i64 b.batch.req, v2_b, .int .u64 b.ts]] w (Ret fun vv w' => vv = .bool rr ∧ ∃ I', Hf I D w I' w' []) := by
 replace H := H.hf
 unfold F_ref08_Same at hF
 refine f_enter 17 Try.func11 rfl rfl (Nat.le_of_ble_eq_true rfl) fun a Z => ?_
 replace Z := Z.sub (ts := [0, 1]) rfl
 refine wp_seq (f_region Z ?_); clear Z; intro Z
 refine h_boxv Z H (cl := [.int .i64 a0.batch.client, .int .i64 a0.batch.req, v1_a0, .int .u64 a0.ts]) rfl rfl rfl (by decide) rfl rfl rfl ?_; clear Z a H; intro a w1 b1 H Z
 refine h_boxv Z H (cl := [.int .i64 b.batch.client, .int .i64 b.batch.req, v2_b, .int .u64 b.ts]) rfl rfl rfl (by decide) rfl rfl rfl ?_; clear Z a H; intro a w2 b2 H Z
 refine s_runk tAd6 Z 1 rfl rfl ?_; clear Z a; intro a Z
 refine s_end Z [2, 3, 4] rfl ?_; clear Z; intro Z
 refine p_then (wp_seq ?_)
 obtain ⟨s0, hx1, hF⟩ := bnd_in hF
 refine f_region Z ?_; clear Z; intro Z
 refine s_runk tAd6 Z 1 rfl rfl ?_; clear Z a; intro a Z
 refine s_ob Z (v := .int .u64 a0.ts) rfl rfl (by decide) rfl (Ob_load tAd6 rfl rfl rfl ((H.bx 1 rfl).cell 3 rfl)) ?_; clear Z a; intro a Z
 refine s_runk tAd6 Z 1 rfl rfl ?_; clear Z a; intro a Z
 refine s_ob Z (v := .int .u64 b.ts) rfl rfl (by decide) rfl (Ob_load tAd6 rfl rfl rfl ((H.bx 0 rfl).cell 3 rfl)) ?_; clear Z a; intro a Z
 refine s_runk tAd6 Z 2 rfl rfl ?_; clear Z a; intro a Z
 refine g_ob Z (p := (a0.ts == b.ts)) (v := .pointer (some ⟨b1, 0, none⟩)) (S' := [(2, .pointer (some ⟨b1, 0, none⟩))]) rfl rfl rfl (wantB_t _) rfl (by decide) (fun hp hS => hS.sub (ts := [2]) rfl) (fun hp => Ob_c tAd6 rfl) ?_; clear Z a; intro a Z
 refine g_ob Z (p := (a0.ts == b.ts)) (v := .agg #[.int .i64 a0.batch.client, .int .i64 a0.batch.req, v1_a0]) (S' := [(11, .pointer (some ⟨b1, 0, none⟩))]) rfl rfl rfl (wantB_t _) rfl (by decide) (fun hp hS => (hS.conv (t := 11) rfl (cond_t hp)).sub (ts := [11]) rfl) (fun hp => Ob_loads tAd6 rfl rfl rfl ((H.bx 1 rfl).part 0 rfl)) ?_; clear Z a; intro a Z
 refine g_ob Z (p := (a0.ts == b.ts)) (v := .pointer (some ⟨b2, 0, none⟩)) (S' := [(3, .pointer (some ⟨b2, 0, none⟩))]) rfl rfl rfl (wantB_t _) rfl (by decide) (fun hp hS => hS.sub (ts := [3]) rfl) (fun hp => Ob_c tAd6 rfl) ?_; clear Z a; intro a Z
 refine g_ob Z (p := (a0.ts == b.ts)) (v := .agg #[.int .i64 b.batch.client, .int .i64 b.batch.req, v2_b]) (S' := [(13, .pointer (some ⟨b2, 0, none⟩))]) rfl rfl rfl (wantB_t _) rfl (by decide) (fun hp hS => (hS.conv (t := 13) rfl (cond_t hp)).sub (ts := [13]) rfl) (fun hp => Ob_loads tAd6 rfl rfl rfl ((H.bx 0 rfl).part 0 rfl)) ?_; clear Z a; intro a Z
 refine g_call Z (p := (a0.ts == b.ts)) (v := .bool s0) (S' := [(12, .agg #[.int .i64 a0.batch.client, .int .i64 a0.batch.req, v1_a0]), (14, .agg #[.int .i64 b.batch.client, .int .i64 b.batch.req, v2_b])]) (caps := #[]) fn_25_YAd6 rfl rfl rfl (wantB_t _) rfl (by decide) (fun hp hS => ((hS.conv (t := 12) rfl (cond_t hp)).conv (t := 14) rfl (cond_t hp)).sub (ts := [12, 14]) rfl) rfl rfl rfl rfl (fun hp => (have hq := c_ref06_Same (gif_in hx1 hp) ((H).pick0 (js := [(2, true), (3, true)]) rfl rfl); plainC hq)) ?_; clear Z a; intro a w3 hb Z
 replace H : Hf I D w I w3 [BxC b2 34 (cEEntry b v2_b), BxC b1 34 (cEEntry a0 v1_a0), SlC NEOp v1_a0 a0.batch.ops, SlC NEOp v2_b b.batch.ops] := H.blw hb
 clear hb
 refine s_ob Z (v := .bool ((a0.ts == b.ts) && s0)) rfl rfl (by decide) rfl (Ob_pick rfl rfl rfl rfl (pick_and _ _)) ?_; clear Z a; intro a Z
 refine s_runk tAd6 Z 1 rfl rfl ?_; clear Z a; intro a Z
 refine s_end Z [4] rfl ?_; clear Z; intro Z
 refine p_then (wp_ret ?_)
 obtain rfl := some_in hF
 exact f_ret Z (run_results1 rfl Z rfl) ⟨rfl, I, (H.sub [] rfl).eq rfl⟩

def F_law18_laid_l1 (m : List ENote) (rc : (Int × Eref17_Log) → Option ((List EEntry) × Bool)) (sg : Int × Eref17_Log) : Option ((List EEntry) × Bool) := match sg with | (i, x) => if (decide (i < (m.length : Int))) = true then (chk ((0 : Int) ≤ i ∧ i < (m.length : Int)) (chk ((0 : Int) ≤ i ∧ i < (m.length : Int)) ((F_ref17_Log_Set x ((m.getD (i).toNat default).n) ({ batch := ({ client := (((m.getD (i).toNat default).entry).batch).client, req := (((m.getD (i).toNat default).entry).batch).req, ops := (((m.getD (i).toNat default).entry).batch).ops } : EBatch), ts := ((m.getD (i).toNat default).entry).ts } : EEntry)).bind fun s0 => (if (s0.1 != 0) = true then (some (([] : List EEntry), false)) else (chk (inI (i + 1)) (rc (i + 1, s0.2))))))) else (some (x.l, true))

def F_law18_laid (l : List EEntry) (m : List ENote) : Option ((List EEntry) × Bool) := (F_ref17_Copy l).bind fun c => (iter (F_law18_laid_l1 m) FU (0, ({ l := c } : Eref17_Log)))

set_option maxHeartbeats 1000000 in
theorem c_law18_laid {I D : Dm} {l : List EEntry} {v1_l : Value} {m : List ENote} {v2_m : Value} {w : World} {rr : (List EEntry) × Bool} (hF : F_law18_laid l m = some rr) (H : St I D w [SlC NEEntry v1_l l, SlC NENote v2_m m]) :
  Calls Try.prog 18 #[v1_l, v2_m] w (Ret fun vv w' => ∃ q1 : Value, vv = .tuple #[q1, .bool rr.2] ∧ ∃ I', Hf I D w I' w' [SlC NEEntry q1 rr.1]) := by
 replace H := H.hf
 unfold F_law18_laid at hF
 refine f_enter 35 Try.func18 rfl rfl (Nat.le_of_ble_eq_true rfl) fun a Z => ?_
 replace Z := Z.sub (ts := [0, 1]) rfl
 refine wp_seq (f_region Z ?_); clear Z; intro Z
 refine s_runk tAd6 Z 2 rfl rfl ?_; clear Z a; intro a Z
 refine s_end Z [0, 1, 4, 5] rfl ?_; clear Z; intro Z
 refine p_then (wp_seq ?_)
 obtain ⟨c, hx1, hF⟩ := bnd_in hF
 refine f_region Z ?_; clear Z; intro Z
 refine s_runk tAd6 Z 1 rfl rfl ?_; clear Z a; intro a Z
 refine h_call Z H (js := [(0, true)]) rfl (caps := #[]) fn_23_YAd6 rfl rfl rfl rfl rfl (by decide) rfl rfl (fun D1 hS => have hq := c_ref17_Copy hx1 hS; hq) ?_; clear Z a; intro vv a w1 D2 hr hF2 Z
 obtain ⟨q1, hvv, I1, K⟩ := hr; obtain rfl := hvv.symm
 have H : Hf I D w I1 w1 [OwC NEEntry 34 q1 c, SlC NEEntry v1_l l, SlC NENote v2_m m] := hF2 K
 clear hF2 K
 refine s_ob Z (v := .agg #[q1]) rfl rfl (by decide) rfl (Ob_build (vs := [(0, q1)]) rfl rfl (by obtain ⟨_, _, e, _⟩ := (H.owshape 0 rfl); rw [e]; clear e; go_simp <;> rfl)) ?_; clear Z a; intro a Z
 refine h_boxv Z H (cl := [q1]) rfl rfl rfl (by decide) rfl rfl rfl ?_; clear Z a H; intro a w2 b1 H Z
 refine s_runk tAd6 Z 1 rfl rfl ?_; clear Z a; intro a Z
 refine s_end Z [1, 4, 5, 6] rfl ?_; clear Z; intro Z
 refine p_then (wp_seq ?_)
 refine wp_seq (f_region Z ?_); clear Z; intro Z
 refine s_runk tAd6 Z 1 rfl rfl ?_; clear Z a; intro a Z
 refine s_end Z [1, 4, 5, 6, 7] rfl ?_; clear Z; intro Z
 refine p_then (wp_block ?_)
 replace H : Hf I D w I1 w2 [OEref17_Log b1 ({ l := c } : Eref17_Log), SlC NEEntry v1_l l, SlC NENote v2_m m] := H.shutX (q1) [(0, false), (0, false)] rfl
 refine f_iter hF (fun sg a' w' => match sg with | (i, x) => Sl 35 [(1, v2_m), (4, .slice none 0 0), (5, .bool false), (6, .pointer (some ⟨b1, 0, none⟩)), (7, .int .i64 i)] a' ∧ ∃ I2, Hf I D w I2 w' [OEref17_Log b1 x, SlC NENote v2_m m]) ⟨Z.sub (ts := [1, 4, 5, 6, 7]) rfl, ⟨I1, (H.sub [(0, false), (1, true)] rfl).eq rfl⟩⟩ ?_
 clear Z H hF a
 rintro rc ⟨i, x⟩ a w3 ⟨Z, I2, H⟩ hF
 unfold F_law18_laid_l1 at hF
 try dsimp only at hF
 refine wp_seq ?_
 refine wp_seq (f_region Z ?_); clear Z; intro Z
 refine s_runk tAd6 Z 2 rfl rfl ?_; clear Z a; intro a Z
 refine s_ob Z (v := .int .i64 (m.length : Int)) rfl rfl (by decide) rfl (Ob_slen tAd6 rfl rfl rfl (H.slshape 1 rfl)) ?_; clear Z a; intro a Z
 refine s_runk tAd6 Z 1 rfl rfl ?_; clear Z a; intro a Z
 refine s_end Z [1, 4, 5, 6, 7, 12, 13, 14, 15] rfl ?_; clear Z; intro Z
 refine p_then ?_
 refine f_cond Z rfl (fun hc1 => ?_) (fun hc1 => ?_)
 ·replace hF := ite_t hc1 hF
  refine wp_skip ?_
  refine p_then (wp_seq ?_)
  refine wp_block ?_
  refine wp_seq ?_
  obtain ⟨hg1, hF⟩ := chk_in hF
  obtain ⟨_, ⟨u1, u2, u3, rfl, L1, L2, L3⟩, H⟩ := H.elG 1 rfl (i) (NENote.dft _ _)
  replace H := H.addsl L1
  replace H := H.addsl L2
  replace H := H.addsl L3
  replace H : Hf I D w I2 w3 [SlC NEOp u3 ((((m.getD (i).toNat default).entry).batch).ops), SlC Ni64 u2 ((m.getD (i).toNat default).legit), SlC NEMember u1 (((m.getD (i).toNat default).conf).members), AtG ((0 : Int) ≤ i ∧ i < (m.length : Int)) (blkOf v2_m) (oofOf v2_m + (i).toNat * 18) [.int .i64 ((m.getD (i).toNat default).k), .int .i64 ((m.getD (i).toNat default).n), .int .u64 ((m.getD (i).toNat default).at_), .int .i64 (((m.getD (i).toNat default).conf).epoch), u1, .int .u64 (((m.getD (i).toNat default).conf).floor), u2, .int .i64 ((((m.getD (i).toNat default).entry).batch).client), .int .i64 ((((m.getD (i).toNat default).entry).batch).req), u3, .int .u64 (((m.getD (i).toNat default).entry).ts), .int .i64 (((m.getD (i).toNat default).pin).id), .int .u64 (((m.getD (i).toNat default).pin).at_), .int .i64 (((m.getD (i).toNat default).pin).left), .int .i64 (((m.getD (i).toNat default).said).client), .int .i64 (((m.getD (i).toNat default).said).req), .int .i64 (((m.getD (i).toNat default).said).e), .int .i64 (((m.getD (i).toNat default).said).pin)], OEref17_Log b1 x, SlC NENote v2_m m] := H
  obtain ⟨hg2, hF⟩ := chk_in hF
  obtain ⟨s0, hx2, hF⟩ := bnd_in hF
  refine f_quietS 11 (by kernel_rfl) (by kernel_rfl) (by kernel_rfl) (by kernel_rfl) (by kernel_rfl) Z ?_; clear Z; intro Z
  refine q_runk tAd6 Z 3 rfl rfl ?_; clear Z a; intro a Z
  refine q_ob Z (v := .pointer (some ⟨blkOf v2_m, oofOf v2_m + (i).toNat * 18, none⟩)) rfl rfl (by decide) rfl (fun _ hw => Ob_sidx tAd6 rfl rfl rfl rfl (slPl ((H.blw hw).sl 5 rfl) hg1) hg1) ?_; clear Z a; intro a Z
  refine q_runk tAd6 Z 1 rfl rfl ?_; clear Z a; intro a Z
  refine q_ob Z (v := .int .i64 ((m.getD (i).toNat default).n)) rfl rfl (by decide) rfl (fun _ hw => Ob_load tAd6 rfl rfl rfl (((H.blw hw).atg 3 rfl hg1) 1 _ rfl)) ?_; clear Z a; intro a Z
  refine q_runk tAd6 Z 2 rfl rfl ?_; clear Z a; intro a Z
  refine q_ob Z (v := .pointer (some ⟨blkOf v2_m, oofOf v2_m + (i).toNat * 18, none⟩)) rfl rfl (by decide) rfl (fun _ hw => Ob_sidx tAd6 rfl rfl rfl rfl (slPl ((H.blw hw).sl 5 rfl) hg2) hg2) ?_; clear Z a; intro a Z
  refine q_runk tAd6 Z 1 rfl rfl ?_; clear Z a; intro a Z
  refine q_ob Z (v := .agg #[.int .i64 ((((m.getD (i).toNat default).entry).batch).client), .int .i64 ((((m.getD (i).toNat default).entry).batch).req), u3, .int .u64 (((m.getD (i).toNat default).entry).ts)]) rfl rfl (by decide) rfl (fun _ hw => Ob_loads tAd6 rfl rfl rfl (((H.blw hw).atg 3 rfl hg2).part 7 rfl)) ?_; clear Z a; intro a Z
  refine q_endS Z [1, 4, 5, 6, 7, 12, 13, 14, 15, 18, 19, 20, 21, 22, 23, 24, 25, 26, 27, 28] rfl ?_; clear Z; intro w4 hb Z
  replace H : Hf I D w I2 w4 [SlC NEOp u3 ((((m.getD (i).toNat default).entry).batch).ops), SlC Ni64 u2 ((m.getD (i).toNat default).legit), SlC NEMember u1 (((m.getD (i).toNat default).conf).members), AtG ((0 : Int) ≤ i ∧ i < (m.length : Int)) (blkOf v2_m) (oofOf v2_m + (i).toNat * 18) [.int .i64 ((m.getD (i).toNat default).k), .int .i64 ((m.getD (i).toNat default).n), .int .u64 ((m.getD (i).toNat default).at_), .int .i64 (((m.getD (i).toNat default).conf).epoch), u1, .int .u64 (((m.getD (i).toNat default).conf).floor), u2, .int .i64 ((((m.getD (i).toNat default).entry).batch).client), .int .i64 ((((m.getD (i).toNat default).entry).batch).req), u3, .int .u64 (((m.getD (i).toNat default).entry).ts), .int .i64 (((m.getD (i).toNat default).pin).id), .int .u64 (((m.getD (i).toNat default).pin).at_), .int .i64 (((m.getD (i).toNat default).pin).left), .int .i64 (((m.getD (i).toNat default).said).client), .int .i64 (((m.getD (i).toNat default).said).req), .int .i64 (((m.getD (i).toNat default).said).e), .int .i64 (((m.getD (i).toNat default).said).pin)], OEref17_Log b1 x, SlC NENote v2_m m] := H.blw hb
  clear hb
  refine h_call Z H (js := [(4, false), (0, true)]) rfl (caps := #[]) fn_24_YAd6 rfl rfl rfl rfl rfl (by decide) rfl rfl (fun D1 hS => have hq := c_ref17_Log_Set hx2 hS; hq) ?_; clear Z a; intro vv a w5 D2 hr hF2 Z
  obtain ⟨rfl, I3, K⟩ := hr
  have H : Hf I D w I3 w5 [OEref17_Log b1 s0.2, SlC NEOp u3 ((((m.getD (i).toNat default).entry).batch).ops), SlC Ni64 u2 ((m.getD (i).toNat default).legit), SlC NEMember u1 (((m.getD (i).toNat default).conf).members), AtG ((0 : Int) ≤ i ∧ i < (m.length : Int)) (blkOf v2_m) (oofOf v2_m + (i).toNat * 18) [.int .i64 ((m.getD (i).toNat default).k), .int .i64 ((m.getD (i).toNat default).n), .int .u64 ((m.getD (i).toNat default).at_), .int .i64 (((m.getD (i).toNat default).conf).epoch), u1, .int .u64 (((m.getD (i).toNat default).conf).floor), u2, .int .i64 ((((m.getD (i).toNat default).entry).batch).client), .int .i64 ((((m.getD (i).toNat default).entry).batch).req), u3, .int .u64 (((m.getD (i).toNat default).entry).ts), .int .i64 (((m.getD (i).toNat default).pin).id), .int .u64 (((m.getD (i).toNat default).pin).at_), .int .i64 (((m.getD (i).toNat default).pin).left), .int .i64 (((m.getD (i).toNat default).said).client), .int .i64 (((m.getD (i).toNat default).said).req), .int .i64 (((m.getD (i).toNat default).said).e), .int .i64 (((m.getD (i).toNat default).said).pin)], SlC NENote v2_m m] := hF2 K
  clear hF2 K
  refine s_runk tAd6 Z 1 rfl rfl ?_; clear Z a; intro a Z
  refine s_end Z [1, 4, 5, 6, 7, 12, 13, 14, 15, 18, 19, 20, 21, 22, 23, 24, 25, 26, 27, 28, 29, 30] rfl ?_; clear Z; intro Z
  refine p_then ?_
  refine f_cond Z rfl (fun hc2 => ?_) (fun hc2 => ?_)
  ·replace hF := ite_t hc2 hF
   refine wp_seq (f_region Z ?_); clear Z; intro Z
   refine s_runk tAd6 Z 2 rfl rfl ?_; clear Z a; intro a Z
   refine s_end Z [1, 4, 5, 6, 7, 12, 13, 14, 15, 18, 19, 20, 21, 22, 23, 24, 25, 26, 27, 28, 29, 30] rfl ?_; clear Z; intro Z
   refine p_then (wp_ret ?_)
   refine p_blk_r ?_
   refine p_then_r ?_
   refine p_then_r ?_
   refine p_blk_r ?_
   refine p_then_r ?_
   replace H : Hf I D w I3 w5 [SlC NEEntry (.slice none 0 0) ([] : List EEntry), OEref17_Log b1 s0.2, SlC NEOp u3 ((((m.getD (i).toNat default).entry).batch).ops), SlC Ni64 u2 ((m.getD (i).toNat default).legit), SlC NEMember u1 (((m.getD (i).toNat default).conf).members), AtG ((0 : Int) ≤ i ∧ i < (m.length : Int)) (blkOf v2_m) (oofOf v2_m + (i).toNat * 18) [.int .i64 ((m.getD (i).toNat default).k), .int .i64 ((m.getD (i).toNat default).n), .int .u64 ((m.getD (i).toNat default).at_), .int .i64 (((m.getD (i).toNat default).conf).epoch), u1, .int .u64 (((m.getD (i).toNat default).conf).floor), u2, .int .i64 ((((m.getD (i).toNat default).entry).batch).client), .int .i64 ((((m.getD (i).toNat default).entry).batch).req), u3, .int .u64 (((m.getD (i).toNat default).entry).ts), .int .i64 (((m.getD (i).toNat default).pin).id), .int .u64 (((m.getD (i).toNat default).pin).at_), .int .i64 (((m.getD (i).toNat default).pin).left), .int .i64 (((m.getD (i).toNat default).said).client), .int .i64 (((m.getD (i).toNat default).said).req), .int .i64 (((m.getD (i).toNat default).said).e), .int .i64 (((m.getD (i).toNat default).said).pin)], SlC NENote v2_m m] := H.slNil NEEntry
   obtain rfl := some_in hF
   exact f_ret Z (run_results2 rfl Z rfl rfl) ⟨.slice none 0 0, rfl, I3, (H.sub [(0, true)] rfl).eq rfl⟩
  ·replace hF := ite_f hc2 hF
   refine wp_skip ?_
   refine p_blk ?_
   refine p_then ?_
   obtain ⟨hg3, hF⟩ := chk_in hF
   refine f_region Z ?_; clear Z; intro Z
   refine s_runk tAd6 Z 1 rfl rfl ?_; clear Z a; intro a Z
   refine s_ob Z (v := .int .i64 (i + 1)) rfl rfl (by decide) rfl (Ob_add rfl rfl rfl (wrI hg3)) ?_; clear Z a; intro a Z
   refine s_runk tAd6 Z 1 rfl rfl ?_; clear Z a; intro a Z
   refine s_end Z [1, 4, 5, 6, 7, 12, 13, 14, 15, 18, 19, 20, 21, 22, 23, 24, 25, 26, 27, 28, 29, 30, 16, 17] rfl ?_; clear Z; intro Z
   refine p_then ?_
   exact ⟨(i + 1, s0.2), ⟨Z.sub (ts := [1, 4, 5, 6, 7]) rfl, ⟨I3, (H.sub [(0, false), (4, true)] rfl).eq rfl⟩⟩, hF⟩
 ·replace hF := ite_f hc1 hF
  refine wp_exit ?_
  refine p_then_x ?_
  refine p_then_x ?_
  refine f_exit_here ?_
  refine p_then (wp_seq (f_region Z ?_)); clear Z; intro Z
  refine s_runk tAd6 Z 3 rfl rfl ?_; clear Z a; intro a Z
  obtain ⟨v3, H⟩ := H.openX 0 rfl
  replace H : Hf I D w I2 w3 [BxC b1 64 [v3], OwC NEEntry 34 v3 x.l, SlC NENote v2_m m] := H
  refine s_ob Z (v := v3) rfl rfl (by decide) rfl (Ob_load tAd6 rfl rfl rfl ((H.bx 0 rfl).cell 0 rfl)) ?_; clear Z a; intro a Z
  refine s_runk tAd6 Z 2 rfl rfl ?_; clear Z a; intro a Z
  refine s_end Z [4, 5] rfl ?_; clear Z; intro Z
  refine p_then (wp_ret ?_)
  obtain ⟨I4, _, H⟩ := H.frzow 1 rfl
  replace H : Hf I D w I4 w3 [SlC NEEntry v3 x.l, BxC b1 64 [v3], SlC NENote v2_m m] := H
  obtain rfl := some_in hF
  exact f_ret Z (run_results2 rfl Z rfl rfl) ⟨v3, rfl, I4, (H.sub [(0, true)] rfl).eq rfl⟩

end Go.Proofs.Ytdofpehcojboeaa
