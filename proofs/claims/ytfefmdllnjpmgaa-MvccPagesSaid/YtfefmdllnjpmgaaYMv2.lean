/- Many versions: the document's store. -/
import Derived.Test.YtfefmdllnjpmgaaYMv1
import Derived.Test.YtfefmdllnjpmgaaYQU
import Derived.Test.YtfefmdllnjpmgaaYRw
namespace Go.Proofs.Ytfefmdllnjpmgaa
open Go.RowKit
def tMv2L : TabL := ⟨[(39936, 0), (39937, 1), (47104, 0), (47105, 1), (61440, 0), (61441, 1), (61442, 2), (66560, 0), (66561, 1), (66562, 2), (72704, 0), (72705, 1), (72706, 2), (84992, 0), (84993, 1)], [9], [], [(30, (60, 3)), (33, (39, 2)), (44, (83, 2)), (62, (71, 3)), (73, (9, 1)), (76, (5, 1))], [(3, (1, false)), (4, (1, false)), (5, (1, false)), (9, (1, false)), (23, (1, false)), (30, (1, false)), (39, (2, true)), (44, (1, false)), (60, (3, true)), (62, (1, false)), (65, (3, true)), (71, (3, true))]⟩

def tMv2 : Tab Try.prog := ⟨tMv2L, by kernel_rfl⟩

theorem neq_EPair (x y : EPair) (w : World) : (binOp .neq 39 (.agg (cEPair x).toArray) (.agg (cEPair y).toArray)).run Try.prog w = .ok (.bool (!eqEPair x y)) w := by
 have h1 := run_equalIn_struct (P := Try.prog) w 9999 39 (cEPair x).toArray (cEPair y).toArray (by rw [fieldsOf_of Try.underlying39]; exact Try.underlying39) (by kernel_rfl)
 rw [run_neq_struct, h1, fieldsOf_of Try.underlying39]
 simp [Op.eqFields, part, isAgg, cEPair, beqS, eqEPair, seqB_eq, run_underlying Try.underlying9, run_equalIn_string w 9998 9 _ _ Try.underlying9]
 try ((repeat' split) <;> simp_all)

theorem eqg_EPair (op : BinOp) (x y : Operand) (a b : Array Value) (w : World) : (eqGuard op 39 x y (.agg a) (.agg b)).run Try.prog w = .ok () w := run_eqGuard_agg (by kernel_rfl) op x y a b w

def F_ref05_Check (k : ByteArray) : Option Int := if ((decide ((k.size : Int) < 1)) || (decide ((k.size : Int) > 8))) = true then (some 10) else (some 0)

def F_ref06_Check_l1 (b : EBatch) (rc : Int → Option Int) (sg : Int) : Option Int := match sg with | i => if (decide (i < (b.ops.length : Int))) = true then (chk ((0 : Int) ≤ i ∧ i < (b.ops.length : Int)) ((F_ref05_Check ((b.ops.getD (i).toNat default).key)).bind fun c => (if (c != 0) = true then (some 10) else (if (decide ((((b.ops.getD (i).toNat default).val).size : Int) > 8)) = true then (some 3) else (if (((b.ops.getD (i).toNat default).del) && (!seqB ((b.ops.getD (i).toNat default).val) ⟨#[]⟩)) = true then (some 4) else (chk ((decide (i > 0)) = true → inI (i - 1)) (chk ((decide (i > 0)) = true → (0 : Int) ≤ i - 1 ∧ i - 1 < (b.ops.length : Int)) (if ((decide (i > 0)) && (!sltB ((b.ops.getD (i - 1).toNat default).key) ((b.ops.getD (i).toNat default).key))) = true then (some 18) else (chk (inI (i + 1)) (rc (i + 1))))))))))) else (some 0)

def F_ref06_Check (b : EBatch) : Option Int := if ((decide (b.client < 0)) || (decide (b.client ≥ 3))) = true then (some 1) else (if ((decide (b.req < 1)) || (decide (b.req > 1073741824))) = true then (some 5) else (if (decide ((b.ops.length : Int) > 4)) = true then (some 6) else (iter (F_ref06_Check_l1 b) FU 0)))

def F_ref06_SamePairs_l1 (a0 : List EPair) (b : List EPair) (rc : Int → Option Bool) (sg : Int) : Option Bool := match sg with | i => if ((decide (i < (a0.length : Int))) && (decide (i < (b.length : Int)))) = true then (chk ((0 : Int) ≤ i ∧ i < (a0.length : Int)) (chk ((0 : Int) ≤ i ∧ i < (b.length : Int)) (if (!eqEPair (a0.getD (i).toNat default) (b.getD (i).toNat default)) = true then (some false) else (chk (inI (i + 1)) (rc (i + 1)))))) else (some true)

def F_ref06_SamePairs (a0 : List EPair) (b : List EPair) : Option Bool := if ((a0.length : Int) != (b.length : Int)) = true then (some false) else (iter (F_ref06_SamePairs_l1 a0 b) FU 0)

set_option maxHeartbeats 1000000 in
theorem c_ref06_SamePairs {I D : Dm} {a0 : List EPair} {v1_a0 : Value} {b : List EPair} {v2_b : Value} {w : World} {rr : Bool} (hF : F_ref06_SamePairs a0 b = some rr) (H : St I D w [SlC NEPair v1_a0 a0, SlC NEPair v2_b b]) :
  Calls Try.prog 13 #[v1_a0, v2_b] w (Ret fun vv w' => vv = .bool rr ∧ ∃ I', Hf I D w I' w' []) := by
 replace H := H.hf
 unfold F_ref06_SamePairs at hF
 refine f_enter 32 Try.func13 rfl rfl (Nat.le_of_ble_eq_true rfl) fun a Z => ?_
 replace Z := Z.sub (ts := [0, 1]) rfl
 refine wp_seq (f_region Z ?_); clear Z; intro Z
 refine s_runk tMv2 Z 1 rfl rfl ?_; clear Z a; intro a Z
 refine s_end Z [0, 1, 4] rfl ?_; clear Z; intro Z
 refine p_then (wp_seq ?_)
 refine wp_seq (f_region Z ?_); clear Z; intro Z
 refine s_runk tMv2 Z 1 rfl rfl ?_; clear Z a; intro a Z
 refine s_ob Z (v := .int .i64 (a0.length : Int)) rfl rfl (by decide) rfl (Ob_slen tMv2 rfl rfl rfl (H.slshape 0 rfl)) ?_; clear Z a; intro a Z
 refine s_runk tMv2 Z 1 rfl rfl ?_; clear Z a; intro a Z
 refine s_ob Z (v := .int .i64 (b.length : Int)) rfl rfl (by decide) rfl (Ob_slen tMv2 rfl rfl rfl (H.slshape 1 rfl)) ?_; clear Z a; intro a Z
 refine s_runk tMv2 Z 1 rfl rfl ?_; clear Z a; intro a Z
 refine s_end Z [0, 1, 4, 10] rfl ?_; clear Z; intro Z
 refine p_then ?_
 refine f_cond Z rfl (fun hc1 => ?_) (fun hc1 => ?_)
 ·replace hF := ite_t hc1 hF
  refine wp_seq (f_region Z ?_); clear Z; intro Z
  refine s_runk tMv2 Z 1 rfl rfl ?_; clear Z a; intro a Z
  refine s_end Z [0, 1, 4] rfl ?_; clear Z; intro Z
  refine p_then (wp_ret ?_)
  refine p_then_r ?_
  obtain rfl := some_in hF
  exact f_ret Z (run_results1 rfl Z rfl) ⟨rfl, I, (H.sub [] rfl).eq rfl⟩
 ·replace hF := ite_f hc1 hF
  refine wp_skip ?_
  refine p_then (wp_seq ?_)
  refine wp_seq (f_region Z ?_); clear Z; intro Z
  refine s_runk tMv2 Z 1 rfl rfl ?_; clear Z a; intro a Z
  refine s_end Z [0, 1, 4, 5] rfl ?_; clear Z; intro Z
  refine p_then (wp_block ?_)
  refine f_iter hF (fun sg a' w' => match sg with | i => Sl 32 [(0, v1_a0), (1, v2_b), (4, .bool false), (5, .int .i64 i)] a' ∧ ∃ I2, Hf I D w I2 w' [SlC NEPair v1_a0 a0, SlC NEPair v2_b b]) ⟨Z.sub (ts := [0, 1, 4, 5]) rfl, ⟨I, (H.sub [(0, true), (1, true)] rfl).eq rfl⟩⟩ ?_
  clear Z H hF a
  rintro rc i a w1 ⟨Z, I1, H⟩ hF
  unfold F_ref06_SamePairs_l1 at hF
  try dsimp only at hF
  refine wp_seq ?_
  refine wp_seq (f_region Z ?_); clear Z; intro Z
  refine s_runk tMv2 Z 2 rfl rfl ?_; clear Z a; intro a Z
  refine s_ob Z (v := .int .i64 (a0.length : Int)) rfl rfl (by decide) rfl (Ob_slen tMv2 rfl rfl rfl (H.slshape 0 rfl)) ?_; clear Z a; intro a Z
  refine s_runk tMv2 Z 2 rfl rfl ?_; clear Z a; intro a Z
  refine g_ob Z (p := (decide (i < (a0.length : Int)))) (v := .int .i64 i) (S' := [(5, .int .i64 i)]) rfl rfl rfl (wantB_t _) rfl (by decide) (fun hp hS => hS.sub (ts := [5]) rfl) (fun hp => Ob_c tMv2 rfl) ?_; clear Z a; intro a Z
  refine g_ob Z (p := (decide (i < (a0.length : Int)))) (v := v2_b) (S' := [(1, v2_b)]) rfl rfl rfl (wantB_t _) rfl (by decide) (fun hp hS => hS.sub (ts := [1]) rfl) (fun hp => Ob_c tMv2 rfl) ?_; clear Z a; intro a Z
  refine g_ob Z (p := (decide (i < (a0.length : Int)))) (v := .int .i64 (b.length : Int)) (S' := [(17, v2_b)]) rfl rfl rfl (wantB_t _) rfl (by decide) (fun hp hS => (hS.conv (t := 17) rfl (cond_t hp)).sub (ts := [17]) rfl) (fun hp => Ob_slen tMv2 rfl rfl rfl (H.slshape 1 rfl)) ?_; clear Z a; intro a Z
  refine g_ob Z (p := (decide (i < (a0.length : Int)))) (v := .bool (decide (i < (b.length : Int)))) (S' := [(16, .int .i64 i), (18, .int .i64 (b.length : Int))]) rfl rfl rfl (wantB_t _) rfl (by decide) (fun hp hS => ((hS.conv (t := 16) rfl (cond_t hp)).conv (t := 18) rfl (cond_t hp)).sub (ts := [16, 18]) rfl) (fun hp => Ob_c tMv2 rfl) ?_; clear Z a; intro a Z
  refine s_ob Z (v := .bool ((decide (i < (a0.length : Int))) && (decide (i < (b.length : Int))))) rfl rfl (by decide) rfl (Ob_pick rfl rfl rfl rfl (pick_and _ _)) ?_; clear Z a; intro a Z
  refine s_end Z [0, 1, 4, 5, 11, 12, 13, 14, 15, 20] rfl ?_; clear Z; intro Z
  refine p_then ?_
  refine f_cond Z rfl (fun hc2 => ?_) (fun hc2 => ?_)
  ·replace hF := ite_t hc2 hF
   refine wp_skip ?_
   refine p_then (wp_seq ?_)
   refine wp_block ?_
   refine wp_seq ?_
   obtain ⟨hg1, hF⟩ := chk_in hF
   obtain ⟨hg2, hF⟩ := chk_in hF
   refine f_quietd (by kernel_rfl) (by kernel_rfl) Z ?_; clear Z; intro Z
   refine q_runk tMv2 Z 2 rfl rfl ?_; clear Z a; intro a Z
   refine q_ob Z (v := .pointer (some ⟨blkOf v1_a0, oofOf v1_a0 + (i).toNat * 2, none⟩)) rfl rfl (by decide) rfl (fun _ hw => Ob_sidx tMv2 rfl rfl rfl rfl (slPl ((H.blw hw).sl 0 rfl) hg1) hg1) ?_; clear Z a; intro a Z
   refine q_ob Z (v := .agg #[.string ((a0.getD (i).toNat default).key), .string ((a0.getD (i).toNat default).val)]) rfl rfl (by decide) rfl (fun _ hw => Ob_loads tMv2 rfl rfl rfl ((slFl ((H.blw hw).sl 0 rfl) hg1).part 0 rfl)) ?_; clear Z a; intro a Z
   refine q_runk tMv2 Z 2 rfl rfl ?_; clear Z a; intro a Z
   refine q_ob Z (v := .pointer (some ⟨blkOf v2_b, oofOf v2_b + (i).toNat * 2, none⟩)) rfl rfl (by decide) rfl (fun _ hw => Ob_sidx tMv2 rfl rfl rfl rfl (slPl ((H.blw hw).sl 1 rfl) hg2) hg2) ?_; clear Z a; intro a Z
   refine q_ob Z (v := .agg #[.string ((b.getD (i).toNat default).key), .string ((b.getD (i).toNat default).val)]) rfl rfl (by decide) rfl (fun _ hw => Ob_loads tMv2 rfl rfl rfl ((slFl ((H.blw hw).sl 1 rfl) hg2).part 0 rfl)) ?_; clear Z a; intro a Z
   refine q_ob Z (v := .bool (!eqEPair (a0.getD (i).toNat default) (b.getD (i).toNat default))) rfl rfl (by decide) rfl (fun _ hw => Ob_bin rfl rfl rfl (eqg_EPair _ _ _ _ _ _) (neq_EPair (a0.getD (i).toNat default) (b.getD (i).toNat default) _)) ?_; clear Z a; intro a Z
   refine q_end Z [0, 1, 4, 5, 11, 12, 13, 14, 15, 20, 23, 24, 25, 26, 27, 28, 29, 30, 31] rfl ?_; clear Z; intro w2 hb Z
   replace H : Hf I D w I1 w2 [SlC NEPair v1_a0 a0, SlC NEPair v2_b b] := H.blw hb
   clear hb
   refine p_then ?_
   refine f_cond Z rfl (fun hc3 => ?_) (fun hc3 => ?_)
   ·replace hF := ite_t hc3 hF
    refine wp_seq (f_region Z ?_); clear Z; intro Z
    refine s_runk tMv2 Z 1 rfl rfl ?_; clear Z a; intro a Z
    refine s_end Z [0, 1, 4, 5, 11, 12, 13, 14, 15, 20, 23, 24, 25, 26, 27, 28, 29, 30, 31] rfl ?_; clear Z; intro Z
    refine p_then (wp_ret ?_)
    refine p_blk_r ?_
    refine p_then_r ?_
    refine p_then_r ?_
    refine p_blk_r ?_
    refine p_then_r ?_
    obtain rfl := some_in hF
    exact f_ret Z (run_results1 rfl Z rfl) ⟨rfl, I1, (H.sub [] rfl).eq rfl⟩
   ·replace hF := ite_f hc3 hF
    refine wp_skip ?_
    refine p_blk ?_
    refine p_then ?_
    obtain ⟨hg3, hF⟩ := chk_in hF
    refine f_region Z ?_; clear Z; intro Z
    refine s_runk tMv2 Z 1 rfl rfl ?_; clear Z a; intro a Z
    refine s_ob Z (v := .int .i64 (i + 1)) rfl rfl (by decide) rfl (Ob_add rfl rfl rfl (wrI hg3)) ?_; clear Z a; intro a Z
    refine s_runk tMv2 Z 1 rfl rfl ?_; clear Z a; intro a Z
    refine s_end Z [0, 1, 4, 5, 11, 12, 13, 14, 15, 20, 23, 24, 25, 26, 27, 28, 29, 30, 31, 21, 22] rfl ?_; clear Z; intro Z
    refine p_then ?_
    exact ⟨(i + 1), ⟨Z.sub (ts := [0, 1, 4, 5]) rfl, ⟨I1, (H.sub [(0, true), (1, true)] rfl).eq rfl⟩⟩, hF⟩
  ·replace hF := ite_f hc2 hF
   refine wp_exit ?_
   refine p_then_x ?_
   refine p_then_x ?_
   refine f_exit_here ?_
   refine p_then (wp_seq (f_region Z ?_)); clear Z; intro Z
   refine s_runk tMv2 Z 1 rfl rfl ?_; clear Z a; intro a Z
   refine s_end Z [4] rfl ?_; clear Z; intro Z
   refine p_then (wp_ret ?_)
   obtain rfl := some_in hF
   exact f_ret Z (run_results1 rfl Z rfl) ⟨rfl, I1, (H.sub [] rfl).eq rfl⟩

def F_ref05_Next_l1 (rc : (List Int) → Option ByteArray) (sg : (List Int)) : Option ByteArray := match sg with | b => chk ((decide ((b.length : Int) > 0)) = true → inI ((b.length : Int) - 1)) (chk ((decide ((b.length : Int) > 0)) = true → (0 : Int) ≤ (b.length : Int) - 1 ∧ (b.length : Int) - 1 < (b.length : Int)) (if ((decide ((b.length : Int) > 0)) && ((b.getD ((b.length : Int) - 1).toNat default) == 255)) = true then (chk (inI ((b.length : Int) - 1)) (chk ((0 : Int) ≤ (b.length : Int) - 1 ∧ (b.length : Int) - 1 ≤ (b.length : Int)) (rc (b.take (((b.length : Int) - 1).toNat))))) else (if ((b.length : Int) == 0) = true then (some ⟨#[]⟩) else (chk (inI ((b.length : Int) - 1)) (chk ((0 : Int) ≤ (b.length : Int) - 1 ∧ (b.length : Int) - 1 < (b.length : Int)) (chk (inB ((b.getD ((b.length : Int) - 1).toNat default) + 1)) (chk ((0 : Int) ≤ (b.length : Int) - 1 ∧ (b.length : Int) - 1 < (b.length : Int)) (some (strI (b.set ((b.length : Int) - 1).toNat ((b.getD ((b.length : Int) - 1).toNat default) + 1)))))))))))

def F_ref05_Next (k : ByteArray) : Option ByteArray := if (decide ((k.size : Int) < 8)) = true then (chk (k.size + (strI [0]).size ≤ maxLen) (some (k ++ (strI [0])))) else (chk ((0 : Int) ≤ 8 ∧ 8 ≤ (k.size : Int)) (chk ((k.extract 0 ((8 : Int).toNat)).size ≤ 140737488355328) (iter (F_ref05_Next_l1) FU (bytesI (k.extract 0 ((8 : Int).toNat))))))

set_option maxHeartbeats 1000000 in
theorem c_ref05_Next {I D : Dm} {k : ByteArray} {w : World} {rr : ByteArray} (hF : F_ref05_Next k = some rr) (H : St I D w []) :
  Calls Try.prog 14 #[.string k] w (Ret fun vv w' => vv = .string rr ∧ ∃ I', Hf I D w I' w' []) := by
 replace H := H.hf
 unfold F_ref05_Next at hF
 refine f_enter 44 Try.func14 rfl rfl (Nat.le_of_ble_eq_true rfl) fun a Z => ?_
 replace Z := Z.sub (ts := [0]) rfl
 refine wp_seq (f_region Z ?_); clear Z; intro Z
 refine s_runk tMv2 Z 1 rfl rfl ?_; clear Z a; intro a Z
 refine s_end Z [0, 2] rfl ?_; clear Z; intro Z
 refine p_then (wp_seq ?_)
 refine wp_seq (f_region Z ?_); clear Z; intro Z
 refine s_runk tMv2 Z 3 rfl rfl ?_; clear Z a; intro a Z
 refine s_end Z [0, 2, 6] rfl ?_; clear Z; intro Z
 refine p_then ?_
 refine f_cond Z rfl (fun hc1 => ?_) (fun hc1 => ?_)
 ·replace hF := ite_t hc1 hF
  refine wp_seq ?_
  obtain ⟨hg1, hF⟩ := chk_in hF
  refine f_region Z ?_; clear Z; intro Z
  refine s_runk tMv2 Z 1 rfl rfl ?_; clear Z a; intro a Z
  refine h_bslice Z H (vs := [(0, .int .u8 0)]) (cl := [.int .u8 0]) (e := 5) rfl rfl rfl (by decide) rfl rfl (fun w => run_bslice (z := .int .u8 0) (m := 1) Try.underlying76 (by kernel_rfl) rfl rfl (by decide) (by simp [Instr.fill, Value.cells]) w) ?_; clear Z a H; intro a w1 b1 H Z
  refine s_ob Z (v := .string (strI [0])) rfl rfl (by decide) rfl (Ob_conv rfl rfl (run_b2lit [0] Try.underlying76 Try.underlying5 Try.underlying9 (H.bx 0 rfl))) ?_; clear Z a; intro a Z
  refine s_ob Z (v := .string (k ++ (strI [0]))) rfl rfl (by decide) rfl (Ob_cat rfl rfl rfl hg1) ?_; clear Z a; intro a Z
  refine s_runk tMv2 Z 1 rfl rfl ?_; clear Z a; intro a Z
  refine s_end Z [0, 2] rfl ?_; clear Z; intro Z
  refine p_then (wp_ret ?_)
  refine p_then_r ?_
  obtain rfl := some_in hF
  exact f_ret Z (run_results1 rfl Z rfl) ⟨rfl, I, (H.sub [] rfl).eq rfl⟩
 ·replace hF := ite_f hc1 hF
  refine wp_skip ?_
  refine p_then (wp_seq ?_)
  obtain ⟨hg2, hF⟩ := chk_in hF
  obtain ⟨hg3, hF⟩ := chk_in hF
  refine f_region Z ?_; clear Z; intro Z
  refine s_runk tMv2 Z 1 rfl rfl ?_; clear Z a; intro a Z
  refine s_ob Z (v := .string (k.extract 0 ((8 : Int).toNat))) rfl rfl (by decide) rfl (Ob_sstr_to tMv2 rfl rfl rfl rfl hg2) ?_; clear Z a; intro a Z
  refine h_s2b Z H rfl rfl rfl (by decide) rfl rfl Try.underlying9 Try.underlying76 Try.underlying5 hg3 ?_; clear Z a H; intro v1 a w2 H Z
  refine s_runk tMv2 Z 1 rfl rfl ?_; clear Z a; intro a Z
  refine s_end Z [2, 3] rfl ?_; clear Z; intro Z
  refine p_then (wp_seq ?_)
  refine wp_block ?_
  refine f_iter hF (fun sg a' w' => match sg with | b => ∃ v2 : Value, Sl 44 [(2, .string ⟨#[]⟩), (3, v2)] a' ∧ ∃ I2, Hf I D w I2 w' [ByC v2 b]) ⟨v1, Z.sub (ts := [2, 3]) rfl, ⟨I, (H.sub [(0, false)] rfl).eq rfl⟩⟩ ?_
  clear Z H hF a
  rintro rc b a w3 ⟨v2, Z, I1, H⟩ hF
  unfold F_ref05_Next_l1 at hF
  try dsimp only at hF
  refine wp_seq ?_
  refine wp_seq ?_
  obtain ⟨hg4, hF⟩ := chk_in hF
  obtain ⟨hg5, hF⟩ := chk_in hF
  refine f_region Z ?_; clear Z; intro Z
  refine s_runk tMv2 Z 1 rfl rfl ?_; clear Z a; intro a Z
  refine s_ob Z (v := .int .i64 (b.length : Int)) rfl rfl (by decide) rfl (Ob_slen tMv2 rfl rfl rfl (H.byshape 0 rfl)) ?_; clear Z a; intro a Z
  refine s_runk tMv2 Z 2 rfl rfl ?_; clear Z a; intro a Z
  refine g_ob Z (p := (decide ((b.length : Int) > 0))) (v := v2) (S' := [(3, v2)]) rfl rfl rfl (wantB_t _) rfl (by decide) (fun hp hS => hS.sub (ts := [3]) rfl) (fun hp => Ob_c tMv2 rfl) ?_; clear Z a; intro a Z
  refine g_ob Z (p := (decide ((b.length : Int) > 0))) (v := v2) (S' := [(3, v2)]) rfl rfl rfl (wantB_t _) rfl (by decide) (fun hp hS => hS.sub (ts := [3]) rfl) (fun hp => Ob_c tMv2 rfl) ?_; clear Z a; intro a Z
  refine g_ob Z (p := (decide ((b.length : Int) > 0))) (v := .int .i64 (b.length : Int)) (S' := [(19, v2)]) rfl rfl rfl (wantB_t _) rfl (by decide) (fun hp hS => (hS.conv (t := 19) rfl (cond_t hp)).sub (ts := [19]) rfl) (fun hp => Ob_slen tMv2 rfl rfl rfl (H.byshape 0 rfl)) ?_; clear Z a; intro a Z
  refine g_ob Z (p := (decide ((b.length : Int) > 0))) (v := .int .i64 ((b.length : Int) - 1)) (S' := [(20, .int .i64 (b.length : Int))]) rfl rfl rfl (wantB_t _) rfl (by decide) (fun hp hS => (hS.conv (t := 20) rfl (cond_t hp)).sub (ts := [20]) rfl) (fun hp => Ob_sub rfl rfl rfl (wrI (hg4 hp))) ?_; clear Z a; intro a Z
  refine g_ob Z (p := (decide ((b.length : Int) > 0))) (v := .pointer (some ⟨blkOf v2, oofOf v2 + ((b.length : Int) - 1).toNat * 1, none⟩)) (S' := [(18, v2), (21, .int .i64 ((b.length : Int) - 1))]) rfl rfl rfl (wantB_t _) rfl (by decide) (fun hp hS => ((hS.conv (t := 18) rfl (cond_t hp)).conv (t := 21) rfl (cond_t hp)).sub (ts := [18, 21]) rfl) (fun hp => Ob_sidx tMv2 rfl rfl rfl rfl (slPl (H.byA 0 rfl) (hg5 hp)) (hg5 hp)) ?_; clear Z a; intro a Z
  refine g_ob Z (p := (decide ((b.length : Int) > 0))) (v := .int .u8 (b.getD ((b.length : Int) - 1).toNat default)) (S' := [(22, .pointer (some ⟨blkOf v2, oofOf v2 + ((b.length : Int) - 1).toNat * 1, none⟩))]) rfl rfl rfl (wantB_t _) rfl (by decide) (fun hp hS => (hS.conv (t := 22) rfl (cond_t hp)).sub (ts := [22]) rfl) (fun hp => Ob_load tMv2 rfl rfl rfl ((slFl (H.byA 0 rfl) (hg5 hp)) 0 _ rfl)) ?_; clear Z a; intro a Z
  refine g_ob Z (p := (decide ((b.length : Int) > 0))) (v := .bool ((b.getD ((b.length : Int) - 1).toNat default) == 255)) (S' := [(23, .int .u8 (b.getD ((b.length : Int) - 1).toNat default))]) rfl rfl rfl (wantB_t _) rfl (by decide) (fun hp hS => (hS.conv (t := 23) rfl (cond_t hp)).sub (ts := [23]) rfl) (fun hp => Ob_c tMv2 rfl) ?_; clear Z a; intro a Z
  refine s_ob Z (v := .bool ((decide ((b.length : Int) > 0)) && ((b.getD ((b.length : Int) - 1).toNat default) == 255))) rfl rfl (by decide) rfl (Ob_pick rfl rfl rfl rfl (pick_and _ _)) ?_; clear Z a; intro a Z
  refine s_end Z [2, 3, 14, 15, 16, 17, 25] rfl ?_; clear Z; intro Z
  refine p_then ?_
  refine f_cond Z rfl (fun hc2 => ?_) (fun hc2 => ?_)
  ·replace hF := ite_t hc2 hF
   refine wp_skip ?_
   refine p_then (wp_block ?_)
   obtain ⟨hg6, hF⟩ := chk_in hF
   obtain ⟨hg7, hF⟩ := chk_in hF
   refine f_region Z ?_; clear Z; intro Z
   refine s_runk tMv2 Z 2 rfl rfl ?_; clear Z a; intro a Z
   refine s_ob Z (v := .int .i64 (b.length : Int)) rfl rfl (by decide) rfl (Ob_slen tMv2 rfl rfl rfl (H.byshape 0 rfl)) ?_; clear Z a; intro a Z
   refine s_ob Z (v := .int .i64 ((b.length : Int) - 1)) rfl rfl (by decide) rfl (Ob_sub rfl rfl rfl (wrI hg6)) ?_; clear Z a; intro a Z
   refine s_ob Z (v := subV v2 0 (((b.length : Int) - 1).toNat) 1) rfl rfl (by decide) rfl (Ob_sub_to tMv2 rfl rfl rfl rfl (H.byshape 0 rfl) hg7) ?_; clear Z a; intro a Z
   replace H : Hf I D w I1 w3 [ByC (subV v2 0 (((b.length : Int) - 1).toNat) 1) (b.take (((b.length : Int) - 1).toNat))] := H.truncBy 0 rfl hg7 1
   refine s_runk tMv2 Z 1 rfl rfl ?_; clear Z a; intro a Z
   refine s_end Z [2, 3, 14, 15, 16, 17, 25, 26, 27, 28, 29, 30] rfl ?_; clear Z; intro Z
   refine p_blk ?_
   refine p_then ?_
   exact ⟨(b.take (((b.length : Int) - 1).toNat)), ⟨subV v2 0 (((b.length : Int) - 1).toNat) 1, Z.sub (ts := [2, 3]) rfl, ⟨I1, (H.sub [(0, false)] rfl).eq rfl⟩⟩, hF⟩
  ·replace hF := ite_f hc2 hF
   refine wp_exit ?_
   refine p_then_x ?_
   refine p_then_x ?_
   refine f_exit_here ?_
   refine p_then (wp_seq ?_)
   refine wp_seq (f_region Z ?_); clear Z; intro Z
   refine s_runk tMv2 Z 1 rfl rfl ?_; clear Z a; intro a Z
   refine s_ob Z (v := .int .i64 (b.length : Int)) rfl rfl (by decide) rfl (Ob_slen tMv2 rfl rfl rfl (H.byshape 0 rfl)) ?_; clear Z a; intro a Z
   refine s_runk tMv2 Z 1 rfl rfl ?_; clear Z a; intro a Z
   refine s_end Z [2, 3, 33] rfl ?_; clear Z; intro Z
   refine p_then ?_
   refine f_cond Z rfl (fun hc3 => ?_) (fun hc3 => ?_)
   ·replace hF := ite_t hc3 hF
    refine wp_seq (f_region Z ?_); clear Z; intro Z
    refine s_runk tMv2 Z 1 rfl rfl ?_; clear Z a; intro a Z
    refine s_end Z [2, 3] rfl ?_; clear Z; intro Z
    refine p_then (wp_ret ?_)
    refine p_then_r ?_
    obtain rfl := some_in hF
    exact f_ret Z (run_results1 rfl Z rfl) ⟨rfl, I1, (H.sub [] rfl).eq rfl⟩
   ·replace hF := ite_f hc3 hF
    refine wp_skip ?_
    refine p_then (wp_seq ?_)
    obtain ⟨hg8, hF⟩ := chk_in hF
    obtain ⟨hg9, hF⟩ := chk_in hF
    obtain ⟨hg10, hF⟩ := chk_in hF
    obtain ⟨hg11, hF⟩ := chk_in hF
    refine f_region Z ?_; clear Z; intro Z
    refine s_runk tMv2 Z 2 rfl rfl ?_; clear Z a; intro a Z
    refine s_ob Z (v := .int .i64 (b.length : Int)) rfl rfl (by decide) rfl (Ob_slen tMv2 rfl rfl rfl (H.byshape 0 rfl)) ?_; clear Z a; intro a Z
    refine s_ob Z (v := .int .i64 ((b.length : Int) - 1)) rfl rfl (by decide) rfl (Ob_sub rfl rfl rfl (wrI hg8)) ?_; clear Z a; intro a Z
    refine s_ob Z (v := .pointer (some ⟨blkOf v2, oofOf v2 + ((b.length : Int) - 1).toNat * 1, none⟩)) rfl rfl (by decide) rfl (Ob_sidx tMv2 rfl rfl rfl rfl (slPl (H.byA 0 rfl) hg9) hg9) ?_; clear Z a; intro a Z
    refine s_ob Z (v := .int .u8 (b.getD ((b.length : Int) - 1).toNat default)) rfl rfl (by decide) rfl (Ob_load tMv2 rfl rfl rfl ((slFl (H.byA 0 rfl) hg9) 0 _ rfl)) ?_; clear Z a; intro a Z
    refine s_ob Z (v := .int .u8 ((b.getD ((b.length : Int) - 1).toNat default) + 1)) rfl rfl (by decide) rfl (Ob_add rfl rfl rfl (wrB hg10)) ?_; clear Z a; intro a Z
    refine s_ob Z (v := .pointer (some ⟨blkOf v2, oofOf v2 + ((b.length : Int) - 1).toNat * 1, none⟩)) rfl rfl (by decide) rfl (Ob_sidx tMv2 rfl rfl rfl rfl (slPl (H.byA 0 rfl) hg11) hg11) ?_; clear Z a; intro a Z
    refine h_setBy tMv2 Z H 0 (z := (b.length : Int) - 1) rfl hg11 rfl rfl rfl rfl rfl rfl ?_; clear H; intro w5 H
    dsimp only [List.eraseIdx] at H
    refine s_end Z [2, 3] rfl ?_; clear Z; intro Z
    refine p_then (wp_seq (f_region Z ?_)); clear Z; intro Z
    refine s_runk tMv2 Z 1 rfl rfl ?_; clear Z a; intro a Z
    refine s_ob Z (v := .string (strI (b.set ((b.length : Int) - 1).toNat ((b.getD ((b.length : Int) - 1).toNat default) + 1)))) rfl rfl (by decide) rfl (Ob_conv rfl rfl (run_b2i Try.underlying76 Try.underlying5 Try.underlying9 (H.byA 0 rfl))) ?_; clear Z a; intro a Z
    refine s_runk tMv2 Z 1 rfl rfl ?_; clear Z a; intro a Z
    refine s_end Z [2] rfl ?_; clear Z; intro Z
    refine p_then (wp_ret ?_)
    obtain rfl := some_in hF
    exact f_ret Z (run_results1 rfl Z rfl) ⟨rfl, I1, (H.sub [] rfl).eq rfl⟩

end Go.Proofs.Ytfefmdllnjpmgaa
