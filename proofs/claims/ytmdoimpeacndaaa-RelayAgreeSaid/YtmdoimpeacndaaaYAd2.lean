/- A replica's log: the document's. -/
import Derived.Test.YtmdoimpeacndaaaYAd
namespace Go.Proofs.Ytmdoimpeacndaaa
open Go.RowKit
def OEref17_Log (b : Nat) (x : Eref17_Log) : Ch := ExC fun (p : Value) => [BxC b 90 (cEref17_Log x p), OwC NEEntry 57 p x.l]

def tAd2L : TabL := ⟨[(33792, 0), (33793, 1), (33794, 2), (58368, 0), (58369, 3), (92160, 0), (118784, 0), (118785, 1), (118786, 2)], [9], [], [(22, (57, 4)), (31, (116, 3))], [(3, (1, false)), (4, (1, false)), (9, (1, false)), (22, (1, false)), (24, (1, false)), (31, (1, false)), (33, (3, true)), (57, (4, true)), (116, (3, true))]⟩

def tAd2 : Tab Try.prog := ⟨tAd2L, by kernel_rfl⟩

theorem fn_26_YAd2 : IsFn Try.prog 26 := ⟨_, Try.func26, by kernel_rfl, by kernel_rfl⟩

theorem fn_28_YAd2 : IsFn Try.prog 28 := ⟨_, Try.func28, by kernel_rfl, by kernel_rfl⟩

theorem fn_49_YAd2 : IsFn Try.prog 49 := ⟨_, Try.func49, by kernel_rfl, by kernel_rfl⟩

theorem fn_53_YAd2 : IsFn Try.prog 53 := ⟨_, Try.func53, by kernel_rfl, by kernel_rfl⟩

theorem fn_70_YAd2 : IsFn Try.prog 70 := ⟨_, Try.func70, by kernel_rfl, by kernel_rfl⟩

theorem E_22_YAd2 : Elem Try.prog 22 57 4 48 := ⟨Try.underlying22, by
 have h : (Try.prog.info? 57).map (fun i => (i.zero, i.size, i.bytes)) = some (some (.agg #[.int .i64 0, .int .i64 0, .slice none 0 0, .int .u64 0]), 4, 48) := by kernel_rfl
 obtain ⟨i, hi, h1⟩ := Option.map_eq_some_iff.1 h
 simp only [Prod.mk.injEq] at h1
 exact ⟨i, _, hi, h1.1, h1.2.1, h1.2.2, by rfl⟩, by decide⟩

theorem E_31_YAd2 : Elem Try.prog 31 116 3 40 := ⟨Try.underlying31, by
 have h : (Try.prog.info? 116).map (fun i => (i.zero, i.size, i.bytes)) = some (some (.agg #[.string ByteArray.empty, .string ByteArray.empty, .bool false]), 3, 40) := by kernel_rfl
 obtain ⟨i, hi, h1⟩ := Option.map_eq_some_iff.1 h
 simp only [Prod.mk.injEq] at h1
 exact ⟨i, _, hi, h1.1, h1.2.1, h1.2.2, by rfl⟩, by decide⟩

def F_ref17_Copy_l1 (l : List EEntry) (rc : ((List EEntry) × Int) → Option (List EEntry)) (sg : (List EEntry) × Int) : Option (List EEntry) := match sg with | (out, i) => if (decide (i < (l.length : Int))) = true then (chk ((0 : Int) ≤ i ∧ i < (l.length : Int)) (chk ((0 : Int) ≤ i ∧ i < (l.length : Int)) (chk (((([] : List EOp).length + (((l.getD (i).toNat default).batch).ops).length : Nat) : Int) * 40 ≤ 140737488355328) (chk (((out.length + [({ (l.getD (i).toNat default) with batch := ({ client := ((l.getD (i).toNat default).batch).client, req := ((l.getD (i).toNat default).batch).req, ops := [] ++ (((l.getD (i).toNat default).batch).ops) } : EBatch) } : EEntry)].length : Nat) : Int) * 48 ≤ 140737488355328) (chk (inI (i + 1)) (rc (out ++ [({ (l.getD (i).toNat default) with batch := ({ client := ((l.getD (i).toNat default).batch).client, req := ((l.getD (i).toNat default).batch).req, ops := [] ++ (((l.getD (i).toNat default).batch).ops) } : EBatch) } : EEntry)], i + 1))))))) else (some out)

def F_ref17_Copy (l : List EEntry) : Option (List EEntry) := iter (F_ref17_Copy_l1 l) FU (([] : List EEntry), 0)

set_option maxHeartbeats 1000000 in
theorem c_ref17_Copy {I D : Dm} {l : List EEntry} {v1_l : Value} {w : World} {rr : List EEntry} (hF : F_ref17_Copy l = some rr) (H : St I D w [SlC NEEntry v1_l l]) :
  Calls Try.prog 49 #[v1_l] w (Ret fun vv w' => ∃ q1 : Value, vv = q1 ∧ ∃ I', Hf I D w I' w' [OwC NEEntry 57 q1 rr]) := by
 replace H := H.hf
 unfold F_ref17_Copy at hF
 refine f_enter 31 Try.func49 rfl rfl (Nat.le_of_ble_eq_true rfl) fun a Z => ?_
 replace Z := Z.sub (ts := [0]) rfl
 refine wp_seq (f_region Z ?_); clear Z; intro Z
 refine s_runk tAd2 Z 1 rfl rfl ?_; clear Z a; intro a Z
 refine s_end Z [0, 2] rfl ?_; clear Z; intro Z
 refine p_then (wp_seq (f_region Z ?_)); clear Z; intro Z
 refine s_runk tAd2 Z 1 rfl rfl ?_; clear Z a; intro a Z
 refine s_end Z [0, 2, 3] rfl ?_; clear Z; intro Z
 refine p_then (wp_seq ?_)
 refine wp_seq (f_region Z ?_); clear Z; intro Z
 refine s_runk tAd2 Z 1 rfl rfl ?_; clear Z a; intro a Z
 refine s_end Z [0, 2, 3, 4] rfl ?_; clear Z; intro Z
 refine p_then (wp_block ?_)
 replace H : Hf I D w I w [OwC NEEntry 57 (.slice none 0 0) ([] : List EEntry), SlC NEEntry v1_l l] := H.nilow NEEntry 57
 refine f_iter hF (fun sg a' w' => match sg with | (out, i) => ∃ v2 : Value, Sl 31 [(0, v1_l), (2, .slice none 0 0), (3, v2), (4, .int .i64 i)] a' ∧ ∃ I2, Hf I D w I2 w' [SlC NEEntry v1_l l, OwC NEEntry 57 v2 out]) ⟨.slice none 0 0, Z.sub (ts := [0, 2, 3, 4]) rfl, ⟨I, (H.sub [(1, true), (0, false)] rfl).eq rfl⟩⟩ ?_
 clear Z H hF a
 rintro rc ⟨out, i⟩ a w1 ⟨v2, Z, I1, H⟩ hF
 unfold F_ref17_Copy_l1 at hF
 try dsimp only at hF
 refine wp_seq ?_
 refine wp_seq (f_region Z ?_); clear Z; intro Z
 refine s_runk tAd2 Z 2 rfl rfl ?_; clear Z a; intro a Z
 refine s_ob Z (v := .int .i64 (l.length : Int)) rfl rfl (by decide) rfl (Ob_slen tAd2 rfl rfl rfl (H.slshape 0 rfl)) ?_; clear Z a; intro a Z
 refine s_runk tAd2 Z 1 rfl rfl ?_; clear Z a; intro a Z
 refine s_end Z [0, 2, 3, 4, 6, 7, 8, 9] rfl ?_; clear Z; intro Z
 refine p_then ?_
 refine f_cond Z rfl (fun hc1 => ?_) (fun hc1 => ?_)
 ·replace hF := ite_t hc1 hF
  refine wp_skip ?_
  refine p_then (wp_seq ?_)
  refine wp_block ?_
  refine wp_seq ?_
  obtain ⟨hg1, hF⟩ := chk_in hF
  refine f_region Z ?_; clear Z; intro Z
  refine s_runk tAd2 Z 2 rfl rfl ?_; clear Z a; intro a Z
  refine s_ob Z (v := .pointer (some ⟨blkOf v1_l, oofOf v1_l + (i).toNat * 4, none⟩)) rfl rfl (by decide) rfl (Ob_sidx tAd2 rfl rfl rfl rfl (slPl (H.sl 0 rfl) hg1) hg1) ?_; clear Z a; intro a Z
  obtain ⟨_, ⟨u1, rfl, L1⟩, H⟩ := H.elG 0 rfl (i) (NEEntry.dft _ _)
  replace H := H.addsl L1
  replace H : Hf I D w I1 w1 [SlC NEOp u1 (((l.getD (i).toNat default).batch).ops), AtG ((0 : Int) ≤ i ∧ i < (l.length : Int)) (blkOf v1_l) (oofOf v1_l + (i).toNat * 4) [.int .i64 (((l.getD (i).toNat default).batch).client), .int .i64 (((l.getD (i).toNat default).batch).req), u1, .int .u64 ((l.getD (i).toNat default).ts)], SlC NEEntry v1_l l, OwC NEEntry 57 v2 out] := H
  refine s_ob Z (v := .agg #[.int .i64 (((l.getD (i).toNat default).batch).client), .int .i64 (((l.getD (i).toNat default).batch).req), u1, .int .u64 ((l.getD (i).toNat default).ts)]) rfl rfl (by decide) rfl (Ob_loads tAd2 rfl rfl rfl ((H.atg 1 rfl hg1).part 0 rfl)) ?_; clear Z a; intro a Z
  refine h_alloc Z H (cl := [.int .i64 0, .int .i64 0, .slice none 0 0, .int .u64 0]) (z := .agg #[.int .i64 0, .int .i64 0, .slice none 0 0, .int .u64 0]) rfl rfl rfl (by decide) rfl (by kernel_rfl) rfl ?_; clear Z a H; intro a w2 b1 H Z
  refine h_store tAd2 Z H 0 rfl rfl rfl rfl rfl rfl rfl rfl rfl (one_cons rfl (one_cons rfl (one_cons (slS.one (H.slshape 1 rfl)) (one_cons rfl one_nil)))) (Nat.le_of_ble_eq_true rfl) rfl ?_; clear H; intro w3 H
  dsimp only [List.eraseIdx] at H
  refine s_end Z [0, 2, 3, 4, 6, 7, 8, 9, 12, 13, 14, 15, 5] rfl ?_; clear Z; intro Z
  refine p_then (wp_seq ?_)
  obtain ⟨hg2, hF⟩ := chk_in hF
  obtain ⟨hg3, hF⟩ := chk_in hF
  refine f_region Z ?_; clear Z; intro Z
  refine h_bslice Z H (vs := []) (cl := []) (e := 116) rfl rfl rfl (by decide) rfl rfl (fun w => run_bslice (z := .agg #[.string ByteArray.empty, .string ByteArray.empty, .bool false]) (m := 3) Try.underlying31 (by kernel_rfl) rfl rfl (by decide) (by simp [Instr.fill, Value.cells]) w) ?_; clear Z a H; intro a w4 b2 H Z
  refine s_runk tAd2 Z 2 rfl rfl ?_; clear Z a; intro a Z
  refine s_ob Z (v := .pointer (some ⟨blkOf v1_l, oofOf v1_l + (i).toNat * 4, none⟩)) rfl rfl (by decide) rfl (Ob_sidx tAd2 rfl rfl rfl rfl (slPl (H.sl 4 rfl) hg2) hg2) ?_; clear Z a; intro a Z
  refine s_runk tAd2 Z 2 rfl rfl ?_; clear Z a; intro a Z
  refine s_ob Z (v := u1) rfl rfl (by decide) rfl (Ob_load tAd2 rfl rfl rfl ((H.atg 3 rfl hg2) 2 _ rfl)) ?_; clear Z a; intro a Z
  replace H : Hf I D w I1 w4 [OwC NEOp 116 (.slice (some ⟨b2, 0, none⟩) 0 0) [], BxC b1 57 [.int .i64 (((l.getD (i).toNat default).batch).client), .int .i64 (((l.getD (i).toNat default).batch).req), u1, .int .u64 ((l.getD (i).toNat default).ts)], SlC NEOp u1 (((l.getD (i).toNat default).batch).ops), AtG ((0 : Int) ≤ i ∧ i < (l.length : Int)) (blkOf v1_l) (oofOf v1_l + (i).toNat * 4) [.int .i64 (((l.getD (i).toNat default).batch).client), .int .i64 (((l.getD (i).toNat default).batch).req), u1, .int .u64 ((l.getD (i).toNat default).ts)], SlC NEEntry v1_l l, OwC NEEntry 57 v2 out] := H.emptyow 0 rfl NEOp
  refine h_appO Z H 0 E_31_YAd2 (((l.getD (i).toNat default).batch).ops) rfl rfl rfl rfl rfl (by decide) rfl rfl rfl (H.sl2 2 rfl) hg3 (by decide) ?_; clear Z a H; intro v3 a w5 H Z
  dsimp only [List.eraseIdx] at H
  refine s_runk tAd2 Z 2 rfl rfl ?_; clear Z a; intro a Z
  refine h_store tAd2 Z H 1 rfl rfl rfl rfl rfl rfl (slS.cells (H.owshape 0 rfl)) rfl rfl (one_cons (slS.one (H.owshape 0 rfl)) one_nil) (Nat.le_of_ble_eq_true rfl) rfl ?_; clear H; intro w6 H
  dsimp only [List.eraseIdx] at H
  refine s_end Z [0, 2, 3, 4, 6, 7, 8, 9, 12, 13, 14, 15, 5, 16, 17, 18, 19, 20, 21, 22, 23, 24, 25] rfl ?_; clear Z; intro Z
  refine p_then ?_
  obtain ⟨hg4, hF⟩ := chk_in hF
  refine f_region Z ?_; clear Z; intro Z
  refine s_runk tAd2 Z 1 rfl rfl ?_; clear Z a; intro a Z
  refine s_ob Z (v := .agg #[.int .i64 (((l.getD (i).toNat default).batch).client), .int .i64 (((l.getD (i).toNat default).batch).req), v3, .int .u64 ((l.getD (i).toNat default).ts)]) rfl rfl (by decide) rfl (Ob_loads tAd2 rfl rfl rfl ((H.bx 0 rfl).part 0 rfl)) ?_; clear Z a; intro a Z
  refine h_bslice Z H (vs := [(0, .agg #[.int .i64 (((l.getD (i).toNat default).batch).client), .int .i64 (((l.getD (i).toNat default).batch).req), v3, .int .u64 ((l.getD (i).toNat default).ts)])]) (cl := [.int .i64 (((l.getD (i).toNat default).batch).client), .int .i64 (((l.getD (i).toNat default).batch).req), v3, .int .u64 ((l.getD (i).toNat default).ts)]) (e := 57) rfl rfl rfl (by decide) rfl rfl (fun w => run_bslice (z := .agg #[.int .i64 0, .int .i64 0, .slice none 0 0, .int .u64 0]) (m := 4) Try.underlying22 (by kernel_rfl) rfl rfl (by decide) (by simp [Instr.fill, Value.cells]) w) ?_; clear Z a H; intro a w7 b3 H Z
  obtain ⟨I2, _, H⟩ := H.frzow 2 rfl
  replace H : Hf I D w I2 w7 [SlC NEOp v3 ([] ++ (((l.getD (i).toNat default).batch).ops)), BxC b3 57 [.int .i64 (((l.getD (i).toNat default).batch).client), .int .i64 (((l.getD (i).toNat default).batch).req), v3, .int .u64 ((l.getD (i).toNat default).ts)], BxC b1 57 [.int .i64 (((l.getD (i).toNat default).batch).client), .int .i64 (((l.getD (i).toNat default).batch).req), v3, .int .u64 ((l.getD (i).toNat default).ts)], SlC NEOp u1 (((l.getD (i).toNat default).batch).ops), AtG ((0 : Int) ≤ i ∧ i < (l.length : Int)) (blkOf v1_l) (oofOf v1_l + (i).toNat * 4) [.int .i64 (((l.getD (i).toNat default).batch).client), .int .i64 (((l.getD (i).toNat default).batch).req), u1, .int .u64 ((l.getD (i).toNat default).ts)], SlC NEEntry v1_l l, OwC NEEntry 57 v2 out] := H
  refine h_appO Z H 6 E_22_YAd2 [({ (l.getD (i).toNat default) with batch := ({ client := ((l.getD (i).toNat default).batch).client, req := ((l.getD (i).toNat default).batch).req, ops := [] ++ (((l.getD (i).toNat default).batch).ops) } : EBatch) } : EEntry)] rfl rfl rfl rfl rfl (by decide) rfl rfl rfl (slRep2.box1 (H.bx 1 rfl) ⟨_, rfl, (H.sl 0 rfl)⟩) hg4 (by decide) ?_; clear Z a H; intro v4 a w8 H Z
  dsimp only [List.eraseIdx] at H
  replace H : Hf I D w I2 w8 [OwC NEEntry 57 v4 (out ++ [({ (l.getD (i).toNat default) with batch := ({ client := ((l.getD (i).toNat default).batch).client, req := ((l.getD (i).toNat default).batch).req, ops := [] ++ (((l.getD (i).toNat default).batch).ops) } : EBatch) } : EEntry)]), SlC NEOp v3 ([] ++ (((l.getD (i).toNat default).batch).ops)), BxC b1 57 [.int .i64 (((l.getD (i).toNat default).batch).client), .int .i64 (((l.getD (i).toNat default).batch).req), v3, .int .u64 ((l.getD (i).toNat default).ts)], SlC NEOp u1 (((l.getD (i).toNat default).batch).ops), AtG ((0 : Int) ≤ i ∧ i < (l.length : Int)) (blkOf v1_l) (oofOf v1_l + (i).toNat * 4) [.int .i64 (((l.getD (i).toNat default).batch).client), .int .i64 (((l.getD (i).toNat default).batch).req), u1, .int .u64 ((l.getD (i).toNat default).ts)], SlC NEEntry v1_l l] := H.sub [(0, false), (0, true), (2, false), (2, true), (3, true), (4, true)] rfl
  refine s_runk tAd2 Z 1 rfl rfl ?_; clear Z a; intro a Z
  refine s_end Z [0, 2, 3, 4, 6, 7, 8, 9, 12, 13, 14, 15, 5, 16, 17, 18, 19, 20, 21, 22, 23, 24, 25, 26, 27, 28, 29] rfl ?_; clear Z; intro Z
  refine p_blk ?_
  refine p_then ?_
  obtain ⟨hg5, hF⟩ := chk_in hF
  refine f_region Z ?_; clear Z; intro Z
  refine s_runk tAd2 Z 1 rfl rfl ?_; clear Z a; intro a Z
  refine s_ob Z (v := .int .i64 (i + 1)) rfl rfl (by decide) rfl (Ob_add rfl rfl rfl (wrI hg5)) ?_; clear Z a; intro a Z
  refine s_runk tAd2 Z 1 rfl rfl ?_; clear Z a; intro a Z
  refine s_end Z [0, 2, 3, 4, 6, 7, 8, 9, 12, 13, 14, 15, 5, 16, 17, 18, 19, 20, 21, 22, 23, 24, 25, 26, 27, 28, 29, 10, 11] rfl ?_; clear Z; intro Z
  refine p_then ?_
  exact ⟨(out ++ [({ (l.getD (i).toNat default) with batch := ({ client := ((l.getD (i).toNat default).batch).client, req := ((l.getD (i).toNat default).batch).req, ops := [] ++ (((l.getD (i).toNat default).batch).ops) } : EBatch) } : EEntry)], i + 1), ⟨v4, Z.sub (ts := [0, 2, 3, 4]) rfl, ⟨I2, (H.sub [(5, true), (0, false)] rfl).eq rfl⟩⟩, hF⟩
 ·replace hF := ite_f hc1 hF
  refine wp_exit ?_
  refine p_then_x ?_
  refine p_then_x ?_
  refine f_exit_here ?_
  refine p_then (wp_seq (f_region Z ?_)); clear Z; intro Z
  refine s_runk tAd2 Z 2 rfl rfl ?_; clear Z a; intro a Z
  refine s_end Z [2] rfl ?_; clear Z; intro Z
  refine p_then (wp_ret ?_)
  obtain rfl := some_in hF
  exact f_ret Z (run_results1 rfl Z rfl) ⟨v2, rfl, I1, (H.sub [(1, false)] rfl).eq rfl⟩

def F_ref05_Check (k : ByteArray) : Option Int := if ((decide ((k.size : Int) < 1)) || (decide ((k.size : Int) > 8))) = true then (some 10) else (some 0)

set_option maxHeartbeats 1000000 in
theorem c_ref05_Check {I D : Dm} {k : ByteArray} {w : World} {rr : Int} (hF : F_ref05_Check k = some rr) (H : St I D w []) :
  Calls Try.prog 70 #[.string k] w (Ret fun vv w' => vv = .int .i64 rr ∧ ∃ I', Hf I D w I' w' []) := by
 replace H := H.hf
 unfold F_ref05_Check at hF
 refine f_enter 11 Try.func70 rfl rfl (Nat.le_of_ble_eq_true rfl) fun a Z => ?_
 replace Z := Z.sub (ts := [0]) rfl
 refine wp_seq (f_region Z ?_); clear Z; intro Z
 refine s_runk tAd2 Z 1 rfl rfl ?_; clear Z a; intro a Z
 refine s_end Z [0, 2] rfl ?_; clear Z; intro Z
 refine p_then (wp_seq ?_)
 refine wp_seq (f_region Z ?_); clear Z; intro Z
 refine s_runk tAd2 Z 4 rfl rfl ?_; clear Z a; intro a Z
 refine g_ob Z (p := (!(decide ((k.size : Int) < 1)))) (v := .string k) (S' := [(0, .string k)]) rfl rfl rfl (wantB_f _) rfl (by decide) (fun hp hS => hS.sub (ts := [0]) rfl) (fun hp => Ob_c tAd2 rfl) ?_; clear Z a; intro a Z
 refine g_ob Z (p := (!(decide ((k.size : Int) < 1)))) (v := .int .i64 (k.size : Int)) (S' := [(7, .string k)]) rfl rfl rfl (wantB_f _) rfl (by decide) (fun hp hS => (hS.conv (t := 7) rfl (cond_t hp)).sub (ts := [7]) rfl) (fun hp => Ob_c tAd2 rfl) ?_; clear Z a; intro a Z
 refine g_ob Z (p := (!(decide ((k.size : Int) < 1)))) (v := .bool (decide ((k.size : Int) > 8))) (S' := [(8, .int .i64 (k.size : Int))]) rfl rfl rfl (wantB_f _) rfl (by decide) (fun hp hS => (hS.conv (t := 8) rfl (cond_t hp)).sub (ts := [8]) rfl) (fun hp => Ob_c tAd2 rfl) ?_; clear Z a; intro a Z
 refine s_ob Z (v := .bool ((decide ((k.size : Int) < 1)) || (decide ((k.size : Int) > 8)))) rfl rfl (by decide) rfl (Ob_pick rfl rfl rfl rfl (pick_or _ _)) ?_; clear Z a; intro a Z
 refine s_end Z [2, 10] rfl ?_; clear Z; intro Z
 refine p_then ?_
 refine f_cond Z rfl (fun hc1 => ?_) (fun hc1 => ?_)
 ·replace hF := ite_t hc1 hF
  refine wp_seq (f_region Z ?_); clear Z; intro Z
  refine s_runk tAd2 Z 1 rfl rfl ?_; clear Z a; intro a Z
  refine s_end Z [2] rfl ?_; clear Z; intro Z
  refine p_then (wp_ret ?_)
  refine p_then_r ?_
  obtain rfl := some_in hF
  exact f_ret Z (run_results1 rfl Z rfl) ⟨rfl, I, (H.sub [] rfl).eq rfl⟩
 ·replace hF := ite_f hc1 hF
  refine wp_skip ?_
  refine p_then (wp_seq (f_region Z ?_)); clear Z; intro Z
  refine s_runk tAd2 Z 1 rfl rfl ?_; clear Z a; intro a Z
  refine s_end Z [2] rfl ?_; clear Z; intro Z
  refine p_then (wp_ret ?_)
  obtain rfl := some_in hF
  exact f_ret Z (run_results1 rfl Z rfl) ⟨rfl, I, (H.sub [] rfl).eq rfl⟩

def F_ref06_Check_l1 (b : EBatch) (rc : Int → Option Int) (sg : Int) : Option Int := match sg with | i => if (decide (i < (b.ops.length : Int))) = true then (chk ((0 : Int) ≤ i ∧ i < (b.ops.length : Int)) ((F_ref05_Check ((b.ops.getD (i).toNat default).key)).bind fun c => (if (c != 0) = true then (some 10) else (if (decide ((((b.ops.getD (i).toNat default).val).size : Int) > 8)) = true then (some 3) else (if (((b.ops.getD (i).toNat default).del) && (!seqB ((b.ops.getD (i).toNat default).val) ⟨#[]⟩)) = true then (some 4) else (chk ((decide (i > 0)) = true → inI (i - 1)) (chk ((decide (i > 0)) = true → (0 : Int) ≤ i - 1 ∧ i - 1 < (b.ops.length : Int)) (if ((decide (i > 0)) && (!sltB ((b.ops.getD (i - 1).toNat default).key) ((b.ops.getD (i).toNat default).key))) = true then (some 18) else (chk (inI (i + 1)) (rc (i + 1))))))))))) else (some 0)

def F_ref06_Check (b : EBatch) : Option Int := if ((decide (b.client < 0)) || (decide (b.client ≥ 3))) = true then (some 1) else (if ((decide (b.req < 1)) || (decide (b.req > 1073741824))) = true then (some 5) else (if (decide ((b.ops.length : Int) > 4)) = true then (some 6) else (iter (F_ref06_Check_l1 b) FU 0)))

set_option maxHeartbeats 1000000 in
theorem c_ref06_Check {I D : Dm} {b : EBatch} {v1_b : Value} {w : World} {rr : Int} (hF : F_ref06_Check b = some rr) (H : St I D w [SlC NEOp v1_b b.ops]) :
  Calls Try.prog 53 #[.agg #[.int .i64 b.client, .int .i64 b.req, v1_b]] w (Ret fun vv w' => vv = .int .i64 rr ∧ ∃ I', Hf I D w I' w' []) := by
 replace H := H.hf
 unfold F_ref06_Check at hF
 refine f_enter 66 Try.func53 rfl rfl (Nat.le_of_ble_eq_true rfl) fun a Z => ?_
 replace Z := Z.sub (ts := [0]) rfl
 refine wp_seq (f_region Z ?_); clear Z; intro Z
 refine h_boxv Z H (cl := [.int .i64 b.client, .int .i64 b.req, v1_b]) rfl rfl rfl (by decide) rfl rfl rfl ?_; clear Z a H; intro a w1 b1 H Z
 refine s_runk tAd2 Z 1 rfl rfl ?_; clear Z a; intro a Z
 refine s_end Z [1, 2] rfl ?_; clear Z; intro Z
 refine p_then (wp_seq ?_)
 refine wp_seq (f_region Z ?_); clear Z; intro Z
 refine s_runk tAd2 Z 1 rfl rfl ?_; clear Z a; intro a Z
 refine s_ob Z (v := .int .i64 b.client) rfl rfl (by decide) rfl (Ob_load tAd2 rfl rfl rfl ((H.bx 0 rfl).cell 0 rfl)) ?_; clear Z a; intro a Z
 refine s_runk tAd2 Z 2 rfl rfl ?_; clear Z a; intro a Z
 refine g_ob Z (p := (!(decide (b.client < 0)))) (v := .pointer (some ⟨b1, 0, none⟩)) (S' := [(1, .pointer (some ⟨b1, 0, none⟩))]) rfl rfl rfl (wantB_f _) rfl (by decide) (fun hp hS => hS.sub (ts := [1]) rfl) (fun hp => Ob_c tAd2 rfl) ?_; clear Z a; intro a Z
 refine g_ob Z (p := (!(decide (b.client < 0)))) (v := .int .i64 b.client) (S' := [(9, .pointer (some ⟨b1, 0, none⟩))]) rfl rfl rfl (wantB_f _) rfl (by decide) (fun hp hS => (hS.conv (t := 9) rfl (cond_t hp)).sub (ts := [9]) rfl) (fun hp => Ob_load tAd2 rfl rfl rfl ((H.bx 0 rfl).cell 0 rfl)) ?_; clear Z a; intro a Z
 refine g_ob Z (p := (!(decide (b.client < 0)))) (v := .bool (decide (b.client ≥ 3))) (S' := [(10, .int .i64 b.client)]) rfl rfl rfl (wantB_f _) rfl (by decide) (fun hp hS => (hS.conv (t := 10) rfl (cond_t hp)).sub (ts := [10]) rfl) (fun hp => Ob_c tAd2 rfl) ?_; clear Z a; intro a Z
 refine s_ob Z (v := .bool ((decide (b.client < 0)) || (decide (b.client ≥ 3)))) rfl rfl (by decide) rfl (Ob_pick rfl rfl rfl rfl (pick_or _ _)) ?_; clear Z a; intro a Z
 refine s_end Z [1, 2, 12] rfl ?_; clear Z; intro Z
 refine p_then ?_
 refine f_cond Z rfl (fun hc1 => ?_) (fun hc1 => ?_)
 ·replace hF := ite_t hc1 hF
  refine wp_seq (f_region Z ?_); clear Z; intro Z
  refine s_runk tAd2 Z 1 rfl rfl ?_; clear Z a; intro a Z
  refine s_end Z [1, 2] rfl ?_; clear Z; intro Z
  refine p_then (wp_ret ?_)
  refine p_then_r ?_
  obtain rfl := some_in hF
  exact f_ret Z (run_results1 rfl Z rfl) ⟨rfl, I, (H.sub [] rfl).eq rfl⟩
 ·replace hF := ite_f hc1 hF
  refine wp_skip ?_
  refine p_then (wp_seq ?_)
  refine wp_seq (f_region Z ?_); clear Z; intro Z
  refine s_runk tAd2 Z 1 rfl rfl ?_; clear Z a; intro a Z
  refine s_ob Z (v := .int .i64 b.req) rfl rfl (by decide) rfl (Ob_load tAd2 rfl rfl rfl ((H.bx 0 rfl).cell 1 rfl)) ?_; clear Z a; intro a Z
  refine s_runk tAd2 Z 2 rfl rfl ?_; clear Z a; intro a Z
  refine g_ob Z (p := (!(decide (b.req < 1)))) (v := .pointer (some ⟨b1, 1, none⟩)) (S' := [(1, .pointer (some ⟨b1, 0, none⟩))]) rfl rfl rfl (wantB_f _) rfl (by decide) (fun hp hS => hS.sub (ts := [1]) rfl) (fun hp => Ob_c tAd2 rfl) ?_; clear Z a; intro a Z
  refine g_ob Z (p := (!(decide (b.req < 1)))) (v := .int .i64 b.req) (S' := [(17, .pointer (some ⟨b1, 1, none⟩))]) rfl rfl rfl (wantB_f _) rfl (by decide) (fun hp hS => (hS.conv (t := 17) rfl (cond_t hp)).sub (ts := [17]) rfl) (fun hp => Ob_load tAd2 rfl rfl rfl ((H.bx 0 rfl).cell 1 rfl)) ?_; clear Z a; intro a Z
  refine g_ob Z (p := (!(decide (b.req < 1)))) (v := .bool (decide (b.req > 1073741824))) (S' := [(18, .int .i64 b.req)]) rfl rfl rfl (wantB_f _) rfl (by decide) (fun hp hS => (hS.conv (t := 18) rfl (cond_t hp)).sub (ts := [18]) rfl) (fun hp => Ob_c tAd2 rfl) ?_; clear Z a; intro a Z
  refine s_ob Z (v := .bool ((decide (b.req < 1)) || (decide (b.req > 1073741824)))) rfl rfl (by decide) rfl (Ob_pick rfl rfl rfl rfl (pick_or _ _)) ?_; clear Z a; intro a Z
  refine s_end Z [1, 2, 20] rfl ?_; clear Z; intro Z
  refine p_then ?_
  refine f_cond Z rfl (fun hc2 => ?_) (fun hc2 => ?_)
  ·replace hF := ite_t hc2 hF
   refine wp_seq (f_region Z ?_); clear Z; intro Z
   refine s_runk tAd2 Z 1 rfl rfl ?_; clear Z a; intro a Z
   refine s_end Z [1, 2] rfl ?_; clear Z; intro Z
   refine p_then (wp_ret ?_)
   refine p_then_r ?_
   obtain rfl := some_in hF
   exact f_ret Z (run_results1 rfl Z rfl) ⟨rfl, I, (H.sub [] rfl).eq rfl⟩
  ·replace hF := ite_f hc2 hF
   refine wp_skip ?_
   refine p_then (wp_seq ?_)
   refine wp_seq (f_region Z ?_); clear Z; intro Z
   refine s_runk tAd2 Z 1 rfl rfl ?_; clear Z a; intro a Z
   refine s_ob Z (v := v1_b) rfl rfl (by decide) rfl (Ob_load tAd2 rfl rfl rfl ((H.bx 0 rfl).cell 2 rfl)) ?_; clear Z a; intro a Z
   refine s_ob Z (v := .int .i64 (b.ops.length : Int)) rfl rfl (by decide) rfl (Ob_slen tAd2 rfl rfl rfl (H.slshape 1 rfl)) ?_; clear Z a; intro a Z
   refine s_runk tAd2 Z 1 rfl rfl ?_; clear Z a; intro a Z
   refine s_end Z [1, 2, 24] rfl ?_; clear Z; intro Z
   refine p_then ?_
   refine f_cond Z rfl (fun hc3 => ?_) (fun hc3 => ?_)
   ·replace hF := ite_t hc3 hF
    refine wp_seq (f_region Z ?_); clear Z; intro Z
    refine s_runk tAd2 Z 1 rfl rfl ?_; clear Z a; intro a Z
    refine s_end Z [1, 2] rfl ?_; clear Z; intro Z
    refine p_then (wp_ret ?_)
    refine p_then_r ?_
    obtain rfl := some_in hF
    exact f_ret Z (run_results1 rfl Z rfl) ⟨rfl, I, (H.sub [] rfl).eq rfl⟩
   ·replace hF := ite_f hc3 hF
    refine wp_skip ?_
    refine p_then (wp_seq ?_)
    refine wp_seq (f_region Z ?_); clear Z; intro Z
    refine s_runk tAd2 Z 1 rfl rfl ?_; clear Z a; intro a Z
    refine s_end Z [1, 2, 3] rfl ?_; clear Z; intro Z
    refine p_then (wp_block ?_)
    refine f_iter hF (fun sg a' w' => match sg with | i => Sl 66 [(1, .pointer (some ⟨b1, 0, none⟩)), (2, .int .i64 0), (3, .int .i64 i)] a' ∧ ∃ I2, Hf I D w I2 w' [BxC b1 33 [.int .i64 b.client, .int .i64 b.req, v1_b], SlC NEOp v1_b b.ops]) ⟨Z.sub (ts := [1, 2, 3]) rfl, ⟨I, (H.sub [(0, false), (0, true)] rfl).eq rfl⟩⟩ ?_
    clear Z H hF a
    rintro rc i a w2 ⟨Z, I1, H⟩ hF
    unfold F_ref06_Check_l1 at hF
    try dsimp only at hF
    refine wp_seq ?_
    refine wp_seq (f_region Z ?_); clear Z; intro Z
    refine s_runk tAd2 Z 2 rfl rfl ?_; clear Z a; intro a Z
    refine s_ob Z (v := v1_b) rfl rfl (by decide) rfl (Ob_load tAd2 rfl rfl rfl ((H.bx 0 rfl).cell 2 rfl)) ?_; clear Z a; intro a Z
    refine s_ob Z (v := .int .i64 (b.ops.length : Int)) rfl rfl (by decide) rfl (Ob_slen tAd2 rfl rfl rfl (H.slshape 1 rfl)) ?_; clear Z a; intro a Z
    refine s_runk tAd2 Z 1 rfl rfl ?_; clear Z a; intro a Z
    refine s_end Z [1, 2, 3, 25, 26, 27, 28, 29] rfl ?_; clear Z; intro Z
    refine p_then ?_
    refine f_cond Z rfl (fun hc4 => ?_) (fun hc4 => ?_)
    ·replace hF := ite_t hc4 hF
     refine wp_skip ?_
     refine p_then (wp_seq ?_)
     refine wp_block ?_
     refine wp_seq ?_
     obtain ⟨hg1, hF⟩ := chk_in hF
     refine f_region Z ?_; clear Z; intro Z
     refine s_runk tAd2 Z 1 rfl rfl ?_; clear Z a; intro a Z
     refine s_ob Z (v := v1_b) rfl rfl (by decide) rfl (Ob_load tAd2 rfl rfl rfl ((H.bx 0 rfl).cell 2 rfl)) ?_; clear Z a; intro a Z
     refine s_runk tAd2 Z 1 rfl rfl ?_; clear Z a; intro a Z
     refine s_ob Z (v := .pointer (some ⟨blkOf v1_b, oofOf v1_b + (i).toNat * 3, none⟩)) rfl rfl (by decide) rfl (Ob_sidx tAd2 rfl rfl rfl rfl (slPl (H.sl 1 rfl) hg1) hg1) ?_; clear Z a; intro a Z
     refine s_ob Z (v := .agg #[.string ((b.ops.getD (i).toNat default).key), .string ((b.ops.getD (i).toNat default).val), .bool ((b.ops.getD (i).toNat default).del)]) rfl rfl (by decide) rfl (Ob_loads tAd2 rfl rfl rfl ((slFl (H.sl 1 rfl) hg1).part 0 rfl)) ?_; clear Z a; intro a Z
     refine h_alloc Z H (cl := [.string ByteArray.empty, .string ByteArray.empty, .bool false]) (z := .agg #[.string ByteArray.empty, .string ByteArray.empty, .bool false]) rfl rfl rfl (by decide) rfl (by kernel_rfl) rfl ?_; clear Z a H; intro a w3 b2 H Z
     refine h_store tAd2 Z H 0 rfl rfl rfl rfl rfl rfl rfl rfl rfl (one_cons rfl (one_cons rfl (one_cons rfl one_nil))) (Nat.le_of_ble_eq_true rfl) rfl ?_; clear H; intro w4 H
     dsimp only [List.eraseIdx] at H
     refine s_end Z [1, 2, 3, 25, 26, 27, 28, 29, 32, 33, 34, 35, 36, 4] rfl ?_; clear Z; intro Z
     refine p_then (wp_seq ?_)
     refine wp_seq ?_
     obtain ⟨c, hx1, hF⟩ := bnd_in hF
     refine f_region Z ?_; clear Z; intro Z
     refine s_runk tAd2 Z 1 rfl rfl ?_; clear Z a; intro a Z
     refine s_ob Z (v := .string ((b.ops.getD (i).toNat default).key)) rfl rfl (by decide) rfl (Ob_load tAd2 rfl rfl rfl ((H.bx 0 rfl).cell 0 rfl)) ?_; clear Z a; intro a Z
     refine h_call Z H (js := []) rfl (caps := #[]) fn_70_YAd2 rfl rfl rfl rfl rfl (by decide) rfl rfl (fun D1 hS => have hq := c_ref05_Check hx1 hS; hq) ?_; clear Z a; intro vv a w5 D2 hr hF2 Z
     obtain ⟨rfl, I2, K⟩ := hr
     have H : Hf I D w I2 w5 [BxC b2 116 [.string ((b.ops.getD (i).toNat default).key), .string ((b.ops.getD (i).toNat default).val), .bool ((b.ops.getD (i).toNat default).del)], BxC b1 33 [.int .i64 b.client, .int .i64 b.req, v1_b], SlC NEOp v1_b b.ops] := hF2 K
     clear hF2 K
     refine s_runk tAd2 Z 1 rfl rfl ?_; clear Z a; intro a Z
     refine s_end Z [1, 2, 3, 25, 26, 27, 28, 29, 32, 33, 34, 35, 36, 4, 37, 38, 39, 40] rfl ?_; clear Z; intro Z
     refine p_then ?_
     refine f_cond Z rfl (fun hc5 => ?_) (fun hc5 => ?_)
     ·replace hF := ite_t hc5 hF
      refine wp_seq (f_region Z ?_); clear Z; intro Z
      refine s_runk tAd2 Z 1 rfl rfl ?_; clear Z a; intro a Z
      refine s_end Z [1, 2, 3, 25, 26, 27, 28, 29, 32, 33, 34, 35, 36, 4, 37, 38, 39, 40] rfl ?_; clear Z; intro Z
      refine p_then (wp_ret ?_)
      refine p_then_r ?_
      refine p_blk_r ?_
      refine p_then_r ?_
      refine p_then_r ?_
      refine p_blk_r ?_
      refine p_then_r ?_
      obtain rfl := some_in hF
      exact f_ret Z (run_results1 rfl Z rfl) ⟨rfl, I2, (H.sub [] rfl).eq rfl⟩
     ·replace hF := ite_f hc5 hF
      refine wp_skip ?_
      refine p_then (wp_seq ?_)
      refine wp_seq (f_region Z ?_); clear Z; intro Z
      refine s_runk tAd2 Z 1 rfl rfl ?_; clear Z a; intro a Z
      refine s_ob Z (v := .string ((b.ops.getD (i).toNat default).val)) rfl rfl (by decide) rfl (Ob_load tAd2 rfl rfl rfl ((H.bx 0 rfl).cell 1 rfl)) ?_; clear Z a; intro a Z
      refine s_runk tAd2 Z 2 rfl rfl ?_; clear Z a; intro a Z
      refine s_end Z [1, 2, 3, 25, 26, 27, 28, 29, 32, 33, 34, 35, 36, 4, 37, 38, 39, 40, 41, 42, 43, 44] rfl ?_; clear Z; intro Z
      refine p_then ?_
      refine f_cond Z rfl (fun hc6 => ?_) (fun hc6 => ?_)
      ·replace hF := ite_t hc6 hF
       refine wp_seq (f_region Z ?_); clear Z; intro Z
       refine s_runk tAd2 Z 1 rfl rfl ?_; clear Z a; intro a Z
       refine s_end Z [1, 2, 3, 25, 26, 27, 28, 29, 32, 33, 34, 35, 36, 4, 37, 38, 39, 40, 41, 42, 43, 44] rfl ?_; clear Z; intro Z
       refine p_then (wp_ret ?_)
       refine p_then_r ?_
       refine p_blk_r ?_
       refine p_then_r ?_
       refine p_then_r ?_
       refine p_blk_r ?_
       refine p_then_r ?_
       obtain rfl := some_in hF
       exact f_ret Z (run_results1 rfl Z rfl) ⟨rfl, I2, (H.sub [] rfl).eq rfl⟩
      ·replace hF := ite_f hc6 hF
       refine wp_skip ?_
       refine p_then (wp_seq ?_)
       refine wp_seq (f_region Z ?_); clear Z; intro Z
       refine s_runk tAd2 Z 1 rfl rfl ?_; clear Z a; intro a Z
       refine s_ob Z (v := .bool ((b.ops.getD (i).toNat default).del)) rfl rfl (by decide) rfl (Ob_load tAd2 rfl rfl rfl ((H.bx 0 rfl).cell 2 rfl)) ?_; clear Z a; intro a Z
       refine s_runk tAd2 Z 1 rfl rfl ?_; clear Z a; intro a Z
       refine g_ob Z (p := ((b.ops.getD (i).toNat default).del)) (v := .pointer (some ⟨b2, 1, none⟩)) (S' := [(4, .pointer (some ⟨b2, 0, none⟩))]) rfl rfl rfl (wantB_t _) rfl (by decide) (fun hp hS => hS.sub (ts := [4]) rfl) (fun hp => Ob_c tAd2 rfl) ?_; clear Z a; intro a Z
       refine g_ob Z (p := ((b.ops.getD (i).toNat default).del)) (v := .string ((b.ops.getD (i).toNat default).val)) (S' := [(48, .pointer (some ⟨b2, 1, none⟩))]) rfl rfl rfl (wantB_t _) rfl (by decide) (fun hp hS => (hS.conv (t := 48) rfl (cond_t hp)).sub (ts := [48]) rfl) (fun hp => Ob_load tAd2 rfl rfl rfl ((H.bx 0 rfl).cell 1 rfl)) ?_; clear Z a; intro a Z
       refine g_ob Z (p := ((b.ops.getD (i).toNat default).del)) (v := .bool (!seqB ((b.ops.getD (i).toNat default).val) ⟨#[]⟩)) (S' := [(49, .string ((b.ops.getD (i).toNat default).val))]) rfl rfl rfl (wantB_t _) rfl (by decide) (fun hp hS => (hS.conv (t := 49) rfl (cond_t hp)).sub (ts := [49]) rfl) (fun hp => Ob_c tAd2 rfl) ?_; clear Z a; intro a Z
       refine s_ob Z (v := .bool (((b.ops.getD (i).toNat default).del) && (!seqB ((b.ops.getD (i).toNat default).val) ⟨#[]⟩))) rfl rfl (by decide) rfl (Ob_pick rfl rfl rfl rfl (pick_and _ _)) ?_; clear Z a; intro a Z
       refine s_end Z [1, 2, 3, 25, 26, 27, 28, 29, 32, 33, 34, 35, 36, 4, 37, 38, 39, 40, 41, 42, 43, 44, 45, 46, 47, 51] rfl ?_; clear Z; intro Z
       refine p_then ?_
       refine f_cond Z rfl (fun hc7 => ?_) (fun hc7 => ?_)
       ·replace hF := ite_t hc7 hF
        refine wp_seq (f_region Z ?_); clear Z; intro Z
        refine s_runk tAd2 Z 1 rfl rfl ?_; clear Z a; intro a Z
        refine s_end Z [1, 2, 3, 25, 26, 27, 28, 29, 32, 33, 34, 35, 36, 4, 37, 38, 39, 40, 41, 42, 43, 44, 45, 46, 47, 51] rfl ?_; clear Z; intro Z
        refine p_then (wp_ret ?_)
        refine p_then_r ?_
        refine p_blk_r ?_
        refine p_then_r ?_
        refine p_then_r ?_
        refine p_blk_r ?_
        refine p_then_r ?_
        obtain rfl := some_in hF
        exact f_ret Z (run_results1 rfl Z rfl) ⟨rfl, I2, (H.sub [] rfl).eq rfl⟩
       ·replace hF := ite_f hc7 hF
        refine wp_skip ?_
        refine p_then (wp_seq ?_)
        obtain ⟨hg2, hF⟩ := chk_in hF
        obtain ⟨hg3, hF⟩ := chk_in hF
        refine f_quietd (by kernel_rfl) (by kernel_rfl) Z ?_; clear Z; intro Z
        refine q_runk tAd2 Z 3 rfl rfl ?_; clear Z a; intro a Z
        refine gq_ob Z (p := (decide (i > 0))) (v := .pointer (some ⟨b1, 2, none⟩)) (S' := [(1, .pointer (some ⟨b1, 0, none⟩))]) rfl rfl rfl (wantB_t _) rfl (by decide) (fun hp hS => hS.sub (ts := [1]) rfl) (fun hp _ hw => Ob_c tAd2 rfl) ?_; clear Z a; intro a Z
        refine gq_ob Z (p := (decide (i > 0))) (v := v1_b) (S' := [(55, .pointer (some ⟨b1, 2, none⟩))]) rfl rfl rfl (wantB_t _) rfl (by decide) (fun hp hS => (hS.conv (t := 55) rfl (cond_t hp)).sub (ts := [55]) rfl) (fun hp _ hw => Ob_load tAd2 rfl rfl rfl (((H.blw hw).bx 1 rfl).cell 2 rfl)) ?_; clear Z a; intro a Z
        refine gq_ob Z (p := (decide (i > 0))) (v := .int .i64 i) (S' := [(3, .int .i64 i)]) rfl rfl rfl (wantB_t _) rfl (by decide) (fun hp hS => hS.sub (ts := [3]) rfl) (fun hp _ hw => Ob_c tAd2 rfl) ?_; clear Z a; intro a Z
        refine gq_ob Z (p := (decide (i > 0))) (v := .int .i64 (i - 1)) (S' := [(57, .int .i64 i)]) rfl rfl rfl (wantB_t _) rfl (by decide) (fun hp hS => (hS.conv (t := 57) rfl (cond_t hp)).sub (ts := [57]) rfl) (fun hp _ hw => Ob_sub rfl rfl rfl (wrI (hg2 hp))) ?_; clear Z a; intro a Z
        refine gq_ob Z (p := (decide (i > 0))) (v := .pointer (some ⟨blkOf v1_b, oofOf v1_b + (i - 1).toNat * 3, none⟩)) (S' := [(56, v1_b), (58, .int .i64 (i - 1))]) rfl rfl rfl (wantB_t _) rfl (by decide) (fun hp hS => ((hS.conv (t := 56) rfl (cond_t hp)).conv (t := 58) rfl (cond_t hp)).sub (ts := [56, 58]) rfl) (fun hp _ hw => Ob_sidx tAd2 rfl rfl rfl rfl (slPl ((H.blw hw).sl 2 rfl) (hg3 hp)) (hg3 hp)) ?_; clear Z a; intro a Z
        refine gq_ob Z (p := (decide (i > 0))) (v := .pointer (some ⟨blkOf v1_b, oofOf v1_b + (i - 1).toNat * 3, none⟩)) (S' := [(59, .pointer (some ⟨blkOf v1_b, oofOf v1_b + (i - 1).toNat * 3, none⟩))]) rfl rfl rfl (wantB_t _) rfl (by decide) (fun hp hS => (hS.conv (t := 59) rfl (cond_t hp)).sub (ts := [59]) rfl) (fun hp _ hw => Ob_c tAd2 rfl) ?_; clear Z a; intro a Z
        refine gq_ob Z (p := (decide (i > 0))) (v := .string ((b.ops.getD (i - 1).toNat default).key)) (S' := [(60, .pointer (some ⟨blkOf v1_b, oofOf v1_b + (i - 1).toNat * 3, none⟩))]) rfl rfl rfl (wantB_t _) rfl (by decide) (fun hp hS => (hS.conv (t := 60) rfl (cond_t hp)).sub (ts := [60]) rfl) (fun hp _ hw => Ob_load tAd2 rfl rfl rfl ((slFl ((H.blw hw).sl 2 rfl) (hg3 hp)) 0 _ rfl)) ?_; clear Z a; intro a Z
        refine gq_ob Z (p := (decide (i > 0))) (v := .pointer (some ⟨b2, 0, none⟩)) (S' := [(4, .pointer (some ⟨b2, 0, none⟩))]) rfl rfl rfl (wantB_t _) rfl (by decide) (fun hp hS => hS.sub (ts := [4]) rfl) (fun hp _ hw => Ob_c tAd2 rfl) ?_; clear Z a; intro a Z
        refine gq_ob Z (p := (decide (i > 0))) (v := .string ((b.ops.getD (i).toNat default).key)) (S' := [(62, .pointer (some ⟨b2, 0, none⟩))]) rfl rfl rfl (wantB_t _) rfl (by decide) (fun hp hS => (hS.conv (t := 62) rfl (cond_t hp)).sub (ts := [62]) rfl) (fun hp _ hw => Ob_load tAd2 rfl rfl rfl (((H.blw hw).bx 0 rfl).cell 0 rfl)) ?_; clear Z a; intro a Z
        refine gq_ob Z (p := (decide (i > 0))) (v := .bool (!sltB ((b.ops.getD (i - 1).toNat default).key) ((b.ops.getD (i).toNat default).key))) (S' := [(61, .string ((b.ops.getD (i - 1).toNat default).key)), (63, .string ((b.ops.getD (i).toNat default).key))]) rfl rfl rfl (wantB_t _) rfl (by decide) (fun hp hS => ((hS.conv (t := 61) rfl (cond_t hp)).conv (t := 63) rfl (cond_t hp)).sub (ts := [61, 63]) rfl) (fun hp _ hw => Ob_c tAd2 rfl) ?_; clear Z a; intro a Z
        refine q_ob Z (v := .bool ((decide (i > 0)) && (!sltB ((b.ops.getD (i - 1).toNat default).key) ((b.ops.getD (i).toNat default).key)))) rfl rfl (by decide) rfl (fun _ hw => Ob_pick rfl rfl rfl rfl (pick_and _ _)) ?_; clear Z a; intro a Z
        refine q_end Z [1, 2, 3, 25, 26, 27, 28, 29, 32, 33, 34, 35, 36, 4, 37, 38, 39, 40, 41, 42, 43, 44, 45, 46, 47, 51, 52, 53, 54, 65] rfl ?_; clear Z; intro w6 hb Z
        replace H : Hf I D w I2 w6 [BxC b2 116 [.string ((b.ops.getD (i).toNat default).key), .string ((b.ops.getD (i).toNat default).val), .bool ((b.ops.getD (i).toNat default).del)], BxC b1 33 [.int .i64 b.client, .int .i64 b.req, v1_b], SlC NEOp v1_b b.ops] := H.blw hb
        clear hb
        refine p_then ?_
        refine f_cond Z rfl (fun hc8 => ?_) (fun hc8 => ?_)
        ·replace hF := ite_t hc8 hF
         refine wp_seq (f_region Z ?_); clear Z; intro Z
         refine s_runk tAd2 Z 1 rfl rfl ?_; clear Z a; intro a Z
         refine s_end Z [1, 2, 3, 25, 26, 27, 28, 29, 32, 33, 34, 35, 36, 4, 37, 38, 39, 40, 41, 42, 43, 44, 45, 46, 47, 51, 52, 53, 54, 65] rfl ?_; clear Z; intro Z
         refine p_then (wp_ret ?_)
         refine p_blk_r ?_
         refine p_then_r ?_
         refine p_then_r ?_
         refine p_blk_r ?_
         refine p_then_r ?_
         obtain rfl := some_in hF
         exact f_ret Z (run_results1 rfl Z rfl) ⟨rfl, I2, (H.sub [] rfl).eq rfl⟩
        ·replace hF := ite_f hc8 hF
         refine wp_skip ?_
         refine p_blk ?_
         refine p_then ?_
         obtain ⟨hg4, hF⟩ := chk_in hF
         refine f_region Z ?_; clear Z; intro Z
         refine s_runk tAd2 Z 1 rfl rfl ?_; clear Z a; intro a Z
         refine s_ob Z (v := .int .i64 (i + 1)) rfl rfl (by decide) rfl (Ob_add rfl rfl rfl (wrI hg4)) ?_; clear Z a; intro a Z
         refine s_runk tAd2 Z 1 rfl rfl ?_; clear Z a; intro a Z
         refine s_end Z [1, 2, 3, 25, 26, 27, 28, 29, 32, 33, 34, 35, 36, 4, 37, 38, 39, 40, 41, 42, 43, 44, 45, 46, 47, 51, 52, 53, 54, 65, 30, 31] rfl ?_; clear Z; intro Z
         refine p_then ?_
         exact ⟨(i + 1), ⟨Z.sub (ts := [1, 2, 3]) rfl, ⟨I2, (H.sub [(1, false), (1, true)] rfl).eq rfl⟩⟩, hF⟩
    ·replace hF := ite_f hc4 hF
     refine wp_exit ?_
     refine p_then_x ?_
     refine p_then_x ?_
     refine f_exit_here ?_
     refine p_then (wp_seq (f_region Z ?_)); clear Z; intro Z
     refine s_runk tAd2 Z 1 rfl rfl ?_; clear Z a; intro a Z
     refine s_end Z [2] rfl ?_; clear Z; intro Z
     refine p_then (wp_ret ?_)
     obtain rfl := some_in hF
     exact f_ret Z (run_results1 rfl Z rfl) ⟨rfl, I1, (H.sub [] rfl).eq rfl⟩

def F_ref08_Check (e : EEntry) : Option Int := (F_ref06_Check e.batch).bind fun c => (some c)

set_option maxHeartbeats 1000000 in
theorem c_ref08_Check {I D : Dm} {e : EEntry} {v1_e : Value} {w : World} {rr : Int} (hF : F_ref08_Check e = some rr) (H : St I D w [SlC NEOp v1_e e.batch.ops]) :
  Calls Try.prog 28 #[.agg #[.int .i64 e.batch.client, .int .i64 e.batch.req, v1_e, .int .u64 e.ts]] w (Ret fun vv w' => vv = .int .i64 rr ∧ ∃ I', Hf I D w I' w' []) := by
 replace H := H.hf
 unfold F_ref08_Check at hF
 refine f_enter 6 Try.func28 rfl rfl (Nat.le_of_ble_eq_true rfl) fun a Z => ?_
 replace Z := Z.sub (ts := [0]) rfl
 refine wp_seq (f_region Z ?_); clear Z; intro Z
 refine h_boxv Z H (cl := [.int .i64 e.batch.client, .int .i64 e.batch.req, v1_e, .int .u64 e.ts]) rfl rfl rfl (by decide) rfl rfl rfl ?_; clear Z a H; intro a w1 b1 H Z
 refine s_runk tAd2 Z 1 rfl rfl ?_; clear Z a; intro a Z
 refine s_end Z [1, 2] rfl ?_; clear Z; intro Z
 refine p_then (wp_seq ?_)
 obtain ⟨c, hx1, hF⟩ := bnd_in hF
 refine f_region Z ?_; clear Z; intro Z
 refine s_runk tAd2 Z 1 rfl rfl ?_; clear Z a; intro a Z
 refine s_ob Z (v := .agg #[.int .i64 e.batch.client, .int .i64 e.batch.req, v1_e]) rfl rfl (by decide) rfl (Ob_loads tAd2 rfl rfl rfl ((H.bx 0 rfl).part 0 rfl)) ?_; clear Z a; intro a Z
 refine h_call Z H (js := [(1, true)]) rfl (caps := #[]) fn_53_YAd2 rfl rfl rfl rfl rfl (by decide) rfl rfl (fun D1 hS => have hq := c_ref06_Check hx1 hS; hq) ?_; clear Z a; intro vv a w2 D2 hr hF2 Z
 obtain ⟨rfl, I1, K⟩ := hr
 have H : Hf I D w I1 w2 [BxC b1 57 (cEEntry e v1_e), SlC NEOp v1_e e.batch.ops] := hF2 K
 clear hF2 K
 refine s_runk tAd2 Z 1 rfl rfl ?_; clear Z a; intro a Z
 refine s_end Z [2] rfl ?_; clear Z; intro Z
 refine p_then (wp_ret ?_)
 obtain rfl := some_in hF
 exact f_ret Z (run_results1 rfl Z rfl) ⟨rfl, I1, (H.sub [] rfl).eq rfl⟩

def F_ref08_Twins (a0 : EEntry) (b : EEntry) : Option Bool := some ((a0.batch.client == b.batch.client) && (a0.batch.req == b.batch.req))

set_option maxHeartbeats 1000000 in
theorem c_ref08_Twins {I D : Dm} {a0 : EEntry} {v1_a0 : Value} {b : EEntry} {v2_b : Value} {w : World} {rr : Bool} (hF : F_ref08_Twins a0 b = some rr) (H : St I D w [SlC NEOp v1_a0 a0.batch.ops, SlC NEOp v2_b b.batch.ops]) :
  Calls Try.prog 26 #[.agg #[.int .i64 a0.batch.client, .int .i64 a0.batch.req, v1_a0, .int .u64 a0.ts], .agg #[.int .i64 b.batch.client, .int .i64 b.batch.req, v2_b, .int .u64 b.ts]] w (Ret fun vv w' => vv = .bool rr ∧ ∃ I', Hf I D w I' w' []) := by
 replace H := H.hf
 unfold F_ref08_Twins at hF
 refine f_enter 21 Try.func26 rfl rfl (Nat.le_of_ble_eq_true rfl) fun a Z => ?_
 replace Z := Z.sub (ts := [0, 1]) rfl
 refine wp_seq (f_region Z ?_); clear Z; intro Z
 refine h_boxv Z H (cl := [.int .i64 a0.batch.client, .int .i64 a0.batch.req, v1_a0, .int .u64 a0.ts]) rfl rfl rfl (by decide) rfl rfl rfl ?_; clear Z a H; intro a w1 b1 H Z
 refine h_boxv Z H (cl := [.int .i64 b.batch.client, .int .i64 b.batch.req, v2_b, .int .u64 b.ts]) rfl rfl rfl (by decide) rfl rfl rfl ?_; clear Z a H; intro a w2 b2 H Z
 refine s_runk tAd2 Z 1 rfl rfl ?_; clear Z a; intro a Z
 refine s_end Z [2, 3, 4] rfl ?_; clear Z; intro Z
 refine p_then (wp_seq (f_region Z ?_)); clear Z; intro Z
 refine s_runk tAd2 Z 2 rfl rfl ?_; clear Z a; intro a Z
 refine s_ob Z (v := .int .i64 a0.batch.client) rfl rfl (by decide) rfl (Ob_load tAd2 rfl rfl rfl ((H.bx 1 rfl).cell 0 rfl)) ?_; clear Z a; intro a Z
 refine s_runk tAd2 Z 2 rfl rfl ?_; clear Z a; intro a Z
 refine s_ob Z (v := .int .i64 b.batch.client) rfl rfl (by decide) rfl (Ob_load tAd2 rfl rfl rfl ((H.bx 0 rfl).cell 0 rfl)) ?_; clear Z a; intro a Z
 refine s_runk tAd2 Z 2 rfl rfl ?_; clear Z a; intro a Z
 refine g_ob Z (p := (a0.batch.client == b.batch.client)) (v := .pointer (some ⟨b1, 0, none⟩)) (S' := [(2, .pointer (some ⟨b1, 0, none⟩))]) rfl rfl rfl (wantB_t _) rfl (by decide) (fun hp hS => hS.sub (ts := [2]) rfl) (fun hp => Ob_c tAd2 rfl) ?_; clear Z a; intro a Z
 refine g_ob Z (p := (a0.batch.client == b.batch.client)) (v := .pointer (some ⟨b1, 1, none⟩)) (S' := [(13, .pointer (some ⟨b1, 0, none⟩))]) rfl rfl rfl (wantB_t _) rfl (by decide) (fun hp hS => (hS.conv (t := 13) rfl (cond_t hp)).sub (ts := [13]) rfl) (fun hp => Ob_c tAd2 rfl) ?_; clear Z a; intro a Z
 refine g_ob Z (p := (a0.batch.client == b.batch.client)) (v := .int .i64 a0.batch.req) (S' := [(14, .pointer (some ⟨b1, 1, none⟩))]) rfl rfl rfl (wantB_t _) rfl (by decide) (fun hp hS => (hS.conv (t := 14) rfl (cond_t hp)).sub (ts := [14]) rfl) (fun hp => Ob_load tAd2 rfl rfl rfl ((H.bx 1 rfl).cell 1 rfl)) ?_; clear Z a; intro a Z
 refine g_ob Z (p := (a0.batch.client == b.batch.client)) (v := .pointer (some ⟨b2, 0, none⟩)) (S' := [(3, .pointer (some ⟨b2, 0, none⟩))]) rfl rfl rfl (wantB_t _) rfl (by decide) (fun hp hS => hS.sub (ts := [3]) rfl) (fun hp => Ob_c tAd2 rfl) ?_; clear Z a; intro a Z
 refine g_ob Z (p := (a0.batch.client == b.batch.client)) (v := .pointer (some ⟨b2, 1, none⟩)) (S' := [(16, .pointer (some ⟨b2, 0, none⟩))]) rfl rfl rfl (wantB_t _) rfl (by decide) (fun hp hS => (hS.conv (t := 16) rfl (cond_t hp)).sub (ts := [16]) rfl) (fun hp => Ob_c tAd2 rfl) ?_; clear Z a; intro a Z
 refine g_ob Z (p := (a0.batch.client == b.batch.client)) (v := .int .i64 b.batch.req) (S' := [(17, .pointer (some ⟨b2, 1, none⟩))]) rfl rfl rfl (wantB_t _) rfl (by decide) (fun hp hS => (hS.conv (t := 17) rfl (cond_t hp)).sub (ts := [17]) rfl) (fun hp => Ob_load tAd2 rfl rfl rfl ((H.bx 0 rfl).cell 1 rfl)) ?_; clear Z a; intro a Z
 refine g_ob Z (p := (a0.batch.client == b.batch.client)) (v := .bool (a0.batch.req == b.batch.req)) (S' := [(15, .int .i64 a0.batch.req), (18, .int .i64 b.batch.req)]) rfl rfl rfl (wantB_t _) rfl (by decide) (fun hp hS => ((hS.conv (t := 15) rfl (cond_t hp)).conv (t := 18) rfl (cond_t hp)).sub (ts := [15, 18]) rfl) (fun hp => Ob_c tAd2 rfl) ?_; clear Z a; intro a Z
 refine s_ob Z (v := .bool ((a0.batch.client == b.batch.client) && (a0.batch.req == b.batch.req))) rfl rfl (by decide) rfl (Ob_pick rfl rfl rfl rfl (pick_and _ _)) ?_; clear Z a; intro a Z
 refine s_runk tAd2 Z 1 rfl rfl ?_; clear Z a; intro a Z
 refine s_end Z [4] rfl ?_; clear Z; intro Z
 refine p_then (wp_ret ?_)
 obtain rfl := some_in hF
 exact f_ret Z (run_results1 rfl Z rfl) ⟨rfl, I, (H.sub [] rfl).eq rfl⟩

def F_ref17_Log_Set_l2 (i : Int) (e : EEntry) (rc_2 : ((List EEntry) × Int) → Option (Int × Eref17_Log)) (sg : (List EEntry) × Int) : Option (Int × Eref17_Log) := match sg with | (m, k_2) => chk ((decide (k_2 < (m.length : Int))) = true → (0 : Int) ≤ i ∧ i < (m.length : Int)) (if ((decide (k_2 < (m.length : Int))) && (((m.getD (i).toNat default).ts) != e.ts)) = true then (chk ((0 : Int) ≤ k_2 ∧ k_2 < (m.length : Int)) (chk (inI (k_2 + 1)) (rc_2 (m.set (k_2).toNat ({ batch := ({ client := ((m.getD (k_2).toNat default).batch).client, req := ((m.getD (k_2).toNat default).batch).req, ops := ((m.getD (k_2).toNat default).batch).ops } : EBatch), ts := 0 } : EEntry), k_2 + 1)))) else (chk ((0 : Int) ≤ i ∧ i < (m.length : Int)) (some (0, ({ l := m.set (i).toNat ({ e with batch := ({ client := ((m.getD (i).toNat default).batch).client, req := ((m.getD (i).toNat default).batch).req, ops := ((m.getD (i).toNat default).batch).ops } : EBatch) } : EEntry) } : Eref17_Log)))))

def F_ref17_Log_Set_l1 (l : Eref17_Log) (i : Int) (e : EEntry) (rc : Int → Option (Int × Eref17_Log)) (sg : Int) : Option (Int × Eref17_Log) := match sg with | k => if (decide (k < i)) = true then (chk ((0 : Int) ≤ k ∧ k < (l.l.length : Int)) ((F_ref08_Twins ({ (l.l.getD (k).toNat default) with batch := ({ client := ((l.l.getD (k).toNat default).batch).client, req := ((l.l.getD (k).toNat default).batch).req, ops := ((l.l.getD (k).toNat default).batch).ops } : EBatch) } : EEntry) e).bind fun t => (if (t) = true then (some (18, l)) else (chk (inI (k + 1)) (rc (k + 1)))))) else (chk (((e.ts != 0) && (decide (i > 0))) = true → inI (i - 1)) (chk (((e.ts != 0) && (decide (i > 0))) = true → (0 : Int) ≤ i - 1 ∧ i - 1 < (l.l.length : Int)) (chk ((((e.ts != 0) && (decide (i > 0))) && (!(((l.l.getD (i - 1).toNat default).ts) == 0))) = true → inI (i - 1)) (chk ((((e.ts != 0) && (decide (i > 0))) && (!(((l.l.getD (i - 1).toNat default).ts) == 0))) = true → (0 : Int) ≤ i - 1 ∧ i - 1 < (l.l.length : Int)) (if (((e.ts != 0) && (decide (i > 0))) && ((((l.l.getD (i - 1).toNat default).ts) == 0) || (decide ((l.l.getD (i - 1).toNat default).ts ≥ e.ts)))) = true then (some (18, l)) else (chk ((decide (i < (l.l.length : Int))) = true → (0 : Int) ≤ i ∧ i < (l.l.length : Int)) ((gif (decide (i < (l.l.length : Int))) (F_ref08_Twins ({ (l.l.getD (i).toNat default) with batch := ({ client := ((l.l.getD (i).toNat default).batch).client, req := ((l.l.getD (i).toNat default).batch).req, ops := ((l.l.getD (i).toNat default).batch).ops } : EBatch) } : EEntry) e) default).bind fun t_2 => (if ((decide (i < (l.l.length : Int))) && t_2) = true then ((F_ref17_Copy l.l).bind fun c_2 => (chk (inI (i + 1)) (iter (F_ref17_Log_Set_l2 i e) FU (c_2, i + 1)))) else (chk ((0 : Int) ≤ i ∧ i ≤ (l.l.length : Int)) ((F_ref17_Copy (l.l.take ((i).toNat))).bind fun c_3 => ((F_ref17_Copy [e]).bind fun c_4 => (chk (((c_3.length + c_4.length : Nat) : Int) * 48 ≤ 140737488355328) (some (0, ({ l := c_3 ++ c_4 } : Eref17_Log)))))))))))))))

def F_ref17_Log_Set (l : Eref17_Log) (i : Int) (e : EEntry) : Option (Int × Eref17_Log) := if ((decide (i < 0)) || (decide (i > (l.l.length : Int)))) = true then (some (1, l)) else ((F_ref08_Check e).bind fun c => (if (c != 0) = true then (some (c, l)) else (if (decide (i ≥ 100)) = true then (some (6, l)) else (iter (F_ref17_Log_Set_l1 l i e) FU 0))))

set_option maxHeartbeats 1000000 in
theorem c_ref17_Log_Set {I D : Dm} {b_l : Nat} {l : Eref17_Log} {i : Int} {e : EEntry} {v1_e : Value} {w : World} {rr : Int × Eref17_Log} (hF : F_ref17_Log_Set l i e = some rr) (H : St I D w [OEref17_Log b_l l, SlC NEOp v1_e e.batch.ops]) :
  Calls Try.prog 50 #[.pointer (some ⟨b_l, 0, none⟩), .int .i64 i, .agg #[.int .i64 e.batch.client, .int .i64 e.batch.req, v1_e, .int .u64 e.ts]] w (Ret fun vv w' => vv = .int .i64 rr.1 ∧ ∃ I', Hf I D w I' w' [OEref17_Log b_l rr.2]) := by
 replace H := H.hf
 unfold F_ref17_Log_Set at hF
 refine f_enter 145 Try.func50 rfl rfl (Nat.le_of_ble_eq_true rfl) fun a Z => ?_
 replace Z := Z.sub (ts := [0, 1, 2]) rfl
 refine wp_seq (f_region Z ?_); clear Z; intro Z
 refine h_boxv Z H (cl := [.int .i64 e.batch.client, .int .i64 e.batch.req, v1_e, .int .u64 e.ts]) rfl rfl rfl (by decide) rfl rfl rfl ?_; clear Z a H; intro a w1 b1 H Z
 refine s_runk tAd2 Z 1 rfl rfl ?_; clear Z a; intro a Z
 refine s_end Z [0, 1, 5, 6] rfl ?_; clear Z; intro Z
 refine p_then (wp_seq ?_)
 refine wp_seq (f_region Z ?_); clear Z; intro Z
 refine s_runk tAd2 Z 3 rfl rfl ?_; clear Z a; intro a Z
 refine g_ob Z (p := (!(decide (i < 0)))) (v := .int .i64 i) (S' := [(1, .int .i64 i)]) rfl rfl rfl (wantB_f _) rfl (by decide) (fun hp hS => hS.sub (ts := [1]) rfl) (fun hp => Ob_c tAd2 rfl) ?_; clear Z a; intro a Z
 refine g_ob Z (p := (!(decide (i < 0)))) (v := .pointer (some ⟨b_l, 0, none⟩)) (S' := [(0, .pointer (some ⟨b_l, 0, none⟩))]) rfl rfl rfl (wantB_f _) rfl (by decide) (fun hp hS => hS.sub (ts := [0]) rfl) (fun hp => Ob_c tAd2 rfl) ?_; clear Z a; intro a Z
 refine g_ob Z (p := (!(decide (i < 0)))) (v := .pointer (some ⟨b_l, 0, none⟩)) (S' := [(15, .pointer (some ⟨b_l, 0, none⟩))]) rfl rfl rfl (wantB_f _) rfl (by decide) (fun hp hS => (hS.conv (t := 15) rfl (cond_t hp)).sub (ts := [15]) rfl) (fun hp => Ob_c tAd2 rfl) ?_; clear Z a; intro a Z
 refine g_ob Z (p := (!(decide (i < 0)))) (v := .pointer (some ⟨b_l, 0, none⟩)) (S' := [(16, .pointer (some ⟨b_l, 0, none⟩))]) rfl rfl rfl (wantB_f _) rfl (by decide) (fun hp hS => (hS.conv (t := 16) rfl (cond_t hp)).sub (ts := [16]) rfl) (fun hp => Ob_c tAd2 rfl) ?_; clear Z a; intro a Z
 obtain ⟨v2, H⟩ := H.openX 1 rfl
 replace H : Hf I D w I w1 [BxC b_l 90 [v2], OwC NEEntry 57 v2 l.l, BxC b1 57 (cEEntry e v1_e), SlC NEOp v1_e e.batch.ops] := H
 refine g_ob Z (p := (!(decide (i < 0)))) (v := v2) (S' := [(17, .pointer (some ⟨b_l, 0, none⟩))]) rfl rfl rfl (wantB_f _) rfl (by decide) (fun hp hS => (hS.conv (t := 17) rfl (cond_t hp)).sub (ts := [17]) rfl) (fun hp => Ob_load tAd2 rfl rfl rfl ((H.bx 0 rfl).cell 0 rfl)) ?_; clear Z a; intro a Z
 refine g_ob Z (p := (!(decide (i < 0)))) (v := .int .i64 (l.l.length : Int)) (S' := [(18, v2)]) rfl rfl rfl (wantB_f _) rfl (by decide) (fun hp hS => (hS.conv (t := 18) rfl (cond_t hp)).sub (ts := [18]) rfl) (fun hp => Ob_slen tAd2 rfl rfl rfl (H.owshape 1 rfl)) ?_; clear Z a; intro a Z
 refine g_ob Z (p := (!(decide (i < 0)))) (v := .bool (decide (i > (l.l.length : Int)))) (S' := [(14, .int .i64 i), (19, .int .i64 (l.l.length : Int))]) rfl rfl rfl (wantB_f _) rfl (by decide) (fun hp hS => ((hS.conv (t := 14) rfl (cond_t hp)).conv (t := 19) rfl (cond_t hp)).sub (ts := [14, 19]) rfl) (fun hp => Ob_c tAd2 rfl) ?_; clear Z a; intro a Z
 refine s_ob Z (v := .bool ((decide (i < 0)) || (decide (i > (l.l.length : Int))))) rfl rfl (by decide) rfl (Ob_pick rfl rfl rfl rfl (pick_or _ _)) ?_; clear Z a; intro a Z
 refine s_end Z [0, 1, 5, 6, 21] rfl ?_; clear Z; intro Z
 refine p_then ?_
 refine f_cond Z rfl (fun hc1 => ?_) (fun hc1 => ?_)
 ·replace hF := ite_t hc1 hF
  refine wp_seq (f_region Z ?_); clear Z; intro Z
  refine s_runk tAd2 Z 1 rfl rfl ?_; clear Z a; intro a Z
  refine s_end Z [0, 1, 5, 6] rfl ?_; clear Z; intro Z
  refine p_then (wp_ret ?_)
  refine p_then_r ?_
  replace H : Hf I D w I w1 [OEref17_Log b_l l, BxC b1 57 (cEEntry e v1_e), SlC NEOp v1_e e.batch.ops] := H.shutX (v2) [(0, false), (0, false)] rfl
  obtain rfl := some_in hF
  exact f_ret Z (run_results1 rfl Z rfl) ⟨rfl, I, (H.sub [(0, false)] rfl).eq rfl⟩
 ·replace hF := ite_f hc1 hF
  refine wp_skip ?_
  refine p_then (wp_seq ?_)
  refine wp_seq ?_
  obtain ⟨c, hx1, hF⟩ := bnd_in hF
  refine f_region Z ?_; clear Z; intro Z
  refine s_ob Z (v := .agg #[.int .i64 e.batch.client, .int .i64 e.batch.req, v1_e, .int .u64 e.ts]) rfl rfl (by decide) rfl (Ob_loads tAd2 rfl rfl rfl ((H.bx 2 rfl).part 0 rfl)) ?_; clear Z a; intro a Z
  refine h_call Z H (js := [(3, true)]) rfl (caps := #[]) fn_28_YAd2 rfl rfl rfl rfl rfl (by decide) rfl rfl (fun D1 hS => have hq := c_ref08_Check hx1 hS; hq) ?_; clear Z a; intro vv a w2 D2 hr hF2 Z
  obtain ⟨rfl, I1, K⟩ := hr
  have H : Hf I D w I1 w2 [BxC b_l 90 [v2], OwC NEEntry 57 v2 l.l, BxC b1 57 (cEEntry e v1_e), SlC NEOp v1_e e.batch.ops] := hF2 K
  clear hF2 K
  refine s_runk tAd2 Z 1 rfl rfl ?_; clear Z a; intro a Z
  refine s_end Z [0, 1, 5, 6, 7] rfl ?_; clear Z; intro Z
  refine p_then (wp_seq (f_region Z ?_)); clear Z; intro Z
  refine s_runk tAd2 Z 2 rfl rfl ?_; clear Z a; intro a Z
  refine s_end Z [0, 1, 5, 6, 7, 25] rfl ?_; clear Z; intro Z
  refine p_then ?_
  refine f_cond Z rfl (fun hc2 => ?_) (fun hc2 => ?_)
  ·replace hF := ite_t hc2 hF
   refine wp_seq (f_region Z ?_); clear Z; intro Z
   refine s_runk tAd2 Z 2 rfl rfl ?_; clear Z a; intro a Z
   refine s_end Z [0, 1, 5, 6] rfl ?_; clear Z; intro Z
   refine p_then (wp_ret ?_)
   refine p_then_r ?_
   replace H : Hf I D w I1 w2 [OEref17_Log b_l l, BxC b1 57 (cEEntry e v1_e), SlC NEOp v1_e e.batch.ops] := H.shutX (v2) [(0, false), (0, false)] rfl
   obtain rfl := some_in hF
   exact f_ret Z (run_results1 rfl Z rfl) ⟨rfl, I1, (H.sub [(0, false)] rfl).eq rfl⟩
  ·replace hF := ite_f hc2 hF
   refine wp_skip ?_
   refine p_then (wp_seq ?_)
   refine wp_seq (f_region Z ?_); clear Z; intro Z
   refine s_runk tAd2 Z 2 rfl rfl ?_; clear Z a; intro a Z
   refine s_end Z [0, 1, 5, 6, 28] rfl ?_; clear Z; intro Z
   refine p_then ?_
   refine f_cond Z rfl (fun hc3 => ?_) (fun hc3 => ?_)
   ·replace hF := ite_t hc3 hF
    refine wp_seq (f_region Z ?_); clear Z; intro Z
    refine s_runk tAd2 Z 1 rfl rfl ?_; clear Z a; intro a Z
    refine s_end Z [0, 1, 5, 6] rfl ?_; clear Z; intro Z
    refine p_then (wp_ret ?_)
    refine p_then_r ?_
    replace H : Hf I D w I1 w2 [OEref17_Log b_l l, BxC b1 57 (cEEntry e v1_e), SlC NEOp v1_e e.batch.ops] := H.shutX (v2) [(0, false), (0, false)] rfl
    obtain rfl := some_in hF
    exact f_ret Z (run_results1 rfl Z rfl) ⟨rfl, I1, (H.sub [(0, false)] rfl).eq rfl⟩
   ·replace hF := ite_f hc3 hF
    refine wp_skip ?_
    refine p_then (wp_seq ?_)
    refine wp_seq (f_region Z ?_); clear Z; intro Z
    refine s_runk tAd2 Z 1 rfl rfl ?_; clear Z a; intro a Z
    refine s_end Z [0, 1, 5, 6, 8] rfl ?_; clear Z; intro Z
    refine p_then (wp_block ?_)
    refine f_iter hF (fun sg a' w' => match sg with | k => Sl 145 [(0, .pointer (some ⟨b_l, 0, none⟩)), (1, .int .i64 i), (5, .pointer (some ⟨b1, 0, none⟩)), (6, .int .i64 0), (8, .int .i64 k)] a' ∧ ∃ I2, Hf I D w I2 w' [BxC b_l 90 [v2], BxC b1 57 (cEEntry e v1_e), OwC NEEntry 57 v2 l.l, SlC NEOp v1_e e.batch.ops]) ⟨Z.sub (ts := [0, 1, 5, 6, 8]) rfl, ⟨I1, (H.sub [(0, false), (1, false), (0, false), (0, true)] rfl).eq rfl⟩⟩ ?_
    clear Z H hF a
    rintro rc k a w3 ⟨Z, I2, H⟩ hF
    unfold F_ref17_Log_Set_l1 at hF
    try dsimp only at hF
    refine wp_seq ?_
    refine wp_seq (f_region Z ?_); clear Z; intro Z
    refine s_runk tAd2 Z 3 rfl rfl ?_; clear Z a; intro a Z
    refine s_end Z [0, 1, 5, 6, 8, 29, 30, 31] rfl ?_; clear Z; intro Z
    refine p_then ?_
    refine f_cond Z rfl (fun hc4 => ?_) (fun hc4 => ?_)
    ·replace hF := ite_t hc4 hF
     refine wp_skip ?_
     refine p_then (wp_seq ?_)
     refine wp_block ?_
     refine wp_seq ?_
     obtain ⟨hg1, hF⟩ := chk_in hF
     obtain ⟨_, ⟨u1, rfl, L1⟩, hat1⟩ := H.owElG 2 rfl (k) (NEEntry.dft _ _)
     replace H : Hf I D w I2 w3 [SlC NEOp u1 (((l.l.getD (k).toNat default).batch).ops), BxC b_l 90 [v2], BxC b1 57 (cEEntry e v1_e), OwC NEEntry 57 v2 l.l, SlC NEOp v1_e e.batch.ops] := H.addsl L1
     obtain ⟨t, hx2, hF⟩ := bnd_in hF
     refine f_quietd (by kernel_rfl) (by kernel_rfl) Z ?_; clear Z; intro Z
     refine q_runk tAd2 Z 3 rfl rfl ?_; clear Z a; intro a Z
     refine q_ob Z (v := v2) rfl rfl (by decide) rfl (fun _ hw => Ob_load tAd2 rfl rfl rfl (((H.blw hw).bx 1 rfl).cell 0 rfl)) ?_; clear Z a; intro a Z
     refine q_runk tAd2 Z 1 rfl rfl ?_; clear Z a; intro a Z
     refine q_ob Z (v := .pointer (some ⟨blkOf v2, oofOf v2 + (k).toNat * 4, none⟩)) rfl rfl (by decide) rfl (fun _ hw => Ob_sidx tAd2 rfl rfl rfl rfl (slPl ((H.blw hw).owA 3 rfl) hg1) hg1) ?_; clear Z a; intro a Z
     refine q_ob Z (v := .agg #[.int .i64 (((l.l.getD (k).toNat default).batch).client), .int .i64 (((l.l.getD (k).toNat default).batch).req), u1, .int .u64 ((l.l.getD (k).toNat default).ts)]) rfl rfl (by decide) rfl (fun _ hw => Ob_loads tAd2 rfl rfl rfl (((hat1 hg1).blw hw).part 0 rfl)) ?_; clear Z a; intro a Z
     refine q_ob Z (v := .agg #[.int .i64 e.batch.client, .int .i64 e.batch.req, v1_e, .int .u64 e.ts]) rfl rfl (by decide) rfl (fun _ hw => Ob_loads tAd2 rfl rfl rfl (((H.blw hw).bx 2 rfl).part 0 rfl)) ?_; clear Z a; intro a Z
     refine q_call Z (caps := #[]) fn_26_YAd2 rfl rfl rfl rfl rfl (by decide) rfl rfl (fun _ hw => (have hq := c_ref08_Twins hx2 (((H.blw hw)).pick0 (js := [(0, true), (4, true)]) rfl rfl); plainC hq)) ?_; clear Z a; intro a Z
     refine q_end Z [0, 1, 5, 6, 8, 29, 30, 31, 34, 35, 36, 37, 38, 39, 40, 41, 42] rfl ?_; clear Z; intro w4 hb Z
     replace H : Hf I D w I2 w4 [SlC NEOp u1 (((l.l.getD (k).toNat default).batch).ops), BxC b_l 90 [v2], BxC b1 57 (cEEntry e v1_e), OwC NEEntry 57 v2 l.l, SlC NEOp v1_e e.batch.ops] := H.blw hb
     clear hb
     refine p_then ?_
     refine f_cond Z rfl (fun hc5 => ?_) (fun hc5 => ?_)
     ·replace hF := ite_t hc5 hF
      refine wp_seq (f_region Z ?_); clear Z; intro Z
      refine s_runk tAd2 Z 1 rfl rfl ?_; clear Z a; intro a Z
      refine s_end Z [0, 1, 5, 6, 8, 29, 30, 31, 34, 35, 36, 37, 38, 39, 40, 41, 42] rfl ?_; clear Z; intro Z
      refine p_then (wp_ret ?_)
      refine p_blk_r ?_
      refine p_then_r ?_
      refine p_then_r ?_
      refine p_blk_r ?_
      refine p_then_r ?_
      replace H : Hf I D w I2 w4 [OEref17_Log b_l l, SlC NEOp u1 (((l.l.getD (k).toNat default).batch).ops), BxC b1 57 (cEEntry e v1_e), SlC NEOp v1_e e.batch.ops] := H.shutX (v2) [(1, false), (2, false)] rfl
      obtain rfl := some_in hF
      exact f_ret Z (run_results1 rfl Z rfl) ⟨rfl, I2, (H.sub [(0, false)] rfl).eq rfl⟩
     ·replace hF := ite_f hc5 hF
      refine wp_skip ?_
      refine p_blk ?_
      refine p_then ?_
      obtain ⟨hg2, hF⟩ := chk_in hF
      refine f_region Z ?_; clear Z; intro Z
      refine s_runk tAd2 Z 1 rfl rfl ?_; clear Z a; intro a Z
      refine s_ob Z (v := .int .i64 (k + 1)) rfl rfl (by decide) rfl (Ob_add rfl rfl rfl (wrI hg2)) ?_; clear Z a; intro a Z
      refine s_runk tAd2 Z 1 rfl rfl ?_; clear Z a; intro a Z
      refine s_end Z [0, 1, 5, 6, 8, 29, 30, 31, 34, 35, 36, 37, 38, 39, 40, 41, 42, 32, 33] rfl ?_; clear Z; intro Z
      refine p_then ?_
      exact ⟨(k + 1), ⟨Z.sub (ts := [0, 1, 5, 6, 8]) rfl, ⟨I2, (H.sub [(1, false), (1, false), (1, false), (1, true)] rfl).eq rfl⟩⟩, hF⟩
    ·replace hF := ite_f hc4 hF
     refine wp_exit ?_
     refine p_then_x ?_
     refine p_then_x ?_
     refine f_exit_here ?_
     refine p_then (wp_seq ?_)
     refine wp_seq ?_
     obtain ⟨hg3, hF⟩ := chk_in hF
     obtain ⟨hg4, hF⟩ := chk_in hF
     obtain ⟨_, ⟨u2, rfl, L2⟩, hat2⟩ := H.owElG 2 rfl (i - 1) (NEEntry.dft _ _)
     replace H : Hf I D w I2 w3 [SlC NEOp u2 (((l.l.getD (i - 1).toNat default).batch).ops), BxC b_l 90 [v2], BxC b1 57 (cEEntry e v1_e), OwC NEEntry 57 v2 l.l, SlC NEOp v1_e e.batch.ops] := H.addsl L2
     obtain ⟨hg5, hF⟩ := chk_in hF
     obtain ⟨hg6, hF⟩ := chk_in hF
     obtain ⟨_, ⟨u3, rfl, L3⟩, hat3⟩ := H.owElG 3 rfl (i - 1) (NEEntry.dft _ _)
     replace H : Hf I D w I2 w3 [SlC NEOp u3 (((l.l.getD (i - 1).toNat default).batch).ops), SlC NEOp u2 (((l.l.getD (i - 1).toNat default).batch).ops), BxC b_l 90 [v2], BxC b1 57 (cEEntry e v1_e), OwC NEEntry 57 v2 l.l, SlC NEOp v1_e e.batch.ops] := H.addsl L3
     refine f_quietd (by kernel_rfl) (by kernel_rfl) Z ?_; clear Z; intro Z
     refine q_runk tAd2 Z 1 rfl rfl ?_; clear Z a; intro a Z
     refine q_ob Z (v := .int .u64 e.ts) rfl rfl (by decide) rfl (fun _ hw => Ob_load tAd2 rfl rfl rfl (((H.blw hw).bx 3 rfl).cell 3 rfl)) ?_; clear Z a; intro a Z
     refine q_runk tAd2 Z 2 rfl rfl ?_; clear Z a; intro a Z
     refine gq_ob Z (p := (e.ts != 0)) (v := .int .i64 i) (S' := [(1, .int .i64 i)]) rfl rfl rfl (wantB_t _) rfl (by decide) (fun hp hS => hS.sub (ts := [1]) rfl) (fun hp _ hw => Ob_c tAd2 rfl) ?_; clear Z a; intro a Z
     refine gq_ob Z (p := (e.ts != 0)) (v := .bool (decide (i > 0))) (S' := [(47, .int .i64 i)]) rfl rfl rfl (wantB_t _) rfl (by decide) (fun hp hS => (hS.conv (t := 47) rfl (cond_t hp)).sub (ts := [47]) rfl) (fun hp _ hw => Ob_c tAd2 rfl) ?_; clear Z a; intro a Z
     refine q_ob Z (v := .bool ((e.ts != 0) && (decide (i > 0)))) rfl rfl (by decide) rfl (fun _ hw => Ob_pick rfl rfl rfl rfl (pick_and _ _)) ?_; clear Z a; intro a Z
     refine q_runk tAd2 Z 1 rfl rfl ?_; clear Z a; intro a Z
     refine gq_ob Z (p := ((e.ts != 0) && (decide (i > 0)))) (v := .pointer (some ⟨b_l, 0, none⟩)) (S' := [(0, .pointer (some ⟨b_l, 0, none⟩))]) rfl rfl rfl (wantB_t _) rfl (by decide) (fun hp hS => hS.sub (ts := [0]) rfl) (fun hp _ hw => Ob_c tAd2 rfl) ?_; clear Z a; intro a Z
     refine gq_ob Z (p := ((e.ts != 0) && (decide (i > 0)))) (v := .pointer (some ⟨b_l, 0, none⟩)) (S' := [(51, .pointer (some ⟨b_l, 0, none⟩))]) rfl rfl rfl (wantB_t _) rfl (by decide) (fun hp hS => (hS.conv (t := 51) rfl (cond_t hp)).sub (ts := [51]) rfl) (fun hp _ hw => Ob_c tAd2 rfl) ?_; clear Z a; intro a Z
     refine gq_ob Z (p := ((e.ts != 0) && (decide (i > 0)))) (v := .pointer (some ⟨b_l, 0, none⟩)) (S' := [(52, .pointer (some ⟨b_l, 0, none⟩))]) rfl rfl rfl (wantB_t _) rfl (by decide) (fun hp hS => (hS.conv (t := 52) rfl (cond_t hp)).sub (ts := [52]) rfl) (fun hp _ hw => Ob_c tAd2 rfl) ?_; clear Z a; intro a Z
     refine gq_ob Z (p := ((e.ts != 0) && (decide (i > 0)))) (v := v2) (S' := [(53, .pointer (some ⟨b_l, 0, none⟩))]) rfl rfl rfl (wantB_t _) rfl (by decide) (fun hp hS => (hS.conv (t := 53) rfl (cond_t hp)).sub (ts := [53]) rfl) (fun hp _ hw => Ob_load tAd2 rfl rfl rfl (((H.blw hw).bx 2 rfl).cell 0 rfl)) ?_; clear Z a; intro a Z
     refine gq_ob Z (p := ((e.ts != 0) && (decide (i > 0)))) (v := .int .i64 i) (S' := [(1, .int .i64 i)]) rfl rfl rfl (wantB_t _) rfl (by decide) (fun hp hS => hS.sub (ts := [1]) rfl) (fun hp _ hw => Ob_c tAd2 rfl) ?_; clear Z a; intro a Z
     refine gq_ob Z (p := ((e.ts != 0) && (decide (i > 0)))) (v := .int .i64 (i - 1)) (S' := [(55, .int .i64 i)]) rfl rfl rfl (wantB_t _) rfl (by decide) (fun hp hS => (hS.conv (t := 55) rfl (cond_t hp)).sub (ts := [55]) rfl) (fun hp _ hw => Ob_sub rfl rfl rfl (wrI (hg3 hp))) ?_; clear Z a; intro a Z
     refine gq_ob Z (p := ((e.ts != 0) && (decide (i > 0)))) (v := .pointer (some ⟨blkOf v2, oofOf v2 + (i - 1).toNat * 4, none⟩)) (S' := [(54, v2), (56, .int .i64 (i - 1))]) rfl rfl rfl (wantB_t _) rfl (by decide) (fun hp hS => ((hS.conv (t := 54) rfl (cond_t hp)).conv (t := 56) rfl (cond_t hp)).sub (ts := [54, 56]) rfl) (fun hp _ hw => Ob_sidx tAd2 rfl rfl rfl rfl (slPl ((H.blw hw).owA 4 rfl) (hg4 hp)) (hg4 hp)) ?_; clear Z a; intro a Z
     refine gq_ob Z (p := ((e.ts != 0) && (decide (i > 0)))) (v := .pointer (some ⟨blkOf v2, oofOf v2 + (i - 1).toNat * 4 + 3, none⟩)) (S' := [(57, .pointer (some ⟨blkOf v2, oofOf v2 + (i - 1).toNat * 4, none⟩))]) rfl rfl rfl (wantB_t _) rfl (by decide) (fun hp hS => (hS.conv (t := 57) rfl (cond_t hp)).sub (ts := [57]) rfl) (fun hp _ hw => Ob_c tAd2 rfl) ?_; clear Z a; intro a Z
     refine gq_ob Z (p := ((e.ts != 0) && (decide (i > 0)))) (v := .int .u64 ((l.l.getD (i - 1).toNat default).ts)) (S' := [(58, .pointer (some ⟨blkOf v2, oofOf v2 + (i - 1).toNat * 4 + 3, none⟩))]) rfl rfl rfl (wantB_t _) rfl (by decide) (fun hp hS => (hS.conv (t := 58) rfl (cond_t hp)).sub (ts := [58]) rfl) (fun hp _ hw => Ob_load tAd2 rfl rfl rfl (((hat2 (hg4 hp)).blw hw) 3 _ rfl)) ?_; clear Z a; intro a Z
     refine gq_ob Z (p := ((e.ts != 0) && (decide (i > 0)))) (v := .bool (((l.l.getD (i - 1).toNat default).ts) == 0)) (S' := [(59, .int .u64 ((l.l.getD (i - 1).toNat default).ts))]) rfl rfl rfl (wantB_t _) rfl (by decide) (fun hp hS => (hS.conv (t := 59) rfl (cond_t hp)).sub (ts := [59]) rfl) (fun hp _ hw => Ob_c tAd2 rfl) ?_; clear Z a; intro a Z
     refine gq_ob Z (p := ((e.ts != 0) && (decide (i > 0)))) (v := .bool (((l.l.getD (i - 1).toNat default).ts) == 0)) (S' := [(60, .bool (((l.l.getD (i - 1).toNat default).ts) == 0))]) rfl rfl rfl (wantB_t _) rfl (by decide) (fun hp hS => (hS.conv (t := 60) rfl (cond_t hp)).sub (ts := [60]) rfl) (fun hp _ hw => Ob_c tAd2 rfl) ?_; clear Z a; intro a Z
     refine gq_ob Z (p := (((e.ts != 0) && (decide (i > 0))) && (!(((l.l.getD (i - 1).toNat default).ts) == 0)))) (v := .pointer (some ⟨b_l, 0, none⟩)) (S' := [(0, .pointer (some ⟨b_l, 0, none⟩))]) rfl rfl rfl (wantB_cf _ _) rfl (by decide) (fun hp hS => hS.sub (ts := [0]) rfl) (fun hp _ hw => Ob_c tAd2 rfl) ?_; clear Z a; intro a Z
     refine gq_ob Z (p := (((e.ts != 0) && (decide (i > 0))) && (!(((l.l.getD (i - 1).toNat default).ts) == 0)))) (v := .pointer (some ⟨b_l, 0, none⟩)) (S' := [(62, .pointer (some ⟨b_l, 0, none⟩))]) rfl rfl rfl (wantB_cf _ _) rfl (by decide) (fun hp hS => (hS.conv (t := 62) rfl (cond_t hp)).sub (ts := [62]) rfl) (fun hp _ hw => Ob_c tAd2 rfl) ?_; clear Z a; intro a Z
     refine gq_ob Z (p := (((e.ts != 0) && (decide (i > 0))) && (!(((l.l.getD (i - 1).toNat default).ts) == 0)))) (v := .pointer (some ⟨b_l, 0, none⟩)) (S' := [(63, .pointer (some ⟨b_l, 0, none⟩))]) rfl rfl rfl (wantB_cf _ _) rfl (by decide) (fun hp hS => (hS.conv (t := 63) rfl (cond_t hp)).sub (ts := [63]) rfl) (fun hp _ hw => Ob_c tAd2 rfl) ?_; clear Z a; intro a Z
     refine gq_ob Z (p := (((e.ts != 0) && (decide (i > 0))) && (!(((l.l.getD (i - 1).toNat default).ts) == 0)))) (v := v2) (S' := [(64, .pointer (some ⟨b_l, 0, none⟩))]) rfl rfl rfl (wantB_cf _ _) rfl (by decide) (fun hp hS => (hS.conv (t := 64) rfl (cond_t hp)).sub (ts := [64]) rfl) (fun hp _ hw => Ob_load tAd2 rfl rfl rfl (((H.blw hw).bx 2 rfl).cell 0 rfl)) ?_; clear Z a; intro a Z
     refine gq_ob Z (p := (((e.ts != 0) && (decide (i > 0))) && (!(((l.l.getD (i - 1).toNat default).ts) == 0)))) (v := .int .i64 i) (S' := [(1, .int .i64 i)]) rfl rfl rfl (wantB_cf _ _) rfl (by decide) (fun hp hS => hS.sub (ts := [1]) rfl) (fun hp _ hw => Ob_c tAd2 rfl) ?_; clear Z a; intro a Z
     refine gq_ob Z (p := (((e.ts != 0) && (decide (i > 0))) && (!(((l.l.getD (i - 1).toNat default).ts) == 0)))) (v := .int .i64 (i - 1)) (S' := [(66, .int .i64 i)]) rfl rfl rfl (wantB_cf _ _) rfl (by decide) (fun hp hS => (hS.conv (t := 66) rfl (cond_t hp)).sub (ts := [66]) rfl) (fun hp _ hw => Ob_sub rfl rfl rfl (wrI (hg5 hp))) ?_; clear Z a; intro a Z
     refine gq_ob Z (p := (((e.ts != 0) && (decide (i > 0))) && (!(((l.l.getD (i - 1).toNat default).ts) == 0)))) (v := .pointer (some ⟨blkOf v2, oofOf v2 + (i - 1).toNat * 4, none⟩)) (S' := [(65, v2), (67, .int .i64 (i - 1))]) rfl rfl rfl (wantB_cf _ _) rfl (by decide) (fun hp hS => ((hS.conv (t := 65) rfl (cond_t hp)).conv (t := 67) rfl (cond_t hp)).sub (ts := [65, 67]) rfl) (fun hp _ hw => Ob_sidx tAd2 rfl rfl rfl rfl (slPl ((H.blw hw).owA 4 rfl) (hg6 hp)) (hg6 hp)) ?_; clear Z a; intro a Z
     refine gq_ob Z (p := (((e.ts != 0) && (decide (i > 0))) && (!(((l.l.getD (i - 1).toNat default).ts) == 0)))) (v := .pointer (some ⟨blkOf v2, oofOf v2 + (i - 1).toNat * 4 + 3, none⟩)) (S' := [(68, .pointer (some ⟨blkOf v2, oofOf v2 + (i - 1).toNat * 4, none⟩))]) rfl rfl rfl (wantB_cf _ _) rfl (by decide) (fun hp hS => (hS.conv (t := 68) rfl (cond_t hp)).sub (ts := [68]) rfl) (fun hp _ hw => Ob_c tAd2 rfl) ?_; clear Z a; intro a Z
     refine gq_ob Z (p := (((e.ts != 0) && (decide (i > 0))) && (!(((l.l.getD (i - 1).toNat default).ts) == 0)))) (v := .int .u64 ((l.l.getD (i - 1).toNat default).ts)) (S' := [(69, .pointer (some ⟨blkOf v2, oofOf v2 + (i - 1).toNat * 4 + 3, none⟩))]) rfl rfl rfl (wantB_cf _ _) rfl (by decide) (fun hp hS => (hS.conv (t := 69) rfl (cond_t hp)).sub (ts := [69]) rfl) (fun hp _ hw => Ob_load tAd2 rfl rfl rfl (((hat3 (hg6 hp)).blw hw) 3 _ rfl)) ?_; clear Z a; intro a Z
     refine gq_ob Z (p := (((e.ts != 0) && (decide (i > 0))) && (!(((l.l.getD (i - 1).toNat default).ts) == 0)))) (v := .pointer (some ⟨b1, 3, none⟩)) (S' := [(5, .pointer (some ⟨b1, 0, none⟩))]) rfl rfl rfl (wantB_cf _ _) rfl (by decide) (fun hp hS => hS.sub (ts := [5]) rfl) (fun hp _ hw => Ob_c tAd2 rfl) ?_; clear Z a; intro a Z
     refine gq_ob Z (p := (((e.ts != 0) && (decide (i > 0))) && (!(((l.l.getD (i - 1).toNat default).ts) == 0)))) (v := .int .u64 e.ts) (S' := [(71, .pointer (some ⟨b1, 3, none⟩))]) rfl rfl rfl (wantB_cf _ _) rfl (by decide) (fun hp hS => (hS.conv (t := 71) rfl (cond_t hp)).sub (ts := [71]) rfl) (fun hp _ hw => Ob_load tAd2 rfl rfl rfl (((H.blw hw).bx 3 rfl).cell 3 rfl)) ?_; clear Z a; intro a Z
     refine gq_ob Z (p := (((e.ts != 0) && (decide (i > 0))) && (!(((l.l.getD (i - 1).toNat default).ts) == 0)))) (v := .bool (decide ((l.l.getD (i - 1).toNat default).ts ≥ e.ts))) (S' := [(70, .int .u64 ((l.l.getD (i - 1).toNat default).ts)), (72, .int .u64 e.ts)]) rfl rfl rfl (wantB_cf _ _) rfl (by decide) (fun hp hS => ((hS.conv (t := 70) rfl (cond_t hp)).conv (t := 72) rfl (cond_t hp)).sub (ts := [70, 72]) rfl) (fun hp _ hw => Ob_c tAd2 rfl) ?_; clear Z a; intro a Z
     refine gq_ob Z (p := ((e.ts != 0) && (decide (i > 0)))) (v := .bool ((((l.l.getD (i - 1).toNat default).ts) == 0) || (decide ((l.l.getD (i - 1).toNat default).ts ≥ e.ts)))) (S' := [(61, .bool (((l.l.getD (i - 1).toNat default).ts) == 0)), (73, cond (((e.ts != 0) && (decide (i > 0))) && (!(((l.l.getD (i - 1).toNat default).ts) == 0))) (.bool (decide ((l.l.getD (i - 1).toNat default).ts ≥ e.ts))) undef)]) rfl rfl rfl (wantB_t _) rfl (by decide) (fun hp hS => (hS.conv (t := 61) rfl (cond_t hp)).sub (ts := [61, 73]) rfl) (fun hp _ hw => Ob_pick rfl rfl rfl rfl (pick_orp _ _ hp)) ?_; clear Z a; intro a Z
     refine q_ob Z (v := .bool (((e.ts != 0) && (decide (i > 0))) && ((((l.l.getD (i - 1).toNat default).ts) == 0) || (decide ((l.l.getD (i - 1).toNat default).ts ≥ e.ts))))) rfl rfl (by decide) rfl (fun _ hw => Ob_pick rfl rfl rfl rfl (pick_and _ _)) ?_; clear Z a; intro a Z
     refine q_end Z [0, 1, 5, 6, 75] rfl ?_; clear Z; intro w5 hb Z
     replace H : Hf I D w I2 w5 [SlC NEOp u3 (((l.l.getD (i - 1).toNat default).batch).ops), SlC NEOp u2 (((l.l.getD (i - 1).toNat default).batch).ops), BxC b_l 90 [v2], BxC b1 57 (cEEntry e v1_e), OwC NEEntry 57 v2 l.l, SlC NEOp v1_e e.batch.ops] := H.blw hb
     clear hb
     refine p_then ?_
     refine f_cond Z rfl (fun hc6 => ?_) (fun hc6 => ?_)
     ·replace hF := ite_t hc6 hF
      refine wp_seq (f_region Z ?_); clear Z; intro Z
      refine s_runk tAd2 Z 1 rfl rfl ?_; clear Z a; intro a Z
      refine s_end Z [0, 1, 5, 6] rfl ?_; clear Z; intro Z
      refine p_then (wp_ret ?_)
      refine p_then_r ?_
      replace H : Hf I D w I2 w5 [OEref17_Log b_l l, SlC NEOp u3 (((l.l.getD (i - 1).toNat default).batch).ops), SlC NEOp u2 (((l.l.getD (i - 1).toNat default).batch).ops), BxC b1 57 (cEEntry e v1_e), SlC NEOp v1_e e.batch.ops] := H.shutX (v2) [(2, false), (3, false)] rfl
      obtain rfl := some_in hF
      exact f_ret Z (run_results1 rfl Z rfl) ⟨rfl, I2, (H.sub [(0, false)] rfl).eq rfl⟩
     ·replace hF := ite_f hc6 hF
      refine wp_skip ?_
      refine p_then (wp_seq ?_)
      refine wp_seq ?_
      obtain ⟨hg7, hF⟩ := chk_in hF
      obtain ⟨_, ⟨u4, rfl, L4⟩, hat4⟩ := H.owElG 4 rfl (i) (NEEntry.dft _ _)
      replace H : Hf I D w I2 w5 [SlC NEOp u4 (((l.l.getD (i).toNat default).batch).ops), SlC NEOp u3 (((l.l.getD (i - 1).toNat default).batch).ops), SlC NEOp u2 (((l.l.getD (i - 1).toNat default).batch).ops), BxC b_l 90 [v2], BxC b1 57 (cEEntry e v1_e), OwC NEEntry 57 v2 l.l, SlC NEOp v1_e e.batch.ops] := H.addsl L4
      obtain ⟨t_2, hx3, hF⟩ := bnd_in hF
      refine f_quietd (by kernel_rfl) (by kernel_rfl) Z ?_; clear Z; intro Z
      refine q_runk tAd2 Z 4 rfl rfl ?_; clear Z a; intro a Z
      refine q_ob Z (v := v2) rfl rfl (by decide) rfl (fun _ hw => Ob_load tAd2 rfl rfl rfl (((H.blw hw).bx 3 rfl).cell 0 rfl)) ?_; clear Z a; intro a Z
      refine q_ob Z (v := .int .i64 (l.l.length : Int)) rfl rfl (by decide) rfl (fun _ hw => Ob_slen tAd2 rfl rfl rfl ((H.blw hw).owshape 5 rfl)) ?_; clear Z a; intro a Z
      refine q_runk tAd2 Z 2 rfl rfl ?_; clear Z a; intro a Z
      refine gq_ob Z (p := (decide (i < (l.l.length : Int)))) (v := .pointer (some ⟨b_l, 0, none⟩)) (S' := [(0, .pointer (some ⟨b_l, 0, none⟩))]) rfl rfl rfl (wantB_t _) rfl (by decide) (fun hp hS => hS.sub (ts := [0]) rfl) (fun hp _ hw => Ob_c tAd2 rfl) ?_; clear Z a; intro a Z
      refine gq_ob Z (p := (decide (i < (l.l.length : Int)))) (v := .pointer (some ⟨b_l, 0, none⟩)) (S' := [(84, .pointer (some ⟨b_l, 0, none⟩))]) rfl rfl rfl (wantB_t _) rfl (by decide) (fun hp hS => (hS.conv (t := 84) rfl (cond_t hp)).sub (ts := [84]) rfl) (fun hp _ hw => Ob_c tAd2 rfl) ?_; clear Z a; intro a Z
      refine gq_ob Z (p := (decide (i < (l.l.length : Int)))) (v := .pointer (some ⟨b_l, 0, none⟩)) (S' := [(85, .pointer (some ⟨b_l, 0, none⟩))]) rfl rfl rfl (wantB_t _) rfl (by decide) (fun hp hS => (hS.conv (t := 85) rfl (cond_t hp)).sub (ts := [85]) rfl) (fun hp _ hw => Ob_c tAd2 rfl) ?_; clear Z a; intro a Z
      refine gq_ob Z (p := (decide (i < (l.l.length : Int)))) (v := v2) (S' := [(86, .pointer (some ⟨b_l, 0, none⟩))]) rfl rfl rfl (wantB_t _) rfl (by decide) (fun hp hS => (hS.conv (t := 86) rfl (cond_t hp)).sub (ts := [86]) rfl) (fun hp _ hw => Ob_load tAd2 rfl rfl rfl (((H.blw hw).bx 3 rfl).cell 0 rfl)) ?_; clear Z a; intro a Z
      refine gq_ob Z (p := (decide (i < (l.l.length : Int)))) (v := .int .i64 i) (S' := [(1, .int .i64 i)]) rfl rfl rfl (wantB_t _) rfl (by decide) (fun hp hS => hS.sub (ts := [1]) rfl) (fun hp _ hw => Ob_c tAd2 rfl) ?_; clear Z a; intro a Z
      refine gq_ob Z (p := (decide (i < (l.l.length : Int)))) (v := .pointer (some ⟨blkOf v2, oofOf v2 + (i).toNat * 4, none⟩)) (S' := [(87, v2), (88, .int .i64 i)]) rfl rfl rfl (wantB_t _) rfl (by decide) (fun hp hS => ((hS.conv (t := 87) rfl (cond_t hp)).conv (t := 88) rfl (cond_t hp)).sub (ts := [87, 88]) rfl) (fun hp _ hw => Ob_sidx tAd2 rfl rfl rfl rfl (slPl ((H.blw hw).owA 5 rfl) (hg7 hp)) (hg7 hp)) ?_; clear Z a; intro a Z
      refine gq_ob Z (p := (decide (i < (l.l.length : Int)))) (v := .agg #[.int .i64 (((l.l.getD (i).toNat default).batch).client), .int .i64 (((l.l.getD (i).toNat default).batch).req), u4, .int .u64 ((l.l.getD (i).toNat default).ts)]) (S' := [(89, .pointer (some ⟨blkOf v2, oofOf v2 + (i).toNat * 4, none⟩))]) rfl rfl rfl (wantB_t _) rfl (by decide) (fun hp hS => (hS.conv (t := 89) rfl (cond_t hp)).sub (ts := [89]) rfl) (fun hp _ hw => Ob_loads tAd2 rfl rfl rfl (((hat4 (hg7 hp)).blw hw).part 0 rfl)) ?_; clear Z a; intro a Z
      refine gq_ob Z (p := (decide (i < (l.l.length : Int)))) (v := .agg #[.int .i64 e.batch.client, .int .i64 e.batch.req, v1_e, .int .u64 e.ts]) (S' := [(5, .pointer (some ⟨b1, 0, none⟩))]) rfl rfl rfl (wantB_t _) rfl (by decide) (fun hp hS => hS.sub (ts := [5]) rfl) (fun hp _ hw => Ob_loads tAd2 rfl rfl rfl (((H.blw hw).bx 4 rfl).part 0 rfl)) ?_; clear Z a; intro a Z
      refine gq_call Z (p := (decide (i < (l.l.length : Int)))) (v := .bool t_2) (S' := [(90, .agg #[.int .i64 (((l.l.getD (i).toNat default).batch).client), .int .i64 (((l.l.getD (i).toNat default).batch).req), u4, .int .u64 ((l.l.getD (i).toNat default).ts)]), (91, .agg #[.int .i64 e.batch.client, .int .i64 e.batch.req, v1_e, .int .u64 e.ts])]) (caps := #[]) fn_26_YAd2 rfl rfl rfl (wantB_t _) rfl (by decide) (fun hp hS => ((hS.conv (t := 90) rfl (cond_t hp)).conv (t := 91) rfl (cond_t hp)).sub (ts := [90, 91]) rfl) rfl rfl rfl rfl (fun hp _ hw => (have hq := c_ref08_Twins (gif_in hx3 hp) (((H.blw hw)).pick0 (js := [(0, true), (6, true)]) rfl rfl); plainC hq)) ?_; clear Z a; intro a Z
      refine q_ob Z (v := .bool ((decide (i < (l.l.length : Int))) && t_2)) rfl rfl (by decide) rfl (fun _ hw => Ob_pick rfl rfl rfl rfl (pick_and _ _)) ?_; clear Z a; intro a Z
      refine q_end Z [0, 1, 5, 6, 93] rfl ?_; clear Z; intro w6 hb Z
      replace H : Hf I D w I2 w6 [SlC NEOp u4 (((l.l.getD (i).toNat default).batch).ops), SlC NEOp u3 (((l.l.getD (i - 1).toNat default).batch).ops), SlC NEOp u2 (((l.l.getD (i - 1).toNat default).batch).ops), BxC b_l 90 [v2], BxC b1 57 (cEEntry e v1_e), OwC NEEntry 57 v2 l.l, SlC NEOp v1_e e.batch.ops] := H.blw hb
      clear hb
      refine p_then ?_
      refine f_cond Z rfl (fun hc7 => ?_) (fun hc7 => ?_)
      ·replace hF := ite_t hc7 hF
       refine wp_seq ?_
       obtain ⟨c_2, hx4, hF⟩ := bnd_in hF
       refine f_region Z ?_; clear Z; intro Z
       refine s_runk tAd2 Z 3 rfl rfl ?_; clear Z a; intro a Z
       refine s_ob Z (v := v2) rfl rfl (by decide) rfl (Ob_load tAd2 rfl rfl rfl ((H.bx 3 rfl).cell 0 rfl)) ?_; clear Z a; intro a Z
       obtain ⟨I3, _, H⟩ := H.frzow 5 rfl
       replace H : Hf I D w I3 w6 [SlC NEEntry v2 l.l, SlC NEOp u4 (((l.l.getD (i).toNat default).batch).ops), SlC NEOp u3 (((l.l.getD (i - 1).toNat default).batch).ops), SlC NEOp u2 (((l.l.getD (i - 1).toNat default).batch).ops), BxC b_l 90 [v2], BxC b1 57 (cEEntry e v1_e), SlC NEOp v1_e e.batch.ops] := H
       refine h_call Z H (js := [(0, true)]) rfl (caps := #[]) fn_49_YAd2 rfl rfl rfl rfl rfl (by decide) rfl rfl (fun D1 hS => have hq := c_ref17_Copy hx4 hS; hq) ?_; clear Z a; intro vv a w7 D2 hr hF2 Z
       obtain ⟨q1, hvv, I4, K⟩ := hr; obtain rfl := hvv.symm
       have H : Hf I D w I4 w7 [OwC NEEntry 57 q1 c_2, SlC NEEntry v2 l.l, SlC NEOp u4 (((l.l.getD (i).toNat default).batch).ops), SlC NEOp u3 (((l.l.getD (i - 1).toNat default).batch).ops), SlC NEOp u2 (((l.l.getD (i - 1).toNat default).batch).ops), BxC b_l 90 [v2], BxC b1 57 (cEEntry e v1_e), SlC NEOp v1_e e.batch.ops] := hF2 K
       clear hF2 K
       refine s_runk tAd2 Z 1 rfl rfl ?_; clear Z a; intro a Z
       refine s_end Z [0, 1, 5, 6, 9] rfl ?_; clear Z; intro Z
       refine p_then (wp_seq ?_)
       refine wp_seq ?_
       obtain ⟨hg8, hF⟩ := chk_in hF
       refine f_region Z ?_; clear Z; intro Z
       refine s_runk tAd2 Z 1 rfl rfl ?_; clear Z a; intro a Z
       refine s_ob Z (v := .int .i64 (i + 1)) rfl rfl (by decide) rfl (Ob_add rfl rfl rfl (wrI hg8)) ?_; clear Z a; intro a Z
       refine s_runk tAd2 Z 1 rfl rfl ?_; clear Z a; intro a Z
       refine s_end Z [0, 1, 5, 6, 9, 10] rfl ?_; clear Z; intro Z
       refine p_then (wp_block ?_)
       refine f_iter hF (fun sg a' w' => match sg with | (m, k_2) => ∃ v3 : Value, Sl 145 [(0, .pointer (some ⟨b_l, 0, none⟩)), (1, .int .i64 i), (5, .pointer (some ⟨b1, 0, none⟩)), (6, .int .i64 0), (9, v3), (10, .int .i64 k_2)] a' ∧ ∃ I2, Hf I D w I2 w' [BxC b_l 90 [v2], BxC b1 57 (cEEntry e v1_e), SlC NEEntry v2 l.l, SlC NEOp v1_e e.batch.ops, OwC NEEntry 57 v3 m]) ⟨q1, Z.sub (ts := [0, 1, 5, 6, 9, 10]) rfl, ⟨I4, (H.sub [(5, false), (5, false), (1, true), (5, true), (0, false)] rfl).eq rfl⟩⟩ ?_
       clear Z H hF a
       rintro rc_2 ⟨m, k_2⟩ a w8 ⟨v3, Z, I5, H⟩ hF
       unfold F_ref17_Log_Set_l2 at hF
       try dsimp only at hF
       refine wp_seq ?_
       refine wp_seq ?_
       obtain ⟨hg9, hF⟩ := chk_in hF
       obtain ⟨_, ⟨u5, rfl, L5⟩, hat5⟩ := H.owElG 4 rfl (i) (NEEntry.dft _ _)
       replace H : Hf I D w I5 w8 [SlC NEOp u5 (((m.getD (i).toNat default).batch).ops), BxC b_l 90 [v2], BxC b1 57 (cEEntry e v1_e), SlC NEEntry v2 l.l, SlC NEOp v1_e e.batch.ops, OwC NEEntry 57 v3 m] := H.addsl L5
       refine f_quietd (by kernel_rfl) (by kernel_rfl) Z ?_; clear Z; intro Z
       refine q_runk tAd2 Z 2 rfl rfl ?_; clear Z a; intro a Z
       refine q_ob Z (v := .int .i64 (m.length : Int)) rfl rfl (by decide) rfl (fun _ hw => Ob_slen tAd2 rfl rfl rfl ((H.blw hw).owshape 5 rfl)) ?_; clear Z a; intro a Z
       refine q_runk tAd2 Z 2 rfl rfl ?_; clear Z a; intro a Z
       refine gq_ob Z (p := (decide (k_2 < (m.length : Int)))) (v := v3) (S' := [(9, v3)]) rfl rfl rfl (wantB_t _) rfl (by decide) (fun hp hS => hS.sub (ts := [9]) rfl) (fun hp _ hw => Ob_c tAd2 rfl) ?_; clear Z a; intro a Z
       refine gq_ob Z (p := (decide (k_2 < (m.length : Int)))) (v := .int .i64 i) (S' := [(1, .int .i64 i)]) rfl rfl rfl (wantB_t _) rfl (by decide) (fun hp hS => hS.sub (ts := [1]) rfl) (fun hp _ hw => Ob_c tAd2 rfl) ?_; clear Z a; intro a Z
       refine gq_ob Z (p := (decide (k_2 < (m.length : Int)))) (v := .pointer (some ⟨blkOf v3, oofOf v3 + (i).toNat * 4, none⟩)) (S' := [(106, v3), (107, .int .i64 i)]) rfl rfl rfl (wantB_t _) rfl (by decide) (fun hp hS => ((hS.conv (t := 106) rfl (cond_t hp)).conv (t := 107) rfl (cond_t hp)).sub (ts := [106, 107]) rfl) (fun hp _ hw => Ob_sidx tAd2 rfl rfl rfl rfl (slPl ((H.blw hw).owA 5 rfl) (hg9 hp)) (hg9 hp)) ?_; clear Z a; intro a Z
       refine gq_ob Z (p := (decide (k_2 < (m.length : Int)))) (v := .pointer (some ⟨blkOf v3, oofOf v3 + (i).toNat * 4 + 3, none⟩)) (S' := [(108, .pointer (some ⟨blkOf v3, oofOf v3 + (i).toNat * 4, none⟩))]) rfl rfl rfl (wantB_t _) rfl (by decide) (fun hp hS => (hS.conv (t := 108) rfl (cond_t hp)).sub (ts := [108]) rfl) (fun hp _ hw => Ob_c tAd2 rfl) ?_; clear Z a; intro a Z
       refine gq_ob Z (p := (decide (k_2 < (m.length : Int)))) (v := .int .u64 ((m.getD (i).toNat default).ts)) (S' := [(109, .pointer (some ⟨blkOf v3, oofOf v3 + (i).toNat * 4 + 3, none⟩))]) rfl rfl rfl (wantB_t _) rfl (by decide) (fun hp hS => (hS.conv (t := 109) rfl (cond_t hp)).sub (ts := [109]) rfl) (fun hp _ hw => Ob_load tAd2 rfl rfl rfl (((hat5 (hg9 hp)).blw hw) 3 _ rfl)) ?_; clear Z a; intro a Z
       refine gq_ob Z (p := (decide (k_2 < (m.length : Int)))) (v := .pointer (some ⟨b1, 3, none⟩)) (S' := [(5, .pointer (some ⟨b1, 0, none⟩))]) rfl rfl rfl (wantB_t _) rfl (by decide) (fun hp hS => hS.sub (ts := [5]) rfl) (fun hp _ hw => Ob_c tAd2 rfl) ?_; clear Z a; intro a Z
       refine gq_ob Z (p := (decide (k_2 < (m.length : Int)))) (v := .int .u64 e.ts) (S' := [(111, .pointer (some ⟨b1, 3, none⟩))]) rfl rfl rfl (wantB_t _) rfl (by decide) (fun hp hS => (hS.conv (t := 111) rfl (cond_t hp)).sub (ts := [111]) rfl) (fun hp _ hw => Ob_load tAd2 rfl rfl rfl (((H.blw hw).bx 2 rfl).cell 3 rfl)) ?_; clear Z a; intro a Z
       refine gq_ob Z (p := (decide (k_2 < (m.length : Int)))) (v := .bool (((m.getD (i).toNat default).ts) != e.ts)) (S' := [(110, .int .u64 ((m.getD (i).toNat default).ts)), (112, .int .u64 e.ts)]) rfl rfl rfl (wantB_t _) rfl (by decide) (fun hp hS => ((hS.conv (t := 110) rfl (cond_t hp)).conv (t := 112) rfl (cond_t hp)).sub (ts := [110, 112]) rfl) (fun hp _ hw => Ob_c tAd2 rfl) ?_; clear Z a; intro a Z
       refine q_ob Z (v := .bool ((decide (k_2 < (m.length : Int))) && (((m.getD (i).toNat default).ts) != e.ts))) rfl rfl (by decide) rfl (fun _ hw => Ob_pick rfl rfl rfl rfl (pick_and _ _)) ?_; clear Z a; intro a Z
       refine q_end Z [0, 1, 5, 6, 9, 10, 101, 102, 103, 104, 105, 114] rfl ?_; clear Z; intro w9 hb Z
       replace H : Hf I D w I5 w9 [SlC NEOp u5 (((m.getD (i).toNat default).batch).ops), BxC b_l 90 [v2], BxC b1 57 (cEEntry e v1_e), SlC NEEntry v2 l.l, SlC NEOp v1_e e.batch.ops, OwC NEEntry 57 v3 m] := H.blw hb
       clear hb
       refine p_then ?_
       refine f_cond Z rfl (fun hc8 => ?_) (fun hc8 => ?_)
       ·replace hF := ite_t hc8 hF
        refine wp_skip ?_
        refine p_then (wp_seq ?_)
        refine wp_block ?_
        obtain ⟨hg10, hF⟩ := chk_in hF
        refine f_region Z ?_; clear Z; intro Z
        refine s_runk tAd2 Z 2 rfl rfl ?_; clear Z a; intro a Z
        refine s_ob Z (v := .pointer (some ⟨blkOf v3, oofOf v3 + (k_2).toNat * 4, none⟩)) rfl rfl (by decide) rfl (Ob_sidx tAd2 rfl rfl rfl rfl (slPl (H.owA 5 rfl) hg10) hg10) ?_; clear Z a; intro a Z
        refine s_runk tAd2 Z 1 rfl rfl ?_; clear Z a; intro a Z
        refine h_setR tAd2 Z H 5 (z := k_2) (d := default) 3 ({ batch := ({ client := ((m.getD (k_2).toNat default).batch).client, req := ((m.getD (k_2).toNat default).batch).req, ops := ((m.getD (k_2).toNat default).batch).ops } : EBatch), ts := 0 } : EEntry) rfl hg10 rfl rfl rfl 4 rfl rfl rfl rfl rfl (by decide) (fun cl ⟨s0_, e, h0_⟩ => ⟨s0_, by rw [e]; rfl, h0_⟩) ?_; clear H; intro w11 H
        dsimp only [List.eraseIdx] at H
        refine s_end Z [0, 1, 5, 6, 9, 10, 101, 102, 103, 104, 105, 114, 117, 118, 119, 120] rfl ?_; clear Z; intro Z
        refine p_blk ?_
        refine p_then ?_
        obtain ⟨hg11, hF⟩ := chk_in hF
        refine f_region Z ?_; clear Z; intro Z
        refine s_runk tAd2 Z 1 rfl rfl ?_; clear Z a; intro a Z
        refine s_ob Z (v := .int .i64 (k_2 + 1)) rfl rfl (by decide) rfl (Ob_add rfl rfl rfl (wrI hg11)) ?_; clear Z a; intro a Z
        refine s_runk tAd2 Z 1 rfl rfl ?_; clear Z a; intro a Z
        refine s_end Z [0, 1, 5, 6, 9, 10, 101, 102, 103, 104, 105, 114, 117, 118, 119, 120, 115, 116] rfl ?_; clear Z; intro Z
        refine p_then ?_
        exact ⟨(m.set (k_2).toNat ({ batch := ({ client := ((m.getD (k_2).toNat default).batch).client, req := ((m.getD (k_2).toNat default).batch).req, ops := ((m.getD (k_2).toNat default).batch).ops } : EBatch), ts := 0 } : EEntry), k_2 + 1), ⟨v3, Z.sub (ts := [0, 1, 5, 6, 9, 10]) rfl, ⟨I5, (H.sub [(2, false), (2, false), (2, true), (3, true), (0, false)] rfl).eq rfl⟩⟩, hF⟩
       ·replace hF := ite_f hc8 hF
        refine wp_exit ?_
        refine p_then_x ?_
        refine p_then_x ?_
        refine f_exit_here ?_
        refine p_then (wp_seq ?_)
        obtain ⟨hg12, hF⟩ := chk_in hF
        refine f_region Z ?_; clear Z; intro Z
        refine s_runk tAd2 Z 3 rfl rfl ?_; clear Z a; intro a Z
        refine s_ob Z (v := .int .u64 e.ts) rfl rfl (by decide) rfl (Ob_load tAd2 rfl rfl rfl ((H.bx 2 rfl).cell 3 rfl)) ?_; clear Z a; intro a Z
        refine s_ob Z (v := .pointer (some ⟨blkOf v3, oofOf v3 + (i).toNat * 4, none⟩)) rfl rfl (by decide) rfl (Ob_sidx tAd2 rfl rfl rfl rfl (slPl (H.owA 5 rfl) hg12) hg12) ?_; clear Z a; intro a Z
        refine s_runk tAd2 Z 1 rfl rfl ?_; clear Z a; intro a Z
        refine h_setR tAd2 Z H 5 (z := i) (d := default) 3 ({ e with batch := ({ client := ((m.getD (i).toNat default).batch).client, req := ((m.getD (i).toNat default).batch).req, ops := ((m.getD (i).toNat default).batch).ops } : EBatch) } : EEntry) rfl hg12 rfl rfl rfl 4 rfl rfl rfl rfl rfl (by decide) (fun cl ⟨s0_, e, h0_⟩ => ⟨s0_, by rw [e]; rfl, h0_⟩) ?_; clear H; intro w13 H
        dsimp only [List.eraseIdx] at H
        refine s_end Z [0, 1, 5, 6, 9] rfl ?_; clear Z; intro Z
        refine p_then (wp_seq (f_region Z ?_)); clear Z; intro Z
        refine s_runk tAd2 Z 4 rfl rfl ?_; clear Z a; intro a Z
        refine h_store tAd2 Z H 2 rfl rfl rfl rfl rfl rfl (slS.cells (H.owshape 0 rfl)) rfl rfl (one_cons (slS.one (H.owshape 0 rfl)) one_nil) (Nat.le_of_ble_eq_true rfl) rfl ?_; clear H; intro w14 H
        dsimp only [List.eraseIdx] at H
        refine s_end Z [0, 1, 5, 6] rfl ?_; clear Z; intro Z
        refine p_then (wp_seq (f_region Z ?_)); clear Z; intro Z
        refine s_runk tAd2 Z 1 rfl rfl ?_; clear Z a; intro a Z
        refine s_end Z [0, 1, 5, 6] rfl ?_; clear Z; intro Z
        refine p_then (wp_ret ?_)
        refine p_then_r ?_
        replace H : Hf I D w I5 w14 [OEref17_Log b_l ({ l := m.set (i).toNat ({ e with batch := ({ client := ((m.getD (i).toNat default).batch).client, req := ((m.getD (i).toNat default).batch).req, ops := ((m.getD (i).toNat default).batch).ops } : EBatch) } : EEntry) } : Eref17_Log), SlC NEOp u5 (((m.getD (i).toNat default).batch).ops), BxC b1 57 (cEEntry e v1_e), SlC NEEntry v2 l.l, SlC NEOp v1_e e.batch.ops] := H.shutX (v3) [(0, false), (0, false)] rfl
        obtain rfl := some_in hF
        exact f_ret Z (run_results1 rfl Z rfl) ⟨rfl, I5, (H.sub [(0, false)] rfl).eq rfl⟩
      ·replace hF := ite_f hc7 hF
       refine wp_skip ?_
       refine p_then (wp_seq ?_)
       obtain ⟨hg13, hF⟩ := chk_in hF
       obtain ⟨I6, _, H⟩ := H.frzow 5 rfl
       replace H : Hf I D w I6 w6 [SlC NEEntry v2 l.l, SlC NEOp u4 (((l.l.getD (i).toNat default).batch).ops), SlC NEOp u3 (((l.l.getD (i - 1).toNat default).batch).ops), SlC NEOp u2 (((l.l.getD (i - 1).toNat default).batch).ops), BxC b_l 90 [v2], BxC b1 57 (cEEntry e v1_e), SlC NEOp v1_e e.batch.ops] := H
       replace H : Hf I D w I6 w6 [SlC NEEntry (subV v2 0 ((i).toNat) 4) (l.l.take ((i).toNat)), SlC NEEntry v2 l.l, SlC NEOp u4 (((l.l.getD (i).toNat default).batch).ops), SlC NEOp u3 (((l.l.getD (i - 1).toNat default).batch).ops), SlC NEOp u2 (((l.l.getD (i - 1).toNat default).batch).ops), BxC b_l 90 [v2], BxC b1 57 (cEEntry e v1_e), SlC NEOp v1_e e.batch.ops] := H.slPart_to 0 rfl hg13 4 rfl
       obtain ⟨c_3, hx5, hF⟩ := bnd_in hF
       obtain ⟨c_4, hx6, hF⟩ := bnd_in hF
       obtain ⟨hg14, hF⟩ := chk_in hF
       refine f_regionG Z (by kernel_rfl) (by kernel_rfl) (by decide) (by decide) [7, 9, 10, 11, 14] [(0, [0, 1, 2, 3, 7, 15]), (0, [0, 2]), (2, [0, 2]), (6, [0, 2]), (14, [0, 2]), (0, [0, 2]), (62, [0, 2]), (126, [0, 2]), (0, [0, 1]), (256, [0, 1]), (1022, [3]), (2046, [7]), (4095, [15]), (8191, [15]), (16383, [15])] (by kernel_rfl) (fun jj => jj) (by kernel_rfl) (fun jj rv vv => cond (Nat.blt jj 7) (cond (Nat.blt jj 3) (cond (Nat.blt jj 1) (vv = .pointer (some ⟨b_l, 0, none⟩)) (cond (Nat.blt jj 2) (vv = .pointer (some ⟨b_l, 0, none⟩)) (vv = .pointer (some ⟨b_l, 0, none⟩)))) (cond (Nat.blt jj 5) (cond (Nat.blt jj 4) (vv = .pointer (some ⟨b_l, 0, none⟩)) (vv = v2)) (cond (Nat.blt jj 6) (vv = .int .i64 i) (vv = subV v2 0 ((i).toNat) 4)))) (cond (Nat.blt jj 11) (cond (Nat.blt jj 9) (cond (Nat.blt jj 8) (True) (vv = .agg #[.int .i64 e.batch.client, .int .i64 e.batch.req, v1_e, .int .u64 e.ts])) (cond (Nat.blt jj 10) (vv = .slice (some ⟨blkOf vv, 0, none⟩) 1 1) (True))) (cond (Nat.blt jj 13) (cond (Nat.blt jj 12) (True) (vv = .pointer (some ⟨b_l, 0, none⟩))) (cond (Nat.blt jj 14) (vv = .pointer (some ⟨b_l, 0, none⟩)) (True))))) (fun ss vals1 xw => match ss with | 0 => Gx I D w I6 w6 xw [SlC NEEntry (subV v2 0 ((i).toNat) 4) (l.l.take ((i).toNat)), SlC NEEntry v2 l.l, SlC NEOp u4 (((l.l.getD (i).toNat default).batch).ops), SlC NEOp u3 (((l.l.getD (i - 1).toNat default).batch).ops), SlC NEOp u2 (((l.l.getD (i - 1).toNat default).batch).ops), BxC b_l 90 [v2], BxC b1 57 (cEEntry e v1_e), SlC NEOp v1_e e.batch.ops] | 1 => Gx I D w I6 w6 xw [OwC NEEntry 57 (vals1 7) c_3, SlC NEEntry (subV v2 0 ((i).toNat) 4) (l.l.take ((i).toNat)), SlC NEEntry v2 l.l, SlC NEOp u4 (((l.l.getD (i).toNat default).batch).ops), SlC NEOp u3 (((l.l.getD (i - 1).toNat default).batch).ops), SlC NEOp u2 (((l.l.getD (i - 1).toNat default).batch).ops), BxC b_l 90 [v2], BxC b1 57 (cEEntry e v1_e), SlC NEOp v1_e e.batch.ops] | 2 => Gx I D w I6 w6 xw [BxC (blkOf (vals1 9)) 57 [.int .i64 e.batch.client, .int .i64 e.batch.req, v1_e, .int .u64 e.ts], SlC NEEntry (subV v2 0 ((i).toNat) 4) (l.l.take ((i).toNat)), SlC NEEntry v2 l.l, SlC NEOp u4 (((l.l.getD (i).toNat default).batch).ops), SlC NEOp u3 (((l.l.getD (i - 1).toNat default).batch).ops), SlC NEOp u2 (((l.l.getD (i - 1).toNat default).batch).ops), BxC b_l 90 [v2], BxC b1 57 (cEEntry e v1_e), SlC NEOp v1_e e.batch.ops] | 3 => Gx I D w I6 w6 xw [BxC (blkOf (vals1 9)) 57 [.int .i64 e.batch.client, .int .i64 e.batch.req, v1_e, .int .u64 e.ts], OwC NEEntry 57 (vals1 7) c_3, SlC NEEntry (subV v2 0 ((i).toNat) 4) (l.l.take ((i).toNat)), SlC NEEntry v2 l.l, SlC NEOp u4 (((l.l.getD (i).toNat default).batch).ops), SlC NEOp u3 (((l.l.getD (i - 1).toNat default).batch).ops), SlC NEOp u2 (((l.l.getD (i - 1).toNat default).batch).ops), BxC b_l 90 [v2], BxC b1 57 (cEEntry e v1_e), SlC NEOp v1_e e.batch.ops] | 7 => Gx I D w I6 w6 xw [OwC NEEntry 57 (vals1 10) c_4, SlC NEEntry (.slice (some ⟨blkOf (vals1 9), 0, none⟩) 1 1) [e], OwC NEEntry 57 (vals1 7) c_3, SlC NEEntry (subV v2 0 ((i).toNat) 4) (l.l.take ((i).toNat)), SlC NEEntry v2 l.l, SlC NEOp u4 (((l.l.getD (i).toNat default).batch).ops), SlC NEOp u3 (((l.l.getD (i - 1).toNat default).batch).ops), SlC NEOp u2 (((l.l.getD (i - 1).toNat default).batch).ops), BxC b_l 90 [v2], BxC b1 57 (cEEntry e v1_e), SlC NEOp v1_e e.batch.ops] | 15 => Gx I D w I6 w6 xw [OwC NEEntry 57 (vals1 11) (c_3 ++ c_4), OwC NEEntry 57 (vals1 10) c_4, SlC NEEntry (.slice (some ⟨blkOf (vals1 9), 0, none⟩) 1 1) [e], SlC NEEntry (subV v2 0 ((i).toNat) 4) (l.l.take ((i).toNat)), SlC NEEntry v2 l.l, SlC NEOp u4 (((l.l.getD (i).toNat default).batch).ops), SlC NEOp u3 (((l.l.getD (i - 1).toNat default).batch).ops), SlC NEOp u2 (((l.l.getD (i - 1).toNat default).batch).ops), BxC b_l 90 [v2], BxC b1 57 (cEEntry e v1_e), SlC NEOp v1_e e.batch.ops] | _ => Gx I D w I6 w6 xw [BxC b_l 90 [(vals1 11)], OwC NEEntry 57 (vals1 11) (c_3 ++ c_4), OwC NEEntry 57 (vals1 10) c_4, SlC NEEntry (.slice (some ⟨blkOf (vals1 9), 0, none⟩) 1 1) [e], SlC NEEntry (subV v2 0 ((i).toNat) 4) (l.l.take ((i).toNat)), SlC NEEntry v2 l.l, SlC NEOp u4 (((l.l.getD (i).toNat default).batch).ops), SlC NEOp u3 (((l.l.getD (i - 1).toNat default).batch).ops), SlC NEOp u2 (((l.l.getD (i - 1).toNat default).batch).ops), BxC b1 57 (cEEntry e v1_e), SlC NEOp v1_e e.batch.ops]) (fun _ => Gx.start H) ?_ ?_
       ·intro fr hfr hfe
        refine .cons (fun ss hs vals1 xw hG hV => ?_) ?_
        ·obtain rfl | rfl | rfl | rfl | rfl | rfl : ss = 0 ∨ ss = 1 ∨ ss = 2 ∨ ss = 3 ∨ ss = 7 ∨ ss = 15 := by simpa using hs
         all_goals
         ·rw [← hfe]
          have hS := (hfr vals1).sub (ts := [0]) (S' := [(0, .pointer (some ⟨b_l, 0, none⟩))]) rfl
          exact L_val hS rfl (Ob_c tAd2 rfl) ⟨rfl, hG⟩
        refine .cons (fun ss hs vals1 xw hG hV => ?_) ?_
        ·obtain rfl | rfl : ss = 0 ∨ ss = 2 := by simpa using hs
         all_goals
         ·rw [← hfe]
          have hS := (hfr vals1).sub (ts := [0]) (S' := [(0, .pointer (some ⟨b_l, 0, none⟩))]) rfl
          exact L_val hS rfl (Ob_c tAd2 rfl) ⟨rfl, hG⟩
        refine .cons (fun ss hs vals1 xw hG hV => ?_) ?_
        ·obtain rfl | rfl : ss = 0 ∨ ss = 2 := by simpa using hs
         all_goals
         ·rw [← hfe]
          have hS := (hfr vals1).sub (ts := [132]) (S' := [(132, vals1 1)]) rfl
          replace hS := hS.conv (t := 132) rfl (show (vals1 1) = .pointer (some ⟨b_l, 0, none⟩) from hV 1 (by decide))
          exact L_val hS rfl (Ob_c tAd2 rfl) ⟨rfl, hG⟩
        refine .cons (fun ss hs vals1 xw hG hV => ?_) ?_
        ·obtain rfl | rfl : ss = 0 ∨ ss = 2 := by simpa using hs
         all_goals
         ·rw [← hfe]
          have hS := (hfr vals1).sub (ts := [133]) (S' := [(133, vals1 2)]) rfl
          replace hS := hS.conv (t := 133) rfl (show (vals1 2) = .pointer (some ⟨b_l, 0, none⟩) from hV 2 (by decide))
          exact L_val hS rfl (Ob_c tAd2 rfl) ⟨rfl, hG⟩
        refine .cons (fun ss hs vals1 xw hG hV => ?_) ?_
        ·obtain rfl | rfl : ss = 0 ∨ ss = 2 := by simpa using hs
         ·rw [← hfe]
          have hS := (hfr vals1).sub (ts := [134]) (S' := [(134, vals1 3)]) rfl
          replace hS := hS.conv (t := 134) rfl (show (vals1 3) = .pointer (some ⟨b_l, 0, none⟩) from hV 3 (by decide))
          obtain ⟨I2, hI2, H⟩ := Gx.ex hG
          exact L_val hS rfl (Ob_load tAd2 rfl rfl rfl ((H.bx 5 rfl).cell 0 rfl)) ⟨rfl, hG⟩
         ·rw [← hfe]
          have hS := (hfr vals1).sub (ts := [134]) (S' := [(134, vals1 3)]) rfl
          replace hS := hS.conv (t := 134) rfl (show (vals1 3) = .pointer (some ⟨b_l, 0, none⟩) from hV 3 (by decide))
          obtain ⟨I2, hI2, H⟩ := Gx.ex hG
          exact L_val hS rfl (Ob_load tAd2 rfl rfl rfl ((H.bx 6 rfl).cell 0 rfl)) ⟨rfl, hG⟩
        refine .cons (fun ss hs vals1 xw hG hV => ?_) ?_
        ·obtain rfl | rfl : ss = 0 ∨ ss = 2 := by simpa using hs
         all_goals
         ·rw [← hfe]
          have hS := (hfr vals1).sub (ts := [1]) (S' := [(1, .int .i64 i)]) rfl
          exact L_val hS rfl (Ob_c tAd2 rfl) ⟨rfl, hG⟩
        refine .cons (fun ss hs vals1 xw hG hV => ?_) ?_
        ·obtain rfl | rfl : ss = 0 ∨ ss = 2 := by simpa using hs
         ·rw [← hfe]
          have hS := (hfr vals1).sub (ts := [135, 136]) (S' := [(135, vals1 4), (136, vals1 5)]) rfl
          replace hS := hS.conv (t := 135) rfl (show (vals1 4) = v2 from hV 4 (by decide))
          replace hS := hS.conv (t := 136) rfl (show (vals1 5) = .int .i64 i from hV 5 (by decide))
          obtain ⟨I2, hI2, H⟩ := Gx.ex hG
          exact L_val hS rfl (Ob_sub_to tAd2 rfl rfl rfl rfl (H.slshape 1 rfl) hg13) ⟨rfl, hG⟩
         ·rw [← hfe]
          have hS := (hfr vals1).sub (ts := [135, 136]) (S' := [(135, vals1 4), (136, vals1 5)]) rfl
          replace hS := hS.conv (t := 135) rfl (show (vals1 4) = v2 from hV 4 (by decide))
          replace hS := hS.conv (t := 136) rfl (show (vals1 5) = .int .i64 i from hV 5 (by decide))
          obtain ⟨I2, hI2, H⟩ := Gx.ex hG
          exact L_val hS rfl (Ob_sub_to tAd2 rfl rfl rfl rfl (H.slshape 2 rfl) hg13) ⟨rfl, hG⟩
        refine .cons (fun ss hs vals1 xw hG hV => ?_) ?_
        ·obtain rfl | rfl : ss = 0 ∨ ss = 2 := by simpa using hs
         ·rw [← hfe]
          have hS := (hfr vals1).sub (ts := [137]) (S' := [(137, vals1 6)]) rfl
          replace hS := hS.conv (t := 137) rfl (show (vals1 6) = subV v2 0 ((i).toNat) 4 from hV 6 (by decide))
          obtain ⟨I2, hI2, H⟩ := Gx.ex hG
          refine L_hcall H (js := [(0, true)]) rfl (caps := #[]) hS fn_49_YAd2 rfl rfl rfl rfl rfl (fun D1 hS => have hq := c_ref17_Copy hx5 hS; hq) fun _ yw D1 hr hF2 => ?_
          obtain ⟨q0_, rfl, I3, K⟩ := hr
          obtain ⟨hK, H2⟩ := hF2 K
          exact ⟨trivial, Gx.go hG hI2 hK K.imm H2⟩
         ·rw [← hfe]
          have hS := (hfr vals1).sub (ts := [137]) (S' := [(137, vals1 6)]) rfl
          replace hS := hS.conv (t := 137) rfl (show (vals1 6) = subV v2 0 ((i).toNat) 4 from hV 6 (by decide))
          obtain ⟨I2, hI2, H⟩ := Gx.ex hG
          refine L_hcall H (js := [(1, true)]) rfl (caps := #[]) hS fn_49_YAd2 rfl rfl rfl rfl rfl (fun D1 hS => have hq := c_ref17_Copy hx5 hS; hq) fun _ yw D1 hr hF2 => ?_
          obtain ⟨q0_, rfl, I3, K⟩ := hr
          obtain ⟨hK, H2⟩ := hF2 K
          exact ⟨trivial, Gx.go hG hI2 hK K.imm (Hf.sub H2 [(1, false), (0, false), (0, true), (1, true), (2, true), (3, true), (4, true), (5, false), (5, false), (5, true)] rfl)⟩
        refine .cons (fun ss hs vals1 xw hG hV => ?_) ?_
        ·obtain rfl | rfl : ss = 0 ∨ ss = 1 := by simpa using hs
         ·rw [← hfe]
          have hS := (hfr vals1).sub (ts := [5]) (S' := [(5, .pointer (some ⟨b1, 0, none⟩))]) rfl
          obtain ⟨I2, hI2, H⟩ := Gx.ex hG
          exact L_val hS rfl (Ob_loads tAd2 rfl rfl rfl ((H.bx 6 rfl).part 0 rfl)) ⟨rfl, hG⟩
         ·rw [← hfe]
          have hS := (hfr vals1).sub (ts := [5]) (S' := [(5, .pointer (some ⟨b1, 0, none⟩))]) rfl
          obtain ⟨I2, hI2, H⟩ := Gx.ex hG
          exact L_val hS rfl (Ob_loads tAd2 rfl rfl rfl ((H.bx 7 rfl).part 0 rfl)) ⟨rfl, hG⟩
        refine .cons (fun ss hs vals1 xw hG hV => ?_) ?_
        ·obtain rfl | rfl : ss = 0 ∨ ss = 1 := by simpa using hs
         all_goals
         ·rw [← hfe]
          have hS := (hfr vals1).sub (ts := [139]) (S' := [(139, vals1 8)]) rfl
          replace hS := hS.conv (t := 139) rfl (show (vals1 8) = .agg #[.int .i64 e.batch.client, .int .i64 e.batch.req, v1_e, .int .u64 e.ts] from hV 8 (by decide))
          obtain ⟨I2, hI2, H⟩ := Gx.ex hG
          exact L_bslice H (vs := [(0, .agg #[.int .i64 e.batch.client, .int .i64 e.batch.req, v1_e, .int .u64 e.ts])]) (cl := [.int .i64 e.batch.client, .int .i64 e.batch.req, v1_e, .int .u64 e.ts]) (e := 57) hS rfl rfl rfl (fun w => run_bslice (z := .agg #[.int .i64 0, .int .i64 0, .slice none 0 0, .int .u64 0]) (m := 4) Try.underlying22 (by kernel_rfl) rfl rfl (by decide) (by simp [Instr.fill, Value.cells]) w) fun yw b hK H => ⟨rfl, Gx.go hG hI2 hK (fun _ h => h) H⟩
        refine .cons (fun ss hs vals1 xw hG hV => ?_) ?_
        ·obtain rfl : ss = 3 := by simpa using hs
         rw [← hfe]
         have hS := (hfr vals1).sub (ts := [140]) (S' := [(140, vals1 9)]) rfl
         replace hS := hS.conv (t := 140) rfl (show (vals1 9) = .slice (some ⟨blkOf (vals1 9), 0, none⟩) 1 1 from hV 9 (by decide))
         obtain ⟨I2, hI2, H⟩ := Gx.ex hG
         obtain ⟨J0, hJ0, H⟩ := H.frzlit 0 rfl (R := NEEntry) [[.int .i64 e.batch.client, .int .i64 e.batch.req, v1_e, .int .u64 e.ts]] [e] rfl rfl (fun i h1 h2 => by match i, h1, h2 with | 0, _, _ => exact ⟨_, rfl, (H.sl 9 rfl)⟩) (show 1 ≤ maxLen from by decide) (n := 1) rfl
         refine L_hcall H (js := [(0, true)]) rfl (caps := #[]) hS fn_49_YAd2 rfl rfl rfl rfl rfl (fun D1 hS => have hq := c_ref17_Copy hx6 hS; hq) fun _ yw D1 hr hF2 => ?_
         obtain ⟨q0_, rfl, I3, K⟩ := hr
         obtain ⟨hK, H2⟩ := hF2 K
         exact ⟨trivial, Gx.go hG hI2 (hK.sub fun k h => (hJ0 k h)) (fun k h => K.imm k (hJ0 k h)) H2⟩
        refine .cons (fun ss hs vals1 xw hG hV => ?_) ?_
        ·obtain rfl : ss = 7 := by simpa using hs
         rw [← hfe]
         have hS := (hfr vals1).sub (ts := [138, 141]) (S' := [(138, vals1 7), (141, vals1 10)]) rfl
         obtain ⟨I2, hI2, H⟩ := Gx.ex hG
         exact L_appO H 2 E_22_YAd2 c_4 rfl rfl hS rfl rfl rfl rfl (H.ow2 0 rfl) hg14 (by decide) fun v yw hK H => ⟨trivial, Gx.go hG hI2 hK (fun _ h => h) H⟩
        refine .cons (fun ss hs vals1 xw hG hV => ?_) ?_
        ·obtain rfl : ss = 15 := by simpa using hs
         rw [← hfe]
         have hS := (hfr vals1).sub (ts := [131]) (S' := [(131, vals1 0)]) rfl
         replace hS := hS.conv (t := 131) rfl (show (vals1 0) = .pointer (some ⟨b_l, 0, none⟩) from hV 0 (by decide))
         exact L_val hS rfl (Ob_c tAd2 rfl) ⟨rfl, hG⟩
        refine .cons (fun ss hs vals1 xw hG hV => ?_) ?_
        ·obtain rfl : ss = 15 := by simpa using hs
         rw [← hfe]
         have hS := (hfr vals1).sub (ts := [143]) (S' := [(143, vals1 12)]) rfl
         replace hS := hS.conv (t := 143) rfl (show (vals1 12) = .pointer (some ⟨b_l, 0, none⟩) from hV 12 (by decide))
         exact L_val hS rfl (Ob_c tAd2 rfl) ⟨rfl, hG⟩
        refine .cons (fun ss hs vals1 xw hG hV => ?_) ?_
        ·obtain rfl : ss = 15 := by simpa using hs
         rw [← hfe]
         have hS := (hfr vals1).sub (ts := [144, 142]) (S' := [(144, vals1 13), (142, vals1 11)]) rfl
         replace hS := hS.conv (t := 144) rfl (show (vals1 13) = .pointer (some ⟨b_l, 0, none⟩) from hV 13 (by decide))
         obtain ⟨I2, hI2, H⟩ := Gx.ex hG
         exact L_store tAd2 H 8 rfl hS rfl rfl rfl rfl rfl (slS.cells (H.owshape 0 rfl)) rfl rfl (one_cons (slS.one (H.owshape 0 rfl)) one_nil) (Nat.le_of_ble_eq_true rfl) rfl fun yw hK H => ⟨trivial, Gx.go hG hI2 hK (fun _ h => h) H⟩
        exact .nil
       ·intro vals1 a w15 Z hG hV
        replace Z := Z.sub (ts := [6]) (S' := [(6, .int .i64 0)]) rfl
        obtain ⟨I7, _, H⟩ := Gx.ex hG
        clear hG hV
        replace Z := Z.sub (ts := [6]) rfl
        replace H : Hf I D w I7 w15 [BxC b_l 90 [(vals1 11)], OwC NEEntry 57 (vals1 11) (c_3 ++ c_4), OwC NEEntry 57 (vals1 10) c_4, SlC NEEntry (.slice (some ⟨blkOf (vals1 9), 0, none⟩) 1 1) [e], SlC NEEntry (subV v2 0 ((i).toNat) 4) (l.l.take ((i).toNat)), SlC NEEntry v2 l.l, SlC NEOp u4 (((l.l.getD (i).toNat default).batch).ops), SlC NEOp u3 (((l.l.getD (i - 1).toNat default).batch).ops), SlC NEOp u2 (((l.l.getD (i - 1).toNat default).batch).ops), BxC b1 57 (cEEntry e v1_e), SlC NEOp v1_e e.batch.ops] := H
        refine p_then (wp_seq (f_region Z ?_)); clear Z; intro Z
        refine s_runk tAd2 Z 1 rfl rfl ?_; clear Z a; intro a Z
        refine s_end Z [6] rfl ?_; clear Z; intro Z
        refine p_then (wp_ret ?_)
        replace H : Hf I D w I7 w15 [OEref17_Log b_l ({ l := c_3 ++ c_4 } : Eref17_Log), OwC NEEntry 57 (vals1 10) c_4, SlC NEEntry (.slice (some ⟨blkOf (vals1 9), 0, none⟩) 1 1) [e], SlC NEEntry (subV v2 0 ((i).toNat) 4) (l.l.take ((i).toNat)), SlC NEEntry v2 l.l, SlC NEOp u4 (((l.l.getD (i).toNat default).batch).ops), SlC NEOp u3 (((l.l.getD (i - 1).toNat default).batch).ops), SlC NEOp u2 (((l.l.getD (i - 1).toNat default).batch).ops), BxC b1 57 (cEEntry e v1_e), SlC NEOp v1_e e.batch.ops] := H.shutX ((vals1 11)) [(0, false), (0, false)] rfl
        obtain rfl := some_in hF
        exact f_ret Z (run_results1 rfl Z rfl) ⟨rfl, I7, (H.sub [(0, false)] rfl).eq rfl⟩

end Go.Proofs.Ytmdoimpeacndaaa
