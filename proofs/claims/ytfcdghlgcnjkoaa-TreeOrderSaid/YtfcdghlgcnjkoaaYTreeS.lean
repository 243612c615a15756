/- Trees: keys in whatever order. -/
import Derived.Test.YtfcdghlgcnjkoaaYTreeW
import Derived.Test.YtfcdghlgcnjkoaaYQ
namespace Go.Proofs.Ytfcdghlgcnjkoaa
open Go.RowKit
def tTreeSL : TabL := ⟨[], [9], [], [(22, (9, 1))], [(9, (1, false))]⟩

def tTreeS : Tab Try.prog := ⟨tTreeSL, by kernel_rfl⟩

theorem fn_7_YTreeS : IsFn Try.prog 7 := ⟨_, Try.func7, by kernel_rfl, by kernel_rfl⟩

theorem fn_8_YTreeS : IsFn Try.prog 8 := ⟨_, Try.func8, by kernel_rfl, by kernel_rfl⟩

theorem fn_9_YTreeS : IsFn Try.prog 9 := ⟨_, Try.func9, by kernel_rfl, by kernel_rfl⟩

theorem fn_10_YTreeS : IsFn Try.prog 10 := ⟨_, Try.func10, by kernel_rfl, by kernel_rfl⟩

theorem fn_11_YTreeS : IsFn Try.prog 11 := ⟨_, Try.func11, by kernel_rfl, by kernel_rfl⟩

theorem fn_12_YTreeS : IsFn Try.prog 12 := ⟨_, Try.func12, by kernel_rfl, by kernel_rfl⟩

theorem fn_13_YTreeS : IsFn Try.prog 13 := ⟨_, Try.func13, by kernel_rfl, by kernel_rfl⟩

theorem fn_14_YTreeS : IsFn Try.prog 14 := ⟨_, Try.func14, by kernel_rfl, by kernel_rfl⟩

theorem E_22_YTreeS : Elem Try.prog 22 9 1 16 := ⟨Try.underlying22, by
 have h : (Try.prog.info? 9).map (fun i => (i.zero, i.size, i.bytes)) = some (some (.string ByteArray.empty), 1, 16) := by kernel_rfl
 obtain ⟨i, hi, h1⟩ := Option.map_eq_some_iff.1 h
 simp only [Prod.mk.injEq] at h1
 exact ⟨i, _, hi, h1.1, h1.2.1, h1.2.2, by rfl⟩, by decide⟩

def F_ref05_Set_k2 (i : Int) (rc : ((List ByteArray) × Int) → Option (List ByteArray)) (out_2 : List ByteArray) (k : Int) (x : Int) (x_2 : Bool) (x_3 : Bool) (x_4 : Bool) (x_5 : Int) (x_6 : Bool) (x_7 : Bool) (x_8 : Bool) : Option (List ByteArray) := chk (inI (i + 1)) (rc (out_2, i + 1))

def F_ref05_Set_l3 (l : List ByteArray) (out : List ByteArray) (i : Int) (rc : ((List ByteArray) × Int) → Option (List ByteArray)) (rc_2 : Int → Option (List ByteArray)) (sg : Int) : Option (List ByteArray) := match sg with | k_2 => chk ((decide (k_2 < (out.length : Int))) = true → (0 : Int) ≤ k_2 ∧ k_2 < (out.length : Int)) (chk ((decide (k_2 < (out.length : Int))) = true → (0 : Int) ≤ i ∧ i < (l.length : Int)) (if ((decide (k_2 < (out.length : Int))) && (sltB (out.getD (k_2).toNat default) (l.getD (i).toNat default))) = true then (chk (inI (k_2 + 1)) (rc_2 (k_2 + 1))) else (chk ((decide (k_2 < (out.length : Int))) = true → (0 : Int) ≤ k_2 ∧ k_2 < (out.length : Int)) (chk ((decide (k_2 < (out.length : Int))) = true → (0 : Int) ≤ i ∧ i < (l.length : Int)) (if ((decide (k_2 < (out.length : Int))) && (seqB (out.getD (k_2).toNat default) (l.getD (i).toNat default))) = true then (F_ref05_Set_k2 i rc out k_2 k_2 (decide (k_2 < (out.length : Int))) (decide (k_2 < (out.length : Int))) ((decide (k_2 < (out.length : Int))) && (sltB (out.getD (k_2).toNat default) (l.getD (i).toNat default))) k_2 (decide (k_2 < (out.length : Int))) (decide (k_2 < (out.length : Int))) ((decide (k_2 < (out.length : Int))) && (seqB (out.getD (k_2).toNat default) (l.getD (i).toNat default)))) else (chk ((0 : Int) ≤ k_2 ∧ k_2 ≤ (out.length : Int)) (chk ((0 : Int) ≤ k_2 ∧ k_2 ≤ (out.length : Int)) (chk (((([] : List ByteArray).length + (out.take ((k_2).toNat)).length : Nat) : Int) * 16 ≤ 140737488355328) (chk ((0 : Int) ≤ i ∧ i < (l.length : Int)) (chk ((((([] : List ByteArray) ++ (out.take ((k_2).toNat))).length + [(l.getD (i).toNat default)].length : Nat) : Int) * 16 ≤ 140737488355328) (chk ((0 : Int) ≤ k_2 ∧ k_2 ≤ (out.length : Int)) (chk (((((([] : List ByteArray) ++ (out.take ((k_2).toNat))) ++ [(l.getD (i).toNat default)]).length + (out.drop ((k_2).toNat)).length : Nat) : Int) * 16 ≤ 140737488355328) (F_ref05_Set_k2 i rc (((([] : List ByteArray) ++ (out.take ((k_2).toNat))) ++ [(l.getD (i).toNat default)]) ++ (out.drop ((k_2).toNat))) k_2 k_2 (decide (k_2 < (out.length : Int))) (decide (k_2 < (out.length : Int))) ((decide (k_2 < (out.length : Int))) && (sltB (out.getD (k_2).toNat default) (l.getD (i).toNat default))) k_2 (decide (k_2 < (out.length : Int))) (decide (k_2 < (out.length : Int))) ((decide (k_2 < (out.length : Int))) && (seqB (out.getD (k_2).toNat default) (l.getD (i).toNat default))))))))))))))))

def F_ref05_Set_l1 (l : List ByteArray) (rc : ((List ByteArray) × Int) → Option (List ByteArray)) (sg : (List ByteArray) × Int) : Option (List ByteArray) := match sg with | (out, i) => if (decide (i < (l.length : Int))) = true then (iter (F_ref05_Set_l3 l out i rc) FU 0) else (some out)

def F_ref05_Set (l : List ByteArray) : Option (List ByteArray) := iter (F_ref05_Set_l1 l) FU (([] : List ByteArray), 0)

set_option maxHeartbeats 1000000 in
theorem c_ref05_Set {I D : Dm} {l : List ByteArray} {v1_l : Value} {w : World} {rr : List ByteArray} (hF : F_ref05_Set l = some rr) (H : St I D w [SlC NS v1_l l]) :
  Calls Try.prog 13 #[v1_l] w (Ret fun vv w' => ∃ q1 : Value, vv = q1 ∧ ∃ I', Hf I D w I' w' [SlC NS q1 rr]) := by
 replace H := H.hf
 unfold F_ref05_Set at hF
 refine f_enter 63 Try.func13 rfl rfl (Nat.le_of_ble_eq_true rfl) fun a Z => ?_
 replace Z := Z.sub (ts := [0]) rfl
 refine wp_seq (f_region Z ?_); clear Z; intro Z
 refine s_runk tTreeS Z 1 rfl rfl ?_; clear Z a; intro a Z
 refine s_end Z [0, 2] rfl ?_; clear Z; intro Z
 refine p_then (wp_seq (f_region Z ?_)); clear Z; intro Z
 refine s_runk tTreeS Z 1 rfl rfl ?_; clear Z a; intro a Z
 refine s_end Z [0, 2, 3] rfl ?_; clear Z; intro Z
 refine p_then (wp_seq ?_)
 refine wp_seq (f_region Z ?_); clear Z; intro Z
 refine s_runk tTreeS Z 1 rfl rfl ?_; clear Z a; intro a Z
 refine s_end Z [0, 2, 3, 4] rfl ?_; clear Z; intro Z
 refine p_then (wp_block ?_)
 replace H : Hf I D w I w [SlC NS (.slice none 0 0) ([] : List ByteArray), SlC NS v1_l l] := H.slNil NS
 refine f_iter hF (fun sg a' w' => match sg with | (out, i) => ∃ v2 : Value, Sl 63 [(0, v1_l), (2, .slice none 0 0), (3, v2), (4, .int .i64 i)] a' ∧ ∃ I2, Hf I D w I2 w' [SlC NS v1_l l, SlC NS v2 out]) ⟨.slice none 0 0, Z.sub (ts := [0, 2, 3, 4]) rfl, ⟨I, (H.sub [(1, true), (0, true)] rfl).eq rfl⟩⟩ ?_
 clear Z H hF a
 rintro rc ⟨out, i⟩ a w1 ⟨v2, Z, I1, H⟩ hF
 unfold F_ref05_Set_l1 at hF
 try dsimp only at hF
 refine wp_seq ?_
 refine wp_seq (f_region Z ?_); clear Z; intro Z
 refine s_runk tTreeS Z 2 rfl rfl ?_; clear Z a; intro a Z
 refine s_ob Z (v := .int .i64 (l.length : Int)) rfl rfl (by decide) rfl (Ob_slen tTreeS rfl rfl rfl (H.slshape 0 rfl)) ?_; clear Z a; intro a Z
 refine s_runk tTreeS Z 1 rfl rfl ?_; clear Z a; intro a Z
 refine s_end Z [0, 2, 3, 4, 7, 8, 9, 10] rfl ?_; clear Z; intro Z
 refine p_then ?_
 refine f_cond Z rfl (fun hc1 => ?_) (fun hc1 => ?_)
 ·replace hF := ite_t hc1 hF
  refine wp_skip ?_
  refine p_then ?_
  refine f_cut (fun a' w' => ∃ (out_2 : List ByteArray) (k : Int) (x : Int) (x_2 : Bool) (x_3 : Bool) (x_4 : Bool) (x_5 : Int) (x_6 : Bool) (x_7 : Bool) (x_8 : Bool), ∃ v3 : Value, Sl 63 [(0, v1_l), (2, .slice none 0 0), (3, v3), (4, .int .i64 i), (5, .int .i64 k), (7, .int .i64 i), (8, v1_l), (9, .int .i64 (l.length : Int)), (10, .bool (decide (i < (l.length : Int)))), (13, .int .i64 x), (14, v2), (15, .int .i64 (out.length : Int)), (16, .bool x_2), (17, .bool x_3), (27, .bool x_4), (30, .int .i64 x_5), (31, v2), (32, .int .i64 (out.length : Int)), (33, .bool x_6), (34, .bool x_7), (44, .bool x_8)] a' ∧ (∃ I2, Hf I D w I2 w' [SlC NS v1_l l, SlC NS v2 out, SlC NS v3 out_2]) ∧ F_ref05_Set_k2 i rc out_2 k x x_2 x_3 x_4 x_5 x_6 x_7 x_8 = some rr) ?_ ?_
  ·rintro a w2 ⟨out_2, k, x, x_2, x_3, x_4, x_5, x_6, x_7, x_8, v3, Z, ⟨I2, H⟩, hF⟩
   unfold F_ref05_Set_k2 at hF
   try dsimp only at hF
   obtain ⟨hg1, hF⟩ := chk_in hF
   refine f_region Z ?_; clear Z; intro Z
   refine s_runk tTreeS Z 1 rfl rfl ?_; clear Z a; intro a Z
   refine s_ob Z (v := .int .i64 (i + 1)) rfl rfl (by decide) rfl (Ob_add rfl rfl rfl (wrI hg1)) ?_; clear Z a; intro a Z
   refine s_runk tTreeS Z 1 rfl rfl ?_; clear Z a; intro a Z
   refine s_end Z [0, 2, 3, 4, 5, 7, 8, 9, 10, 13, 14, 15, 16, 17, 27, 30, 31, 32, 33, 34, 44, 11, 12] rfl ?_; clear Z; intro Z
   refine p_then ?_
   exact ⟨(out_2, i + 1), ⟨v3, Z.sub (ts := [0, 2, 3, 4]) rfl, ⟨I2, (H.sub [(0, true), (2, true)] rfl).eq rfl⟩⟩, hF⟩
  ·skip
   refine wp_block ?_
   refine wp_seq (f_region Z ?_); clear Z; intro Z
   refine s_runk tTreeS Z 1 rfl rfl ?_; clear Z a; intro a Z
   refine s_end Z [0, 2, 3, 4, 7, 8, 9, 10, 5] rfl ?_; clear Z; intro Z
   refine p_then (wp_seq ?_)
   refine wp_block ?_
   refine f_iter hF (fun sg a' w' => match sg with | k_2 => Sl 63 [(0, v1_l), (2, .slice none 0 0), (3, v2), (4, .int .i64 i), (5, .int .i64 k_2), (7, .int .i64 i), (8, v1_l), (9, .int .i64 (l.length : Int)), (10, .bool (decide (i < (l.length : Int))))] a' ∧ ∃ I2, Hf I D w I2 w' [SlC NS v1_l l, SlC NS v2 out]) ⟨Z.sub (ts := [0, 2, 3, 4, 5, 7, 8, 9, 10]) rfl, ⟨I1, (H.sub [(0, true), (1, true)] rfl).eq rfl⟩⟩ ?_
   clear Z H hF a
   rintro rc_2 k_2 a w3 ⟨Z, I3, H⟩ hF
   unfold F_ref05_Set_l3 at hF
   try dsimp only at hF
   refine wp_seq ?_
   refine wp_seq ?_
   obtain ⟨hg2, hF⟩ := chk_in hF
   obtain ⟨hg3, hF⟩ := chk_in hF
   refine f_quietd (by kernel_rfl) (by kernel_rfl) Z ?_; clear Z; intro Z
   refine q_runk tTreeS Z 2 rfl rfl ?_; clear Z a; intro a Z
   refine q_ob Z (v := .int .i64 (out.length : Int)) rfl rfl (by decide) rfl (fun _ hw => Ob_slen tTreeS rfl rfl rfl ((H.blw hw).slshape 1 rfl)) ?_; clear Z a; intro a Z
   refine q_runk tTreeS Z 2 rfl rfl ?_; clear Z a; intro a Z
   refine gq_ob Z (p := (decide (k_2 < (out.length : Int)))) (v := v2) (S' := [(3, v2)]) rfl rfl rfl (wantB_t _) rfl (by decide) (fun hp hS => hS.sub (ts := [3]) rfl) (fun hp _ hw => Ob_c tTreeS rfl) ?_; clear Z a; intro a Z
   refine gq_ob Z (p := (decide (k_2 < (out.length : Int)))) (v := .int .i64 k_2) (S' := [(5, .int .i64 k_2)]) rfl rfl rfl (wantB_t _) rfl (by decide) (fun hp hS => hS.sub (ts := [5]) rfl) (fun hp _ hw => Ob_c tTreeS rfl) ?_; clear Z a; intro a Z
   refine gq_ob Z (p := (decide (k_2 < (out.length : Int)))) (v := .pointer (some ⟨blkOf v2, oofOf v2 + (k_2).toNat * 1, none⟩)) (S' := [(18, v2), (19, .int .i64 k_2)]) rfl rfl rfl (wantB_t _) rfl (by decide) (fun hp hS => ((hS.conv (t := 18) rfl (cond_t hp)).conv (t := 19) rfl (cond_t hp)).sub (ts := [18, 19]) rfl) (fun hp _ hw => Ob_sidx tTreeS rfl rfl rfl rfl (slPl ((H.blw hw).sl 1 rfl) (hg2 hp)) (hg2 hp)) ?_; clear Z a; intro a Z
   refine gq_ob Z (p := (decide (k_2 < (out.length : Int)))) (v := .string (out.getD (k_2).toNat default)) (S' := [(20, .pointer (some ⟨blkOf v2, oofOf v2 + (k_2).toNat * 1, none⟩))]) rfl rfl rfl (wantB_t _) rfl (by decide) (fun hp hS => (hS.conv (t := 20) rfl (cond_t hp)).sub (ts := [20]) rfl) (fun hp _ hw => Ob_load tTreeS rfl rfl rfl ((slFl ((H.blw hw).sl 1 rfl) (hg2 hp)) 0 _ rfl)) ?_; clear Z a; intro a Z
   refine gq_ob Z (p := (decide (k_2 < (out.length : Int)))) (v := v1_l) (S' := [(0, v1_l)]) rfl rfl rfl (wantB_t _) rfl (by decide) (fun hp hS => hS.sub (ts := [0]) rfl) (fun hp _ hw => Ob_c tTreeS rfl) ?_; clear Z a; intro a Z
   refine gq_ob Z (p := (decide (k_2 < (out.length : Int)))) (v := .int .i64 i) (S' := [(4, .int .i64 i)]) rfl rfl rfl (wantB_t _) rfl (by decide) (fun hp hS => hS.sub (ts := [4]) rfl) (fun hp _ hw => Ob_c tTreeS rfl) ?_; clear Z a; intro a Z
   refine gq_ob Z (p := (decide (k_2 < (out.length : Int)))) (v := .pointer (some ⟨blkOf v1_l, oofOf v1_l + (i).toNat * 1, none⟩)) (S' := [(22, v1_l), (23, .int .i64 i)]) rfl rfl rfl (wantB_t _) rfl (by decide) (fun hp hS => ((hS.conv (t := 22) rfl (cond_t hp)).conv (t := 23) rfl (cond_t hp)).sub (ts := [22, 23]) rfl) (fun hp _ hw => Ob_sidx tTreeS rfl rfl rfl rfl (slPl ((H.blw hw).sl 0 rfl) (hg3 hp)) (hg3 hp)) ?_; clear Z a; intro a Z
   refine gq_ob Z (p := (decide (k_2 < (out.length : Int)))) (v := .string (l.getD (i).toNat default)) (S' := [(24, .pointer (some ⟨blkOf v1_l, oofOf v1_l + (i).toNat * 1, none⟩))]) rfl rfl rfl (wantB_t _) rfl (by decide) (fun hp hS => (hS.conv (t := 24) rfl (cond_t hp)).sub (ts := [24]) rfl) (fun hp _ hw => Ob_load tTreeS rfl rfl rfl ((slFl ((H.blw hw).sl 0 rfl) (hg3 hp)) 0 _ rfl)) ?_; clear Z a; intro a Z
   refine gq_ob Z (p := (decide (k_2 < (out.length : Int)))) (v := .bool (sltB (out.getD (k_2).toNat default) (l.getD (i).toNat default))) (S' := [(21, .string (out.getD (k_2).toNat default)), (25, .string (l.getD (i).toNat default))]) rfl rfl rfl (wantB_t _) rfl (by decide) (fun hp hS => ((hS.conv (t := 21) rfl (cond_t hp)).conv (t := 25) rfl (cond_t hp)).sub (ts := [21, 25]) rfl) (fun hp _ hw => Ob_c tTreeS rfl) ?_; clear Z a; intro a Z
   refine q_ob Z (v := .bool ((decide (k_2 < (out.length : Int))) && (sltB (out.getD (k_2).toNat default) (l.getD (i).toNat default)))) rfl rfl (by decide) rfl (fun _ hw => Ob_pick rfl rfl rfl rfl (pick_and _ _)) ?_; clear Z a; intro a Z
   refine q_end Z [0, 2, 3, 4, 5, 7, 8, 9, 10, 13, 14, 15, 16, 17, 27] rfl ?_; clear Z; intro w4 hb Z
   replace H : Hf I D w I3 w4 [SlC NS v1_l l, SlC NS v2 out] := H.blw hb
   clear hb
   refine p_then ?_
   refine f_cond Z rfl (fun hc2 => ?_) (fun hc2 => ?_)
   ·replace hF := ite_t hc2 hF
    refine wp_skip ?_
    refine p_then (wp_block ?_)
    obtain ⟨hg4, hF⟩ := chk_in hF
    refine f_region Z ?_; clear Z; intro Z
    refine s_runk tTreeS Z 1 rfl rfl ?_; clear Z a; intro a Z
    refine s_ob Z (v := .int .i64 (k_2 + 1)) rfl rfl (by decide) rfl (Ob_add rfl rfl rfl (wrI hg4)) ?_; clear Z a; intro a Z
    refine s_runk tTreeS Z 1 rfl rfl ?_; clear Z a; intro a Z
    refine s_end Z [0, 2, 3, 4, 5, 7, 8, 9, 10, 13, 14, 15, 16, 17, 27, 28, 29] rfl ?_; clear Z; intro Z
    refine p_blk ?_
    refine p_then ?_
    exact ⟨(k_2 + 1), ⟨Z.sub (ts := [0, 2, 3, 4, 5, 7, 8, 9, 10]) rfl, ⟨I3, (H.sub [(0, true), (1, true)] rfl).eq rfl⟩⟩, hF⟩
   ·replace hF := ite_f hc2 hF
    refine wp_exit ?_
    refine p_then_x ?_
    refine p_then_x ?_
    refine f_exit_here ?_
    refine p_then (wp_seq ?_)
    refine wp_seq ?_
    obtain ⟨hg5, hF⟩ := chk_in hF
    obtain ⟨hg6, hF⟩ := chk_in hF
    refine f_quietd (by kernel_rfl) (by kernel_rfl) Z ?_; clear Z; intro Z
    refine q_runk tTreeS Z 2 rfl rfl ?_; clear Z a; intro a Z
    refine q_ob Z (v := .int .i64 (out.length : Int)) rfl rfl (by decide) rfl (fun _ hw => Ob_slen tTreeS rfl rfl rfl ((H.blw hw).slshape 1 rfl)) ?_; clear Z a; intro a Z
    refine q_runk tTreeS Z 2 rfl rfl ?_; clear Z a; intro a Z
    refine gq_ob Z (p := (decide (k_2 < (out.length : Int)))) (v := v2) (S' := [(3, v2)]) rfl rfl rfl (wantB_t _) rfl (by decide) (fun hp hS => hS.sub (ts := [3]) rfl) (fun hp _ hw => Ob_c tTreeS rfl) ?_; clear Z a; intro a Z
    refine gq_ob Z (p := (decide (k_2 < (out.length : Int)))) (v := .int .i64 k_2) (S' := [(5, .int .i64 k_2)]) rfl rfl rfl (wantB_t _) rfl (by decide) (fun hp hS => hS.sub (ts := [5]) rfl) (fun hp _ hw => Ob_c tTreeS rfl) ?_; clear Z a; intro a Z
    refine gq_ob Z (p := (decide (k_2 < (out.length : Int)))) (v := .pointer (some ⟨blkOf v2, oofOf v2 + (k_2).toNat * 1, none⟩)) (S' := [(35, v2), (36, .int .i64 k_2)]) rfl rfl rfl (wantB_t _) rfl (by decide) (fun hp hS => ((hS.conv (t := 35) rfl (cond_t hp)).conv (t := 36) rfl (cond_t hp)).sub (ts := [35, 36]) rfl) (fun hp _ hw => Ob_sidx tTreeS rfl rfl rfl rfl (slPl ((H.blw hw).sl 1 rfl) (hg5 hp)) (hg5 hp)) ?_; clear Z a; intro a Z
    refine gq_ob Z (p := (decide (k_2 < (out.length : Int)))) (v := .string (out.getD (k_2).toNat default)) (S' := [(37, .pointer (some ⟨blkOf v2, oofOf v2 + (k_2).toNat * 1, none⟩))]) rfl rfl rfl (wantB_t _) rfl (by decide) (fun hp hS => (hS.conv (t := 37) rfl (cond_t hp)).sub (ts := [37]) rfl) (fun hp _ hw => Ob_load tTreeS rfl rfl rfl ((slFl ((H.blw hw).sl 1 rfl) (hg5 hp)) 0 _ rfl)) ?_; clear Z a; intro a Z
    refine gq_ob Z (p := (decide (k_2 < (out.length : Int)))) (v := v1_l) (S' := [(0, v1_l)]) rfl rfl rfl (wantB_t _) rfl (by decide) (fun hp hS => hS.sub (ts := [0]) rfl) (fun hp _ hw => Ob_c tTreeS rfl) ?_; clear Z a; intro a Z
    refine gq_ob Z (p := (decide (k_2 < (out.length : Int)))) (v := .int .i64 i) (S' := [(4, .int .i64 i)]) rfl rfl rfl (wantB_t _) rfl (by decide) (fun hp hS => hS.sub (ts := [4]) rfl) (fun hp _ hw => Ob_c tTreeS rfl) ?_; clear Z a; intro a Z
    refine gq_ob Z (p := (decide (k_2 < (out.length : Int)))) (v := .pointer (some ⟨blkOf v1_l, oofOf v1_l + (i).toNat * 1, none⟩)) (S' := [(39, v1_l), (40, .int .i64 i)]) rfl rfl rfl (wantB_t _) rfl (by decide) (fun hp hS => ((hS.conv (t := 39) rfl (cond_t hp)).conv (t := 40) rfl (cond_t hp)).sub (ts := [39, 40]) rfl) (fun hp _ hw => Ob_sidx tTreeS rfl rfl rfl rfl (slPl ((H.blw hw).sl 0 rfl) (hg6 hp)) (hg6 hp)) ?_; clear Z a; intro a Z
    refine gq_ob Z (p := (decide (k_2 < (out.length : Int)))) (v := .string (l.getD (i).toNat default)) (S' := [(41, .pointer (some ⟨blkOf v1_l, oofOf v1_l + (i).toNat * 1, none⟩))]) rfl rfl rfl (wantB_t _) rfl (by decide) (fun hp hS => (hS.conv (t := 41) rfl (cond_t hp)).sub (ts := [41]) rfl) (fun hp _ hw => Ob_load tTreeS rfl rfl rfl ((slFl ((H.blw hw).sl 0 rfl) (hg6 hp)) 0 _ rfl)) ?_; clear Z a; intro a Z
    refine gq_ob Z (p := (decide (k_2 < (out.length : Int)))) (v := .bool (seqB (out.getD (k_2).toNat default) (l.getD (i).toNat default))) (S' := [(38, .string (out.getD (k_2).toNat default)), (42, .string (l.getD (i).toNat default))]) rfl rfl rfl (wantB_t _) rfl (by decide) (fun hp hS => ((hS.conv (t := 38) rfl (cond_t hp)).conv (t := 42) rfl (cond_t hp)).sub (ts := [38, 42]) rfl) (fun hp _ hw => Ob_c tTreeS rfl) ?_; clear Z a; intro a Z
    refine q_ob Z (v := .bool ((decide (k_2 < (out.length : Int))) && (seqB (out.getD (k_2).toNat default) (l.getD (i).toNat default)))) rfl rfl (by decide) rfl (fun _ hw => Ob_pick rfl rfl rfl rfl (pick_and _ _)) ?_; clear Z a; intro a Z
    refine q_end Z [0, 2, 3, 4, 5, 7, 8, 9, 10, 13, 14, 15, 16, 17, 27, 30, 31, 32, 33, 34, 44] rfl ?_; clear Z; intro w5 hb Z
    replace H : Hf I D w I3 w5 [SlC NS v1_l l, SlC NS v2 out] := H.blw hb
    clear hb
    refine p_then ?_
    refine f_cond Z rfl (fun hc3 => ?_) (fun hc3 => ?_)
    ·replace hF := ite_t hc3 hF
     refine wp_exit ?_
     refine p_then_x ?_
     refine f_exit_here ?_
     refine p_then ?_
     exact ⟨out, k_2, k_2, decide (k_2 < (out.length : Int)), decide (k_2 < (out.length : Int)), (decide (k_2 < (out.length : Int))) && (sltB (out.getD (k_2).toNat default) (l.getD (i).toNat default)), k_2, decide (k_2 < (out.length : Int)), decide (k_2 < (out.length : Int)), (decide (k_2 < (out.length : Int))) && (seqB (out.getD (k_2).toNat default) (l.getD (i).toNat default)), v2, Z.sub (ts := [0, 2, 3, 4, 5, 7, 8, 9, 10, 13, 14, 15, 16, 17, 27, 30, 31, 32, 33, 34, 44]) rfl, ⟨I3, (H.sub [(0, true), (1, true), (1, true)] rfl).eq rfl⟩, hF⟩
    ·replace hF := ite_f hc3 hF
     refine wp_skip ?_
     refine p_then (wp_seq ?_)
     obtain ⟨hg7, hF⟩ := chk_in hF
     replace H : Hf I D w I3 w5 [SlC NS (subV v2 0 ((k_2).toNat) 1) (out.take ((k_2).toNat)), SlC NS v1_l l, SlC NS v2 out] := H.slPart_to 1 rfl hg7 1 rfl
     obtain ⟨hg8, hF⟩ := chk_in hF
     obtain ⟨hg9, hF⟩ := chk_in hF
     obtain ⟨hg10, hF⟩ := chk_in hF
     obtain ⟨hg11, hF⟩ := chk_in hF
     refine f_regionG Z (by kernel_rfl) (by kernel_rfl) (by decide) (by decide) [0, 4, 9, 10] [(0, [0, 4]), (0, [0, 1, 4, 5]), (0, [0, 1, 4, 5]), (6, [0, 1, 4, 5]), (15, [1, 5]), (0, [0, 1, 3]), (0, [0, 1, 3]), (96, [0, 1, 3]), (224, [0, 1, 3]), (480, [0, 1, 3]), (1023, [7]), (2047, [15])] (by kernel_rfl) (fun jj => match jj with | 11 => 10 | _ => jj) (by kernel_rfl) (fun jj rv vv => match jj with | 0 => vv = .slice (some ⟨blkOf vv, 0, none⟩) 0 0 | 1 => vv = v2 | 2 => vv = .int .i64 k_2 | 3 => vv = subV v2 0 ((k_2).toNat) 1 | 4 => True | 5 => vv = v1_l | 6 => vv = .int .i64 i | 7 => vv = .pointer (some ⟨blkOf v1_l, oofOf v1_l + (i).toNat * 1, none⟩) | 8 => vv = .string (l.getD (i).toNat default) | 9 => vv = .slice (some ⟨blkOf vv, 0, none⟩) 1 1 | 10 => True | 11 => vv = rv | _ => True) (fun ss vals1 xw => match ss with | 0 => Gx I D w I3 w5 xw [SlC NS (subV v2 0 ((k_2).toNat) 1) (out.take ((k_2).toNat)), SlC NS v1_l l, SlC NS v2 out] | 1 => Gx I D w I3 w5 xw [BxC (blkOf (vals1 0)) 9 [], SlC NS (subV v2 0 ((k_2).toNat) 1) (out.take ((k_2).toNat)), SlC NS v1_l l, SlC NS v2 out] | 3 => Gx I D w I3 w5 xw [OwC NS 9 (vals1 4) (([] : List ByteArray) ++ (out.take ((k_2).toNat))), SlC NS (subV v2 0 ((k_2).toNat) 1) (out.take ((k_2).toNat)), SlC NS v1_l l, SlC NS v2 out] | 4 => Gx I D w I3 w5 xw [BxC (blkOf (vals1 9)) 9 [.string (l.getD (i).toNat default)], SlC NS (subV v2 0 ((k_2).toNat) 1) (out.take ((k_2).toNat)), SlC NS v1_l l, SlC NS v2 out] | 5 => Gx I D w I3 w5 xw [BxC (blkOf (vals1 9)) 9 [.string (l.getD (i).toNat default)], BxC (blkOf (vals1 0)) 9 [], SlC NS (subV v2 0 ((k_2).toNat) 1) (out.take ((k_2).toNat)), SlC NS v1_l l, SlC NS v2 out] | 7 => Gx I D w I3 w5 xw [BxC (blkOf (vals1 9)) 9 [.string (l.getD (i).toNat default)], OwC NS 9 (vals1 4) (([] : List ByteArray) ++ (out.take ((k_2).toNat))), SlC NS (subV v2 0 ((k_2).toNat) 1) (out.take ((k_2).toNat)), SlC NS v1_l l, SlC NS v2 out] | _ => Gx I D w I3 w5 xw [OwC NS 9 (vals1 10) ((([] : List ByteArray) ++ (out.take ((k_2).toNat))) ++ [(l.getD (i).toNat default)]), SlC NS (subV v2 0 ((k_2).toNat) 1) (out.take ((k_2).toNat)), SlC NS v1_l l, SlC NS v2 out]) (fun _ => Gx.start H) ?_ ?_
     ·intro fr hfr hfe
      refine .cons (fun ss hs vals1 xw hG hV => ?_) ?_
      ·obtain rfl | rfl : ss = 0 ∨ ss = 4 := by simpa using hs
       ·rw [← hfe]
        have hS := (hfr vals1).sub (ts := []) (S' := []) rfl
        obtain ⟨I2, hI2, H⟩ := Gx.ex hG
        exact L_bslice H (vs := []) (cl := []) (e := 9) hS rfl rfl rfl (fun w => run_bslice (z := .string ByteArray.empty) (m := 1) Try.underlying22 (by kernel_rfl) rfl rfl (by decide) (by simp [Instr.fill, Value.cells]) w) fun yw b hK H => ⟨rfl, Gx.go hG hI2 hK (fun _ h => h) H⟩
       ·rw [← hfe]
        have hS := (hfr vals1).sub (ts := []) (S' := []) rfl
        obtain ⟨I2, hI2, H⟩ := Gx.ex hG
        exact L_bslice H (vs := []) (cl := []) (e := 9) hS rfl rfl rfl (fun w => run_bslice (z := .string ByteArray.empty) (m := 1) Try.underlying22 (by kernel_rfl) rfl rfl (by decide) (by simp [Instr.fill, Value.cells]) w) fun yw b hK H => ⟨rfl, Gx.go hG hI2 hK (fun _ h => h) (Hf.sub H [(1, false), (0, false), (0, true), (1, true), (2, true)] rfl)⟩
      refine .cons (fun ss hs vals1 xw hG hV => ?_) ?_
      ·obtain rfl | rfl | rfl | rfl : ss = 0 ∨ ss = 1 ∨ ss = 4 ∨ ss = 5 := by simpa using hs
       all_goals
       ·rw [← hfe]
        have hS := (hfr vals1).sub (ts := [3]) (S' := [(3, v2)]) rfl
        exact L_val hS rfl (Ob_c tTreeS rfl) ⟨rfl, hG⟩
      refine .cons (fun ss hs vals1 xw hG hV => ?_) ?_
      ·obtain rfl | rfl | rfl | rfl : ss = 0 ∨ ss = 1 ∨ ss = 4 ∨ ss = 5 := by simpa using hs
       all_goals
       ·rw [← hfe]
        have hS := (hfr vals1).sub (ts := [5]) (S' := [(5, .int .i64 k_2)]) rfl
        exact L_val hS rfl (Ob_c tTreeS rfl) ⟨rfl, hG⟩
      refine .cons (fun ss hs vals1 xw hG hV => ?_) ?_
      ·obtain rfl | rfl | rfl | rfl : ss = 0 ∨ ss = 1 ∨ ss = 4 ∨ ss = 5 := by simpa using hs
       ·rw [← hfe]
        have hS := (hfr vals1).sub (ts := [46, 47]) (S' := [(46, vals1 1), (47, vals1 2)]) rfl
        replace hS := hS.conv (t := 46) rfl (show (vals1 1) = v2 from hV 1 (by decide))
        replace hS := hS.conv (t := 47) rfl (show (vals1 2) = .int .i64 k_2 from hV 2 (by decide))
        obtain ⟨I2, hI2, H⟩ := Gx.ex hG
        exact L_val hS rfl (Ob_sub_to tTreeS rfl rfl rfl rfl (H.slshape 2 rfl) hg8) ⟨rfl, hG⟩
       ·rw [← hfe]
        have hS := (hfr vals1).sub (ts := [46, 47]) (S' := [(46, vals1 1), (47, vals1 2)]) rfl
        replace hS := hS.conv (t := 46) rfl (show (vals1 1) = v2 from hV 1 (by decide))
        replace hS := hS.conv (t := 47) rfl (show (vals1 2) = .int .i64 k_2 from hV 2 (by decide))
        obtain ⟨I2, hI2, H⟩ := Gx.ex hG
        exact L_val hS rfl (Ob_sub_to tTreeS rfl rfl rfl rfl (H.slshape 3 rfl) hg8) ⟨rfl, hG⟩
       ·rw [← hfe]
        have hS := (hfr vals1).sub (ts := [46, 47]) (S' := [(46, vals1 1), (47, vals1 2)]) rfl
        replace hS := hS.conv (t := 46) rfl (show (vals1 1) = v2 from hV 1 (by decide))
        replace hS := hS.conv (t := 47) rfl (show (vals1 2) = .int .i64 k_2 from hV 2 (by decide))
        obtain ⟨I2, hI2, H⟩ := Gx.ex hG
        exact L_val hS rfl (Ob_sub_to tTreeS rfl rfl rfl rfl (H.slshape 3 rfl) hg8) ⟨rfl, hG⟩
       ·rw [← hfe]
        have hS := (hfr vals1).sub (ts := [46, 47]) (S' := [(46, vals1 1), (47, vals1 2)]) rfl
        replace hS := hS.conv (t := 46) rfl (show (vals1 1) = v2 from hV 1 (by decide))
        replace hS := hS.conv (t := 47) rfl (show (vals1 2) = .int .i64 k_2 from hV 2 (by decide))
        obtain ⟨I2, hI2, H⟩ := Gx.ex hG
        exact L_val hS rfl (Ob_sub_to tTreeS rfl rfl rfl rfl (H.slshape 4 rfl) hg8) ⟨rfl, hG⟩
      refine .cons (fun ss hs vals1 xw hG hV => ?_) ?_
      ·obtain rfl | rfl : ss = 1 ∨ ss = 5 := by simpa using hs
       ·rw [← hfe]
        have hS := (hfr vals1).sub (ts := [45, 48]) (S' := [(45, vals1 0), (48, vals1 3)]) rfl
        replace hS := hS.conv (t := 45) rfl (show (vals1 0) = .slice (some ⟨blkOf (vals1 0), 0, none⟩) 0 0 from hV 0 (by decide))
        replace hS := hS.conv (t := 48) rfl (show (vals1 3) = subV v2 0 ((k_2).toNat) 1 from hV 3 (by decide))
        obtain ⟨I2, hI2, H⟩ := Gx.ex hG
        replace H := H.emptyow 0 rfl NS
        exact L_appO H 0 E_22_YTreeS (out.take ((k_2).toNat)) rfl rfl hS rfl rfl rfl rfl (H.sl2 1 rfl) hg9 (by decide) fun v yw hK H => ⟨trivial, Gx.go hG hI2 hK (fun _ h => h) H⟩
       ·rw [← hfe]
        have hS := (hfr vals1).sub (ts := [45, 48]) (S' := [(45, vals1 0), (48, vals1 3)]) rfl
        replace hS := hS.conv (t := 45) rfl (show (vals1 0) = .slice (some ⟨blkOf (vals1 0), 0, none⟩) 0 0 from hV 0 (by decide))
        replace hS := hS.conv (t := 48) rfl (show (vals1 3) = subV v2 0 ((k_2).toNat) 1 from hV 3 (by decide))
        obtain ⟨I2, hI2, H⟩ := Gx.ex hG
        replace H := H.emptyow 1 rfl NS
        exact L_appO H 0 E_22_YTreeS (out.take ((k_2).toNat)) rfl rfl hS rfl rfl rfl rfl (H.sl2 2 rfl) hg9 (by decide) fun v yw hK H => ⟨trivial, Gx.go hG hI2 hK (fun _ h => h) (Hf.sub H [(1, false), (0, false), (0, true), (1, true), (2, true)] rfl)⟩
      refine .cons (fun ss hs vals1 xw hG hV => ?_) ?_
      ·obtain rfl | rfl | rfl : ss = 0 ∨ ss = 1 ∨ ss = 3 := by simpa using hs
       all_goals
       ·rw [← hfe]
        have hS := (hfr vals1).sub (ts := [0]) (S' := [(0, v1_l)]) rfl
        exact L_val hS rfl (Ob_c tTreeS rfl) ⟨rfl, hG⟩
      refine .cons (fun ss hs vals1 xw hG hV => ?_) ?_
      ·obtain rfl | rfl | rfl : ss = 0 ∨ ss = 1 ∨ ss = 3 := by simpa using hs
       all_goals
       ·rw [← hfe]
        have hS := (hfr vals1).sub (ts := [4]) (S' := [(4, .int .i64 i)]) rfl
        exact L_val hS rfl (Ob_c tTreeS rfl) ⟨rfl, hG⟩
      refine .cons (fun ss hs vals1 xw hG hV => ?_) ?_
      ·obtain rfl | rfl | rfl : ss = 0 ∨ ss = 1 ∨ ss = 3 := by simpa using hs
       ·rw [← hfe]
        have hS := (hfr vals1).sub (ts := [50, 51]) (S' := [(50, vals1 5), (51, vals1 6)]) rfl
        replace hS := hS.conv (t := 50) rfl (show (vals1 5) = v1_l from hV 5 (by decide))
        replace hS := hS.conv (t := 51) rfl (show (vals1 6) = .int .i64 i from hV 6 (by decide))
        obtain ⟨I2, hI2, H⟩ := Gx.ex hG
        exact L_val hS rfl (Ob_sidx tTreeS rfl rfl rfl rfl (slPl (H.sl 1 rfl) hg10) hg10) ⟨rfl, hG⟩
       ·rw [← hfe]
        have hS := (hfr vals1).sub (ts := [50, 51]) (S' := [(50, vals1 5), (51, vals1 6)]) rfl
        replace hS := hS.conv (t := 50) rfl (show (vals1 5) = v1_l from hV 5 (by decide))
        replace hS := hS.conv (t := 51) rfl (show (vals1 6) = .int .i64 i from hV 6 (by decide))
        obtain ⟨I2, hI2, H⟩ := Gx.ex hG
        exact L_val hS rfl (Ob_sidx tTreeS rfl rfl rfl rfl (slPl (H.sl 2 rfl) hg10) hg10) ⟨rfl, hG⟩
       ·rw [← hfe]
        have hS := (hfr vals1).sub (ts := [50, 51]) (S' := [(50, vals1 5), (51, vals1 6)]) rfl
        replace hS := hS.conv (t := 50) rfl (show (vals1 5) = v1_l from hV 5 (by decide))
        replace hS := hS.conv (t := 51) rfl (show (vals1 6) = .int .i64 i from hV 6 (by decide))
        obtain ⟨I2, hI2, H⟩ := Gx.ex hG
        exact L_val hS rfl (Ob_sidx tTreeS rfl rfl rfl rfl (slPl (H.sl 2 rfl) hg10) hg10) ⟨rfl, hG⟩
      refine .cons (fun ss hs vals1 xw hG hV => ?_) ?_
      ·obtain rfl | rfl | rfl : ss = 0 ∨ ss = 1 ∨ ss = 3 := by simpa using hs
       ·rw [← hfe]
        have hS := (hfr vals1).sub (ts := [52]) (S' := [(52, vals1 7)]) rfl
        replace hS := hS.conv (t := 52) rfl (show (vals1 7) = .pointer (some ⟨blkOf v1_l, oofOf v1_l + (i).toNat * 1, none⟩) from hV 7 (by decide))
        obtain ⟨I2, hI2, H⟩ := Gx.ex hG
        exact L_val hS rfl (Ob_load tTreeS rfl rfl rfl ((slFl (H.sl 1 rfl) hg10) 0 _ rfl)) ⟨rfl, hG⟩
       ·rw [← hfe]
        have hS := (hfr vals1).sub (ts := [52]) (S' := [(52, vals1 7)]) rfl
        replace hS := hS.conv (t := 52) rfl (show (vals1 7) = .pointer (some ⟨blkOf v1_l, oofOf v1_l + (i).toNat * 1, none⟩) from hV 7 (by decide))
        obtain ⟨I2, hI2, H⟩ := Gx.ex hG
        exact L_val hS rfl (Ob_load tTreeS rfl rfl rfl ((slFl (H.sl 2 rfl) hg10) 0 _ rfl)) ⟨rfl, hG⟩
       ·rw [← hfe]
        have hS := (hfr vals1).sub (ts := [52]) (S' := [(52, vals1 7)]) rfl
        replace hS := hS.conv (t := 52) rfl (show (vals1 7) = .pointer (some ⟨blkOf v1_l, oofOf v1_l + (i).toNat * 1, none⟩) from hV 7 (by decide))
        obtain ⟨I2, hI2, H⟩ := Gx.ex hG
        exact L_val hS rfl (Ob_load tTreeS rfl rfl rfl ((slFl (H.sl 2 rfl) hg10) 0 _ rfl)) ⟨rfl, hG⟩
      refine .cons (fun ss hs vals1 xw hG hV => ?_) ?_
      ·obtain rfl | rfl | rfl : ss = 0 ∨ ss = 1 ∨ ss = 3 := by simpa using hs
       all_goals
       ·rw [← hfe]
        have hS := (hfr vals1).sub (ts := [53]) (S' := [(53, vals1 8)]) rfl
        replace hS := hS.conv (t := 53) rfl (show (vals1 8) = .string (l.getD (i).toNat default) from hV 8 (by decide))
        obtain ⟨I2, hI2, H⟩ := Gx.ex hG
        exact L_bslice H (vs := [(0, .string (l.getD (i).toNat default))]) (cl := [.string (l.getD (i).toNat default)]) (e := 9) hS rfl rfl rfl (fun w => run_bslice (z := .string ByteArray.empty) (m := 1) Try.underlying22 (by kernel_rfl) rfl rfl (by decide) (by simp [Instr.fill, Value.cells]) w) fun yw b hK H => ⟨rfl, Gx.go hG hI2 hK (fun _ h => h) H⟩
      refine .cons (fun ss hs vals1 xw hG hV => ?_) ?_
      ·obtain rfl : ss = 7 := by simpa using hs
       rw [← hfe]
       have hS := (hfr vals1).sub (ts := [49, 54]) (S' := [(49, vals1 4), (54, vals1 9)]) rfl
       replace hS := hS.conv (t := 54) rfl (show (vals1 9) = .slice (some ⟨blkOf (vals1 9), 0, none⟩) 1 1 from hV 9 (by decide))
       obtain ⟨I2, hI2, H⟩ := Gx.ex hG
       exact L_appO H 1 E_22_YTreeS [(l.getD (i).toNat default)] rfl rfl hS rfl rfl rfl rfl (slRep2.box1 (H.bx 0 rfl) ⟨rfl, trivial⟩) hg11 (by decide) fun v yw hK H => ⟨trivial, Gx.go hG hI2 hK (fun _ h => h) (H.sub [(0, false), (1, true), (2, true), (3, true)] rfl)⟩
      refine .cons (fun ss hs vals1 xw hG hV => ?_) ?_
      ·obtain rfl : ss = 15 := by simpa using hs
       rw [← hfe]
       have hS := (hfr vals1).sub (ts := [55]) (S' := [(55, vals1 10)]) rfl
       exact L_val hS rfl (Ob_c tTreeS rfl) ⟨rfl, hG⟩
      exact .nil
     ·intro vals1 a w6 Z hG hV
      replace Z := Z.sub (ts := [0, 2, 3, 4, 5, 7, 8, 9, 10, 13, 14, 15, 16, 17, 27, 30, 31, 32, 33, 34, 44, 45, 46, 47, 48, 49, 50, 51, 52, 53, 54, 55, 6]) (S' := [(0, v1_l), (2, .slice none 0 0), (3, v2), (4, .int .i64 i), (5, .int .i64 k_2), (7, .int .i64 i), (8, v1_l), (9, .int .i64 (l.length : Int)), (10, .bool (decide (i < (l.length : Int)))), (13, .int .i64 k_2), (14, v2), (15, .int .i64 (out.length : Int)), (16, .bool (decide (k_2 < (out.length : Int)))), (17, .bool (decide (k_2 < (out.length : Int)))), (27, .bool ((decide (k_2 < (out.length : Int))) && (sltB (out.getD (k_2).toNat default) (l.getD (i).toNat default)))), (30, .int .i64 k_2), (31, v2), (32, .int .i64 (out.length : Int)), (33, .bool (decide (k_2 < (out.length : Int)))), (34, .bool (decide (k_2 < (out.length : Int)))), (44, .bool ((decide (k_2 < (out.length : Int))) && (seqB (out.getD (k_2).toNat default) (l.getD (i).toNat default)))), (45, vals1 0), (46, vals1 1), (47, vals1 2), (48, vals1 3), (49, vals1 4), (50, vals1 5), (51, vals1 6), (52, vals1 7), (53, vals1 8), (54, vals1 9), (55, vals1 10), (6, vals1 11)]) rfl
      replace Z := Z.conv (t := 45) rfl (show (vals1 0) = .slice (some ⟨blkOf (vals1 0), 0, none⟩) 0 0 from hV 0 (by decide))
      replace Z := Z.conv (t := 46) rfl (show (vals1 1) = v2 from hV 1 (by decide))
      replace Z := Z.conv (t := 47) rfl (show (vals1 2) = .int .i64 k_2 from hV 2 (by decide))
      replace Z := Z.conv (t := 48) rfl (show (vals1 3) = subV v2 0 ((k_2).toNat) 1 from hV 3 (by decide))
      replace Z := Z.conv (t := 50) rfl (show (vals1 5) = v1_l from hV 5 (by decide))
      replace Z := Z.conv (t := 51) rfl (show (vals1 6) = .int .i64 i from hV 6 (by decide))
      replace Z := Z.conv (t := 52) rfl (show (vals1 7) = .pointer (some ⟨blkOf v1_l, oofOf v1_l + (i).toNat * 1, none⟩) from hV 7 (by decide))
      replace Z := Z.conv (t := 53) rfl (show (vals1 8) = .string (l.getD (i).toNat default) from hV 8 (by decide))
      replace Z := Z.conv (t := 54) rfl (show (vals1 9) = .slice (some ⟨blkOf (vals1 9), 0, none⟩) 1 1 from hV 9 (by decide))
      replace Z := Z.conv (t := 6) rfl (show (vals1 11) = (vals1 10) from hV 11 (by decide))
      obtain ⟨I4, _, H⟩ := Gx.ex hG
      clear hG hV
      replace Z := Z.sub (ts := [0, 2, 3, 4, 5, 7, 8, 9, 10, 13, 14, 15, 16, 17, 27, 30, 31, 32, 33, 34, 44, 45, 46, 47, 48, 49, 50, 51, 52, 53, 54, 55, 6]) rfl
      replace H : Hf I D w I4 w6 [OwC NS 9 (vals1 10) ((([] : List ByteArray) ++ (out.take ((k_2).toNat))) ++ [(l.getD (i).toNat default)]), SlC NS (subV v2 0 ((k_2).toNat) 1) (out.take ((k_2).toNat)), SlC NS v1_l l, SlC NS v2 out] := H
      refine p_then (wp_seq ?_)
      obtain ⟨hg12, hF⟩ := chk_in hF
      obtain ⟨hg13, hF⟩ := chk_in hF
      refine f_region Z ?_; clear Z; intro Z
      refine s_runk tTreeS Z 3 rfl rfl ?_; clear Z a; intro a Z
      replace H : Hf I D w I4 w6 [SlC NS (subV v2 ((k_2).toNat) out.length 1) (out.drop ((k_2).toNat)), OwC NS 9 (vals1 10) ((([] : List ByteArray) ++ (out.take ((k_2).toNat))) ++ [(l.getD (i).toNat default)]), SlC NS (subV v2 0 ((k_2).toNat) 1) (out.take ((k_2).toNat)), SlC NS v1_l l, SlC NS v2 out] := H.slPart_from 3 rfl hg12 1 rfl
      refine s_ob Z (v := subV v2 ((k_2).toNat) out.length 1) rfl rfl (by decide) rfl (Ob_sub_from tTreeS rfl rfl rfl rfl (H.slshape 4 rfl) hg12) ?_; clear Z a; intro a Z
      refine h_appO Z H 1 E_22_YTreeS (out.drop ((k_2).toNat)) rfl rfl rfl rfl rfl (by decide) rfl rfl rfl (H.sl2 0 rfl) hg13 (by decide) ?_; clear Z a H; intro v4 a w7 H Z
      dsimp only [List.eraseIdx] at H
      refine s_runk tTreeS Z 1 rfl rfl ?_; clear Z a; intro a Z
      refine s_end Z [0, 2, 3, 4, 5, 7, 8, 9, 10, 13, 14, 15, 16, 17, 27, 30, 31, 32, 33, 34, 44, 45, 46, 47, 48, 49, 50, 51, 52, 53, 54, 55, 6, 56, 57, 58, 59, 60] rfl ?_; clear Z; intro Z
      refine p_then ?_
      refine f_region Z ?_; clear Z; intro Z
      refine s_runk tTreeS Z 2 rfl rfl ?_; clear Z a; intro a Z
      refine s_end Z [0, 2, 3, 4, 5, 7, 8, 9, 10, 13, 14, 15, 16, 17, 27, 30, 31, 32, 33, 34, 44, 45, 46, 47, 48, 49, 50, 51, 52, 53, 54, 55, 6, 56, 57, 58, 59, 60, 61] rfl ?_; clear Z; intro Z
      refine p_blk ?_
      refine p_then ?_
      obtain ⟨I5, _, H⟩ := H.frzow 0 rfl
      replace H : Hf I D w I5 w7 [SlC NS v4 (((([] : List ByteArray) ++ (out.take ((k_2).toNat))) ++ [(l.getD (i).toNat default)]) ++ (out.drop ((k_2).toNat))), SlC NS (subV v2 ((k_2).toNat) out.length 1) (out.drop ((k_2).toNat)), SlC NS (subV v2 0 ((k_2).toNat) 1) (out.take ((k_2).toNat)), SlC NS v1_l l, SlC NS v2 out] := H
      exact ⟨((([] : List ByteArray) ++ (out.take ((k_2).toNat))) ++ [(l.getD (i).toNat default)]) ++ (out.drop ((k_2).toNat)), k_2, k_2, decide (k_2 < (out.length : Int)), decide (k_2 < (out.length : Int)), (decide (k_2 < (out.length : Int))) && (sltB (out.getD (k_2).toNat default) (l.getD (i).toNat default)), k_2, decide (k_2 < (out.length : Int)), decide (k_2 < (out.length : Int)), (decide (k_2 < (out.length : Int))) && (seqB (out.getD (k_2).toNat default) (l.getD (i).toNat default)), v4, Z.sub (ts := [0, 2, 3, 4, 5, 7, 8, 9, 10, 13, 14, 15, 16, 17, 27, 30, 31, 32, 33, 34, 44]) rfl, ⟨I5, (H.sub [(3, true), (4, true), (0, true)] rfl).eq rfl⟩, hF⟩
 ·replace hF := ite_f hc1 hF
  refine wp_exit ?_
  refine p_then_x ?_
  refine p_then_x ?_
  refine f_exit_here ?_
  refine p_then (wp_seq (f_region Z ?_)); clear Z; intro Z
  refine s_runk tTreeS Z 2 rfl rfl ?_; clear Z a; intro a Z
  refine s_end Z [2] rfl ?_; clear Z; intro Z
  refine p_then (wp_ret ?_)
  obtain rfl := some_in hF
  exact f_ret Z (run_results1 rfl Z rfl) ⟨v2, rfl, I1, (H.sub [(1, true)] rfl).eq rfl⟩

def F_law15_TreeOrder_l2 (l : List ByteArray) (from_ : ByteArray) (to_ : ByteArray) (t : Etree_Tree_int) (u : Etree_Tree_int) (rc_2 : Int → Option Bool) (sg : Int) : Option Bool := match sg with | i_4 => if (decide (i_4 < min (l.length : Int) 60)) = true then (chk ((0 : Int) ≤ i_4 ∧ i_4 < (l.length : Int)) ((F_tree_Tree_int_Get t (l.getD (i_4).toNat default)).bind fun g => (chk ((0 : Int) ≤ i_4 ∧ i_4 < (l.length : Int)) (if ((g.1 != ((l.getD (i_4).toNat default).size : Int)) || (!g.2)) = true then (some false) else (chk (inI (i_4 + 1)) (rc_2 (i_4 + 1))))))) else (chk ((0 : Int) ≤ min (l.length : Int) 60 ∧ min (l.length : Int) 60 ≤ (l.length : Int)) ((F_tree_Tree_int_Len t).bind fun l_2 => ((F_tree_Tree_int_Len u).bind fun l_3 => ((gif (l_2 == l_3) (F_tree_Tree_int_Keys t from_ to_) default).bind fun k => ((gif (l_2 == l_3) (F_tree_Tree_int_Keys u from_ to_) default).bind fun k_2 => ((gif (l_2 == l_3) (F_ref05_Same k.1 k_2.1) default).bind fun s0 => ((gif ((l_2 == l_3) && s0) (F_tree_Tree_int_Keys (cond (l_2 == l_3) k.2 t) ⟨#[]⟩ ⟨#[]⟩) default).bind fun k_3 => (chk ((0 : Int) ≤ min (l.length : Int) 60 ∧ min (l.length : Int) 60 ≤ (l.length : Int)) ((gif ((l_2 == l_3) && s0) (F_ref05_Set (l.take ((min (l.length : Int) 60).toNat))) default).bind fun s0_2 => ((gif ((l_2 == l_3) && s0) (F_ref05_Same k_3.1 s0_2) default).bind fun s0_3 => ((gif (((l_2 == l_3) && s0) && s0_3) (F_law15_awake) default).bind fun a0 => (some ((((l_2 == l_3) && s0) && s0_3) && a0)))))))))))))

def F_law15_TreeOrder_l1 (l : List ByteArray) (from_ : ByteArray) (to_ : ByteArray) (rc : (Int × Etree_Tree_int × Etree_Tree_int) → Option Bool) (sg : Int × Etree_Tree_int × Etree_Tree_int) : Option Bool := match sg with | (i_3, t, u) => if (decide (i_3 < min (l.length : Int) 60)) = true then (chk ((0 : Int) ≤ i_3 ∧ i_3 < (l.length : Int)) (chk ((0 : Int) ≤ i_3 ∧ i_3 < (l.length : Int)) ((F_tree_Tree_int_Put t (l.getD (i_3).toNat default) ((l.getD (i_3).toNat default).size : Int)).bind fun p => (chk (inI (min (l.length : Int) 60 - 1)) (chk (inI (min (l.length : Int) 60 - 1 - i_3)) (chk ((0 : Int) ≤ min (l.length : Int) 60 - 1 - i_3 ∧ min (l.length : Int) 60 - 1 - i_3 < (l.length : Int)) (chk (inI (min (l.length : Int) 60 - 1)) (chk (inI (min (l.length : Int) 60 - 1 - i_3)) (chk ((0 : Int) ≤ min (l.length : Int) 60 - 1 - i_3 ∧ min (l.length : Int) 60 - 1 - i_3 < (l.length : Int)) ((F_tree_Tree_int_Put u (l.getD (min (l.length : Int) 60 - 1 - i_3).toNat default) ((l.getD (min (l.length : Int) 60 - 1 - i_3).toNat default).size : Int)).bind fun p_2 => (chk (inI (i_3 + 1)) (rc (i_3 + 1, p.2, p_2.2))))))))))))) else (iter (F_law15_TreeOrder_l2 l from_ to_ t u) FU 0)

def F_law15_TreeOrder (l : List ByteArray) (from_ : ByteArray) (to_ : ByteArray) : Option Bool := (F_tree_New_int).bind fun i => ((F_tree_New_int).bind fun i_2 => (iter (F_law15_TreeOrder_l1 l from_ to_) FU (0, i, i_2)))

set_option maxHeartbeats 1000000 in
theorem c_law15_TreeOrder {I D : Dm} {l : List ByteArray} {v1_l : Value} {from_ : ByteArray} {to_ : ByteArray} {w : World} {rr : Bool} (hF : F_law15_TreeOrder l from_ to_ = some rr) (H : St I D w [SlC NS v1_l l]) :
  Calls Try.prog 3 #[v1_l, .string from_, .string to_] w (Ret fun vv w' => vv = .bool rr ∧ ∃ I', Hf I D w I' w' []) := by
 replace H := H.hf
 unfold F_law15_TreeOrder at hF
 refine f_enter 105 Try.func3 rfl rfl (Nat.le_of_ble_eq_true rfl) fun a Z => ?_
 replace Z := Z.sub (ts := [0, 1, 2]) rfl
 refine wp_seq (f_region Z ?_); clear Z; intro Z
 refine s_runk tTreeS Z 1 rfl rfl ?_; clear Z a; intro a Z
 refine s_end Z [0, 1, 2, 6] rfl ?_; clear Z; intro Z
 refine p_then (wp_seq ?_)
 obtain ⟨i, hx1, hF⟩ := bnd_in hF
 refine f_region Z ?_; clear Z; intro Z
 refine h_call Z H (js := []) rfl (caps := #[]) fn_7_YTreeS rfl rfl rfl rfl rfl (by decide) rfl rfl (fun D1 hS => have hq := c_tree_New_int hx1 hS; hq) ?_; clear Z a; intro vv a w1 D2 hr hF2 Z
 obtain ⟨g1, rfl, I1, K⟩ := hr
 have H : Hf I D w I1 w1 [OEtree_Tree_int g1 i, SlC NS v1_l l] := hF2 K
 clear hF2 K
 refine s_runk tTreeS Z 1 rfl rfl ?_; clear Z a; intro a Z
 refine s_end Z [0, 1, 2, 6, 7] rfl ?_; clear Z; intro Z
 refine p_then (wp_seq ?_)
 obtain ⟨i_2, hx2, hF⟩ := bnd_in hF
 refine f_region Z ?_; clear Z; intro Z
 refine h_call Z H (js := []) rfl (caps := #[]) fn_7_YTreeS rfl rfl rfl rfl rfl (by decide) rfl rfl (fun D1 hS => have hq := c_tree_New_int hx2 hS; hq) ?_; clear Z a; intro vv a w2 D2 hr hF2 Z
 obtain ⟨g2, rfl, I2, K⟩ := hr
 have H : Hf I D w I2 w2 [OEtree_Tree_int g2 i_2, OEtree_Tree_int g1 i, SlC NS v1_l l] := hF2 K
 clear hF2 K
 refine s_runk tTreeS Z 1 rfl rfl ?_; clear Z a; intro a Z
 refine s_end Z [0, 1, 2, 6, 7, 8] rfl ?_; clear Z; intro Z
 refine p_then (wp_seq (f_region Z ?_)); clear Z; intro Z
 refine s_runk tTreeS Z 1 rfl rfl ?_; clear Z a; intro a Z
 refine s_ob Z (v := .int .i64 (l.length : Int)) rfl rfl (by decide) rfl (Ob_slen tTreeS rfl rfl rfl (H.slshape 2 rfl)) ?_; clear Z a; intro a Z
 refine s_runk tTreeS Z 2 rfl rfl ?_; clear Z a; intro a Z
 refine s_end Z [0, 1, 2, 6, 7, 8, 9] rfl ?_; clear Z; intro Z
 refine p_then (wp_seq ?_)
 refine wp_seq (f_region Z ?_); clear Z; intro Z
 refine s_runk tTreeS Z 1 rfl rfl ?_; clear Z a; intro a Z
 refine s_end Z [0, 1, 2, 6, 7, 8, 9, 10] rfl ?_; clear Z; intro Z
 refine p_then (wp_block ?_)
 refine f_iter hF (fun sg a' w' => match sg with | (i_3, t, u) => Sl 105 [(0, v1_l), (1, .string from_), (2, .string to_), (6, .bool false), (7, .pointer (some ⟨g1, 0, none⟩)), (8, .pointer (some ⟨g2, 0, none⟩)), (9, .int .i64 (min (l.length : Int) 60)), (10, .int .i64 i_3)] a' ∧ ∃ I2, Hf I D w I2 w' [OEtree_Tree_int g1 t, OEtree_Tree_int g2 u, SlC NS v1_l l]) ⟨Z.sub (ts := [0, 1, 2, 6, 7, 8, 9, 10]) rfl, ⟨I2, (H.sub [(1, false), (0, false), (0, true)] rfl).eq rfl⟩⟩ ?_
 clear Z H hF a
 rintro rc ⟨i_3, t, u⟩ a w3 ⟨Z, I3, H⟩ hF
 unfold F_law15_TreeOrder_l1 at hF
 try dsimp only at hF
 refine wp_seq ?_
 refine wp_seq (f_region Z ?_); clear Z; intro Z
 refine s_runk tTreeS Z 3 rfl rfl ?_; clear Z a; intro a Z
 refine s_end Z [0, 1, 2, 6, 7, 8, 9, 10, 19, 20, 21] rfl ?_; clear Z; intro Z
 refine p_then ?_
 refine f_cond Z rfl (fun hc1 => ?_) (fun hc1 => ?_)
 ·replace hF := ite_t hc1 hF
  refine wp_skip ?_
  refine p_then (wp_seq ?_)
  refine wp_block ?_
  refine wp_seq ?_
  obtain ⟨hg1, hF⟩ := chk_in hF
  obtain ⟨hg2, hF⟩ := chk_in hF
  obtain ⟨p, hx3, hF⟩ := bnd_in hF
  refine f_quietS 10 (by kernel_rfl) (by kernel_rfl) (by kernel_rfl) (by kernel_rfl) (by kernel_rfl) Z ?_; clear Z; intro Z
  refine q_runk tTreeS Z 3 rfl rfl ?_; clear Z a; intro a Z
  refine q_ob Z (v := .pointer (some ⟨blkOf v1_l, oofOf v1_l + (i_3).toNat * 1, none⟩)) rfl rfl (by decide) rfl (fun _ hw => Ob_sidx tTreeS rfl rfl rfl rfl (slPl ((H.blw hw).sl 2 rfl) hg1) hg1) ?_; clear Z a; intro a Z
  refine q_ob Z (v := .string (l.getD (i_3).toNat default)) rfl rfl (by decide) rfl (fun _ hw => Ob_load tTreeS rfl rfl rfl ((slFl ((H.blw hw).sl 2 rfl) hg1) 0 _ rfl)) ?_; clear Z a; intro a Z
  refine q_runk tTreeS Z 2 rfl rfl ?_; clear Z a; intro a Z
  refine q_ob Z (v := .pointer (some ⟨blkOf v1_l, oofOf v1_l + (i_3).toNat * 1, none⟩)) rfl rfl (by decide) rfl (fun _ hw => Ob_sidx tTreeS rfl rfl rfl rfl (slPl ((H.blw hw).sl 2 rfl) hg2) hg2) ?_; clear Z a; intro a Z
  refine q_ob Z (v := .string (l.getD (i_3).toNat default)) rfl rfl (by decide) rfl (fun _ hw => Ob_load tTreeS rfl rfl rfl ((slFl ((H.blw hw).sl 2 rfl) hg2) 0 _ rfl)) ?_; clear Z a; intro a Z
  refine q_runk tTreeS Z 1 rfl rfl ?_; clear Z a; intro a Z
  refine q_endS Z [0, 1, 2, 6, 7, 8, 9, 10, 19, 20, 21, 24, 25, 26, 27, 28, 29, 30, 31, 32, 33] rfl ?_; clear Z; intro w4 hb Z
  replace H : Hf I D w I3 w4 [OEtree_Tree_int g1 t, OEtree_Tree_int g2 u, SlC NS v1_l l] := H.blw hb
  clear hb
  refine h_call Z H (js := [(0, false)]) rfl (caps := #[]) fn_8_YTreeS rfl rfl rfl rfl rfl (by decide) rfl rfl (fun D1 hS => have hq := c_tree_Tree_int_Put hx3 hS; hq) ?_; clear Z a; intro vv a w5 D2 hr hF2 Z
  obtain ⟨rfl, I4, K⟩ := hr
  have H : Hf I D w I4 w5 [OEtree_Tree_int g1 p.2, OEtree_Tree_int g2 u, SlC NS v1_l l] := hF2 K
  clear hF2 K
  refine s_end Z [0, 1, 2, 6, 7, 8, 9, 10, 19, 20, 21, 24, 25, 26, 27, 28, 29, 30, 31, 32, 33] rfl ?_; clear Z; intro Z
  refine p_then ?_
  obtain ⟨hg3, hF⟩ := chk_in hF
  obtain ⟨hg4, hF⟩ := chk_in hF
  obtain ⟨hg5, hF⟩ := chk_in hF
  obtain ⟨hg6, hF⟩ := chk_in hF
  obtain ⟨hg7, hF⟩ := chk_in hF
  obtain ⟨hg8, hF⟩ := chk_in hF
  obtain ⟨p_2, hx4, hF⟩ := bnd_in hF
  refine f_quietS 16 (by kernel_rfl) (by kernel_rfl) (by kernel_rfl) (by kernel_rfl) (by kernel_rfl) Z ?_; clear Z; intro Z
  refine q_runk tTreeS Z 3 rfl rfl ?_; clear Z a; intro a Z
  refine q_ob Z (v := .int .i64 (min (l.length : Int) 60 - 1)) rfl rfl (by decide) rfl (fun _ hw => Ob_sub rfl rfl rfl (wrI hg3)) ?_; clear Z a; intro a Z
  refine q_runk tTreeS Z 1 rfl rfl ?_; clear Z a; intro a Z
  refine q_ob Z (v := .int .i64 (min (l.length : Int) 60 - 1 - i_3)) rfl rfl (by decide) rfl (fun _ hw => Ob_sub rfl rfl rfl (wrI hg4)) ?_; clear Z a; intro a Z
  refine q_ob Z (v := .pointer (some ⟨blkOf v1_l, oofOf v1_l + (min (l.length : Int) 60 - 1 - i_3).toNat * 1, none⟩)) rfl rfl (by decide) rfl (fun _ hw => Ob_sidx tTreeS rfl rfl rfl rfl (slPl ((H.blw hw).sl 2 rfl) hg5) hg5) ?_; clear Z a; intro a Z
  refine q_ob Z (v := .string (l.getD (min (l.length : Int) 60 - 1 - i_3).toNat default)) rfl rfl (by decide) rfl (fun _ hw => Ob_load tTreeS rfl rfl rfl ((slFl ((H.blw hw).sl 2 rfl) hg5) 0 _ rfl)) ?_; clear Z a; intro a Z
  refine q_runk tTreeS Z 2 rfl rfl ?_; clear Z a; intro a Z
  refine q_ob Z (v := .int .i64 (min (l.length : Int) 60 - 1)) rfl rfl (by decide) rfl (fun _ hw => Ob_sub rfl rfl rfl (wrI hg6)) ?_; clear Z a; intro a Z
  refine q_runk tTreeS Z 1 rfl rfl ?_; clear Z a; intro a Z
  refine q_ob Z (v := .int .i64 (min (l.length : Int) 60 - 1 - i_3)) rfl rfl (by decide) rfl (fun _ hw => Ob_sub rfl rfl rfl (wrI hg7)) ?_; clear Z a; intro a Z
  refine q_ob Z (v := .pointer (some ⟨blkOf v1_l, oofOf v1_l + (min (l.length : Int) 60 - 1 - i_3).toNat * 1, none⟩)) rfl rfl (by decide) rfl (fun _ hw => Ob_sidx tTreeS rfl rfl rfl rfl (slPl ((H.blw hw).sl 2 rfl) hg8) hg8) ?_; clear Z a; intro a Z
  refine q_ob Z (v := .string (l.getD (min (l.length : Int) 60 - 1 - i_3).toNat default)) rfl rfl (by decide) rfl (fun _ hw => Ob_load tTreeS rfl rfl rfl ((slFl ((H.blw hw).sl 2 rfl) hg8) 0 _ rfl)) ?_; clear Z a; intro a Z
  refine q_runk tTreeS Z 1 rfl rfl ?_; clear Z a; intro a Z
  refine q_endS Z [0, 1, 2, 6, 7, 8, 9, 10, 19, 20, 21, 24, 25, 26, 27, 28, 29, 30, 31, 32, 33, 35, 36, 37, 38, 39, 40, 41, 42, 43, 44, 45, 46, 47, 48, 49, 50] rfl ?_; clear Z; intro w6 hb Z
  replace H : Hf I D w I4 w6 [OEtree_Tree_int g1 p.2, OEtree_Tree_int g2 u, SlC NS v1_l l] := H.blw hb
  clear hb
  refine h_call Z H (js := [(1, false)]) rfl (caps := #[]) fn_8_YTreeS rfl rfl rfl rfl rfl (by decide) rfl rfl (fun D1 hS => have hq := c_tree_Tree_int_Put hx4 hS; hq) ?_; clear Z a; intro vv a w7 D2 hr hF2 Z
  obtain ⟨rfl, I5, K⟩ := hr
  have H : Hf I D w I5 w7 [OEtree_Tree_int g2 p_2.2, OEtree_Tree_int g1 p.2, SlC NS v1_l l] := hF2 K
  clear hF2 K
  refine s_end Z [0, 1, 2, 6, 7, 8, 9, 10, 19, 20, 21, 24, 25, 26, 27, 28, 29, 30, 31, 32, 33, 35, 36, 37, 38, 39, 40, 41, 42, 43, 44, 45, 46, 47, 48, 49, 50] rfl ?_; clear Z; intro Z
  refine p_blk ?_
  refine p_then ?_
  obtain ⟨hg9, hF⟩ := chk_in hF
  refine f_region Z ?_; clear Z; intro Z
  refine s_runk tTreeS Z 1 rfl rfl ?_; clear Z a; intro a Z
  refine s_ob Z (v := .int .i64 (i_3 + 1)) rfl rfl (by decide) rfl (Ob_add rfl rfl rfl (wrI hg9)) ?_; clear Z a; intro a Z
  refine s_runk tTreeS Z 1 rfl rfl ?_; clear Z a; intro a Z
  refine s_end Z [0, 1, 2, 6, 7, 8, 9, 10, 19, 20, 21, 24, 25, 26, 27, 28, 29, 30, 31, 32, 33, 35, 36, 37, 38, 39, 40, 41, 42, 43, 44, 45, 46, 47, 48, 49, 50, 22, 23] rfl ?_; clear Z; intro Z
  refine p_then ?_
  exact ⟨(i_3 + 1, p.2, p_2.2), ⟨Z.sub (ts := [0, 1, 2, 6, 7, 8, 9, 10]) rfl, ⟨I5, (H.sub [(1, false), (0, false), (0, true)] rfl).eq rfl⟩⟩, hF⟩
 ·replace hF := ite_f hc1 hF
  refine wp_exit ?_
  refine p_then_x ?_
  refine p_then_x ?_
  refine f_exit_here ?_
  refine p_then (wp_seq ?_)
  refine wp_seq (f_region Z ?_); clear Z; intro Z
  refine s_runk tTreeS Z 1 rfl rfl ?_; clear Z a; intro a Z
  refine s_end Z [0, 1, 2, 6, 7, 8, 9, 11] rfl ?_; clear Z; intro Z
  refine p_then (wp_block ?_)
  refine f_iter hF (fun sg a' w' => match sg with | i_4 => Sl 105 [(0, v1_l), (1, .string from_), (2, .string to_), (6, .bool false), (7, .pointer (some ⟨g1, 0, none⟩)), (8, .pointer (some ⟨g2, 0, none⟩)), (9, .int .i64 (min (l.length : Int) 60)), (11, .int .i64 i_4)] a' ∧ ∃ I2, Hf I D w I2 w' [OEtree_Tree_int g1 t, OEtree_Tree_int g2 u, SlC NS v1_l l]) ⟨Z.sub (ts := [0, 1, 2, 6, 7, 8, 9, 11]) rfl, ⟨I3, (H.sub [(0, false), (0, false), (0, true)] rfl).eq rfl⟩⟩ ?_
  clear Z H hF a
  rintro rc_2 i_4 a w8 ⟨Z, I6, H⟩ hF
  unfold F_law15_TreeOrder_l2 at hF
  try dsimp only at hF
  refine wp_seq ?_
  refine wp_seq (f_region Z ?_); clear Z; intro Z
  refine s_runk tTreeS Z 3 rfl rfl ?_; clear Z a; intro a Z
  refine s_end Z [0, 1, 2, 6, 7, 8, 9, 11, 52, 53, 54] rfl ?_; clear Z; intro Z
  refine p_then ?_
  refine f_cond Z rfl (fun hc2 => ?_) (fun hc2 => ?_)
  ·replace hF := ite_t hc2 hF
   refine wp_skip ?_
   refine p_then (wp_seq ?_)
   refine wp_block ?_
   refine wp_seq ?_
   obtain ⟨hg10, hF⟩ := chk_in hF
   obtain ⟨g, hx5, hF⟩ := bnd_in hF
   refine f_region Z ?_; clear Z; intro Z
   refine s_runk tTreeS Z 3 rfl rfl ?_; clear Z a; intro a Z
   refine s_ob Z (v := .pointer (some ⟨blkOf v1_l, oofOf v1_l + (i_4).toNat * 1, none⟩)) rfl rfl (by decide) rfl (Ob_sidx tTreeS rfl rfl rfl rfl (slPl (H.sl 2 rfl) hg10) hg10) ?_; clear Z a; intro a Z
   refine s_ob Z (v := .string (l.getD (i_4).toNat default)) rfl rfl (by decide) rfl (Ob_load tTreeS rfl rfl rfl ((slFl (H.sl 2 rfl) hg10) 0 _ rfl)) ?_; clear Z a; intro a Z
   refine h_call Z H (js := [(0, false)]) rfl (caps := #[]) fn_9_YTreeS rfl rfl rfl rfl rfl (by decide) rfl rfl (fun D1 hS => have hq := c_tree_Tree_int_Get hx5 hS; hq) ?_; clear Z a; intro vv a w9 D2 hr hF2 Z
   obtain ⟨rfl, I7, K⟩ := hr
   have H : Hf I D w I7 w9 [OEtree_Tree_int g1 t, OEtree_Tree_int g2 u, SlC NS v1_l l] := hF2 K
   clear hF2 K
   refine s_runk tTreeS Z 5 rfl rfl ?_; clear Z a; intro a Z
   refine s_end Z [0, 1, 2, 6, 7, 8, 9, 11, 52, 53, 54, 58, 59, 60, 61, 62, 63, 57, 64, 65, 12, 13] rfl ?_; clear Z; intro Z
   refine p_then (wp_seq ?_)
   obtain ⟨hg11, hF⟩ := chk_in hF
   refine f_region Z ?_; clear Z; intro Z
   refine s_runk tTreeS Z 3 rfl rfl ?_; clear Z a; intro a Z
   refine s_ob Z (v := .pointer (some ⟨blkOf v1_l, oofOf v1_l + (i_4).toNat * 1, none⟩)) rfl rfl (by decide) rfl (Ob_sidx tTreeS rfl rfl rfl rfl (slPl (H.sl 2 rfl) hg11) hg11) ?_; clear Z a; intro a Z
   refine s_ob Z (v := .string (l.getD (i_4).toNat default)) rfl rfl (by decide) rfl (Ob_load tTreeS rfl rfl rfl ((slFl (H.sl 2 rfl) hg11) 0 _ rfl)) ?_; clear Z a; intro a Z
   refine s_runk tTreeS Z 3 rfl rfl ?_; clear Z a; intro a Z
   refine g_ob Z (p := (!(g.1 != ((l.getD (i_4).toNat default).size : Int)))) (v := .bool g.2) (S' := [(13, .bool g.2)]) rfl rfl rfl (wantB_f _) rfl (by decide) (fun hp hS => hS.sub (ts := [13]) rfl) (fun hp => Ob_c tTreeS rfl) ?_; clear Z a; intro a Z
   refine g_ob Z (p := (!(g.1 != ((l.getD (i_4).toNat default).size : Int)))) (v := .bool (!g.2)) (S' := [(74, .bool g.2)]) rfl rfl rfl (wantB_f _) rfl (by decide) (fun hp hS => (hS.conv (t := 74) rfl (cond_t hp)).sub (ts := [74]) rfl) (fun hp => Ob_c tTreeS rfl) ?_; clear Z a; intro a Z
   refine s_ob Z (v := .bool ((g.1 != ((l.getD (i_4).toNat default).size : Int)) || (!g.2))) rfl rfl (by decide) rfl (Ob_pick rfl rfl rfl rfl (pick_or _ _)) ?_; clear Z a; intro a Z
   refine s_end Z [0, 1, 2, 6, 7, 8, 9, 11, 52, 53, 54, 58, 59, 60, 61, 62, 63, 57, 64, 65, 12, 13, 66, 67, 68, 69, 70, 71, 72, 73, 76] rfl ?_; clear Z; intro Z
   refine p_then ?_
   refine f_cond Z rfl (fun hc3 => ?_) (fun hc3 => ?_)
   ·replace hF := ite_t hc3 hF
    refine wp_seq (f_region Z ?_); clear Z; intro Z
    refine s_runk tTreeS Z 1 rfl rfl ?_; clear Z a; intro a Z
    refine s_end Z [0, 1, 2, 6, 7, 8, 9, 11, 52, 53, 54, 58, 59, 60, 61, 62, 63, 57, 64, 65, 12, 13, 66, 67, 68, 69, 70, 71, 72, 73, 76] rfl ?_; clear Z; intro Z
    refine p_then (wp_ret ?_)
    refine p_blk_r ?_
    refine p_then_r ?_
    refine p_then_r ?_
    refine p_blk_r ?_
    refine p_then_r ?_
    obtain rfl := some_in hF
    exact f_ret Z (run_results1 rfl Z rfl) ⟨rfl, I7, (H.sub [] rfl).eq rfl⟩
   ·replace hF := ite_f hc3 hF
    refine wp_skip ?_
    refine p_blk ?_
    refine p_then ?_
    obtain ⟨hg12, hF⟩ := chk_in hF
    refine f_region Z ?_; clear Z; intro Z
    refine s_runk tTreeS Z 1 rfl rfl ?_; clear Z a; intro a Z
    refine s_ob Z (v := .int .i64 (i_4 + 1)) rfl rfl (by decide) rfl (Ob_add rfl rfl rfl (wrI hg12)) ?_; clear Z a; intro a Z
    refine s_runk tTreeS Z 1 rfl rfl ?_; clear Z a; intro a Z
    refine s_end Z [0, 1, 2, 6, 7, 8, 9, 11, 52, 53, 54, 58, 59, 60, 61, 62, 63, 57, 64, 65, 12, 13, 66, 67, 68, 69, 70, 71, 72, 73, 76, 55, 56] rfl ?_; clear Z; intro Z
    refine p_then ?_
    exact ⟨(i_4 + 1), ⟨Z.sub (ts := [0, 1, 2, 6, 7, 8, 9, 11]) rfl, ⟨I7, (H.sub [(0, false), (0, false), (0, true)] rfl).eq rfl⟩⟩, hF⟩
  ·replace hF := ite_f hc2 hF
   refine wp_exit ?_
   refine p_then_x ?_
   refine p_then_x ?_
   refine f_exit_here ?_
   refine p_then (wp_seq ?_)
   obtain ⟨hg13, hF⟩ := chk_in hF
   replace H : Hf I D w I6 w8 [SlC NS (subV v1_l 0 ((min (l.length : Int) 60).toNat) 1) (l.take ((min (l.length : Int) 60).toNat)), OEtree_Tree_int g1 t, OEtree_Tree_int g2 u, SlC NS v1_l l] := H.slPart_to 2 rfl hg13 1 rfl
   obtain ⟨l_2, hx6, hF⟩ := bnd_in hF
   obtain ⟨l_3, hx7, hF⟩ := bnd_in hF
   obtain ⟨k, hx8, hF⟩ := bnd_in hF
   obtain ⟨k_2, hx9, hF⟩ := bnd_in hF
   obtain ⟨s0, hx10, hF⟩ := bnd_in hF
   obtain ⟨k_3, hx11, hF⟩ := bnd_in hF
   obtain ⟨hg14, hF⟩ := chk_in hF
   obtain ⟨s0_2, hx12, hF⟩ := bnd_in hF
   obtain ⟨s0_3, hx13, hF⟩ := bnd_in hF
   obtain ⟨a0, hx14, hF⟩ := bnd_in hF
   refine f_regionL Z (by kernel_rfl) (by kernel_rfl) (by decide) (by decide) [1, 3, 9, 13, 18, 22] [(0, 0, 0), (1, 0, 0), (0, 0, 1), (7, 1, 1), (15, 2, 2), (31, 2, 2), (63, 2, 2), (63, 2, 2), (63, 2, 2), (511, 2, 2), (63, 2, 3), (63, 2, 3), (63, 2, 3), (8191, 3, 3), (16383, 4, 4), (32767, 4, 4), (65535, 4, 4), (131071, 4, 4), (262143, 4, 4), (131071, 4, 5), (131071, 4, 5), (1703935, 4, 5), (4194303, 5, 5), (8388607, 6, 6), (16777215, 6, 6), (33554431, 6, 6), (67108863, 6, 6), (134217727, 6, 6), (268435455, 6, 6)] (by kernel_rfl) (fun jj vv => cond (Nat.blt jj 14) (cond (Nat.blt jj 7) (cond (Nat.blt jj 3) (cond (Nat.blt jj 1) (vv = .pointer (some ⟨g1, 0, none⟩)) (cond (Nat.blt jj 2) (vv = .int .i64 l_2) (vv = .pointer (some ⟨g2, 0, none⟩)))) (cond (Nat.blt jj 5) (cond (Nat.blt jj 4) (vv = .int .i64 l_3) (vv = .bool (l_2 == l_3))) (cond (Nat.blt jj 6) (vv = .bool (l_2 == l_3)) (vv = cond (l_2 == l_3) (.pointer (some ⟨g1, 0, none⟩)) undef)))) (cond (Nat.blt jj 10) (cond (Nat.blt jj 8) (vv = cond (l_2 == l_3) (.string from_) undef) (cond (Nat.blt jj 9) (vv = cond (l_2 == l_3) (.string to_) undef) (vv = cond (l_2 == l_3) ((slG vv)) undef))) (cond (Nat.blt jj 12) (cond (Nat.blt jj 11) (vv = cond (l_2 == l_3) (.pointer (some ⟨g2, 0, none⟩)) undef) (vv = cond (l_2 == l_3) (.string from_) undef)) (cond (Nat.blt jj 13) (vv = cond (l_2 == l_3) (.string to_) undef) (vv = cond (l_2 == l_3) ((slG vv)) undef))))) (cond (Nat.blt jj 21) (cond (Nat.blt jj 17) (cond (Nat.blt jj 15) (vv = cond (l_2 == l_3) (.bool s0) undef) (cond (Nat.blt jj 16) (vv = .bool ((l_2 == l_3) && s0)) (vv = .bool ((l_2 == l_3) && s0)))) (cond (Nat.blt jj 19) (cond (Nat.blt jj 18) (vv = cond ((l_2 == l_3) && s0) (.pointer (some ⟨g1, 0, none⟩)) undef) (vv = cond ((l_2 == l_3) && s0) ((slG vv)) undef)) (cond (Nat.blt jj 20) (vv = cond ((l_2 == l_3) && s0) (v1_l) undef) (vv = cond ((l_2 == l_3) && s0) (.int .i64 (min (l.length : Int) 60)) undef)))) (cond (Nat.blt jj 25) (cond (Nat.blt jj 23) (cond (Nat.blt jj 22) (vv = cond ((l_2 == l_3) && s0) (subV v1_l 0 ((min (l.length : Int) 60).toNat) 1) undef) (vv = cond ((l_2 == l_3) && s0) ((slG vv)) undef)) (cond (Nat.blt jj 24) (vv = cond ((l_2 == l_3) && s0) (.bool s0_3) undef) (vv = .bool (((l_2 == l_3) && s0) && s0_3)))) (cond (Nat.blt jj 27) (cond (Nat.blt jj 26) (vv = .bool (((l_2 == l_3) && s0) && s0_3)) (vv = cond (((l_2 == l_3) && s0) && s0_3) (.bool a0) undef)) (cond (Nat.blt jj 28) (vv = .bool ((((l_2 == l_3) && s0) && s0_3) && a0)) (vv = .bool ((((l_2 == l_3) && s0) && s0_3) && a0))))))) (fun ss vals1 xw => match ss with | 0 => Gx I D w I6 w8 xw [SlC NS (subV v1_l 0 ((min (l.length : Int) 60).toNat) 1) (l.take ((min (l.length : Int) 60).toNat)), OEtree_Tree_int g1 t, OEtree_Tree_int g2 u, SlC NS v1_l l] | 1 => Gx I D w I6 w8 xw [OEtree_Tree_int g1 t, SlC NS (subV v1_l 0 ((min (l.length : Int) 60).toNat) 1) (l.take ((min (l.length : Int) 60).toNat)), OEtree_Tree_int g2 u, SlC NS v1_l l] | 2 => Gx I D w I6 w8 xw [OEtree_Tree_int g2 u, OEtree_Tree_int g1 t, SlC NS (subV v1_l 0 ((min (l.length : Int) 60).toNat) 1) (l.take ((min (l.length : Int) 60).toNat)), SlC NS v1_l l] | 3 => Gx I D w I6 w8 xw [OEtree_Tree_int g1 (cond (l_2 == l_3) k.2 t), SlC NS (slG (vals1 9)) k.1, OEtree_Tree_int g2 u, SlC NS (subV v1_l 0 ((min (l.length : Int) 60).toNat) 1) (l.take ((min (l.length : Int) 60).toNat)), SlC NS v1_l l] | 4 => Gx I D w I6 w8 xw [OEtree_Tree_int g2 (cond (l_2 == l_3) k_2.2 u), SlC NS (slG (vals1 13)) k_2.1, OEtree_Tree_int g1 (cond (l_2 == l_3) k.2 t), SlC NS (slG (vals1 9)) k.1, SlC NS (subV v1_l 0 ((min (l.length : Int) 60).toNat) 1) (l.take ((min (l.length : Int) 60).toNat)), SlC NS v1_l l] | 5 => Gx I D w I6 w8 xw [OEtree_Tree_int g1 (cond ((l_2 == l_3) && s0) k_3.2 (cond (l_2 == l_3) k.2 t)), SlC NS (slG (vals1 18)) k_3.1, OEtree_Tree_int g2 (cond (l_2 == l_3) k_2.2 u), SlC NS (slG (vals1 13)) k_2.1, SlC NS (slG (vals1 9)) k.1, SlC NS (subV v1_l 0 ((min (l.length : Int) 60).toNat) 1) (l.take ((min (l.length : Int) 60).toNat)), SlC NS v1_l l] | _ => Gx I D w I6 w8 xw [SlC NS (slG (vals1 22)) s0_2, OEtree_Tree_int g1 (cond ((l_2 == l_3) && s0) k_3.2 (cond (l_2 == l_3) k.2 t)), SlC NS (slG (vals1 18)) k_3.1, OEtree_Tree_int g2 (cond (l_2 == l_3) k_2.2 u), SlC NS (slG (vals1 13)) k_2.1, SlC NS (slG (vals1 9)) k.1, SlC NS (subV v1_l 0 ((min (l.length : Int) 60).toNat) 1) (l.take ((min (l.length : Int) 60).toNat)), SlC NS v1_l l]) (fun _ => Gx.start H) ?_ ?_
   ·intro fr hfr hfe
    refine .cons (fun ss hlo hhi vals1 xw hG hV => ?_) ?_
    ·obtain rfl : ss = 0 := Nat.le_antisymm hhi hlo
     rw [← hfe]
     have hS := (hfr vals1).sub (ts := [7]) (S' := [(7, .pointer (some ⟨g1, 0, none⟩))]) rfl
     exact L_val hS rfl (Ob_c tTreeS rfl) ⟨rfl, hG⟩
    refine .cons (fun ss hlo hhi vals1 xw hG hV => ?_) ?_
    ·obtain rfl : ss = 0 := Nat.le_antisymm hhi hlo
     rw [← hfe]
     have hS := (hfr vals1).sub (ts := [77]) (S' := [(77, vals1 0)]) rfl
     replace hS := hS.conv (t := 77) rfl (show (vals1 0) = .pointer (some ⟨g1, 0, none⟩) from hV 0 (by decide))
     obtain ⟨I2, hI2, H⟩ := Gx.ex hG
     refine L_hcall H (js := [(1, false)]) rfl (caps := #[]) hS fn_10_YTreeS rfl rfl rfl rfl rfl (fun D1 hS => have hq := c_tree_Tree_int_Len hx6 hS; hq) fun _ yw D1 hr hF2 => ?_
     obtain ⟨rfl, I3, K⟩ := hr
     obtain ⟨hK, H2⟩ := hF2 K
     exact ⟨rfl, Gx.go hG hI2 hK K.imm H2⟩
    refine .cons (fun ss hlo hhi vals1 xw hG hV => ?_) ?_
    ·obtain rfl | rfl : ss = 0 ∨ ss = 1 := st1 hlo hhi
     all_goals
     ·rw [← hfe]
      have hS := (hfr vals1).sub (ts := [8]) (S' := [(8, .pointer (some ⟨g2, 0, none⟩))]) rfl
      exact L_val hS rfl (Ob_c tTreeS rfl) ⟨rfl, hG⟩
    refine .cons (fun ss hlo hhi vals1 xw hG hV => ?_) ?_
    ·obtain rfl : ss = 1 := Nat.le_antisymm hhi hlo
     rw [← hfe]
     have hS := (hfr vals1).sub (ts := [79]) (S' := [(79, vals1 2)]) rfl
     replace hS := hS.conv (t := 79) rfl (show (vals1 2) = .pointer (some ⟨g2, 0, none⟩) from hV 2 (by decide))
     obtain ⟨I2, hI2, H⟩ := Gx.ex hG
     refine L_hcall H (js := [(2, false)]) rfl (caps := #[]) hS fn_10_YTreeS rfl rfl rfl rfl rfl (fun D1 hS => have hq := c_tree_Tree_int_Len hx7 hS; hq) fun _ yw D1 hr hF2 => ?_
     obtain ⟨rfl, I3, K⟩ := hr
     obtain ⟨hK, H2⟩ := hF2 K
     exact ⟨rfl, Gx.go hG hI2 hK K.imm H2⟩
    refine .cons (fun ss hlo hhi vals1 xw hG hV => ?_) ?_
    ·obtain rfl : ss = 2 := Nat.le_antisymm hhi hlo
     rw [← hfe]
     have hS := (hfr vals1).sub (ts := [78, 80]) (S' := [(78, vals1 1), (80, vals1 3)]) rfl
     replace hS := hS.conv (t := 78) rfl (show (vals1 1) = .int .i64 l_2 from hV 1 (by decide))
     replace hS := hS.conv (t := 80) rfl (show (vals1 3) = .int .i64 l_3 from hV 3 (by decide))
     exact L_val hS rfl (Ob_c tTreeS rfl) ⟨rfl, hG⟩
    refine .cons (fun ss hlo hhi vals1 xw hG hV => ?_) ?_
    ·obtain rfl : ss = 2 := Nat.le_antisymm hhi hlo
     rw [← hfe]
     have hS := (hfr vals1).sub (ts := [81]) (S' := [(81, vals1 4)]) rfl
     replace hS := hS.conv (t := 81) rfl (show (vals1 4) = .bool (l_2 == l_3) from hV 4 (by decide))
     exact L_val hS rfl (Ob_c tTreeS rfl) ⟨rfl, hG⟩
    refine .cons (fun ss hlo hhi vals1 xw hG hV => ?_) ?_
    ·obtain rfl : ss = 2 := Nat.le_antisymm hhi hlo
     rw [← hfe]
     have hS := (hfr vals1).sub (ts := [82, 7]) (S' := [(82, vals1 5), (7, .pointer (some ⟨g1, 0, none⟩))]) rfl
     replace hS := hS.conv (t := 82) rfl (show (vals1 5) = .bool (l_2 == l_3) from hV 5 (by decide))
     refine L_gw (p := (l_2 == l_3)) hS rfl rfl rfl (wantB_t _) (fun hp => ?_) (fun hp => ⟨by rw [hp]; rfl, hG⟩)
     exact L_val hS rfl (Ob_c tTreeS rfl) ⟨(by rw [hp]; rfl), hG⟩
    refine .cons (fun ss hlo hhi vals1 xw hG hV => ?_) ?_
    ·obtain rfl : ss = 2 := Nat.le_antisymm hhi hlo
     rw [← hfe]
     have hS := (hfr vals1).sub (ts := [82, 1]) (S' := [(82, vals1 5), (1, .string from_)]) rfl
     replace hS := hS.conv (t := 82) rfl (show (vals1 5) = .bool (l_2 == l_3) from hV 5 (by decide))
     refine L_gw (p := (l_2 == l_3)) hS rfl rfl rfl (wantB_t _) (fun hp => ?_) (fun hp => ⟨by rw [hp]; rfl, hG⟩)
     exact L_val hS rfl (Ob_c tTreeS rfl) ⟨(by rw [hp]; rfl), hG⟩
    refine .cons (fun ss hlo hhi vals1 xw hG hV => ?_) ?_
    ·obtain rfl : ss = 2 := Nat.le_antisymm hhi hlo
     rw [← hfe]
     have hS := (hfr vals1).sub (ts := [82, 2]) (S' := [(82, vals1 5), (2, .string to_)]) rfl
     replace hS := hS.conv (t := 82) rfl (show (vals1 5) = .bool (l_2 == l_3) from hV 5 (by decide))
     refine L_gw (p := (l_2 == l_3)) hS rfl rfl rfl (wantB_t _) (fun hp => ?_) (fun hp => ⟨by rw [hp]; rfl, hG⟩)
     exact L_val hS rfl (Ob_c tTreeS rfl) ⟨(by rw [hp]; rfl), hG⟩
    refine .cons (fun ss hlo hhi vals1 xw hG hV => ?_) ?_
    ·obtain rfl : ss = 2 := Nat.le_antisymm hhi hlo
     rw [← hfe]
     have hS := (hfr vals1).sub (ts := [83, 84, 85, 82]) (S' := [(83, vals1 6), (84, vals1 7), (85, vals1 8), (82, vals1 5)]) rfl
     replace hS := hS.conv (t := 83) rfl (show (vals1 6) = cond (l_2 == l_3) (.pointer (some ⟨g1, 0, none⟩)) undef from hV 6 (by decide))
     replace hS := hS.conv (t := 84) rfl (show (vals1 7) = cond (l_2 == l_3) (.string from_) undef from hV 7 (by decide))
     replace hS := hS.conv (t := 85) rfl (show (vals1 8) = cond (l_2 == l_3) (.string to_) undef from hV 8 (by decide))
     replace hS := hS.conv (t := 82) rfl (show (vals1 5) = .bool (l_2 == l_3) from hV 5 (by decide))
     refine L_gw (p := (l_2 == l_3)) hS rfl rfl rfl (wantB_t _) (fun hp => ?_) (fun hp => ⟨by rw [hp]; rfl, ?_⟩)
     ·obtain ⟨I2, hI2, H⟩ := Gx.ex hG
      replace hS := hS.conv (t := 83) rfl (cond_t hp)
      replace hS := hS.conv (t := 84) rfl (cond_t hp)
      replace hS := hS.conv (t := 85) rfl (cond_t hp)
      refine L_hcall H (js := [(1, false)]) rfl (caps := #[]) hS fn_12_YTreeS rfl rfl rfl rfl rfl (fun D1 hS => have hq := c_tree_Tree_int_Keys (gif_in hx8 hp) hS; hq) fun _ yw D1 hr hF2 => ?_
      obtain ⟨q0_, rfl, I3, K⟩ := hr
      obtain ⟨hK, H2⟩ := hF2 K
      obtain ⟨_, _, rfl, _, _⟩ := H2.slshape 1 rfl
      exact ⟨by rw [hp]; rfl, by first | (rw [hp] at H2 ⊢; exact Gx.go hG hI2 hK K.imm H2) | (rw [hp]; exact Gx.go hG hI2 hK K.imm H2) | exact Gx.go hG hI2 hK K.imm H2⟩
     ·obtain rfl := gif_no hx8 hp; (try rw [hp]); obtain ⟨I2, hI2, H⟩ := Gx.ex hG; (try rw [hp] at H); exact Gx.go hG hI2 (Keep.refl _ _) (fun _ h => h) (Hf.sub (Hf.slNil (H.sub [(1, false), (0, false), (0, true), (1, true)] rfl) NS) [(1, false), (0, false), (0, false), (0, true), (1, true)] rfl)
    refine .cons (fun ss hlo hhi vals1 xw hG hV => ?_) ?_
    ·obtain rfl | rfl : ss = 2 ∨ ss = 3 := st1 hlo hhi
     all_goals
     ·rw [← hfe]
      have hS := (hfr vals1).sub (ts := [82, 8]) (S' := [(82, vals1 5), (8, .pointer (some ⟨g2, 0, none⟩))]) rfl
      replace hS := hS.conv (t := 82) rfl (show (vals1 5) = .bool (l_2 == l_3) from hV 5 (by decide))
      refine L_gw (p := (l_2 == l_3)) hS rfl rfl rfl (wantB_t _) (fun hp => ?_) (fun hp => ⟨by rw [hp]; rfl, hG⟩)
      exact L_val hS rfl (Ob_c tTreeS rfl) ⟨(by rw [hp]; rfl), hG⟩
    refine .cons (fun ss hlo hhi vals1 xw hG hV => ?_) ?_
    ·obtain rfl | rfl : ss = 2 ∨ ss = 3 := st1 hlo hhi
     all_goals
     ·rw [← hfe]
      have hS := (hfr vals1).sub (ts := [82, 1]) (S' := [(82, vals1 5), (1, .string from_)]) rfl
      replace hS := hS.conv (t := 82) rfl (show (vals1 5) = .bool (l_2 == l_3) from hV 5 (by decide))
      refine L_gw (p := (l_2 == l_3)) hS rfl rfl rfl (wantB_t _) (fun hp => ?_) (fun hp => ⟨by rw [hp]; rfl, hG⟩)
      exact L_val hS rfl (Ob_c tTreeS rfl) ⟨(by rw [hp]; rfl), hG⟩
    refine .cons (fun ss hlo hhi vals1 xw hG hV => ?_) ?_
    ·obtain rfl | rfl : ss = 2 ∨ ss = 3 := st1 hlo hhi
     all_goals
     ·rw [← hfe]
      have hS := (hfr vals1).sub (ts := [82, 2]) (S' := [(82, vals1 5), (2, .string to_)]) rfl
      replace hS := hS.conv (t := 82) rfl (show (vals1 5) = .bool (l_2 == l_3) from hV 5 (by decide))
      refine L_gw (p := (l_2 == l_3)) hS rfl rfl rfl (wantB_t _) (fun hp => ?_) (fun hp => ⟨by rw [hp]; rfl, hG⟩)
      exact L_val hS rfl (Ob_c tTreeS rfl) ⟨(by rw [hp]; rfl), hG⟩
    refine .cons (fun ss hlo hhi vals1 xw hG hV => ?_) ?_
    ·obtain rfl : ss = 3 := Nat.le_antisymm hhi hlo
     rw [← hfe]
     have hS := (hfr vals1).sub (ts := [87, 88, 89, 82]) (S' := [(87, vals1 10), (88, vals1 11), (89, vals1 12), (82, vals1 5)]) rfl
     replace hS := hS.conv (t := 87) rfl (show (vals1 10) = cond (l_2 == l_3) (.pointer (some ⟨g2, 0, none⟩)) undef from hV 10 (by decide))
     replace hS := hS.conv (t := 88) rfl (show (vals1 11) = cond (l_2 == l_3) (.string from_) undef from hV 11 (by decide))
     replace hS := hS.conv (t := 89) rfl (show (vals1 12) = cond (l_2 == l_3) (.string to_) undef from hV 12 (by decide))
     replace hS := hS.conv (t := 82) rfl (show (vals1 5) = .bool (l_2 == l_3) from hV 5 (by decide))
     refine L_gw (p := (l_2 == l_3)) hS rfl rfl rfl (wantB_t _) (fun hp => ?_) (fun hp => ⟨by rw [hp]; rfl, ?_⟩)
     ·obtain ⟨I2, hI2, H⟩ := Gx.ex hG
      replace hS := hS.conv (t := 87) rfl (cond_t hp)
      replace hS := hS.conv (t := 88) rfl (cond_t hp)
      replace hS := hS.conv (t := 89) rfl (cond_t hp)
      refine L_hcall H (js := [(2, false)]) rfl (caps := #[]) hS fn_12_YTreeS rfl rfl rfl rfl rfl (fun D1 hS => have hq := c_tree_Tree_int_Keys (gif_in hx9 hp) hS; hq) fun _ yw D1 hr hF2 => ?_
      obtain ⟨q0_, rfl, I3, K⟩ := hr
      obtain ⟨hK, H2⟩ := hF2 K
      obtain ⟨_, _, rfl, _, _⟩ := H2.slshape 1 rfl
      exact ⟨by rw [hp]; rfl, by first | (rw [hp] at H2 ⊢; exact Gx.go hG hI2 hK K.imm H2) | (rw [hp]; exact Gx.go hG hI2 hK K.imm H2) | exact Gx.go hG hI2 hK K.imm H2⟩
     ·obtain rfl := gif_no hx9 hp; (try rw [hp]); obtain ⟨I2, hI2, H⟩ := Gx.ex hG; (try rw [hp] at H); exact Gx.go hG hI2 (Keep.refl _ _) (fun _ h => h) (Hf.sub (Hf.slNil (H.sub [(2, false), (0, false), (0, true), (1, true), (2, true)] rfl) NS) [(1, false), (0, false), (0, false), (0, true), (1, true), (2, true)] rfl)
    refine .cons (fun ss hlo hhi vals1 xw hG hV => ?_) ?_
    ·obtain rfl : ss = 4 := Nat.le_antisymm hhi hlo
     rw [← hfe]
     have hS := (hfr vals1).sub (ts := [86, 90, 82]) (S' := [(86, vals1 9), (90, vals1 13), (82, vals1 5)]) rfl
     replace hS := hS.conv (t := 86) rfl (show (vals1 9) = cond (l_2 == l_3) ((slG (vals1 9))) undef from hV 9 (by decide))
     replace hS := hS.conv (t := 90) rfl (show (vals1 13) = cond (l_2 == l_3) ((slG (vals1 13))) undef from hV 13 (by decide))
     replace hS := hS.conv (t := 82) rfl (show (vals1 5) = .bool (l_2 == l_3) from hV 5 (by decide))
     refine L_gw (p := (l_2 == l_3)) hS rfl rfl rfl (wantB_t _) (fun hp => ?_) (fun hp => ⟨by rw [hp]; rfl, hG⟩)
     replace hS := hS.conv (t := 86) rfl (cond_t hp)
     replace hS := hS.conv (t := 90) rfl (cond_t hp)
     obtain ⟨I2, hI2, H⟩ := Gx.ex hG
     refine L_call (caps := #[]) hS fn_11_YTreeS rfl rfl rfl rfl rfl ((have hq := c_ref05_Same (gif_in hx10 hp) ((H).pick0 (js := [(3, true), (1, true)]) rfl rfl); plainC hq)) fun r yw hr => ?_
     obtain ⟨rfl, hb⟩ := hr
     exact ⟨(by rw [hp]; rfl), Gx.blw hG hb⟩
    refine .cons (fun ss hlo hhi vals1 xw hG hV => ?_) ?_
    ·obtain rfl : ss = 4 := Nat.le_antisymm hhi hlo
     rw [← hfe]
     have hS := (hfr vals1).sub (ts := [82, 91]) (S' := [(82, vals1 5), (91, vals1 14)]) rfl
     replace hS := hS.conv (t := 82) rfl (show (vals1 5) = .bool (l_2 == l_3) from hV 5 (by decide))
     replace hS := hS.conv (t := 91) rfl (show (vals1 14) = cond (l_2 == l_3) (.bool s0) undef from hV 14 (by decide))
     exact L_val hS rfl (Ob_pick rfl rfl rfl rfl (pick_and _ _)) ⟨rfl, hG⟩
    refine .cons (fun ss hlo hhi vals1 xw hG hV => ?_) ?_
    ·obtain rfl : ss = 4 := Nat.le_antisymm hhi hlo
     rw [← hfe]
     have hS := (hfr vals1).sub (ts := [92]) (S' := [(92, vals1 15)]) rfl
     replace hS := hS.conv (t := 92) rfl (show (vals1 15) = .bool ((l_2 == l_3) && s0) from hV 15 (by decide))
     exact L_val hS rfl (Ob_c tTreeS rfl) ⟨rfl, hG⟩
    refine .cons (fun ss hlo hhi vals1 xw hG hV => ?_) ?_
    ·obtain rfl : ss = 4 := Nat.le_antisymm hhi hlo
     rw [← hfe]
     have hS := (hfr vals1).sub (ts := [93, 7]) (S' := [(93, vals1 16), (7, .pointer (some ⟨g1, 0, none⟩))]) rfl
     replace hS := hS.conv (t := 93) rfl (show (vals1 16) = .bool ((l_2 == l_3) && s0) from hV 16 (by decide))
     refine L_gw (p := ((l_2 == l_3) && s0)) hS rfl rfl rfl (wantB_t _) (fun hp => ?_) (fun hp => ⟨by rw [hp]; rfl, hG⟩)
     exact L_val hS rfl (Ob_c tTreeS rfl) ⟨(by rw [hp]; rfl), hG⟩
    refine .cons (fun ss hlo hhi vals1 xw hG hV => ?_) ?_
    ·obtain rfl : ss = 4 := Nat.le_antisymm hhi hlo
     rw [← hfe]
     have hS := (hfr vals1).sub (ts := [94, 93]) (S' := [(94, vals1 17), (93, vals1 16)]) rfl
     replace hS := hS.conv (t := 94) rfl (show (vals1 17) = cond ((l_2 == l_3) && s0) (.pointer (some ⟨g1, 0, none⟩)) undef from hV 17 (by decide))
     replace hS := hS.conv (t := 93) rfl (show (vals1 16) = .bool ((l_2 == l_3) && s0) from hV 16 (by decide))
     refine L_gw (p := ((l_2 == l_3) && s0)) hS rfl rfl rfl (wantB_t _) (fun hp => ?_) (fun hp => ⟨by rw [hp]; rfl, ?_⟩)
     ·obtain ⟨I2, hI2, H⟩ := Gx.ex hG
      replace hS := hS.conv (t := 94) rfl (cond_t hp)
      refine L_hcall H (js := [(2, false)]) rfl (caps := #[]) hS fn_12_YTreeS rfl rfl rfl rfl rfl (fun D1 hS => have hq := c_tree_Tree_int_Keys (gif_in hx11 hp) hS; hq) fun _ yw D1 hr hF2 => ?_
      obtain ⟨q0_, rfl, I3, K⟩ := hr
      obtain ⟨hK, H2⟩ := hF2 K
      obtain ⟨_, _, rfl, _, _⟩ := H2.slshape 1 rfl
      exact ⟨by rw [hp]; rfl, by first | (rw [hp] at H2 ⊢; exact Gx.go hG hI2 hK K.imm H2) | (rw [hp]; exact Gx.go hG hI2 hK K.imm H2) | exact Gx.go hG hI2 hK K.imm H2⟩
     ·obtain rfl := gif_no hx11 hp; (try rw [hp]); obtain ⟨I2, hI2, H⟩ := Gx.ex hG; (try rw [hp] at H); exact Gx.go hG hI2 (Keep.refl _ _) (fun _ h => h) (Hf.sub (Hf.slNil (H.sub [(2, false), (0, false), (0, true), (1, true), (2, true), (3, true)] rfl) NS) [(1, false), (0, false), (0, false), (0, true), (1, true), (2, true), (3, true)] rfl)
    refine .cons (fun ss hlo hhi vals1 xw hG hV => ?_) ?_
    ·obtain rfl | rfl : ss = 4 ∨ ss = 5 := st1 hlo hhi
     all_goals
     ·rw [← hfe]
      have hS := (hfr vals1).sub (ts := [93, 0]) (S' := [(93, vals1 16), (0, v1_l)]) rfl
      replace hS := hS.conv (t := 93) rfl (show (vals1 16) = .bool ((l_2 == l_3) && s0) from hV 16 (by decide))
      refine L_gw (p := ((l_2 == l_3) && s0)) hS rfl rfl rfl (wantB_t _) (fun hp => ?_) (fun hp => ⟨by rw [hp]; rfl, hG⟩)
      exact L_val hS rfl (Ob_c tTreeS rfl) ⟨(by rw [hp]; rfl), hG⟩
    refine .cons (fun ss hlo hhi vals1 xw hG hV => ?_) ?_
    ·obtain rfl | rfl : ss = 4 ∨ ss = 5 := st1 hlo hhi
     all_goals
     ·rw [← hfe]
      have hS := (hfr vals1).sub (ts := [93, 9]) (S' := [(93, vals1 16), (9, .int .i64 (min (l.length : Int) 60))]) rfl
      replace hS := hS.conv (t := 93) rfl (show (vals1 16) = .bool ((l_2 == l_3) && s0) from hV 16 (by decide))
      refine L_gw (p := ((l_2 == l_3) && s0)) hS rfl rfl rfl (wantB_t _) (fun hp => ?_) (fun hp => ⟨by rw [hp]; rfl, hG⟩)
      exact L_val hS rfl (Ob_c tTreeS rfl) ⟨(by rw [hp]; rfl), hG⟩
    refine .cons (fun ss hlo hhi vals1 xw hG hV => ?_) ?_
    ·obtain rfl | rfl : ss = 4 ∨ ss = 5 := st1 hlo hhi
     ·rw [← hfe]
      have hS := (hfr vals1).sub (ts := [96, 97, 93]) (S' := [(96, vals1 19), (97, vals1 20), (93, vals1 16)]) rfl
      replace hS := hS.conv (t := 96) rfl (show (vals1 19) = cond ((l_2 == l_3) && s0) (v1_l) undef from hV 19 (by decide))
      replace hS := hS.conv (t := 97) rfl (show (vals1 20) = cond ((l_2 == l_3) && s0) (.int .i64 (min (l.length : Int) 60)) undef from hV 20 (by decide))
      replace hS := hS.conv (t := 93) rfl (show (vals1 16) = .bool ((l_2 == l_3) && s0) from hV 16 (by decide))
      refine L_gw (p := ((l_2 == l_3) && s0)) hS rfl rfl rfl (wantB_t _) (fun hp => ?_) (fun hp => ⟨by rw [hp]; rfl, hG⟩)
      replace hS := hS.conv (t := 96) rfl (cond_t hp)
      replace hS := hS.conv (t := 97) rfl (cond_t hp)
      obtain ⟨I2, hI2, H⟩ := Gx.ex hG
      exact L_val hS rfl (Ob_sub_to tTreeS rfl rfl rfl rfl (H.slshape 5 rfl) hg14) ⟨(by rw [hp]; rfl), hG⟩
     ·rw [← hfe]
      have hS := (hfr vals1).sub (ts := [96, 97, 93]) (S' := [(96, vals1 19), (97, vals1 20), (93, vals1 16)]) rfl
      replace hS := hS.conv (t := 96) rfl (show (vals1 19) = cond ((l_2 == l_3) && s0) (v1_l) undef from hV 19 (by decide))
      replace hS := hS.conv (t := 97) rfl (show (vals1 20) = cond ((l_2 == l_3) && s0) (.int .i64 (min (l.length : Int) 60)) undef from hV 20 (by decide))
      replace hS := hS.conv (t := 93) rfl (show (vals1 16) = .bool ((l_2 == l_3) && s0) from hV 16 (by decide))
      refine L_gw (p := ((l_2 == l_3) && s0)) hS rfl rfl rfl (wantB_t _) (fun hp => ?_) (fun hp => ⟨by rw [hp]; rfl, hG⟩)
      replace hS := hS.conv (t := 96) rfl (cond_t hp)
      replace hS := hS.conv (t := 97) rfl (cond_t hp)
      obtain ⟨I2, hI2, H⟩ := Gx.ex hG
      exact L_val hS rfl (Ob_sub_to tTreeS rfl rfl rfl rfl (H.slshape 6 rfl) hg14) ⟨(by rw [hp]; rfl), hG⟩
    refine .cons (fun ss hlo hhi vals1 xw hG hV => ?_) ?_
    ·obtain rfl : ss = 5 := Nat.le_antisymm hhi hlo
     rw [← hfe]
     have hS := (hfr vals1).sub (ts := [98, 93]) (S' := [(98, vals1 21), (93, vals1 16)]) rfl
     replace hS := hS.conv (t := 98) rfl (show (vals1 21) = cond ((l_2 == l_3) && s0) (subV v1_l 0 ((min (l.length : Int) 60).toNat) 1) undef from hV 21 (by decide))
     replace hS := hS.conv (t := 93) rfl (show (vals1 16) = .bool ((l_2 == l_3) && s0) from hV 16 (by decide))
     refine L_gw (p := ((l_2 == l_3) && s0)) hS rfl rfl rfl (wantB_t _) (fun hp => ?_) (fun hp => ⟨by rw [hp]; rfl, ?_⟩)
     ·obtain ⟨I2, hI2, H⟩ := Gx.ex hG
      replace hS := hS.conv (t := 98) rfl (cond_t hp)
      refine L_hcall H (js := [(5, true)]) rfl (caps := #[]) hS fn_13_YTreeS rfl rfl rfl rfl rfl (fun D1 hS => have hq := c_ref05_Set (gif_in hx12 hp) hS; hq) fun _ yw D1 hr hF2 => ?_
      obtain ⟨q0_, rfl, I3, K⟩ := hr
      obtain ⟨hK, H2⟩ := hF2 K
      obtain ⟨_, _, rfl, _, _⟩ := H2.slshape 0 rfl
      exact ⟨by rw [hp]; rfl, by first | (rw [hp] at H2 ⊢; exact Gx.go hG hI2 hK K.imm H2) | (rw [hp]; exact Gx.go hG hI2 hK K.imm H2) | exact Gx.go hG hI2 hK K.imm H2⟩
     ·obtain rfl := gif_no hx12 hp; (try rw [hp]); obtain ⟨I2, hI2, H⟩ := Gx.ex hG; (try rw [hp] at H); exact Gx.go hG hI2 (Keep.refl _ _) (fun _ h => h) (Hf.sub (Hf.slNil (H.sub [(0, false), (0, true), (1, false), (1, true), (2, true), (3, true), (4, true)] rfl) NS) [(0, false), (0, false), (0, true), (1, false), (1, true), (2, true), (3, true), (4, true)] rfl)
    refine .cons (fun ss hlo hhi vals1 xw hG hV => ?_) ?_
    ·obtain rfl : ss = 6 := Nat.le_antisymm hhi hlo
     rw [← hfe]
     have hS := (hfr vals1).sub (ts := [95, 99, 93]) (S' := [(95, vals1 18), (99, vals1 22), (93, vals1 16)]) rfl
     replace hS := hS.conv (t := 95) rfl (show (vals1 18) = cond ((l_2 == l_3) && s0) ((slG (vals1 18))) undef from hV 18 (by decide))
     replace hS := hS.conv (t := 99) rfl (show (vals1 22) = cond ((l_2 == l_3) && s0) ((slG (vals1 22))) undef from hV 22 (by decide))
     replace hS := hS.conv (t := 93) rfl (show (vals1 16) = .bool ((l_2 == l_3) && s0) from hV 16 (by decide))
     refine L_gw (p := ((l_2 == l_3) && s0)) hS rfl rfl rfl (wantB_t _) (fun hp => ?_) (fun hp => ⟨by rw [hp]; rfl, hG⟩)
     replace hS := hS.conv (t := 95) rfl (cond_t hp)
     replace hS := hS.conv (t := 99) rfl (cond_t hp)
     obtain ⟨I2, hI2, H⟩ := Gx.ex hG
     refine L_call (caps := #[]) hS fn_11_YTreeS rfl rfl rfl rfl rfl ((have hq := c_ref05_Same (gif_in hx13 hp) ((H).pick0 (js := [(2, true), (0, true)]) rfl rfl); plainC hq)) fun r yw hr => ?_
     obtain ⟨rfl, hb⟩ := hr
     exact ⟨(by rw [hp]; rfl), Gx.blw hG hb⟩
    refine .cons (fun ss hlo hhi vals1 xw hG hV => ?_) ?_
    ·obtain rfl : ss = 6 := Nat.le_antisymm hhi hlo
     rw [← hfe]
     have hS := (hfr vals1).sub (ts := [93, 100]) (S' := [(93, vals1 16), (100, vals1 23)]) rfl
     replace hS := hS.conv (t := 93) rfl (show (vals1 16) = .bool ((l_2 == l_3) && s0) from hV 16 (by decide))
     replace hS := hS.conv (t := 100) rfl (show (vals1 23) = cond ((l_2 == l_3) && s0) (.bool s0_3) undef from hV 23 (by decide))
     exact L_val hS rfl (Ob_pick rfl rfl rfl rfl (pick_and _ _)) ⟨rfl, hG⟩
    refine .cons (fun ss hlo hhi vals1 xw hG hV => ?_) ?_
    ·obtain rfl : ss = 6 := Nat.le_antisymm hhi hlo
     rw [← hfe]
     have hS := (hfr vals1).sub (ts := [101]) (S' := [(101, vals1 24)]) rfl
     replace hS := hS.conv (t := 101) rfl (show (vals1 24) = .bool (((l_2 == l_3) && s0) && s0_3) from hV 24 (by decide))
     exact L_val hS rfl (Ob_c tTreeS rfl) ⟨rfl, hG⟩
    refine .cons (fun ss hlo hhi vals1 xw hG hV => ?_) ?_
    ·obtain rfl : ss = 6 := Nat.le_antisymm hhi hlo
     rw [← hfe]
     have hS := (hfr vals1).sub (ts := [102]) (S' := [(102, vals1 25)]) rfl
     replace hS := hS.conv (t := 102) rfl (show (vals1 25) = .bool (((l_2 == l_3) && s0) && s0_3) from hV 25 (by decide))
     refine L_gw (p := (((l_2 == l_3) && s0) && s0_3)) hS rfl rfl rfl (wantB_t _) (fun hp => ?_) (fun hp => ⟨by rw [hp]; rfl, hG⟩)
     obtain ⟨I2, hI2, H⟩ := Gx.ex hG
     refine L_call (caps := #[]) hS fn_14_YTreeS rfl rfl rfl rfl rfl ((have hq := c_law15_awake (gif_in hx14 hp) ((H).pick0 (js := []) rfl rfl); plainC hq)) fun r yw hr => ?_
     obtain ⟨rfl, hb⟩ := hr
     exact ⟨(by rw [hp]; rfl), Gx.blw hG hb⟩
    refine .cons (fun ss hlo hhi vals1 xw hG hV => ?_) ?_
    ·obtain rfl : ss = 6 := Nat.le_antisymm hhi hlo
     rw [← hfe]
     have hS := (hfr vals1).sub (ts := [102, 103]) (S' := [(102, vals1 25), (103, vals1 26)]) rfl
     replace hS := hS.conv (t := 102) rfl (show (vals1 25) = .bool (((l_2 == l_3) && s0) && s0_3) from hV 25 (by decide))
     replace hS := hS.conv (t := 103) rfl (show (vals1 26) = cond (((l_2 == l_3) && s0) && s0_3) (.bool a0) undef from hV 26 (by decide))
     exact L_val hS rfl (Ob_pick rfl rfl rfl rfl (pick_and _ _)) ⟨rfl, hG⟩
    refine .cons (fun ss hlo hhi vals1 xw hG hV => ?_) ?_
    ·obtain rfl : ss = 6 := Nat.le_antisymm hhi hlo
     rw [← hfe]
     have hS := (hfr vals1).sub (ts := [104]) (S' := [(104, vals1 27)]) rfl
     replace hS := hS.conv (t := 104) rfl (show (vals1 27) = .bool ((((l_2 == l_3) && s0) && s0_3) && a0) from hV 27 (by decide))
     exact L_val hS rfl (Ob_c tTreeS rfl) ⟨rfl, hG⟩
    exact .nil
   ·intro vals1 a w10 Z hG hV
    replace Z := Z.sub (ts := [6]) (S' := [(6, vals1 28)]) rfl
    replace Z := Z.conv (t := 6) rfl (show (vals1 28) = .bool ((((l_2 == l_3) && s0) && s0_3) && a0) from hV 28 (by decide))
    obtain ⟨I8, _, H⟩ := Gx.ex hG
    clear hG hV
    replace Z := Z.sub (ts := [6]) rfl
    replace H : Hf I D w I8 w10 [SlC NS (slG (vals1 22)) s0_2, OEtree_Tree_int g1 (cond ((l_2 == l_3) && s0) k_3.2 (cond (l_2 == l_3) k.2 t)), SlC NS (slG (vals1 18)) k_3.1, OEtree_Tree_int g2 (cond (l_2 == l_3) k_2.2 u), SlC NS (slG (vals1 13)) k_2.1, SlC NS (slG (vals1 9)) k.1, SlC NS (subV v1_l 0 ((min (l.length : Int) 60).toNat) 1) (l.take ((min (l.length : Int) 60).toNat)), SlC NS v1_l l] := H
    refine p_then (wp_ret ?_)
    obtain rfl := some_in hF
    exact f_ret Z (run_results1 rfl Z rfl) ⟨rfl, I8, (H.sub [] rfl).eq rfl⟩

end Go.Proofs.Ytfcdghlgcnjkoaa
