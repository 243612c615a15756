/- Many versions: the document's store. -/
import Derived.Test.YtglfajjcgbfehaaYMv1
import Derived.Test.YtglfajjcgbfehaaYRv
namespace Go.Proofs.Ytglfajjcgbfehaa
open Go.RowKit
structure Eref16_Row where
 k : ByteArray
 l : List ECell

instance : Inhabited Eref16_Row := ⟨⟨ByteArray.empty, []⟩⟩

structure Eref16_Store where
 l : List Eref16_Row
 last : Int

instance : Inhabited Eref16_Store := ⟨⟨[], 0⟩⟩

def tMv2L : TabL := ⟨[(38912, 0), (38913, 1), (38914, 2), (57344, 0), (57345, 1), (75776, 0), (75777, 1), (75778, 2), (99328, 0), (99329, 1), (105472, 0), (105473, 1)], [9], [], [(36, (74, 3)), (54, (103, 2)), (58, (97, 2)), (86, (95, 3)), (99, (9, 1))], [(3, (1, false)), (4, (1, false)), (9, (1, false)), (27, (1, false)), (36, (1, false)), (38, (3, true)), (54, (1, false)), (74, (3, true)), (86, (1, false)), (95, (3, true)), (97, (2, true))]⟩

def tMv2 : Tab Try.prog := ⟨tMv2L, by kernel_rfl⟩

theorem fn_74_YMv2 : IsFn Try.prog 74 := ⟨_, Try.func74, by kernel_rfl, by kernel_rfl⟩

def F_ref05_Check (k : ByteArray) : Option Int := if ((decide ((k.size : Int) < 1)) || (decide ((k.size : Int) > 8))) = true then (some 10) else (some 0)

set_option maxHeartbeats 1000000 in
theorem c_ref05_Check {I D : Dm} {k : ByteArray} {w : World} {rr : Int} (hF : F_ref05_Check k = some rr) (H : St I D w []) :
  Calls Try.prog 74 #[.string k] w (Ret fun vv w' => vv = .int .i64 rr ∧ ∃ I', Hf I D w I' w' []) := by
 replace H := H.hf
 unfold F_ref05_Check at hF
 refine f_enter 11 Try.func74 rfl rfl (Nat.le_of_ble_eq_true rfl) fun a Z => ?_
 replace Z := Z.sub (ts := [0]) rfl
 refine wp_seq (f_region Z ?_); clear Z; intro Z
 refine s_runk tMv2 Z 1 rfl rfl ?_; clear Z a; intro a Z
 refine s_end Z [0, 2] rfl ?_; clear Z; intro Z
 refine p_then (wp_seq ?_)
 refine wp_seq (f_region Z ?_); clear Z; intro Z
 refine s_runk tMv2 Z 4 rfl rfl ?_; clear Z a; intro a Z
 refine g_ob Z (p := (!(decide ((k.size : Int) < 1)))) (v := .string k) (S' := [(0, .string k)]) rfl rfl rfl (wantB_f _) rfl (by decide) (fun hp hS => hS.sub (ts := [0]) rfl) (fun hp => Ob_c tMv2 rfl) ?_; clear Z a; intro a Z
 refine g_ob Z (p := (!(decide ((k.size : Int) < 1)))) (v := .int .i64 (k.size : Int)) (S' := [(7, .string k)]) rfl rfl rfl (wantB_f _) rfl (by decide) (fun hp hS => (hS.conv (t := 7) rfl (cond_t hp)).sub (ts := [7]) rfl) (fun hp => Ob_c tMv2 rfl) ?_; clear Z a; intro a Z
 refine g_ob Z (p := (!(decide ((k.size : Int) < 1)))) (v := .bool (decide ((k.size : Int) > 8))) (S' := [(8, .int .i64 (k.size : Int))]) rfl rfl rfl (wantB_f _) rfl (by decide) (fun hp hS => (hS.conv (t := 8) rfl (cond_t hp)).sub (ts := [8]) rfl) (fun hp => Ob_c tMv2 rfl) ?_; clear Z a; intro a Z
 refine s_ob Z (v := .bool ((decide ((k.size : Int) < 1)) || (decide ((k.size : Int) > 8)))) rfl rfl (by decide) rfl (Ob_pick rfl rfl rfl rfl (pick_or _ _)) ?_; clear Z a; intro a Z
 refine s_end Z [2, 10] rfl ?_; clear Z; intro Z
 refine p_then ?_
 refine f_cond Z rfl (fun hc1 => ?_) (fun hc1 => ?_)
 ·replace hF := ite_t hc1 hF
  refine wp_seq (f_region Z ?_); clear Z; intro Z
  refine s_runk tMv2 Z 1 rfl rfl ?_; clear Z a; intro a Z
  refine s_end Z [2] rfl ?_; clear Z; intro Z
  refine p_then (wp_ret ?_)
  refine p_then_r ?_
  obtain rfl := some_in hF
  exact f_ret Z (run_results1 rfl Z rfl) ⟨rfl, I, (H.sub [] rfl).eq rfl⟩
 ·replace hF := ite_f hc1 hF
  refine wp_skip ?_
  refine p_then (wp_seq (f_region Z ?_)); clear Z; intro Z
  refine s_runk tMv2 Z 1 rfl rfl ?_; clear Z a; intro a Z
  refine s_end Z [2] rfl ?_; clear Z; intro Z
  refine p_then (wp_ret ?_)
  obtain rfl := some_in hF
  exact f_ret Z (run_results1 rfl Z rfl) ⟨rfl, I, (H.sub [] rfl).eq rfl⟩

def F_ref06_Check_l1 (b : EBatch) (rc : Int → Option Int) (sg : Int) : Option Int := match sg with | i => if (decide (i < (b.ops.length : Int))) = true then (chk ((0 : Int) ≤ i ∧ i < (b.ops.length : Int)) ((F_ref05_Check ((b.ops.getD (i).toNat default).key)).bind fun c => (if (c != 0) = true then (some 10) else (if (decide ((((b.ops.getD (i).toNat default).val).size : Int) > 8)) = true then (some 3) else (if (((b.ops.getD (i).toNat default).del) && (!seqB ((b.ops.getD (i).toNat default).val) ⟨#[]⟩)) = true then (some 4) else (chk ((decide (i > 0)) = true → inI (i - 1)) (chk ((decide (i > 0)) = true → (0 : Int) ≤ i - 1 ∧ i - 1 < (b.ops.length : Int)) (if ((decide (i > 0)) && (!sltB ((b.ops.getD (i - 1).toNat default).key) ((b.ops.getD (i).toNat default).key))) = true then (some 18) else (chk (inI (i + 1)) (rc (i + 1))))))))))) else (some 0)

def F_ref06_Check (b : EBatch) : Option Int := if ((decide (b.client < 0)) || (decide (b.client ≥ 3))) = true then (some 1) else (if ((decide (b.req < 1)) || (decide (b.req > 1073741824))) = true then (some 5) else (if (decide ((b.ops.length : Int) > 4)) = true then (some 6) else (iter (F_ref06_Check_l1 b) FU 0)))

set_option maxHeartbeats 1000000 in
theorem c_ref06_Check {I D : Dm} {b : EBatch} {v1_b : Value} {w : World} {rr : Int} (hF : F_ref06_Check b = some rr) (H : St I D w [SlC NEOp v1_b b.ops]) :
  Calls Try.prog 42 #[.agg #[.int .i64 b.client, .int .i64 b.req, v1_b]] w (Ret fun vv w' => vv = .int .i64 rr ∧ ∃ I', Hf I D w I' w' []) := by
 replace H := H.hf
 unfold F_ref06_Check at hF
 refine f_enter 66 Try.func42 rfl rfl (Nat.le_of_ble_eq_true rfl) fun a Z => ?_
 replace Z := Z.sub (ts := [0]) rfl
 refine wp_seq (f_region Z ?_); clear Z; intro Z
 refine h_boxv Z H (cl := [.int .i64 b.client, .int .i64 b.req, v1_b]) rfl rfl rfl (by decide) rfl rfl rfl ?_; clear Z a H; intro a w1 b1 H Z
 refine s_runk tMv2 Z 1 rfl rfl ?_; clear Z a; intro a Z
 refine s_end Z [1, 2] rfl ?_; clear Z; intro Z
 refine p_then (wp_seq ?_)
 refine wp_seq (f_region Z ?_); clear Z; intro Z
 refine s_runk tMv2 Z 1 rfl rfl ?_; clear Z a; intro a Z
 refine s_ob Z (v := .int .i64 b.client) rfl rfl (by decide) rfl (Ob_load tMv2 rfl rfl rfl ((H.bx 0 rfl).cell 0 rfl)) ?_; clear Z a; intro a Z
 refine s_runk tMv2 Z 2 rfl rfl ?_; clear Z a; intro a Z
 refine g_ob Z (p := (!(decide (b.client < 0)))) (v := .pointer (some ⟨b1, 0, none⟩)) (S' := [(1, .pointer (some ⟨b1, 0, none⟩))]) rfl rfl rfl (wantB_f _) rfl (by decide) (fun hp hS => hS.sub (ts := [1]) rfl) (fun hp => Ob_c tMv2 rfl) ?_; clear Z a; intro a Z
 refine g_ob Z (p := (!(decide (b.client < 0)))) (v := .int .i64 b.client) (S' := [(9, .pointer (some ⟨b1, 0, none⟩))]) rfl rfl rfl (wantB_f _) rfl (by decide) (fun hp hS => (hS.conv (t := 9) rfl (cond_t hp)).sub (ts := [9]) rfl) (fun hp => Ob_load tMv2 rfl rfl rfl ((H.bx 0 rfl).cell 0 rfl)) ?_; clear Z a; intro a Z
 refine g_ob Z (p := (!(decide (b.client < 0)))) (v := .bool (decide (b.client ≥ 3))) (S' := [(10, .int .i64 b.client)]) rfl rfl rfl (wantB_f _) rfl (by decide) (fun hp hS => (hS.conv (t := 10) rfl (cond_t hp)).sub (ts := [10]) rfl) (fun hp => Ob_c tMv2 rfl) ?_; clear Z a; intro a Z
 refine s_ob Z (v := .bool ((decide (b.client < 0)) || (decide (b.client ≥ 3)))) rfl rfl (by decide) rfl (Ob_pick rfl rfl rfl rfl (pick_or _ _)) ?_; clear Z a; intro a Z
 refine s_end Z [1, 2, 12] rfl ?_; clear Z; intro Z
 refine p_then ?_
 refine f_cond Z rfl (fun hc1 => ?_) (fun hc1 => ?_)
 ·replace hF := ite_t hc1 hF
  refine wp_seq (f_region Z ?_); clear Z; intro Z
  refine s_runk tMv2 Z 1 rfl rfl ?_; clear Z a; intro a Z
  refine s_end Z [1, 2] rfl ?_; clear Z; intro Z
  refine p_then (wp_ret ?_)
  refine p_then_r ?_
  obtain rfl := some_in hF
  exact f_ret Z (run_results1 rfl Z rfl) ⟨rfl, I, (H.sub [] rfl).eq rfl⟩
 ·replace hF := ite_f hc1 hF
  refine wp_skip ?_
  refine p_then (wp_seq ?_)
  refine wp_seq (f_region Z ?_); clear Z; intro Z
  refine s_runk tMv2 Z 1 rfl rfl ?_; clear Z a; intro a Z
  refine s_ob Z (v := .int .i64 b.req) rfl rfl (by decide) rfl (Ob_load tMv2 rfl rfl rfl ((H.bx 0 rfl).cell 1 rfl)) ?_; clear Z a; intro a Z
  refine s_runk tMv2 Z 2 rfl rfl ?_; clear Z a; intro a Z
  refine g_ob Z (p := (!(decide (b.req < 1)))) (v := .pointer (some ⟨b1, 1, none⟩)) (S' := [(1, .pointer (some ⟨b1, 0, none⟩))]) rfl rfl rfl (wantB_f _) rfl (by decide) (fun hp hS => hS.sub (ts := [1]) rfl) (fun hp => Ob_c tMv2 rfl) ?_; clear Z a; intro a Z
  refine g_ob Z (p := (!(decide (b.req < 1)))) (v := .int .i64 b.req) (S' := [(17, .pointer (some ⟨b1, 1, none⟩))]) rfl rfl rfl (wantB_f _) rfl (by decide) (fun hp hS => (hS.conv (t := 17) rfl (cond_t hp)).sub (ts := [17]) rfl) (fun hp => Ob_load tMv2 rfl rfl rfl ((H.bx 0 rfl).cell 1 rfl)) ?_; clear Z a; intro a Z
  refine g_ob Z (p := (!(decide (b.req < 1)))) (v := .bool (decide (b.req > 1073741824))) (S' := [(18, .int .i64 b.req)]) rfl rfl rfl (wantB_f _) rfl (by decide) (fun hp hS => (hS.conv (t := 18) rfl (cond_t hp)).sub (ts := [18]) rfl) (fun hp => Ob_c tMv2 rfl) ?_; clear Z a; intro a Z
  refine s_ob Z (v := .bool ((decide (b.req < 1)) || (decide (b.req > 1073741824)))) rfl rfl (by decide) rfl (Ob_pick rfl rfl rfl rfl (pick_or _ _)) ?_; clear Z a; intro a Z
  refine s_end Z [1, 2, 20] rfl ?_; clear Z; intro Z
  refine p_then ?_
  refine f_cond Z rfl (fun hc2 => ?_) (fun hc2 => ?_)
  ·replace hF := ite_t hc2 hF
   refine wp_seq (f_region Z ?_); clear Z; intro Z
   refine s_runk tMv2 Z 1 rfl rfl ?_; clear Z a; intro a Z
   refine s_end Z [1, 2] rfl ?_; clear Z; intro Z
   refine p_then (wp_ret ?_)
   refine p_then_r ?_
   obtain rfl := some_in hF
   exact f_ret Z (run_results1 rfl Z rfl) ⟨rfl, I, (H.sub [] rfl).eq rfl⟩
  ·replace hF := ite_f hc2 hF
   refine wp_skip ?_
   refine p_then (wp_seq ?_)
   refine wp_seq (f_region Z ?_); clear Z; intro Z
   refine s_runk tMv2 Z 1 rfl rfl ?_; clear Z a; intro a Z
   refine s_ob Z (v := v1_b) rfl rfl (by decide) rfl (Ob_load tMv2 rfl rfl rfl ((H.bx 0 rfl).cell 2 rfl)) ?_; clear Z a; intro a Z
   refine s_ob Z (v := .int .i64 (b.ops.length : Int)) rfl rfl (by decide) rfl (Ob_slen tMv2 rfl rfl rfl (H.slshape 1 rfl)) ?_; clear Z a; intro a Z
   refine s_runk tMv2 Z 1 rfl rfl ?_; clear Z a; intro a Z
   refine s_end Z [1, 2, 24] rfl ?_; clear Z; intro Z
   refine p_then ?_
   refine f_cond Z rfl (fun hc3 => ?_) (fun hc3 => ?_)
   ·replace hF := ite_t hc3 hF
    refine wp_seq (f_region Z ?_); clear Z; intro Z
    refine s_runk tMv2 Z 1 rfl rfl ?_; clear Z a; intro a Z
    refine s_end Z [1, 2] rfl ?_; clear Z; intro Z
    refine p_then (wp_ret ?_)
    refine p_then_r ?_
    obtain rfl := some_in hF
    exact f_ret Z (run_results1 rfl Z rfl) ⟨rfl, I, (H.sub [] rfl).eq rfl⟩
   ·replace hF := ite_f hc3 hF
    refine wp_skip ?_
    refine p_then (wp_seq ?_)
    refine wp_seq (f_region Z ?_); clear Z; intro Z
    refine s_runk tMv2 Z 1 rfl rfl ?_; clear Z a; intro a Z
    refine s_end Z [1, 2, 3] rfl ?_; clear Z; intro Z
    refine p_then (wp_block ?_)
    refine f_iter hF (fun sg a' w' => match sg with | i => Sl 66 [(1, .pointer (some ⟨b1, 0, none⟩)), (2, .int .i64 0), (3, .int .i64 i)] a' ∧ ∃ I2, Hf I D w I2 w' [BxC b1 38 [.int .i64 b.client, .int .i64 b.req, v1_b], SlC NEOp v1_b b.ops]) ⟨Z.sub (ts := [1, 2, 3]) rfl, ⟨I, (H.sub [(0, false), (0, true)] rfl).eq rfl⟩⟩ ?_
    clear Z H hF a
    rintro rc i a w2 ⟨Z, I1, H⟩ hF
    unfold F_ref06_Check_l1 at hF
    try dsimp only at hF
    refine wp_seq ?_
    refine wp_seq (f_region Z ?_); clear Z; intro Z
    refine s_runk tMv2 Z 2 rfl rfl ?_; clear Z a; intro a Z
    refine s_ob Z (v := v1_b) rfl rfl (by decide) rfl (Ob_load tMv2 rfl rfl rfl ((H.bx 0 rfl).cell 2 rfl)) ?_; clear Z a; intro a Z
    refine s_ob Z (v := .int .i64 (b.ops.length : Int)) rfl rfl (by decide) rfl (Ob_slen tMv2 rfl rfl rfl (H.slshape 1 rfl)) ?_; clear Z a; intro a Z
    refine s_runk tMv2 Z 1 rfl rfl ?_; clear Z a; intro a Z
    refine s_end Z [1, 2, 3, 25, 26, 27, 28, 29] rfl ?_; clear Z; intro Z
    refine p_then ?_
    refine f_cond Z rfl (fun hc4 => ?_) (fun hc4 => ?_)
    ·replace hF := ite_t hc4 hF
     refine wp_skip ?_
     refine p_then (wp_seq ?_)
     refine wp_block ?_
     refine wp_seq ?_
     obtain ⟨hg1, hF⟩ := chk_in hF
     refine f_region Z ?_; clear Z; intro Z
     refine s_runk tMv2 Z 1 rfl rfl ?_; clear Z a; intro a Z
     refine s_ob Z (v := v1_b) rfl rfl (by decide) rfl (Ob_load tMv2 rfl rfl rfl ((H.bx 0 rfl).cell 2 rfl)) ?_; clear Z a; intro a Z
     refine s_runk tMv2 Z 1 rfl rfl ?_; clear Z a; intro a Z
     refine s_ob Z (v := .pointer (some ⟨blkOf v1_b, oofOf v1_b + (i).toNat * 3, none⟩)) rfl rfl (by decide) rfl (Ob_sidx tMv2 rfl rfl rfl rfl (slPl (H.sl 1 rfl) hg1) hg1) ?_; clear Z a; intro a Z
     refine s_ob Z (v := .agg #[.string ((b.ops.getD (i).toNat default).key), .string ((b.ops.getD (i).toNat default).val), .bool ((b.ops.getD (i).toNat default).del)]) rfl rfl (by decide) rfl (Ob_loads tMv2 rfl rfl rfl ((slFl (H.sl 1 rfl) hg1).part 0 rfl)) ?_; clear Z a; intro a Z
     refine h_alloc Z H (cl := [.string ByteArray.empty, .string ByteArray.empty, .bool false]) (z := .agg #[.string ByteArray.empty, .string ByteArray.empty, .bool false]) rfl rfl rfl (by decide) rfl (by kernel_rfl) rfl ?_; clear Z a H; intro a w3 b2 H Z
     refine h_store tMv2 Z H 0 rfl rfl rfl rfl rfl rfl rfl rfl rfl (one_cons rfl (one_cons rfl (one_cons rfl one_nil))) (Nat.le_of_ble_eq_true rfl) rfl ?_; clear H; intro w4 H
     dsimp only [List.eraseIdx] at H
     refine s_end Z [1, 2, 3, 25, 26, 27, 28, 29, 32, 33, 34, 35, 36, 4] rfl ?_; clear Z; intro Z
     refine p_then (wp_seq ?_)
     refine wp_seq ?_
     obtain ⟨c, hx1, hF⟩ := bnd_in hF
     refine f_region Z ?_; clear Z; intro Z
     refine s_runk tMv2 Z 1 rfl rfl ?_; clear Z a; intro a Z
     refine s_ob Z (v := .string ((b.ops.getD (i).toNat default).key)) rfl rfl (by decide) rfl (Ob_load tMv2 rfl rfl rfl ((H.bx 0 rfl).cell 0 rfl)) ?_; clear Z a; intro a Z
     refine h_call Z H (js := []) rfl (caps := #[]) fn_74_YMv2 rfl rfl rfl rfl rfl (by decide) rfl rfl (fun D1 hS => have hq := c_ref05_Check hx1 hS; hq) ?_; clear Z a; intro vv a w5 D2 hr hF2 Z
     obtain ⟨rfl, I2, K⟩ := hr
     have H : Hf I D w I2 w5 [BxC b2 74 [.string ((b.ops.getD (i).toNat default).key), .string ((b.ops.getD (i).toNat default).val), .bool ((b.ops.getD (i).toNat default).del)], BxC b1 38 [.int .i64 b.client, .int .i64 b.req, v1_b], SlC NEOp v1_b b.ops] := hF2 K
     clear hF2 K
     refine s_runk tMv2 Z 1 rfl rfl ?_; clear Z a; intro a Z
     refine s_end Z [1, 2, 3, 25, 26, 27, 28, 29, 32, 33, 34, 35, 36, 4, 37, 38, 39, 40] rfl ?_; clear Z; intro Z
     refine p_then ?_
     refine f_cond Z rfl (fun hc5 => ?_) (fun hc5 => ?_)
     ·replace hF := ite_t hc5 hF
      refine wp_seq (f_region Z ?_); clear Z; intro Z
      refine s_runk tMv2 Z 1 rfl rfl ?_; clear Z a; intro a Z
      refine s_end Z [1, 2, 3, 25, 26, 27, 28, 29, 32, 33, 34, 35, 36, 4, 37, 38, 39, 40] rfl ?_; clear Z; intro Z
      refine p_then (wp_ret ?_)
      refine p_then_r ?_
      refine p_blk_r ?_
      refine p_then_r ?_
      refine p_then_r ?_
      refine p_blk_r ?_
      refine p_then_r ?_
      obtain rfl := some_in hF
      exact f_ret Z (run_results1 rfl Z rfl) ⟨rfl, I2, (H.sub [] rfl).eq rfl⟩
     ·replace hF := ite_f hc5 hF
      refine wp_skip ?_
      refine p_then (wp_seq ?_)
      refine wp_seq (f_region Z ?_); clear Z; intro Z
      refine s_runk tMv2 Z 1 rfl rfl ?_; clear Z a; intro a Z
      refine s_ob Z (v := .string ((b.ops.getD (i).toNat default).val)) rfl rfl (by decide) rfl (Ob_load tMv2 rfl rfl rfl ((H.bx 0 rfl).cell 1 rfl)) ?_; clear Z a; intro a Z
      refine s_runk tMv2 Z 2 rfl rfl ?_; clear Z a; intro a Z
      refine s_end Z [1, 2, 3, 25, 26, 27, 28, 29, 32, 33, 34, 35, 36, 4, 37, 38, 39, 40, 41, 42, 43, 44] rfl ?_; clear Z; intro Z
      refine p_then ?_
      refine f_cond Z rfl (fun hc6 => ?_) (fun hc6 => ?_)
      ·replace hF := ite_t hc6 hF
       refine wp_seq (f_region Z ?_); clear Z; intro Z
       refine s_runk tMv2 Z 1 rfl rfl ?_; clear Z a; intro a Z
       refine s_end Z [1, 2, 3, 25, 26, 27, 28, 29, 32, 33, 34, 35, 36, 4, 37, 38, 39, 40, 41, 42, 43, 44] rfl ?_; clear Z; intro Z
       refine p_then (wp_ret ?_)
       refine p_then_r ?_
       refine p_blk_r ?_
       refine p_then_r ?_
       refine p_then_r ?_
       refine p_blk_r ?_
       refine p_then_r ?_
       obtain rfl := some_in hF
       exact f_ret Z (run_results1 rfl Z rfl) ⟨rfl, I2, (H.sub [] rfl).eq rfl⟩
      ·replace hF := ite_f hc6 hF
       refine wp_skip ?_
       refine p_then (wp_seq ?_)
       refine wp_seq (f_region Z ?_); clear Z; intro Z
       refine s_runk tMv2 Z 1 rfl rfl ?_; clear Z a; intro a Z
       refine s_ob Z (v := .bool ((b.ops.getD (i).toNat default).del)) rfl rfl (by decide) rfl (Ob_load tMv2 rfl rfl rfl ((H.bx 0 rfl).cell 2 rfl)) ?_; clear Z a; intro a Z
       refine s_runk tMv2 Z 1 rfl rfl ?_; clear Z a; intro a Z
       refine g_ob Z (p := ((b.ops.getD (i).toNat default).del)) (v := .pointer (some ⟨b2, 1, none⟩)) (S' := [(4, .pointer (some ⟨b2, 0, none⟩))]) rfl rfl rfl (wantB_t _) rfl (by decide) (fun hp hS => hS.sub (ts := [4]) rfl) (fun hp => Ob_c tMv2 rfl) ?_; clear Z a; intro a Z
       refine g_ob Z (p := ((b.ops.getD (i).toNat default).del)) (v := .string ((b.ops.getD (i).toNat default).val)) (S' := [(48, .pointer (some ⟨b2, 1, none⟩))]) rfl rfl rfl (wantB_t _) rfl (by decide) (fun hp hS => (hS.conv (t := 48) rfl (cond_t hp)).sub (ts := [48]) rfl) (fun hp => Ob_load tMv2 rfl rfl rfl ((H.bx 0 rfl).cell 1 rfl)) ?_; clear Z a; intro a Z
       refine g_ob Z (p := ((b.ops.getD (i).toNat default).del)) (v := .bool (!seqB ((b.ops.getD (i).toNat default).val) ⟨#[]⟩)) (S' := [(49, .string ((b.ops.getD (i).toNat default).val))]) rfl rfl rfl (wantB_t _) rfl (by decide) (fun hp hS => (hS.conv (t := 49) rfl (cond_t hp)).sub (ts := [49]) rfl) (fun hp => Ob_c tMv2 rfl) ?_; clear Z a; intro a Z
       refine s_ob Z (v := .bool (((b.ops.getD (i).toNat default).del) && (!seqB ((b.ops.getD (i).toNat default).val) ⟨#[]⟩))) rfl rfl (by decide) rfl (Ob_pick rfl rfl rfl rfl (pick_and _ _)) ?_; clear Z a; intro a Z
       refine s_end Z [1, 2, 3, 25, 26, 27, 28, 29, 32, 33, 34, 35, 36, 4, 37, 38, 39, 40, 41, 42, 43, 44, 45, 46, 47, 51] rfl ?_; clear Z; intro Z
       refine p_then ?_
       refine f_cond Z rfl (fun hc7 => ?_) (fun hc7 => ?_)
       ·replace hF := ite_t hc7 hF
        refine wp_seq (f_region Z ?_); clear Z; intro Z
        refine s_runk tMv2 Z 1 rfl rfl ?_; clear Z a; intro a Z
        refine s_end Z [1, 2, 3, 25, 26, 27, 28, 29, 32, 33, 34, 35, 36, 4, 37, 38, 39, 40, 41, 42, 43, 44, 45, 46, 47, 51] rfl ?_; clear Z; intro Z
        refine p_then (wp_ret ?_)
        refine p_then_r ?_
        refine p_blk_r ?_
        refine p_then_r ?_
        refine p_then_r ?_
        refine p_blk_r ?_
        refine p_then_r ?_
        obtain rfl := some_in hF
        exact f_ret Z (run_results1 rfl Z rfl) ⟨rfl, I2, (H.sub [] rfl).eq rfl⟩
       ·replace hF := ite_f hc7 hF
        refine wp_skip ?_
        refine p_then (wp_seq ?_)
        obtain ⟨hg2, hF⟩ := chk_in hF
        obtain ⟨hg3, hF⟩ := chk_in hF
        refine f_quietd (by kernel_rfl) (by kernel_rfl) Z ?_; clear Z; intro Z
        refine q_runk tMv2 Z 3 rfl rfl ?_; clear Z a; intro a Z
        refine gq_ob Z (p := (decide (i > 0))) (v := .pointer (some ⟨b1, 2, none⟩)) (S' := [(1, .pointer (some ⟨b1, 0, none⟩))]) rfl rfl rfl (wantB_t _) rfl (by decide) (fun hp hS => hS.sub (ts := [1]) rfl) (fun hp _ hw => Ob_c tMv2 rfl) ?_; clear Z a; intro a Z
        refine gq_ob Z (p := (decide (i > 0))) (v := v1_b) (S' := [(55, .pointer (some ⟨b1, 2, none⟩))]) rfl rfl rfl (wantB_t _) rfl (by decide) (fun hp hS => (hS.conv (t := 55) rfl (cond_t hp)).sub (ts := [55]) rfl) (fun hp _ hw => Ob_load tMv2 rfl rfl rfl (((H.blw hw).bx 1 rfl).cell 2 rfl)) ?_; clear Z a; intro a Z
        refine gq_ob Z (p := (decide (i > 0))) (v := .int .i64 i) (S' := [(3, .int .i64 i)]) rfl rfl rfl (wantB_t _) rfl (by decide) (fun hp hS => hS.sub (ts := [3]) rfl) (fun hp _ hw => Ob_c tMv2 rfl) ?_; clear Z a; intro a Z
        refine gq_ob Z (p := (decide (i > 0))) (v := .int .i64 (i - 1)) (S' := [(57, .int .i64 i)]) rfl rfl rfl (wantB_t _) rfl (by decide) (fun hp hS => (hS.conv (t := 57) rfl (cond_t hp)).sub (ts := [57]) rfl) (fun hp _ hw => Ob_sub rfl rfl rfl (wrI (hg2 hp))) ?_; clear Z a; intro a Z
        refine gq_ob Z (p := (decide (i > 0))) (v := .pointer (some ⟨blkOf v1_b, oofOf v1_b + (i - 1).toNat * 3, none⟩)) (S' := [(56, v1_b), (58, .int .i64 (i - 1))]) rfl rfl rfl (wantB_t _) rfl (by decide) (fun hp hS => ((hS.conv (t := 56) rfl (cond_t hp)).conv (t := 58) rfl (cond_t hp)).sub (ts := [56, 58]) rfl) (fun hp _ hw => Ob_sidx tMv2 rfl rfl rfl rfl (slPl ((H.blw hw).sl 2 rfl) (hg3 hp)) (hg3 hp)) ?_; clear Z a; intro a Z
        refine gq_ob Z (p := (decide (i > 0))) (v := .pointer (some ⟨blkOf v1_b, oofOf v1_b + (i - 1).toNat * 3, none⟩)) (S' := [(59, .pointer (some ⟨blkOf v1_b, oofOf v1_b + (i - 1).toNat * 3, none⟩))]) rfl rfl rfl (wantB_t _) rfl (by decide) (fun hp hS => (hS.conv (t := 59) rfl (cond_t hp)).sub (ts := [59]) rfl) (fun hp _ hw => Ob_c tMv2 rfl) ?_; clear Z a; intro a Z
        refine gq_ob Z (p := (decide (i > 0))) (v := .string ((b.ops.getD (i - 1).toNat default).key)) (S' := [(60, .pointer (some ⟨blkOf v1_b, oofOf v1_b + (i - 1).toNat * 3, none⟩))]) rfl rfl rfl (wantB_t _) rfl (by decide) (fun hp hS => (hS.conv (t := 60) rfl (cond_t hp)).sub (ts := [60]) rfl) (fun hp _ hw => Ob_load tMv2 rfl rfl rfl ((slFl ((H.blw hw).sl 2 rfl) (hg3 hp)) 0 _ rfl)) ?_; clear Z a; intro a Z
        refine gq_ob Z (p := (decide (i > 0))) (v := .pointer (some ⟨b2, 0, none⟩)) (S' := [(4, .pointer (some ⟨b2, 0, none⟩))]) rfl rfl rfl (wantB_t _) rfl (by decide) (fun hp hS => hS.sub (ts := [4]) rfl) (fun hp _ hw => Ob_c tMv2 rfl) ?_; clear Z a; intro a Z
        refine gq_ob Z (p := (decide (i > 0))) (v := .string ((b.ops.getD (i).toNat default).key)) (S' := [(62, .pointer (some ⟨b2, 0, none⟩))]) rfl rfl rfl (wantB_t _) rfl (by decide) (fun hp hS => (hS.conv (t := 62) rfl (cond_t hp)).sub (ts := [62]) rfl) (fun hp _ hw => Ob_load tMv2 rfl rfl rfl (((H.blw hw).bx 0 rfl).cell 0 rfl)) ?_; clear Z a; intro a Z
        refine gq_ob Z (p := (decide (i > 0))) (v := .bool (!sltB ((b.ops.getD (i - 1).toNat default).key) ((b.ops.getD (i).toNat default).key))) (S' := [(61, .string ((b.ops.getD (i - 1).toNat default).key)), (63, .string ((b.ops.getD (i).toNat default).key))]) rfl rfl rfl (wantB_t _) rfl (by decide) (fun hp hS => ((hS.conv (t := 61) rfl (cond_t hp)).conv (t := 63) rfl (cond_t hp)).sub (ts := [61, 63]) rfl) (fun hp _ hw => Ob_c tMv2 rfl) ?_; clear Z a; intro a Z
        refine q_ob Z (v := .bool ((decide (i > 0)) && (!sltB ((b.ops.getD (i - 1).toNat default).key) ((b.ops.getD (i).toNat default).key)))) rfl rfl (by decide) rfl (fun _ hw => Ob_pick rfl rfl rfl rfl (pick_and _ _)) ?_; clear Z a; intro a Z
        refine q_end Z [1, 2, 3, 25, 26, 27, 28, 29, 32, 33, 34, 35, 36, 4, 37, 38, 39, 40, 41, 42, 43, 44, 45, 46, 47, 51, 52, 53, 54, 65] rfl ?_; clear Z; intro w6 hb Z
        replace H : Hf I D w I2 w6 [BxC b2 74 [.string ((b.ops.getD (i).toNat default).key), .string ((b.ops.getD (i).toNat default).val), .bool ((b.ops.getD (i).toNat default).del)], BxC b1 38 [.int .i64 b.client, .int .i64 b.req, v1_b], SlC NEOp v1_b b.ops] := H.blw hb
        clear hb
        refine p_then ?_
        refine f_cond Z rfl (fun hc8 => ?_) (fun hc8 => ?_)
        ·replace hF := ite_t hc8 hF
         refine wp_seq (f_region Z ?_); clear Z; intro Z
         refine s_runk tMv2 Z 1 rfl rfl ?_; clear Z a; intro a Z
         refine s_end Z [1, 2, 3, 25, 26, 27, 28, 29, 32, 33, 34, 35, 36, 4, 37, 38, 39, 40, 41, 42, 43, 44, 45, 46, 47, 51, 52, 53, 54, 65] rfl ?_; clear Z; intro Z
         refine p_then (wp_ret ?_)
         refine p_blk_r ?_
         refine p_then_r ?_
         refine p_then_r ?_
         refine p_blk_r ?_
         refine p_then_r ?_
         obtain rfl := some_in hF
         exact f_ret Z (run_results1 rfl Z rfl) ⟨rfl, I2, (H.sub [] rfl).eq rfl⟩
        ·replace hF := ite_f hc8 hF
         refine wp_skip ?_
         refine p_blk ?_
         refine p_then ?_
         obtain ⟨hg4, hF⟩ := chk_in hF
         refine f_region Z ?_; clear Z; intro Z
         refine s_runk tMv2 Z 1 rfl rfl ?_; clear Z a; intro a Z
         refine s_ob Z (v := .int .i64 (i + 1)) rfl rfl (by decide) rfl (Ob_add rfl rfl rfl (wrI hg4)) ?_; clear Z a; intro a Z
         refine s_runk tMv2 Z 1 rfl rfl ?_; clear Z a; intro a Z
         refine s_end Z [1, 2, 3, 25, 26, 27, 28, 29, 32, 33, 34, 35, 36, 4, 37, 38, 39, 40, 41, 42, 43, 44, 45, 46, 47, 51, 52, 53, 54, 65, 30, 31] rfl ?_; clear Z; intro Z
         refine p_then ?_
         exact ⟨(i + 1), ⟨Z.sub (ts := [1, 2, 3]) rfl, ⟨I2, (H.sub [(1, false), (1, true)] rfl).eq rfl⟩⟩, hF⟩
    ·replace hF := ite_f hc4 hF
     refine wp_exit ?_
     refine p_then_x ?_
     refine p_then_x ?_
     refine f_exit_here ?_
     refine p_then (wp_seq (f_region Z ?_)); clear Z; intro Z
     refine s_runk tMv2 Z 1 rfl rfl ?_; clear Z a; intro a Z
     refine s_end Z [2] rfl ?_; clear Z; intro Z
     refine p_then (wp_ret ?_)
     obtain rfl := some_in hF
     exact f_ret Z (run_results1 rfl Z rfl) ⟨rfl, I1, (H.sub [] rfl).eq rfl⟩

end Go.Proofs.Ytglfajjcgbfehaa
