/- What a replica knows: the law RstateRight walked. -/
import Derived.Test.YtglfajjcgbfehaaYRfW
namespace Go.Proofs.Ytglfajjcgbfehaa
open Go.RowKit
def tRfWRL : TabL := ⟨[(31744, 0), (38912, 0), (38913, 1), (40960, 0), (40961, 3), (47104, 0), (47107, 3)], [], [], [(22, (46, 18)), (48, (40, 4))], [(3, (1, false)), (27, (1, false)), (40, (4, true)), (46, (18, true))]⟩

def tRfWR : Tab Try.prog := ⟨tRfWRL, by kernel_rfl⟩

theorem fn_6_YRfWR : IsFn Try.prog 6 := ⟨_, Try.func6, by kernel_rfl, by kernel_rfl⟩

theorem fn_7_YRfWR : IsFn Try.prog 7 := ⟨_, Try.func7, by kernel_rfl, by kernel_rfl⟩

theorem fn_8_YRfWR : IsFn Try.prog 8 := ⟨_, Try.func8, by kernel_rfl, by kernel_rfl⟩

theorem fn_9_YRfWR : IsFn Try.prog 9 := ⟨_, Try.func9, by kernel_rfl, by kernel_rfl⟩

theorem fn_10_YRfWR : IsFn Try.prog 10 := ⟨_, Try.func10, by kernel_rfl, by kernel_rfl⟩

theorem fn_11_YRfWR : IsFn Try.prog 11 := ⟨_, Try.func11, by kernel_rfl, by kernel_rfl⟩

theorem fn_12_YRfWR : IsFn Try.prog 12 := ⟨_, Try.func12, by kernel_rfl, by kernel_rfl⟩

theorem fn_13_YRfWR : IsFn Try.prog 13 := ⟨_, Try.func13, by kernel_rfl, by kernel_rfl⟩

theorem fn_36_YRfWR : IsFn Try.prog 36 := ⟨_, Try.func36, by kernel_rfl, by kernel_rfl⟩

theorem fn_37_YRfWR : IsFn Try.prog 37 := ⟨_, Try.func37, by kernel_rfl, by kernel_rfl⟩

def F_ref08_Twins (a0 : EEntry) (b : EEntry) : Option Bool := some ((a0.batch.client == b.batch.client) && (a0.batch.req == b.batch.req))

set_option maxHeartbeats 1000000 in
theorem c_ref08_Twins {I D : Dm} {a0 : EEntry} {v1_a0 : Value} {b : EEntry} {v2_b : Value} {w : World} {rr : Bool} (hF : F_ref08_Twins a0 b = some rr) (H : St I D w [SlC NEOp v1_a0 a0.batch.ops, SlC NEOp v2_b b.batch.ops]) :
  Calls Try.prog 37 #[.agg #[.int .i64 a0.batch.client, .int .i64 a0.batch.req, v1_a0, .int .u64 a0.ts], .agg #[.int .i64 b.batch.client, .int .i64 b.batch.req, v2_b, .int .u64 b.ts]] w (Ret fun vv w' => vv = .bool rr ∧ ∃ I', Hf I D w I' w' []) := by
 replace H := H.hf
 unfold F_ref08_Twins at hF
 refine f_enter 21 Try.func37 rfl rfl (Nat.le_of_ble_eq_true rfl) fun a Z => ?_
 replace Z := Z.sub (ts := [0, 1]) rfl
 refine wp_seq (f_region Z ?_); clear Z; intro Z
 refine h_boxv Z H (cl := [.int .i64 a0.batch.client, .int .i64 a0.batch.req, v1_a0, .int .u64 a0.ts]) rfl rfl rfl (by decide) rfl rfl rfl ?_; clear Z a H; intro a w1 b1 H Z
 refine h_boxv Z H (cl := [.int .i64 b.batch.client, .int .i64 b.batch.req, v2_b, .int .u64 b.ts]) rfl rfl rfl (by decide) rfl rfl rfl ?_; clear Z a H; intro a w2 b2 H Z
 refine s_runk tRfWR Z 1 rfl rfl ?_; clear Z a; intro a Z
 refine s_end Z [2, 3] rfl ?_; clear Z; intro Z
 refine p_then (wp_seq (f_region Z ?_)); clear Z; intro Z
 refine s_runk tRfWR Z 2 rfl rfl ?_; clear Z a; intro a Z
 refine s_ob Z (v := .int .i64 a0.batch.client) rfl rfl (by decide) rfl (Ob_load tRfWR rfl rfl rfl ((H.bx 1 rfl).cell 0 rfl)) ?_; clear Z a; intro a Z
 refine s_runk tRfWR Z 2 rfl rfl ?_; clear Z a; intro a Z
 refine s_ob Z (v := .int .i64 b.batch.client) rfl rfl (by decide) rfl (Ob_load tRfWR rfl rfl rfl ((H.bx 0 rfl).cell 0 rfl)) ?_; clear Z a; intro a Z
 refine s_runk tRfWR Z 2 rfl rfl ?_; clear Z a; intro a Z
 refine g_ob Z (p := (a0.batch.client == b.batch.client)) (v := .pointer (some ⟨b1, 0, none⟩)) (S' := [(2, .pointer (some ⟨b1, 0, none⟩))]) rfl rfl rfl (wantB_t _) rfl (by decide) (fun hp hS => hS.sub (ts := [2]) rfl) (fun hp => Ob_c tRfWR rfl) ?_; clear Z a; intro a Z
 refine g_ob Z (p := (a0.batch.client == b.batch.client)) (v := .pointer (some ⟨b1, 1, none⟩)) (S' := [(13, .pointer (some ⟨b1, 0, none⟩))]) rfl rfl rfl (wantB_t _) rfl (by decide) (fun hp hS => (hS.conv (t := 13) rfl (cond_t hp)).sub (ts := [13]) rfl) (fun hp => Ob_c tRfWR rfl) ?_; clear Z a; intro a Z
 refine g_ob Z (p := (a0.batch.client == b.batch.client)) (v := .int .i64 a0.batch.req) (S' := [(14, .pointer (some ⟨b1, 1, none⟩))]) rfl rfl rfl (wantB_t _) rfl (by decide) (fun hp hS => (hS.conv (t := 14) rfl (cond_t hp)).sub (ts := [14]) rfl) (fun hp => Ob_load tRfWR rfl rfl rfl ((H.bx 1 rfl).cell 1 rfl)) ?_; clear Z a; intro a Z
 refine g_ob Z (p := (a0.batch.client == b.batch.client)) (v := .pointer (some ⟨b2, 0, none⟩)) (S' := [(3, .pointer (some ⟨b2, 0, none⟩))]) rfl rfl rfl (wantB_t _) rfl (by decide) (fun hp hS => hS.sub (ts := [3]) rfl) (fun hp => Ob_c tRfWR rfl) ?_; clear Z a; intro a Z
 refine g_ob Z (p := (a0.batch.client == b.batch.client)) (v := .pointer (some ⟨b2, 1, none⟩)) (S' := [(16, .pointer (some ⟨b2, 0, none⟩))]) rfl rfl rfl (wantB_t _) rfl (by decide) (fun hp hS => (hS.conv (t := 16) rfl (cond_t hp)).sub (ts := [16]) rfl) (fun hp => Ob_c tRfWR rfl) ?_; clear Z a; intro a Z
 refine g_ob Z (p := (a0.batch.client == b.batch.client)) (v := .int .i64 b.batch.req) (S' := [(17, .pointer (some ⟨b2, 1, none⟩))]) rfl rfl rfl (wantB_t _) rfl (by decide) (fun hp hS => (hS.conv (t := 17) rfl (cond_t hp)).sub (ts := [17]) rfl) (fun hp => Ob_load tRfWR rfl rfl rfl ((H.bx 0 rfl).cell 1 rfl)) ?_; clear Z a; intro a Z
 refine g_ob Z (p := (a0.batch.client == b.batch.client)) (v := .bool (a0.batch.req == b.batch.req)) (S' := [(15, .int .i64 a0.batch.req), (18, .int .i64 b.batch.req)]) rfl rfl rfl (wantB_t _) rfl (by decide) (fun hp hS => ((hS.conv (t := 15) rfl (cond_t hp)).conv (t := 18) rfl (cond_t hp)).sub (ts := [15, 18]) rfl) (fun hp => Ob_c tRfWR rfl) ?_; clear Z a; intro a Z
 refine s_ob Z (v := .bool ((a0.batch.client == b.batch.client) && (a0.batch.req == b.batch.req))) rfl rfl (by decide) rfl (Ob_pick rfl rfl rfl rfl (pick_and _ _)) ?_; clear Z a; intro a Z
 refine s_runk tRfWR Z 1 rfl rfl ?_; clear Z a; intro a Z
 refine s_end Z [4] rfl ?_; clear Z; intro Z
 refine p_then (wp_ret ?_)
 obtain rfl := some_in hF
 exact f_ret Z (run_results1 rfl Z rfl) ⟨rfl, I, (H.sub [] rfl).eq rfl⟩

def F_ref08_Right_l2 (l : List EEntry) (i : Int) (rc : Int → Option Int) (rc_2 : Int → Option Int) (sg : Int) : Option Int := match sg with | k => if (decide (k < i)) = true then (chk ((0 : Int) ≤ k ∧ k < (l.length : Int)) (chk ((0 : Int) ≤ i ∧ i < (l.length : Int)) ((F_ref08_Twins ({ (l.getD (k).toNat default) with batch := ({ client := ((l.getD (k).toNat default).batch).client, req := ((l.getD (k).toNat default).batch).req, ops := ((l.getD (k).toNat default).batch).ops } : EBatch) } : EEntry) ({ (l.getD (i).toNat default) with batch := ({ client := ((l.getD (i).toNat default).batch).client, req := ((l.getD (i).toNat default).batch).req, ops := ((l.getD (i).toNat default).batch).ops } : EBatch) } : EEntry)).bind fun t => (if (t) = true then (some 18) else (chk (inI (k + 1)) (rc_2 (k + 1))))))) else (chk ((decide (i > 0)) = true → (0 : Int) ≤ i ∧ i < (l.length : Int)) (chk (((decide (i > 0)) && (((l.getD (i).toNat default).ts) != 0)) = true → inI (i - 1)) (chk (((decide (i > 0)) && (((l.getD (i).toNat default).ts) != 0)) = true → (0 : Int) ≤ i - 1 ∧ i - 1 < (l.length : Int)) (chk ((((decide (i > 0)) && (((l.getD (i).toNat default).ts) != 0)) && (!(((l.getD (i - 1).toNat default).ts) == 0))) = true → inI (i - 1)) (chk ((((decide (i > 0)) && (((l.getD (i).toNat default).ts) != 0)) && (!(((l.getD (i - 1).toNat default).ts) == 0))) = true → (0 : Int) ≤ i - 1 ∧ i - 1 < (l.length : Int)) (chk ((((decide (i > 0)) && (((l.getD (i).toNat default).ts) != 0)) && (!(((l.getD (i - 1).toNat default).ts) == 0))) = true → (0 : Int) ≤ i ∧ i < (l.length : Int)) (if (((decide (i > 0)) && (((l.getD (i).toNat default).ts) != 0)) && ((((l.getD (i - 1).toNat default).ts) == 0) || (decide ((l.getD (i - 1).toNat default).ts ≥ (l.getD (i).toNat default).ts)))) = true then (some 18) else (chk (inI (i + 1)) (rc (i + 1))))))))))

def F_ref08_Right_l1 (l : List EEntry) (rc : Int → Option Int) (sg : Int) : Option Int := match sg with | i => if (decide (i < (l.length : Int))) = true then (chk ((0 : Int) ≤ i ∧ i < (l.length : Int)) ((F_ref08_Check ({ (l.getD (i).toNat default) with batch := ({ client := ((l.getD (i).toNat default).batch).client, req := ((l.getD (i).toNat default).batch).req, ops := ((l.getD (i).toNat default).batch).ops } : EBatch) } : EEntry)).bind fun c => (if (c != 0) = true then (some c) else (iter (F_ref08_Right_l2 l i rc) FU 0)))) else (some 0)

def F_ref08_Right (l : List EEntry) : Option Int := iter (F_ref08_Right_l1 l) FU 0

set_option maxHeartbeats 1000000 in
theorem c_ref08_Right {I D : Dm} {l : List EEntry} {v1_l : Value} {w : World} {rr : Int} (hF : F_ref08_Right l = some rr) (H : St I D w [SlC NEEntry v1_l l]) :
  Calls Try.prog 12 #[v1_l] w (Ret fun vv w' => vv = .int .i64 rr ∧ ∃ I', Hf I D w I' w' []) := by
 replace H := H.hf
 unfold F_ref08_Right at hF
 refine f_enter 67 Try.func12 rfl rfl (Nat.le_of_ble_eq_true rfl) fun a Z => ?_
 replace Z := Z.sub (ts := [0]) rfl
 refine wp_seq (f_region Z ?_); clear Z; intro Z
 refine s_runk tRfWR Z 1 rfl rfl ?_; clear Z a; intro a Z
 refine s_end Z [0] rfl ?_; clear Z; intro Z
 refine p_then (wp_seq ?_)
 refine wp_seq (f_region Z ?_); clear Z; intro Z
 refine s_runk tRfWR Z 1 rfl rfl ?_; clear Z a; intro a Z
 refine s_end Z [0, 3] rfl ?_; clear Z; intro Z
 refine p_then (wp_block ?_)
 refine f_iter hF (fun sg a' w' => match sg with | i => Sl 67 [(0, v1_l), (3, .int .i64 i)] a' ∧ ∃ I2, Hf I D w I2 w' [SlC NEEntry v1_l l]) ⟨Z.sub (ts := [0, 3]) rfl, ⟨I, (H.sub [(0, true)] rfl).eq rfl⟩⟩ ?_
 clear Z H hF a
 rintro rc i a w1 ⟨Z, I1, H⟩ hF
 unfold F_ref08_Right_l1 at hF
 try dsimp only at hF
 refine wp_seq ?_
 refine wp_seq (f_region Z ?_); clear Z; intro Z
 refine s_runk tRfWR Z 2 rfl rfl ?_; clear Z a; intro a Z
 refine s_ob Z (v := .int .i64 (l.length : Int)) rfl rfl (by decide) rfl (Ob_slen tRfWR rfl rfl rfl (H.slshape 0 rfl)) ?_; clear Z a; intro a Z
 refine s_runk tRfWR Z 1 rfl rfl ?_; clear Z a; intro a Z
 refine s_end Z [0, 3, 9] rfl ?_; clear Z; intro Z
 refine p_then ?_
 refine f_cond Z rfl (fun hc1 => ?_) (fun hc1 => ?_)
 ·replace hF := ite_t hc1 hF
  refine wp_skip ?_
  refine p_then (wp_seq ?_)
  refine wp_block ?_
  refine wp_seq ?_
  refine wp_seq ?_
  obtain ⟨hg1, hF⟩ := chk_in hF
  obtain ⟨c, hx1, hF⟩ := bnd_in hF
  refine f_region Z ?_; clear Z; intro Z
  refine s_runk tRfWR Z 2 rfl rfl ?_; clear Z a; intro a Z
  refine s_ob Z (v := .pointer (some ⟨blkOf v1_l, oofOf v1_l + (i).toNat * 4, none⟩)) rfl rfl (by decide) rfl (Ob_sidx tRfWR rfl rfl rfl rfl (slPl (H.sl 0 rfl) hg1) hg1) ?_; clear Z a; intro a Z
  obtain ⟨_, ⟨u1, rfl, L1⟩, H⟩ := H.elG 0 rfl (i) (NEEntry.dft _ _)
  replace H := H.addsl L1
  replace H : Hf I D w I1 w1 [SlC NEOp u1 (((l.getD (i).toNat default).batch).ops), AtG ((0 : Int) ≤ i ∧ i < (l.length : Int)) (blkOf v1_l) (oofOf v1_l + (i).toNat * 4) [.int .i64 (((l.getD (i).toNat default).batch).client), .int .i64 (((l.getD (i).toNat default).batch).req), u1, .int .u64 ((l.getD (i).toNat default).ts)], SlC NEEntry v1_l l] := H
  refine s_ob Z (v := .agg #[.int .i64 (((l.getD (i).toNat default).batch).client), .int .i64 (((l.getD (i).toNat default).batch).req), u1, .int .u64 ((l.getD (i).toNat default).ts)]) rfl rfl (by decide) rfl (Ob_loads tRfWR rfl rfl rfl ((H.atg 1 rfl hg1).part 0 rfl)) ?_; clear Z a; intro a Z
  refine h_call Z H (js := [(0, true)]) rfl (caps := #[]) fn_36_YRfWR rfl rfl rfl rfl rfl (by decide) rfl rfl (fun D1 hS => have hq := c_ref08_Check hx1 hS; hq) ?_; clear Z a; intro vv a w2 D2 hr hF2 Z
  obtain ⟨rfl, I2, K⟩ := hr
  have H : Hf I D w I2 w2 [SlC NEOp u1 (((l.getD (i).toNat default).batch).ops), AtG ((0 : Int) ≤ i ∧ i < (l.length : Int)) (blkOf v1_l) (oofOf v1_l + (i).toNat * 4) [.int .i64 (((l.getD (i).toNat default).batch).client), .int .i64 (((l.getD (i).toNat default).batch).req), u1, .int .u64 ((l.getD (i).toNat default).ts)], SlC NEEntry v1_l l] := hF2 K
  clear hF2 K
  refine s_runk tRfWR Z 1 rfl rfl ?_; clear Z a; intro a Z
  refine s_end Z [0, 3, 4] rfl ?_; clear Z; intro Z
  refine p_then (wp_seq (f_region Z ?_)); clear Z; intro Z
  refine s_runk tRfWR Z 2 rfl rfl ?_; clear Z a; intro a Z
  refine s_end Z [0, 3, 4, 18] rfl ?_; clear Z; intro Z
  refine p_then ?_
  refine f_cond Z rfl (fun hc2 => ?_) (fun hc2 => ?_)
  ·replace hF := ite_t hc2 hF
   refine wp_seq (f_region Z ?_); clear Z; intro Z
   refine s_runk tRfWR Z 2 rfl rfl ?_; clear Z a; intro a Z
   refine s_end Z [2] rfl ?_; clear Z; intro Z
   refine p_then (wp_ret ?_)
   refine p_then_r ?_
   refine p_blk_r ?_
   refine p_then_r ?_
   refine p_then_r ?_
   refine p_blk_r ?_
   refine p_then_r ?_
   obtain rfl := some_in hF
   exact f_ret Z (run_results1 rfl Z rfl) ⟨rfl, I2, (H.sub [] rfl).eq rfl⟩
  ·replace hF := ite_f hc2 hF
   refine wp_skip ?_
   refine p_then (wp_seq ?_)
   refine wp_seq (f_region Z ?_); clear Z; intro Z
   refine s_runk tRfWR Z 1 rfl rfl ?_; clear Z a; intro a Z
   refine s_end Z [0, 3, 5] rfl ?_; clear Z; intro Z
   refine p_then (wp_block ?_)
   refine f_iter hF (fun sg a' w' => match sg with | k => Sl 67 [(0, v1_l), (3, .int .i64 i), (5, .int .i64 k)] a' ∧ ∃ I2, Hf I D w I2 w' [SlC NEEntry v1_l l]) ⟨Z.sub (ts := [0, 3, 5]) rfl, ⟨I2, (H.sub [(2, true)] rfl).eq rfl⟩⟩ ?_
   clear Z H hF a
   rintro rc_2 k a w3 ⟨Z, I3, H⟩ hF
   unfold F_ref08_Right_l2 at hF
   try dsimp only at hF
   refine wp_seq ?_
   refine wp_seq (f_region Z ?_); clear Z; intro Z
   refine s_runk tRfWR Z 3 rfl rfl ?_; clear Z a; intro a Z
   refine s_end Z [0, 3, 5, 22] rfl ?_; clear Z; intro Z
   refine p_then ?_
   refine f_cond Z rfl (fun hc3 => ?_) (fun hc3 => ?_)
   ·replace hF := ite_t hc3 hF
    refine wp_skip ?_
    refine p_then (wp_seq ?_)
    refine wp_block ?_
    refine wp_seq ?_
    obtain ⟨hg2, hF⟩ := chk_in hF
    obtain ⟨_, ⟨u2, rfl, L2⟩, H⟩ := H.elG 0 rfl (k) (NEEntry.dft _ _)
    replace H := H.addsl L2
    replace H : Hf I D w I3 w3 [SlC NEOp u2 (((l.getD (k).toNat default).batch).ops), AtG ((0 : Int) ≤ k ∧ k < (l.length : Int)) (blkOf v1_l) (oofOf v1_l + (k).toNat * 4) [.int .i64 (((l.getD (k).toNat default).batch).client), .int .i64 (((l.getD (k).toNat default).batch).req), u2, .int .u64 ((l.getD (k).toNat default).ts)], SlC NEEntry v1_l l] := H
    obtain ⟨hg3, hF⟩ := chk_in hF
    obtain ⟨_, ⟨u3, rfl, L3⟩, H⟩ := H.elG 2 rfl (i) (NEEntry.dft _ _)
    replace H := H.addsl L3
    replace H : Hf I D w I3 w3 [SlC NEOp u3 (((l.getD (i).toNat default).batch).ops), AtG ((0 : Int) ≤ i ∧ i < (l.length : Int)) (blkOf v1_l) (oofOf v1_l + (i).toNat * 4) [.int .i64 (((l.getD (i).toNat default).batch).client), .int .i64 (((l.getD (i).toNat default).batch).req), u3, .int .u64 ((l.getD (i).toNat default).ts)], SlC NEOp u2 (((l.getD (k).toNat default).batch).ops), AtG ((0 : Int) ≤ k ∧ k < (l.length : Int)) (blkOf v1_l) (oofOf v1_l + (k).toNat * 4) [.int .i64 (((l.getD (k).toNat default).batch).client), .int .i64 (((l.getD (k).toNat default).batch).req), u2, .int .u64 ((l.getD (k).toNat default).ts)], SlC NEEntry v1_l l] := H
    obtain ⟨t, hx2, hF⟩ := bnd_in hF
    refine f_quietd (by kernel_rfl) (by kernel_rfl) Z ?_; clear Z; intro Z
    refine q_runk tRfWR Z 2 rfl rfl ?_; clear Z a; intro a Z
    refine q_ob Z (v := .pointer (some ⟨blkOf v1_l, oofOf v1_l + (k).toNat * 4, none⟩)) rfl rfl (by decide) rfl (fun _ hw => Ob_sidx tRfWR rfl rfl rfl rfl (slPl ((H.blw hw).sl 4 rfl) hg2) hg2) ?_; clear Z a; intro a Z
    refine q_ob Z (v := .agg #[.int .i64 (((l.getD (k).toNat default).batch).client), .int .i64 (((l.getD (k).toNat default).batch).req), u2, .int .u64 ((l.getD (k).toNat default).ts)]) rfl rfl (by decide) rfl (fun _ hw => Ob_loads tRfWR rfl rfl rfl (((H.blw hw).atg 3 rfl hg2).part 0 rfl)) ?_; clear Z a; intro a Z
    refine q_runk tRfWR Z 2 rfl rfl ?_; clear Z a; intro a Z
    refine q_ob Z (v := .pointer (some ⟨blkOf v1_l, oofOf v1_l + (i).toNat * 4, none⟩)) rfl rfl (by decide) rfl (fun _ hw => Ob_sidx tRfWR rfl rfl rfl rfl (slPl ((H.blw hw).sl 4 rfl) hg3) hg3) ?_; clear Z a; intro a Z
    refine q_ob Z (v := .agg #[.int .i64 (((l.getD (i).toNat default).batch).client), .int .i64 (((l.getD (i).toNat default).batch).req), u3, .int .u64 ((l.getD (i).toNat default).ts)]) rfl rfl (by decide) rfl (fun _ hw => Ob_loads tRfWR rfl rfl rfl (((H.blw hw).atg 1 rfl hg3).part 0 rfl)) ?_; clear Z a; intro a Z
    refine q_call Z (caps := #[]) fn_37_YRfWR rfl rfl rfl rfl rfl (by decide) rfl rfl (fun _ hw => (have hq := c_ref08_Twins hx2 (((H.blw hw)).pick0 (js := [(2, true), (0, true)]) rfl rfl); plainC hq)) ?_; clear Z a; intro a Z
    refine q_end Z [0, 3, 5, 33] rfl ?_; clear Z; intro w4 hb Z
    replace H : Hf I D w I3 w4 [SlC NEOp u3 (((l.getD (i).toNat default).batch).ops), AtG ((0 : Int) ≤ i ∧ i < (l.length : Int)) (blkOf v1_l) (oofOf v1_l + (i).toNat * 4) [.int .i64 (((l.getD (i).toNat default).batch).client), .int .i64 (((l.getD (i).toNat default).batch).req), u3, .int .u64 ((l.getD (i).toNat default).ts)], SlC NEOp u2 (((l.getD (k).toNat default).batch).ops), AtG ((0 : Int) ≤ k ∧ k < (l.length : Int)) (blkOf v1_l) (oofOf v1_l + (k).toNat * 4) [.int .i64 (((l.getD (k).toNat default).batch).client), .int .i64 (((l.getD (k).toNat default).batch).req), u2, .int .u64 ((l.getD (k).toNat default).ts)], SlC NEEntry v1_l l] := H.blw hb
    clear hb
    refine p_then ?_
    refine f_cond Z rfl (fun hc4 => ?_) (fun hc4 => ?_)
    ·replace hF := ite_t hc4 hF
     refine wp_seq (f_region Z ?_); clear Z; intro Z
     refine s_runk tRfWR Z 1 rfl rfl ?_; clear Z a; intro a Z
     refine s_end Z [2] rfl ?_; clear Z; intro Z
     refine p_then (wp_ret ?_)
     refine p_blk_r ?_
     refine p_then_r ?_
     refine p_then_r ?_
     refine p_blk_r ?_
     refine p_then_r ?_
     refine p_blk_r ?_
     refine p_then_r ?_
     refine p_then_r ?_
     refine p_blk_r ?_
     refine p_then_r ?_
     obtain rfl := some_in hF
     exact f_ret Z (run_results1 rfl Z rfl) ⟨rfl, I3, (H.sub [] rfl).eq rfl⟩
    ·replace hF := ite_f hc4 hF
     refine wp_skip ?_
     refine p_blk ?_
     refine p_then ?_
     obtain ⟨hg4, hF⟩ := chk_in hF
     refine f_region Z ?_; clear Z; intro Z
     refine s_runk tRfWR Z 1 rfl rfl ?_; clear Z a; intro a Z
     refine s_ob Z (v := .int .i64 (k + 1)) rfl rfl (by decide) rfl (Ob_add rfl rfl rfl (wrI hg4)) ?_; clear Z a; intro a Z
     refine s_runk tRfWR Z 1 rfl rfl ?_; clear Z a; intro a Z
     refine s_end Z [0, 3, 5] rfl ?_; clear Z; intro Z
     refine p_then ?_
     exact ⟨(k + 1), ⟨Z.sub (ts := [0, 3, 5]) rfl, ⟨I3, (H.sub [(4, true)] rfl).eq rfl⟩⟩, hF⟩
   ·replace hF := ite_f hc3 hF
    refine wp_exit ?_
    refine p_then_x ?_
    refine p_then_x ?_
    refine f_exit_here ?_
    refine p_then (wp_seq ?_)
    obtain ⟨hg5, hF⟩ := chk_in hF
    obtain ⟨_, ⟨u4, rfl, L4⟩, H⟩ := H.elG 0 rfl (i) (NEEntry.dft _ _)
    replace H := H.addsl L4
    replace H : Hf I D w I3 w3 [SlC NEOp u4 (((l.getD (i).toNat default).batch).ops), AtG ((0 : Int) ≤ i ∧ i < (l.length : Int)) (blkOf v1_l) (oofOf v1_l + (i).toNat * 4) [.int .i64 (((l.getD (i).toNat default).batch).client), .int .i64 (((l.getD (i).toNat default).batch).req), u4, .int .u64 ((l.getD (i).toNat default).ts)], SlC NEEntry v1_l l] := H
    obtain ⟨hg6, hF⟩ := chk_in hF
    obtain ⟨hg7, hF⟩ := chk_in hF
    obtain ⟨_, ⟨u5, rfl, L5⟩, H⟩ := H.elG 2 rfl (i - 1) (NEEntry.dft _ _)
    replace H := H.addsl L5
    replace H : Hf I D w I3 w3 [SlC NEOp u5 (((l.getD (i - 1).toNat default).batch).ops), AtG ((0 : Int) ≤ i - 1 ∧ i - 1 < (l.length : Int)) (blkOf v1_l) (oofOf v1_l + (i - 1).toNat * 4) [.int .i64 (((l.getD (i - 1).toNat default).batch).client), .int .i64 (((l.getD (i - 1).toNat default).batch).req), u5, .int .u64 ((l.getD (i - 1).toNat default).ts)], SlC NEOp u4 (((l.getD (i).toNat default).batch).ops), AtG ((0 : Int) ≤ i ∧ i < (l.length : Int)) (blkOf v1_l) (oofOf v1_l + (i).toNat * 4) [.int .i64 (((l.getD (i).toNat default).batch).client), .int .i64 (((l.getD (i).toNat default).batch).req), u4, .int .u64 ((l.getD (i).toNat default).ts)], SlC NEEntry v1_l l] := H
    obtain ⟨hg8, hF⟩ := chk_in hF
    obtain ⟨hg9, hF⟩ := chk_in hF
    obtain ⟨hg10, hF⟩ := chk_in hF
    refine f_quietd (by kernel_rfl) (by kernel_rfl) Z ?_; clear Z; intro Z
    refine q_runk tRfWR Z 3 rfl rfl ?_; clear Z a; intro a Z
    refine gq_ob Z (p := (decide (i > 0))) (v := v1_l) (S' := [(0, v1_l)]) rfl rfl rfl (wantB_t _) rfl (by decide) (fun hp hS => hS.sub (ts := [0]) rfl) (fun hp _ hw => Ob_c tRfWR rfl) ?_; clear Z a; intro a Z
    refine gq_ob Z (p := (decide (i > 0))) (v := .int .i64 i) (S' := [(3, .int .i64 i)]) rfl rfl rfl (wantB_t _) rfl (by decide) (fun hp hS => hS.sub (ts := [3]) rfl) (fun hp _ hw => Ob_c tRfWR rfl) ?_; clear Z a; intro a Z
    refine gq_ob Z (p := (decide (i > 0))) (v := .pointer (some ⟨blkOf v1_l, oofOf v1_l + (i).toNat * 4, none⟩)) (S' := [(37, v1_l), (38, .int .i64 i)]) rfl rfl rfl (wantB_t _) rfl (by decide) (fun hp hS => ((hS.conv (t := 37) rfl (cond_t hp)).conv (t := 38) rfl (cond_t hp)).sub (ts := [37, 38]) rfl) (fun hp _ hw => Ob_sidx tRfWR rfl rfl rfl rfl (slPl ((H.blw hw).sl 4 rfl) (hg5 hp)) (hg5 hp)) ?_; clear Z a; intro a Z
    refine gq_ob Z (p := (decide (i > 0))) (v := .pointer (some ⟨blkOf v1_l, oofOf v1_l + (i).toNat * 4 + 3, none⟩)) (S' := [(39, .pointer (some ⟨blkOf v1_l, oofOf v1_l + (i).toNat * 4, none⟩))]) rfl rfl rfl (wantB_t _) rfl (by decide) (fun hp hS => (hS.conv (t := 39) rfl (cond_t hp)).sub (ts := [39]) rfl) (fun hp _ hw => Ob_c tRfWR rfl) ?_; clear Z a; intro a Z
    refine gq_ob Z (p := (decide (i > 0))) (v := .int .u64 ((l.getD (i).toNat default).ts)) (S' := [(40, .pointer (some ⟨blkOf v1_l, oofOf v1_l + (i).toNat * 4 + 3, none⟩))]) rfl rfl rfl (wantB_t _) rfl (by decide) (fun hp hS => (hS.conv (t := 40) rfl (cond_t hp)).sub (ts := [40]) rfl) (fun hp _ hw => Ob_load tRfWR rfl rfl rfl (((H.blw hw).atg 3 rfl (hg5 hp)) 3 _ rfl)) ?_; clear Z a; intro a Z
    refine gq_ob Z (p := (decide (i > 0))) (v := .bool (((l.getD (i).toNat default).ts) != 0)) (S' := [(41, .int .u64 ((l.getD (i).toNat default).ts))]) rfl rfl rfl (wantB_t _) rfl (by decide) (fun hp hS => (hS.conv (t := 41) rfl (cond_t hp)).sub (ts := [41]) rfl) (fun hp _ hw => Ob_c tRfWR rfl) ?_; clear Z a; intro a Z
    refine q_ob Z (v := .bool ((decide (i > 0)) && (((l.getD (i).toNat default).ts) != 0))) rfl rfl (by decide) rfl (fun _ hw => Ob_pick rfl rfl rfl rfl (pick_and _ _)) ?_; clear Z a; intro a Z
    refine q_runk tRfWR Z 1 rfl rfl ?_; clear Z a; intro a Z
    refine gq_ob Z (p := ((decide (i > 0)) && (((l.getD (i).toNat default).ts) != 0))) (v := v1_l) (S' := [(0, v1_l)]) rfl rfl rfl (wantB_t _) rfl (by decide) (fun hp hS => hS.sub (ts := [0]) rfl) (fun hp _ hw => Ob_c tRfWR rfl) ?_; clear Z a; intro a Z
    refine gq_ob Z (p := ((decide (i > 0)) && (((l.getD (i).toNat default).ts) != 0))) (v := .int .i64 i) (S' := [(3, .int .i64 i)]) rfl rfl rfl (wantB_t _) rfl (by decide) (fun hp hS => hS.sub (ts := [3]) rfl) (fun hp _ hw => Ob_c tRfWR rfl) ?_; clear Z a; intro a Z
    refine gq_ob Z (p := ((decide (i > 0)) && (((l.getD (i).toNat default).ts) != 0))) (v := .int .i64 (i - 1)) (S' := [(46, .int .i64 i)]) rfl rfl rfl (wantB_t _) rfl (by decide) (fun hp hS => (hS.conv (t := 46) rfl (cond_t hp)).sub (ts := [46]) rfl) (fun hp _ hw => Ob_sub rfl rfl rfl (wrI (hg6 hp))) ?_; clear Z a; intro a Z
    refine gq_ob Z (p := ((decide (i > 0)) && (((l.getD (i).toNat default).ts) != 0))) (v := .pointer (some ⟨blkOf v1_l, oofOf v1_l + (i - 1).toNat * 4, none⟩)) (S' := [(45, v1_l), (47, .int .i64 (i - 1))]) rfl rfl rfl (wantB_t _) rfl (by decide) (fun hp hS => ((hS.conv (t := 45) rfl (cond_t hp)).conv (t := 47) rfl (cond_t hp)).sub (ts := [45, 47]) rfl) (fun hp _ hw => Ob_sidx tRfWR rfl rfl rfl rfl (slPl ((H.blw hw).sl 4 rfl) (hg7 hp)) (hg7 hp)) ?_; clear Z a; intro a Z
    refine gq_ob Z (p := ((decide (i > 0)) && (((l.getD (i).toNat default).ts) != 0))) (v := .pointer (some ⟨blkOf v1_l, oofOf v1_l + (i - 1).toNat * 4 + 3, none⟩)) (S' := [(48, .pointer (some ⟨blkOf v1_l, oofOf v1_l + (i - 1).toNat * 4, none⟩))]) rfl rfl rfl (wantB_t _) rfl (by decide) (fun hp hS => (hS.conv (t := 48) rfl (cond_t hp)).sub (ts := [48]) rfl) (fun hp _ hw => Ob_c tRfWR rfl) ?_; clear Z a; intro a Z
    refine gq_ob Z (p := ((decide (i > 0)) && (((l.getD (i).toNat default).ts) != 0))) (v := .int .u64 ((l.getD (i - 1).toNat default).ts)) (S' := [(49, .pointer (some ⟨blkOf v1_l, oofOf v1_l + (i - 1).toNat * 4 + 3, none⟩))]) rfl rfl rfl (wantB_t _) rfl (by decide) (fun hp hS => (hS.conv (t := 49) rfl (cond_t hp)).sub (ts := [49]) rfl) (fun hp _ hw => Ob_load tRfWR rfl rfl rfl (((H.blw hw).atg 1 rfl (hg7 hp)) 3 _ rfl)) ?_; clear Z a; intro a Z
    refine gq_ob Z (p := ((decide (i > 0)) && (((l.getD (i).toNat default).ts) != 0))) (v := .bool (((l.getD (i - 1).toNat default).ts) == 0)) (S' := [(50, .int .u64 ((l.getD (i - 1).toNat default).ts))]) rfl rfl rfl (wantB_t _) rfl (by decide) (fun hp hS => (hS.conv (t := 50) rfl (cond_t hp)).sub (ts := [50]) rfl) (fun hp _ hw => Ob_c tRfWR rfl) ?_; clear Z a; intro a Z
    refine gq_ob Z (p := ((decide (i > 0)) && (((l.getD (i).toNat default).ts) != 0))) (v := .bool (((l.getD (i - 1).toNat default).ts) == 0)) (S' := [(51, .bool (((l.getD (i - 1).toNat default).ts) == 0))]) rfl rfl rfl (wantB_t _) rfl (by decide) (fun hp hS => (hS.conv (t := 51) rfl (cond_t hp)).sub (ts := [51]) rfl) (fun hp _ hw => Ob_c tRfWR rfl) ?_; clear Z a; intro a Z
    refine gq_ob Z (p := (((decide (i > 0)) && (((l.getD (i).toNat default).ts) != 0)) && (!(((l.getD (i - 1).toNat default).ts) == 0)))) (v := v1_l) (S' := [(0, v1_l)]) rfl rfl rfl (wantB_cf _ _) rfl (by decide) (fun hp hS => hS.sub (ts := [0]) rfl) (fun hp _ hw => Ob_c tRfWR rfl) ?_; clear Z a; intro a Z
    refine gq_ob Z (p := (((decide (i > 0)) && (((l.getD (i).toNat default).ts) != 0)) && (!(((l.getD (i - 1).toNat default).ts) == 0)))) (v := .int .i64 i) (S' := [(3, .int .i64 i)]) rfl rfl rfl (wantB_cf _ _) rfl (by decide) (fun hp hS => hS.sub (ts := [3]) rfl) (fun hp _ hw => Ob_c tRfWR rfl) ?_; clear Z a; intro a Z
    refine gq_ob Z (p := (((decide (i > 0)) && (((l.getD (i).toNat default).ts) != 0)) && (!(((l.getD (i - 1).toNat default).ts) == 0)))) (v := .int .i64 (i - 1)) (S' := [(54, .int .i64 i)]) rfl rfl rfl (wantB_cf _ _) rfl (by decide) (fun hp hS => (hS.conv (t := 54) rfl (cond_t hp)).sub (ts := [54]) rfl) (fun hp _ hw => Ob_sub rfl rfl rfl (wrI (hg8 hp))) ?_; clear Z a; intro a Z
    refine gq_ob Z (p := (((decide (i > 0)) && (((l.getD (i).toNat default).ts) != 0)) && (!(((l.getD (i - 1).toNat default).ts) == 0)))) (v := .pointer (some ⟨blkOf v1_l, oofOf v1_l + (i - 1).toNat * 4, none⟩)) (S' := [(53, v1_l), (55, .int .i64 (i - 1))]) rfl rfl rfl (wantB_cf _ _) rfl (by decide) (fun hp hS => ((hS.conv (t := 53) rfl (cond_t hp)).conv (t := 55) rfl (cond_t hp)).sub (ts := [53, 55]) rfl) (fun hp _ hw => Ob_sidx tRfWR rfl rfl rfl rfl (slPl ((H.blw hw).sl 4 rfl) (hg9 hp)) (hg9 hp)) ?_; clear Z a; intro a Z
    refine gq_ob Z (p := (((decide (i > 0)) && (((l.getD (i).toNat default).ts) != 0)) && (!(((l.getD (i - 1).toNat default).ts) == 0)))) (v := .pointer (some ⟨blkOf v1_l, oofOf v1_l + (i - 1).toNat * 4 + 3, none⟩)) (S' := [(56, .pointer (some ⟨blkOf v1_l, oofOf v1_l + (i - 1).toNat * 4, none⟩))]) rfl rfl rfl (wantB_cf _ _) rfl (by decide) (fun hp hS => (hS.conv (t := 56) rfl (cond_t hp)).sub (ts := [56]) rfl) (fun hp _ hw => Ob_c tRfWR rfl) ?_; clear Z a; intro a Z
    refine gq_ob Z (p := (((decide (i > 0)) && (((l.getD (i).toNat default).ts) != 0)) && (!(((l.getD (i - 1).toNat default).ts) == 0)))) (v := .int .u64 ((l.getD (i - 1).toNat default).ts)) (S' := [(57, .pointer (some ⟨blkOf v1_l, oofOf v1_l + (i - 1).toNat * 4 + 3, none⟩))]) rfl rfl rfl (wantB_cf _ _) rfl (by decide) (fun hp hS => (hS.conv (t := 57) rfl (cond_t hp)).sub (ts := [57]) rfl) (fun hp _ hw => Ob_load tRfWR rfl rfl rfl (((H.blw hw).atg 1 rfl (hg9 hp)) 3 _ rfl)) ?_; clear Z a; intro a Z
    refine gq_ob Z (p := (((decide (i > 0)) && (((l.getD (i).toNat default).ts) != 0)) && (!(((l.getD (i - 1).toNat default).ts) == 0)))) (v := v1_l) (S' := [(0, v1_l)]) rfl rfl rfl (wantB_cf _ _) rfl (by decide) (fun hp hS => hS.sub (ts := [0]) rfl) (fun hp _ hw => Ob_c tRfWR rfl) ?_; clear Z a; intro a Z
    refine gq_ob Z (p := (((decide (i > 0)) && (((l.getD (i).toNat default).ts) != 0)) && (!(((l.getD (i - 1).toNat default).ts) == 0)))) (v := .int .i64 i) (S' := [(3, .int .i64 i)]) rfl rfl rfl (wantB_cf _ _) rfl (by decide) (fun hp hS => hS.sub (ts := [3]) rfl) (fun hp _ hw => Ob_c tRfWR rfl) ?_; clear Z a; intro a Z
    refine gq_ob Z (p := (((decide (i > 0)) && (((l.getD (i).toNat default).ts) != 0)) && (!(((l.getD (i - 1).toNat default).ts) == 0)))) (v := .pointer (some ⟨blkOf v1_l, oofOf v1_l + (i).toNat * 4, none⟩)) (S' := [(59, v1_l), (60, .int .i64 i)]) rfl rfl rfl (wantB_cf _ _) rfl (by decide) (fun hp hS => ((hS.conv (t := 59) rfl (cond_t hp)).conv (t := 60) rfl (cond_t hp)).sub (ts := [59, 60]) rfl) (fun hp _ hw => Ob_sidx tRfWR rfl rfl rfl rfl (slPl ((H.blw hw).sl 4 rfl) (hg10 hp)) (hg10 hp)) ?_; clear Z a; intro a Z
    refine gq_ob Z (p := (((decide (i > 0)) && (((l.getD (i).toNat default).ts) != 0)) && (!(((l.getD (i - 1).toNat default).ts) == 0)))) (v := .pointer (some ⟨blkOf v1_l, oofOf v1_l + (i).toNat * 4 + 3, none⟩)) (S' := [(61, .pointer (some ⟨blkOf v1_l, oofOf v1_l + (i).toNat * 4, none⟩))]) rfl rfl rfl (wantB_cf _ _) rfl (by decide) (fun hp hS => (hS.conv (t := 61) rfl (cond_t hp)).sub (ts := [61]) rfl) (fun hp _ hw => Ob_c tRfWR rfl) ?_; clear Z a; intro a Z
    refine gq_ob Z (p := (((decide (i > 0)) && (((l.getD (i).toNat default).ts) != 0)) && (!(((l.getD (i - 1).toNat default).ts) == 0)))) (v := .int .u64 ((l.getD (i).toNat default).ts)) (S' := [(62, .pointer (some ⟨blkOf v1_l, oofOf v1_l + (i).toNat * 4 + 3, none⟩))]) rfl rfl rfl (wantB_cf _ _) rfl (by decide) (fun hp hS => (hS.conv (t := 62) rfl (cond_t hp)).sub (ts := [62]) rfl) (fun hp _ hw => Ob_load tRfWR rfl rfl rfl (((H.blw hw).atg 3 rfl (hg10 hp)) 3 _ rfl)) ?_; clear Z a; intro a Z
    refine gq_ob Z (p := (((decide (i > 0)) && (((l.getD (i).toNat default).ts) != 0)) && (!(((l.getD (i - 1).toNat default).ts) == 0)))) (v := .bool (decide ((l.getD (i - 1).toNat default).ts ≥ (l.getD (i).toNat default).ts))) (S' := [(58, .int .u64 ((l.getD (i - 1).toNat default).ts)), (63, .int .u64 ((l.getD (i).toNat default).ts))]) rfl rfl rfl (wantB_cf _ _) rfl (by decide) (fun hp hS => ((hS.conv (t := 58) rfl (cond_t hp)).conv (t := 63) rfl (cond_t hp)).sub (ts := [58, 63]) rfl) (fun hp _ hw => Ob_c tRfWR rfl) ?_; clear Z a; intro a Z
    refine gq_ob Z (p := ((decide (i > 0)) && (((l.getD (i).toNat default).ts) != 0))) (v := .bool ((((l.getD (i - 1).toNat default).ts) == 0) || (decide ((l.getD (i - 1).toNat default).ts ≥ (l.getD (i).toNat default).ts)))) (S' := [(52, .bool (((l.getD (i - 1).toNat default).ts) == 0)), (64, cond (((decide (i > 0)) && (((l.getD (i).toNat default).ts) != 0)) && (!(((l.getD (i - 1).toNat default).ts) == 0))) (.bool (decide ((l.getD (i - 1).toNat default).ts ≥ (l.getD (i).toNat default).ts))) undef)]) rfl rfl rfl (wantB_t _) rfl (by decide) (fun hp hS => (hS.conv (t := 52) rfl (cond_t hp)).sub (ts := [52, 64]) rfl) (fun hp _ hw => Ob_pick rfl rfl rfl rfl (pick_orp _ _ hp)) ?_; clear Z a; intro a Z
    refine q_ob Z (v := .bool (((decide (i > 0)) && (((l.getD (i).toNat default).ts) != 0)) && ((((l.getD (i - 1).toNat default).ts) == 0) || (decide ((l.getD (i - 1).toNat default).ts ≥ (l.getD (i).toNat default).ts))))) rfl rfl (by decide) rfl (fun _ hw => Ob_pick rfl rfl rfl rfl (pick_and _ _)) ?_; clear Z a; intro a Z
    refine q_end Z [0, 3, 66] rfl ?_; clear Z; intro w5 hb Z
    replace H : Hf I D w I3 w5 [SlC NEOp u5 (((l.getD (i - 1).toNat default).batch).ops), AtG ((0 : Int) ≤ i - 1 ∧ i - 1 < (l.length : Int)) (blkOf v1_l) (oofOf v1_l + (i - 1).toNat * 4) [.int .i64 (((l.getD (i - 1).toNat default).batch).client), .int .i64 (((l.getD (i - 1).toNat default).batch).req), u5, .int .u64 ((l.getD (i - 1).toNat default).ts)], SlC NEOp u4 (((l.getD (i).toNat default).batch).ops), AtG ((0 : Int) ≤ i ∧ i < (l.length : Int)) (blkOf v1_l) (oofOf v1_l + (i).toNat * 4) [.int .i64 (((l.getD (i).toNat default).batch).client), .int .i64 (((l.getD (i).toNat default).batch).req), u4, .int .u64 ((l.getD (i).toNat default).ts)], SlC NEEntry v1_l l] := H.blw hb
    clear hb
    refine p_then ?_
    refine f_cond Z rfl (fun hc5 => ?_) (fun hc5 => ?_)
    ·replace hF := ite_t hc5 hF
     refine wp_seq (f_region Z ?_); clear Z; intro Z
     refine s_runk tRfWR Z 1 rfl rfl ?_; clear Z a; intro a Z
     refine s_end Z [2] rfl ?_; clear Z; intro Z
     refine p_then (wp_ret ?_)
     refine p_blk_r ?_
     refine p_then_r ?_
     refine p_then_r ?_
     refine p_blk_r ?_
     refine p_then_r ?_
     obtain rfl := some_in hF
     exact f_ret Z (run_results1 rfl Z rfl) ⟨rfl, I3, (H.sub [] rfl).eq rfl⟩
    ·replace hF := ite_f hc5 hF
     refine wp_skip ?_
     refine p_blk ?_
     refine p_then ?_
     obtain ⟨hg11, hF⟩ := chk_in hF
     refine f_region Z ?_; clear Z; intro Z
     refine s_runk tRfWR Z 1 rfl rfl ?_; clear Z a; intro a Z
     refine s_ob Z (v := .int .i64 (i + 1)) rfl rfl (by decide) rfl (Ob_add rfl rfl rfl (wrI hg11)) ?_; clear Z a; intro a Z
     refine s_runk tRfWR Z 1 rfl rfl ?_; clear Z a; intro a Z
     refine s_end Z [0, 3] rfl ?_; clear Z; intro Z
     refine p_then ?_
     exact ⟨(i + 1), ⟨Z.sub (ts := [0, 3]) rfl, ⟨I3, (H.sub [(4, true)] rfl).eq rfl⟩⟩, hF⟩
 ·replace hF := ite_f hc1 hF
  refine wp_exit ?_
  refine p_then_x ?_
  refine p_then_x ?_
  refine f_exit_here ?_
  refine p_then (wp_seq (f_region Z ?_)); clear Z; intro Z
  refine s_runk tRfWR Z 1 rfl rfl ?_; clear Z a; intro a Z
  refine s_end Z [2] rfl ?_; clear Z; intro Z
  refine p_then (wp_ret ?_)
  obtain rfl := some_in hF
  exact f_ret Z (run_results1 rfl Z rfl) ⟨rfl, I1, (H.sub [] rfl).eq rfl⟩

def F_law30_RstateRight_l1 (l : List ENote) (rc : (Int × Erstate_State) → Option Bool) (sg : Int × Erstate_State) : Option Bool := match sg with | (i, s0) => if ((decide (i < (l.length : Int))) && (decide (i < 40))) = true then ((F_rstate_State_Horizon s0).bind fun h => ((F_rstate_State_Conf s0).bind fun c => (chk ((0 : Int) ≤ i ∧ i < (l.length : Int)) ((F_rstate_State_Apply s0 ({ (l.getD (i).toNat default) with conf := ({ epoch := ((l.getD (i).toNat default).conf).epoch, members := ((l.getD (i).toNat default).conf).members, floor := ((l.getD (i).toNat default).conf).floor } : EConf), entry := ({ batch := ({ client := (((l.getD (i).toNat default).entry).batch).client, req := (((l.getD (i).toNat default).entry).batch).req, ops := (((l.getD (i).toNat default).entry).batch).ops } : EBatch), ts := ((l.getD (i).toNat default).entry).ts } : EEntry), pin := ({ id := ((l.getD (i).toNat default).pin).id, at_ := ((l.getD (i).toNat default).pin).at_, left := ((l.getD (i).toNat default).pin).left } : EPin), said := ({ client := ((l.getD (i).toNat default).said).client, req := ((l.getD (i).toNat default).said).req, e := ((l.getD (i).toNat default).said).e, pin := ((l.getD (i).toNat default).said).pin } : EAnswer) } : ENote)).bind fun a0_2 => ((F_rstate_State_All a0_2.2).bind fun a0_3 => ((F_ref08_Right a0_3.1).bind fun r0 => ((gif (!(r0 != 0)) (F_rstate_State_Horizon a0_3.2) default).bind fun h_2 => ((gif (!((r0 != 0) || (decide (h_2 < h)))) (F_rstate_State_Conf a0_3.2) default).bind fun c_2 => (chk (((!(((r0 != 0) || (decide (h_2 < h))) || (decide (c_2.epoch < c.epoch)))) && (a0_2.1 == 0)) = true → (0 : Int) ≤ i ∧ i < (l.length : Int)) ((gif ((!(((r0 != 0) || (decide (h_2 < h))) || (decide (c_2.epoch < c.epoch)))) && ((a0_2.1 == 0) && (((l.getD (i).toNat default).k) == 1))) (F_rstate_State_Conf a0_3.2) default).bind fun c_3 => (chk (((!(((r0 != 0) || (decide (h_2 < h))) || (decide (c_2.epoch < c.epoch)))) && ((a0_2.1 == 0) && (((l.getD (i).toNat default).k) == 1))) = true → (0 : Int) ≤ i ∧ i < (l.length : Int)) (if ((((r0 != 0) || (decide (h_2 < h))) || (decide (c_2.epoch < c.epoch))) || (((a0_2.1 == 0) && (((l.getD (i).toNat default).k) == 1)) && (c_3.epoch != (((l.getD (i).toNat default).conf).epoch)))) = true then (some false) else (chk (inI (i + 1)) (rc (i + 1, a0_3.2))))))))))))))) else ((F_law30_awake).bind fun a0_4 => (some a0_4))

def F_law30_RstateRight (l : List ENote) : Option Bool := (F_law28_Parts l).bind fun p => (if (decide (p > 20)) = true then ((F_law30_awake).bind fun a0 => (some a0)) else ((F_rstate_New).bind fun n0 => (iter (F_law30_RstateRight_l1 l) FU (0, n0))))

set_option maxHeartbeats 8000000 in
theorem c_law30_RstateRight {I D : Dm} {l : List ENote} {v1_l : Value} {w : World} {rr : Bool} (hF : F_law30_RstateRight l = some rr) (H : St I D w [SlC NENote v1_l l]) :
  Calls Try.prog 3 #[v1_l] w (Ret fun vv w' => vv = .bool rr ∧ ∃ I', Hf I D w I' w' []) := by
 replace H := H.hf
 unfold F_law30_RstateRight at hF
 refine f_enter 76 Try.func3 rfl rfl (Nat.le_of_ble_eq_true rfl) fun a Z => ?_
 replace Z := Z.sub (ts := [0]) rfl
 refine wp_seq (f_region Z ?_); clear Z; intro Z
 refine s_runk tRfWR Z 1 rfl rfl ?_; clear Z a; intro a Z
 refine s_end Z [0] rfl ?_; clear Z; intro Z
 refine p_then (wp_seq ?_)
 refine wp_seq ?_
 obtain ⟨p, hx1, hF⟩ := bnd_in hF
 refine f_region Z ?_; clear Z; intro Z
 refine s_runk tRfWR Z 1 rfl rfl ?_; clear Z a; intro a Z
 refine h_call Z H (js := [(0, true)]) rfl (caps := #[]) fn_6_YRfWR rfl rfl rfl rfl rfl (by decide) rfl rfl (fun D1 hS => have hq := c_law28_Parts hx1 hS; hq) ?_; clear Z a; intro vv a w1 D2 hr hF2 Z
 obtain ⟨rfl, I1, K⟩ := hr
 have H : Hf I D w I1 w1 [SlC NENote v1_l l] := hF2 K
 clear hF2 K
 refine s_runk tRfWR Z 1 rfl rfl ?_; clear Z a; intro a Z
 refine s_end Z [0, 10] rfl ?_; clear Z; intro Z
 refine p_then ?_
 refine f_cond Z rfl (fun hc1 => ?_) (fun hc1 => ?_)
 ·replace hF := ite_t hc1 hF
  refine wp_seq ?_
  obtain ⟨a0, hx2, hF⟩ := bnd_in hF
  refine f_region Z ?_; clear Z; intro Z
  refine h_call Z H (js := []) rfl (caps := #[]) fn_7_YRfWR rfl rfl rfl rfl rfl (by decide) rfl rfl (fun D1 hS => have hq := c_law30_awake hx2 hS; hq) ?_; clear Z a; intro vv a w2 D2 hr hF2 Z
  obtain ⟨rfl, I2, K⟩ := hr
  have H : Hf I D w I2 w2 [SlC NENote v1_l l] := hF2 K
  clear hF2 K
  refine s_runk tRfWR Z 1 rfl rfl ?_; clear Z a; intro a Z
  refine s_end Z [2] rfl ?_; clear Z; intro Z
  refine p_then (wp_ret ?_)
  refine p_then_r ?_
  obtain rfl := some_in hF
  exact f_ret Z (run_results1 rfl Z rfl) ⟨rfl, I2, (H.sub [] rfl).eq rfl⟩
 ·replace hF := ite_f hc1 hF
  refine wp_skip ?_
  refine p_then (wp_seq ?_)
  obtain ⟨n0, hx3, hF⟩ := bnd_in hF
  refine f_region Z ?_; clear Z; intro Z
  refine h_call Z H (js := []) rfl (caps := #[]) fn_8_YRfWR rfl rfl rfl rfl rfl (by decide) rfl rfl (fun D1 hS => have hq := c_rstate_New hx3 hS; hq) ?_; clear Z a; intro vv a w3 D2 hr hF2 Z
  obtain ⟨g1, rfl, I3, K⟩ := hr
  have H : Hf I D w I3 w3 [OErstate_State g1 n0, SlC NENote v1_l l] := hF2 K
  clear hF2 K
  refine s_runk tRfWR Z 1 rfl rfl ?_; clear Z a; intro a Z
  refine s_end Z [0, 3] rfl ?_; clear Z; intro Z
  refine p_then (wp_seq ?_)
  refine wp_seq (f_region Z ?_); clear Z; intro Z
  refine s_runk tRfWR Z 1 rfl rfl ?_; clear Z a; intro a Z
  refine s_end Z [0, 3, 4] rfl ?_; clear Z; intro Z
  refine p_then (wp_block ?_)
  refine f_iter hF (fun sg a' w' => match sg with | (i, s0) => Sl 76 [(0, v1_l), (3, .pointer (some ⟨g1, 0, none⟩)), (4, .int .i64 i)] a' ∧ ∃ I2, Hf I D w I2 w' [OErstate_State g1 s0, SlC NENote v1_l l]) ⟨Z.sub (ts := [0, 3, 4]) rfl, ⟨I3, (H.sub [(0, false), (0, true)] rfl).eq rfl⟩⟩ ?_
  clear Z H hF a
  rintro rc ⟨i, s0⟩ a w4 ⟨Z, I4, H⟩ hF
  unfold F_law30_RstateRight_l1 at hF
  try dsimp only at hF
  refine wp_seq ?_
  refine wp_seq (f_region Z ?_); clear Z; intro Z
  refine s_runk tRfWR Z 2 rfl rfl ?_; clear Z a; intro a Z
  refine s_ob Z (v := .int .i64 (l.length : Int)) rfl rfl (by decide) rfl (Ob_slen tRfWR rfl rfl rfl (H.slshape 1 rfl)) ?_; clear Z a; intro a Z
  refine s_runk tRfWR Z 2 rfl rfl ?_; clear Z a; intro a Z
  refine g_ob Z (p := (decide (i < (l.length : Int)))) (v := .int .i64 i) (S' := [(4, .int .i64 i)]) rfl rfl rfl (wantB_t _) rfl (by decide) (fun hp hS => hS.sub (ts := [4]) rfl) (fun hp => Ob_c tRfWR rfl) ?_; clear Z a; intro a Z
  refine g_ob Z (p := (decide (i < (l.length : Int)))) (v := .bool (decide (i < 40))) (S' := [(18, .int .i64 i)]) rfl rfl rfl (wantB_t _) rfl (by decide) (fun hp hS => (hS.conv (t := 18) rfl (cond_t hp)).sub (ts := [18]) rfl) (fun hp => Ob_c tRfWR rfl) ?_; clear Z a; intro a Z
  refine s_ob Z (v := .bool ((decide (i < (l.length : Int))) && (decide (i < 40)))) rfl rfl (by decide) rfl (Ob_pick rfl rfl rfl rfl (pick_and _ _)) ?_; clear Z a; intro a Z
  refine s_end Z [0, 3, 4, 20] rfl ?_; clear Z; intro Z
  refine p_then ?_
  refine f_cond Z rfl (fun hc2 => ?_) (fun hc2 => ?_)
  ·replace hF := ite_t hc2 hF
   refine wp_skip ?_
   refine p_then (wp_seq ?_)
   refine wp_block ?_
   refine wp_seq ?_
   obtain ⟨h, hx4, hF⟩ := bnd_in hF
   refine f_region Z ?_; clear Z; intro Z
   refine s_runk tRfWR Z 1 rfl rfl ?_; clear Z a; intro a Z
   refine h_call Z H (js := [(0, false)]) rfl (caps := #[]) fn_9_YRfWR rfl rfl rfl rfl rfl (by decide) rfl rfl (fun D1 hS => have hq := c_rstate_State_Horizon hx4 hS; hq) ?_; clear Z a; intro vv a w5 D2 hr hF2 Z
   obtain ⟨rfl, I5, K⟩ := hr
   have H : Hf I D w I5 w5 [OErstate_State g1 s0, SlC NENote v1_l l] := hF2 K
   clear hF2 K
   refine s_runk tRfWR Z 1 rfl rfl ?_; clear Z a; intro a Z
   refine s_end Z [0, 3, 4, 5] rfl ?_; clear Z; intro Z
   refine p_then (wp_seq ?_)
   obtain ⟨c, hx5, hF⟩ := bnd_in hF
   refine f_region Z ?_; clear Z; intro Z
   refine s_runk tRfWR Z 1 rfl rfl ?_; clear Z a; intro a Z
   refine h_call Z H (js := [(0, false)]) rfl (caps := #[]) fn_10_YRfWR rfl rfl rfl rfl rfl (by decide) rfl rfl (fun D1 hS => have hq := c_rstate_State_Conf hx5 hS; hq) ?_; clear Z a; intro vv a w6 D2 hr hF2 Z
   obtain ⟨q1, rfl, I6, K⟩ := hr
   have H : Hf I D w I6 w6 [OErstate_State g1 s0, SlC NEMember q1 c.members, SlC NENote v1_l l] := hF2 K
   clear hF2 K
   refine s_ob Z (v := .int .i64 c.epoch) rfl rfl (by decide) rfl (Ob_field1 tRfWR rfl rfl Try.underlying31 rfl rfl rfl) ?_; clear Z a; intro a Z
   refine s_runk tRfWR Z 1 rfl rfl ?_; clear Z a; intro a Z
   refine s_end Z [0, 3, 4, 5, 6] rfl ?_; clear Z; intro Z
   refine p_then (wp_seq ?_)
   obtain ⟨hg1, hF⟩ := chk_in hF
   obtain ⟨a0_2, hx6, hF⟩ := bnd_in hF
   refine f_region Z ?_; clear Z; intro Z
   refine s_runk tRfWR Z 3 rfl rfl ?_; clear Z a; intro a Z
   refine s_ob Z (v := .pointer (some ⟨blkOf v1_l, oofOf v1_l + (i).toNat * 18, none⟩)) rfl rfl (by decide) rfl (Ob_sidx tRfWR rfl rfl rfl rfl (slPl (H.sl 2 rfl) hg1) hg1) ?_; clear Z a; intro a Z
   obtain ⟨_, ⟨u1, u2, u3, rfl, L1, L2, L3⟩, H⟩ := H.elG 2 rfl (i) (NENote.dft _ _)
   replace H := H.addsl L1
   replace H := H.addsl L2
   replace H := H.addsl L3
   replace H : Hf I D w I6 w6 [SlC NEOp u3 ((((l.getD (i).toNat default).entry).batch).ops), SlC Ni64 u2 ((l.getD (i).toNat default).legit), SlC NEMember u1 (((l.getD (i).toNat default).conf).members), AtG ((0 : Int) ≤ i ∧ i < (l.length : Int)) (blkOf v1_l) (oofOf v1_l + (i).toNat * 18) [.int .i64 ((l.getD (i).toNat default).k), .int .i64 ((l.getD (i).toNat default).n), .int .u64 ((l.getD (i).toNat default).at_), .int .i64 (((l.getD (i).toNat default).conf).epoch), u1, .int .u64 (((l.getD (i).toNat default).conf).floor), u2, .int .i64 ((((l.getD (i).toNat default).entry).batch).client), .int .i64 ((((l.getD (i).toNat default).entry).batch).req), u3, .int .u64 (((l.getD (i).toNat default).entry).ts), .int .i64 (((l.getD (i).toNat default).pin).id), .int .u64 (((l.getD (i).toNat default).pin).at_), .int .i64 (((l.getD (i).toNat default).pin).left), .int .i64 (((l.getD (i).toNat default).said).client), .int .i64 (((l.getD (i).toNat default).said).req), .int .i64 (((l.getD (i).toNat default).said).e), .int .i64 (((l.getD (i).toNat default).said).pin)], OErstate_State g1 s0, SlC NEMember q1 c.members, SlC NENote v1_l l] := H
   refine s_ob Z (v := .agg #[.int .i64 ((l.getD (i).toNat default).k), .int .i64 ((l.getD (i).toNat default).n), .int .u64 ((l.getD (i).toNat default).at_), .int .i64 (((l.getD (i).toNat default).conf).epoch), u1, .int .u64 (((l.getD (i).toNat default).conf).floor), u2, .int .i64 ((((l.getD (i).toNat default).entry).batch).client), .int .i64 ((((l.getD (i).toNat default).entry).batch).req), u3, .int .u64 (((l.getD (i).toNat default).entry).ts), .int .i64 (((l.getD (i).toNat default).pin).id), .int .u64 (((l.getD (i).toNat default).pin).at_), .int .i64 (((l.getD (i).toNat default).pin).left), .int .i64 (((l.getD (i).toNat default).said).client), .int .i64 (((l.getD (i).toNat default).said).req), .int .i64 (((l.getD (i).toNat default).said).e), .int .i64 (((l.getD (i).toNat default).said).pin)]) rfl rfl (by decide) rfl (Ob_loads tRfWR rfl rfl rfl ((H.atg 3 rfl hg1).part 0 rfl)) ?_; clear Z a; intro a Z
   refine h_call Z H (js := [(4, false), (2, true), (1, true), (0, true)]) rfl (caps := #[]) fn_11_YRfWR rfl rfl rfl rfl rfl (by decide) rfl rfl (fun D1 hS => have hq := c_rstate_State_Apply hx6 hS; hq) ?_; clear Z a; intro vv a w7 D2 hr hF2 Z
   obtain ⟨rfl, I7, K⟩ := hr
   have H : Hf I D w I7 w7 [OErstate_State g1 a0_2.2, SlC NEOp u3 ((((l.getD (i).toNat default).entry).batch).ops), SlC Ni64 u2 ((l.getD (i).toNat default).legit), SlC NEMember u1 (((l.getD (i).toNat default).conf).members), AtG ((0 : Int) ≤ i ∧ i < (l.length : Int)) (blkOf v1_l) (oofOf v1_l + (i).toNat * 18) [.int .i64 ((l.getD (i).toNat default).k), .int .i64 ((l.getD (i).toNat default).n), .int .u64 ((l.getD (i).toNat default).at_), .int .i64 (((l.getD (i).toNat default).conf).epoch), u1, .int .u64 (((l.getD (i).toNat default).conf).floor), u2, .int .i64 ((((l.getD (i).toNat default).entry).batch).client), .int .i64 ((((l.getD (i).toNat default).entry).batch).req), u3, .int .u64 (((l.getD (i).toNat default).entry).ts), .int .i64 (((l.getD (i).toNat default).pin).id), .int .u64 (((l.getD (i).toNat default).pin).at_), .int .i64 (((l.getD (i).toNat default).pin).left), .int .i64 (((l.getD (i).toNat default).said).client), .int .i64 (((l.getD (i).toNat default).said).req), .int .i64 (((l.getD (i).toNat default).said).e), .int .i64 (((l.getD (i).toNat default).said).pin)], SlC NEMember q1 c.members, SlC NENote v1_l l] := hF2 K
   clear hF2 K
   refine s_runk tRfWR Z 1 rfl rfl ?_; clear Z a; intro a Z
   refine s_end Z [0, 3, 4, 5, 6, 7] rfl ?_; clear Z; intro Z
   refine p_then (wp_seq ?_)
   obtain ⟨_, ⟨u4, u5, u6, rfl, L4, L5, L6⟩, H⟩ := H.elG 6 rfl (i) (NENote.dft _ _)
   replace H := H.addsl L4
   replace H := H.addsl L5
   replace H := H.addsl L6
   replace H : Hf I D w I7 w7 [SlC NEOp u6 ((((l.getD (i).toNat default).entry).batch).ops), SlC Ni64 u5 ((l.getD (i).toNat default).legit), SlC NEMember u4 (((l.getD (i).toNat default).conf).members), AtG ((0 : Int) ≤ i ∧ i < (l.length : Int)) (blkOf v1_l) (oofOf v1_l + (i).toNat * 18) [.int .i64 ((l.getD (i).toNat default).k), .int .i64 ((l.getD (i).toNat default).n), .int .u64 ((l.getD (i).toNat default).at_), .int .i64 (((l.getD (i).toNat default).conf).epoch), u4, .int .u64 (((l.getD (i).toNat default).conf).floor), u5, .int .i64 ((((l.getD (i).toNat default).entry).batch).client), .int .i64 ((((l.getD (i).toNat default).entry).batch).req), u6, .int .u64 (((l.getD (i).toNat default).entry).ts), .int .i64 (((l.getD (i).toNat default).pin).id), .int .u64 (((l.getD (i).toNat default).pin).at_), .int .i64 (((l.getD (i).toNat default).pin).left), .int .i64 (((l.getD (i).toNat default).said).client), .int .i64 (((l.getD (i).toNat default).said).req), .int .i64 (((l.getD (i).toNat default).said).e), .int .i64 (((l.getD (i).toNat default).said).pin)], OErstate_State g1 a0_2.2, SlC NEOp u3 ((((l.getD (i).toNat default).entry).batch).ops), SlC Ni64 u2 ((l.getD (i).toNat default).legit), SlC NEMember u1 (((l.getD (i).toNat default).conf).members), AtG ((0 : Int) ≤ i ∧ i < (l.length : Int)) (blkOf v1_l) (oofOf v1_l + (i).toNat * 18) [.int .i64 ((l.getD (i).toNat default).k), .int .i64 ((l.getD (i).toNat default).n), .int .u64 ((l.getD (i).toNat default).at_), .int .i64 (((l.getD (i).toNat default).conf).epoch), u1, .int .u64 (((l.getD (i).toNat default).conf).floor), u2, .int .i64 ((((l.getD (i).toNat default).entry).batch).client), .int .i64 ((((l.getD (i).toNat default).entry).batch).req), u3, .int .u64 (((l.getD (i).toNat default).entry).ts), .int .i64 (((l.getD (i).toNat default).pin).id), .int .u64 (((l.getD (i).toNat default).pin).at_), .int .i64 (((l.getD (i).toNat default).pin).left), .int .i64 (((l.getD (i).toNat default).said).client), .int .i64 (((l.getD (i).toNat default).said).req), .int .i64 (((l.getD (i).toNat default).said).e), .int .i64 (((l.getD (i).toNat default).said).pin)], SlC NEMember q1 c.members, SlC NENote v1_l l] := H
   obtain ⟨a0_3, hx7, hF⟩ := bnd_in hF
   obtain ⟨r0, hx8, hF⟩ := bnd_in hF
   obtain ⟨h_2, hx9, hF⟩ := bnd_in hF
   obtain ⟨c_2, hx10, hF⟩ := bnd_in hF
   obtain ⟨hg2, hF⟩ := chk_in hF
   obtain ⟨c_3, hx11, hF⟩ := bnd_in hF
   obtain ⟨hg3, hF⟩ := chk_in hF
   refine f_regionL Z (by kernel_rfl) (by kernel_rfl) (by decide) (by decide) [1, 6, 12, 30] [(0, 0, 0), (1, 0, 0), (3, 1, 1), (7, 1, 1), (15, 1, 1), (31, 1, 1), (63, 1, 1), (31, 1, 2), (255, 2, 2), (511, 2, 2), (1023, 2, 2), (2047, 2, 2), (4095, 2, 2), (8191, 3, 3), (2047, 2, 3), (32767, 3, 3), (65535, 3, 3), (131071, 3, 3), (262143, 3, 3), (524287, 3, 3), (1048575, 3, 3), (2097151, 3, 3), (2097151, 3, 3), (8388607, 3, 3), (16777215, 3, 3), (33554431, 3, 3), (67108863, 3, 3), (134217727, 3, 3), (268435455, 3, 3), (536870911, 3, 3), (1073741823, 3, 3), (2147483647, 4, 4), (536870911, 3, 4), (536870911, 3, 4), (13421772799, 3, 4), (30601641983, 3, 4), (64961380351, 3, 4), (133680857087, 3, 4), (274877906943, 4, 4), (549755813887, 4, 4), (1099511627775, 4, 4)] (by kernel_rfl) (fun jj vv => cond (Nat.blt jj 20) (cond (Nat.blt jj 10) (cond (Nat.blt jj 5) (cond (Nat.blt jj 2) (cond (Nat.blt jj 1) (vv = .pointer (some ⟨g1, 0, none⟩)) (True)) (cond (Nat.blt jj 3) (vv = .int .i64 r0) (cond (Nat.blt jj 4) (vv = .bool (r0 != 0)) (vv = .bool (r0 != 0))))) (cond (Nat.blt jj 7) (cond (Nat.blt jj 6) (vv = cond (!(r0 != 0)) (.pointer (some ⟨g1, 0, none⟩)) undef) (vv = cond (!(r0 != 0)) (.int .u64 h_2) undef)) (cond (Nat.blt jj 8) (vv = cond (!(r0 != 0)) (.int .u64 h) undef) (cond (Nat.blt jj 9) (vv = cond (!(r0 != 0)) (.bool (decide (h_2 < h))) undef) (vv = .bool ((r0 != 0) || (decide (h_2 < h)))))))) (cond (Nat.blt jj 15) (cond (Nat.blt jj 12) (cond (Nat.blt jj 11) (vv = .bool ((r0 != 0) || (decide (h_2 < h)))) (vv = cond (!((r0 != 0) || (decide (h_2 < h)))) (.pointer (some ⟨g1, 0, none⟩)) undef)) (cond (Nat.blt jj 13) (vv = cond (!((r0 != 0) || (decide (h_2 < h)))) (.agg #[.int .i64 c_2.epoch, (aggSl vv 1), .int .u64 c_2.floor]) undef) (cond (Nat.blt jj 14) (vv = cond (!((r0 != 0) || (decide (h_2 < h)))) (.int .i64 c_2.epoch) undef) (vv = cond (!((r0 != 0) || (decide (h_2 < h)))) (.int .i64 c.epoch) undef)))) (cond (Nat.blt jj 17) (cond (Nat.blt jj 16) (vv = cond (!((r0 != 0) || (decide (h_2 < h)))) (.bool (decide (c_2.epoch < c.epoch))) undef) (vv = .bool (((r0 != 0) || (decide (h_2 < h))) || (decide (c_2.epoch < c.epoch))))) (cond (Nat.blt jj 18) (vv = .bool (((r0 != 0) || (decide (h_2 < h))) || (decide (c_2.epoch < c.epoch)))) (cond (Nat.blt jj 19) (vv = cond (!(((r0 != 0) || (decide (h_2 < h))) || (decide (c_2.epoch < c.epoch)))) (.int .i64 a0_2.1) undef) (vv = cond (!(((r0 != 0) || (decide (h_2 < h))) || (decide (c_2.epoch < c.epoch)))) (.bool (a0_2.1 == 0)) undef)))))) (cond (Nat.blt jj 30) (cond (Nat.blt jj 25) (cond (Nat.blt jj 22) (cond (Nat.blt jj 21) (vv = cond (!(((r0 != 0) || (decide (h_2 < h))) || (decide (c_2.epoch < c.epoch)))) (.bool (a0_2.1 == 0)) undef) (vv = cond ((!(((r0 != 0) || (decide (h_2 < h))) || (decide (c_2.epoch < c.epoch)))) && (a0_2.1 == 0)) (v1_l) undef)) (cond (Nat.blt jj 23) (vv = cond ((!(((r0 != 0) || (decide (h_2 < h))) || (decide (c_2.epoch < c.epoch)))) && (a0_2.1 == 0)) (.int .i64 i) undef) (cond (Nat.blt jj 24) (vv = cond ((!(((r0 != 0) || (decide (h_2 < h))) || (decide (c_2.epoch < c.epoch)))) && (a0_2.1 == 0)) (.pointer (some ⟨blkOf v1_l, oofOf v1_l + (i).toNat * 18, none⟩)) undef) (vv = cond ((!(((r0 != 0) || (decide (h_2 < h))) || (decide (c_2.epoch < c.epoch)))) && (a0_2.1 == 0)) (.pointer (some ⟨blkOf v1_l, oofOf v1_l + (i).toNat * 18, none⟩)) undef)))) (cond (Nat.blt jj 27) (cond (Nat.blt jj 26) (vv = cond ((!(((r0 != 0) || (decide (h_2 < h))) || (decide (c_2.epoch < c.epoch)))) && (a0_2.1 == 0)) (.int .i64 ((l.getD (i).toNat default).k)) undef) (vv = cond ((!(((r0 != 0) || (decide (h_2 < h))) || (decide (c_2.epoch < c.epoch)))) && (a0_2.1 == 0)) (.bool (((l.getD (i).toNat default).k) == 1)) undef)) (cond (Nat.blt jj 28) (vv = cond (!(((r0 != 0) || (decide (h_2 < h))) || (decide (c_2.epoch < c.epoch)))) (.bool ((a0_2.1 == 0) && (((l.getD (i).toNat default).k) == 1))) undef) (cond (Nat.blt jj 29) (vv = cond (!(((r0 != 0) || (decide (h_2 < h))) || (decide (c_2.epoch < c.epoch)))) (.bool ((a0_2.1 == 0) && (((l.getD (i).toNat default).k) == 1))) undef) (vv = cond ((!(((r0 != 0) || (decide (h_2 < h))) || (decide (c_2.epoch < c.epoch)))) && ((a0_2.1 == 0) && (((l.getD (i).toNat default).k) == 1))) (.pointer (some ⟨g1, 0, none⟩)) undef))))) (cond (Nat.blt jj 35) (cond (Nat.blt jj 32) (cond (Nat.blt jj 31) (vv = cond ((!(((r0 != 0) || (decide (h_2 < h))) || (decide (c_2.epoch < c.epoch)))) && ((a0_2.1 == 0) && (((l.getD (i).toNat default).k) == 1))) (.agg #[.int .i64 c_3.epoch, (aggSl vv 1), .int .u64 c_3.floor]) undef) (vv = cond ((!(((r0 != 0) || (decide (h_2 < h))) || (decide (c_2.epoch < c.epoch)))) && ((a0_2.1 == 0) && (((l.getD (i).toNat default).k) == 1))) (.int .i64 c_3.epoch) undef)) (cond (Nat.blt jj 33) (vv = cond ((!(((r0 != 0) || (decide (h_2 < h))) || (decide (c_2.epoch < c.epoch)))) && ((a0_2.1 == 0) && (((l.getD (i).toNat default).k) == 1))) (v1_l) undef) (cond (Nat.blt jj 34) (vv = cond ((!(((r0 != 0) || (decide (h_2 < h))) || (decide (c_2.epoch < c.epoch)))) && ((a0_2.1 == 0) && (((l.getD (i).toNat default).k) == 1))) (.int .i64 i) undef) (vv = cond ((!(((r0 != 0) || (decide (h_2 < h))) || (decide (c_2.epoch < c.epoch)))) && ((a0_2.1 == 0) && (((l.getD (i).toNat default).k) == 1))) (.pointer (some ⟨blkOf v1_l, oofOf v1_l + (i).toNat * 18, none⟩)) undef)))) (cond (Nat.blt jj 38) (cond (Nat.blt jj 36) (vv = cond ((!(((r0 != 0) || (decide (h_2 < h))) || (decide (c_2.epoch < c.epoch)))) && ((a0_2.1 == 0) && (((l.getD (i).toNat default).k) == 1))) (.pointer (some ⟨blkOf v1_l, oofOf v1_l + (i).toNat * 18 + 3, none⟩)) undef) (cond (Nat.blt jj 37) (vv = cond ((!(((r0 != 0) || (decide (h_2 < h))) || (decide (c_2.epoch < c.epoch)))) && ((a0_2.1 == 0) && (((l.getD (i).toNat default).k) == 1))) (.pointer (some ⟨blkOf v1_l, oofOf v1_l + (i).toNat * 18 + 3, none⟩)) undef) (vv = cond ((!(((r0 != 0) || (decide (h_2 < h))) || (decide (c_2.epoch < c.epoch)))) && ((a0_2.1 == 0) && (((l.getD (i).toNat default).k) == 1))) (.int .i64 (((l.getD (i).toNat default).conf).epoch)) undef))) (cond (Nat.blt jj 39) (vv = cond ((!(((r0 != 0) || (decide (h_2 < h))) || (decide (c_2.epoch < c.epoch)))) && ((a0_2.1 == 0) && (((l.getD (i).toNat default).k) == 1))) (.bool (c_3.epoch != (((l.getD (i).toNat default).conf).epoch))) undef) (cond (Nat.blt jj 40) (vv = cond (!(((r0 != 0) || (decide (h_2 < h))) || (decide (c_2.epoch < c.epoch)))) (.bool (((a0_2.1 == 0) && (((l.getD (i).toNat default).k) == 1)) && (c_3.epoch != (((l.getD (i).toNat default).conf).epoch)))) undef) (vv = .bool ((((r0 != 0) || (decide (h_2 < h))) || (decide (c_2.epoch < c.epoch))) || (((a0_2.1 == 0) && (((l.getD (i).toNat default).k) == 1)) && (c_3.epoch != (((l.getD (i).toNat default).conf).epoch))))))))))) (fun ss vals1 xw => match ss with | 0 => Gx I D w I7 w7 xw [SlC NEOp u6 ((((l.getD (i).toNat default).entry).batch).ops), SlC Ni64 u5 ((l.getD (i).toNat default).legit), SlC NEMember u4 (((l.getD (i).toNat default).conf).members), AtG ((0 : Int) ≤ i ∧ i < (l.length : Int)) (blkOf v1_l) (oofOf v1_l + (i).toNat * 18) [.int .i64 ((l.getD (i).toNat default).k), .int .i64 ((l.getD (i).toNat default).n), .int .u64 ((l.getD (i).toNat default).at_), .int .i64 (((l.getD (i).toNat default).conf).epoch), u4, .int .u64 (((l.getD (i).toNat default).conf).floor), u5, .int .i64 ((((l.getD (i).toNat default).entry).batch).client), .int .i64 ((((l.getD (i).toNat default).entry).batch).req), u6, .int .u64 (((l.getD (i).toNat default).entry).ts), .int .i64 (((l.getD (i).toNat default).pin).id), .int .u64 (((l.getD (i).toNat default).pin).at_), .int .i64 (((l.getD (i).toNat default).pin).left), .int .i64 (((l.getD (i).toNat default).said).client), .int .i64 (((l.getD (i).toNat default).said).req), .int .i64 (((l.getD (i).toNat default).said).e), .int .i64 (((l.getD (i).toNat default).said).pin)], OErstate_State g1 a0_2.2, SlC NEOp u3 ((((l.getD (i).toNat default).entry).batch).ops), SlC Ni64 u2 ((l.getD (i).toNat default).legit), SlC NEMember u1 (((l.getD (i).toNat default).conf).members), AtG ((0 : Int) ≤ i ∧ i < (l.length : Int)) (blkOf v1_l) (oofOf v1_l + (i).toNat * 18) [.int .i64 ((l.getD (i).toNat default).k), .int .i64 ((l.getD (i).toNat default).n), .int .u64 ((l.getD (i).toNat default).at_), .int .i64 (((l.getD (i).toNat default).conf).epoch), u1, .int .u64 (((l.getD (i).toNat default).conf).floor), u2, .int .i64 ((((l.getD (i).toNat default).entry).batch).client), .int .i64 ((((l.getD (i).toNat default).entry).batch).req), u3, .int .u64 (((l.getD (i).toNat default).entry).ts), .int .i64 (((l.getD (i).toNat default).pin).id), .int .u64 (((l.getD (i).toNat default).pin).at_), .int .i64 (((l.getD (i).toNat default).pin).left), .int .i64 (((l.getD (i).toNat default).said).client), .int .i64 (((l.getD (i).toNat default).said).req), .int .i64 (((l.getD (i).toNat default).said).e), .int .i64 (((l.getD (i).toNat default).said).pin)], SlC NEMember q1 c.members, SlC NENote v1_l l] | 1 => Gx I D w I7 w7 xw [OErstate_State g1 a0_3.2, OwC NEEntry 40 (vals1 1) a0_3.1, SlC NEOp u6 ((((l.getD (i).toNat default).entry).batch).ops), SlC Ni64 u5 ((l.getD (i).toNat default).legit), SlC NEMember u4 (((l.getD (i).toNat default).conf).members), AtG ((0 : Int) ≤ i ∧ i < (l.length : Int)) (blkOf v1_l) (oofOf v1_l + (i).toNat * 18) [.int .i64 ((l.getD (i).toNat default).k), .int .i64 ((l.getD (i).toNat default).n), .int .u64 ((l.getD (i).toNat default).at_), .int .i64 (((l.getD (i).toNat default).conf).epoch), u4, .int .u64 (((l.getD (i).toNat default).conf).floor), u5, .int .i64 ((((l.getD (i).toNat default).entry).batch).client), .int .i64 ((((l.getD (i).toNat default).entry).batch).req), u6, .int .u64 (((l.getD (i).toNat default).entry).ts), .int .i64 (((l.getD (i).toNat default).pin).id), .int .u64 (((l.getD (i).toNat default).pin).at_), .int .i64 (((l.getD (i).toNat default).pin).left), .int .i64 (((l.getD (i).toNat default).said).client), .int .i64 (((l.getD (i).toNat default).said).req), .int .i64 (((l.getD (i).toNat default).said).e), .int .i64 (((l.getD (i).toNat default).said).pin)], SlC NEOp u3 ((((l.getD (i).toNat default).entry).batch).ops), SlC Ni64 u2 ((l.getD (i).toNat default).legit), SlC NEMember u1 (((l.getD (i).toNat default).conf).members), AtG ((0 : Int) ≤ i ∧ i < (l.length : Int)) (blkOf v1_l) (oofOf v1_l + (i).toNat * 18) [.int .i64 ((l.getD (i).toNat default).k), .int .i64 ((l.getD (i).toNat default).n), .int .u64 ((l.getD (i).toNat default).at_), .int .i64 (((l.getD (i).toNat default).conf).epoch), u1, .int .u64 (((l.getD (i).toNat default).conf).floor), u2, .int .i64 ((((l.getD (i).toNat default).entry).batch).client), .int .i64 ((((l.getD (i).toNat default).entry).batch).req), u3, .int .u64 (((l.getD (i).toNat default).entry).ts), .int .i64 (((l.getD (i).toNat default).pin).id), .int .u64 (((l.getD (i).toNat default).pin).at_), .int .i64 (((l.getD (i).toNat default).pin).left), .int .i64 (((l.getD (i).toNat default).said).client), .int .i64 (((l.getD (i).toNat default).said).req), .int .i64 (((l.getD (i).toNat default).said).e), .int .i64 (((l.getD (i).toNat default).said).pin)], SlC NEMember q1 c.members, SlC NENote v1_l l] | 2 => Gx I D w I7 w7 xw [OErstate_State g1 a0_3.2, OwC NEEntry 40 (vals1 1) a0_3.1, SlC NEOp u6 ((((l.getD (i).toNat default).entry).batch).ops), SlC Ni64 u5 ((l.getD (i).toNat default).legit), SlC NEMember u4 (((l.getD (i).toNat default).conf).members), AtG ((0 : Int) ≤ i ∧ i < (l.length : Int)) (blkOf v1_l) (oofOf v1_l + (i).toNat * 18) [.int .i64 ((l.getD (i).toNat default).k), .int .i64 ((l.getD (i).toNat default).n), .int .u64 ((l.getD (i).toNat default).at_), .int .i64 (((l.getD (i).toNat default).conf).epoch), u4, .int .u64 (((l.getD (i).toNat default).conf).floor), u5, .int .i64 ((((l.getD (i).toNat default).entry).batch).client), .int .i64 ((((l.getD (i).toNat default).entry).batch).req), u6, .int .u64 (((l.getD (i).toNat default).entry).ts), .int .i64 (((l.getD (i).toNat default).pin).id), .int .u64 (((l.getD (i).toNat default).pin).at_), .int .i64 (((l.getD (i).toNat default).pin).left), .int .i64 (((l.getD (i).toNat default).said).client), .int .i64 (((l.getD (i).toNat default).said).req), .int .i64 (((l.getD (i).toNat default).said).e), .int .i64 (((l.getD (i).toNat default).said).pin)], SlC NEOp u3 ((((l.getD (i).toNat default).entry).batch).ops), SlC Ni64 u2 ((l.getD (i).toNat default).legit), SlC NEMember u1 (((l.getD (i).toNat default).conf).members), AtG ((0 : Int) ≤ i ∧ i < (l.length : Int)) (blkOf v1_l) (oofOf v1_l + (i).toNat * 18) [.int .i64 ((l.getD (i).toNat default).k), .int .i64 ((l.getD (i).toNat default).n), .int .u64 ((l.getD (i).toNat default).at_), .int .i64 (((l.getD (i).toNat default).conf).epoch), u1, .int .u64 (((l.getD (i).toNat default).conf).floor), u2, .int .i64 ((((l.getD (i).toNat default).entry).batch).client), .int .i64 ((((l.getD (i).toNat default).entry).batch).req), u3, .int .u64 (((l.getD (i).toNat default).entry).ts), .int .i64 (((l.getD (i).toNat default).pin).id), .int .u64 (((l.getD (i).toNat default).pin).at_), .int .i64 (((l.getD (i).toNat default).pin).left), .int .i64 (((l.getD (i).toNat default).said).client), .int .i64 (((l.getD (i).toNat default).said).req), .int .i64 (((l.getD (i).toNat default).said).e), .int .i64 (((l.getD (i).toNat default).said).pin)], SlC NEMember q1 c.members, SlC NENote v1_l l] | 3 => Gx I D w I7 w7 xw [OErstate_State g1 a0_3.2, SlC NEMember (aggSl (vals1 12) 1) c_2.members, OwC NEEntry 40 (vals1 1) a0_3.1, SlC NEOp u6 ((((l.getD (i).toNat default).entry).batch).ops), SlC Ni64 u5 ((l.getD (i).toNat default).legit), SlC NEMember u4 (((l.getD (i).toNat default).conf).members), AtG ((0 : Int) ≤ i ∧ i < (l.length : Int)) (blkOf v1_l) (oofOf v1_l + (i).toNat * 18) [.int .i64 ((l.getD (i).toNat default).k), .int .i64 ((l.getD (i).toNat default).n), .int .u64 ((l.getD (i).toNat default).at_), .int .i64 (((l.getD (i).toNat default).conf).epoch), u4, .int .u64 (((l.getD (i).toNat default).conf).floor), u5, .int .i64 ((((l.getD (i).toNat default).entry).batch).client), .int .i64 ((((l.getD (i).toNat default).entry).batch).req), u6, .int .u64 (((l.getD (i).toNat default).entry).ts), .int .i64 (((l.getD (i).toNat default).pin).id), .int .u64 (((l.getD (i).toNat default).pin).at_), .int .i64 (((l.getD (i).toNat default).pin).left), .int .i64 (((l.getD (i).toNat default).said).client), .int .i64 (((l.getD (i).toNat default).said).req), .int .i64 (((l.getD (i).toNat default).said).e), .int .i64 (((l.getD (i).toNat default).said).pin)], SlC NEOp u3 ((((l.getD (i).toNat default).entry).batch).ops), SlC Ni64 u2 ((l.getD (i).toNat default).legit), SlC NEMember u1 (((l.getD (i).toNat default).conf).members), AtG ((0 : Int) ≤ i ∧ i < (l.length : Int)) (blkOf v1_l) (oofOf v1_l + (i).toNat * 18) [.int .i64 ((l.getD (i).toNat default).k), .int .i64 ((l.getD (i).toNat default).n), .int .u64 ((l.getD (i).toNat default).at_), .int .i64 (((l.getD (i).toNat default).conf).epoch), u1, .int .u64 (((l.getD (i).toNat default).conf).floor), u2, .int .i64 ((((l.getD (i).toNat default).entry).batch).client), .int .i64 ((((l.getD (i).toNat default).entry).batch).req), u3, .int .u64 (((l.getD (i).toNat default).entry).ts), .int .i64 (((l.getD (i).toNat default).pin).id), .int .u64 (((l.getD (i).toNat default).pin).at_), .int .i64 (((l.getD (i).toNat default).pin).left), .int .i64 (((l.getD (i).toNat default).said).client), .int .i64 (((l.getD (i).toNat default).said).req), .int .i64 (((l.getD (i).toNat default).said).e), .int .i64 (((l.getD (i).toNat default).said).pin)], SlC NEMember q1 c.members, SlC NENote v1_l l] | _ => Gx I D w I7 w7 xw [OErstate_State g1 a0_3.2, SlC NEMember (aggSl (vals1 30) 1) c_3.members, SlC NEMember (aggSl (vals1 12) 1) c_2.members, OwC NEEntry 40 (vals1 1) a0_3.1, SlC NEOp u6 ((((l.getD (i).toNat default).entry).batch).ops), SlC Ni64 u5 ((l.getD (i).toNat default).legit), SlC NEMember u4 (((l.getD (i).toNat default).conf).members), AtG ((0 : Int) ≤ i ∧ i < (l.length : Int)) (blkOf v1_l) (oofOf v1_l + (i).toNat * 18) [.int .i64 ((l.getD (i).toNat default).k), .int .i64 ((l.getD (i).toNat default).n), .int .u64 ((l.getD (i).toNat default).at_), .int .i64 (((l.getD (i).toNat default).conf).epoch), u4, .int .u64 (((l.getD (i).toNat default).conf).floor), u5, .int .i64 ((((l.getD (i).toNat default).entry).batch).client), .int .i64 ((((l.getD (i).toNat default).entry).batch).req), u6, .int .u64 (((l.getD (i).toNat default).entry).ts), .int .i64 (((l.getD (i).toNat default).pin).id), .int .u64 (((l.getD (i).toNat default).pin).at_), .int .i64 (((l.getD (i).toNat default).pin).left), .int .i64 (((l.getD (i).toNat default).said).client), .int .i64 (((l.getD (i).toNat default).said).req), .int .i64 (((l.getD (i).toNat default).said).e), .int .i64 (((l.getD (i).toNat default).said).pin)], SlC NEOp u3 ((((l.getD (i).toNat default).entry).batch).ops), SlC Ni64 u2 ((l.getD (i).toNat default).legit), SlC NEMember u1 (((l.getD (i).toNat default).conf).members), AtG ((0 : Int) ≤ i ∧ i < (l.length : Int)) (blkOf v1_l) (oofOf v1_l + (i).toNat * 18) [.int .i64 ((l.getD (i).toNat default).k), .int .i64 ((l.getD (i).toNat default).n), .int .u64 ((l.getD (i).toNat default).at_), .int .i64 (((l.getD (i).toNat default).conf).epoch), u1, .int .u64 (((l.getD (i).toNat default).conf).floor), u2, .int .i64 ((((l.getD (i).toNat default).entry).batch).client), .int .i64 ((((l.getD (i).toNat default).entry).batch).req), u3, .int .u64 (((l.getD (i).toNat default).entry).ts), .int .i64 (((l.getD (i).toNat default).pin).id), .int .u64 (((l.getD (i).toNat default).pin).at_), .int .i64 (((l.getD (i).toNat default).pin).left), .int .i64 (((l.getD (i).toNat default).said).client), .int .i64 (((l.getD (i).toNat default).said).req), .int .i64 (((l.getD (i).toNat default).said).e), .int .i64 (((l.getD (i).toNat default).said).pin)], SlC NEMember q1 c.members, SlC NENote v1_l l]) (fun _ => Gx.start H) ?_ ?_
   ·intro fr hfr hfe
    refine .cons (fun ss hlo hhi vals1 xw hG hV => ?_) ?_
    ·obtain rfl : ss = 0 := Nat.le_antisymm hhi hlo
     rw [← hfe]
     have hS := (hfr vals1).sub (ts := [3]) (S' := [(3, .pointer (some ⟨g1, 0, none⟩))]) rfl
     exact L_val hS rfl (Ob_c tRfWR rfl) ⟨rfl, hG⟩
    refine .cons (fun ss hlo hhi vals1 xw hG hV => ?_) ?_
    ·obtain rfl : ss = 0 := Nat.le_antisymm hhi hlo
     rw [← hfe]
     have hS := (hfr vals1).sub (ts := [34]) (S' := [(34, vals1 0)]) rfl
     replace hS := hS.conv (t := 34) rfl (show (vals1 0) = .pointer (some ⟨g1, 0, none⟩) from hV 0 (by decide))
     obtain ⟨I2, hI2, H⟩ := Gx.ex hG
     refine L_hcall H (js := [(4, false)]) rfl (caps := #[]) hS fn_13_YRfWR rfl rfl rfl rfl rfl (fun D1 hS => have hq := c_rstate_State_All hx7 hS; hq) fun _ yw D1 hr hF2 => ?_
     obtain ⟨q0_, rfl, I3, K⟩ := hr
     obtain ⟨hK, H2⟩ := hF2 K
     exact ⟨trivial, Gx.go hG hI2 hK K.imm H2⟩
    refine .cons (fun ss hlo hhi vals1 xw hG hV => ?_) ?_
    ·obtain rfl : ss = 1 := Nat.le_antisymm hhi hlo
     rw [← hfe]
     have hS := (hfr vals1).sub (ts := [35]) (S' := [(35, vals1 1)]) rfl
     obtain ⟨I2, hI2, H⟩ := Gx.ex hG
     refine L_call (caps := #[]) hS fn_12_YRfWR rfl rfl rfl rfl rfl ((have hq := c_ref08_Right hx8 (stS (H.owA 1 rfl) (stB _)); plainC hq)) fun r yw hr => ?_
     obtain ⟨rfl, hb⟩ := hr
     exact ⟨rfl, Gx.blw hG hb⟩
    refine .cons (fun ss hlo hhi vals1 xw hG hV => ?_) ?_
    ·obtain rfl : ss = 1 := Nat.le_antisymm hhi hlo
     rw [← hfe]
     have hS := (hfr vals1).sub (ts := [36]) (S' := [(36, vals1 2)]) rfl
     replace hS := hS.conv (t := 36) rfl (show (vals1 2) = .int .i64 r0 from hV 2 (by decide))
     exact L_val hS rfl (Ob_c tRfWR rfl) ⟨rfl, hG⟩
    refine .cons (fun ss hlo hhi vals1 xw hG hV => ?_) ?_
    ·obtain rfl : ss = 1 := Nat.le_antisymm hhi hlo
     rw [← hfe]
     have hS := (hfr vals1).sub (ts := [37]) (S' := [(37, vals1 3)]) rfl
     replace hS := hS.conv (t := 37) rfl (show (vals1 3) = .bool (r0 != 0) from hV 3 (by decide))
     exact L_val hS rfl (Ob_c tRfWR rfl) ⟨rfl, hG⟩
    refine .cons (fun ss hlo hhi vals1 xw hG hV => ?_) ?_
    ·obtain rfl : ss = 1 := Nat.le_antisymm hhi hlo
     rw [← hfe]
     have hS := (hfr vals1).sub (ts := [38, 3]) (S' := [(38, vals1 4), (3, .pointer (some ⟨g1, 0, none⟩))]) rfl
     replace hS := hS.conv (t := 38) rfl (show (vals1 4) = .bool (r0 != 0) from hV 4 (by decide))
     refine L_gw (p := (!(r0 != 0))) hS rfl rfl rfl (wantB_f _) (fun hp => ?_) (fun hp => ⟨by rw [hp]; rfl, hG⟩)
     exact L_val hS rfl (Ob_c tRfWR rfl) ⟨(by rw [hp]; rfl), hG⟩
    refine .cons (fun ss hlo hhi vals1 xw hG hV => ?_) ?_
    ·obtain rfl : ss = 1 := Nat.le_antisymm hhi hlo
     rw [← hfe]
     have hS := (hfr vals1).sub (ts := [39, 38]) (S' := [(39, vals1 5), (38, vals1 4)]) rfl
     replace hS := hS.conv (t := 39) rfl (show (vals1 5) = cond (!(r0 != 0)) (.pointer (some ⟨g1, 0, none⟩)) undef from hV 5 (by decide))
     replace hS := hS.conv (t := 38) rfl (show (vals1 4) = .bool (r0 != 0) from hV 4 (by decide))
     refine L_gw (p := (!(r0 != 0))) hS rfl rfl rfl (wantB_f _) (fun hp => ?_) (fun hp => ⟨by rw [hp]; rfl, ?_⟩)
     ·obtain ⟨I2, hI2, H⟩ := Gx.ex hG
      replace hS := hS.conv (t := 39) rfl (cond_t hp)
      refine L_hcall H (js := [(0, false)]) rfl (caps := #[]) hS fn_9_YRfWR rfl rfl rfl rfl rfl (fun D1 hS => have hq := c_rstate_State_Horizon (gif_in hx9 hp) hS; hq) fun _ yw D1 hr hF2 => ?_
      obtain ⟨rfl, I3, K⟩ := hr
      obtain ⟨hK, H2⟩ := hF2 K
      exact ⟨by rw [hp]; rfl, by first | (rw [hp] at H2 ⊢; exact Gx.go hG hI2 hK K.imm H2) | (rw [hp]; exact Gx.go hG hI2 hK K.imm H2) | exact Gx.go hG hI2 hK K.imm H2⟩
     ·(try rw [hp]); obtain ⟨I2, hI2, H⟩ := Gx.ex hG; (try rw [hp] at H); exact Gx.go hG hI2 (Keep.refl _ _) (fun _ h => h) (H.sub [(0, false), (0, false), (0, true), (1, true), (2, true), (3, true), (4, true), (5, true), (6, true), (7, true), (8, true), (9, true)] rfl)
    refine .cons (fun ss hlo hhi vals1 xw hG hV => ?_) ?_
    ·obtain rfl | rfl : ss = 1 ∨ ss = 2 := st1 hlo hhi
     all_goals
     ·rw [← hfe]
      have hS := (hfr vals1).sub (ts := [38, 5]) (S' := [(38, vals1 4), (5, .int .u64 h)]) rfl
      replace hS := hS.conv (t := 38) rfl (show (vals1 4) = .bool (r0 != 0) from hV 4 (by decide))
      refine L_gw (p := (!(r0 != 0))) hS rfl rfl rfl (wantB_f _) (fun hp => ?_) (fun hp => ⟨by rw [hp]; rfl, hG⟩)
      exact L_val hS rfl (Ob_c tRfWR rfl) ⟨(by rw [hp]; rfl), hG⟩
    refine .cons (fun ss hlo hhi vals1 xw hG hV => ?_) ?_
    ·obtain rfl : ss = 2 := Nat.le_antisymm hhi hlo
     rw [← hfe]
     have hS := (hfr vals1).sub (ts := [40, 41, 38]) (S' := [(40, vals1 6), (41, vals1 7), (38, vals1 4)]) rfl
     replace hS := hS.conv (t := 40) rfl (show (vals1 6) = cond (!(r0 != 0)) (.int .u64 h_2) undef from hV 6 (by decide))
     replace hS := hS.conv (t := 41) rfl (show (vals1 7) = cond (!(r0 != 0)) (.int .u64 h) undef from hV 7 (by decide))
     replace hS := hS.conv (t := 38) rfl (show (vals1 4) = .bool (r0 != 0) from hV 4 (by decide))
     refine L_gw (p := (!(r0 != 0))) hS rfl rfl rfl (wantB_f _) (fun hp => ?_) (fun hp => ⟨by rw [hp]; rfl, hG⟩)
     replace hS := hS.conv (t := 40) rfl (cond_t hp)
     replace hS := hS.conv (t := 41) rfl (cond_t hp)
     exact L_val hS rfl (Ob_c tRfWR rfl) ⟨(by rw [hp]; rfl), hG⟩
    refine .cons (fun ss hlo hhi vals1 xw hG hV => ?_) ?_
    ·obtain rfl : ss = 2 := Nat.le_antisymm hhi hlo
     rw [← hfe]
     have hS := (hfr vals1).sub (ts := [38, 42]) (S' := [(38, vals1 4), (42, vals1 8)]) rfl
     replace hS := hS.conv (t := 38) rfl (show (vals1 4) = .bool (r0 != 0) from hV 4 (by decide))
     replace hS := hS.conv (t := 42) rfl (show (vals1 8) = cond (!(r0 != 0)) (.bool (decide (h_2 < h))) undef from hV 8 (by decide))
     exact L_val hS rfl (Ob_pick rfl rfl rfl rfl (pick_or _ _)) ⟨rfl, hG⟩
    refine .cons (fun ss hlo hhi vals1 xw hG hV => ?_) ?_
    ·obtain rfl : ss = 2 := Nat.le_antisymm hhi hlo
     rw [← hfe]
     have hS := (hfr vals1).sub (ts := [43]) (S' := [(43, vals1 9)]) rfl
     replace hS := hS.conv (t := 43) rfl (show (vals1 9) = .bool ((r0 != 0) || (decide (h_2 < h))) from hV 9 (by decide))
     exact L_val hS rfl (Ob_c tRfWR rfl) ⟨rfl, hG⟩
    refine .cons (fun ss hlo hhi vals1 xw hG hV => ?_) ?_
    ·obtain rfl : ss = 2 := Nat.le_antisymm hhi hlo
     rw [← hfe]
     have hS := (hfr vals1).sub (ts := [44, 3]) (S' := [(44, vals1 10), (3, .pointer (some ⟨g1, 0, none⟩))]) rfl
     replace hS := hS.conv (t := 44) rfl (show (vals1 10) = .bool ((r0 != 0) || (decide (h_2 < h))) from hV 10 (by decide))
     refine L_gw (p := (!((r0 != 0) || (decide (h_2 < h))))) hS rfl rfl rfl (wantB_f _) (fun hp => ?_) (fun hp => ⟨by rw [hp]; rfl, hG⟩)
     exact L_val hS rfl (Ob_c tRfWR rfl) ⟨(by rw [hp]; rfl), hG⟩
    refine .cons (fun ss hlo hhi vals1 xw hG hV => ?_) ?_
    ·obtain rfl : ss = 2 := Nat.le_antisymm hhi hlo
     rw [← hfe]
     have hS := (hfr vals1).sub (ts := [45, 44]) (S' := [(45, vals1 11), (44, vals1 10)]) rfl
     replace hS := hS.conv (t := 45) rfl (show (vals1 11) = cond (!((r0 != 0) || (decide (h_2 < h)))) (.pointer (some ⟨g1, 0, none⟩)) undef from hV 11 (by decide))
     replace hS := hS.conv (t := 44) rfl (show (vals1 10) = .bool ((r0 != 0) || (decide (h_2 < h))) from hV 10 (by decide))
     refine L_gw (p := (!((r0 != 0) || (decide (h_2 < h))))) hS rfl rfl rfl (wantB_f _) (fun hp => ?_) (fun hp => ⟨by rw [hp]; rfl, ?_⟩)
     ·obtain ⟨I2, hI2, H⟩ := Gx.ex hG
      replace hS := hS.conv (t := 45) rfl (cond_t hp)
      refine L_hcall H (js := [(0, false)]) rfl (caps := #[]) hS fn_10_YRfWR rfl rfl rfl rfl rfl (fun D1 hS => have hq := c_rstate_State_Conf (gif_in hx10 hp) hS; hq) fun _ yw D1 hr hF2 => ?_
      obtain ⟨q0_, rfl, I3, K⟩ := hr
      obtain ⟨hK, H2⟩ := hF2 K
      exact ⟨by rw [hp]; rfl, by first | (rw [hp] at H2 ⊢; exact Gx.go hG hI2 hK K.imm H2) | (rw [hp]; exact Gx.go hG hI2 hK K.imm H2) | exact Gx.go hG hI2 hK K.imm H2⟩
     ·obtain rfl := gif_no hx10 hp; (try rw [hp]); obtain ⟨I2, hI2, H⟩ := Gx.ex hG; (try rw [hp] at H); exact Gx.go hG hI2 (Keep.refl _ _) (fun _ h => h) (Hf.sub (Hf.slNil (H.sub [(0, false), (0, false), (0, true), (1, true), (2, true), (3, true), (4, true), (5, true), (6, true), (7, true), (8, true), (9, true)] rfl) NEMember) [(1, false), (0, false), (0, false), (0, true), (1, true), (2, true), (3, true), (4, true), (5, true), (6, true), (7, true), (8, true), (9, true)] rfl)
    refine .cons (fun ss hlo hhi vals1 xw hG hV => ?_) ?_
    ·obtain rfl : ss = 3 := Nat.le_antisymm hhi hlo
     rw [← hfe]
     have hS := (hfr vals1).sub (ts := [46, 44]) (S' := [(46, vals1 12), (44, vals1 10)]) rfl
     replace hS := hS.conv (t := 46) rfl (show (vals1 12) = cond (!((r0 != 0) || (decide (h_2 < h)))) (.agg #[.int .i64 c_2.epoch, (aggSl (vals1 12) 1), .int .u64 c_2.floor]) undef from hV 12 (by decide))
     replace hS := hS.conv (t := 44) rfl (show (vals1 10) = .bool ((r0 != 0) || (decide (h_2 < h))) from hV 10 (by decide))
     refine L_gw (p := (!((r0 != 0) || (decide (h_2 < h))))) hS rfl rfl rfl (wantB_f _) (fun hp => ?_) (fun hp => ⟨by rw [hp]; rfl, hG⟩)
     replace hS := hS.conv (t := 46) rfl (cond_t hp)
     exact L_val hS rfl (Ob_field1 tRfWR rfl rfl Try.underlying31 rfl rfl rfl) ⟨(by rw [hp]; rfl), hG⟩
    refine .cons (fun ss hlo hhi vals1 xw hG hV => ?_) ?_
    ·obtain rfl | rfl : ss = 2 ∨ ss = 3 := st1 hlo hhi
     all_goals
     ·rw [← hfe]
      have hS := (hfr vals1).sub (ts := [44, 6]) (S' := [(44, vals1 10), (6, .int .i64 c.epoch)]) rfl
      replace hS := hS.conv (t := 44) rfl (show (vals1 10) = .bool ((r0 != 0) || (decide (h_2 < h))) from hV 10 (by decide))
      refine L_gw (p := (!((r0 != 0) || (decide (h_2 < h))))) hS rfl rfl rfl (wantB_f _) (fun hp => ?_) (fun hp => ⟨by rw [hp]; rfl, hG⟩)
      exact L_val hS rfl (Ob_c tRfWR rfl) ⟨(by rw [hp]; rfl), hG⟩
    refine .cons (fun ss hlo hhi vals1 xw hG hV => ?_) ?_
    ·obtain rfl : ss = 3 := Nat.le_antisymm hhi hlo
     rw [← hfe]
     have hS := (hfr vals1).sub (ts := [47, 48, 44]) (S' := [(47, vals1 13), (48, vals1 14), (44, vals1 10)]) rfl
     replace hS := hS.conv (t := 47) rfl (show (vals1 13) = cond (!((r0 != 0) || (decide (h_2 < h)))) (.int .i64 c_2.epoch) undef from hV 13 (by decide))
     replace hS := hS.conv (t := 48) rfl (show (vals1 14) = cond (!((r0 != 0) || (decide (h_2 < h)))) (.int .i64 c.epoch) undef from hV 14 (by decide))
     replace hS := hS.conv (t := 44) rfl (show (vals1 10) = .bool ((r0 != 0) || (decide (h_2 < h))) from hV 10 (by decide))
     refine L_gw (p := (!((r0 != 0) || (decide (h_2 < h))))) hS rfl rfl rfl (wantB_f _) (fun hp => ?_) (fun hp => ⟨by rw [hp]; rfl, hG⟩)
     replace hS := hS.conv (t := 47) rfl (cond_t hp)
     replace hS := hS.conv (t := 48) rfl (cond_t hp)
     exact L_val hS rfl (Ob_c tRfWR rfl) ⟨(by rw [hp]; rfl), hG⟩
    refine .cons (fun ss hlo hhi vals1 xw hG hV => ?_) ?_
    ·obtain rfl : ss = 3 := Nat.le_antisymm hhi hlo
     rw [← hfe]
     have hS := (hfr vals1).sub (ts := [44, 49]) (S' := [(44, vals1 10), (49, vals1 15)]) rfl
     replace hS := hS.conv (t := 44) rfl (show (vals1 10) = .bool ((r0 != 0) || (decide (h_2 < h))) from hV 10 (by decide))
     replace hS := hS.conv (t := 49) rfl (show (vals1 15) = cond (!((r0 != 0) || (decide (h_2 < h)))) (.bool (decide (c_2.epoch < c.epoch))) undef from hV 15 (by decide))
     exact L_val hS rfl (Ob_pick rfl rfl rfl rfl (pick_or _ _)) ⟨rfl, hG⟩
    refine .cons (fun ss hlo hhi vals1 xw hG hV => ?_) ?_
    ·obtain rfl : ss = 3 := Nat.le_antisymm hhi hlo
     rw [← hfe]
     have hS := (hfr vals1).sub (ts := [50]) (S' := [(50, vals1 16)]) rfl
     replace hS := hS.conv (t := 50) rfl (show (vals1 16) = .bool (((r0 != 0) || (decide (h_2 < h))) || (decide (c_2.epoch < c.epoch))) from hV 16 (by decide))
     exact L_val hS rfl (Ob_c tRfWR rfl) ⟨rfl, hG⟩
    refine .cons (fun ss hlo hhi vals1 xw hG hV => ?_) ?_
    ·obtain rfl : ss = 3 := Nat.le_antisymm hhi hlo
     rw [← hfe]
     have hS := (hfr vals1).sub (ts := [51, 7]) (S' := [(51, vals1 17), (7, .int .i64 a0_2.1)]) rfl
     replace hS := hS.conv (t := 51) rfl (show (vals1 17) = .bool (((r0 != 0) || (decide (h_2 < h))) || (decide (c_2.epoch < c.epoch))) from hV 17 (by decide))
     refine L_gw (p := (!(((r0 != 0) || (decide (h_2 < h))) || (decide (c_2.epoch < c.epoch))))) hS rfl rfl rfl (wantB_f _) (fun hp => ?_) (fun hp => ⟨by rw [hp]; rfl, hG⟩)
     exact L_val hS rfl (Ob_c tRfWR rfl) ⟨(by rw [hp]; rfl), hG⟩
    refine .cons (fun ss hlo hhi vals1 xw hG hV => ?_) ?_
    ·obtain rfl : ss = 3 := Nat.le_antisymm hhi hlo
     rw [← hfe]
     have hS := (hfr vals1).sub (ts := [52, 51]) (S' := [(52, vals1 18), (51, vals1 17)]) rfl
     replace hS := hS.conv (t := 52) rfl (show (vals1 18) = cond (!(((r0 != 0) || (decide (h_2 < h))) || (decide (c_2.epoch < c.epoch)))) (.int .i64 a0_2.1) undef from hV 18 (by decide))
     replace hS := hS.conv (t := 51) rfl (show (vals1 17) = .bool (((r0 != 0) || (decide (h_2 < h))) || (decide (c_2.epoch < c.epoch))) from hV 17 (by decide))
     refine L_gw (p := (!(((r0 != 0) || (decide (h_2 < h))) || (decide (c_2.epoch < c.epoch))))) hS rfl rfl rfl (wantB_f _) (fun hp => ?_) (fun hp => ⟨by rw [hp]; rfl, hG⟩)
     replace hS := hS.conv (t := 52) rfl (cond_t hp)
     exact L_val hS rfl (Ob_c tRfWR rfl) ⟨(by rw [hp]; rfl), hG⟩
    refine .cons (fun ss hlo hhi vals1 xw hG hV => ?_) ?_
    ·obtain rfl : ss = 3 := Nat.le_antisymm hhi hlo
     rw [← hfe]
     have hS := (hfr vals1).sub (ts := [53, 51]) (S' := [(53, vals1 19), (51, vals1 17)]) rfl
     replace hS := hS.conv (t := 53) rfl (show (vals1 19) = cond (!(((r0 != 0) || (decide (h_2 < h))) || (decide (c_2.epoch < c.epoch)))) (.bool (a0_2.1 == 0)) undef from hV 19 (by decide))
     replace hS := hS.conv (t := 51) rfl (show (vals1 17) = .bool (((r0 != 0) || (decide (h_2 < h))) || (decide (c_2.epoch < c.epoch))) from hV 17 (by decide))
     refine L_gw (p := (!(((r0 != 0) || (decide (h_2 < h))) || (decide (c_2.epoch < c.epoch))))) hS rfl rfl rfl (wantB_f _) (fun hp => ?_) (fun hp => ⟨by rw [hp]; rfl, hG⟩)
     replace hS := hS.conv (t := 53) rfl (cond_t hp)
     exact L_val hS rfl (Ob_c tRfWR rfl) ⟨(by rw [hp]; rfl), hG⟩
    refine .cons (fun ss hlo hhi vals1 xw hG hV => ?_) ?_
    ·obtain rfl : ss = 3 := Nat.le_antisymm hhi hlo
     rw [← hfe]
     have hS := (hfr vals1).sub (ts := [54, 0]) (S' := [(54, vals1 20), (0, v1_l)]) rfl
     replace hS := hS.conv (t := 54) rfl (show (vals1 20) = cond (!(((r0 != 0) || (decide (h_2 < h))) || (decide (c_2.epoch < c.epoch)))) (.bool (a0_2.1 == 0)) undef from hV 20 (by decide))
     refine L_gw (p := ((!(((r0 != 0) || (decide (h_2 < h))) || (decide (c_2.epoch < c.epoch)))) && (a0_2.1 == 0))) hS rfl rfl rfl (wantB_ct _ _) (fun hp => ?_) (fun hp => ⟨by rw [hp]; rfl, hG⟩)
     replace hS := hS.conv (t := 54) rfl (cond_t (andT1 hp))
     exact L_val hS rfl (Ob_c tRfWR rfl) ⟨(by rw [hp]; rfl), hG⟩
    refine .cons (fun ss hlo hhi vals1 xw hG hV => ?_) ?_
    ·obtain rfl : ss = 3 := Nat.le_antisymm hhi hlo
     rw [← hfe]
     have hS := (hfr vals1).sub (ts := [54, 4]) (S' := [(54, vals1 20), (4, .int .i64 i)]) rfl
     replace hS := hS.conv (t := 54) rfl (show (vals1 20) = cond (!(((r0 != 0) || (decide (h_2 < h))) || (decide (c_2.epoch < c.epoch)))) (.bool (a0_2.1 == 0)) undef from hV 20 (by decide))
     refine L_gw (p := ((!(((r0 != 0) || (decide (h_2 < h))) || (decide (c_2.epoch < c.epoch)))) && (a0_2.1 == 0))) hS rfl rfl rfl (wantB_ct _ _) (fun hp => ?_) (fun hp => ⟨by rw [hp]; rfl, hG⟩)
     replace hS := hS.conv (t := 54) rfl (cond_t (andT1 hp))
     exact L_val hS rfl (Ob_c tRfWR rfl) ⟨(by rw [hp]; rfl), hG⟩
    refine .cons (fun ss hlo hhi vals1 xw hG hV => ?_) ?_
    ·obtain rfl : ss = 3 := Nat.le_antisymm hhi hlo
     rw [← hfe]
     have hS := (hfr vals1).sub (ts := [55, 56, 54]) (S' := [(55, vals1 21), (56, vals1 22), (54, vals1 20)]) rfl
     replace hS := hS.conv (t := 55) rfl (show (vals1 21) = cond ((!(((r0 != 0) || (decide (h_2 < h))) || (decide (c_2.epoch < c.epoch)))) && (a0_2.1 == 0)) (v1_l) undef from hV 21 (by decide))
     replace hS := hS.conv (t := 56) rfl (show (vals1 22) = cond ((!(((r0 != 0) || (decide (h_2 < h))) || (decide (c_2.epoch < c.epoch)))) && (a0_2.1 == 0)) (.int .i64 i) undef from hV 22 (by decide))
     replace hS := hS.conv (t := 54) rfl (show (vals1 20) = cond (!(((r0 != 0) || (decide (h_2 < h))) || (decide (c_2.epoch < c.epoch)))) (.bool (a0_2.1 == 0)) undef from hV 20 (by decide))
     refine L_gw (p := ((!(((r0 != 0) || (decide (h_2 < h))) || (decide (c_2.epoch < c.epoch)))) && (a0_2.1 == 0))) hS rfl rfl rfl (wantB_ct _ _) (fun hp => ?_) (fun hp => ⟨by rw [hp]; rfl, hG⟩)
     replace hS := hS.conv (t := 55) rfl (cond_t hp)
     replace hS := hS.conv (t := 56) rfl (cond_t hp)
     replace hS := hS.conv (t := 54) rfl (cond_t (andT1 hp))
     obtain ⟨I2, hI2, H⟩ := Gx.ex hG
     exact L_val hS rfl (Ob_sidx tRfWR rfl rfl rfl rfl (slPl (H.sl 12 rfl) (hg2 hp)) (hg2 hp)) ⟨(by rw [hp]; rfl), hG⟩
    refine .cons (fun ss hlo hhi vals1 xw hG hV => ?_) ?_
    ·obtain rfl : ss = 3 := Nat.le_antisymm hhi hlo
     rw [← hfe]
     have hS := (hfr vals1).sub (ts := [57, 54]) (S' := [(57, vals1 23), (54, vals1 20)]) rfl
     replace hS := hS.conv (t := 57) rfl (show (vals1 23) = cond ((!(((r0 != 0) || (decide (h_2 < h))) || (decide (c_2.epoch < c.epoch)))) && (a0_2.1 == 0)) (.pointer (some ⟨blkOf v1_l, oofOf v1_l + (i).toNat * 18, none⟩)) undef from hV 23 (by decide))
     replace hS := hS.conv (t := 54) rfl (show (vals1 20) = cond (!(((r0 != 0) || (decide (h_2 < h))) || (decide (c_2.epoch < c.epoch)))) (.bool (a0_2.1 == 0)) undef from hV 20 (by decide))
     refine L_gw (p := ((!(((r0 != 0) || (decide (h_2 < h))) || (decide (c_2.epoch < c.epoch)))) && (a0_2.1 == 0))) hS rfl rfl rfl (wantB_ct _ _) (fun hp => ?_) (fun hp => ⟨by rw [hp]; rfl, hG⟩)
     replace hS := hS.conv (t := 57) rfl (cond_t hp)
     replace hS := hS.conv (t := 54) rfl (cond_t (andT1 hp))
     exact L_val hS rfl (Ob_c tRfWR rfl) ⟨(by rw [hp]; rfl), hG⟩
    refine .cons (fun ss hlo hhi vals1 xw hG hV => ?_) ?_
    ·obtain rfl : ss = 3 := Nat.le_antisymm hhi hlo
     rw [← hfe]
     have hS := (hfr vals1).sub (ts := [58, 54]) (S' := [(58, vals1 24), (54, vals1 20)]) rfl
     replace hS := hS.conv (t := 58) rfl (show (vals1 24) = cond ((!(((r0 != 0) || (decide (h_2 < h))) || (decide (c_2.epoch < c.epoch)))) && (a0_2.1 == 0)) (.pointer (some ⟨blkOf v1_l, oofOf v1_l + (i).toNat * 18, none⟩)) undef from hV 24 (by decide))
     replace hS := hS.conv (t := 54) rfl (show (vals1 20) = cond (!(((r0 != 0) || (decide (h_2 < h))) || (decide (c_2.epoch < c.epoch)))) (.bool (a0_2.1 == 0)) undef from hV 20 (by decide))
     refine L_gw (p := ((!(((r0 != 0) || (decide (h_2 < h))) || (decide (c_2.epoch < c.epoch)))) && (a0_2.1 == 0))) hS rfl rfl rfl (wantB_ct _ _) (fun hp => ?_) (fun hp => ⟨by rw [hp]; rfl, hG⟩)
     replace hS := hS.conv (t := 58) rfl (cond_t hp)
     replace hS := hS.conv (t := 54) rfl (cond_t (andT1 hp))
     obtain ⟨I2, hI2, H⟩ := Gx.ex hG
     exact L_val hS rfl (Ob_load tRfWR rfl rfl rfl ((H.atg 6 rfl (hg2 hp)) 0 _ rfl)) ⟨(by rw [hp]; rfl), hG⟩
    refine .cons (fun ss hlo hhi vals1 xw hG hV => ?_) ?_
    ·obtain rfl : ss = 3 := Nat.le_antisymm hhi hlo
     rw [← hfe]
     have hS := (hfr vals1).sub (ts := [59, 54]) (S' := [(59, vals1 25), (54, vals1 20)]) rfl
     replace hS := hS.conv (t := 59) rfl (show (vals1 25) = cond ((!(((r0 != 0) || (decide (h_2 < h))) || (decide (c_2.epoch < c.epoch)))) && (a0_2.1 == 0)) (.int .i64 ((l.getD (i).toNat default).k)) undef from hV 25 (by decide))
     replace hS := hS.conv (t := 54) rfl (show (vals1 20) = cond (!(((r0 != 0) || (decide (h_2 < h))) || (decide (c_2.epoch < c.epoch)))) (.bool (a0_2.1 == 0)) undef from hV 20 (by decide))
     refine L_gw (p := ((!(((r0 != 0) || (decide (h_2 < h))) || (decide (c_2.epoch < c.epoch)))) && (a0_2.1 == 0))) hS rfl rfl rfl (wantB_ct _ _) (fun hp => ?_) (fun hp => ⟨by rw [hp]; rfl, hG⟩)
     replace hS := hS.conv (t := 59) rfl (cond_t hp)
     replace hS := hS.conv (t := 54) rfl (cond_t (andT1 hp))
     exact L_val hS rfl (Ob_c tRfWR rfl) ⟨(by rw [hp]; rfl), hG⟩
    refine .cons (fun ss hlo hhi vals1 xw hG hV => ?_) ?_
    ·obtain rfl : ss = 3 := Nat.le_antisymm hhi hlo
     rw [← hfe]
     have hS := (hfr vals1).sub (ts := [54, 60, 51]) (S' := [(54, vals1 20), (60, vals1 26), (51, vals1 17)]) rfl
     replace hS := hS.conv (t := 54) rfl (show (vals1 20) = cond (!(((r0 != 0) || (decide (h_2 < h))) || (decide (c_2.epoch < c.epoch)))) (.bool (a0_2.1 == 0)) undef from hV 20 (by decide))
     replace hS := hS.conv (t := 60) rfl (show (vals1 26) = cond ((!(((r0 != 0) || (decide (h_2 < h))) || (decide (c_2.epoch < c.epoch)))) && (a0_2.1 == 0)) (.bool (((l.getD (i).toNat default).k) == 1)) undef from hV 26 (by decide))
     replace hS := hS.conv (t := 51) rfl (show (vals1 17) = .bool (((r0 != 0) || (decide (h_2 < h))) || (decide (c_2.epoch < c.epoch))) from hV 17 (by decide))
     refine L_gw (p := (!(((r0 != 0) || (decide (h_2 < h))) || (decide (c_2.epoch < c.epoch))))) hS rfl rfl rfl (wantB_f _) (fun hp => ?_) (fun hp => ⟨by rw [hp]; rfl, hG⟩)
     replace hS := hS.conv (t := 54) rfl (cond_t hp)
     exact L_val hS rfl (Ob_pick rfl rfl rfl rfl (pick_andp _ _ hp)) ⟨(by rw [hp]; rfl), hG⟩
    refine .cons (fun ss hlo hhi vals1 xw hG hV => ?_) ?_
    ·obtain rfl : ss = 3 := Nat.le_antisymm hhi hlo
     rw [← hfe]
     have hS := (hfr vals1).sub (ts := [61, 51]) (S' := [(61, vals1 27), (51, vals1 17)]) rfl
     replace hS := hS.conv (t := 61) rfl (show (vals1 27) = cond (!(((r0 != 0) || (decide (h_2 < h))) || (decide (c_2.epoch < c.epoch)))) (.bool ((a0_2.1 == 0) && (((l.getD (i).toNat default).k) == 1))) undef from hV 27 (by decide))
     replace hS := hS.conv (t := 51) rfl (show (vals1 17) = .bool (((r0 != 0) || (decide (h_2 < h))) || (decide (c_2.epoch < c.epoch))) from hV 17 (by decide))
     refine L_gw (p := (!(((r0 != 0) || (decide (h_2 < h))) || (decide (c_2.epoch < c.epoch))))) hS rfl rfl rfl (wantB_f _) (fun hp => ?_) (fun hp => ⟨by rw [hp]; rfl, hG⟩)
     replace hS := hS.conv (t := 61) rfl (cond_t hp)
     exact L_val hS rfl (Ob_c tRfWR rfl) ⟨(by rw [hp]; rfl), hG⟩
    refine .cons (fun ss hlo hhi vals1 xw hG hV => ?_) ?_
    ·obtain rfl : ss = 3 := Nat.le_antisymm hhi hlo
     rw [← hfe]
     have hS := (hfr vals1).sub (ts := [62, 3]) (S' := [(62, vals1 28), (3, .pointer (some ⟨g1, 0, none⟩))]) rfl
     replace hS := hS.conv (t := 62) rfl (show (vals1 28) = cond (!(((r0 != 0) || (decide (h_2 < h))) || (decide (c_2.epoch < c.epoch)))) (.bool ((a0_2.1 == 0) && (((l.getD (i).toNat default).k) == 1))) undef from hV 28 (by decide))
     refine L_gw (p := ((!(((r0 != 0) || (decide (h_2 < h))) || (decide (c_2.epoch < c.epoch)))) && ((a0_2.1 == 0) && (((l.getD (i).toNat default).k) == 1)))) hS rfl rfl rfl (wantB_ct _ _) (fun hp => ?_) (fun hp => ⟨by rw [hp]; rfl, hG⟩)
     replace hS := hS.conv (t := 62) rfl (cond_t (andT1 hp))
     exact L_val hS rfl (Ob_c tRfWR rfl) ⟨(by rw [hp]; rfl), hG⟩
    refine .cons (fun ss hlo hhi vals1 xw hG hV => ?_) ?_
    ·obtain rfl : ss = 3 := Nat.le_antisymm hhi hlo
     rw [← hfe]
     have hS := (hfr vals1).sub (ts := [63, 62]) (S' := [(63, vals1 29), (62, vals1 28)]) rfl
     replace hS := hS.conv (t := 63) rfl (show (vals1 29) = cond ((!(((r0 != 0) || (decide (h_2 < h))) || (decide (c_2.epoch < c.epoch)))) && ((a0_2.1 == 0) && (((l.getD (i).toNat default).k) == 1))) (.pointer (some ⟨g1, 0, none⟩)) undef from hV 29 (by decide))
     replace hS := hS.conv (t := 62) rfl (show (vals1 28) = cond (!(((r0 != 0) || (decide (h_2 < h))) || (decide (c_2.epoch < c.epoch)))) (.bool ((a0_2.1 == 0) && (((l.getD (i).toNat default).k) == 1))) undef from hV 28 (by decide))
     refine L_gw (p := ((!(((r0 != 0) || (decide (h_2 < h))) || (decide (c_2.epoch < c.epoch)))) && ((a0_2.1 == 0) && (((l.getD (i).toNat default).k) == 1)))) hS rfl rfl rfl (wantB_ct _ _) (fun hp => ?_) (fun hp => ⟨by rw [hp]; rfl, ?_⟩)
     ·obtain ⟨I2, hI2, H⟩ := Gx.ex hG
      replace hS := hS.conv (t := 63) rfl (cond_t hp)
      refine L_hcall H (js := [(0, false)]) rfl (caps := #[]) hS fn_10_YRfWR rfl rfl rfl rfl rfl (fun D1 hS => have hq := c_rstate_State_Conf (gif_in hx11 hp) hS; hq) fun _ yw D1 hr hF2 => ?_
      obtain ⟨q0_, rfl, I3, K⟩ := hr
      obtain ⟨hK, H2⟩ := hF2 K
      exact ⟨by rw [hp]; rfl, by first | (rw [hp] at H2 ⊢; exact Gx.go hG hI2 hK K.imm H2) | (rw [hp]; exact Gx.go hG hI2 hK K.imm H2) | exact Gx.go hG hI2 hK K.imm H2⟩
     ·obtain rfl := gif_no hx11 hp; (try rw [hp]); obtain ⟨I2, hI2, H⟩ := Gx.ex hG; (try rw [hp] at H); exact Gx.go hG hI2 (Keep.refl _ _) (fun _ h => h) (Hf.sub (Hf.slNil (H.sub [(0, false), (0, true), (1, false), (1, true), (2, true), (3, true), (4, true), (5, true), (6, true), (7, true), (8, true), (9, true), (10, true)] rfl) NEMember) [(1, false), (0, false), (0, true), (1, false), (1, true), (2, true), (3, true), (4, true), (5, true), (6, true), (7, true), (8, true), (9, true), (10, true)] rfl)
    refine .cons (fun ss hlo hhi vals1 xw hG hV => ?_) ?_
    ·obtain rfl : ss = 4 := Nat.le_antisymm hhi hlo
     rw [← hfe]
     have hS := (hfr vals1).sub (ts := [64, 62]) (S' := [(64, vals1 30), (62, vals1 28)]) rfl
     replace hS := hS.conv (t := 64) rfl (show (vals1 30) = cond ((!(((r0 != 0) || (decide (h_2 < h))) || (decide (c_2.epoch < c.epoch)))) && ((a0_2.1 == 0) && (((l.getD (i).toNat default).k) == 1))) (.agg #[.int .i64 c_3.epoch, (aggSl (vals1 30) 1), .int .u64 c_3.floor]) undef from hV 30 (by decide))
     replace hS := hS.conv (t := 62) rfl (show (vals1 28) = cond (!(((r0 != 0) || (decide (h_2 < h))) || (decide (c_2.epoch < c.epoch)))) (.bool ((a0_2.1 == 0) && (((l.getD (i).toNat default).k) == 1))) undef from hV 28 (by decide))
     refine L_gw (p := ((!(((r0 != 0) || (decide (h_2 < h))) || (decide (c_2.epoch < c.epoch)))) && ((a0_2.1 == 0) && (((l.getD (i).toNat default).k) == 1)))) hS rfl rfl rfl (wantB_ct _ _) (fun hp => ?_) (fun hp => ⟨by rw [hp]; rfl, hG⟩)
     replace hS := hS.conv (t := 64) rfl (cond_t hp)
     replace hS := hS.conv (t := 62) rfl (cond_t (andT1 hp))
     exact L_val hS rfl (Ob_field1 tRfWR rfl rfl Try.underlying31 rfl rfl rfl) ⟨(by rw [hp]; rfl), hG⟩
    refine .cons (fun ss hlo hhi vals1 xw hG hV => ?_) ?_
    ·obtain rfl | rfl : ss = 3 ∨ ss = 4 := st1 hlo hhi
     all_goals
     ·rw [← hfe]
      have hS := (hfr vals1).sub (ts := [62, 0]) (S' := [(62, vals1 28), (0, v1_l)]) rfl
      replace hS := hS.conv (t := 62) rfl (show (vals1 28) = cond (!(((r0 != 0) || (decide (h_2 < h))) || (decide (c_2.epoch < c.epoch)))) (.bool ((a0_2.1 == 0) && (((l.getD (i).toNat default).k) == 1))) undef from hV 28 (by decide))
      refine L_gw (p := ((!(((r0 != 0) || (decide (h_2 < h))) || (decide (c_2.epoch < c.epoch)))) && ((a0_2.1 == 0) && (((l.getD (i).toNat default).k) == 1)))) hS rfl rfl rfl (wantB_ct _ _) (fun hp => ?_) (fun hp => ⟨by rw [hp]; rfl, hG⟩)
      replace hS := hS.conv (t := 62) rfl (cond_t (andT1 hp))
      exact L_val hS rfl (Ob_c tRfWR rfl) ⟨(by rw [hp]; rfl), hG⟩
    refine .cons (fun ss hlo hhi vals1 xw hG hV => ?_) ?_
    ·obtain rfl | rfl : ss = 3 ∨ ss = 4 := st1 hlo hhi
     all_goals
     ·rw [← hfe]
      have hS := (hfr vals1).sub (ts := [62, 4]) (S' := [(62, vals1 28), (4, .int .i64 i)]) rfl
      replace hS := hS.conv (t := 62) rfl (show (vals1 28) = cond (!(((r0 != 0) || (decide (h_2 < h))) || (decide (c_2.epoch < c.epoch)))) (.bool ((a0_2.1 == 0) && (((l.getD (i).toNat default).k) == 1))) undef from hV 28 (by decide))
      refine L_gw (p := ((!(((r0 != 0) || (decide (h_2 < h))) || (decide (c_2.epoch < c.epoch)))) && ((a0_2.1 == 0) && (((l.getD (i).toNat default).k) == 1)))) hS rfl rfl rfl (wantB_ct _ _) (fun hp => ?_) (fun hp => ⟨by rw [hp]; rfl, hG⟩)
      replace hS := hS.conv (t := 62) rfl (cond_t (andT1 hp))
      exact L_val hS rfl (Ob_c tRfWR rfl) ⟨(by rw [hp]; rfl), hG⟩
    refine .cons (fun ss hlo hhi vals1 xw hG hV => ?_) ?_
    ·obtain rfl | rfl : ss = 3 ∨ ss = 4 := st1 hlo hhi
     ·rw [← hfe]
      have hS := (hfr vals1).sub (ts := [66, 67, 62]) (S' := [(66, vals1 32), (67, vals1 33), (62, vals1 28)]) rfl
      replace hS := hS.conv (t := 66) rfl (show (vals1 32) = cond ((!(((r0 != 0) || (decide (h_2 < h))) || (decide (c_2.epoch < c.epoch)))) && ((a0_2.1 == 0) && (((l.getD (i).toNat default).k) == 1))) (v1_l) undef from hV 32 (by decide))
      replace hS := hS.conv (t := 67) rfl (show (vals1 33) = cond ((!(((r0 != 0) || (decide (h_2 < h))) || (decide (c_2.epoch < c.epoch)))) && ((a0_2.1 == 0) && (((l.getD (i).toNat default).k) == 1))) (.int .i64 i) undef from hV 33 (by decide))
      replace hS := hS.conv (t := 62) rfl (show (vals1 28) = cond (!(((r0 != 0) || (decide (h_2 < h))) || (decide (c_2.epoch < c.epoch)))) (.bool ((a0_2.1 == 0) && (((l.getD (i).toNat default).k) == 1))) undef from hV 28 (by decide))
      refine L_gw (p := ((!(((r0 != 0) || (decide (h_2 < h))) || (decide (c_2.epoch < c.epoch)))) && ((a0_2.1 == 0) && (((l.getD (i).toNat default).k) == 1)))) hS rfl rfl rfl (wantB_ct _ _) (fun hp => ?_) (fun hp => ⟨by rw [hp]; rfl, hG⟩)
      replace hS := hS.conv (t := 66) rfl (cond_t hp)
      replace hS := hS.conv (t := 67) rfl (cond_t hp)
      replace hS := hS.conv (t := 62) rfl (cond_t (andT1 hp))
      obtain ⟨I2, hI2, H⟩ := Gx.ex hG
      exact L_val hS rfl (Ob_sidx tRfWR rfl rfl rfl rfl (slPl (H.sl 12 rfl) (hg3 hp)) (hg3 hp)) ⟨(by rw [hp]; rfl), hG⟩
     ·rw [← hfe]
      have hS := (hfr vals1).sub (ts := [66, 67, 62]) (S' := [(66, vals1 32), (67, vals1 33), (62, vals1 28)]) rfl
      replace hS := hS.conv (t := 66) rfl (show (vals1 32) = cond ((!(((r0 != 0) || (decide (h_2 < h))) || (decide (c_2.epoch < c.epoch)))) && ((a0_2.1 == 0) && (((l.getD (i).toNat default).k) == 1))) (v1_l) undef from hV 32 (by decide))
      replace hS := hS.conv (t := 67) rfl (show (vals1 33) = cond ((!(((r0 != 0) || (decide (h_2 < h))) || (decide (c_2.epoch < c.epoch)))) && ((a0_2.1 == 0) && (((l.getD (i).toNat default).k) == 1))) (.int .i64 i) undef from hV 33 (by decide))
      replace hS := hS.conv (t := 62) rfl (show (vals1 28) = cond (!(((r0 != 0) || (decide (h_2 < h))) || (decide (c_2.epoch < c.epoch)))) (.bool ((a0_2.1 == 0) && (((l.getD (i).toNat default).k) == 1))) undef from hV 28 (by decide))
      refine L_gw (p := ((!(((r0 != 0) || (decide (h_2 < h))) || (decide (c_2.epoch < c.epoch)))) && ((a0_2.1 == 0) && (((l.getD (i).toNat default).k) == 1)))) hS rfl rfl rfl (wantB_ct _ _) (fun hp => ?_) (fun hp => ⟨by rw [hp]; rfl, hG⟩)
      replace hS := hS.conv (t := 66) rfl (cond_t hp)
      replace hS := hS.conv (t := 67) rfl (cond_t hp)
      replace hS := hS.conv (t := 62) rfl (cond_t (andT1 hp))
      obtain ⟨I2, hI2, H⟩ := Gx.ex hG
      exact L_val hS rfl (Ob_sidx tRfWR rfl rfl rfl rfl (slPl (H.sl 13 rfl) (hg3 hp)) (hg3 hp)) ⟨(by rw [hp]; rfl), hG⟩
    refine .cons (fun ss hlo hhi vals1 xw hG hV => ?_) ?_
    ·obtain rfl | rfl : ss = 3 ∨ ss = 4 := st1 hlo hhi
     all_goals
     ·rw [← hfe]
      have hS := (hfr vals1).sub (ts := [68, 62]) (S' := [(68, vals1 34), (62, vals1 28)]) rfl
      replace hS := hS.conv (t := 68) rfl (show (vals1 34) = cond ((!(((r0 != 0) || (decide (h_2 < h))) || (decide (c_2.epoch < c.epoch)))) && ((a0_2.1 == 0) && (((l.getD (i).toNat default).k) == 1))) (.pointer (some ⟨blkOf v1_l, oofOf v1_l + (i).toNat * 18, none⟩)) undef from hV 34 (by decide))
      replace hS := hS.conv (t := 62) rfl (show (vals1 28) = cond (!(((r0 != 0) || (decide (h_2 < h))) || (decide (c_2.epoch < c.epoch)))) (.bool ((a0_2.1 == 0) && (((l.getD (i).toNat default).k) == 1))) undef from hV 28 (by decide))
      refine L_gw (p := ((!(((r0 != 0) || (decide (h_2 < h))) || (decide (c_2.epoch < c.epoch)))) && ((a0_2.1 == 0) && (((l.getD (i).toNat default).k) == 1)))) hS rfl rfl rfl (wantB_ct _ _) (fun hp => ?_) (fun hp => ⟨by rw [hp]; rfl, hG⟩)
      replace hS := hS.conv (t := 68) rfl (cond_t hp)
      replace hS := hS.conv (t := 62) rfl (cond_t (andT1 hp))
      exact L_val hS rfl (Ob_c tRfWR rfl) ⟨(by rw [hp]; rfl), hG⟩
    refine .cons (fun ss hlo hhi vals1 xw hG hV => ?_) ?_
    ·obtain rfl | rfl : ss = 3 ∨ ss = 4 := st1 hlo hhi
     all_goals
     ·rw [← hfe]
      have hS := (hfr vals1).sub (ts := [69, 62]) (S' := [(69, vals1 35), (62, vals1 28)]) rfl
      replace hS := hS.conv (t := 69) rfl (show (vals1 35) = cond ((!(((r0 != 0) || (decide (h_2 < h))) || (decide (c_2.epoch < c.epoch)))) && ((a0_2.1 == 0) && (((l.getD (i).toNat default).k) == 1))) (.pointer (some ⟨blkOf v1_l, oofOf v1_l + (i).toNat * 18 + 3, none⟩)) undef from hV 35 (by decide))
      replace hS := hS.conv (t := 62) rfl (show (vals1 28) = cond (!(((r0 != 0) || (decide (h_2 < h))) || (decide (c_2.epoch < c.epoch)))) (.bool ((a0_2.1 == 0) && (((l.getD (i).toNat default).k) == 1))) undef from hV 28 (by decide))
      refine L_gw (p := ((!(((r0 != 0) || (decide (h_2 < h))) || (decide (c_2.epoch < c.epoch)))) && ((a0_2.1 == 0) && (((l.getD (i).toNat default).k) == 1)))) hS rfl rfl rfl (wantB_ct _ _) (fun hp => ?_) (fun hp => ⟨by rw [hp]; rfl, hG⟩)
      replace hS := hS.conv (t := 69) rfl (cond_t hp)
      replace hS := hS.conv (t := 62) rfl (cond_t (andT1 hp))
      exact L_val hS rfl (Ob_c tRfWR rfl) ⟨(by rw [hp]; rfl), hG⟩
    refine .cons (fun ss hlo hhi vals1 xw hG hV => ?_) ?_
    ·obtain rfl | rfl : ss = 3 ∨ ss = 4 := st1 hlo hhi
     ·rw [← hfe]
      have hS := (hfr vals1).sub (ts := [70, 62]) (S' := [(70, vals1 36), (62, vals1 28)]) rfl
      replace hS := hS.conv (t := 70) rfl (show (vals1 36) = cond ((!(((r0 != 0) || (decide (h_2 < h))) || (decide (c_2.epoch < c.epoch)))) && ((a0_2.1 == 0) && (((l.getD (i).toNat default).k) == 1))) (.pointer (some ⟨blkOf v1_l, oofOf v1_l + (i).toNat * 18 + 3, none⟩)) undef from hV 36 (by decide))
      replace hS := hS.conv (t := 62) rfl (show (vals1 28) = cond (!(((r0 != 0) || (decide (h_2 < h))) || (decide (c_2.epoch < c.epoch)))) (.bool ((a0_2.1 == 0) && (((l.getD (i).toNat default).k) == 1))) undef from hV 28 (by decide))
      refine L_gw (p := ((!(((r0 != 0) || (decide (h_2 < h))) || (decide (c_2.epoch < c.epoch)))) && ((a0_2.1 == 0) && (((l.getD (i).toNat default).k) == 1)))) hS rfl rfl rfl (wantB_ct _ _) (fun hp => ?_) (fun hp => ⟨by rw [hp]; rfl, hG⟩)
      replace hS := hS.conv (t := 70) rfl (cond_t hp)
      replace hS := hS.conv (t := 62) rfl (cond_t (andT1 hp))
      obtain ⟨I2, hI2, H⟩ := Gx.ex hG
      exact L_val hS rfl (Ob_load tRfWR rfl rfl rfl ((H.atg 6 rfl (hg3 hp)) 3 _ rfl)) ⟨(by rw [hp]; rfl), hG⟩
     ·rw [← hfe]
      have hS := (hfr vals1).sub (ts := [70, 62]) (S' := [(70, vals1 36), (62, vals1 28)]) rfl
      replace hS := hS.conv (t := 70) rfl (show (vals1 36) = cond ((!(((r0 != 0) || (decide (h_2 < h))) || (decide (c_2.epoch < c.epoch)))) && ((a0_2.1 == 0) && (((l.getD (i).toNat default).k) == 1))) (.pointer (some ⟨blkOf v1_l, oofOf v1_l + (i).toNat * 18 + 3, none⟩)) undef from hV 36 (by decide))
      replace hS := hS.conv (t := 62) rfl (show (vals1 28) = cond (!(((r0 != 0) || (decide (h_2 < h))) || (decide (c_2.epoch < c.epoch)))) (.bool ((a0_2.1 == 0) && (((l.getD (i).toNat default).k) == 1))) undef from hV 28 (by decide))
      refine L_gw (p := ((!(((r0 != 0) || (decide (h_2 < h))) || (decide (c_2.epoch < c.epoch)))) && ((a0_2.1 == 0) && (((l.getD (i).toNat default).k) == 1)))) hS rfl rfl rfl (wantB_ct _ _) (fun hp => ?_) (fun hp => ⟨by rw [hp]; rfl, hG⟩)
      replace hS := hS.conv (t := 70) rfl (cond_t hp)
      replace hS := hS.conv (t := 62) rfl (cond_t (andT1 hp))
      obtain ⟨I2, hI2, H⟩ := Gx.ex hG
      exact L_val hS rfl (Ob_load tRfWR rfl rfl rfl ((H.atg 7 rfl (hg3 hp)) 3 _ rfl)) ⟨(by rw [hp]; rfl), hG⟩
    refine .cons (fun ss hlo hhi vals1 xw hG hV => ?_) ?_
    ·obtain rfl : ss = 4 := Nat.le_antisymm hhi hlo
     rw [← hfe]
     have hS := (hfr vals1).sub (ts := [65, 71, 62]) (S' := [(65, vals1 31), (71, vals1 37), (62, vals1 28)]) rfl
     replace hS := hS.conv (t := 65) rfl (show (vals1 31) = cond ((!(((r0 != 0) || (decide (h_2 < h))) || (decide (c_2.epoch < c.epoch)))) && ((a0_2.1 == 0) && (((l.getD (i).toNat default).k) == 1))) (.int .i64 c_3.epoch) undef from hV 31 (by decide))
     replace hS := hS.conv (t := 71) rfl (show (vals1 37) = cond ((!(((r0 != 0) || (decide (h_2 < h))) || (decide (c_2.epoch < c.epoch)))) && ((a0_2.1 == 0) && (((l.getD (i).toNat default).k) == 1))) (.int .i64 (((l.getD (i).toNat default).conf).epoch)) undef from hV 37 (by decide))
     replace hS := hS.conv (t := 62) rfl (show (vals1 28) = cond (!(((r0 != 0) || (decide (h_2 < h))) || (decide (c_2.epoch < c.epoch)))) (.bool ((a0_2.1 == 0) && (((l.getD (i).toNat default).k) == 1))) undef from hV 28 (by decide))
     refine L_gw (p := ((!(((r0 != 0) || (decide (h_2 < h))) || (decide (c_2.epoch < c.epoch)))) && ((a0_2.1 == 0) && (((l.getD (i).toNat default).k) == 1)))) hS rfl rfl rfl (wantB_ct _ _) (fun hp => ?_) (fun hp => ⟨by rw [hp]; rfl, hG⟩)
     replace hS := hS.conv (t := 65) rfl (cond_t hp)
     replace hS := hS.conv (t := 71) rfl (cond_t hp)
     replace hS := hS.conv (t := 62) rfl (cond_t (andT1 hp))
     exact L_val hS rfl (Ob_c tRfWR rfl) ⟨(by rw [hp]; rfl), hG⟩
    refine .cons (fun ss hlo hhi vals1 xw hG hV => ?_) ?_
    ·obtain rfl : ss = 4 := Nat.le_antisymm hhi hlo
     rw [← hfe]
     have hS := (hfr vals1).sub (ts := [62, 72, 51]) (S' := [(62, vals1 28), (72, vals1 38), (51, vals1 17)]) rfl
     replace hS := hS.conv (t := 62) rfl (show (vals1 28) = cond (!(((r0 != 0) || (decide (h_2 < h))) || (decide (c_2.epoch < c.epoch)))) (.bool ((a0_2.1 == 0) && (((l.getD (i).toNat default).k) == 1))) undef from hV 28 (by decide))
     replace hS := hS.conv (t := 72) rfl (show (vals1 38) = cond ((!(((r0 != 0) || (decide (h_2 < h))) || (decide (c_2.epoch < c.epoch)))) && ((a0_2.1 == 0) && (((l.getD (i).toNat default).k) == 1))) (.bool (c_3.epoch != (((l.getD (i).toNat default).conf).epoch))) undef from hV 38 (by decide))
     replace hS := hS.conv (t := 51) rfl (show (vals1 17) = .bool (((r0 != 0) || (decide (h_2 < h))) || (decide (c_2.epoch < c.epoch))) from hV 17 (by decide))
     refine L_gw (p := (!(((r0 != 0) || (decide (h_2 < h))) || (decide (c_2.epoch < c.epoch))))) hS rfl rfl rfl (wantB_f _) (fun hp => ?_) (fun hp => ⟨by rw [hp]; rfl, hG⟩)
     replace hS := hS.conv (t := 62) rfl (cond_t hp)
     exact L_val hS rfl (Ob_pick rfl rfl rfl rfl (pick_andp _ _ hp)) ⟨(by rw [hp]; rfl), hG⟩
    refine .cons (fun ss hlo hhi vals1 xw hG hV => ?_) ?_
    ·obtain rfl : ss = 4 := Nat.le_antisymm hhi hlo
     rw [← hfe]
     have hS := (hfr vals1).sub (ts := [51, 73]) (S' := [(51, vals1 17), (73, vals1 39)]) rfl
     replace hS := hS.conv (t := 51) rfl (show (vals1 17) = .bool (((r0 != 0) || (decide (h_2 < h))) || (decide (c_2.epoch < c.epoch))) from hV 17 (by decide))
     replace hS := hS.conv (t := 73) rfl (show (vals1 39) = cond (!(((r0 != 0) || (decide (h_2 < h))) || (decide (c_2.epoch < c.epoch)))) (.bool (((a0_2.1 == 0) && (((l.getD (i).toNat default).k) == 1)) && (c_3.epoch != (((l.getD (i).toNat default).conf).epoch)))) undef from hV 39 (by decide))
     exact L_val hS rfl (Ob_pick rfl rfl rfl rfl (pick_or _ _)) ⟨rfl, hG⟩
    exact .nil
   ·intro vals1 a w8 Z hG hV
    replace Z := Z.sub (ts := [0, 3, 4, 74]) (S' := [(0, v1_l), (3, .pointer (some ⟨g1, 0, none⟩)), (4, .int .i64 i), (74, vals1 40)]) rfl
    replace Z := Z.conv (t := 74) rfl (show (vals1 40) = .bool ((((r0 != 0) || (decide (h_2 < h))) || (decide (c_2.epoch < c.epoch))) || (((a0_2.1 == 0) && (((l.getD (i).toNat default).k) == 1)) && (c_3.epoch != (((l.getD (i).toNat default).conf).epoch)))) from hV 40 (by decide))
    obtain ⟨I8, _, H⟩ := Gx.ex hG
    clear hG hV
    replace Z := Z.sub (ts := [0, 3, 4, 74]) rfl
    replace H : Hf I D w I8 w8 [OErstate_State g1 a0_3.2, SlC NEMember (aggSl (vals1 30) 1) c_3.members, SlC NEMember (aggSl (vals1 12) 1) c_2.members, OwC NEEntry 40 (vals1 1) a0_3.1, SlC NEOp u6 ((((l.getD (i).toNat default).entry).batch).ops), SlC Ni64 u5 ((l.getD (i).toNat default).legit), SlC NEMember u4 (((l.getD (i).toNat default).conf).members), AtG ((0 : Int) ≤ i ∧ i < (l.length : Int)) (blkOf v1_l) (oofOf v1_l + (i).toNat * 18) [.int .i64 ((l.getD (i).toNat default).k), .int .i64 ((l.getD (i).toNat default).n), .int .u64 ((l.getD (i).toNat default).at_), .int .i64 (((l.getD (i).toNat default).conf).epoch), u4, .int .u64 (((l.getD (i).toNat default).conf).floor), u5, .int .i64 ((((l.getD (i).toNat default).entry).batch).client), .int .i64 ((((l.getD (i).toNat default).entry).batch).req), u6, .int .u64 (((l.getD (i).toNat default).entry).ts), .int .i64 (((l.getD (i).toNat default).pin).id), .int .u64 (((l.getD (i).toNat default).pin).at_), .int .i64 (((l.getD (i).toNat default).pin).left), .int .i64 (((l.getD (i).toNat default).said).client), .int .i64 (((l.getD (i).toNat default).said).req), .int .i64 (((l.getD (i).toNat default).said).e), .int .i64 (((l.getD (i).toNat default).said).pin)], SlC NEOp u3 ((((l.getD (i).toNat default).entry).batch).ops), SlC Ni64 u2 ((l.getD (i).toNat default).legit), SlC NEMember u1 (((l.getD (i).toNat default).conf).members), AtG ((0 : Int) ≤ i ∧ i < (l.length : Int)) (blkOf v1_l) (oofOf v1_l + (i).toNat * 18) [.int .i64 ((l.getD (i).toNat default).k), .int .i64 ((l.getD (i).toNat default).n), .int .u64 ((l.getD (i).toNat default).at_), .int .i64 (((l.getD (i).toNat default).conf).epoch), u1, .int .u64 (((l.getD (i).toNat default).conf).floor), u2, .int .i64 ((((l.getD (i).toNat default).entry).batch).client), .int .i64 ((((l.getD (i).toNat default).entry).batch).req), u3, .int .u64 (((l.getD (i).toNat default).entry).ts), .int .i64 (((l.getD (i).toNat default).pin).id), .int .u64 (((l.getD (i).toNat default).pin).at_), .int .i64 (((l.getD (i).toNat default).pin).left), .int .i64 (((l.getD (i).toNat default).said).client), .int .i64 (((l.getD (i).toNat default).said).req), .int .i64 (((l.getD (i).toNat default).said).e), .int .i64 (((l.getD (i).toNat default).said).pin)], SlC NEMember q1 c.members, SlC NENote v1_l l] := H
    refine p_then ?_
    refine f_cond Z rfl (fun hc3 => ?_) (fun hc3 => ?_)
    ·replace hF := ite_t hc3 hF
     refine wp_seq (f_region Z ?_); clear Z; intro Z
     refine s_runk tRfWR Z 1 rfl rfl ?_; clear Z a; intro a Z
     refine s_end Z [2] rfl ?_; clear Z; intro Z
     refine p_then (wp_ret ?_)
     refine p_blk_r ?_
     refine p_then_r ?_
     refine p_then_r ?_
     refine p_blk_r ?_
     refine p_then_r ?_
     obtain rfl := some_in hF
     exact f_ret Z (run_results1 rfl Z rfl) ⟨rfl, I8, (H.sub [] rfl).eq rfl⟩
    ·replace hF := ite_f hc3 hF
     refine wp_skip ?_
     refine p_blk ?_
     refine p_then ?_
     obtain ⟨hg4, hF⟩ := chk_in hF
     refine f_region Z ?_; clear Z; intro Z
     refine s_runk tRfWR Z 1 rfl rfl ?_; clear Z a; intro a Z
     refine s_ob Z (v := .int .i64 (i + 1)) rfl rfl (by decide) rfl (Ob_add rfl rfl rfl (wrI hg4)) ?_; clear Z a; intro a Z
     refine s_runk tRfWR Z 1 rfl rfl ?_; clear Z a; intro a Z
     refine s_end Z [0, 3, 4] rfl ?_; clear Z; intro Z
     refine p_then ?_
     exact ⟨(i + 1, a0_3.2), ⟨Z.sub (ts := [0, 3, 4]) rfl, ⟨I8, (H.sub [(0, false), (12, true)] rfl).eq rfl⟩⟩, hF⟩
  ·replace hF := ite_f hc2 hF
   refine wp_exit ?_
   refine p_then_x ?_
   refine p_then_x ?_
   refine f_exit_here ?_
   refine p_then (wp_seq ?_)
   obtain ⟨a0_4, hx12, hF⟩ := bnd_in hF
   refine f_region Z ?_; clear Z; intro Z
   refine h_call Z H (js := []) rfl (caps := #[]) fn_7_YRfWR rfl rfl rfl rfl rfl (by decide) rfl rfl (fun D1 hS => have hq := c_law30_awake hx12 hS; hq) ?_; clear Z a; intro vv a w9 D2 hr hF2 Z
   obtain ⟨rfl, I9, K⟩ := hr
   have H : Hf I D w I9 w9 [OErstate_State g1 s0, SlC NENote v1_l l] := hF2 K
   clear hF2 K
   refine s_runk tRfWR Z 1 rfl rfl ?_; clear Z a; intro a Z
   refine s_end Z [2] rfl ?_; clear Z; intro Z
   refine p_then (wp_ret ?_)
   obtain rfl := some_in hF
   exact f_ret Z (run_results1 rfl Z rfl) ⟨rfl, I9, (H.sub [] rfl).eq rfl⟩

theorem awakeR : F_law30_awake = some true := by kernel_rfl

end Go.Proofs.Ytglfajjcgbfehaa
