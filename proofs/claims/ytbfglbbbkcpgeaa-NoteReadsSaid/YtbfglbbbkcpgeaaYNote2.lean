/- Notes: their own parts; the laws. -/
import Derived.Test.YtbfglbbbkcpgeaaYNote1
namespace Go.Proofs.Ytbfglbbbkcpgeaa
open Go.RowKit
def tN2L : TabL := ⟨[(26625, 1), (30722, 2), (32768, 0), (39936, 0), (39937, 1), (39938, 2), (39939, 3), (39940, 6), (39941, 7), (39942, 11), (39943, 14)], [9], [4], [(24, (115, 2)), (27, (3, 1)), (28, (150, 3))], [(3, (1, false)), (23, (1, false)), (24, (1, false)), (26, (3, true)), (27, (1, false)), (28, (1, false)), (32, (4, true)), (34, (3, true)), (37, (4, true)), (39, (18, true))]⟩

def tN2 : Tab Try.prog := ⟨tN2L, by kernel_rfl⟩

theorem fn_6_YNote2 : IsFn Try.prog 6 := ⟨_, Try.func6, by kernel_rfl, by kernel_rfl⟩

theorem fn_7_YNote2 : IsFn Try.prog 7 := ⟨_, Try.func7, by kernel_rfl, by kernel_rfl⟩

theorem fn_8_YNote2 : IsFn Try.prog 8 := ⟨_, Try.func8, by kernel_rfl, by kernel_rfl⟩

theorem fn_9_YNote2 : IsFn Try.prog 9 := ⟨_, Try.func9, by kernel_rfl, by kernel_rfl⟩

theorem fn_11_YNote2 : IsFn Try.prog 11 := ⟨_, Try.func11, by kernel_rfl, by kernel_rfl⟩

theorem fn_27_YNote2 : IsFn Try.prog 27 := ⟨_, Try.func27, by kernel_rfl, by kernel_rfl⟩

theorem fn_28_YNote2 : IsFn Try.prog 28 := ⟨_, Try.func28, by kernel_rfl, by kernel_rfl⟩

theorem fn_29_YNote2 : IsFn Try.prog 29 := ⟨_, Try.func29, by kernel_rfl, by kernel_rfl⟩

theorem eql_EPin (x y : EPin) (w : World) : (binOp .eql 34 (.agg (cEPin x).toArray) (.agg (cEPin y).toArray)).run Try.prog w = .ok (.bool (eqEPin x y)) w := by
 have h1 := run_equalIn_struct (P := Try.prog) w 9999 34 (cEPin x).toArray (cEPin y).toArray (by rw [fieldsOf_of Try.underlying34]; exact Try.underlying34) (by kernel_rfl)
 rw [run_eql_struct, h1, fieldsOf_of Try.underlying34]
 simp [Op.eqFields, part, isAgg, cEPin, beqS, eqEPin, seqB_eq, run_underlying Try.underlying3, run_equalIn_int w 9998 3 _ _ _ _ Try.underlying3, run_underlying Try.underlying23, run_equalIn_int w 9998 23 _ _ _ _ Try.underlying23]
 try ((repeat' split) <;> simp_all)

theorem eqg_EPin (op : BinOp) (x y : Operand) (a b : Array Value) (w : World) : (eqGuard op 34 x y (.agg a) (.agg b)).run Try.prog w = .ok () w := run_eqGuard_agg (by kernel_rfl) op x y a b w

theorem eql_EAnswer (x y : EAnswer) (w : World) : (binOp .eql 37 (.agg (cEAnswer x).toArray) (.agg (cEAnswer y).toArray)).run Try.prog w = .ok (.bool (eqEAnswer x y)) w := by
 have h1 := run_equalIn_struct (P := Try.prog) w 9999 37 (cEAnswer x).toArray (cEAnswer y).toArray (by rw [fieldsOf_of Try.underlying37]; exact Try.underlying37) (by kernel_rfl)
 rw [run_eql_struct, h1, fieldsOf_of Try.underlying37]
 simp [Op.eqFields, part, isAgg, cEAnswer, beqS, eqEAnswer, seqB_eq, run_underlying Try.underlying3, run_equalIn_int w 9998 3 _ _ _ _ Try.underlying3, run_underlying Try.underlying35, run_equalIn_int w 9998 35 _ _ _ _ Try.underlying35]
 try ((repeat' split) <;> simp_all)

theorem eqg_EAnswer (op : BinOp) (x y : Operand) (a b : Array Value) (w : World) : (eqGuard op 37 x y (.agg a) (.agg b)).run Try.prog w = .ok () w := run_eqGuard_agg (by kernel_rfl) op x y a b w

def F_ref10_SameInts_l1 (a0 : List Int) (b : List Int) (rc : Int → Option Bool) (sg : Int) : Option Bool := match sg with | i => if ((decide (i < (a0.length : Int))) && (decide (i < (b.length : Int)))) = true then (chk ((0 : Int) ≤ i ∧ i < (a0.length : Int)) (chk ((0 : Int) ≤ i ∧ i < (b.length : Int)) (if ((a0.getD (i).toNat default) != (b.getD (i).toNat default)) = true then (some false) else (chk (inI (i + 1)) (rc (i + 1)))))) else (some true)

def F_ref10_SameInts (a0 : List Int) (b : List Int) : Option Bool := if ((a0.length : Int) != (b.length : Int)) = true then (some false) else (iter (F_ref10_SameInts_l1 a0 b) FU 0)

set_option maxHeartbeats 1000000 in
theorem c_ref10_SameInts {I D : Dm} {a0 : List Int} {v1_a0 : Value} {b : List Int} {v2_b : Value} {w : World} {rr : Bool} (hF : F_ref10_SameInts a0 b = some rr) (H : St I D w [SlC Ni64 v1_a0 a0, SlC Ni64 v2_b b]) :
  Calls Try.prog 28 #[v1_a0, v2_b] w (Ret fun vv w' => vv = .bool rr ∧ ∃ I', Hf I D w I' w' []) := by
 replace H := H.hf
 unfold F_ref10_SameInts at hF
 refine f_enter 32 Try.func28 rfl rfl (Nat.le_of_ble_eq_true rfl) fun a Z => ?_
 replace Z := Z.sub (ts := [0, 1]) rfl
 refine wp_seq (f_region Z ?_); clear Z; intro Z
 refine s_runk tN2 Z 1 rfl rfl ?_; clear Z a; intro a Z
 refine s_end Z [0, 1, 4] rfl ?_; clear Z; intro Z
 refine p_then (wp_seq ?_)
 refine wp_seq (f_region Z ?_); clear Z; intro Z
 refine s_runk tN2 Z 1 rfl rfl ?_; clear Z a; intro a Z
 refine s_ob Z (v := .int .i64 (a0.length : Int)) rfl rfl (by decide) rfl (Ob_slen tN2 rfl rfl rfl (H.slshape 0 rfl)) ?_; clear Z a; intro a Z
 refine s_runk tN2 Z 1 rfl rfl ?_; clear Z a; intro a Z
 refine s_ob Z (v := .int .i64 (b.length : Int)) rfl rfl (by decide) rfl (Ob_slen tN2 rfl rfl rfl (H.slshape 1 rfl)) ?_; clear Z a; intro a Z
 refine s_runk tN2 Z 1 rfl rfl ?_; clear Z a; intro a Z
 refine s_end Z [0, 1, 4, 10] rfl ?_; clear Z; intro Z
 refine p_then ?_
 refine f_cond Z rfl (fun hc1 => ?_) (fun hc1 => ?_)
 ·replace hF := ite_t hc1 hF
  refine wp_seq (f_region Z ?_); clear Z; intro Z
  refine s_runk tN2 Z 1 rfl rfl ?_; clear Z a; intro a Z
  refine s_end Z [0, 1, 4] rfl ?_; clear Z; intro Z
  refine p_then (wp_ret ?_)
  refine p_then_r ?_
  obtain rfl := some_in hF
  exact f_ret Z (run_results1 rfl Z rfl) ⟨rfl, I, (H.sub [] rfl).eq rfl⟩
 ·replace hF := ite_f hc1 hF
  refine wp_skip ?_
  refine p_then (wp_seq ?_)
  refine wp_seq (f_region Z ?_); clear Z; intro Z
  refine s_runk tN2 Z 1 rfl rfl ?_; clear Z a; intro a Z
  refine s_end Z [0, 1, 4, 5] rfl ?_; clear Z; intro Z
  refine p_then (wp_block ?_)
  refine f_iter hF (fun sg a' w' => match sg with | i => Sl 32 [(0, v1_a0), (1, v2_b), (4, .bool false), (5, .int .i64 i)] a' ∧ ∃ I2, Hf I D w I2 w' [SlC Ni64 v1_a0 a0, SlC Ni64 v2_b b]) ⟨Z.sub (ts := [0, 1, 4, 5]) rfl, ⟨I, (H.sub [(0, true), (1, true)] rfl).eq rfl⟩⟩ ?_
  clear Z H hF a
  rintro rc i a w1 ⟨Z, I1, H⟩ hF
  unfold F_ref10_SameInts_l1 at hF
  try dsimp only at hF
  refine wp_seq ?_
  refine wp_seq (f_region Z ?_); clear Z; intro Z
  refine s_runk tN2 Z 2 rfl rfl ?_; clear Z a; intro a Z
  refine s_ob Z (v := .int .i64 (a0.length : Int)) rfl rfl (by decide) rfl (Ob_slen tN2 rfl rfl rfl (H.slshape 0 rfl)) ?_; clear Z a; intro a Z
  refine s_runk tN2 Z 2 rfl rfl ?_; clear Z a; intro a Z
  refine g_ob Z (p := (decide (i < (a0.length : Int)))) (v := .int .i64 i) (S' := [(5, .int .i64 i)]) rfl rfl rfl (wantB_t _) rfl (by decide) (fun hp hS => hS.sub (ts := [5]) rfl) (fun hp => Ob_c tN2 rfl) ?_; clear Z a; intro a Z
  refine g_ob Z (p := (decide (i < (a0.length : Int)))) (v := v2_b) (S' := [(1, v2_b)]) rfl rfl rfl (wantB_t _) rfl (by decide) (fun hp hS => hS.sub (ts := [1]) rfl) (fun hp => Ob_c tN2 rfl) ?_; clear Z a; intro a Z
  refine g_ob Z (p := (decide (i < (a0.length : Int)))) (v := .int .i64 (b.length : Int)) (S' := [(17, v2_b)]) rfl rfl rfl (wantB_t _) rfl (by decide) (fun hp hS => (hS.conv (t := 17) rfl (cond_t hp)).sub (ts := [17]) rfl) (fun hp => Ob_slen tN2 rfl rfl rfl (H.slshape 1 rfl)) ?_; clear Z a; intro a Z
  refine g_ob Z (p := (decide (i < (a0.length : Int)))) (v := .bool (decide (i < (b.length : Int)))) (S' := [(16, .int .i64 i), (18, .int .i64 (b.length : Int))]) rfl rfl rfl (wantB_t _) rfl (by decide) (fun hp hS => ((hS.conv (t := 16) rfl (cond_t hp)).conv (t := 18) rfl (cond_t hp)).sub (ts := [16, 18]) rfl) (fun hp => Ob_c tN2 rfl) ?_; clear Z a; intro a Z
  refine s_ob Z (v := .bool ((decide (i < (a0.length : Int))) && (decide (i < (b.length : Int))))) rfl rfl (by decide) rfl (Ob_pick rfl rfl rfl rfl (pick_and _ _)) ?_; clear Z a; intro a Z
  refine s_end Z [0, 1, 4, 5, 11, 12, 13, 14, 15, 20] rfl ?_; clear Z; intro Z
  refine p_then ?_
  refine f_cond Z rfl (fun hc2 => ?_) (fun hc2 => ?_)
  ·replace hF := ite_t hc2 hF
   refine wp_skip ?_
   refine p_then (wp_seq ?_)
   refine wp_block ?_
   refine wp_seq ?_
   obtain ⟨hg1, hF⟩ := chk_in hF
   obtain ⟨hg2, hF⟩ := chk_in hF
   refine f_quietd (by kernel_rfl) (by kernel_rfl) Z ?_; clear Z; intro Z
   refine q_runk tN2 Z 2 rfl rfl ?_; clear Z a; intro a Z
   refine q_ob Z (v := .pointer (some ⟨blkOf v1_a0, oofOf v1_a0 + (i).toNat * 1, none⟩)) rfl rfl (by decide) rfl (fun _ hw => Ob_sidx tN2 rfl rfl rfl rfl (slPl ((H.blw hw).sl 0 rfl) hg1) hg1) ?_; clear Z a; intro a Z
   refine q_ob Z (v := .int .i64 (a0.getD (i).toNat default)) rfl rfl (by decide) rfl (fun _ hw => Ob_load tN2 rfl rfl rfl ((slFl ((H.blw hw).sl 0 rfl) hg1) 0 _ rfl)) ?_; clear Z a; intro a Z
   refine q_runk tN2 Z 2 rfl rfl ?_; clear Z a; intro a Z
   refine q_ob Z (v := .pointer (some ⟨blkOf v2_b, oofOf v2_b + (i).toNat * 1, none⟩)) rfl rfl (by decide) rfl (fun _ hw => Ob_sidx tN2 rfl rfl rfl rfl (slPl ((H.blw hw).sl 1 rfl) hg2) hg2) ?_; clear Z a; intro a Z
   refine q_ob Z (v := .int .i64 (b.getD (i).toNat default)) rfl rfl (by decide) rfl (fun _ hw => Ob_load tN2 rfl rfl rfl ((slFl ((H.blw hw).sl 1 rfl) hg2) 0 _ rfl)) ?_; clear Z a; intro a Z
   refine q_runk tN2 Z 1 rfl rfl ?_; clear Z a; intro a Z
   refine q_end Z [0, 1, 4, 5, 11, 12, 13, 14, 15, 20, 23, 24, 25, 26, 27, 28, 29, 30, 31] rfl ?_; clear Z; intro w2 hb Z
   replace H : Hf I D w I1 w2 [SlC Ni64 v1_a0 a0, SlC Ni64 v2_b b] := H.blw hb
   clear hb
   refine p_then ?_
   refine f_cond Z rfl (fun hc3 => ?_) (fun hc3 => ?_)
   ·replace hF := ite_t hc3 hF
    refine wp_seq (f_region Z ?_); clear Z; intro Z
    refine s_runk tN2 Z 1 rfl rfl ?_; clear Z a; intro a Z
    refine s_end Z [0, 1, 4, 5, 11, 12, 13, 14, 15, 20, 23, 24, 25, 26, 27, 28, 29, 30, 31] rfl ?_; clear Z; intro Z
    refine p_then (wp_ret ?_)
    refine p_blk_r ?_
    refine p_then_r ?_
    refine p_then_r ?_
    refine p_blk_r ?_
    refine p_then_r ?_
    obtain rfl := some_in hF
    exact f_ret Z (run_results1 rfl Z rfl) ⟨rfl, I1, (H.sub [] rfl).eq rfl⟩
   ·replace hF := ite_f hc3 hF
    refine wp_skip ?_
    refine p_blk ?_
    refine p_then ?_
    obtain ⟨hg3, hF⟩ := chk_in hF
    refine f_region Z ?_; clear Z; intro Z
    refine s_runk tN2 Z 1 rfl rfl ?_; clear Z a; intro a Z
    refine s_ob Z (v := .int .i64 (i + 1)) rfl rfl (by decide) rfl (Ob_add rfl rfl rfl (wrI hg3)) ?_; clear Z a; intro a Z
    refine s_runk tN2 Z 1 rfl rfl ?_; clear Z a; intro a Z
    refine s_end Z [0, 1, 4, 5, 11, 12, 13, 14, 15, 20, 23, 24, 25, 26, 27, 28, 29, 30, 31, 21, 22] rfl ?_; clear Z; intro Z
    refine p_then ?_
    exact ⟨(i + 1), ⟨Z.sub (ts := [0, 1, 4, 5]) rfl, ⟨I1, (H.sub [(0, true), (1, true)] rfl).eq rfl⟩⟩, hF⟩
  ·replace hF := ite_f hc2 hF
   refine wp_exit ?_
   refine p_then_x ?_
   refine p_then_x ?_
   refine f_exit_here ?_
   refine p_then (wp_seq (f_region Z ?_)); clear Z; intro Z
   refine s_runk tN2 Z 1 rfl rfl ?_; clear Z a; intro a Z
   refine s_end Z [4] rfl ?_; clear Z; intro Z
   refine p_then (wp_ret ?_)
   obtain rfl := some_in hF
   exact f_ret Z (run_results1 rfl Z rfl) ⟨rfl, I1, (H.sub [] rfl).eq rfl⟩

def F_ref10_Same (a0 : ENote) (b : ENote) : Option Bool := (gif (((a0.k == b.k) && (a0.n == b.n)) && (a0.at_ == b.at_)) (F_ref07_Same a0.conf b.conf) default).bind fun s0 => ((gif ((((a0.k == b.k) && (a0.n == b.n)) && (a0.at_ == b.at_)) && s0) (F_ref10_SameInts a0.legit b.legit) default).bind fun s0_2 => ((gif (((((a0.k == b.k) && (a0.n == b.n)) && (a0.at_ == b.at_)) && s0) && s0_2) (F_ref08_Same a0.entry b.entry) default).bind fun s0_3 => (some ((((((((a0.k == b.k) && (a0.n == b.n)) && (a0.at_ == b.at_)) && s0) && s0_2) && s0_3) && (eqEPin a0.pin b.pin)) && (eqEAnswer a0.said b.said)))))

set_option maxHeartbeats 1000000 in
theorem c_ref10_Same {I D : Dm} {a0 : ENote} {v1_a0 : Value} {v2_a0 : Value} {v3_a0 : Value} {b : ENote} {v4_b : Value} {v5_b : Value} {v6_b : Value} {w : World} {rr : Bool} (hF : F_ref10_Same a0 b = some rr) (H : St I D w [SlC NEMember v1_a0 a0.conf.members, SlC Ni64 v2_a0 a0.legit, SlC NEOp v3_a0 a0.entry.batch.ops, SlC NEMember v4_b b.conf.members, SlC Ni64 v5_b b.legit, SlC NEOp v6_b b.entry.batch.ops]) :
  Calls Try.prog 9 #[.agg #[.int .i64 a0.k, .int .i64 a0.n, .int .u64 a0.at_, .int .i64 a0.conf.epoch, v1_a0, .int .u64 a0.conf.floor, v2_a0, .int .i64 a0.entry.batch.client, .int .i64 a0.entry.batch.req, v3_a0, .int .u64 a0.entry.ts, .int .i64 a0.pin.id, .int .u64 a0.pin.at_, .int .i64 a0.pin.left, .int .i64 a0.said.client, .int .i64 a0.said.req, .int .i64 a0.said.e, .int .i64 a0.said.pin], .agg #[.int .i64 b.k, .int .i64 b.n, .int .u64 b.at_, .int .i64 b.conf.epoch, v4_b, .int .u64 b.conf.floor, v5_b, .int .i64 b.entry.batch.client, .int .i64 b.entry.batch.req, v6_b, .int .u64 b.entry.ts, .int .i64 b.pin.id, .int .u64 b.pin.at_, .int .i64 b.pin.left, .int .i64 b.said.client, .int .i64 b.said.req, .int .i64 b.said.e, .int .i64 b.said.pin]] w (Ret fun vv w' => vv = .bool rr ∧ ∃ I', Hf I D w I' w' []) := by
 replace H := H.hf
 unfold F_ref10_Same at hF
 refine f_enter 59 Try.func9 rfl rfl (Nat.le_of_ble_eq_true rfl) fun a Z => ?_
 replace Z := Z.sub (ts := [0, 1]) rfl
 refine wp_seq (f_region Z ?_); clear Z; intro Z
 refine h_boxv Z H (cl := [.int .i64 a0.k, .int .i64 a0.n, .int .u64 a0.at_, .int .i64 a0.conf.epoch, v1_a0, .int .u64 a0.conf.floor, v2_a0, .int .i64 a0.entry.batch.client, .int .i64 a0.entry.batch.req, v3_a0, .int .u64 a0.entry.ts, .int .i64 a0.pin.id, .int .u64 a0.pin.at_, .int .i64 a0.pin.left, .int .i64 a0.said.client, .int .i64 a0.said.req, .int .i64 a0.said.e, .int .i64 a0.said.pin]) rfl rfl rfl (by decide) rfl rfl rfl ?_; clear Z a H; intro a w1 b1 H Z
 refine h_boxv Z H (cl := [.int .i64 b.k, .int .i64 b.n, .int .u64 b.at_, .int .i64 b.conf.epoch, v4_b, .int .u64 b.conf.floor, v5_b, .int .i64 b.entry.batch.client, .int .i64 b.entry.batch.req, v6_b, .int .u64 b.entry.ts, .int .i64 b.pin.id, .int .u64 b.pin.at_, .int .i64 b.pin.left, .int .i64 b.said.client, .int .i64 b.said.req, .int .i64 b.said.e, .int .i64 b.said.pin]) rfl rfl rfl (by decide) rfl rfl rfl ?_; clear Z a H; intro a w2 b2 H Z
 refine s_runk tN2 Z 1 rfl rfl ?_; clear Z a; intro a Z
 refine s_end Z [2, 3, 4] rfl ?_; clear Z; intro Z
 refine p_then (wp_seq ?_)
 obtain ⟨s0, hx1, hF⟩ := bnd_in hF
 obtain ⟨s0_2, hx2, hF⟩ := bnd_in hF
 obtain ⟨s0_3, hx3, hF⟩ := bnd_in hF
 refine f_region Z ?_; clear Z; intro Z
 refine s_runk tN2 Z 1 rfl rfl ?_; clear Z a; intro a Z
 refine s_ob Z (v := .int .i64 a0.k) rfl rfl (by decide) rfl (Ob_load tN2 rfl rfl rfl ((H.bx 1 rfl).cell 0 rfl)) ?_; clear Z a; intro a Z
 refine s_runk tN2 Z 1 rfl rfl ?_; clear Z a; intro a Z
 refine s_ob Z (v := .int .i64 b.k) rfl rfl (by decide) rfl (Ob_load tN2 rfl rfl rfl ((H.bx 0 rfl).cell 0 rfl)) ?_; clear Z a; intro a Z
 refine s_runk tN2 Z 2 rfl rfl ?_; clear Z a; intro a Z
 refine g_ob Z (p := (a0.k == b.k)) (v := .pointer (some ⟨b1, 1, none⟩)) (S' := [(2, .pointer (some ⟨b1, 0, none⟩))]) rfl rfl rfl (wantB_t _) rfl (by decide) (fun hp hS => hS.sub (ts := [2]) rfl) (fun hp => Ob_c tN2 rfl) ?_; clear Z a; intro a Z
 refine g_ob Z (p := (a0.k == b.k)) (v := .int .i64 a0.n) (S' := [(11, .pointer (some ⟨b1, 1, none⟩))]) rfl rfl rfl (wantB_t _) rfl (by decide) (fun hp hS => (hS.conv (t := 11) rfl (cond_t hp)).sub (ts := [11]) rfl) (fun hp => Ob_load tN2 rfl rfl rfl ((H.bx 1 rfl).cell 1 rfl)) ?_; clear Z a; intro a Z
 refine g_ob Z (p := (a0.k == b.k)) (v := .pointer (some ⟨b2, 1, none⟩)) (S' := [(3, .pointer (some ⟨b2, 0, none⟩))]) rfl rfl rfl (wantB_t _) rfl (by decide) (fun hp hS => hS.sub (ts := [3]) rfl) (fun hp => Ob_c tN2 rfl) ?_; clear Z a; intro a Z
 refine g_ob Z (p := (a0.k == b.k)) (v := .int .i64 b.n) (S' := [(13, .pointer (some ⟨b2, 1, none⟩))]) rfl rfl rfl (wantB_t _) rfl (by decide) (fun hp hS => (hS.conv (t := 13) rfl (cond_t hp)).sub (ts := [13]) rfl) (fun hp => Ob_load tN2 rfl rfl rfl ((H.bx 0 rfl).cell 1 rfl)) ?_; clear Z a; intro a Z
 refine g_ob Z (p := (a0.k == b.k)) (v := .bool (a0.n == b.n)) (S' := [(12, .int .i64 a0.n), (14, .int .i64 b.n)]) rfl rfl rfl (wantB_t _) rfl (by decide) (fun hp hS => ((hS.conv (t := 12) rfl (cond_t hp)).conv (t := 14) rfl (cond_t hp)).sub (ts := [12, 14]) rfl) (fun hp => Ob_c tN2 rfl) ?_; clear Z a; intro a Z
 refine s_ob Z (v := .bool ((a0.k == b.k) && (a0.n == b.n))) rfl rfl (by decide) rfl (Ob_pick rfl rfl rfl rfl (pick_and _ _)) ?_; clear Z a; intro a Z
 refine s_runk tN2 Z 1 rfl rfl ?_; clear Z a; intro a Z
 refine g_ob Z (p := ((a0.k == b.k) && (a0.n == b.n))) (v := .pointer (some ⟨b1, 2, none⟩)) (S' := [(2, .pointer (some ⟨b1, 0, none⟩))]) rfl rfl rfl (wantB_t _) rfl (by decide) (fun hp hS => hS.sub (ts := [2]) rfl) (fun hp => Ob_c tN2 rfl) ?_; clear Z a; intro a Z
 refine g_ob Z (p := ((a0.k == b.k) && (a0.n == b.n))) (v := .int .u64 a0.at_) (S' := [(18, .pointer (some ⟨b1, 2, none⟩))]) rfl rfl rfl (wantB_t _) rfl (by decide) (fun hp hS => (hS.conv (t := 18) rfl (cond_t hp)).sub (ts := [18]) rfl) (fun hp => Ob_load tN2 rfl rfl rfl ((H.bx 1 rfl).cell 2 rfl)) ?_; clear Z a; intro a Z
 refine g_ob Z (p := ((a0.k == b.k) && (a0.n == b.n))) (v := .pointer (some ⟨b2, 2, none⟩)) (S' := [(3, .pointer (some ⟨b2, 0, none⟩))]) rfl rfl rfl (wantB_t _) rfl (by decide) (fun hp hS => hS.sub (ts := [3]) rfl) (fun hp => Ob_c tN2 rfl) ?_; clear Z a; intro a Z
 refine g_ob Z (p := ((a0.k == b.k) && (a0.n == b.n))) (v := .int .u64 b.at_) (S' := [(20, .pointer (some ⟨b2, 2, none⟩))]) rfl rfl rfl (wantB_t _) rfl (by decide) (fun hp hS => (hS.conv (t := 20) rfl (cond_t hp)).sub (ts := [20]) rfl) (fun hp => Ob_load tN2 rfl rfl rfl ((H.bx 0 rfl).cell 2 rfl)) ?_; clear Z a; intro a Z
 refine g_ob Z (p := ((a0.k == b.k) && (a0.n == b.n))) (v := .bool (a0.at_ == b.at_)) (S' := [(19, .int .u64 a0.at_), (21, .int .u64 b.at_)]) rfl rfl rfl (wantB_t _) rfl (by decide) (fun hp hS => ((hS.conv (t := 19) rfl (cond_t hp)).conv (t := 21) rfl (cond_t hp)).sub (ts := [19, 21]) rfl) (fun hp => Ob_c tN2 rfl) ?_; clear Z a; intro a Z
 refine s_ob Z (v := .bool (((a0.k == b.k) && (a0.n == b.n)) && (a0.at_ == b.at_))) rfl rfl (by decide) rfl (Ob_pick rfl rfl rfl rfl (pick_and _ _)) ?_; clear Z a; intro a Z
 refine s_runk tN2 Z 1 rfl rfl ?_; clear Z a; intro a Z
 refine g_ob Z (p := (((a0.k == b.k) && (a0.n == b.n)) && (a0.at_ == b.at_))) (v := .pointer (some ⟨b1, 3, none⟩)) (S' := [(2, .pointer (some ⟨b1, 0, none⟩))]) rfl rfl rfl (wantB_t _) rfl (by decide) (fun hp hS => hS.sub (ts := [2]) rfl) (fun hp => Ob_c tN2 rfl) ?_; clear Z a; intro a Z
 refine g_ob Z (p := (((a0.k == b.k) && (a0.n == b.n)) && (a0.at_ == b.at_))) (v := .agg #[.int .i64 a0.conf.epoch, v1_a0, .int .u64 a0.conf.floor]) (S' := [(25, .pointer (some ⟨b1, 3, none⟩))]) rfl rfl rfl (wantB_t _) rfl (by decide) (fun hp hS => (hS.conv (t := 25) rfl (cond_t hp)).sub (ts := [25]) rfl) (fun hp => Ob_loads tN2 rfl rfl rfl ((H.bx 1 rfl).part 3 rfl)) ?_; clear Z a; intro a Z
 refine g_ob Z (p := (((a0.k == b.k) && (a0.n == b.n)) && (a0.at_ == b.at_))) (v := .pointer (some ⟨b2, 3, none⟩)) (S' := [(3, .pointer (some ⟨b2, 0, none⟩))]) rfl rfl rfl (wantB_t _) rfl (by decide) (fun hp hS => hS.sub (ts := [3]) rfl) (fun hp => Ob_c tN2 rfl) ?_; clear Z a; intro a Z
 refine g_ob Z (p := (((a0.k == b.k) && (a0.n == b.n)) && (a0.at_ == b.at_))) (v := .agg #[.int .i64 b.conf.epoch, v4_b, .int .u64 b.conf.floor]) (S' := [(27, .pointer (some ⟨b2, 3, none⟩))]) rfl rfl rfl (wantB_t _) rfl (by decide) (fun hp hS => (hS.conv (t := 27) rfl (cond_t hp)).sub (ts := [27]) rfl) (fun hp => Ob_loads tN2 rfl rfl rfl ((H.bx 0 rfl).part 3 rfl)) ?_; clear Z a; intro a Z
 refine g_call Z (p := (((a0.k == b.k) && (a0.n == b.n)) && (a0.at_ == b.at_))) (v := .bool s0) (S' := [(26, .agg #[.int .i64 a0.conf.epoch, v1_a0, .int .u64 a0.conf.floor]), (28, .agg #[.int .i64 b.conf.epoch, v4_b, .int .u64 b.conf.floor])]) (caps := #[]) fn_27_YNote2 rfl rfl rfl (wantB_t _) rfl (by decide) (fun hp hS => ((hS.conv (t := 26) rfl (cond_t hp)).conv (t := 28) rfl (cond_t hp)).sub (ts := [26, 28]) rfl) rfl rfl rfl rfl (fun hp => have hq := c_ref07_Same (gif_in hx1 hp) (H.pick0 (js := [(2, true), (5, true)]) rfl rfl); plainC hq) ?_; clear Z a; intro a w3 hb Z
 replace H : Hf I D w I w3 [BxC b2 39 (cENote b v4_b v5_b v6_b), BxC b1 39 (cENote a0 v1_a0 v2_a0 v3_a0), SlC NEMember v1_a0 a0.conf.members, SlC Ni64 v2_a0 a0.legit, SlC NEOp v3_a0 a0.entry.batch.ops, SlC NEMember v4_b b.conf.members, SlC Ni64 v5_b b.legit, SlC NEOp v6_b b.entry.batch.ops] := H.blw hb
 clear hb
 refine s_ob Z (v := .bool ((((a0.k == b.k) && (a0.n == b.n)) && (a0.at_ == b.at_)) && s0)) rfl rfl (by decide) rfl (Ob_pick rfl rfl rfl rfl (pick_and _ _)) ?_; clear Z a; intro a Z
 refine s_runk tN2 Z 1 rfl rfl ?_; clear Z a; intro a Z
 refine g_ob Z (p := ((((a0.k == b.k) && (a0.n == b.n)) && (a0.at_ == b.at_)) && s0)) (v := .pointer (some ⟨b1, 6, none⟩)) (S' := [(2, .pointer (some ⟨b1, 0, none⟩))]) rfl rfl rfl (wantB_t _) rfl (by decide) (fun hp hS => hS.sub (ts := [2]) rfl) (fun hp => Ob_c tN2 rfl) ?_; clear Z a; intro a Z
 refine g_ob Z (p := ((((a0.k == b.k) && (a0.n == b.n)) && (a0.at_ == b.at_)) && s0)) (v := v2_a0) (S' := [(32, .pointer (some ⟨b1, 6, none⟩))]) rfl rfl rfl (wantB_t _) rfl (by decide) (fun hp hS => (hS.conv (t := 32) rfl (cond_t hp)).sub (ts := [32]) rfl) (fun hp => Ob_load tN2 rfl rfl rfl ((H.bx 1 rfl).cell 6 rfl)) ?_; clear Z a; intro a Z
 refine g_ob Z (p := ((((a0.k == b.k) && (a0.n == b.n)) && (a0.at_ == b.at_)) && s0)) (v := .pointer (some ⟨b2, 6, none⟩)) (S' := [(3, .pointer (some ⟨b2, 0, none⟩))]) rfl rfl rfl (wantB_t _) rfl (by decide) (fun hp hS => hS.sub (ts := [3]) rfl) (fun hp => Ob_c tN2 rfl) ?_; clear Z a; intro a Z
 refine g_ob Z (p := ((((a0.k == b.k) && (a0.n == b.n)) && (a0.at_ == b.at_)) && s0)) (v := v5_b) (S' := [(34, .pointer (some ⟨b2, 6, none⟩))]) rfl rfl rfl (wantB_t _) rfl (by decide) (fun hp hS => (hS.conv (t := 34) rfl (cond_t hp)).sub (ts := [34]) rfl) (fun hp => Ob_load tN2 rfl rfl rfl ((H.bx 0 rfl).cell 6 rfl)) ?_; clear Z a; intro a Z
 refine g_call Z (p := ((((a0.k == b.k) && (a0.n == b.n)) && (a0.at_ == b.at_)) && s0)) (v := .bool s0_2) (S' := [(33, v2_a0), (35, v5_b)]) (caps := #[]) fn_28_YNote2 rfl rfl rfl (wantB_t _) rfl (by decide) (fun hp hS => ((hS.conv (t := 33) rfl (cond_t hp)).conv (t := 35) rfl (cond_t hp)).sub (ts := [33, 35]) rfl) rfl rfl rfl rfl (fun hp => have hq := c_ref10_SameInts (gif_in hx2 hp) (H.pick0 (js := [(3, true), (6, true)]) rfl rfl); plainC hq) ?_; clear Z a; intro a w4 hb Z
 replace H : Hf I D w I w4 [BxC b2 39 (cENote b v4_b v5_b v6_b), BxC b1 39 (cENote a0 v1_a0 v2_a0 v3_a0), SlC NEMember v1_a0 a0.conf.members, SlC Ni64 v2_a0 a0.legit, SlC NEOp v3_a0 a0.entry.batch.ops, SlC NEMember v4_b b.conf.members, SlC Ni64 v5_b b.legit, SlC NEOp v6_b b.entry.batch.ops] := H.blw hb
 clear hb
 refine s_ob Z (v := .bool (((((a0.k == b.k) && (a0.n == b.n)) && (a0.at_ == b.at_)) && s0) && s0_2)) rfl rfl (by decide) rfl (Ob_pick rfl rfl rfl rfl (pick_and _ _)) ?_; clear Z a; intro a Z
 refine s_runk tN2 Z 1 rfl rfl ?_; clear Z a; intro a Z
 refine g_ob Z (p := (((((a0.k == b.k) && (a0.n == b.n)) && (a0.at_ == b.at_)) && s0) && s0_2)) (v := .pointer (some ⟨b1, 7, none⟩)) (S' := [(2, .pointer (some ⟨b1, 0, none⟩))]) rfl rfl rfl (wantB_t _) rfl (by decide) (fun hp hS => hS.sub (ts := [2]) rfl) (fun hp => Ob_c tN2 rfl) ?_; clear Z a; intro a Z
 refine g_ob Z (p := (((((a0.k == b.k) && (a0.n == b.n)) && (a0.at_ == b.at_)) && s0) && s0_2)) (v := .agg #[.int .i64 a0.entry.batch.client, .int .i64 a0.entry.batch.req, v3_a0, .int .u64 a0.entry.ts]) (S' := [(39, .pointer (some ⟨b1, 7, none⟩))]) rfl rfl rfl (wantB_t _) rfl (by decide) (fun hp hS => (hS.conv (t := 39) rfl (cond_t hp)).sub (ts := [39]) rfl) (fun hp => Ob_loads tN2 rfl rfl rfl ((H.bx 1 rfl).part 7 rfl)) ?_; clear Z a; intro a Z
 refine g_ob Z (p := (((((a0.k == b.k) && (a0.n == b.n)) && (a0.at_ == b.at_)) && s0) && s0_2)) (v := .pointer (some ⟨b2, 7, none⟩)) (S' := [(3, .pointer (some ⟨b2, 0, none⟩))]) rfl rfl rfl (wantB_t _) rfl (by decide) (fun hp hS => hS.sub (ts := [3]) rfl) (fun hp => Ob_c tN2 rfl) ?_; clear Z a; intro a Z
 refine g_ob Z (p := (((((a0.k == b.k) && (a0.n == b.n)) && (a0.at_ == b.at_)) && s0) && s0_2)) (v := .agg #[.int .i64 b.entry.batch.client, .int .i64 b.entry.batch.req, v6_b, .int .u64 b.entry.ts]) (S' := [(41, .pointer (some ⟨b2, 7, none⟩))]) rfl rfl rfl (wantB_t _) rfl (by decide) (fun hp hS => (hS.conv (t := 41) rfl (cond_t hp)).sub (ts := [41]) rfl) (fun hp => Ob_loads tN2 rfl rfl rfl ((H.bx 0 rfl).part 7 rfl)) ?_; clear Z a; intro a Z
 refine g_call Z (p := (((((a0.k == b.k) && (a0.n == b.n)) && (a0.at_ == b.at_)) && s0) && s0_2)) (v := .bool s0_3) (S' := [(40, .agg #[.int .i64 a0.entry.batch.client, .int .i64 a0.entry.batch.req, v3_a0, .int .u64 a0.entry.ts]), (42, .agg #[.int .i64 b.entry.batch.client, .int .i64 b.entry.batch.req, v6_b, .int .u64 b.entry.ts])]) (caps := #[]) fn_29_YNote2 rfl rfl rfl (wantB_t _) rfl (by decide) (fun hp hS => ((hS.conv (t := 40) rfl (cond_t hp)).conv (t := 42) rfl (cond_t hp)).sub (ts := [40, 42]) rfl) rfl rfl rfl rfl (fun hp => have hq := c_ref08_Same (gif_in hx3 hp) (H.pick0 (js := [(4, true), (7, true)]) rfl rfl); plainC hq) ?_; clear Z a; intro a w5 hb Z
 replace H : Hf I D w I w5 [BxC b2 39 (cENote b v4_b v5_b v6_b), BxC b1 39 (cENote a0 v1_a0 v2_a0 v3_a0), SlC NEMember v1_a0 a0.conf.members, SlC Ni64 v2_a0 a0.legit, SlC NEOp v3_a0 a0.entry.batch.ops, SlC NEMember v4_b b.conf.members, SlC Ni64 v5_b b.legit, SlC NEOp v6_b b.entry.batch.ops] := H.blw hb
 clear hb
 refine s_ob Z (v := .bool ((((((a0.k == b.k) && (a0.n == b.n)) && (a0.at_ == b.at_)) && s0) && s0_2) && s0_3)) rfl rfl (by decide) rfl (Ob_pick rfl rfl rfl rfl (pick_and _ _)) ?_; clear Z a; intro a Z
 refine s_runk tN2 Z 1 rfl rfl ?_; clear Z a; intro a Z
 refine g_ob Z (p := ((((((a0.k == b.k) && (a0.n == b.n)) && (a0.at_ == b.at_)) && s0) && s0_2) && s0_3)) (v := .pointer (some ⟨b1, 11, none⟩)) (S' := [(2, .pointer (some ⟨b1, 0, none⟩))]) rfl rfl rfl (wantB_t _) rfl (by decide) (fun hp hS => hS.sub (ts := [2]) rfl) (fun hp => Ob_c tN2 rfl) ?_; clear Z a; intro a Z
 refine g_ob Z (p := ((((((a0.k == b.k) && (a0.n == b.n)) && (a0.at_ == b.at_)) && s0) && s0_2) && s0_3)) (v := .agg #[.int .i64 a0.pin.id, .int .u64 a0.pin.at_, .int .i64 a0.pin.left]) (S' := [(46, .pointer (some ⟨b1, 11, none⟩))]) rfl rfl rfl (wantB_t _) rfl (by decide) (fun hp hS => (hS.conv (t := 46) rfl (cond_t hp)).sub (ts := [46]) rfl) (fun hp => Ob_loads tN2 rfl rfl rfl ((H.bx 1 rfl).part 11 rfl)) ?_; clear Z a; intro a Z
 refine g_ob Z (p := ((((((a0.k == b.k) && (a0.n == b.n)) && (a0.at_ == b.at_)) && s0) && s0_2) && s0_3)) (v := .pointer (some ⟨b2, 11, none⟩)) (S' := [(3, .pointer (some ⟨b2, 0, none⟩))]) rfl rfl rfl (wantB_t _) rfl (by decide) (fun hp hS => hS.sub (ts := [3]) rfl) (fun hp => Ob_c tN2 rfl) ?_; clear Z a; intro a Z
 refine g_ob Z (p := ((((((a0.k == b.k) && (a0.n == b.n)) && (a0.at_ == b.at_)) && s0) && s0_2) && s0_3)) (v := .agg #[.int .i64 b.pin.id, .int .u64 b.pin.at_, .int .i64 b.pin.left]) (S' := [(48, .pointer (some ⟨b2, 11, none⟩))]) rfl rfl rfl (wantB_t _) rfl (by decide) (fun hp hS => (hS.conv (t := 48) rfl (cond_t hp)).sub (ts := [48]) rfl) (fun hp => Ob_loads tN2 rfl rfl rfl ((H.bx 0 rfl).part 11 rfl)) ?_; clear Z a; intro a Z
 refine g_ob Z (p := ((((((a0.k == b.k) && (a0.n == b.n)) && (a0.at_ == b.at_)) && s0) && s0_2) && s0_3)) (v := .bool (eqEPin a0.pin b.pin)) (S' := [(47, .agg #[.int .i64 a0.pin.id, .int .u64 a0.pin.at_, .int .i64 a0.pin.left]), (49, .agg #[.int .i64 b.pin.id, .int .u64 b.pin.at_, .int .i64 b.pin.left])]) rfl rfl rfl (wantB_t _) rfl (by decide) (fun hp hS => ((hS.conv (t := 47) rfl (cond_t hp)).conv (t := 49) rfl (cond_t hp)).sub (ts := [47, 49]) rfl) (fun hp => Ob_bin rfl rfl rfl (eqg_EPin _ _ _ _ _ _) (eql_EPin a0.pin b.pin _)) ?_; clear Z a; intro a Z
 refine s_ob Z (v := .bool (((((((a0.k == b.k) && (a0.n == b.n)) && (a0.at_ == b.at_)) && s0) && s0_2) && s0_3) && (eqEPin a0.pin b.pin))) rfl rfl (by decide) rfl (Ob_pick rfl rfl rfl rfl (pick_and _ _)) ?_; clear Z a; intro a Z
 refine s_runk tN2 Z 1 rfl rfl ?_; clear Z a; intro a Z
 refine g_ob Z (p := (((((((a0.k == b.k) && (a0.n == b.n)) && (a0.at_ == b.at_)) && s0) && s0_2) && s0_3) && (eqEPin a0.pin b.pin))) (v := .pointer (some ⟨b1, 14, none⟩)) (S' := [(2, .pointer (some ⟨b1, 0, none⟩))]) rfl rfl rfl (wantB_t _) rfl (by decide) (fun hp hS => hS.sub (ts := [2]) rfl) (fun hp => Ob_c tN2 rfl) ?_; clear Z a; intro a Z
 refine g_ob Z (p := (((((((a0.k == b.k) && (a0.n == b.n)) && (a0.at_ == b.at_)) && s0) && s0_2) && s0_3) && (eqEPin a0.pin b.pin))) (v := .agg #[.int .i64 a0.said.client, .int .i64 a0.said.req, .int .i64 a0.said.e, .int .i64 a0.said.pin]) (S' := [(53, .pointer (some ⟨b1, 14, none⟩))]) rfl rfl rfl (wantB_t _) rfl (by decide) (fun hp hS => (hS.conv (t := 53) rfl (cond_t hp)).sub (ts := [53]) rfl) (fun hp => Ob_loads tN2 rfl rfl rfl ((H.bx 1 rfl).part 14 rfl)) ?_; clear Z a; intro a Z
 refine g_ob Z (p := (((((((a0.k == b.k) && (a0.n == b.n)) && (a0.at_ == b.at_)) && s0) && s0_2) && s0_3) && (eqEPin a0.pin b.pin))) (v := .pointer (some ⟨b2, 14, none⟩)) (S' := [(3, .pointer (some ⟨b2, 0, none⟩))]) rfl rfl rfl (wantB_t _) rfl (by decide) (fun hp hS => hS.sub (ts := [3]) rfl) (fun hp => Ob_c tN2 rfl) ?_; clear Z a; intro a Z
 refine g_ob Z (p := (((((((a0.k == b.k) && (a0.n == b.n)) && (a0.at_ == b.at_)) && s0) && s0_2) && s0_3) && (eqEPin a0.pin b.pin))) (v := .agg #[.int .i64 b.said.client, .int .i64 b.said.req, .int .i64 b.said.e, .int .i64 b.said.pin]) (S' := [(55, .pointer (some ⟨b2, 14, none⟩))]) rfl rfl rfl (wantB_t _) rfl (by decide) (fun hp hS => (hS.conv (t := 55) rfl (cond_t hp)).sub (ts := [55]) rfl) (fun hp => Ob_loads tN2 rfl rfl rfl ((H.bx 0 rfl).part 14 rfl)) ?_; clear Z a; intro a Z
 refine g_ob Z (p := (((((((a0.k == b.k) && (a0.n == b.n)) && (a0.at_ == b.at_)) && s0) && s0_2) && s0_3) && (eqEPin a0.pin b.pin))) (v := .bool (eqEAnswer a0.said b.said)) (S' := [(54, .agg #[.int .i64 a0.said.client, .int .i64 a0.said.req, .int .i64 a0.said.e, .int .i64 a0.said.pin]), (56, .agg #[.int .i64 b.said.client, .int .i64 b.said.req, .int .i64 b.said.e, .int .i64 b.said.pin])]) rfl rfl rfl (wantB_t _) rfl (by decide) (fun hp hS => ((hS.conv (t := 54) rfl (cond_t hp)).conv (t := 56) rfl (cond_t hp)).sub (ts := [54, 56]) rfl) (fun hp => Ob_bin rfl rfl rfl (eqg_EAnswer _ _ _ _ _ _) (eql_EAnswer a0.said b.said _)) ?_; clear Z a; intro a Z
 refine s_ob Z (v := .bool ((((((((a0.k == b.k) && (a0.n == b.n)) && (a0.at_ == b.at_)) && s0) && s0_2) && s0_3) && (eqEPin a0.pin b.pin)) && (eqEAnswer a0.said b.said))) rfl rfl (by decide) rfl (Ob_pick rfl rfl rfl rfl (pick_and _ _)) ?_; clear Z a; intro a Z
 refine s_runk tN2 Z 1 rfl rfl ?_; clear Z a; intro a Z
 refine s_end Z [4] rfl ?_; clear Z; intro Z
 refine p_then (wp_ret ?_)
 obtain rfl := some_in hF
 exact f_ret Z (run_results1 rfl Z rfl) ⟨rfl, I, (H.sub [] rfl).eq rfl⟩

def F_law10_awake : Option Bool := (F_note_Put ({ (default : ENote) with k := 3, n := 3, at_ := 9 } : ENote)).bind fun p => ((F_note_Of p.1).bind fun o => (some (((((seqB p.1 ⟨#[3, 3, 9]⟩) && (p.2 == 0)) && (o.2 == 0)) && (o.1.n == 3)) && (o.1.at_ == 9))))

set_option maxHeartbeats 1000000 in
theorem c_law10_awake {I D : Dm} {w : World} {rr : Bool} (hF : F_law10_awake = some rr) (H : St I D w []) :
  Calls Try.prog 6 #[] w (Ret fun vv w' => vv = .bool rr ∧ ∃ I', Hf I D w I' w' []) := by
 replace H := H.hf
 unfold F_law10_awake at hF
 refine f_enter 35 Try.func6 rfl rfl (Nat.le_of_ble_eq_true rfl) fun a Z => ?_
 replace Z := Z.sub (ts := []) rfl
 refine wp_seq (f_region Z ?_); clear Z; intro Z
 refine s_runk tN2 Z 1 rfl rfl ?_; clear Z a; intro a Z
 refine s_end Z [0] rfl ?_; clear Z; intro Z
 refine p_then (wp_seq ?_)
 obtain ⟨p, hx1, hF⟩ := bnd_in hF
 refine f_region Z ?_; clear Z; intro Z
 refine s_ob Z (v := .agg #[.int .i64 3, .int .i64 3, .int .u64 9, .int .i64 0, .slice none 0 0, .int .u64 0, .slice none 0 0, .int .i64 0, .int .i64 0, .slice none 0 0, .int .u64 0, .int .i64 0, .int .u64 0, .int .i64 0, .int .i64 0, .int .i64 0, .int .i64 0, .int .i64 0]) rfl rfl (by decide) rfl (Ob_build (vs := [(0, .int .i64 3), (1, .int .i64 3), (2, .int .u64 9)]) rfl rfl (by go_simp <;> rfl)) ?_; clear Z a; intro a Z
 replace H : Hf I D w I w [SlC NEMember (.slice none 0 0) ([] : List EMember)] := H.slNil NEMember
 replace H : Hf I D w I w [SlC Ni64 (.slice none 0 0) ([] : List Int), SlC NEMember (.slice none 0 0) ([] : List EMember)] := H.slNil Ni64
 replace H : Hf I D w I w [SlC NEOp (.slice none 0 0) ([] : List EOp), SlC Ni64 (.slice none 0 0) ([] : List Int), SlC NEMember (.slice none 0 0) ([] : List EMember)] := H.slNil NEOp
 refine h_call Z H (js := [(2, true), (1, true), (0, true)]) rfl (caps := #[]) fn_11_YNote2 rfl rfl rfl rfl rfl (by decide) rfl rfl (fun D1 hS => have hq := c_note_Put hx1 hS; hq) ?_; clear Z a; intro vv a w1 D2 hr hF2 Z
 obtain ⟨rfl, I1, K⟩ := hr
 have H : Hf I D w I1 w1 [SlC NEOp (.slice none 0 0) ([] : List EOp), SlC Ni64 (.slice none 0 0) ([] : List Int), SlC NEMember (.slice none 0 0) ([] : List EMember)] := hF2 K
 clear hF2 K
 refine s_runk tN2 Z 5 rfl rfl ?_; clear Z a; intro a Z
 refine s_end Z [0, 1, 2] rfl ?_; clear Z; intro Z
 refine p_then (wp_seq ?_)
 obtain ⟨o, hx2, hF⟩ := bnd_in hF
 refine f_region Z ?_; clear Z; intro Z
 refine s_runk tN2 Z 1 rfl rfl ?_; clear Z a; intro a Z
 refine h_call Z H (js := []) rfl (caps := #[]) fn_7_YNote2 rfl rfl rfl rfl rfl (by decide) rfl rfl (fun D1 hS => have hq := c_note_Of hx2 hS; hq) ?_; clear Z a; intro vv a w2 D2 hr hF2 Z
 obtain ⟨q1, q2, q3, rfl, I2, K⟩ := hr
 have H : Hf I D w I2 w2 [SlC NEMember q1 o.1.conf.members, SlC Ni64 q2 o.1.legit, SlC NEOp q3 o.1.entry.batch.ops, SlC NEOp (.slice none 0 0) ([] : List EOp), SlC Ni64 (.slice none 0 0) ([] : List Int), SlC NEMember (.slice none 0 0) ([] : List EMember)] := hF2 K
 clear hF2 K
 refine s_runk tN2 Z 3 rfl rfl ?_; clear Z a; intro a Z
 refine h_alloc Z H (cl := [.int .i64 0, .int .i64 0, .int .u64 0, .int .i64 0, .slice none 0 0, .int .u64 0, .slice none 0 0, .int .i64 0, .int .i64 0, .slice none 0 0, .int .u64 0, .int .i64 0, .int .u64 0, .int .i64 0, .int .i64 0, .int .i64 0, .int .i64 0, .int .i64 0]) (z := .agg #[.int .i64 0, .int .i64 0, .int .u64 0, .int .i64 0, .slice none 0 0, .int .u64 0, .slice none 0 0, .int .i64 0, .int .i64 0, .slice none 0 0, .int .u64 0, .int .i64 0, .int .u64 0, .int .i64 0, .int .i64 0, .int .i64 0, .int .i64 0, .int .i64 0]) rfl rfl rfl (by decide) rfl (by kernel_rfl) rfl ?_; clear Z a H; intro a w3 b1 H Z
 refine h_store tN2 Z H 0 rfl rfl rfl rfl rfl rfl rfl rfl rfl (one_cons rfl (one_cons rfl (one_cons rfl (one_cons rfl (one_cons (slS.one (H.slshape 1 rfl)) (one_cons rfl (one_cons (slS.one (H.slshape 2 rfl)) (one_cons rfl (one_cons rfl (one_cons (slS.one (H.slshape 3 rfl)) (one_cons rfl (one_cons rfl (one_cons rfl (one_cons rfl (one_cons rfl (one_cons rfl (one_cons rfl (one_cons rfl one_nil)))))))))))))))))) (Nat.le_of_ble_eq_true rfl) (putCells_all rfl) ?_; clear H; intro w4 H
 dsimp only [List.eraseIdx] at H
 refine s_runk tN2 Z 1 rfl rfl ?_; clear Z a; intro a Z
 refine s_end Z [0, 1, 2, 3, 4] rfl ?_; clear Z; intro Z
 refine p_then (wp_seq (f_region Z ?_)); clear Z; intro Z
 refine s_runk tN2 Z 3 rfl rfl ?_; clear Z a; intro a Z
 refine g_ob Z (p := (seqB p.1 ⟨#[3, 3, 9]⟩)) (v := .int .i64 p.2) (S' := [(2, .int .i64 p.2)]) rfl rfl rfl (wantB_t _) rfl (by decide) (fun hp hS => hS.sub (ts := [2]) rfl) (fun hp => Ob_c tN2 rfl) ?_; clear Z a; intro a Z
 refine g_ob Z (p := (seqB p.1 ⟨#[3, 3, 9]⟩)) (v := .bool (p.2 == 0)) (S' := [(18, .int .i64 p.2)]) rfl rfl rfl (wantB_t _) rfl (by decide) (fun hp hS => (hS.conv (t := 18) rfl (cond_t hp)).sub (ts := [18]) rfl) (fun hp => Ob_c tN2 rfl) ?_; clear Z a; intro a Z
 refine s_ob Z (v := .bool ((seqB p.1 ⟨#[3, 3, 9]⟩) && (p.2 == 0))) rfl rfl (by decide) rfl (Ob_pick rfl rfl rfl rfl (pick_and _ _)) ?_; clear Z a; intro a Z
 refine s_runk tN2 Z 1 rfl rfl ?_; clear Z a; intro a Z
 refine g_ob Z (p := ((seqB p.1 ⟨#[3, 3, 9]⟩) && (p.2 == 0))) (v := .int .i64 o.2) (S' := [(4, .int .i64 o.2)]) rfl rfl rfl (wantB_t _) rfl (by decide) (fun hp hS => hS.sub (ts := [4]) rfl) (fun hp => Ob_c tN2 rfl) ?_; clear Z a; intro a Z
 refine g_ob Z (p := ((seqB p.1 ⟨#[3, 3, 9]⟩) && (p.2 == 0))) (v := .bool (o.2 == 0)) (S' := [(22, .int .i64 o.2)]) rfl rfl rfl (wantB_t _) rfl (by decide) (fun hp hS => (hS.conv (t := 22) rfl (cond_t hp)).sub (ts := [22]) rfl) (fun hp => Ob_c tN2 rfl) ?_; clear Z a; intro a Z
 refine s_ob Z (v := .bool (((seqB p.1 ⟨#[3, 3, 9]⟩) && (p.2 == 0)) && (o.2 == 0))) rfl rfl (by decide) rfl (Ob_pick rfl rfl rfl rfl (pick_and _ _)) ?_; clear Z a; intro a Z
 refine s_runk tN2 Z 1 rfl rfl ?_; clear Z a; intro a Z
 refine g_ob Z (p := (((seqB p.1 ⟨#[3, 3, 9]⟩) && (p.2 == 0)) && (o.2 == 0))) (v := .pointer (some ⟨b1, 1, none⟩)) (S' := [(3, .pointer (some ⟨b1, 0, none⟩))]) rfl rfl rfl (wantB_t _) rfl (by decide) (fun hp hS => hS.sub (ts := [3]) rfl) (fun hp => Ob_c tN2 rfl) ?_; clear Z a; intro a Z
 refine g_ob Z (p := (((seqB p.1 ⟨#[3, 3, 9]⟩) && (p.2 == 0)) && (o.2 == 0))) (v := .int .i64 o.1.n) (S' := [(26, .pointer (some ⟨b1, 1, none⟩))]) rfl rfl rfl (wantB_t _) rfl (by decide) (fun hp hS => (hS.conv (t := 26) rfl (cond_t hp)).sub (ts := [26]) rfl) (fun hp => Ob_load tN2 rfl rfl rfl ((H.bx 0 rfl).cell 1 rfl)) ?_; clear Z a; intro a Z
 refine g_ob Z (p := (((seqB p.1 ⟨#[3, 3, 9]⟩) && (p.2 == 0)) && (o.2 == 0))) (v := .bool (o.1.n == 3)) (S' := [(27, .int .i64 o.1.n)]) rfl rfl rfl (wantB_t _) rfl (by decide) (fun hp hS => (hS.conv (t := 27) rfl (cond_t hp)).sub (ts := [27]) rfl) (fun hp => Ob_c tN2 rfl) ?_; clear Z a; intro a Z
 refine s_ob Z (v := .bool ((((seqB p.1 ⟨#[3, 3, 9]⟩) && (p.2 == 0)) && (o.2 == 0)) && (o.1.n == 3))) rfl rfl (by decide) rfl (Ob_pick rfl rfl rfl rfl (pick_and _ _)) ?_; clear Z a; intro a Z
 refine s_runk tN2 Z 1 rfl rfl ?_; clear Z a; intro a Z
 refine g_ob Z (p := ((((seqB p.1 ⟨#[3, 3, 9]⟩) && (p.2 == 0)) && (o.2 == 0)) && (o.1.n == 3))) (v := .pointer (some ⟨b1, 2, none⟩)) (S' := [(3, .pointer (some ⟨b1, 0, none⟩))]) rfl rfl rfl (wantB_t _) rfl (by decide) (fun hp hS => hS.sub (ts := [3]) rfl) (fun hp => Ob_c tN2 rfl) ?_; clear Z a; intro a Z
 refine g_ob Z (p := ((((seqB p.1 ⟨#[3, 3, 9]⟩) && (p.2 == 0)) && (o.2 == 0)) && (o.1.n == 3))) (v := .int .u64 o.1.at_) (S' := [(31, .pointer (some ⟨b1, 2, none⟩))]) rfl rfl rfl (wantB_t _) rfl (by decide) (fun hp hS => (hS.conv (t := 31) rfl (cond_t hp)).sub (ts := [31]) rfl) (fun hp => Ob_load tN2 rfl rfl rfl ((H.bx 0 rfl).cell 2 rfl)) ?_; clear Z a; intro a Z
 refine g_ob Z (p := ((((seqB p.1 ⟨#[3, 3, 9]⟩) && (p.2 == 0)) && (o.2 == 0)) && (o.1.n == 3))) (v := .bool (o.1.at_ == 9)) (S' := [(32, .int .u64 o.1.at_)]) rfl rfl rfl (wantB_t _) rfl (by decide) (fun hp hS => (hS.conv (t := 32) rfl (cond_t hp)).sub (ts := [32]) rfl) (fun hp => Ob_c tN2 rfl) ?_; clear Z a; intro a Z
 refine s_ob Z (v := .bool (((((seqB p.1 ⟨#[3, 3, 9]⟩) && (p.2 == 0)) && (o.2 == 0)) && (o.1.n == 3)) && (o.1.at_ == 9))) rfl rfl (by decide) rfl (Ob_pick rfl rfl rfl rfl (pick_and _ _)) ?_; clear Z a; intro a Z
 refine s_runk tN2 Z 1 rfl rfl ?_; clear Z a; intro a Z
 refine s_end Z [0] rfl ?_; clear Z; intro Z
 refine p_then (wp_ret ?_)
 obtain rfl := some_in hF
 exact f_ret Z (run_results1 rfl Z rfl) ⟨rfl, I2, (H.sub [] rfl).eq rfl⟩

def F_law10_NoteReads (s0 : ByteArray) : Option Bool := if (decide ((s0.size : Int) > 3000)) = true then ((F_law10_awake).bind fun a0 => (some a0)) else ((F_note_Of s0).bind fun o => ((F_ref10_Of s0).bind fun o_2 => ((F_ref10_Same o.1 o_2.1).bind fun s0_2 => ((gif (s0_2 && (o.2 == o_2.2)) (F_law10_awake) default).bind fun a0_2 => (some ((s0_2 && (o.2 == o_2.2)) && a0_2))))))

set_option maxHeartbeats 1000000 in
theorem c_law10_NoteReads {I D : Dm} {s0 : ByteArray} {w : World} {rr : Bool} (hF : F_law10_NoteReads s0 = some rr) (H : St I D w []) :
  Calls Try.prog 3 #[.string s0] w (Ret fun vv w' => vv = .bool rr ∧ ∃ I', Hf I D w I' w' []) := by
 replace H := H.hf
 unfold F_law10_NoteReads at hF
 refine f_enter 32 Try.func3 rfl rfl (Nat.le_of_ble_eq_true rfl) fun a Z => ?_
 replace Z := Z.sub (ts := [0]) rfl
 refine wp_seq (f_region Z ?_); clear Z; intro Z
 refine s_runk tN2 Z 1 rfl rfl ?_; clear Z a; intro a Z
 refine s_end Z [0, 2] rfl ?_; clear Z; intro Z
 refine p_then (wp_seq ?_)
 refine wp_seq (f_region Z ?_); clear Z; intro Z
 refine s_runk tN2 Z 3 rfl rfl ?_; clear Z a; intro a Z
 refine s_end Z [0, 2, 9] rfl ?_; clear Z; intro Z
 refine p_then ?_
 refine f_cond Z rfl (fun hc1 => ?_) (fun hc1 => ?_)
 ·replace hF := ite_t hc1 hF
  refine wp_seq ?_
  obtain ⟨a0, hx1, hF⟩ := bnd_in hF
  refine f_region Z ?_; clear Z; intro Z
  refine h_call Z H (js := []) rfl (caps := #[]) fn_6_YNote2 rfl rfl rfl rfl rfl (by decide) rfl rfl (fun D1 hS => have hq := c_law10_awake hx1 hS; hq) ?_; clear Z a; intro vv a w1 D2 hr hF2 Z
  obtain ⟨rfl, I1, K⟩ := hr
  have H : Hf I D w I1 w1 [] := hF2 K
  clear hF2 K
  refine s_runk tN2 Z 1 rfl rfl ?_; clear Z a; intro a Z
  refine s_end Z [0, 2] rfl ?_; clear Z; intro Z
  refine p_then (wp_ret ?_)
  refine p_then_r ?_
  obtain rfl := some_in hF
  exact f_ret Z (run_results1 rfl Z rfl) ⟨rfl, I1, (H.sub [] rfl).eq rfl⟩
 ·replace hF := ite_f hc1 hF
  refine wp_skip ?_
  refine p_then (wp_seq ?_)
  obtain ⟨o, hx2, hF⟩ := bnd_in hF
  refine f_region Z ?_; clear Z; intro Z
  refine s_runk tN2 Z 1 rfl rfl ?_; clear Z a; intro a Z
  refine h_call Z H (js := []) rfl (caps := #[]) fn_7_YNote2 rfl rfl rfl rfl rfl (by decide) rfl rfl (fun D1 hS => have hq := c_note_Of hx2 hS; hq) ?_; clear Z a; intro vv a w2 D2 hr hF2 Z
  obtain ⟨q1, q2, q3, rfl, I2, K⟩ := hr
  have H : Hf I D w I2 w2 [SlC NEMember q1 o.1.conf.members, SlC Ni64 q2 o.1.legit, SlC NEOp q3 o.1.entry.batch.ops] := hF2 K
  clear hF2 K
  refine s_runk tN2 Z 3 rfl rfl ?_; clear Z a; intro a Z
  refine h_alloc Z H (cl := [.int .i64 0, .int .i64 0, .int .u64 0, .int .i64 0, .slice none 0 0, .int .u64 0, .slice none 0 0, .int .i64 0, .int .i64 0, .slice none 0 0, .int .u64 0, .int .i64 0, .int .u64 0, .int .i64 0, .int .i64 0, .int .i64 0, .int .i64 0, .int .i64 0]) (z := .agg #[.int .i64 0, .int .i64 0, .int .u64 0, .int .i64 0, .slice none 0 0, .int .u64 0, .slice none 0 0, .int .i64 0, .int .i64 0, .slice none 0 0, .int .u64 0, .int .i64 0, .int .u64 0, .int .i64 0, .int .i64 0, .int .i64 0, .int .i64 0, .int .i64 0]) rfl rfl rfl (by decide) rfl (by kernel_rfl) rfl ?_; clear Z a H; intro a w3 b1 H Z
  refine h_store tN2 Z H 0 rfl rfl rfl rfl rfl rfl rfl rfl rfl (one_cons rfl (one_cons rfl (one_cons rfl (one_cons rfl (one_cons (slS.one (H.slshape 1 rfl)) (one_cons rfl (one_cons (slS.one (H.slshape 2 rfl)) (one_cons rfl (one_cons rfl (one_cons (slS.one (H.slshape 3 rfl)) (one_cons rfl (one_cons rfl (one_cons rfl (one_cons rfl (one_cons rfl (one_cons rfl (one_cons rfl (one_cons rfl one_nil)))))))))))))))))) (Nat.le_of_ble_eq_true rfl) (putCells_all rfl) ?_; clear H; intro w4 H
  dsimp only [List.eraseIdx] at H
  refine s_runk tN2 Z 1 rfl rfl ?_; clear Z a; intro a Z
  refine s_end Z [0, 2, 3, 4] rfl ?_; clear Z; intro Z
  refine p_then (wp_seq ?_)
  obtain ⟨o_2, hx3, hF⟩ := bnd_in hF
  refine f_region Z ?_; clear Z; intro Z
  refine s_runk tN2 Z 1 rfl rfl ?_; clear Z a; intro a Z
  refine h_call Z H (js := []) rfl (caps := #[]) fn_8_YNote2 rfl rfl rfl rfl rfl (by decide) rfl rfl (fun D1 hS => have hq := c_ref10_Of hx3 hS; hq) ?_; clear Z a; intro vv a w5 D2 hr hF2 Z
  obtain ⟨q4, q5, q6, rfl, I3, K⟩ := hr
  have H : Hf I D w I3 w5 [SlC NEMember q4 o_2.1.conf.members, SlC Ni64 q5 o_2.1.legit, SlC NEOp q6 o_2.1.entry.batch.ops, BxC b1 39 (cENote o.1 q1 q2 q3), SlC NEMember q1 o.1.conf.members, SlC Ni64 q2 o.1.legit, SlC NEOp q3 o.1.entry.batch.ops] := hF2 K
  clear hF2 K
  refine s_runk tN2 Z 3 rfl rfl ?_; clear Z a; intro a Z
  refine h_alloc Z H (cl := [.int .i64 0, .int .i64 0, .int .u64 0, .int .i64 0, .slice none 0 0, .int .u64 0, .slice none 0 0, .int .i64 0, .int .i64 0, .slice none 0 0, .int .u64 0, .int .i64 0, .int .u64 0, .int .i64 0, .int .i64 0, .int .i64 0, .int .i64 0, .int .i64 0]) (z := .agg #[.int .i64 0, .int .i64 0, .int .u64 0, .int .i64 0, .slice none 0 0, .int .u64 0, .slice none 0 0, .int .i64 0, .int .i64 0, .slice none 0 0, .int .u64 0, .int .i64 0, .int .u64 0, .int .i64 0, .int .i64 0, .int .i64 0, .int .i64 0, .int .i64 0]) rfl rfl rfl (by decide) rfl (by kernel_rfl) rfl ?_; clear Z a H; intro a w6 b2 H Z
  refine h_store tN2 Z H 0 rfl rfl rfl rfl rfl rfl rfl rfl rfl (one_cons rfl (one_cons rfl (one_cons rfl (one_cons rfl (one_cons (slS.one (H.slshape 1 rfl)) (one_cons rfl (one_cons (slS.one (H.slshape 2 rfl)) (one_cons rfl (one_cons rfl (one_cons (slS.one (H.slshape 3 rfl)) (one_cons rfl (one_cons rfl (one_cons rfl (one_cons rfl (one_cons rfl (one_cons rfl (one_cons rfl (one_cons rfl one_nil)))))))))))))))))) (Nat.le_of_ble_eq_true rfl) (putCells_all rfl) ?_; clear H; intro w7 H
  dsimp only [List.eraseIdx] at H
  refine s_runk tN2 Z 1 rfl rfl ?_; clear Z a; intro a Z
  refine s_end Z [2, 3, 4, 5, 6] rfl ?_; clear Z; intro Z
  refine p_then (wp_seq ?_)
  obtain ⟨s0_2, hx4, hF⟩ := bnd_in hF
  obtain ⟨a0_2, hx5, hF⟩ := bnd_in hF
  refine f_region Z ?_; clear Z; intro Z
  refine s_ob Z (v := .agg #[.int .i64 o.1.k, .int .i64 o.1.n, .int .u64 o.1.at_, .int .i64 o.1.conf.epoch, q1, .int .u64 o.1.conf.floor, q2, .int .i64 o.1.entry.batch.client, .int .i64 o.1.entry.batch.req, q3, .int .u64 o.1.entry.ts, .int .i64 o.1.pin.id, .int .u64 o.1.pin.at_, .int .i64 o.1.pin.left, .int .i64 o.1.said.client, .int .i64 o.1.said.req, .int .i64 o.1.said.e, .int .i64 o.1.said.pin]) rfl rfl (by decide) rfl (Ob_loads tN2 rfl rfl rfl ((H.bx 4 rfl).part 0 rfl)) ?_; clear Z a; intro a Z
  refine s_ob Z (v := .agg #[.int .i64 o_2.1.k, .int .i64 o_2.1.n, .int .u64 o_2.1.at_, .int .i64 o_2.1.conf.epoch, q4, .int .u64 o_2.1.conf.floor, q5, .int .i64 o_2.1.entry.batch.client, .int .i64 o_2.1.entry.batch.req, q6, .int .u64 o_2.1.entry.ts, .int .i64 o_2.1.pin.id, .int .u64 o_2.1.pin.at_, .int .i64 o_2.1.pin.left, .int .i64 o_2.1.said.client, .int .i64 o_2.1.said.req, .int .i64 o_2.1.said.e, .int .i64 o_2.1.said.pin]) rfl rfl (by decide) rfl (Ob_loads tN2 rfl rfl rfl ((H.bx 0 rfl).part 0 rfl)) ?_; clear Z a; intro a Z
  refine h_call Z H (js := [(5, true), (6, true), (7, true), (1, true), (2, true), (3, true)]) rfl (caps := #[]) fn_9_YNote2 rfl rfl rfl rfl rfl (by decide) rfl rfl (fun D1 hS => have hq := c_ref10_Same hx4 hS; hq) ?_; clear Z a; intro vv a w8 D2 hr hF2 Z
  obtain ⟨rfl, I4, K⟩ := hr
  have H : Hf I D w I4 w8 [BxC b2 39 (cENote o_2.1 q4 q5 q6), SlC NEMember q4 o_2.1.conf.members, SlC Ni64 q5 o_2.1.legit, SlC NEOp q6 o_2.1.entry.batch.ops, BxC b1 39 (cENote o.1 q1 q2 q3), SlC NEMember q1 o.1.conf.members, SlC Ni64 q2 o.1.legit, SlC NEOp q3 o.1.entry.batch.ops] := hF2 K
  clear hF2 K
  refine s_runk tN2 Z 1 rfl rfl ?_; clear Z a; intro a Z
  refine g_ob Z (p := s0_2) (v := .int .i64 o.2) (S' := [(4, .int .i64 o.2)]) rfl rfl rfl (wantB_t _) rfl (by decide) (fun hp hS => hS.sub (ts := [4]) rfl) (fun hp => Ob_c tN2 rfl) ?_; clear Z a; intro a Z
  refine g_ob Z (p := s0_2) (v := .int .i64 o_2.2) (S' := [(6, .int .i64 o_2.2)]) rfl rfl rfl (wantB_t _) rfl (by decide) (fun hp hS => hS.sub (ts := [6]) rfl) (fun hp => Ob_c tN2 rfl) ?_; clear Z a; intro a Z
  refine g_ob Z (p := s0_2) (v := .bool (o.2 == o_2.2)) (S' := [(25, .int .i64 o.2), (26, .int .i64 o_2.2)]) rfl rfl rfl (wantB_t _) rfl (by decide) (fun hp hS => ((hS.conv (t := 25) rfl (cond_t hp)).conv (t := 26) rfl (cond_t hp)).sub (ts := [25, 26]) rfl) (fun hp => Ob_c tN2 rfl) ?_; clear Z a; intro a Z
  refine s_ob Z (v := .bool (s0_2 && (o.2 == o_2.2))) rfl rfl (by decide) rfl (Ob_pick rfl rfl rfl rfl (pick_and _ _)) ?_; clear Z a; intro a Z
  refine s_runk tN2 Z 1 rfl rfl ?_; clear Z a; intro a Z
  refine g_call Z (p := (s0_2 && (o.2 == o_2.2))) (v := .bool a0_2) (S' := []) (caps := #[]) fn_6_YNote2 rfl rfl rfl (wantB_t _) rfl (by decide) (fun hp hS => hS.sub (ts := []) rfl) rfl rfl rfl rfl (fun hp => have hq := c_law10_awake (gif_in hx5 hp) (H.pick0 (js := []) rfl rfl); plainC hq) ?_; clear Z a; intro a w9 hb Z
  replace H : Hf I D w I4 w9 [BxC b2 39 (cENote o_2.1 q4 q5 q6), SlC NEMember q4 o_2.1.conf.members, SlC Ni64 q5 o_2.1.legit, SlC NEOp q6 o_2.1.entry.batch.ops, BxC b1 39 (cENote o.1 q1 q2 q3), SlC NEMember q1 o.1.conf.members, SlC Ni64 q2 o.1.legit, SlC NEOp q3 o.1.entry.batch.ops] := H.blw hb
  clear hb
  refine s_ob Z (v := .bool ((s0_2 && (o.2 == o_2.2)) && a0_2)) rfl rfl (by decide) rfl (Ob_pick rfl rfl rfl rfl (pick_and _ _)) ?_; clear Z a; intro a Z
  refine s_runk tN2 Z 1 rfl rfl ?_; clear Z a; intro a Z
  refine s_end Z [2] rfl ?_; clear Z; intro Z
  refine p_then (wp_ret ?_)
  obtain rfl := some_in hF
  exact f_ret Z (run_results1 rfl Z rfl) ⟨rfl, I4, (H.sub [] rfl).eq rfl⟩

end Go.Proofs.Ytbfglbbbkcpgeaa
