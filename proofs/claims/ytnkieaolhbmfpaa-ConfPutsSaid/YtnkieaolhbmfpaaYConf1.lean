/- Configurations: read out of bytes. -/
import Derived.Test.YtnkieaolhbmfpaaYConf
namespace Go.Proofs.Ytnkieaolhbmfpaa
open Go.RowKit
def TB_YConf1L : TabL := ⟨[(25600, 0), (25601, 1), (25602, 2), (29697, 1)], [], [], [(22, (29, 2))], [(3, (1, false)), (22, (1, false)), (23, (1, false)), (25, (3, true)), (29, (2, true))]⟩

def TB_YConf1 : Tab Try.prog := ⟨TB_YConf1L, by kernel_rfl⟩

theorem fn_35_YConf1 : IsFn Try.prog 35 := ⟨_, Try.func35, by kernel_rfl, by kernel_rfl⟩

theorem eql_EMember (x y : EMember) (w : World) : (binOp .eql 29 (.agg (cEMember x).toArray) (.agg (cEMember y).toArray)).run Try.prog w = .ok (.bool (eqEMember x y)) w := by
  have h1 := run_equalIn_struct (P := Try.prog) w 9999 29 (cEMember x).toArray (cEMember y).toArray (by rw [fieldsOf_of Try.underlying29]; exact Try.underlying29) (by kernel_rfl)
  rw [run_eql_struct, h1, fieldsOf_of Try.underlying29]
  simp [Op.eqFields, part, isAgg, cEMember, beqS, eqEMember, seqB_eq, run_underlying Try.underlying3, run_equalIn_int w 9998 3 _ _ _ _ Try.underlying3]
  try ((repeat' split) <;> simp_all)

theorem neq_EMember (x y : EMember) (w : World) : (binOp .neq 29 (.agg (cEMember x).toArray) (.agg (cEMember y).toArray)).run Try.prog w = .ok (.bool (!eqEMember x y)) w := by
  have h1 := run_equalIn_struct (P := Try.prog) w 9999 29 (cEMember x).toArray (cEMember y).toArray (by rw [fieldsOf_of Try.underlying29]; exact Try.underlying29) (by kernel_rfl)
  rw [run_neq_struct, h1, fieldsOf_of Try.underlying29]
  simp [Op.eqFields, part, isAgg, cEMember, beqS, eqEMember, seqB_eq, run_underlying Try.underlying3, run_equalIn_int w 9998 3 _ _ _ _ Try.underlying3]
  try ((repeat' split) <;> simp_all)

theorem eqg_EMember (op : BinOp) (x y : Operand) (a b : Array Value) (w : World) : (eqGuard op 29 x y (.agg a) (.agg b)).run Try.prog w = .ok () w := run_eqGuard_agg (by kernel_rfl) op x y a b w

def F_ref07_Same_l1 (a0 : EConf) (b : EConf) (rc : Int → Option Bool) (sg : Int) : Option Bool := match sg with | i => if ((decide (i < (a0.members.length : Int))) && (decide (i < (b.members.length : Int)))) = true then (chk ((0 : Int) ≤ i ∧ i < (a0.members.length : Int)) (chk ((0 : Int) ≤ i ∧ i < (b.members.length : Int)) (if (!eqEMember (a0.members.getD (i).toNat default) (b.members.getD (i).toNat default)) = true then (some false) else (chk (inI (i + 1)) (rc (i + 1)))))) else (some true)

def F_ref07_Same (a0 : EConf) (b : EConf) : Option Bool := if (((a0.epoch != b.epoch) || (a0.floor != b.floor)) || ((a0.members.length : Int) != (b.members.length : Int))) = true then (some false) else (iter (F_ref07_Same_l1 a0 b) FU 0)

set_option maxHeartbeats 1000000 in
theorem c_ref07_Same {I D : Dm} {a0 : EConf} {v1_a0 : Value} {b : EConf} {v2_b : Value} {w : World} {rr : Bool} (hF : F_ref07_Same a0 b = some rr) (H : St I D w [SlC NEMember v1_a0 a0.members, SlC NEMember v2_b b.members]) :
    Calls Try.prog 18 #[.agg #[.int .i64 a0.epoch, v1_a0, .int .u64 a0.floor], .agg #[.int .i64 b.epoch, v2_b, .int .u64 b.floor]] w (Ret fun vv w' => vv = .bool rr ∧ ∃ I', Hf I D w I' w' []) := by
  replace H := H.hf
  unfold F_ref07_Same at hF
  refine f_enter 52 Try.func18 rfl rfl (Nat.le_of_ble_eq_true rfl) fun a hok => ?_
  replace hok := hok.sub (ts := [0, 1]) rfl
  refine wp_seq ?_
  refine f_region hok ?_; clear hok; intro hok
  refine h_boxv hok H (cl := [.int .i64 a0.epoch, v1_a0, .int .u64 a0.floor]) rfl rfl rfl (by decide) rfl rfl rfl ?_; clear hok a H; intro a w1 b1 H hok
  refine h_boxv hok H (cl := [.int .i64 b.epoch, v2_b, .int .u64 b.floor]) rfl rfl rfl (by decide) rfl rfl rfl ?_; clear hok a H; intro a w2 b2 H hok
  refine s_runk TB_YConf1 hok 1 rfl rfl ?_; clear hok a; intro a hok
  refine s_end hok [2, 3, 4] rfl ?_; clear hok; intro hok
  refine p_then ?_
  refine wp_seq ?_
  refine wp_seq ?_
  refine f_region hok ?_; clear hok; intro hok
  refine s_runk TB_YConf1 hok 1 rfl rfl ?_; clear hok a; intro a hok
  refine s_ob hok (v := .int .i64 a0.epoch) rfl rfl (by decide) rfl (Ob_load TB_YConf1 rfl rfl rfl ((H.bx 1 rfl).cell 0 rfl)) ?_; clear hok a; intro a hok
  refine s_runk TB_YConf1 hok 1 rfl rfl ?_; clear hok a; intro a hok
  refine s_ob hok (v := .int .i64 b.epoch) rfl rfl (by decide) rfl (Ob_load TB_YConf1 rfl rfl rfl ((H.bx 0 rfl).cell 0 rfl)) ?_; clear hok a; intro a hok
  refine s_runk TB_YConf1 hok 2 rfl rfl ?_; clear hok a; intro a hok
  refine g_ob hok (p := (!(a0.epoch != b.epoch))) (v := .pointer (some ⟨b1, 2, none⟩)) (S' := [(2, .pointer (some ⟨b1, 0, none⟩))]) rfl rfl rfl (wantB_f _) rfl (by decide) (fun hp hS => hS.sub (ts := [2]) rfl) (fun hp => Ob_c TB_YConf1 rfl) ?_; clear hok a; intro a hok
  refine g_ob hok (p := (!(a0.epoch != b.epoch))) (v := .int .u64 a0.floor) (S' := [(12, .pointer (some ⟨b1, 2, none⟩))]) rfl rfl rfl (wantB_f _) rfl (by decide) (fun hp hS => (hS.conv (t := 12) rfl (cond_t hp)).sub (ts := [12]) rfl) (fun hp => Ob_load TB_YConf1 rfl rfl rfl ((H.bx 1 rfl).cell 2 rfl)) ?_; clear hok a; intro a hok
  refine g_ob hok (p := (!(a0.epoch != b.epoch))) (v := .pointer (some ⟨b2, 2, none⟩)) (S' := [(3, .pointer (some ⟨b2, 0, none⟩))]) rfl rfl rfl (wantB_f _) rfl (by decide) (fun hp hS => hS.sub (ts := [3]) rfl) (fun hp => Ob_c TB_YConf1 rfl) ?_; clear hok a; intro a hok
  refine g_ob hok (p := (!(a0.epoch != b.epoch))) (v := .int .u64 b.floor) (S' := [(14, .pointer (some ⟨b2, 2, none⟩))]) rfl rfl rfl (wantB_f _) rfl (by decide) (fun hp hS => (hS.conv (t := 14) rfl (cond_t hp)).sub (ts := [14]) rfl) (fun hp => Ob_load TB_YConf1 rfl rfl rfl ((H.bx 0 rfl).cell 2 rfl)) ?_; clear hok a; intro a hok
  refine g_ob hok (p := (!(a0.epoch != b.epoch))) (v := .bool (a0.floor != b.floor)) (S' := [(13, .int .u64 a0.floor), (15, .int .u64 b.floor)]) rfl rfl rfl (wantB_f _) rfl (by decide) (fun hp hS => ((hS.conv (t := 13) rfl (cond_t hp)).conv (t := 15) rfl (cond_t hp)).sub (ts := [13, 15]) rfl) (fun hp => Ob_c TB_YConf1 rfl) ?_; clear hok a; intro a hok
  refine s_ob hok (v := .bool ((a0.epoch != b.epoch) || (a0.floor != b.floor))) rfl rfl (by decide) rfl (Ob_pick rfl rfl rfl rfl (pick_or _ _)) ?_; clear hok a; intro a hok
  refine s_runk TB_YConf1 hok 1 rfl rfl ?_; clear hok a; intro a hok
  refine g_ob hok (p := (!((a0.epoch != b.epoch) || (a0.floor != b.floor)))) (v := .pointer (some ⟨b1, 1, none⟩)) (S' := [(2, .pointer (some ⟨b1, 0, none⟩))]) rfl rfl rfl (wantB_f _) rfl (by decide) (fun hp hS => hS.sub (ts := [2]) rfl) (fun hp => Ob_c TB_YConf1 rfl) ?_; clear hok a; intro a hok
  refine g_ob hok (p := (!((a0.epoch != b.epoch) || (a0.floor != b.floor)))) (v := v1_a0) (S' := [(19, .pointer (some ⟨b1, 1, none⟩))]) rfl rfl rfl (wantB_f _) rfl (by decide) (fun hp hS => (hS.conv (t := 19) rfl (cond_t hp)).sub (ts := [19]) rfl) (fun hp => Ob_load TB_YConf1 rfl rfl rfl ((H.bx 1 rfl).cell 1 rfl)) ?_; clear hok a; intro a hok
  refine g_ob hok (p := (!((a0.epoch != b.epoch) || (a0.floor != b.floor)))) (v := .int .i64 (a0.members.length : Int)) (S' := [(20, v1_a0)]) rfl rfl rfl (wantB_f _) rfl (by decide) (fun hp hS => (hS.conv (t := 20) rfl (cond_t hp)).sub (ts := [20]) rfl) (fun hp => Ob_slen TB_YConf1 rfl rfl rfl (H.slshape 2 rfl)) ?_; clear hok a; intro a hok
  refine g_ob hok (p := (!((a0.epoch != b.epoch) || (a0.floor != b.floor)))) (v := .pointer (some ⟨b2, 1, none⟩)) (S' := [(3, .pointer (some ⟨b2, 0, none⟩))]) rfl rfl rfl (wantB_f _) rfl (by decide) (fun hp hS => hS.sub (ts := [3]) rfl) (fun hp => Ob_c TB_YConf1 rfl) ?_; clear hok a; intro a hok
  refine g_ob hok (p := (!((a0.epoch != b.epoch) || (a0.floor != b.floor)))) (v := v2_b) (S' := [(22, .pointer (some ⟨b2, 1, none⟩))]) rfl rfl rfl (wantB_f _) rfl (by decide) (fun hp hS => (hS.conv (t := 22) rfl (cond_t hp)).sub (ts := [22]) rfl) (fun hp => Ob_load TB_YConf1 rfl rfl rfl ((H.bx 0 rfl).cell 1 rfl)) ?_; clear hok a; intro a hok
  refine g_ob hok (p := (!((a0.epoch != b.epoch) || (a0.floor != b.floor)))) (v := .int .i64 (b.members.length : Int)) (S' := [(23, v2_b)]) rfl rfl rfl (wantB_f _) rfl (by decide) (fun hp hS => (hS.conv (t := 23) rfl (cond_t hp)).sub (ts := [23]) rfl) (fun hp => Ob_slen TB_YConf1 rfl rfl rfl (H.slshape 3 rfl)) ?_; clear hok a; intro a hok
  refine g_ob hok (p := (!((a0.epoch != b.epoch) || (a0.floor != b.floor)))) (v := .bool ((a0.members.length : Int) != (b.members.length : Int))) (S' := [(21, .int .i64 (a0.members.length : Int)), (24, .int .i64 (b.members.length : Int))]) rfl rfl rfl (wantB_f _) rfl (by decide) (fun hp hS => ((hS.conv (t := 21) rfl (cond_t hp)).conv (t := 24) rfl (cond_t hp)).sub (ts := [21, 24]) rfl) (fun hp => Ob_c TB_YConf1 rfl) ?_; clear hok a; intro a hok
  refine s_ob hok (v := .bool (((a0.epoch != b.epoch) || (a0.floor != b.floor)) || ((a0.members.length : Int) != (b.members.length : Int)))) rfl rfl (by decide) rfl (Ob_pick rfl rfl rfl rfl (pick_or _ _)) ?_; clear hok a; intro a hok
  refine s_end hok [2, 3, 4, 26] rfl ?_; clear hok; intro hok
  refine p_then ?_
  refine f_cond hok rfl (fun hc1 => ?_) (fun hc1 => ?_)
  · replace hF := ite_t hc1 hF
    refine wp_seq ?_
    refine f_region hok ?_; clear hok; intro hok
    refine s_runk TB_YConf1 hok 1 rfl rfl ?_; clear hok a; intro a hok
    refine s_end hok [2, 3, 4] rfl ?_; clear hok; intro hok
    refine p_then ?_
    refine wp_ret ?_
    refine p_then_r ?_
    obtain rfl := some_in hF
    exact f_ret hok (run_results1 rfl hok rfl) ⟨rfl, I, (H.sub [] rfl).eq rfl⟩
  · replace hF := ite_f hc1 hF
    refine wp_skip ?_
    refine p_then ?_
    refine wp_seq ?_
    refine wp_seq ?_
    refine f_region hok ?_; clear hok; intro hok
    refine s_runk TB_YConf1 hok 1 rfl rfl ?_; clear hok a; intro a hok
    refine s_end hok [2, 3, 4, 5] rfl ?_; clear hok; intro hok
    refine p_then ?_
    refine wp_block ?_
    refine f_iter hF (fun sg a' w' => match sg with | i => Sl 52 [(2, .pointer (some ⟨b1, 0, none⟩)), (3, .pointer (some ⟨b2, 0, none⟩)), (4, .bool false), (5, .int .i64 i)] a' ∧ ∃ I2, Hf I D w I2 w' [BxC b1 25 [.int .i64 a0.epoch, v1_a0, .int .u64 a0.floor], BxC b2 25 [.int .i64 b.epoch, v2_b, .int .u64 b.floor], SlC NEMember v1_a0 a0.members, SlC NEMember v2_b b.members]) ⟨hok.sub (ts := [2, 3, 4, 5]) rfl, ⟨I, (H.sub [(1, false), (0, false), (0, true), (1, true)] rfl).eq rfl⟩⟩ ?_
    clear hok H hF a
    rintro rc i a w3 ⟨hok, I1, H⟩ hF
    unfold F_ref07_Same_l1 at hF
    try dsimp only at hF
    refine wp_seq ?_
    refine wp_seq ?_
    refine f_region hok ?_; clear hok; intro hok
    refine s_runk TB_YConf1 hok 2 rfl rfl ?_; clear hok a; intro a hok
    refine s_ob hok (v := v1_a0) rfl rfl (by decide) rfl (Ob_load TB_YConf1 rfl rfl rfl ((H.bx 0 rfl).cell 1 rfl)) ?_; clear hok a; intro a hok
    refine s_ob hok (v := .int .i64 (a0.members.length : Int)) rfl rfl (by decide) rfl (Ob_slen TB_YConf1 rfl rfl rfl (H.slshape 2 rfl)) ?_; clear hok a; intro a hok
    refine s_runk TB_YConf1 hok 2 rfl rfl ?_; clear hok a; intro a hok
    refine g_ob hok (p := (decide (i < (a0.members.length : Int)))) (v := .int .i64 i) (S' := [(5, .int .i64 i)]) rfl rfl rfl (wantB_t _) rfl (by decide) (fun hp hS => hS.sub (ts := [5]) rfl) (fun hp => Ob_c TB_YConf1 rfl) ?_; clear hok a; intro a hok
    refine g_ob hok (p := (decide (i < (a0.members.length : Int)))) (v := .pointer (some ⟨b2, 1, none⟩)) (S' := [(3, .pointer (some ⟨b2, 0, none⟩))]) rfl rfl rfl (wantB_t _) rfl (by decide) (fun hp hS => hS.sub (ts := [3]) rfl) (fun hp => Ob_c TB_YConf1 rfl) ?_; clear hok a; intro a hok
    refine g_ob hok (p := (decide (i < (a0.members.length : Int)))) (v := v2_b) (S' := [(34, .pointer (some ⟨b2, 1, none⟩))]) rfl rfl rfl (wantB_t _) rfl (by decide) (fun hp hS => (hS.conv (t := 34) rfl (cond_t hp)).sub (ts := [34]) rfl) (fun hp => Ob_load TB_YConf1 rfl rfl rfl ((H.bx 1 rfl).cell 1 rfl)) ?_; clear hok a; intro a hok
    refine g_ob hok (p := (decide (i < (a0.members.length : Int)))) (v := .int .i64 (b.members.length : Int)) (S' := [(35, v2_b)]) rfl rfl rfl (wantB_t _) rfl (by decide) (fun hp hS => (hS.conv (t := 35) rfl (cond_t hp)).sub (ts := [35]) rfl) (fun hp => Ob_slen TB_YConf1 rfl rfl rfl (H.slshape 3 rfl)) ?_; clear hok a; intro a hok
    refine g_ob hok (p := (decide (i < (a0.members.length : Int)))) (v := .bool (decide (i < (b.members.length : Int)))) (S' := [(33, .int .i64 i), (36, .int .i64 (b.members.length : Int))]) rfl rfl rfl (wantB_t _) rfl (by decide) (fun hp hS => ((hS.conv (t := 33) rfl (cond_t hp)).conv (t := 36) rfl (cond_t hp)).sub (ts := [33, 36]) rfl) (fun hp => Ob_c TB_YConf1 rfl) ?_; clear hok a; intro a hok
    refine s_ob hok (v := .bool ((decide (i < (a0.members.length : Int))) && (decide (i < (b.members.length : Int))))) rfl rfl (by decide) rfl (Ob_pick rfl rfl rfl rfl (pick_and _ _)) ?_; clear hok a; intro a hok
    refine s_end hok [2, 3, 4, 5, 27, 28, 29, 30, 31, 32, 38] rfl ?_; clear hok; intro hok
    refine p_then ?_
    refine f_cond hok rfl (fun hc2 => ?_) (fun hc2 => ?_)
    · replace hF := ite_t hc2 hF
      refine wp_skip ?_
      refine p_then ?_
      refine wp_seq ?_
      refine wp_block ?_
      refine wp_seq ?_
      obtain ⟨hg1, hF⟩ := chk_in hF
      obtain ⟨hg2, hF⟩ := chk_in hF
      refine f_quietd (by kernel_rfl) (by kernel_rfl) hok ?_; clear hok; intro hok
      refine q_runk TB_YConf1 hok 1 rfl rfl ?_; clear hok a; intro a hok
      refine q_ob hok (v := v1_a0) rfl rfl (by decide) rfl (fun _ hw => Ob_load TB_YConf1 rfl rfl rfl (((H.blw hw).bx 0 rfl).cell 1 rfl)) ?_; clear hok a; intro a hok
      refine q_runk TB_YConf1 hok 1 rfl rfl ?_; clear hok a; intro a hok
      refine q_ob hok (v := .pointer (some ⟨blkOf v1_a0, oofOf v1_a0 + (i).toNat * 2, none⟩)) rfl rfl (by decide) rfl (fun _ hw => Ob_sidx TB_YConf1 rfl rfl rfl rfl (slPl ((H.blw hw).sl 2 rfl) hg1) hg1) ?_; clear hok a; intro a hok
      refine q_ob hok (v := .agg #[.int .i64 ((a0.members.getD (i).toNat default).id), .int .i64 ((a0.members.getD (i).toNat default).serial)]) rfl rfl (by decide) rfl (fun _ hw => Ob_loads TB_YConf1 rfl rfl rfl ((slFl ((H.blw hw).sl 2 rfl) hg1).part 0 rfl)) ?_; clear hok a; intro a hok
      refine q_runk TB_YConf1 hok 1 rfl rfl ?_; clear hok a; intro a hok
      refine q_ob hok (v := v2_b) rfl rfl (by decide) rfl (fun _ hw => Ob_load TB_YConf1 rfl rfl rfl (((H.blw hw).bx 1 rfl).cell 1 rfl)) ?_; clear hok a; intro a hok
      refine q_runk TB_YConf1 hok 1 rfl rfl ?_; clear hok a; intro a hok
      refine q_ob hok (v := .pointer (some ⟨blkOf v2_b, oofOf v2_b + (i).toNat * 2, none⟩)) rfl rfl (by decide) rfl (fun _ hw => Ob_sidx TB_YConf1 rfl rfl rfl rfl (slPl ((H.blw hw).sl 3 rfl) hg2) hg2) ?_; clear hok a; intro a hok
      refine q_ob hok (v := .agg #[.int .i64 ((b.members.getD (i).toNat default).id), .int .i64 ((b.members.getD (i).toNat default).serial)]) rfl rfl (by decide) rfl (fun _ hw => Ob_loads TB_YConf1 rfl rfl rfl ((slFl ((H.blw hw).sl 3 rfl) hg2).part 0 rfl)) ?_; clear hok a; intro a hok
      refine q_ob hok (v := .bool (!eqEMember (a0.members.getD (i).toNat default) (b.members.getD (i).toNat default))) rfl rfl (by decide) rfl (fun _ hw => Ob_bin rfl rfl rfl (eqg_EMember _ _ _ _ _ _) (neq_EMember (a0.members.getD (i).toNat default) (b.members.getD (i).toNat default) _)) ?_; clear hok a; intro a hok
      refine q_end hok [2, 3, 4, 5, 27, 28, 29, 30, 31, 32, 38, 41, 42, 43, 44, 45, 46, 47, 48, 49, 50, 51] rfl ?_; clear hok; intro w4 hb hok
      replace H : Hf I D w I1 w4 [BxC b1 25 [.int .i64 a0.epoch, v1_a0, .int .u64 a0.floor], BxC b2 25 [.int .i64 b.epoch, v2_b, .int .u64 b.floor], SlC NEMember v1_a0 a0.members, SlC NEMember v2_b b.members] := H.blw hb
      clear hb
      refine p_then ?_
      refine f_cond hok rfl (fun hc3 => ?_) (fun hc3 => ?_)
      · replace hF := ite_t hc3 hF
        refine wp_seq ?_
        refine f_region hok ?_; clear hok; intro hok
        refine s_runk TB_YConf1 hok 1 rfl rfl ?_; clear hok a; intro a hok
        refine s_end hok [2, 3, 4, 5, 27, 28, 29, 30, 31, 32, 38, 41, 42, 43, 44, 45, 46, 47, 48, 49, 50, 51] rfl ?_; clear hok; intro hok
        refine p_then ?_
        refine wp_ret ?_
        refine p_blk_r ?_
        refine p_then_r ?_
        refine p_then_r ?_
        refine p_blk_r ?_
        refine p_then_r ?_
        obtain rfl := some_in hF
        exact f_ret hok (run_results1 rfl hok rfl) ⟨rfl, I1, (H.sub [] rfl).eq rfl⟩
      · replace hF := ite_f hc3 hF
        refine wp_skip ?_
        refine p_blk ?_
        refine p_then ?_
        obtain ⟨hg3, hF⟩ := chk_in hF
        refine f_region hok ?_; clear hok; intro hok
        refine s_runk TB_YConf1 hok 1 rfl rfl ?_; clear hok a; intro a hok
        refine s_ob hok (v := .int .i64 (i + 1)) rfl rfl (by decide) rfl (Ob_add rfl rfl rfl (wrI hg3)) ?_; clear hok a; intro a hok
        refine s_runk TB_YConf1 hok 1 rfl rfl ?_; clear hok a; intro a hok
        refine s_end hok [2, 3, 4, 5, 27, 28, 29, 30, 31, 32, 38, 41, 42, 43, 44, 45, 46, 47, 48, 49, 50, 51, 39, 40] rfl ?_; clear hok; intro hok
        refine p_then ?_
        exact ⟨(i + 1), ⟨hok.sub (ts := [2, 3, 4, 5]) rfl, ⟨I1, (H.sub [(0, false), (0, false), (0, true), (1, true)] rfl).eq rfl⟩⟩, hF⟩
    · replace hF := ite_f hc2 hF
      refine wp_exit ?_
      refine p_then_x ?_
      refine p_then_x ?_
      refine f_exit_here ?_
      refine p_then ?_
      refine wp_seq ?_
      refine f_region hok ?_; clear hok; intro hok
      refine s_runk TB_YConf1 hok 1 rfl rfl ?_; clear hok a; intro a hok
      refine s_end hok [4] rfl ?_; clear hok; intro hok
      refine p_then ?_
      refine wp_ret ?_
      obtain rfl := some_in hF
      exact f_ret hok (run_results1 rfl hok rfl) ⟨rfl, I1, (H.sub [] rfl).eq rfl⟩

def F_slices_Equal_api_Member_api_Member_l1 (s1 : List EMember) (s2 : List EMember) (rc : Int → Option Bool) (sg : Int) : Option Bool := match sg with | x => if (decide (x < (s1.length : Int))) = true then (chk ((0 : Int) ≤ x ∧ x < (s1.length : Int)) (chk ((0 : Int) ≤ x ∧ x < (s2.length : Int)) (if (!eqEMember (s1.getD (x).toNat default) (s2.getD (x).toNat default)) = true then (some false) else (chk (inI (x + 1)) (rc (x + 1)))))) else (some true)

def F_slices_Equal_api_Member_api_Member (s1 : List EMember) (s2 : List EMember) : Option Bool := if ((s1.length : Int) != (s2.length : Int)) = true then (some false) else (iter (F_slices_Equal_api_Member_api_Member_l1 s1 s2) FU 0)

set_option maxHeartbeats 1000000 in
theorem c_slices_Equal_api_Member_api_Member {I D : Dm} {s1 : List EMember} {v1_s1 : Value} {s2 : List EMember} {v2_s2 : Value} {w : World} {rr : Bool} (hF : F_slices_Equal_api_Member_api_Member s1 s2 = some rr) (H : St I D w [SlC NEMember v1_s1 s1, SlC NEMember v2_s2 s2]) :
    Calls Try.prog 35 #[v1_s1, v2_s2] w (Ret fun vv w' => vv = .bool rr ∧ ∃ I', Hf I D w I' w' []) := by
  replace H := H.hf
  unfold F_slices_Equal_api_Member_api_Member at hF
  refine f_enter 26 Try.func35 rfl rfl (Nat.le_of_ble_eq_true rfl) fun a hok => ?_
  replace hok := hok.sub (ts := [0, 1]) rfl
  refine wp_seq ?_
  refine f_region hok ?_; clear hok; intro hok
  refine s_runk TB_YConf1 hok 1 rfl rfl ?_; clear hok a; intro a hok
  refine s_end hok [0, 1, 4] rfl ?_; clear hok; intro hok
  refine p_then ?_
  refine wp_seq ?_
  refine wp_seq ?_
  refine f_region hok ?_; clear hok; intro hok
  refine s_runk TB_YConf1 hok 1 rfl rfl ?_; clear hok a; intro a hok
  refine s_ob hok (v := .int .i64 (s1.length : Int)) rfl rfl (by decide) rfl (Ob_slen TB_YConf1 rfl rfl rfl (H.slshape 0 rfl)) ?_; clear hok a; intro a hok
  refine s_runk TB_YConf1 hok 1 rfl rfl ?_; clear hok a; intro a hok
  refine s_ob hok (v := .int .i64 (s2.length : Int)) rfl rfl (by decide) rfl (Ob_slen TB_YConf1 rfl rfl rfl (H.slshape 1 rfl)) ?_; clear hok a; intro a hok
  refine s_runk TB_YConf1 hok 1 rfl rfl ?_; clear hok a; intro a hok
  refine s_end hok [0, 1, 4, 10] rfl ?_; clear hok; intro hok
  refine p_then ?_
  refine f_cond hok rfl (fun hc1 => ?_) (fun hc1 => ?_)
  · replace hF := ite_t hc1 hF
    refine wp_seq ?_
    refine f_region hok ?_; clear hok; intro hok
    refine s_runk TB_YConf1 hok 1 rfl rfl ?_; clear hok a; intro a hok
    refine s_end hok [0, 1, 4] rfl ?_; clear hok; intro hok
    refine p_then ?_
    refine wp_ret ?_
    refine p_then_r ?_
    obtain rfl := some_in hF
    exact f_ret hok (run_results1 rfl hok rfl) ⟨rfl, I, (H.sub [] rfl).eq rfl⟩
  · replace hF := ite_f hc1 hF
    refine wp_skip ?_
    refine p_then ?_
    refine wp_seq ?_
    refine wp_seq ?_
    refine f_region hok ?_; clear hok; intro hok
    refine s_runk TB_YConf1 hok 1 rfl rfl ?_; clear hok a; intro a hok
    refine s_ob hok (v := .int .i64 (s1.length : Int)) rfl rfl (by decide) rfl (Ob_slen TB_YConf1 rfl rfl rfl (H.slshape 0 rfl)) ?_; clear hok a; intro a hok
    refine s_runk TB_YConf1 hok 1 rfl rfl ?_; clear hok a; intro a hok
    refine s_end hok [0, 1, 4, 12, 13] rfl ?_; clear hok; intro hok
    refine p_then ?_
    refine wp_block ?_
    refine f_iter hF (fun sg a' w' => match sg with | x => Sl 26 [(0, v1_s1), (1, v2_s2), (4, .bool false), (12, .int .i64 (s1.length : Int)), (13, .int .i64 x)] a' ∧ ∃ I2, Hf I D w I2 w' [SlC NEMember v1_s1 s1, SlC NEMember v2_s2 s2]) ⟨hok.sub (ts := [0, 1, 4, 12, 13]) rfl, ⟨I, (H.sub [(0, true), (1, true)] rfl).eq rfl⟩⟩ ?_
    clear hok H hF a
    rintro rc x a w1 ⟨hok, I1, H⟩ hF
    unfold F_slices_Equal_api_Member_api_Member_l1 at hF
    try dsimp only at hF
    refine wp_seq ?_
    refine f_region hok ?_; clear hok; intro hok
    refine s_runk TB_YConf1 hok 1 rfl rfl ?_; clear hok a; intro a hok
    refine s_end hok [0, 1, 4, 12, 13, 14] rfl ?_; clear hok; intro hok
    refine p_then ?_
    refine wp_seq ?_
    refine f_cond hok rfl (fun hc2 => ?_) (fun hc2 => ?_)
    · replace hF := ite_t hc2 hF
      refine wp_skip ?_
      refine p_then ?_
      refine wp_seq ?_
      refine wp_block ?_
      refine wp_seq ?_
      refine f_region hok ?_; clear hok; intro hok
      refine s_runk TB_YConf1 hok 2 rfl rfl ?_; clear hok a; intro a hok
      refine s_end hok [0, 1, 4, 12, 13, 14, 15, 5] rfl ?_; clear hok; intro hok
      refine p_then ?_
      refine wp_seq ?_
      obtain ⟨hg1, hF⟩ := chk_in hF
      obtain ⟨hg2, hF⟩ := chk_in hF
      refine f_quietd (by kernel_rfl) (by kernel_rfl) hok ?_; clear hok; intro hok
      refine q_runk TB_YConf1 hok 2 rfl rfl ?_; clear hok a; intro a hok
      refine q_ob hok (v := .pointer (some ⟨blkOf v1_s1, oofOf v1_s1 + (x).toNat * 2, none⟩)) rfl rfl (by decide) rfl (fun _ hw => Ob_sidx TB_YConf1 rfl rfl rfl rfl (slPl ((H.blw hw).sl 0 rfl) hg1) hg1) ?_; clear hok a; intro a hok
      refine q_ob hok (v := .agg #[.int .i64 ((s1.getD (x).toNat default).id), .int .i64 ((s1.getD (x).toNat default).serial)]) rfl rfl (by decide) rfl (fun _ hw => Ob_loads TB_YConf1 rfl rfl rfl ((slFl ((H.blw hw).sl 0 rfl) hg1).part 0 rfl)) ?_; clear hok a; intro a hok
      refine q_runk TB_YConf1 hok 2 rfl rfl ?_; clear hok a; intro a hok
      refine q_ob hok (v := .pointer (some ⟨blkOf v2_s2, oofOf v2_s2 + (x).toNat * 2, none⟩)) rfl rfl (by decide) rfl (fun _ hw => Ob_sidx TB_YConf1 rfl rfl rfl rfl (slPl ((H.blw hw).sl 1 rfl) hg2) hg2) ?_; clear hok a; intro a hok
      refine q_ob hok (v := .agg #[.int .i64 ((s2.getD (x).toNat default).id), .int .i64 ((s2.getD (x).toNat default).serial)]) rfl rfl (by decide) rfl (fun _ hw => Ob_loads TB_YConf1 rfl rfl rfl ((slFl ((H.blw hw).sl 1 rfl) hg2).part 0 rfl)) ?_; clear hok a; intro a hok
      refine q_ob hok (v := .bool (!eqEMember (s1.getD (x).toNat default) (s2.getD (x).toNat default))) rfl rfl (by decide) rfl (fun _ hw => Ob_bin rfl rfl rfl (eqg_EMember _ _ _ _ _ _) (neq_EMember (s1.getD (x).toNat default) (s2.getD (x).toNat default) _)) ?_; clear hok a; intro a hok
      refine q_end hok [0, 1, 4, 12, 13, 14, 15, 5, 16, 17, 18, 19, 20, 21, 22, 23, 24] rfl ?_; clear hok; intro w2 hb hok
      replace H : Hf I D w I1 w2 [SlC NEMember v1_s1 s1, SlC NEMember v2_s2 s2] := H.blw hb
      clear hb
      refine p_then ?_
      refine f_cond hok rfl (fun hc3 => ?_) (fun hc3 => ?_)
      · replace hF := ite_t hc3 hF
        refine wp_seq ?_
        refine f_region hok ?_; clear hok; intro hok
        refine s_runk TB_YConf1 hok 1 rfl rfl ?_; clear hok a; intro a hok
        refine s_end hok [0, 1, 4, 12, 13, 14, 15, 5, 16, 17, 18, 19, 20, 21, 22, 23, 24] rfl ?_; clear hok; intro hok
        refine p_then ?_
        refine wp_ret ?_
        refine p_blk_r ?_
        refine p_then_r ?_
        refine p_then_r ?_
        refine p_blk_r ?_
        refine p_then_r ?_
        obtain rfl := some_in hF
        exact f_ret hok (run_results1 rfl hok rfl) ⟨rfl, I1, (H.sub [] rfl).eq rfl⟩
      · replace hF := ite_f hc3 hF
        refine wp_skip ?_
        refine p_blk ?_
        refine p_then ?_
        obtain ⟨hg3, hF⟩ := chk_in hF
        refine f_region hok ?_; clear hok; intro hok
        refine s_ob hok (v := .int .i64 (x + 1)) rfl rfl (by decide) rfl (Ob_add rfl rfl rfl (wrI hg3)) ?_; clear hok a; intro a hok
        refine s_runk TB_YConf1 hok 1 rfl rfl ?_; clear hok a; intro a hok
        refine s_end hok [0, 1, 4, 12, 13, 14, 15, 5, 16, 17, 18, 19, 20, 21, 22, 23, 24, 25] rfl ?_; clear hok; intro hok
        refine p_then ?_
        exact ⟨(x + 1), ⟨hok.sub (ts := [0, 1, 4, 12, 13]) rfl, ⟨I1, (H.sub [(0, true), (1, true)] rfl).eq rfl⟩⟩, hF⟩
    · replace hF := ite_f hc2 hF
      refine wp_exit ?_
      refine p_then_x ?_
      refine p_then_x ?_
      refine f_exit_here ?_
      refine p_then ?_
      refine wp_seq ?_
      refine f_region hok ?_; clear hok; intro hok
      refine s_runk TB_YConf1 hok 1 rfl rfl ?_; clear hok a; intro a hok
      refine s_end hok [4] rfl ?_; clear hok; intro hok
      refine p_then ?_
      refine wp_ret ?_
      obtain rfl := some_in hF
      exact f_ret hok (run_results1 rfl hok rfl) ⟨rfl, I1, (H.sub [] rfl).eq rfl⟩

def F_conf_Same (a0 : EConf) (b : EConf) : Option Bool := (gif ((a0.epoch == b.epoch) && (a0.floor == b.floor)) (F_slices_Equal_api_Member_api_Member a0.members b.members) default).bind fun m => (some (((a0.epoch == b.epoch) && (a0.floor == b.floor)) && m))

set_option maxHeartbeats 1000000 in
theorem c_conf_Same {I D : Dm} {a0 : EConf} {v1_a0 : Value} {b : EConf} {v2_b : Value} {w : World} {rr : Bool} (hF : F_conf_Same a0 b = some rr) (H : St I D w [SlC NEMember v1_a0 a0.members, SlC NEMember v2_b b.members]) :
    Calls Try.prog 17 #[.agg #[.int .i64 a0.epoch, v1_a0, .int .u64 a0.floor], .agg #[.int .i64 b.epoch, v2_b, .int .u64 b.floor]] w (Ret fun vv w' => vv = .bool rr ∧ ∃ I', Hf I D w I' w' []) := by
  replace H := H.hf
  unfold F_conf_Same at hF
  refine f_enter 24 Try.func17 rfl rfl (Nat.le_of_ble_eq_true rfl) fun a hok => ?_
  replace hok := hok.sub (ts := [0, 1]) rfl
  refine wp_seq ?_
  refine f_region hok ?_; clear hok; intro hok
  refine h_boxv hok H (cl := [.int .i64 a0.epoch, v1_a0, .int .u64 a0.floor]) rfl rfl rfl (by decide) rfl rfl rfl ?_; clear hok a H; intro a w1 b1 H hok
  refine h_boxv hok H (cl := [.int .i64 b.epoch, v2_b, .int .u64 b.floor]) rfl rfl rfl (by decide) rfl rfl rfl ?_; clear hok a H; intro a w2 b2 H hok
  refine s_runk TB_YConf1 hok 1 rfl rfl ?_; clear hok a; intro a hok
  refine s_end hok [2, 3, 4] rfl ?_; clear hok; intro hok
  refine p_then ?_
  refine wp_seq ?_
  obtain ⟨m, hx1, hF⟩ := bnd_in hF
  refine f_region hok ?_; clear hok; intro hok
  refine s_runk TB_YConf1 hok 1 rfl rfl ?_; clear hok a; intro a hok
  refine s_ob hok (v := .int .i64 a0.epoch) rfl rfl (by decide) rfl (Ob_load TB_YConf1 rfl rfl rfl ((H.bx 1 rfl).cell 0 rfl)) ?_; clear hok a; intro a hok
  refine s_runk TB_YConf1 hok 1 rfl rfl ?_; clear hok a; intro a hok
  refine s_ob hok (v := .int .i64 b.epoch) rfl rfl (by decide) rfl (Ob_load TB_YConf1 rfl rfl rfl ((H.bx 0 rfl).cell 0 rfl)) ?_; clear hok a; intro a hok
  refine s_runk TB_YConf1 hok 2 rfl rfl ?_; clear hok a; intro a hok
  refine g_ob hok (p := (a0.epoch == b.epoch)) (v := .pointer (some ⟨b1, 2, none⟩)) (S' := [(2, .pointer (some ⟨b1, 0, none⟩))]) rfl rfl rfl (wantB_t _) rfl (by decide) (fun hp hS => hS.sub (ts := [2]) rfl) (fun hp => Ob_c TB_YConf1 rfl) ?_; clear hok a; intro a hok
  refine g_ob hok (p := (a0.epoch == b.epoch)) (v := .int .u64 a0.floor) (S' := [(11, .pointer (some ⟨b1, 2, none⟩))]) rfl rfl rfl (wantB_t _) rfl (by decide) (fun hp hS => (hS.conv (t := 11) rfl (cond_t hp)).sub (ts := [11]) rfl) (fun hp => Ob_load TB_YConf1 rfl rfl rfl ((H.bx 1 rfl).cell 2 rfl)) ?_; clear hok a; intro a hok
  refine g_ob hok (p := (a0.epoch == b.epoch)) (v := .pointer (some ⟨b2, 2, none⟩)) (S' := [(3, .pointer (some ⟨b2, 0, none⟩))]) rfl rfl rfl (wantB_t _) rfl (by decide) (fun hp hS => hS.sub (ts := [3]) rfl) (fun hp => Ob_c TB_YConf1 rfl) ?_; clear hok a; intro a hok
  refine g_ob hok (p := (a0.epoch == b.epoch)) (v := .int .u64 b.floor) (S' := [(13, .pointer (some ⟨b2, 2, none⟩))]) rfl rfl rfl (wantB_t _) rfl (by decide) (fun hp hS => (hS.conv (t := 13) rfl (cond_t hp)).sub (ts := [13]) rfl) (fun hp => Ob_load TB_YConf1 rfl rfl rfl ((H.bx 0 rfl).cell 2 rfl)) ?_; clear hok a; intro a hok
  refine g_ob hok (p := (a0.epoch == b.epoch)) (v := .bool (a0.floor == b.floor)) (S' := [(12, .int .u64 a0.floor), (14, .int .u64 b.floor)]) rfl rfl rfl (wantB_t _) rfl (by decide) (fun hp hS => ((hS.conv (t := 12) rfl (cond_t hp)).conv (t := 14) rfl (cond_t hp)).sub (ts := [12, 14]) rfl) (fun hp => Ob_c TB_YConf1 rfl) ?_; clear hok a; intro a hok
  refine s_ob hok (v := .bool ((a0.epoch == b.epoch) && (a0.floor == b.floor))) rfl rfl (by decide) rfl (Ob_pick rfl rfl rfl rfl (pick_and _ _)) ?_; clear hok a; intro a hok
  refine s_runk TB_YConf1 hok 1 rfl rfl ?_; clear hok a; intro a hok
  refine g_ob hok (p := ((a0.epoch == b.epoch) && (a0.floor == b.floor))) (v := .pointer (some ⟨b1, 1, none⟩)) (S' := [(2, .pointer (some ⟨b1, 0, none⟩))]) rfl rfl rfl (wantB_t _) rfl (by decide) (fun hp hS => hS.sub (ts := [2]) rfl) (fun hp => Ob_c TB_YConf1 rfl) ?_; clear hok a; intro a hok
  refine g_ob hok (p := ((a0.epoch == b.epoch) && (a0.floor == b.floor))) (v := v1_a0) (S' := [(18, .pointer (some ⟨b1, 1, none⟩))]) rfl rfl rfl (wantB_t _) rfl (by decide) (fun hp hS => (hS.conv (t := 18) rfl (cond_t hp)).sub (ts := [18]) rfl) (fun hp => Ob_load TB_YConf1 rfl rfl rfl ((H.bx 1 rfl).cell 1 rfl)) ?_; clear hok a; intro a hok
  refine g_ob hok (p := ((a0.epoch == b.epoch) && (a0.floor == b.floor))) (v := .pointer (some ⟨b2, 1, none⟩)) (S' := [(3, .pointer (some ⟨b2, 0, none⟩))]) rfl rfl rfl (wantB_t _) rfl (by decide) (fun hp hS => hS.sub (ts := [3]) rfl) (fun hp => Ob_c TB_YConf1 rfl) ?_; clear hok a; intro a hok
  refine g_ob hok (p := ((a0.epoch == b.epoch) && (a0.floor == b.floor))) (v := v2_b) (S' := [(20, .pointer (some ⟨b2, 1, none⟩))]) rfl rfl rfl (wantB_t _) rfl (by decide) (fun hp hS => (hS.conv (t := 20) rfl (cond_t hp)).sub (ts := [20]) rfl) (fun hp => Ob_load TB_YConf1 rfl rfl rfl ((H.bx 0 rfl).cell 1 rfl)) ?_; clear hok a; intro a hok
  refine g_call hok (p := ((a0.epoch == b.epoch) && (a0.floor == b.floor))) (v := .bool m) (S' := [(19, v1_a0), (21, v2_b)]) (caps := #[]) fn_35_YConf1 rfl rfl rfl (wantB_t _) rfl (by decide) (fun hp hS => ((hS.conv (t := 19) rfl (cond_t hp)).conv (t := 21) rfl (cond_t hp)).sub (ts := [19, 21]) rfl) rfl rfl rfl rfl (fun hp => have hq := c_slices_Equal_api_Member_api_Member (gif_in hx1 hp) (H.pick0 (js := [(2, true), (3, true)]) rfl rfl); plainC hq) ?_; clear hok a; intro a w3 hb hok
  replace H : Hf I D w I w3 [BxC b2 25 [.int .i64 b.epoch, v2_b, .int .u64 b.floor], BxC b1 25 [.int .i64 a0.epoch, v1_a0, .int .u64 a0.floor], SlC NEMember v1_a0 a0.members, SlC NEMember v2_b b.members] := H.blw hb
  clear hb
  refine s_ob hok (v := .bool (((a0.epoch == b.epoch) && (a0.floor == b.floor)) && m)) rfl rfl (by decide) rfl (Ob_pick rfl rfl rfl rfl (pick_and _ _)) ?_; clear hok a; intro a hok
  refine s_runk TB_YConf1 hok 1 rfl rfl ?_; clear hok a; intro a hok
  refine s_end hok [4] rfl ?_; clear hok; intro hok
  refine p_then ?_
  refine wp_ret ?_
  obtain rfl := some_in hF
  exact f_ret hok (run_results1 rfl hok rfl) ⟨rfl, I, (H.sub [] rfl).eq rfl⟩

end Go.Proofs.Ytnkieaolhbmfpaa
