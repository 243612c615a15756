/- The walks of the references that check: configurations, messages. -/
import Derived.Test.YtmdoimpeacndaaaRefs
namespace Go.Proofs.Ytmdoimpeacndaaa
open Go.RowKit

def TB_Refs2L : TabL := ⟨[(30720, 0), (30721, 1), (30722, 2), (37888, 0), (37889, 1), (37890, 2), (37891, 3), (37892, 4), (37893, 5), (37894, 6), (37895, 7), (37896, 8), (37897, 9), (37898, 10), (37899, 11), (37900, 12), (37901, 13), (37902, 16), (37903, 19), (37904, 20), (37905, 21), (83968, 0), (83969, 1), (83970, 2), (83971, 3), (83972, 6), (83973, 7), (83974, 11), (83975, 14), (103424, 0), (103425, 1), (106496, 0), (106497, 1)], [9], [4], [(22, (57, 4)), (28, (101, 2)), (34, (24, 1)), (35, (104, 2))], [(3, (1, false)), (4, (1, false)), (9, (1, false)), (22, (1, false)), (24, (1, false)), (27, (1, false)), (28, (1, false)), (30, (3, true)), (33, (3, true)), (34, (1, false)), (35, (1, false)), (37, (22, true)), (57, (4, true)), (76, (1, false)), (78, (3, true)), (80, (4, true)), (101, (2, true))]⟩

def TB_Refs2 : Tab Try.prog := ⟨TB_Refs2L, by kernel_rfl⟩

theorem fn_40_Refs2 : IsFn Try.prog 40 := ⟨_, Try.func40, by kernel_rfl, by kernel_rfl⟩

theorem fn_41_Refs2 : IsFn Try.prog 41 := ⟨_, Try.func41, by kernel_rfl, by kernel_rfl⟩

theorem fn_42_Refs2 : IsFn Try.prog 42 := ⟨_, Try.func42, by kernel_rfl, by kernel_rfl⟩

theorem fn_43_Refs2 : IsFn Try.prog 43 := ⟨_, Try.func43, by kernel_rfl, by kernel_rfl⟩

theorem fn_44_Refs2 : IsFn Try.prog 44 := ⟨_, Try.func44, by kernel_rfl, by kernel_rfl⟩

theorem fn_60_Refs2 : IsFn Try.prog 60 := ⟨_, Try.func60, by kernel_rfl, by kernel_rfl⟩

theorem fn_61_Refs2 : IsFn Try.prog 61 := ⟨_, Try.func61, by kernel_rfl, by kernel_rfl⟩

def sameC (a b : DConf) : Bool := decide (a.epoch = b.epoch) && decide (a.floor = b.floor) && sameBy eqD a.members b.members

theorem sameC_no {a b : DConf} (h : (¬ a.epoch = b.epoch ∨ ¬ a.floor = b.floor) ∨ a.members.length ≠ b.members.length) : sameC a b = false := by
  unfold sameC
  rcases h with (h | h) | h
  · simp [h]
  · simp [h]
  · rw [sameBy_len h, Bool.and_false]

set_option maxHeartbeats 1000000 in
theorem c_ref07_Same {A0 : Nat → Prop} {A1 : Nat → Prop} (a0 : DConf) (v0_a0 : Value) (b : DConf) (v0_b : Value) (w : World) (L0_a0 : slRep RDMember A0 w v0_a0 a0.members) (h_a0 : okDConf a0) (L0_b : slRep RDMember A1 w v0_b b.members) (h_b : okDConf b) :
    Calls Try.prog 40 #[.agg #[.int .i64 a0.epoch, v0_a0, .int .u64 (a0.floor : Int)], .agg #[.int .i64 b.epoch, v0_b, .int .u64 (b.floor : Int)]] w (Ret fun r w' => r = .bool (sameC a0 b) ∧ Below w.heap.size w w') := by
  have B : Bt [] w w := Bt.refl _ _
  obtain ⟨ao_v0_a0, cap_v0_a0, rfl, hc_v0_a0, hm_v0_a0⟩ := L0_a0.shape
  unfold maxLen at hm_v0_a0
  obtain ⟨P1, ha_P1, ho_P1, L0_a0⟩ : ∃ X : Nat → Prop, (∀ k, X k → k < w.heap.size) ∧ (∀ k, X k → A0 k ∨ A1 k ∨ w.heap.size ≤ k) ∧ slRep RDMember X w (.slice ao_v0_a0 a0.members.length cap_v0_a0) a0.members := ⟨_, fun k h => h.2, fun k h => .inl h.1, L0_a0.bound⟩
  obtain ⟨ao_v0_b, cap_v0_b, rfl, hc_v0_b, hm_v0_b⟩ := L0_b.shape
  unfold maxLen at hm_v0_b
  obtain ⟨P2, ha_P2, ho_P2, L0_b⟩ : ∃ X : Nat → Prop, (∀ k, X k → k < w.heap.size) ∧ (∀ k, X k → A0 k ∨ A1 k ∨ w.heap.size ≤ k) ∧ slRep RDMember X w (.slice ao_v0_b b.members.length cap_v0_b) b.members := ⟨_, fun k h => h.2, fun k h => .inr (.inl h.1), L0_b.bound⟩
  refine f_enter 52 Try.func40 rfl rfl (Nat.le_of_ble_eq_true rfl) fun a hok => ?_
  replace hok := hok.sub (ts := [0, 1]) rfl
  refine wp_seq ?_
  refine f_region hok ?_; clear hok; intro hok
  refine s_boxv hok (cs := [.int .i64 a0.epoch, .slice ao_v0_a0 a0.members.length cap_v0_a0, .int .u64 (a0.floor : Int)]) rfl rfl rfl (by decide) rfl rfl rfl ?_; clear hok a; intro a w1 b1 hb0_b1 hb1_b1 hb X1 hok
  have hge_b1 : w.heap.size ≤ b1 := by have := B.size; omega
  have hz_w1 : w.heap.size ≤ w1.heap.size := hb.size
  replace B := B.blw hb
  replace L0_a0 := L0_a0.below hb
  replace L0_b := L0_b.below hb
  clear hb
  refine s_boxv hok (cs := [.int .i64 b.epoch, .slice ao_v0_b b.members.length cap_v0_b, .int .u64 (b.floor : Int)]) rfl rfl rfl (by decide) rfl rfl rfl ?_; clear hok a; intro a w2 b2 hb0_b2 hb1_b2 hb X2 hok
  have hge_b2 : w.heap.size ≤ b2 := by have := B.size; omega
  have hlt_b1_b2 : b1 < b2 := by have := X1.lt; omega
  have hz_w2 : w1.heap.size ≤ w2.heap.size := hb.size
  replace B := B.blw hb
  replace L0_a0 := L0_a0.below hb
  replace L0_b := L0_b.below hb
  replace X1 := X1.below hb
  clear hb
  refine s_runk TB_Refs2 hok 1 rfl rfl ?_; clear hok a; intro a hok
  refine s_end hok [0, 1, 2, 3, 4] rfl ?_; clear hok; intro hok
  refine p_then ?_
  refine wp_seq ?_
  refine wp_seq ?_
  refine f_region hok ?_; clear hok; intro hok
  refine s_runk TB_Refs2 hok 1 rfl rfl ?_; clear hok a; intro a hok
  refine s_ob hok (v := .int .i64 a0.epoch) rfl rfl (by decide) rfl (Ob_load TB_Refs2 rfl rfl rfl (X1.cell 0 rfl)) ?_; clear hok a; intro a hok
  refine s_runk TB_Refs2 hok 1 rfl rfl ?_; clear hok a; intro a hok
  refine s_ob hok (v := .int .i64 b.epoch) rfl rfl (by decide) rfl (Ob_load TB_Refs2 rfl rfl rfl (X2.cell 0 rfl)) ?_; clear hok a; intro a hok
  refine s_runk TB_Refs2 hok 2 rfl rfl ?_; clear hok a; intro a hok
  refine s_gob hok (c := a0.epoch != b.epoch) rfl rfl rfl rfl (by decide) rfl (by decide) rfl (fun _ => Ob_c TB_Refs2 rfl) ?_; clear hok a; intro a hok
  refine s_gob hok (c := a0.epoch != b.epoch) (v := .int .u64 (a0.floor : Int)) rfl rfl rfl rfl (by decide) rfl (by decide) rfl (fun hg1 => ?_) ?_
  · replace hg1 := bne_eq_false_iff_eq.1 hg1
    exact Ob_load TB_Refs2 rfl rfl rfl (X1.cell 2 rfl)
  clear hok a; intro a hok
  refine s_gob hok (c := a0.epoch != b.epoch) rfl rfl rfl rfl (by decide) rfl (by decide) rfl (fun _ => Ob_c TB_Refs2 rfl) ?_; clear hok a; intro a hok
  refine s_gob hok (c := a0.epoch != b.epoch) (v := .int .u64 (b.floor : Int)) rfl rfl rfl rfl (by decide) rfl (by decide) rfl (fun hg2 => ?_) ?_
  · replace hg2 := bne_eq_false_iff_eq.1 hg2
    exact Ob_load TB_Refs2 rfl rfl rfl (X2.cell 2 rfl)
  clear hok a; intro a hok
  refine s_gob hok (c := a0.epoch != b.epoch) rfl rfl rfl rfl (by decide) rfl (by decide) rfl (fun _ => Ob_c TB_Refs2 rfl) ?_; clear hok a; intro a hok
  refine s_or hok (i := 5) rfl rfl rfl rfl rfl rfl rfl (by decide) rfl rfl ?_; clear hok a; intro a hok
  refine s_runk TB_Refs2 hok 1 rfl rfl ?_; clear hok a; intro a hok
  refine s_gob hok (c := (a0.epoch != b.epoch) || ((a0.floor : Int) != (b.floor : Int))) rfl rfl rfl rfl (by decide) rfl (by decide) rfl (fun _ => Ob_c TB_Refs2 rfl) ?_; clear hok a; intro a hok
  refine s_gob hok (c := (a0.epoch != b.epoch) || ((a0.floor : Int) != (b.floor : Int))) (v := .slice ao_v0_a0 a0.members.length cap_v0_a0) rfl rfl rfl rfl (by decide) rfl (by decide) rfl (fun hg3 => ?_) ?_
  · replace hg3 := And.intro (bne_eq_false_iff_eq.1 (orF1 hg3)) (bne_eq_false_iff_eq.1 (orF2 hg3))
    exact Ob_load TB_Refs2 rfl rfl rfl (X1.cell 1 rfl)
  clear hok a; intro a hok
  refine s_gob hok (c := (a0.epoch != b.epoch) || ((a0.floor : Int) != (b.floor : Int))) rfl rfl rfl rfl (by decide) rfl (by decide) rfl (fun _ => Ob_c TB_Refs2 rfl) ?_; clear hok a; intro a hok
  refine s_gob hok (c := (a0.epoch != b.epoch) || ((a0.floor : Int) != (b.floor : Int))) rfl rfl rfl rfl (by decide) rfl (by decide) rfl (fun _ => Ob_c TB_Refs2 rfl) ?_; clear hok a; intro a hok
  refine s_gob hok (c := (a0.epoch != b.epoch) || ((a0.floor : Int) != (b.floor : Int))) (v := .slice ao_v0_b b.members.length cap_v0_b) rfl rfl rfl rfl (by decide) rfl (by decide) rfl (fun hg4 => ?_) ?_
  · replace hg4 := And.intro (bne_eq_false_iff_eq.1 (orF1 hg4)) (bne_eq_false_iff_eq.1 (orF2 hg4))
    exact Ob_load TB_Refs2 rfl rfl rfl (X2.cell 1 rfl)
  clear hok a; intro a hok
  refine s_gob hok (c := (a0.epoch != b.epoch) || ((a0.floor : Int) != (b.floor : Int))) rfl rfl rfl rfl (by decide) rfl (by decide) rfl (fun _ => Ob_c TB_Refs2 rfl) ?_; clear hok a; intro a hok
  refine s_gob hok (c := (a0.epoch != b.epoch) || ((a0.floor : Int) != (b.floor : Int))) rfl rfl rfl rfl (by decide) rfl (by decide) rfl (fun _ => Ob_c TB_Refs2 rfl) ?_; clear hok a; intro a hok
  refine s_or hok (i := 12) rfl rfl rfl rfl rfl rfl rfl (by decide) rfl rfl ?_; clear hok a; intro a hok
  refine s_end hok [0, 1, 2, 3, 4, 26] rfl ?_; clear hok; intro hok
  refine p_then ?_
  refine f_cond hok rfl (fun hc1 => ?_) (fun hc1 => ?_)
  · replace hc1 := orT hc1 (fun h => orT h (fun h => bne_iff_ne.1 h) (fun h => bne_iff_ne.1 h)) (fun h => bne_iff_ne.1 h)
    refine wp_seq ?_
    refine f_region hok ?_; clear hok; intro hok
    refine s_runk TB_Refs2 hok 1 rfl rfl ?_; clear hok a; intro a hok
    refine s_end hok [0, 1, 2, 3, 4, 26] rfl ?_; clear hok; intro hok
    refine p_then ?_
    refine wp_ret ?_
    refine p_then_r ?_
    refine f_ret hok (run_results1 rfl hok rfl) ?_
    refine ⟨?_, B.toBelow⟩
    · clear hok B L0_a0 L0_b X1 X2 hc_v0_a0 hm_v0_a0 ha_P1 ho_P1 hc_v0_b hm_v0_b ha_P2 ho_P2 hb0_b1 hb1_b1 hge_b1 hz_w1 hb0_b2 hb1_b2 hge_b2 hlt_b1_b2 hz_w2
      rw [sameC_no (by omega)]
  · replace hc1 := And.intro (And.intro (bne_eq_false_iff_eq.1 (orF1 (orF1 hc1))) (bne_eq_false_iff_eq.1 (orF2 (orF1 hc1)))) (bne_eq_false_iff_eq.1 (orF2 hc1))
    refine wp_skip ?_
    refine p_then ?_
    refine wp_seq ?_
    refine wp_seq ?_
    refine f_region hok ?_; clear hok; intro hok
    refine s_runk TB_Refs2 hok 1 rfl rfl ?_; clear hok a; intro a hok
    refine s_end hok [0, 1, 2, 3, 4, 26, 5] rfl ?_; clear hok; intro hok
    refine p_then ?_
    refine wp_block ?_
    refine f_loop (σ := Nat) (fun k a w' => Sl 52 [(0, .agg #[.int .i64 a0.epoch, .slice ao_v0_a0 a0.members.length cap_v0_a0, .int .u64 (a0.floor : Int)]), (1, .agg #[.int .i64 b.epoch, .slice ao_v0_b b.members.length cap_v0_b, .int .u64 (b.floor : Int)]), (2, .pointer (some ⟨b1, 0, none⟩)), (3, .pointer (some ⟨b2, 0, none⟩)), (26, .bool (((a0.epoch != b.epoch) || ((a0.floor : Int) != (b.floor : Int))) || ((a0.members.length : Int) != (b.members.length : Int)))), (5, .int .i64 (k : Int))] a ∧ (k ≤ a0.members.length ∧ a0.members.length = b.members.length) ∧ (sameC a0 b = sameBy eqD (a0.members.drop k) (b.members.drop k)) ∧ Bt [] w w' ∧ slRep RDMember P1 w' (.slice ao_v0_a0 a0.members.length cap_v0_a0) a0.members ∧ slRep RDMember P2 w' (.slice ao_v0_b b.members.length cap_v0_b) b.members ∧ Box w' b1 30 [.int .i64 a0.epoch, .slice ao_v0_a0 a0.members.length cap_v0_a0, .int .u64 (a0.floor : Int)] ∧ Box w' b2 30 [.int .i64 b.epoch, .slice ao_v0_b b.members.length cap_v0_b, .int .u64 (b.floor : Int)]) (fun k => a0.members.length - k) 0 ⟨hok.sub (ts := [0, 1, 2, 3, 26, 5]) rfl, by omega, by unfold sameC; rw [decide_eq_true (by omega), decide_eq_true (by omega)]; rfl, B, L0_a0, L0_b, X1, X2⟩ ?_
    clear hok B L0_a0 L0_b X1 X2
    rintro k a w3 ⟨hok, hinv0_0, hinv0_1, B, L0_a0, L0_b, X1, X2⟩
    refine wp_seq ?_
    refine wp_seq ?_
    refine f_region hok ?_; clear hok; intro hok
    refine s_runk TB_Refs2 hok 2 rfl rfl ?_; clear hok a; intro a hok
    refine s_ob hok (v := .slice ao_v0_a0 a0.members.length cap_v0_a0) rfl rfl (by decide) rfl (Ob_load TB_Refs2 rfl rfl rfl (X1.cell 1 rfl)) ?_; clear hok a; intro a hok
    refine s_runk TB_Refs2 hok 3 rfl rfl ?_; clear hok a; intro a hok
    refine s_gob hok (c := decide ((k : Int) < (a0.members.length : Int))) rfl rfl rfl rfl (by decide) rfl (by decide) rfl (fun _ => Ob_c TB_Refs2 rfl) ?_; clear hok a; intro a hok
    refine s_gob hok (c := decide ((k : Int) < (a0.members.length : Int))) rfl rfl rfl rfl (by decide) rfl (by decide) rfl (fun _ => Ob_c TB_Refs2 rfl) ?_; clear hok a; intro a hok
    refine s_gob hok (c := decide ((k : Int) < (a0.members.length : Int))) (v := .slice ao_v0_b b.members.length cap_v0_b) rfl rfl rfl rfl (by decide) rfl (by decide) rfl (fun hg5 => ?_) ?_
    · replace hg5 := of_decide_eq_true hg5
      exact Ob_load TB_Refs2 rfl rfl rfl (X2.cell 1 rfl)
    clear hok a; intro a hok
    refine s_gob hok (c := decide ((k : Int) < (a0.members.length : Int))) rfl rfl rfl rfl (by decide) rfl (by decide) rfl (fun _ => Ob_c TB_Refs2 rfl) ?_; clear hok a; intro a hok
    refine s_gob hok (c := decide ((k : Int) < (a0.members.length : Int))) rfl rfl rfl rfl (by decide) rfl (by decide) rfl (fun _ => Ob_c TB_Refs2 rfl) ?_; clear hok a; intro a hok
    refine s_and hok (i := 5) rfl rfl rfl rfl rfl rfl rfl (by decide) rfl rfl ?_; clear hok a; intro a hok
    refine s_end hok [0, 1, 2, 3, 26, 5, 38] rfl ?_; clear hok; intro hok
    refine p_then ?_
    refine f_cond hok rfl (fun hc2 => ?_) (fun hc2 => ?_)
    · replace hc2 := And.intro (of_decide_eq_true (andT1 hc2)) (of_decide_eq_true (andT2 hc2))
      refine wp_skip ?_
      refine p_then ?_
      refine wp_seq ?_
      refine wp_block ?_
      refine wp_seq ?_
      refine f_quietd (by kernel_rfl) (by kernel_rfl) hok ?_; clear hok; intro hok
      refine q_runk TB_Refs2 hok 1 rfl rfl ?_; clear hok a; intro a hok
      refine q_ob hok (v := .slice ao_v0_a0 a0.members.length cap_v0_a0) rfl rfl (by decide) rfl (fun _ hw => Ob_load TB_Refs2 rfl rfl rfl ((X1.below hw).cell 1 rfl)) ?_; clear hok a; intro a hok
      refine q_runk TB_Refs2 hok 1 rfl rfl ?_; clear hok a; intro a hok
      have hi1 : k < a0.members.length := by omega
      have he1 := elt L0_a0 (k) (slRep.lt L0_a0 hi1)
      refine q_ob hok (v := .pointer (some ⟨bOf ao_v0_a0, oOf ao_v0_a0 + k * 2, none⟩)) rfl rfl (by decide) rfl (fun _ hw => Ob_idx TB_Refs2 (k) rfl rfl he1.1 rfl rfl rfl hi1) ?_; clear hok a; intro a hok
      obtain ⟨_, _, _, ⟨rfl, hok_e1⟩, hat1⟩ := id he1
      refine q_ob hok (v := .agg #[.int .i64 ((a0.members.getD k default).id), .int .i64 ((a0.members.getD k default).serial)]) rfl rfl (by decide) rfl (fun _ hw => Ob_loads TB_Refs2 rfl rfl rfl (hat1.below hw he1.2.1.2)) ?_; clear hok a; intro a hok
      refine q_runk TB_Refs2 hok 1 rfl rfl ?_; clear hok a; intro a hok
      refine q_ob hok (v := .slice ao_v0_b b.members.length cap_v0_b) rfl rfl (by decide) rfl (fun _ hw => Ob_load TB_Refs2 rfl rfl rfl ((X2.below hw).cell 1 rfl)) ?_; clear hok a; intro a hok
      refine q_runk TB_Refs2 hok 1 rfl rfl ?_; clear hok a; intro a hok
      have hi2 : k < b.members.length := by omega
      have he2 := elt L0_b (k) (slRep.lt L0_b hi2)
      refine q_ob hok (v := .pointer (some ⟨bOf ao_v0_b, oOf ao_v0_b + k * 2, none⟩)) rfl rfl (by decide) rfl (fun _ hw => Ob_idx TB_Refs2 (k) rfl rfl he2.1 rfl rfl rfl hi2) ?_; clear hok a; intro a hok
      obtain ⟨_, _, _, ⟨rfl, hok_e2⟩, hat2⟩ := id he2
      refine q_ob hok (v := .agg #[.int .i64 ((b.members.getD k default).id), .int .i64 ((b.members.getD k default).serial)]) rfl rfl (by decide) rfl (fun _ hw => Ob_loads TB_Refs2 rfl rfl rfl (hat2.below hw he2.2.1.2)) ?_; clear hok a; intro a hok
      refine q_ob hok (v := .bool (!decide ((a0.members.getD k default) = (b.members.getD k default)))) rfl rfl (by decide) rfl (fun _ hw => Ob_bin rfl rfl rfl (eqg_DMember _ _ _ _ _ _) (neq_DMember ((a0.members.getD k default)) ((b.members.getD k default)) _)) ?_; clear hok a; intro a hok
      refine q_end hok [0, 1, 2, 3, 26, 5, 38, 51] rfl ?_; clear hok; intro w4 hb hok
      have hz_w4 : w3.heap.size ≤ w4.heap.size := hb.size
      replace B := B.blw hb
      replace L0_a0 := L0_a0.below hb
      replace L0_b := L0_b.below hb
      replace X1 := X1.below hb
      replace X2 := X2.below hb
      clear hb
      refine p_then ?_
      refine f_cond hok rfl (fun hc3 => ?_) (fun hc3 => ?_)
      · replace hc3 := of_decide_eq_false (notT hc3)
        refine wp_seq ?_
        refine f_region hok ?_; clear hok; intro hok
        refine s_runk TB_Refs2 hok 1 rfl rfl ?_; clear hok a; intro a hok
        refine s_end hok [0, 1, 2, 3, 26, 5, 38, 51, 4] rfl ?_; clear hok; intro hok
        refine p_then ?_
        refine wp_ret ?_
        refine p_blk_r ?_
        refine p_then_r ?_
        refine p_then_r ?_
        refine p_blk_r ?_
        refine p_then_r ?_
        refine f_ret hok (run_results1 rfl hok rfl) ?_
        refine ⟨?_, B.toBelow⟩
        · clear hok B L0_a0 L0_b X1 X2 hc_v0_a0 hm_v0_a0 ha_P1 ho_P1 hc_v0_b hm_v0_b ha_P2 ho_P2 hb0_b1 hb1_b1 hge_b1 hz_w1 hb0_b2 hb1_b2 hge_b2 hlt_b1_b2 hz_w2 he1 hat1 he2 hat2 hz_w4
          rw [hinv0_1, sameBy_step _ _ _ k (by omega) (by omega), show eqD (a0.members.getD k default) (b.members.getD k default) = false from decide_eq_false hc3]; rfl
      · replace hc3 := of_decide_eq_true (notF hc3)
        refine wp_skip ?_
        refine p_blk ?_
        refine p_then ?_
        refine f_region hok ?_; clear hok; intro hok
        refine s_runk TB_Refs2 hok 1 rfl rfl ?_; clear hok a; intro a hok
        refine s_ob hok (v := .int .i64 ((k : Int) + 1)) rfl rfl (by decide) rfl (Ob_add rfl rfl rfl (IntWalk.i64_in _ (by omega))) ?_; clear hok a; intro a hok
        refine s_runk TB_Refs2 hok 1 rfl rfl ?_; clear hok a; intro a hok
        refine s_end hok [0, 1, 2, 3, 26, 5, 38, 51] rfl ?_; clear hok; intro hok
        refine p_then ?_
        refine ⟨k + 1, ⟨hok.sub (ts := [0, 1, 2, 3, 26, 5]) rfl, ?_, ?_, B, L0_a0, L0_b, X1, X2⟩, by omega⟩
        · clear hok B L0_a0 L0_b X1 X2 hc_v0_a0 hm_v0_a0 ha_P1 ho_P1 hc_v0_b hm_v0_b ha_P2 ho_P2 hb0_b1 hb1_b1 hge_b1 hz_w1 hb0_b2 hb1_b2 hge_b2 hlt_b1_b2 hz_w2 he1 hat1 he2 hat2 hz_w4
          omega
        · clear hok B L0_a0 L0_b X1 X2 hc_v0_a0 hm_v0_a0 ha_P1 ho_P1 hc_v0_b hm_v0_b ha_P2 ho_P2 hb0_b1 hb1_b1 hge_b1 hz_w1 hb0_b2 hb1_b2 hge_b2 hlt_b1_b2 hz_w2 he1 hat1 he2 hat2 hz_w4
          rw [hinv0_1, sameBy_step _ _ _ k (by omega) (by omega), show eqD (a0.members.getD k default) (b.members.getD k default) = true from decide_eq_true hc3, Bool.true_and]
    · replace hc2 := andF hc2 (fun h => of_decide_eq_false h) (fun h => of_decide_eq_false h)
      refine wp_exit ?_
      refine p_then_x ?_
      refine p_then_x ?_
      refine f_exit_here ?_
      refine p_then ?_
      refine wp_seq ?_
      refine f_region hok ?_; clear hok; intro hok
      refine s_runk TB_Refs2 hok 1 rfl rfl ?_; clear hok a; intro a hok
      refine s_end hok [0, 1, 2, 3, 26, 5, 38, 4] rfl ?_; clear hok; intro hok
      refine p_then ?_
      refine wp_ret ?_
      refine f_ret hok (run_results1 rfl hok rfl) ?_
      refine ⟨?_, B.toBelow⟩
      · clear hok B L0_a0 L0_b X1 X2 hc_v0_a0 hm_v0_a0 ha_P1 ho_P1 hc_v0_b hm_v0_b ha_P2 ho_P2 hb0_b1 hb1_b1 hge_b1 hz_w1 hb0_b2 hb1_b2 hge_b2 hlt_b1_b2 hz_w2
        rw [hinv0_1, sameBy_end _ _ _ k (by omega) (by omega)]

def sameM (a b : DMsg) : Bool :=
  a.k == b.k && a.epoch == b.epoch && a.req == b.req && a.serial == b.serial && a.flag == b.flag && a.at_ == b.at_ && a.last == b.last && a.n == b.n && a.m == b.m && a.p == b.p && a.e == b.e && seqB a.key b.key && seqB a.to_ b.to_ &&
  sameC a.conf b.conf && sameB a.batch b.batch && sameBy sameE a.entries b.entries && sameBy eqD a.stamps b.stamps && sameBy eqD a.pairs b.pairs

theorem beq_cast (a b : Nat) : (((a : Int) == (b : Int)) : Bool) = (a == b) := by rw [Bool.eq_iff_iff]; simp <;> omega

set_option maxHeartbeats 1000000 in
set_option maxRecDepth 100000 in
theorem c_ref09_Same {A0 : Nat → Prop} {A1 : Nat → Prop} {A2 : Nat → Prop} {A3 : Nat → Prop} {A4 : Nat → Prop} {A5 : Nat → Prop} {A6 : Nat → Prop} {A7 : Nat → Prop} {A8 : Nat → Prop} {A9 : Nat → Prop} (a0 : DMsg) (v0_a0 : Value) (v1_a0 : Value) (v2_a0 : Value) (v3_a0 : Value) (v4_a0 : Value) (b : DMsg) (v0_b : Value) (v1_b : Value) (v2_b : Value) (v3_b : Value) (v4_b : Value) (w : World) (L0_a0 : slRep RDMember A0 w v0_a0 a0.conf.members) (L1_a0 : slRep RDOp A1 w v1_a0 a0.batch.ops) (L2_a0 : slRep RDEntry A2 w v2_a0 a0.entries) (L3_a0 : slRep RU A3 w v3_a0 a0.stamps) (L4_a0 : slRep RDPair A4 w v4_a0 a0.pairs) (h_a0 : okDMsg a0) (L0_b : slRep RDMember A5 w v0_b b.conf.members) (L1_b : slRep RDOp A6 w v1_b b.batch.ops) (L2_b : slRep RDEntry A7 w v2_b b.entries) (L3_b : slRep RU A8 w v3_b b.stamps) (L4_b : slRep RDPair A9 w v4_b b.pairs) (h_b : okDMsg b) :
    Calls Try.prog 14 #[.agg #[.int .i64 a0.k, .int .i64 a0.epoch, .int .i64 a0.req, .int .i64 a0.serial, .bool a0.flag, .int .u64 (a0.at_ : Int), .int .u64 (a0.last : Int), .int .i64 a0.n, .int .i64 a0.m, .int .i64 a0.p, .int .i64 a0.e, .string a0.key, .string a0.to_, .int .i64 a0.conf.epoch, v0_a0, .int .u64 (a0.conf.floor : Int), .int .i64 a0.batch.client, .int .i64 a0.batch.req, v1_a0, v2_a0, v3_a0, v4_a0], .agg #[.int .i64 b.k, .int .i64 b.epoch, .int .i64 b.req, .int .i64 b.serial, .bool b.flag, .int .u64 (b.at_ : Int), .int .u64 (b.last : Int), .int .i64 b.n, .int .i64 b.m, .int .i64 b.p, .int .i64 b.e, .string b.key, .string b.to_, .int .i64 b.conf.epoch, v0_b, .int .u64 (b.conf.floor : Int), .int .i64 b.batch.client, .int .i64 b.batch.req, v1_b, v2_b, v3_b, v4_b]] w (Ret fun r w' => r = .bool (sameM a0 b) ∧ Below w.heap.size w w') := by
  have B : Bt [] w w := Bt.refl _ _
  obtain ⟨ao_v0_a0, cap_v0_a0, rfl, hc_v0_a0, hm_v0_a0⟩ := L0_a0.shape
  unfold maxLen at hm_v0_a0
  obtain ⟨P1, ha_P1, ho_P1, L0_a0⟩ : ∃ X : Nat → Prop, (∀ k, X k → k < w.heap.size) ∧ (∀ k, X k → A0 k ∨ A1 k ∨ A2 k ∨ A3 k ∨ A4 k ∨ A5 k ∨ A6 k ∨ A7 k ∨ A8 k ∨ A9 k ∨ w.heap.size ≤ k) ∧ slRep RDMember X w (.slice ao_v0_a0 a0.conf.members.length cap_v0_a0) a0.conf.members := ⟨_, fun k h => h.2, fun k h => .inl h.1, L0_a0.bound⟩
  obtain ⟨ao_v1_a0, cap_v1_a0, rfl, hc_v1_a0, hm_v1_a0⟩ := L1_a0.shape
  unfold maxLen at hm_v1_a0
  obtain ⟨P2, ha_P2, ho_P2, L1_a0⟩ : ∃ X : Nat → Prop, (∀ k, X k → k < w.heap.size) ∧ (∀ k, X k → A0 k ∨ A1 k ∨ A2 k ∨ A3 k ∨ A4 k ∨ A5 k ∨ A6 k ∨ A7 k ∨ A8 k ∨ A9 k ∨ w.heap.size ≤ k) ∧ slRep RDOp X w (.slice ao_v1_a0 a0.batch.ops.length cap_v1_a0) a0.batch.ops := ⟨_, fun k h => h.2, fun k h => .inr (.inl h.1), L1_a0.bound⟩
  obtain ⟨ao_v2_a0, cap_v2_a0, rfl, hc_v2_a0, hm_v2_a0⟩ := L2_a0.shape
  unfold maxLen at hm_v2_a0
  obtain ⟨P3, ha_P3, ho_P3, L2_a0⟩ : ∃ X : Nat → Prop, (∀ k, X k → k < w.heap.size) ∧ (∀ k, X k → A0 k ∨ A1 k ∨ A2 k ∨ A3 k ∨ A4 k ∨ A5 k ∨ A6 k ∨ A7 k ∨ A8 k ∨ A9 k ∨ w.heap.size ≤ k) ∧ slRep RDEntry X w (.slice ao_v2_a0 a0.entries.length cap_v2_a0) a0.entries := ⟨_, fun k h => h.2, fun k h => .inr (.inr (.inl h.1)), L2_a0.bound⟩
  obtain ⟨ao_v3_a0, cap_v3_a0, rfl, hc_v3_a0, hm_v3_a0⟩ := L3_a0.shape
  unfold maxLen at hm_v3_a0
  obtain ⟨P4, ha_P4, ho_P4, L3_a0⟩ : ∃ X : Nat → Prop, (∀ k, X k → k < w.heap.size) ∧ (∀ k, X k → A0 k ∨ A1 k ∨ A2 k ∨ A3 k ∨ A4 k ∨ A5 k ∨ A6 k ∨ A7 k ∨ A8 k ∨ A9 k ∨ w.heap.size ≤ k) ∧ slRep RU X w (.slice ao_v3_a0 a0.stamps.length cap_v3_a0) a0.stamps := ⟨_, fun k h => h.2, fun k h => .inr (.inr (.inr (.inl h.1))), L3_a0.bound⟩
  obtain ⟨ao_v4_a0, cap_v4_a0, rfl, hc_v4_a0, hm_v4_a0⟩ := L4_a0.shape
  unfold maxLen at hm_v4_a0
  obtain ⟨P5, ha_P5, ho_P5, L4_a0⟩ : ∃ X : Nat → Prop, (∀ k, X k → k < w.heap.size) ∧ (∀ k, X k → A0 k ∨ A1 k ∨ A2 k ∨ A3 k ∨ A4 k ∨ A5 k ∨ A6 k ∨ A7 k ∨ A8 k ∨ A9 k ∨ w.heap.size ≤ k) ∧ slRep RDPair X w (.slice ao_v4_a0 a0.pairs.length cap_v4_a0) a0.pairs := ⟨_, fun k h => h.2, fun k h => .inr (.inr (.inr (.inr (.inl h.1)))), L4_a0.bound⟩
  obtain ⟨ao_v0_b, cap_v0_b, rfl, hc_v0_b, hm_v0_b⟩ := L0_b.shape
  unfold maxLen at hm_v0_b
  obtain ⟨P6, ha_P6, ho_P6, L0_b⟩ : ∃ X : Nat → Prop, (∀ k, X k → k < w.heap.size) ∧ (∀ k, X k → A0 k ∨ A1 k ∨ A2 k ∨ A3 k ∨ A4 k ∨ A5 k ∨ A6 k ∨ A7 k ∨ A8 k ∨ A9 k ∨ w.heap.size ≤ k) ∧ slRep RDMember X w (.slice ao_v0_b b.conf.members.length cap_v0_b) b.conf.members := ⟨_, fun k h => h.2, fun k h => .inr (.inr (.inr (.inr (.inr (.inl h.1))))), L0_b.bound⟩
  obtain ⟨ao_v1_b, cap_v1_b, rfl, hc_v1_b, hm_v1_b⟩ := L1_b.shape
  unfold maxLen at hm_v1_b
  obtain ⟨P7, ha_P7, ho_P7, L1_b⟩ : ∃ X : Nat → Prop, (∀ k, X k → k < w.heap.size) ∧ (∀ k, X k → A0 k ∨ A1 k ∨ A2 k ∨ A3 k ∨ A4 k ∨ A5 k ∨ A6 k ∨ A7 k ∨ A8 k ∨ A9 k ∨ w.heap.size ≤ k) ∧ slRep RDOp X w (.slice ao_v1_b b.batch.ops.length cap_v1_b) b.batch.ops := ⟨_, fun k h => h.2, fun k h => .inr (.inr (.inr (.inr (.inr (.inr (.inl h.1)))))), L1_b.bound⟩
  obtain ⟨ao_v2_b, cap_v2_b, rfl, hc_v2_b, hm_v2_b⟩ := L2_b.shape
  unfold maxLen at hm_v2_b
  obtain ⟨P8, ha_P8, ho_P8, L2_b⟩ : ∃ X : Nat → Prop, (∀ k, X k → k < w.heap.size) ∧ (∀ k, X k → A0 k ∨ A1 k ∨ A2 k ∨ A3 k ∨ A4 k ∨ A5 k ∨ A6 k ∨ A7 k ∨ A8 k ∨ A9 k ∨ w.heap.size ≤ k) ∧ slRep RDEntry X w (.slice ao_v2_b b.entries.length cap_v2_b) b.entries := ⟨_, fun k h => h.2, fun k h => .inr (.inr (.inr (.inr (.inr (.inr (.inr (.inl h.1))))))), L2_b.bound⟩
  obtain ⟨ao_v3_b, cap_v3_b, rfl, hc_v3_b, hm_v3_b⟩ := L3_b.shape
  unfold maxLen at hm_v3_b
  obtain ⟨P9, ha_P9, ho_P9, L3_b⟩ : ∃ X : Nat → Prop, (∀ k, X k → k < w.heap.size) ∧ (∀ k, X k → A0 k ∨ A1 k ∨ A2 k ∨ A3 k ∨ A4 k ∨ A5 k ∨ A6 k ∨ A7 k ∨ A8 k ∨ A9 k ∨ w.heap.size ≤ k) ∧ slRep RU X w (.slice ao_v3_b b.stamps.length cap_v3_b) b.stamps := ⟨_, fun k h => h.2, fun k h => .inr (.inr (.inr (.inr (.inr (.inr (.inr (.inr (.inl h.1)))))))), L3_b.bound⟩
  obtain ⟨ao_v4_b, cap_v4_b, rfl, hc_v4_b, hm_v4_b⟩ := L4_b.shape
  unfold maxLen at hm_v4_b
  obtain ⟨P10, ha_P10, ho_P10, L4_b⟩ : ∃ X : Nat → Prop, (∀ k, X k → k < w.heap.size) ∧ (∀ k, X k → A0 k ∨ A1 k ∨ A2 k ∨ A3 k ∨ A4 k ∨ A5 k ∨ A6 k ∨ A7 k ∨ A8 k ∨ A9 k ∨ w.heap.size ≤ k) ∧ slRep RDPair X w (.slice ao_v4_b b.pairs.length cap_v4_b) b.pairs := ⟨_, fun k h => h.2, fun k h => .inr (.inr (.inr (.inr (.inr (.inr (.inr (.inr (.inr (.inl h.1))))))))), L4_b.bound⟩
  refine f_enter 129 Try.func14 rfl rfl (Nat.le_of_ble_eq_true rfl) fun a hok => ?_
  replace hok := hok.sub (ts := [0, 1]) rfl
  refine wp_seq ?_
  refine f_region hok ?_; clear hok; intro hok
  refine s_boxv hok (cs := [.int .i64 a0.k, .int .i64 a0.epoch, .int .i64 a0.req, .int .i64 a0.serial, .bool a0.flag, .int .u64 (a0.at_ : Int), .int .u64 (a0.last : Int), .int .i64 a0.n, .int .i64 a0.m, .int .i64 a0.p, .int .i64 a0.e, .string a0.key, .string a0.to_, .int .i64 a0.conf.epoch, .slice ao_v0_a0 a0.conf.members.length cap_v0_a0, .int .u64 (a0.conf.floor : Int), .int .i64 a0.batch.client, .int .i64 a0.batch.req, .slice ao_v1_a0 a0.batch.ops.length cap_v1_a0, .slice ao_v2_a0 a0.entries.length cap_v2_a0, .slice ao_v3_a0 a0.stamps.length cap_v3_a0, .slice ao_v4_a0 a0.pairs.length cap_v4_a0]) rfl rfl rfl (by decide) rfl rfl rfl ?_; clear hok a; intro a w1 b1 hb0_b1 hb1_b1 hb X1 hok
  have hge_b1 : w.heap.size ≤ b1 := by have := B.size; omega
  have hz_w1 : w.heap.size ≤ w1.heap.size := hb.size
  replace B := B.blw hb
  replace L0_a0 := L0_a0.below hb
  replace L1_a0 := L1_a0.below hb
  replace L2_a0 := L2_a0.below hb
  replace L3_a0 := L3_a0.below hb
  replace L4_a0 := L4_a0.below hb
  replace L0_b := L0_b.below hb
  replace L1_b := L1_b.below hb
  replace L2_b := L2_b.below hb
  replace L3_b := L3_b.below hb
  replace L4_b := L4_b.below hb
  clear hb
  refine s_boxv hok (cs := [.int .i64 b.k, .int .i64 b.epoch, .int .i64 b.req, .int .i64 b.serial, .bool b.flag, .int .u64 (b.at_ : Int), .int .u64 (b.last : Int), .int .i64 b.n, .int .i64 b.m, .int .i64 b.p, .int .i64 b.e, .string b.key, .string b.to_, .int .i64 b.conf.epoch, .slice ao_v0_b b.conf.members.length cap_v0_b, .int .u64 (b.conf.floor : Int), .int .i64 b.batch.client, .int .i64 b.batch.req, .slice ao_v1_b b.batch.ops.length cap_v1_b, .slice ao_v2_b b.entries.length cap_v2_b, .slice ao_v3_b b.stamps.length cap_v3_b, .slice ao_v4_b b.pairs.length cap_v4_b]) rfl rfl rfl (by decide) rfl rfl rfl ?_; clear hok a; intro a w2 b2 hb0_b2 hb1_b2 hb X2 hok
  have hge_b2 : w.heap.size ≤ b2 := by have := B.size; omega
  have hlt_b1_b2 : b1 < b2 := by have := X1.lt; omega
  have hz_w2 : w1.heap.size ≤ w2.heap.size := hb.size
  replace B := B.blw hb
  replace L0_a0 := L0_a0.below hb
  replace L1_a0 := L1_a0.below hb
  replace L2_a0 := L2_a0.below hb
  replace L3_a0 := L3_a0.below hb
  replace L4_a0 := L4_a0.below hb
  replace L0_b := L0_b.below hb
  replace L1_b := L1_b.below hb
  replace L2_b := L2_b.below hb
  replace L3_b := L3_b.below hb
  replace L4_b := L4_b.below hb
  replace X1 := X1.below hb
  clear hb
  refine s_runk TB_Refs2 hok 1 rfl rfl ?_; clear hok a; intro a hok
  refine s_end hok [0, 1, 2, 3, 4] rfl ?_; clear hok; intro hok
  refine p_then ?_
  refine wp_seq ?_
  refine f_quiet hok ?_; clear hok; intro hok
  refine q_runk TB_Refs2 hok 1 rfl rfl ?_; clear hok a; intro a hok
  refine q_ob hok (v := .int .i64 a0.k) rfl rfl (by decide) rfl (fun _ hw => Ob_load TB_Refs2 rfl rfl rfl ((X1.below hw).cell 0 rfl)) ?_; clear hok a; intro a hok
  refine q_runk TB_Refs2 hok 1 rfl rfl ?_; clear hok a; intro a hok
  refine q_ob hok (v := .int .i64 b.k) rfl rfl (by decide) rfl (fun _ hw => Ob_load TB_Refs2 rfl rfl rfl ((X2.below hw).cell 0 rfl)) ?_; clear hok a; intro a hok
  refine q_runk TB_Refs2 hok 2 rfl rfl ?_; clear hok a; intro a hok
  refine q_gob hok (c := a0.k == b.k) rfl rfl rfl rfl (by decide) rfl (by decide) rfl (fun _ => fun _ _ => Ob_c TB_Refs2 rfl) ?_; clear hok a; intro a hok
  refine q_gob hok (c := a0.k == b.k) (v := .int .i64 a0.epoch) rfl rfl rfl rfl (by decide) rfl (by decide) rfl (fun hg1 => ?_) ?_
  · replace hg1 := eq_of_beq hg1
    exact fun _ hw => Ob_load TB_Refs2 rfl rfl rfl ((X1.below hw).cell 1 rfl)
  clear hok a; intro a hok
  refine q_gob hok (c := a0.k == b.k) rfl rfl rfl rfl (by decide) rfl (by decide) rfl (fun _ => fun _ _ => Ob_c TB_Refs2 rfl) ?_; clear hok a; intro a hok
  refine q_gob hok (c := a0.k == b.k) (v := .int .i64 b.epoch) rfl rfl rfl rfl (by decide) rfl (by decide) rfl (fun hg2 => ?_) ?_
  · replace hg2 := eq_of_beq hg2
    exact fun _ hw => Ob_load TB_Refs2 rfl rfl rfl ((X2.below hw).cell 1 rfl)
  clear hok a; intro a hok
  refine q_gob hok (c := a0.k == b.k) rfl rfl rfl rfl (by decide) rfl (by decide) rfl (fun _ => fun _ _ => Ob_c TB_Refs2 rfl) ?_; clear hok a; intro a hok
  refine q_and hok (i := 5) rfl rfl rfl rfl rfl rfl rfl (by decide) rfl rfl ?_; clear hok a; intro a hok
  refine q_runk TB_Refs2 hok 1 rfl rfl ?_; clear hok a; intro a hok
  refine q_gob hok (c := (a0.k == b.k) && (a0.epoch == b.epoch)) rfl rfl rfl rfl (by decide) rfl (by decide) rfl (fun _ => fun _ _ => Ob_c TB_Refs2 rfl) ?_; clear hok a; intro a hok
  refine q_gob hok (c := (a0.k == b.k) && (a0.epoch == b.epoch)) (v := .int .i64 a0.req) rfl rfl rfl rfl (by decide) rfl (by decide) rfl (fun hg3 => ?_) ?_
  · replace hg3 := And.intro (eq_of_beq (andT1 hg3)) (eq_of_beq (andT2 hg3))
    exact fun _ hw => Ob_load TB_Refs2 rfl rfl rfl ((X1.below hw).cell 2 rfl)
  clear hok a; intro a hok
  refine q_gob hok (c := (a0.k == b.k) && (a0.epoch == b.epoch)) rfl rfl rfl rfl (by decide) rfl (by decide) rfl (fun _ => fun _ _ => Ob_c TB_Refs2 rfl) ?_; clear hok a; intro a hok
  refine q_gob hok (c := (a0.k == b.k) && (a0.epoch == b.epoch)) (v := .int .i64 b.req) rfl rfl rfl rfl (by decide) rfl (by decide) rfl (fun hg4 => ?_) ?_
  · replace hg4 := And.intro (eq_of_beq (andT1 hg4)) (eq_of_beq (andT2 hg4))
    exact fun _ hw => Ob_load TB_Refs2 rfl rfl rfl ((X2.below hw).cell 2 rfl)
  clear hok a; intro a hok
  refine q_gob hok (c := (a0.k == b.k) && (a0.epoch == b.epoch)) rfl rfl rfl rfl (by decide) rfl (by decide) rfl (fun _ => fun _ _ => Ob_c TB_Refs2 rfl) ?_; clear hok a; intro a hok
  refine q_and hok (i := 12) rfl rfl rfl rfl rfl rfl rfl (by decide) rfl rfl ?_; clear hok a; intro a hok
  refine q_runk TB_Refs2 hok 1 rfl rfl ?_; clear hok a; intro a hok
  refine q_gob hok (c := ((a0.k == b.k) && (a0.epoch == b.epoch)) && (a0.req == b.req)) rfl rfl rfl rfl (by decide) rfl (by decide) rfl (fun _ => fun _ _ => Ob_c TB_Refs2 rfl) ?_; clear hok a; intro a hok
  refine q_gob hok (c := ((a0.k == b.k) && (a0.epoch == b.epoch)) && (a0.req == b.req)) (v := .int .i64 a0.serial) rfl rfl rfl rfl (by decide) rfl (by decide) rfl (fun hg5 => ?_) ?_
  · replace hg5 := And.intro (And.intro (eq_of_beq (andT1 (andT1 hg5))) (eq_of_beq (andT2 (andT1 hg5)))) (eq_of_beq (andT2 hg5))
    exact fun _ hw => Ob_load TB_Refs2 rfl rfl rfl ((X1.below hw).cell 3 rfl)
  clear hok a; intro a hok
  refine q_gob hok (c := ((a0.k == b.k) && (a0.epoch == b.epoch)) && (a0.req == b.req)) rfl rfl rfl rfl (by decide) rfl (by decide) rfl (fun _ => fun _ _ => Ob_c TB_Refs2 rfl) ?_; clear hok a; intro a hok
  refine q_gob hok (c := ((a0.k == b.k) && (a0.epoch == b.epoch)) && (a0.req == b.req)) (v := .int .i64 b.serial) rfl rfl rfl rfl (by decide) rfl (by decide) rfl (fun hg6 => ?_) ?_
  · replace hg6 := And.intro (And.intro (eq_of_beq (andT1 (andT1 hg6))) (eq_of_beq (andT2 (andT1 hg6)))) (eq_of_beq (andT2 hg6))
    exact fun _ hw => Ob_load TB_Refs2 rfl rfl rfl ((X2.below hw).cell 3 rfl)
  clear hok a; intro a hok
  refine q_gob hok (c := ((a0.k == b.k) && (a0.epoch == b.epoch)) && (a0.req == b.req)) rfl rfl rfl rfl (by decide) rfl (by decide) rfl (fun _ => fun _ _ => Ob_c TB_Refs2 rfl) ?_; clear hok a; intro a hok
  refine q_and hok (i := 19) rfl rfl rfl rfl rfl rfl rfl (by decide) rfl rfl ?_; clear hok a; intro a hok
  refine q_runk TB_Refs2 hok 1 rfl rfl ?_; clear hok a; intro a hok
  refine q_gob hok (c := (((a0.k == b.k) && (a0.epoch == b.epoch)) && (a0.req == b.req)) && (a0.serial == b.serial)) rfl rfl rfl rfl (by decide) rfl (by decide) rfl (fun _ => fun _ _ => Ob_c TB_Refs2 rfl) ?_; clear hok a; intro a hok
  refine q_gob hok (c := (((a0.k == b.k) && (a0.epoch == b.epoch)) && (a0.req == b.req)) && (a0.serial == b.serial)) (v := .bool a0.flag) rfl rfl rfl rfl (by decide) rfl (by decide) rfl (fun hg7 => ?_) ?_
  · replace hg7 := And.intro (And.intro (And.intro (eq_of_beq (andT1 (andT1 (andT1 hg7)))) (eq_of_beq (andT2 (andT1 (andT1 hg7))))) (eq_of_beq (andT2 (andT1 hg7)))) (eq_of_beq (andT2 hg7))
    exact fun _ hw => Ob_load TB_Refs2 rfl rfl rfl ((X1.below hw).cell 4 rfl)
  clear hok a; intro a hok
  refine q_gob hok (c := (((a0.k == b.k) && (a0.epoch == b.epoch)) && (a0.req == b.req)) && (a0.serial == b.serial)) rfl rfl rfl rfl (by decide) rfl (by decide) rfl (fun _ => fun _ _ => Ob_c TB_Refs2 rfl) ?_; clear hok a; intro a hok
  refine q_gob hok (c := (((a0.k == b.k) && (a0.epoch == b.epoch)) && (a0.req == b.req)) && (a0.serial == b.serial)) (v := .bool b.flag) rfl rfl rfl rfl (by decide) rfl (by decide) rfl (fun hg8 => ?_) ?_
  · replace hg8 := And.intro (And.intro (And.intro (eq_of_beq (andT1 (andT1 (andT1 hg8)))) (eq_of_beq (andT2 (andT1 (andT1 hg8))))) (eq_of_beq (andT2 (andT1 hg8)))) (eq_of_beq (andT2 hg8))
    exact fun _ hw => Ob_load TB_Refs2 rfl rfl rfl ((X2.below hw).cell 4 rfl)
  clear hok a; intro a hok
  refine q_gob hok (c := (((a0.k == b.k) && (a0.epoch == b.epoch)) && (a0.req == b.req)) && (a0.serial == b.serial)) rfl rfl rfl rfl (by decide) rfl (by decide) rfl (fun _ => fun _ _ => Ob_c TB_Refs2 rfl) ?_; clear hok a; intro a hok
  refine q_and hok (i := 26) rfl rfl rfl rfl rfl rfl rfl (by decide) rfl rfl ?_; clear hok a; intro a hok
  refine q_runk TB_Refs2 hok 1 rfl rfl ?_; clear hok a; intro a hok
  refine q_gob hok (c := ((((a0.k == b.k) && (a0.epoch == b.epoch)) && (a0.req == b.req)) && (a0.serial == b.serial)) && (a0.flag == b.flag)) rfl rfl rfl rfl (by decide) rfl (by decide) rfl (fun _ => fun _ _ => Ob_c TB_Refs2 rfl) ?_; clear hok a; intro a hok
  refine q_gob hok (c := ((((a0.k == b.k) && (a0.epoch == b.epoch)) && (a0.req == b.req)) && (a0.serial == b.serial)) && (a0.flag == b.flag)) (v := .int .u64 (a0.at_ : Int)) rfl rfl rfl rfl (by decide) rfl (by decide) rfl (fun hg9 => ?_) ?_
  · replace hg9 := And.intro (And.intro (And.intro (And.intro (eq_of_beq (andT1 (andT1 (andT1 (andT1 hg9))))) (eq_of_beq (andT2 (andT1 (andT1 (andT1 hg9)))))) (eq_of_beq (andT2 (andT1 (andT1 hg9))))) (eq_of_beq (andT2 (andT1 hg9)))) ((andT2 hg9))
    exact fun _ hw => Ob_load TB_Refs2 rfl rfl rfl ((X1.below hw).cell 5 rfl)
  clear hok a; intro a hok
  refine q_gob hok (c := ((((a0.k == b.k) && (a0.epoch == b.epoch)) && (a0.req == b.req)) && (a0.serial == b.serial)) && (a0.flag == b.flag)) rfl rfl rfl rfl (by decide) rfl (by decide) rfl (fun _ => fun _ _ => Ob_c TB_Refs2 rfl) ?_; clear hok a; intro a hok
  refine q_gob hok (c := ((((a0.k == b.k) && (a0.epoch == b.epoch)) && (a0.req == b.req)) && (a0.serial == b.serial)) && (a0.flag == b.flag)) (v := .int .u64 (b.at_ : Int)) rfl rfl rfl rfl (by decide) rfl (by decide) rfl (fun hg10 => ?_) ?_
  · replace hg10 := And.intro (And.intro (And.intro (And.intro (eq_of_beq (andT1 (andT1 (andT1 (andT1 hg10))))) (eq_of_beq (andT2 (andT1 (andT1 (andT1 hg10)))))) (eq_of_beq (andT2 (andT1 (andT1 hg10))))) (eq_of_beq (andT2 (andT1 hg10)))) ((andT2 hg10))
    exact fun _ hw => Ob_load TB_Refs2 rfl rfl rfl ((X2.below hw).cell 5 rfl)
  clear hok a; intro a hok
  refine q_gob hok (c := ((((a0.k == b.k) && (a0.epoch == b.epoch)) && (a0.req == b.req)) && (a0.serial == b.serial)) && (a0.flag == b.flag)) rfl rfl rfl rfl (by decide) rfl (by decide) rfl (fun _ => fun _ _ => Ob_c TB_Refs2 rfl) ?_; clear hok a; intro a hok
  refine q_and hok (i := 33) rfl rfl rfl rfl rfl rfl rfl (by decide) rfl rfl ?_; clear hok a; intro a hok
  refine q_runk TB_Refs2 hok 1 rfl rfl ?_; clear hok a; intro a hok
  refine q_gob hok (c := (((((a0.k == b.k) && (a0.epoch == b.epoch)) && (a0.req == b.req)) && (a0.serial == b.serial)) && (a0.flag == b.flag)) && ((a0.at_ : Int) == (b.at_ : Int))) rfl rfl rfl rfl (by decide) rfl (by decide) rfl (fun _ => fun _ _ => Ob_c TB_Refs2 rfl) ?_; clear hok a; intro a hok
  refine q_gob hok (c := (((((a0.k == b.k) && (a0.epoch == b.epoch)) && (a0.req == b.req)) && (a0.serial == b.serial)) && (a0.flag == b.flag)) && ((a0.at_ : Int) == (b.at_ : Int))) (v := .int .u64 (a0.last : Int)) rfl rfl rfl rfl (by decide) rfl (by decide) rfl (fun hg11 => ?_) ?_
  · replace hg11 := And.intro (And.intro (And.intro (And.intro (And.intro (eq_of_beq (andT1 (andT1 (andT1 (andT1 (andT1 hg11)))))) (eq_of_beq (andT2 (andT1 (andT1 (andT1 (andT1 hg11))))))) (eq_of_beq (andT2 (andT1 (andT1 (andT1 hg11)))))) (eq_of_beq (andT2 (andT1 (andT1 hg11))))) ((andT2 (andT1 hg11)))) (eq_of_beq (andT2 hg11))
    exact fun _ hw => Ob_load TB_Refs2 rfl rfl rfl ((X1.below hw).cell 6 rfl)
  clear hok a; intro a hok
  refine q_gob hok (c := (((((a0.k == b.k) && (a0.epoch == b.epoch)) && (a0.req == b.req)) && (a0.serial == b.serial)) && (a0.flag == b.flag)) && ((a0.at_ : Int) == (b.at_ : Int))) rfl rfl rfl rfl (by decide) rfl (by decide) rfl (fun _ => fun _ _ => Ob_c TB_Refs2 rfl) ?_; clear hok a; intro a hok
  refine q_gob hok (c := (((((a0.k == b.k) && (a0.epoch == b.epoch)) && (a0.req == b.req)) && (a0.serial == b.serial)) && (a0.flag == b.flag)) && ((a0.at_ : Int) == (b.at_ : Int))) (v := .int .u64 (b.last : Int)) rfl rfl rfl rfl (by decide) rfl (by decide) rfl (fun hg12 => ?_) ?_
  · replace hg12 := And.intro (And.intro (And.intro (And.intro (And.intro (eq_of_beq (andT1 (andT1 (andT1 (andT1 (andT1 hg12)))))) (eq_of_beq (andT2 (andT1 (andT1 (andT1 (andT1 hg12))))))) (eq_of_beq (andT2 (andT1 (andT1 (andT1 hg12)))))) (eq_of_beq (andT2 (andT1 (andT1 hg12))))) ((andT2 (andT1 hg12)))) (eq_of_beq (andT2 hg12))
    exact fun _ hw => Ob_load TB_Refs2 rfl rfl rfl ((X2.below hw).cell 6 rfl)
  clear hok a; intro a hok
  refine q_gob hok (c := (((((a0.k == b.k) && (a0.epoch == b.epoch)) && (a0.req == b.req)) && (a0.serial == b.serial)) && (a0.flag == b.flag)) && ((a0.at_ : Int) == (b.at_ : Int))) rfl rfl rfl rfl (by decide) rfl (by decide) rfl (fun _ => fun _ _ => Ob_c TB_Refs2 rfl) ?_; clear hok a; intro a hok
  refine q_and hok (i := 40) rfl rfl rfl rfl rfl rfl rfl (by decide) rfl rfl ?_; clear hok a; intro a hok
  refine q_runk TB_Refs2 hok 1 rfl rfl ?_; clear hok a; intro a hok
  refine q_gob hok (c := ((((((a0.k == b.k) && (a0.epoch == b.epoch)) && (a0.req == b.req)) && (a0.serial == b.serial)) && (a0.flag == b.flag)) && ((a0.at_ : Int) == (b.at_ : Int))) && ((a0.last : Int) == (b.last : Int))) rfl rfl rfl rfl (by decide) rfl (by decide) rfl (fun _ => fun _ _ => Ob_c TB_Refs2 rfl) ?_; clear hok a; intro a hok
  refine q_gob hok (c := ((((((a0.k == b.k) && (a0.epoch == b.epoch)) && (a0.req == b.req)) && (a0.serial == b.serial)) && (a0.flag == b.flag)) && ((a0.at_ : Int) == (b.at_ : Int))) && ((a0.last : Int) == (b.last : Int))) (v := .int .i64 a0.n) rfl rfl rfl rfl (by decide) rfl (by decide) rfl (fun hg13 => ?_) ?_
  · replace hg13 := And.intro (And.intro (And.intro (And.intro (And.intro (And.intro (eq_of_beq (andT1 (andT1 (andT1 (andT1 (andT1 (andT1 hg13))))))) (eq_of_beq (andT2 (andT1 (andT1 (andT1 (andT1 (andT1 hg13)))))))) (eq_of_beq (andT2 (andT1 (andT1 (andT1 (andT1 hg13))))))) (eq_of_beq (andT2 (andT1 (andT1 (andT1 hg13)))))) ((andT2 (andT1 (andT1 hg13))))) (eq_of_beq (andT2 (andT1 hg13)))) (eq_of_beq (andT2 hg13))
    exact fun _ hw => Ob_load TB_Refs2 rfl rfl rfl ((X1.below hw).cell 7 rfl)
  clear hok a; intro a hok
  refine q_gob hok (c := ((((((a0.k == b.k) && (a0.epoch == b.epoch)) && (a0.req == b.req)) && (a0.serial == b.serial)) && (a0.flag == b.flag)) && ((a0.at_ : Int) == (b.at_ : Int))) && ((a0.last : Int) == (b.last : Int))) rfl rfl rfl rfl (by decide) rfl (by decide) rfl (fun _ => fun _ _ => Ob_c TB_Refs2 rfl) ?_; clear hok a; intro a hok
  refine q_gob hok (c := ((((((a0.k == b.k) && (a0.epoch == b.epoch)) && (a0.req == b.req)) && (a0.serial == b.serial)) && (a0.flag == b.flag)) && ((a0.at_ : Int) == (b.at_ : Int))) && ((a0.last : Int) == (b.last : Int))) (v := .int .i64 b.n) rfl rfl rfl rfl (by decide) rfl (by decide) rfl (fun hg14 => ?_) ?_
  · replace hg14 := And.intro (And.intro (And.intro (And.intro (And.intro (And.intro (eq_of_beq (andT1 (andT1 (andT1 (andT1 (andT1 (andT1 hg14))))))) (eq_of_beq (andT2 (andT1 (andT1 (andT1 (andT1 (andT1 hg14)))))))) (eq_of_beq (andT2 (andT1 (andT1 (andT1 (andT1 hg14))))))) (eq_of_beq (andT2 (andT1 (andT1 (andT1 hg14)))))) ((andT2 (andT1 (andT1 hg14))))) (eq_of_beq (andT2 (andT1 hg14)))) (eq_of_beq (andT2 hg14))
    exact fun _ hw => Ob_load TB_Refs2 rfl rfl rfl ((X2.below hw).cell 7 rfl)
  clear hok a; intro a hok
  refine q_gob hok (c := ((((((a0.k == b.k) && (a0.epoch == b.epoch)) && (a0.req == b.req)) && (a0.serial == b.serial)) && (a0.flag == b.flag)) && ((a0.at_ : Int) == (b.at_ : Int))) && ((a0.last : Int) == (b.last : Int))) rfl rfl rfl rfl (by decide) rfl (by decide) rfl (fun _ => fun _ _ => Ob_c TB_Refs2 rfl) ?_; clear hok a; intro a hok
  refine q_and hok (i := 47) rfl rfl rfl rfl rfl rfl rfl (by decide) rfl rfl ?_; clear hok a; intro a hok
  refine q_runk TB_Refs2 hok 1 rfl rfl ?_; clear hok a; intro a hok
  refine q_gob hok (c := (((((((a0.k == b.k) && (a0.epoch == b.epoch)) && (a0.req == b.req)) && (a0.serial == b.serial)) && (a0.flag == b.flag)) && ((a0.at_ : Int) == (b.at_ : Int))) && ((a0.last : Int) == (b.last : Int))) && (a0.n == b.n)) rfl rfl rfl rfl (by decide) rfl (by decide) rfl (fun _ => fun _ _ => Ob_c TB_Refs2 rfl) ?_; clear hok a; intro a hok
  refine q_gob hok (c := (((((((a0.k == b.k) && (a0.epoch == b.epoch)) && (a0.req == b.req)) && (a0.serial == b.serial)) && (a0.flag == b.flag)) && ((a0.at_ : Int) == (b.at_ : Int))) && ((a0.last : Int) == (b.last : Int))) && (a0.n == b.n)) (v := .int .i64 a0.m) rfl rfl rfl rfl (by decide) rfl (by decide) rfl (fun hg15 => ?_) ?_
  · replace hg15 := And.intro (And.intro (And.intro (And.intro (And.intro (And.intro (And.intro (eq_of_beq (andT1 (andT1 (andT1 (andT1 (andT1 (andT1 (andT1 hg15)))))))) (eq_of_beq (andT2 (andT1 (andT1 (andT1 (andT1 (andT1 (andT1 hg15))))))))) (eq_of_beq (andT2 (andT1 (andT1 (andT1 (andT1 (andT1 hg15)))))))) (eq_of_beq (andT2 (andT1 (andT1 (andT1 (andT1 hg15))))))) ((andT2 (andT1 (andT1 (andT1 hg15)))))) (eq_of_beq (andT2 (andT1 (andT1 hg15))))) (eq_of_beq (andT2 (andT1 hg15)))) (eq_of_beq (andT2 hg15))
    exact fun _ hw => Ob_load TB_Refs2 rfl rfl rfl ((X1.below hw).cell 8 rfl)
  clear hok a; intro a hok
  refine q_gob hok (c := (((((((a0.k == b.k) && (a0.epoch == b.epoch)) && (a0.req == b.req)) && (a0.serial == b.serial)) && (a0.flag == b.flag)) && ((a0.at_ : Int) == (b.at_ : Int))) && ((a0.last : Int) == (b.last : Int))) && (a0.n == b.n)) rfl rfl rfl rfl (by decide) rfl (by decide) rfl (fun _ => fun _ _ => Ob_c TB_Refs2 rfl) ?_; clear hok a; intro a hok
  refine q_gob hok (c := (((((((a0.k == b.k) && (a0.epoch == b.epoch)) && (a0.req == b.req)) && (a0.serial == b.serial)) && (a0.flag == b.flag)) && ((a0.at_ : Int) == (b.at_ : Int))) && ((a0.last : Int) == (b.last : Int))) && (a0.n == b.n)) (v := .int .i64 b.m) rfl rfl rfl rfl (by decide) rfl (by decide) rfl (fun hg16 => ?_) ?_
  · replace hg16 := And.intro (And.intro (And.intro (And.intro (And.intro (And.intro (And.intro (eq_of_beq (andT1 (andT1 (andT1 (andT1 (andT1 (andT1 (andT1 hg16)))))))) (eq_of_beq (andT2 (andT1 (andT1 (andT1 (andT1 (andT1 (andT1 hg16))))))))) (eq_of_beq (andT2 (andT1 (andT1 (andT1 (andT1 (andT1 hg16)))))))) (eq_of_beq (andT2 (andT1 (andT1 (andT1 (andT1 hg16))))))) ((andT2 (andT1 (andT1 (andT1 hg16)))))) (eq_of_beq (andT2 (andT1 (andT1 hg16))))) (eq_of_beq (andT2 (andT1 hg16)))) (eq_of_beq (andT2 hg16))
    exact fun _ hw => Ob_load TB_Refs2 rfl rfl rfl ((X2.below hw).cell 8 rfl)
  clear hok a; intro a hok
  refine q_gob hok (c := (((((((a0.k == b.k) && (a0.epoch == b.epoch)) && (a0.req == b.req)) && (a0.serial == b.serial)) && (a0.flag == b.flag)) && ((a0.at_ : Int) == (b.at_ : Int))) && ((a0.last : Int) == (b.last : Int))) && (a0.n == b.n)) rfl rfl rfl rfl (by decide) rfl (by decide) rfl (fun _ => fun _ _ => Ob_c TB_Refs2 rfl) ?_; clear hok a; intro a hok
  refine q_and hok (i := 54) rfl rfl rfl rfl rfl rfl rfl (by decide) rfl rfl ?_; clear hok a; intro a hok
  refine q_runk TB_Refs2 hok 1 rfl rfl ?_; clear hok a; intro a hok
  refine q_gob hok (c := ((((((((a0.k == b.k) && (a0.epoch == b.epoch)) && (a0.req == b.req)) && (a0.serial == b.serial)) && (a0.flag == b.flag)) && ((a0.at_ : Int) == (b.at_ : Int))) && ((a0.last : Int) == (b.last : Int))) && (a0.n == b.n)) && (a0.m == b.m)) rfl rfl rfl rfl (by decide) rfl (by decide) rfl (fun _ => fun _ _ => Ob_c TB_Refs2 rfl) ?_; clear hok a; intro a hok
  refine q_gob hok (c := ((((((((a0.k == b.k) && (a0.epoch == b.epoch)) && (a0.req == b.req)) && (a0.serial == b.serial)) && (a0.flag == b.flag)) && ((a0.at_ : Int) == (b.at_ : Int))) && ((a0.last : Int) == (b.last : Int))) && (a0.n == b.n)) && (a0.m == b.m)) (v := .int .i64 a0.p) rfl rfl rfl rfl (by decide) rfl (by decide) rfl (fun hg17 => ?_) ?_
  · replace hg17 := And.intro (And.intro (And.intro (And.intro (And.intro (And.intro (And.intro (And.intro (eq_of_beq (andT1 (andT1 (andT1 (andT1 (andT1 (andT1 (andT1 (andT1 hg17))))))))) (eq_of_beq (andT2 (andT1 (andT1 (andT1 (andT1 (andT1 (andT1 (andT1 hg17)))))))))) (eq_of_beq (andT2 (andT1 (andT1 (andT1 (andT1 (andT1 (andT1 hg17))))))))) (eq_of_beq (andT2 (andT1 (andT1 (andT1 (andT1 (andT1 hg17)))))))) ((andT2 (andT1 (andT1 (andT1 (andT1 hg17))))))) (eq_of_beq (andT2 (andT1 (andT1 (andT1 hg17)))))) (eq_of_beq (andT2 (andT1 (andT1 hg17))))) (eq_of_beq (andT2 (andT1 hg17)))) (eq_of_beq (andT2 hg17))
    exact fun _ hw => Ob_load TB_Refs2 rfl rfl rfl ((X1.below hw).cell 9 rfl)
  clear hok a; intro a hok
  refine q_gob hok (c := ((((((((a0.k == b.k) && (a0.epoch == b.epoch)) && (a0.req == b.req)) && (a0.serial == b.serial)) && (a0.flag == b.flag)) && ((a0.at_ : Int) == (b.at_ : Int))) && ((a0.last : Int) == (b.last : Int))) && (a0.n == b.n)) && (a0.m == b.m)) rfl rfl rfl rfl (by decide) rfl (by decide) rfl (fun _ => fun _ _ => Ob_c TB_Refs2 rfl) ?_; clear hok a; intro a hok
  refine q_gob hok (c := ((((((((a0.k == b.k) && (a0.epoch == b.epoch)) && (a0.req == b.req)) && (a0.serial == b.serial)) && (a0.flag == b.flag)) && ((a0.at_ : Int) == (b.at_ : Int))) && ((a0.last : Int) == (b.last : Int))) && (a0.n == b.n)) && (a0.m == b.m)) (v := .int .i64 b.p) rfl rfl rfl rfl (by decide) rfl (by decide) rfl (fun hg18 => ?_) ?_
  · replace hg18 := And.intro (And.intro (And.intro (And.intro (And.intro (And.intro (And.intro (And.intro (eq_of_beq (andT1 (andT1 (andT1 (andT1 (andT1 (andT1 (andT1 (andT1 hg18))))))))) (eq_of_beq (andT2 (andT1 (andT1 (andT1 (andT1 (andT1 (andT1 (andT1 hg18)))))))))) (eq_of_beq (andT2 (andT1 (andT1 (andT1 (andT1 (andT1 (andT1 hg18))))))))) (eq_of_beq (andT2 (andT1 (andT1 (andT1 (andT1 (andT1 hg18)))))))) ((andT2 (andT1 (andT1 (andT1 (andT1 hg18))))))) (eq_of_beq (andT2 (andT1 (andT1 (andT1 hg18)))))) (eq_of_beq (andT2 (andT1 (andT1 hg18))))) (eq_of_beq (andT2 (andT1 hg18)))) (eq_of_beq (andT2 hg18))
    exact fun _ hw => Ob_load TB_Refs2 rfl rfl rfl ((X2.below hw).cell 9 rfl)
  clear hok a; intro a hok
  refine q_gob hok (c := ((((((((a0.k == b.k) && (a0.epoch == b.epoch)) && (a0.req == b.req)) && (a0.serial == b.serial)) && (a0.flag == b.flag)) && ((a0.at_ : Int) == (b.at_ : Int))) && ((a0.last : Int) == (b.last : Int))) && (a0.n == b.n)) && (a0.m == b.m)) rfl rfl rfl rfl (by decide) rfl (by decide) rfl (fun _ => fun _ _ => Ob_c TB_Refs2 rfl) ?_; clear hok a; intro a hok
  refine q_and hok (i := 61) rfl rfl rfl rfl rfl rfl rfl (by decide) rfl rfl ?_; clear hok a; intro a hok
  refine q_runk TB_Refs2 hok 1 rfl rfl ?_; clear hok a; intro a hok
  refine q_gob hok (c := (((((((((a0.k == b.k) && (a0.epoch == b.epoch)) && (a0.req == b.req)) && (a0.serial == b.serial)) && (a0.flag == b.flag)) && ((a0.at_ : Int) == (b.at_ : Int))) && ((a0.last : Int) == (b.last : Int))) && (a0.n == b.n)) && (a0.m == b.m)) && (a0.p == b.p)) rfl rfl rfl rfl (by decide) rfl (by decide) rfl (fun _ => fun _ _ => Ob_c TB_Refs2 rfl) ?_; clear hok a; intro a hok
  refine q_gob hok (c := (((((((((a0.k == b.k) && (a0.epoch == b.epoch)) && (a0.req == b.req)) && (a0.serial == b.serial)) && (a0.flag == b.flag)) && ((a0.at_ : Int) == (b.at_ : Int))) && ((a0.last : Int) == (b.last : Int))) && (a0.n == b.n)) && (a0.m == b.m)) && (a0.p == b.p)) (v := .int .i64 a0.e) rfl rfl rfl rfl (by decide) rfl (by decide) rfl (fun hg19 => ?_) ?_
  · replace hg19 := And.intro (And.intro (And.intro (And.intro (And.intro (And.intro (And.intro (And.intro (And.intro (eq_of_beq (andT1 (andT1 (andT1 (andT1 (andT1 (andT1 (andT1 (andT1 (andT1 hg19)))))))))) (eq_of_beq (andT2 (andT1 (andT1 (andT1 (andT1 (andT1 (andT1 (andT1 (andT1 hg19))))))))))) (eq_of_beq (andT2 (andT1 (andT1 (andT1 (andT1 (andT1 (andT1 (andT1 hg19)))))))))) (eq_of_beq (andT2 (andT1 (andT1 (andT1 (andT1 (andT1 (andT1 hg19))))))))) ((andT2 (andT1 (andT1 (andT1 (andT1 (andT1 hg19)))))))) (eq_of_beq (andT2 (andT1 (andT1 (andT1 (andT1 hg19))))))) (eq_of_beq (andT2 (andT1 (andT1 (andT1 hg19)))))) (eq_of_beq (andT2 (andT1 (andT1 hg19))))) (eq_of_beq (andT2 (andT1 hg19)))) (eq_of_beq (andT2 hg19))
    exact fun _ hw => Ob_load TB_Refs2 rfl rfl rfl ((X1.below hw).cell 10 rfl)
  clear hok a; intro a hok
  refine q_gob hok (c := (((((((((a0.k == b.k) && (a0.epoch == b.epoch)) && (a0.req == b.req)) && (a0.serial == b.serial)) && (a0.flag == b.flag)) && ((a0.at_ : Int) == (b.at_ : Int))) && ((a0.last : Int) == (b.last : Int))) && (a0.n == b.n)) && (a0.m == b.m)) && (a0.p == b.p)) rfl rfl rfl rfl (by decide) rfl (by decide) rfl (fun _ => fun _ _ => Ob_c TB_Refs2 rfl) ?_; clear hok a; intro a hok
  refine q_gob hok (c := (((((((((a0.k == b.k) && (a0.epoch == b.epoch)) && (a0.req == b.req)) && (a0.serial == b.serial)) && (a0.flag == b.flag)) && ((a0.at_ : Int) == (b.at_ : Int))) && ((a0.last : Int) == (b.last : Int))) && (a0.n == b.n)) && (a0.m == b.m)) && (a0.p == b.p)) (v := .int .i64 b.e) rfl rfl rfl rfl (by decide) rfl (by decide) rfl (fun hg20 => ?_) ?_
  · replace hg20 := And.intro (And.intro (And.intro (And.intro (And.intro (And.intro (And.intro (And.intro (And.intro (eq_of_beq (andT1 (andT1 (andT1 (andT1 (andT1 (andT1 (andT1 (andT1 (andT1 hg20)))))))))) (eq_of_beq (andT2 (andT1 (andT1 (andT1 (andT1 (andT1 (andT1 (andT1 (andT1 hg20))))))))))) (eq_of_beq (andT2 (andT1 (andT1 (andT1 (andT1 (andT1 (andT1 (andT1 hg20)))))))))) (eq_of_beq (andT2 (andT1 (andT1 (andT1 (andT1 (andT1 (andT1 hg20))))))))) ((andT2 (andT1 (andT1 (andT1 (andT1 (andT1 hg20)))))))) (eq_of_beq (andT2 (andT1 (andT1 (andT1 (andT1 hg20))))))) (eq_of_beq (andT2 (andT1 (andT1 (andT1 hg20)))))) (eq_of_beq (andT2 (andT1 (andT1 hg20))))) (eq_of_beq (andT2 (andT1 hg20)))) (eq_of_beq (andT2 hg20))
    exact fun _ hw => Ob_load TB_Refs2 rfl rfl rfl ((X2.below hw).cell 10 rfl)
  clear hok a; intro a hok
  refine q_gob hok (c := (((((((((a0.k == b.k) && (a0.epoch == b.epoch)) && (a0.req == b.req)) && (a0.serial == b.serial)) && (a0.flag == b.flag)) && ((a0.at_ : Int) == (b.at_ : Int))) && ((a0.last : Int) == (b.last : Int))) && (a0.n == b.n)) && (a0.m == b.m)) && (a0.p == b.p)) rfl rfl rfl rfl (by decide) rfl (by decide) rfl (fun _ => fun _ _ => Ob_c TB_Refs2 rfl) ?_; clear hok a; intro a hok
  refine q_and hok (i := 68) rfl rfl rfl rfl rfl rfl rfl (by decide) rfl rfl ?_; clear hok a; intro a hok
  refine q_runk TB_Refs2 hok 1 rfl rfl ?_; clear hok a; intro a hok
  refine q_gob hok (c := ((((((((((a0.k == b.k) && (a0.epoch == b.epoch)) && (a0.req == b.req)) && (a0.serial == b.serial)) && (a0.flag == b.flag)) && ((a0.at_ : Int) == (b.at_ : Int))) && ((a0.last : Int) == (b.last : Int))) && (a0.n == b.n)) && (a0.m == b.m)) && (a0.p == b.p)) && (a0.e == b.e)) rfl rfl rfl rfl (by decide) rfl (by decide) rfl (fun _ => fun _ _ => Ob_c TB_Refs2 rfl) ?_; clear hok a; intro a hok
  refine q_gob hok (c := ((((((((((a0.k == b.k) && (a0.epoch == b.epoch)) && (a0.req == b.req)) && (a0.serial == b.serial)) && (a0.flag == b.flag)) && ((a0.at_ : Int) == (b.at_ : Int))) && ((a0.last : Int) == (b.last : Int))) && (a0.n == b.n)) && (a0.m == b.m)) && (a0.p == b.p)) && (a0.e == b.e)) (v := .string a0.key) rfl rfl rfl rfl (by decide) rfl (by decide) rfl (fun hg21 => ?_) ?_
  · replace hg21 := And.intro (And.intro (And.intro (And.intro (And.intro (And.intro (And.intro (And.intro (And.intro (And.intro (eq_of_beq (andT1 (andT1 (andT1 (andT1 (andT1 (andT1 (andT1 (andT1 (andT1 (andT1 hg21))))))))))) (eq_of_beq (andT2 (andT1 (andT1 (andT1 (andT1 (andT1 (andT1 (andT1 (andT1 (andT1 hg21)))))))))))) (eq_of_beq (andT2 (andT1 (andT1 (andT1 (andT1 (andT1 (andT1 (andT1 (andT1 hg21))))))))))) (eq_of_beq (andT2 (andT1 (andT1 (andT1 (andT1 (andT1 (andT1 (andT1 hg21)))))))))) ((andT2 (andT1 (andT1 (andT1 (andT1 (andT1 (andT1 hg21))))))))) (eq_of_beq (andT2 (andT1 (andT1 (andT1 (andT1 (andT1 hg21)))))))) (eq_of_beq (andT2 (andT1 (andT1 (andT1 (andT1 hg21))))))) (eq_of_beq (andT2 (andT1 (andT1 (andT1 hg21)))))) (eq_of_beq (andT2 (andT1 (andT1 hg21))))) (eq_of_beq (andT2 (andT1 hg21)))) (eq_of_beq (andT2 hg21))
    exact fun _ hw => Ob_load TB_Refs2 rfl rfl rfl ((X1.below hw).cell 11 rfl)
  clear hok a; intro a hok
  refine q_gob hok (c := ((((((((((a0.k == b.k) && (a0.epoch == b.epoch)) && (a0.req == b.req)) && (a0.serial == b.serial)) && (a0.flag == b.flag)) && ((a0.at_ : Int) == (b.at_ : Int))) && ((a0.last : Int) == (b.last : Int))) && (a0.n == b.n)) && (a0.m == b.m)) && (a0.p == b.p)) && (a0.e == b.e)) rfl rfl rfl rfl (by decide) rfl (by decide) rfl (fun _ => fun _ _ => Ob_c TB_Refs2 rfl) ?_; clear hok a; intro a hok
  refine q_gob hok (c := ((((((((((a0.k == b.k) && (a0.epoch == b.epoch)) && (a0.req == b.req)) && (a0.serial == b.serial)) && (a0.flag == b.flag)) && ((a0.at_ : Int) == (b.at_ : Int))) && ((a0.last : Int) == (b.last : Int))) && (a0.n == b.n)) && (a0.m == b.m)) && (a0.p == b.p)) && (a0.e == b.e)) (v := .string b.key) rfl rfl rfl rfl (by decide) rfl (by decide) rfl (fun hg22 => ?_) ?_
  · replace hg22 := And.intro (And.intro (And.intro (And.intro (And.intro (And.intro (And.intro (And.intro (And.intro (And.intro (eq_of_beq (andT1 (andT1 (andT1 (andT1 (andT1 (andT1 (andT1 (andT1 (andT1 (andT1 hg22))))))))))) (eq_of_beq (andT2 (andT1 (andT1 (andT1 (andT1 (andT1 (andT1 (andT1 (andT1 (andT1 hg22)))))))))))) (eq_of_beq (andT2 (andT1 (andT1 (andT1 (andT1 (andT1 (andT1 (andT1 (andT1 hg22))))))))))) (eq_of_beq (andT2 (andT1 (andT1 (andT1 (andT1 (andT1 (andT1 (andT1 hg22)))))))))) ((andT2 (andT1 (andT1 (andT1 (andT1 (andT1 (andT1 hg22))))))))) (eq_of_beq (andT2 (andT1 (andT1 (andT1 (andT1 (andT1 hg22)))))))) (eq_of_beq (andT2 (andT1 (andT1 (andT1 (andT1 hg22))))))) (eq_of_beq (andT2 (andT1 (andT1 (andT1 hg22)))))) (eq_of_beq (andT2 (andT1 (andT1 hg22))))) (eq_of_beq (andT2 (andT1 hg22)))) (eq_of_beq (andT2 hg22))
    exact fun _ hw => Ob_load TB_Refs2 rfl rfl rfl ((X2.below hw).cell 11 rfl)
  clear hok a; intro a hok
  refine q_gob hok (c := ((((((((((a0.k == b.k) && (a0.epoch == b.epoch)) && (a0.req == b.req)) && (a0.serial == b.serial)) && (a0.flag == b.flag)) && ((a0.at_ : Int) == (b.at_ : Int))) && ((a0.last : Int) == (b.last : Int))) && (a0.n == b.n)) && (a0.m == b.m)) && (a0.p == b.p)) && (a0.e == b.e)) rfl rfl rfl rfl (by decide) rfl (by decide) rfl (fun _ => fun _ _ => Ob_c TB_Refs2 rfl) ?_; clear hok a; intro a hok
  refine q_and hok (i := 75) rfl rfl rfl rfl rfl rfl rfl (by decide) rfl rfl ?_; clear hok a; intro a hok
  refine q_runk TB_Refs2 hok 1 rfl rfl ?_; clear hok a; intro a hok
  refine q_gob hok (c := (((((((((((a0.k == b.k) && (a0.epoch == b.epoch)) && (a0.req == b.req)) && (a0.serial == b.serial)) && (a0.flag == b.flag)) && ((a0.at_ : Int) == (b.at_ : Int))) && ((a0.last : Int) == (b.last : Int))) && (a0.n == b.n)) && (a0.m == b.m)) && (a0.p == b.p)) && (a0.e == b.e)) && (seqB a0.key b.key)) rfl rfl rfl rfl (by decide) rfl (by decide) rfl (fun _ => fun _ _ => Ob_c TB_Refs2 rfl) ?_; clear hok a; intro a hok
  refine q_gob hok (c := (((((((((((a0.k == b.k) && (a0.epoch == b.epoch)) && (a0.req == b.req)) && (a0.serial == b.serial)) && (a0.flag == b.flag)) && ((a0.at_ : Int) == (b.at_ : Int))) && ((a0.last : Int) == (b.last : Int))) && (a0.n == b.n)) && (a0.m == b.m)) && (a0.p == b.p)) && (a0.e == b.e)) && (seqB a0.key b.key)) (v := .string a0.to_) rfl rfl rfl rfl (by decide) rfl (by decide) rfl (fun hg23 => ?_) ?_
  · replace hg23 := And.intro (And.intro (And.intro (And.intro (And.intro (And.intro (And.intro (And.intro (And.intro (And.intro (And.intro (eq_of_beq (andT1 (andT1 (andT1 (andT1 (andT1 (andT1 (andT1 (andT1 (andT1 (andT1 (andT1 hg23)))))))))))) (eq_of_beq (andT2 (andT1 (andT1 (andT1 (andT1 (andT1 (andT1 (andT1 (andT1 (andT1 (andT1 hg23))))))))))))) (eq_of_beq (andT2 (andT1 (andT1 (andT1 (andT1 (andT1 (andT1 (andT1 (andT1 (andT1 hg23)))))))))))) (eq_of_beq (andT2 (andT1 (andT1 (andT1 (andT1 (andT1 (andT1 (andT1 (andT1 hg23))))))))))) ((andT2 (andT1 (andT1 (andT1 (andT1 (andT1 (andT1 (andT1 hg23)))))))))) (eq_of_beq (andT2 (andT1 (andT1 (andT1 (andT1 (andT1 (andT1 hg23))))))))) (eq_of_beq (andT2 (andT1 (andT1 (andT1 (andT1 (andT1 hg23)))))))) (eq_of_beq (andT2 (andT1 (andT1 (andT1 (andT1 hg23))))))) (eq_of_beq (andT2 (andT1 (andT1 (andT1 hg23)))))) (eq_of_beq (andT2 (andT1 (andT1 hg23))))) (eq_of_beq (andT2 (andT1 hg23)))) (seqB_iff.1 (andT2 hg23))
    exact fun _ hw => Ob_load TB_Refs2 rfl rfl rfl ((X1.below hw).cell 12 rfl)
  clear hok a; intro a hok
  refine q_gob hok (c := (((((((((((a0.k == b.k) && (a0.epoch == b.epoch)) && (a0.req == b.req)) && (a0.serial == b.serial)) && (a0.flag == b.flag)) && ((a0.at_ : Int) == (b.at_ : Int))) && ((a0.last : Int) == (b.last : Int))) && (a0.n == b.n)) && (a0.m == b.m)) && (a0.p == b.p)) && (a0.e == b.e)) && (seqB a0.key b.key)) rfl rfl rfl rfl (by decide) rfl (by decide) rfl (fun _ => fun _ _ => Ob_c TB_Refs2 rfl) ?_; clear hok a; intro a hok
  refine q_gob hok (c := (((((((((((a0.k == b.k) && (a0.epoch == b.epoch)) && (a0.req == b.req)) && (a0.serial == b.serial)) && (a0.flag == b.flag)) && ((a0.at_ : Int) == (b.at_ : Int))) && ((a0.last : Int) == (b.last : Int))) && (a0.n == b.n)) && (a0.m == b.m)) && (a0.p == b.p)) && (a0.e == b.e)) && (seqB a0.key b.key)) (v := .string b.to_) rfl rfl rfl rfl (by decide) rfl (by decide) rfl (fun hg24 => ?_) ?_
  · replace hg24 := And.intro (And.intro (And.intro (And.intro (And.intro (And.intro (And.intro (And.intro (And.intro (And.intro (And.intro (eq_of_beq (andT1 (andT1 (andT1 (andT1 (andT1 (andT1 (andT1 (andT1 (andT1 (andT1 (andT1 hg24)))))))))))) (eq_of_beq (andT2 (andT1 (andT1 (andT1 (andT1 (andT1 (andT1 (andT1 (andT1 (andT1 (andT1 hg24))))))))))))) (eq_of_beq (andT2 (andT1 (andT1 (andT1 (andT1 (andT1 (andT1 (andT1 (andT1 (andT1 hg24)))))))))))) (eq_of_beq (andT2 (andT1 (andT1 (andT1 (andT1 (andT1 (andT1 (andT1 (andT1 hg24))))))))))) ((andT2 (andT1 (andT1 (andT1 (andT1 (andT1 (andT1 (andT1 hg24)))))))))) (eq_of_beq (andT2 (andT1 (andT1 (andT1 (andT1 (andT1 (andT1 hg24))))))))) (eq_of_beq (andT2 (andT1 (andT1 (andT1 (andT1 (andT1 hg24)))))))) (eq_of_beq (andT2 (andT1 (andT1 (andT1 (andT1 hg24))))))) (eq_of_beq (andT2 (andT1 (andT1 (andT1 hg24)))))) (eq_of_beq (andT2 (andT1 (andT1 hg24))))) (eq_of_beq (andT2 (andT1 hg24)))) (seqB_iff.1 (andT2 hg24))
    exact fun _ hw => Ob_load TB_Refs2 rfl rfl rfl ((X2.below hw).cell 12 rfl)
  clear hok a; intro a hok
  refine q_gob hok (c := (((((((((((a0.k == b.k) && (a0.epoch == b.epoch)) && (a0.req == b.req)) && (a0.serial == b.serial)) && (a0.flag == b.flag)) && ((a0.at_ : Int) == (b.at_ : Int))) && ((a0.last : Int) == (b.last : Int))) && (a0.n == b.n)) && (a0.m == b.m)) && (a0.p == b.p)) && (a0.e == b.e)) && (seqB a0.key b.key)) rfl rfl rfl rfl (by decide) rfl (by decide) rfl (fun _ => fun _ _ => Ob_c TB_Refs2 rfl) ?_; clear hok a; intro a hok
  refine q_and hok (i := 82) rfl rfl rfl rfl rfl rfl rfl (by decide) rfl rfl ?_; clear hok a; intro a hok
  refine q_runk TB_Refs2 hok 1 rfl rfl ?_; clear hok a; intro a hok
  refine q_gob hok (c := ((((((((((((a0.k == b.k) && (a0.epoch == b.epoch)) && (a0.req == b.req)) && (a0.serial == b.serial)) && (a0.flag == b.flag)) && ((a0.at_ : Int) == (b.at_ : Int))) && ((a0.last : Int) == (b.last : Int))) && (a0.n == b.n)) && (a0.m == b.m)) && (a0.p == b.p)) && (a0.e == b.e)) && (seqB a0.key b.key)) && (seqB a0.to_ b.to_)) rfl rfl rfl rfl (by decide) rfl (by decide) rfl (fun _ => fun _ _ => Ob_c TB_Refs2 rfl) ?_; clear hok a; intro a hok
  refine q_gob hok (c := ((((((((((((a0.k == b.k) && (a0.epoch == b.epoch)) && (a0.req == b.req)) && (a0.serial == b.serial)) && (a0.flag == b.flag)) && ((a0.at_ : Int) == (b.at_ : Int))) && ((a0.last : Int) == (b.last : Int))) && (a0.n == b.n)) && (a0.m == b.m)) && (a0.p == b.p)) && (a0.e == b.e)) && (seqB a0.key b.key)) && (seqB a0.to_ b.to_)) (v := .agg #[.int .i64 a0.conf.epoch, .slice ao_v0_a0 a0.conf.members.length cap_v0_a0, .int .u64 (a0.conf.floor : Int)]) rfl rfl rfl rfl (by decide) rfl (by decide) rfl (fun hg25 => ?_) ?_
  · replace hg25 := And.intro (And.intro (And.intro (And.intro (And.intro (And.intro (And.intro (And.intro (And.intro (And.intro (And.intro (And.intro (eq_of_beq (andT1 (andT1 (andT1 (andT1 (andT1 (andT1 (andT1 (andT1 (andT1 (andT1 (andT1 (andT1 hg25))))))))))))) (eq_of_beq (andT2 (andT1 (andT1 (andT1 (andT1 (andT1 (andT1 (andT1 (andT1 (andT1 (andT1 (andT1 hg25)))))))))))))) (eq_of_beq (andT2 (andT1 (andT1 (andT1 (andT1 (andT1 (andT1 (andT1 (andT1 (andT1 (andT1 hg25))))))))))))) (eq_of_beq (andT2 (andT1 (andT1 (andT1 (andT1 (andT1 (andT1 (andT1 (andT1 (andT1 hg25)))))))))))) ((andT2 (andT1 (andT1 (andT1 (andT1 (andT1 (andT1 (andT1 (andT1 hg25))))))))))) (eq_of_beq (andT2 (andT1 (andT1 (andT1 (andT1 (andT1 (andT1 (andT1 hg25)))))))))) (eq_of_beq (andT2 (andT1 (andT1 (andT1 (andT1 (andT1 (andT1 hg25))))))))) (eq_of_beq (andT2 (andT1 (andT1 (andT1 (andT1 (andT1 hg25)))))))) (eq_of_beq (andT2 (andT1 (andT1 (andT1 (andT1 hg25))))))) (eq_of_beq (andT2 (andT1 (andT1 (andT1 hg25)))))) (eq_of_beq (andT2 (andT1 (andT1 hg25))))) (seqB_iff.1 (andT2 (andT1 hg25)))) (seqB_iff.1 (andT2 hg25))
    exact fun _ hw => Ob_loads TB_Refs2 (cs := [.int .i64 a0.conf.epoch, .slice ao_v0_a0 a0.conf.members.length cap_v0_a0, .int .u64 (a0.conf.floor : Int)]) rfl rfl rfl ((X1.below hw).part 13 rfl)
  clear hok a; intro a hok
  refine q_gob hok (c := ((((((((((((a0.k == b.k) && (a0.epoch == b.epoch)) && (a0.req == b.req)) && (a0.serial == b.serial)) && (a0.flag == b.flag)) && ((a0.at_ : Int) == (b.at_ : Int))) && ((a0.last : Int) == (b.last : Int))) && (a0.n == b.n)) && (a0.m == b.m)) && (a0.p == b.p)) && (a0.e == b.e)) && (seqB a0.key b.key)) && (seqB a0.to_ b.to_)) rfl rfl rfl rfl (by decide) rfl (by decide) rfl (fun _ => fun _ _ => Ob_c TB_Refs2 rfl) ?_; clear hok a; intro a hok
  refine q_gob hok (c := ((((((((((((a0.k == b.k) && (a0.epoch == b.epoch)) && (a0.req == b.req)) && (a0.serial == b.serial)) && (a0.flag == b.flag)) && ((a0.at_ : Int) == (b.at_ : Int))) && ((a0.last : Int) == (b.last : Int))) && (a0.n == b.n)) && (a0.m == b.m)) && (a0.p == b.p)) && (a0.e == b.e)) && (seqB a0.key b.key)) && (seqB a0.to_ b.to_)) (v := .agg #[.int .i64 b.conf.epoch, .slice ao_v0_b b.conf.members.length cap_v0_b, .int .u64 (b.conf.floor : Int)]) rfl rfl rfl rfl (by decide) rfl (by decide) rfl (fun hg26 => ?_) ?_
  · replace hg26 := And.intro (And.intro (And.intro (And.intro (And.intro (And.intro (And.intro (And.intro (And.intro (And.intro (And.intro (And.intro (eq_of_beq (andT1 (andT1 (andT1 (andT1 (andT1 (andT1 (andT1 (andT1 (andT1 (andT1 (andT1 (andT1 hg26))))))))))))) (eq_of_beq (andT2 (andT1 (andT1 (andT1 (andT1 (andT1 (andT1 (andT1 (andT1 (andT1 (andT1 (andT1 hg26)))))))))))))) (eq_of_beq (andT2 (andT1 (andT1 (andT1 (andT1 (andT1 (andT1 (andT1 (andT1 (andT1 (andT1 hg26))))))))))))) (eq_of_beq (andT2 (andT1 (andT1 (andT1 (andT1 (andT1 (andT1 (andT1 (andT1 (andT1 hg26)))))))))))) ((andT2 (andT1 (andT1 (andT1 (andT1 (andT1 (andT1 (andT1 (andT1 hg26))))))))))) (eq_of_beq (andT2 (andT1 (andT1 (andT1 (andT1 (andT1 (andT1 (andT1 hg26)))))))))) (eq_of_beq (andT2 (andT1 (andT1 (andT1 (andT1 (andT1 (andT1 hg26))))))))) (eq_of_beq (andT2 (andT1 (andT1 (andT1 (andT1 (andT1 hg26)))))))) (eq_of_beq (andT2 (andT1 (andT1 (andT1 (andT1 hg26))))))) (eq_of_beq (andT2 (andT1 (andT1 (andT1 hg26)))))) (eq_of_beq (andT2 (andT1 (andT1 hg26))))) (seqB_iff.1 (andT2 (andT1 hg26)))) (seqB_iff.1 (andT2 hg26))
    exact fun _ hw => Ob_loads TB_Refs2 (cs := [.int .i64 b.conf.epoch, .slice ao_v0_b b.conf.members.length cap_v0_b, .int .u64 (b.conf.floor : Int)]) rfl rfl rfl ((X2.below hw).part 13 rfl)
  clear hok a; intro a hok
  refine q_gcall hok (caps := #[]) (b := ((((((((((((a0.k == b.k) && (a0.epoch == b.epoch)) && (a0.req == b.req)) && (a0.serial == b.serial)) && (a0.flag == b.flag)) && ((a0.at_ : Int) == (b.at_ : Int))) && ((a0.last : Int) == (b.last : Int))) && (a0.n == b.n)) && (a0.m == b.m)) && (a0.p == b.p)) && (a0.e == b.e)) && (seqB a0.key b.key)) && (seqB a0.to_ b.to_)) (v := .bool (sameC (⟨a0.conf.epoch, a0.conf.members, a0.conf.floor⟩ : DConf) (⟨b.conf.epoch, b.conf.members, b.conf.floor⟩ : DConf))) fn_40_Refs2 rfl rfl rfl rfl rfl rfl rfl (by decide) rfl (by decide) rfl rfl (fun hg27 => ?_) ?_
  · replace hg27 := And.intro (And.intro (And.intro (And.intro (And.intro (And.intro (And.intro (And.intro (And.intro (And.intro (And.intro (And.intro (eq_of_beq (andT1 (andT1 (andT1 (andT1 (andT1 (andT1 (andT1 (andT1 (andT1 (andT1 (andT1 (andT1 hg27))))))))))))) (eq_of_beq (andT2 (andT1 (andT1 (andT1 (andT1 (andT1 (andT1 (andT1 (andT1 (andT1 (andT1 (andT1 hg27)))))))))))))) (eq_of_beq (andT2 (andT1 (andT1 (andT1 (andT1 (andT1 (andT1 (andT1 (andT1 (andT1 (andT1 hg27))))))))))))) (eq_of_beq (andT2 (andT1 (andT1 (andT1 (andT1 (andT1 (andT1 (andT1 (andT1 (andT1 hg27)))))))))))) ((andT2 (andT1 (andT1 (andT1 (andT1 (andT1 (andT1 (andT1 (andT1 hg27))))))))))) (eq_of_beq (andT2 (andT1 (andT1 (andT1 (andT1 (andT1 (andT1 (andT1 hg27)))))))))) (eq_of_beq (andT2 (andT1 (andT1 (andT1 (andT1 (andT1 (andT1 hg27))))))))) (eq_of_beq (andT2 (andT1 (andT1 (andT1 (andT1 (andT1 hg27)))))))) (eq_of_beq (andT2 (andT1 (andT1 (andT1 (andT1 hg27))))))) (eq_of_beq (andT2 (andT1 (andT1 (andT1 hg27)))))) (eq_of_beq (andT2 (andT1 (andT1 hg27))))) (seqB_iff.1 (andT2 (andT1 hg27)))) (seqB_iff.1 (andT2 hg27))
    exact fun _ hw => c_ref07_Same (⟨a0.conf.epoch, a0.conf.members, a0.conf.floor⟩ : DConf) _ (⟨b.conf.epoch, b.conf.members, b.conf.floor⟩ : DConf) _ _ (L0_a0.below hw) ⟨h_a0.2.2.2.2.2.2.2.2.2.2.2.2.1.1, h_a0.2.2.2.2.2.2.2.2.2.2.2.2.1.2⟩ (L0_b.below hw) ⟨h_b.2.2.2.2.2.2.2.2.2.2.2.2.1.1, h_b.2.2.2.2.2.2.2.2.2.2.2.2.1.2⟩
  clear hok a; intro a hok
  refine q_and hok (i := 89) rfl rfl rfl rfl rfl rfl rfl (by decide) rfl rfl ?_; clear hok a; intro a hok
  refine q_runk TB_Refs2 hok 1 rfl rfl ?_; clear hok a; intro a hok
  refine q_gob hok (c := (((((((((((((a0.k == b.k) && (a0.epoch == b.epoch)) && (a0.req == b.req)) && (a0.serial == b.serial)) && (a0.flag == b.flag)) && ((a0.at_ : Int) == (b.at_ : Int))) && ((a0.last : Int) == (b.last : Int))) && (a0.n == b.n)) && (a0.m == b.m)) && (a0.p == b.p)) && (a0.e == b.e)) && (seqB a0.key b.key)) && (seqB a0.to_ b.to_)) && (sameC (⟨a0.conf.epoch, a0.conf.members, a0.conf.floor⟩ : DConf) (⟨b.conf.epoch, b.conf.members, b.conf.floor⟩ : DConf))) rfl rfl rfl rfl (by decide) rfl (by decide) rfl (fun _ => fun _ _ => Ob_c TB_Refs2 rfl) ?_; clear hok a; intro a hok
  refine q_gob hok (c := (((((((((((((a0.k == b.k) && (a0.epoch == b.epoch)) && (a0.req == b.req)) && (a0.serial == b.serial)) && (a0.flag == b.flag)) && ((a0.at_ : Int) == (b.at_ : Int))) && ((a0.last : Int) == (b.last : Int))) && (a0.n == b.n)) && (a0.m == b.m)) && (a0.p == b.p)) && (a0.e == b.e)) && (seqB a0.key b.key)) && (seqB a0.to_ b.to_)) && (sameC (⟨a0.conf.epoch, a0.conf.members, a0.conf.floor⟩ : DConf) (⟨b.conf.epoch, b.conf.members, b.conf.floor⟩ : DConf))) (v := .agg #[.int .i64 a0.batch.client, .int .i64 a0.batch.req, .slice ao_v1_a0 a0.batch.ops.length cap_v1_a0]) rfl rfl rfl rfl (by decide) rfl (by decide) rfl (fun hg28 => ?_) ?_
  · replace hg28 := And.intro (And.intro (And.intro (And.intro (And.intro (And.intro (And.intro (And.intro (And.intro (And.intro (And.intro (And.intro (And.intro (eq_of_beq (andT1 (andT1 (andT1 (andT1 (andT1 (andT1 (andT1 (andT1 (andT1 (andT1 (andT1 (andT1 (andT1 hg28)))))))))))))) (eq_of_beq (andT2 (andT1 (andT1 (andT1 (andT1 (andT1 (andT1 (andT1 (andT1 (andT1 (andT1 (andT1 (andT1 hg28))))))))))))))) (eq_of_beq (andT2 (andT1 (andT1 (andT1 (andT1 (andT1 (andT1 (andT1 (andT1 (andT1 (andT1 (andT1 hg28)))))))))))))) (eq_of_beq (andT2 (andT1 (andT1 (andT1 (andT1 (andT1 (andT1 (andT1 (andT1 (andT1 (andT1 hg28))))))))))))) ((andT2 (andT1 (andT1 (andT1 (andT1 (andT1 (andT1 (andT1 (andT1 (andT1 hg28)))))))))))) (eq_of_beq (andT2 (andT1 (andT1 (andT1 (andT1 (andT1 (andT1 (andT1 (andT1 hg28))))))))))) (eq_of_beq (andT2 (andT1 (andT1 (andT1 (andT1 (andT1 (andT1 (andT1 hg28)))))))))) (eq_of_beq (andT2 (andT1 (andT1 (andT1 (andT1 (andT1 (andT1 hg28))))))))) (eq_of_beq (andT2 (andT1 (andT1 (andT1 (andT1 (andT1 hg28)))))))) (eq_of_beq (andT2 (andT1 (andT1 (andT1 (andT1 hg28))))))) (eq_of_beq (andT2 (andT1 (andT1 (andT1 hg28)))))) (seqB_iff.1 (andT2 (andT1 (andT1 hg28))))) (seqB_iff.1 (andT2 (andT1 hg28)))) ((andT2 hg28))
    exact fun _ hw => Ob_loads TB_Refs2 (cs := [.int .i64 a0.batch.client, .int .i64 a0.batch.req, .slice ao_v1_a0 a0.batch.ops.length cap_v1_a0]) rfl rfl rfl ((X1.below hw).part 16 rfl)
  clear hok a; intro a hok
  refine q_gob hok (c := (((((((((((((a0.k == b.k) && (a0.epoch == b.epoch)) && (a0.req == b.req)) && (a0.serial == b.serial)) && (a0.flag == b.flag)) && ((a0.at_ : Int) == (b.at_ : Int))) && ((a0.last : Int) == (b.last : Int))) && (a0.n == b.n)) && (a0.m == b.m)) && (a0.p == b.p)) && (a0.e == b.e)) && (seqB a0.key b.key)) && (seqB a0.to_ b.to_)) && (sameC (⟨a0.conf.epoch, a0.conf.members, a0.conf.floor⟩ : DConf) (⟨b.conf.epoch, b.conf.members, b.conf.floor⟩ : DConf))) rfl rfl rfl rfl (by decide) rfl (by decide) rfl (fun _ => fun _ _ => Ob_c TB_Refs2 rfl) ?_; clear hok a; intro a hok
  refine q_gob hok (c := (((((((((((((a0.k == b.k) && (a0.epoch == b.epoch)) && (a0.req == b.req)) && (a0.serial == b.serial)) && (a0.flag == b.flag)) && ((a0.at_ : Int) == (b.at_ : Int))) && ((a0.last : Int) == (b.last : Int))) && (a0.n == b.n)) && (a0.m == b.m)) && (a0.p == b.p)) && (a0.e == b.e)) && (seqB a0.key b.key)) && (seqB a0.to_ b.to_)) && (sameC (⟨a0.conf.epoch, a0.conf.members, a0.conf.floor⟩ : DConf) (⟨b.conf.epoch, b.conf.members, b.conf.floor⟩ : DConf))) (v := .agg #[.int .i64 b.batch.client, .int .i64 b.batch.req, .slice ao_v1_b b.batch.ops.length cap_v1_b]) rfl rfl rfl rfl (by decide) rfl (by decide) rfl (fun hg29 => ?_) ?_
  · replace hg29 := And.intro (And.intro (And.intro (And.intro (And.intro (And.intro (And.intro (And.intro (And.intro (And.intro (And.intro (And.intro (And.intro (eq_of_beq (andT1 (andT1 (andT1 (andT1 (andT1 (andT1 (andT1 (andT1 (andT1 (andT1 (andT1 (andT1 (andT1 hg29)))))))))))))) (eq_of_beq (andT2 (andT1 (andT1 (andT1 (andT1 (andT1 (andT1 (andT1 (andT1 (andT1 (andT1 (andT1 (andT1 hg29))))))))))))))) (eq_of_beq (andT2 (andT1 (andT1 (andT1 (andT1 (andT1 (andT1 (andT1 (andT1 (andT1 (andT1 (andT1 hg29)))))))))))))) (eq_of_beq (andT2 (andT1 (andT1 (andT1 (andT1 (andT1 (andT1 (andT1 (andT1 (andT1 (andT1 hg29))))))))))))) ((andT2 (andT1 (andT1 (andT1 (andT1 (andT1 (andT1 (andT1 (andT1 (andT1 hg29)))))))))))) (eq_of_beq (andT2 (andT1 (andT1 (andT1 (andT1 (andT1 (andT1 (andT1 (andT1 hg29))))))))))) (eq_of_beq (andT2 (andT1 (andT1 (andT1 (andT1 (andT1 (andT1 (andT1 hg29)))))))))) (eq_of_beq (andT2 (andT1 (andT1 (andT1 (andT1 (andT1 (andT1 hg29))))))))) (eq_of_beq (andT2 (andT1 (andT1 (andT1 (andT1 (andT1 hg29)))))))) (eq_of_beq (andT2 (andT1 (andT1 (andT1 (andT1 hg29))))))) (eq_of_beq (andT2 (andT1 (andT1 (andT1 hg29)))))) (seqB_iff.1 (andT2 (andT1 (andT1 hg29))))) (seqB_iff.1 (andT2 (andT1 hg29)))) ((andT2 hg29))
    exact fun _ hw => Ob_loads TB_Refs2 (cs := [.int .i64 b.batch.client, .int .i64 b.batch.req, .slice ao_v1_b b.batch.ops.length cap_v1_b]) rfl rfl rfl ((X2.below hw).part 16 rfl)
  clear hok a; intro a hok
  refine q_gcall hok (caps := #[]) (b := (((((((((((((a0.k == b.k) && (a0.epoch == b.epoch)) && (a0.req == b.req)) && (a0.serial == b.serial)) && (a0.flag == b.flag)) && ((a0.at_ : Int) == (b.at_ : Int))) && ((a0.last : Int) == (b.last : Int))) && (a0.n == b.n)) && (a0.m == b.m)) && (a0.p == b.p)) && (a0.e == b.e)) && (seqB a0.key b.key)) && (seqB a0.to_ b.to_)) && (sameC (⟨a0.conf.epoch, a0.conf.members, a0.conf.floor⟩ : DConf) (⟨b.conf.epoch, b.conf.members, b.conf.floor⟩ : DConf))) (v := .bool (sameB (⟨a0.batch.client, a0.batch.req, a0.batch.ops⟩ : DBatch) (⟨b.batch.client, b.batch.req, b.batch.ops⟩ : DBatch))) fn_41_Refs2 rfl rfl rfl rfl rfl rfl rfl (by decide) rfl (by decide) rfl rfl (fun hg30 => ?_) ?_
  · replace hg30 := And.intro (And.intro (And.intro (And.intro (And.intro (And.intro (And.intro (And.intro (And.intro (And.intro (And.intro (And.intro (And.intro (eq_of_beq (andT1 (andT1 (andT1 (andT1 (andT1 (andT1 (andT1 (andT1 (andT1 (andT1 (andT1 (andT1 (andT1 hg30)))))))))))))) (eq_of_beq (andT2 (andT1 (andT1 (andT1 (andT1 (andT1 (andT1 (andT1 (andT1 (andT1 (andT1 (andT1 (andT1 hg30))))))))))))))) (eq_of_beq (andT2 (andT1 (andT1 (andT1 (andT1 (andT1 (andT1 (andT1 (andT1 (andT1 (andT1 (andT1 hg30)))))))))))))) (eq_of_beq (andT2 (andT1 (andT1 (andT1 (andT1 (andT1 (andT1 (andT1 (andT1 (andT1 (andT1 hg30))))))))))))) ((andT2 (andT1 (andT1 (andT1 (andT1 (andT1 (andT1 (andT1 (andT1 (andT1 hg30)))))))))))) (eq_of_beq (andT2 (andT1 (andT1 (andT1 (andT1 (andT1 (andT1 (andT1 (andT1 hg30))))))))))) (eq_of_beq (andT2 (andT1 (andT1 (andT1 (andT1 (andT1 (andT1 (andT1 hg30)))))))))) (eq_of_beq (andT2 (andT1 (andT1 (andT1 (andT1 (andT1 (andT1 hg30))))))))) (eq_of_beq (andT2 (andT1 (andT1 (andT1 (andT1 (andT1 hg30)))))))) (eq_of_beq (andT2 (andT1 (andT1 (andT1 (andT1 hg30))))))) (eq_of_beq (andT2 (andT1 (andT1 (andT1 hg30)))))) (seqB_iff.1 (andT2 (andT1 (andT1 hg30))))) (seqB_iff.1 (andT2 (andT1 hg30)))) ((andT2 hg30))
    exact fun _ hw => c_ref06_Same (⟨a0.batch.client, a0.batch.req, a0.batch.ops⟩ : DBatch) _ (⟨b.batch.client, b.batch.req, b.batch.ops⟩ : DBatch) _ _ (L1_a0.below hw) ⟨h_a0.2.2.2.2.2.2.2.2.2.2.2.2.2.1, h_a0.2.2.2.2.2.2.2.2.2.2.2.2.2.2⟩ (L1_b.below hw) ⟨h_b.2.2.2.2.2.2.2.2.2.2.2.2.2.1, h_b.2.2.2.2.2.2.2.2.2.2.2.2.2.2⟩
  clear hok a; intro a hok
  refine q_and hok (i := 96) rfl rfl rfl rfl rfl rfl rfl (by decide) rfl rfl ?_; clear hok a; intro a hok
  refine q_runk TB_Refs2 hok 1 rfl rfl ?_; clear hok a; intro a hok
  refine q_gob hok (c := ((((((((((((((a0.k == b.k) && (a0.epoch == b.epoch)) && (a0.req == b.req)) && (a0.serial == b.serial)) && (a0.flag == b.flag)) && ((a0.at_ : Int) == (b.at_ : Int))) && ((a0.last : Int) == (b.last : Int))) && (a0.n == b.n)) && (a0.m == b.m)) && (a0.p == b.p)) && (a0.e == b.e)) && (seqB a0.key b.key)) && (seqB a0.to_ b.to_)) && (sameC (⟨a0.conf.epoch, a0.conf.members, a0.conf.floor⟩ : DConf) (⟨b.conf.epoch, b.conf.members, b.conf.floor⟩ : DConf))) && (sameB (⟨a0.batch.client, a0.batch.req, a0.batch.ops⟩ : DBatch) (⟨b.batch.client, b.batch.req, b.batch.ops⟩ : DBatch))) rfl rfl rfl rfl (by decide) rfl (by decide) rfl (fun _ => fun _ _ => Ob_c TB_Refs2 rfl) ?_; clear hok a; intro a hok
  refine q_gob hok (c := ((((((((((((((a0.k == b.k) && (a0.epoch == b.epoch)) && (a0.req == b.req)) && (a0.serial == b.serial)) && (a0.flag == b.flag)) && ((a0.at_ : Int) == (b.at_ : Int))) && ((a0.last : Int) == (b.last : Int))) && (a0.n == b.n)) && (a0.m == b.m)) && (a0.p == b.p)) && (a0.e == b.e)) && (seqB a0.key b.key)) && (seqB a0.to_ b.to_)) && (sameC (⟨a0.conf.epoch, a0.conf.members, a0.conf.floor⟩ : DConf) (⟨b.conf.epoch, b.conf.members, b.conf.floor⟩ : DConf))) && (sameB (⟨a0.batch.client, a0.batch.req, a0.batch.ops⟩ : DBatch) (⟨b.batch.client, b.batch.req, b.batch.ops⟩ : DBatch))) (v := .slice ao_v2_a0 a0.entries.length cap_v2_a0) rfl rfl rfl rfl (by decide) rfl (by decide) rfl (fun hg31 => ?_) ?_
  · replace hg31 := And.intro (And.intro (And.intro (And.intro (And.intro (And.intro (And.intro (And.intro (And.intro (And.intro (And.intro (And.intro (And.intro (And.intro (eq_of_beq (andT1 (andT1 (andT1 (andT1 (andT1 (andT1 (andT1 (andT1 (andT1 (andT1 (andT1 (andT1 (andT1 (andT1 hg31))))))))))))))) (eq_of_beq (andT2 (andT1 (andT1 (andT1 (andT1 (andT1 (andT1 (andT1 (andT1 (andT1 (andT1 (andT1 (andT1 (andT1 hg31)))))))))))))))) (eq_of_beq (andT2 (andT1 (andT1 (andT1 (andT1 (andT1 (andT1 (andT1 (andT1 (andT1 (andT1 (andT1 (andT1 hg31))))))))))))))) (eq_of_beq (andT2 (andT1 (andT1 (andT1 (andT1 (andT1 (andT1 (andT1 (andT1 (andT1 (andT1 (andT1 hg31)))))))))))))) ((andT2 (andT1 (andT1 (andT1 (andT1 (andT1 (andT1 (andT1 (andT1 (andT1 (andT1 hg31))))))))))))) (eq_of_beq (andT2 (andT1 (andT1 (andT1 (andT1 (andT1 (andT1 (andT1 (andT1 (andT1 hg31)))))))))))) (eq_of_beq (andT2 (andT1 (andT1 (andT1 (andT1 (andT1 (andT1 (andT1 (andT1 hg31))))))))))) (eq_of_beq (andT2 (andT1 (andT1 (andT1 (andT1 (andT1 (andT1 (andT1 hg31)))))))))) (eq_of_beq (andT2 (andT1 (andT1 (andT1 (andT1 (andT1 (andT1 hg31))))))))) (eq_of_beq (andT2 (andT1 (andT1 (andT1 (andT1 (andT1 hg31)))))))) (eq_of_beq (andT2 (andT1 (andT1 (andT1 (andT1 hg31))))))) (seqB_iff.1 (andT2 (andT1 (andT1 (andT1 hg31)))))) (seqB_iff.1 (andT2 (andT1 (andT1 hg31))))) ((andT2 (andT1 hg31)))) ((andT2 hg31))
    exact fun _ hw => Ob_load TB_Refs2 rfl rfl rfl ((X1.below hw).cell 19 rfl)
  clear hok a; intro a hok
  refine q_gob hok (c := ((((((((((((((a0.k == b.k) && (a0.epoch == b.epoch)) && (a0.req == b.req)) && (a0.serial == b.serial)) && (a0.flag == b.flag)) && ((a0.at_ : Int) == (b.at_ : Int))) && ((a0.last : Int) == (b.last : Int))) && (a0.n == b.n)) && (a0.m == b.m)) && (a0.p == b.p)) && (a0.e == b.e)) && (seqB a0.key b.key)) && (seqB a0.to_ b.to_)) && (sameC (⟨a0.conf.epoch, a0.conf.members, a0.conf.floor⟩ : DConf) (⟨b.conf.epoch, b.conf.members, b.conf.floor⟩ : DConf))) && (sameB (⟨a0.batch.client, a0.batch.req, a0.batch.ops⟩ : DBatch) (⟨b.batch.client, b.batch.req, b.batch.ops⟩ : DBatch))) rfl rfl rfl rfl (by decide) rfl (by decide) rfl (fun _ => fun _ _ => Ob_c TB_Refs2 rfl) ?_; clear hok a; intro a hok
  refine q_gob hok (c := ((((((((((((((a0.k == b.k) && (a0.epoch == b.epoch)) && (a0.req == b.req)) && (a0.serial == b.serial)) && (a0.flag == b.flag)) && ((a0.at_ : Int) == (b.at_ : Int))) && ((a0.last : Int) == (b.last : Int))) && (a0.n == b.n)) && (a0.m == b.m)) && (a0.p == b.p)) && (a0.e == b.e)) && (seqB a0.key b.key)) && (seqB a0.to_ b.to_)) && (sameC (⟨a0.conf.epoch, a0.conf.members, a0.conf.floor⟩ : DConf) (⟨b.conf.epoch, b.conf.members, b.conf.floor⟩ : DConf))) && (sameB (⟨a0.batch.client, a0.batch.req, a0.batch.ops⟩ : DBatch) (⟨b.batch.client, b.batch.req, b.batch.ops⟩ : DBatch))) (v := .slice ao_v2_b b.entries.length cap_v2_b) rfl rfl rfl rfl (by decide) rfl (by decide) rfl (fun hg32 => ?_) ?_
  · replace hg32 := And.intro (And.intro (And.intro (And.intro (And.intro (And.intro (And.intro (And.intro (And.intro (And.intro (And.intro (And.intro (And.intro (And.intro (eq_of_beq (andT1 (andT1 (andT1 (andT1 (andT1 (andT1 (andT1 (andT1 (andT1 (andT1 (andT1 (andT1 (andT1 (andT1 hg32))))))))))))))) (eq_of_beq (andT2 (andT1 (andT1 (andT1 (andT1 (andT1 (andT1 (andT1 (andT1 (andT1 (andT1 (andT1 (andT1 (andT1 hg32)))))))))))))))) (eq_of_beq (andT2 (andT1 (andT1 (andT1 (andT1 (andT1 (andT1 (andT1 (andT1 (andT1 (andT1 (andT1 (andT1 hg32))))))))))))))) (eq_of_beq (andT2 (andT1 (andT1 (andT1 (andT1 (andT1 (andT1 (andT1 (andT1 (andT1 (andT1 (andT1 hg32)))))))))))))) ((andT2 (andT1 (andT1 (andT1 (andT1 (andT1 (andT1 (andT1 (andT1 (andT1 (andT1 hg32))))))))))))) (eq_of_beq (andT2 (andT1 (andT1 (andT1 (andT1 (andT1 (andT1 (andT1 (andT1 (andT1 hg32)))))))))))) (eq_of_beq (andT2 (andT1 (andT1 (andT1 (andT1 (andT1 (andT1 (andT1 (andT1 hg32))))))))))) (eq_of_beq (andT2 (andT1 (andT1 (andT1 (andT1 (andT1 (andT1 (andT1 hg32)))))))))) (eq_of_beq (andT2 (andT1 (andT1 (andT1 (andT1 (andT1 (andT1 hg32))))))))) (eq_of_beq (andT2 (andT1 (andT1 (andT1 (andT1 (andT1 hg32)))))))) (eq_of_beq (andT2 (andT1 (andT1 (andT1 (andT1 hg32))))))) (seqB_iff.1 (andT2 (andT1 (andT1 (andT1 hg32)))))) (seqB_iff.1 (andT2 (andT1 (andT1 hg32))))) ((andT2 (andT1 hg32)))) ((andT2 hg32))
    exact fun _ hw => Ob_load TB_Refs2 rfl rfl rfl ((X2.below hw).cell 19 rfl)
  clear hok a; intro a hok
  refine q_gcall hok (caps := #[]) (b := ((((((((((((((a0.k == b.k) && (a0.epoch == b.epoch)) && (a0.req == b.req)) && (a0.serial == b.serial)) && (a0.flag == b.flag)) && ((a0.at_ : Int) == (b.at_ : Int))) && ((a0.last : Int) == (b.last : Int))) && (a0.n == b.n)) && (a0.m == b.m)) && (a0.p == b.p)) && (a0.e == b.e)) && (seqB a0.key b.key)) && (seqB a0.to_ b.to_)) && (sameC (⟨a0.conf.epoch, a0.conf.members, a0.conf.floor⟩ : DConf) (⟨b.conf.epoch, b.conf.members, b.conf.floor⟩ : DConf))) && (sameB (⟨a0.batch.client, a0.batch.req, a0.batch.ops⟩ : DBatch) (⟨b.batch.client, b.batch.req, b.batch.ops⟩ : DBatch))) (v := .bool (sameBy sameE a0.entries b.entries)) fn_42_Refs2 rfl rfl rfl rfl rfl rfl rfl (by decide) rfl (by decide) rfl rfl (fun hg33 => ?_) ?_
  · replace hg33 := And.intro (And.intro (And.intro (And.intro (And.intro (And.intro (And.intro (And.intro (And.intro (And.intro (And.intro (And.intro (And.intro (And.intro (eq_of_beq (andT1 (andT1 (andT1 (andT1 (andT1 (andT1 (andT1 (andT1 (andT1 (andT1 (andT1 (andT1 (andT1 (andT1 hg33))))))))))))))) (eq_of_beq (andT2 (andT1 (andT1 (andT1 (andT1 (andT1 (andT1 (andT1 (andT1 (andT1 (andT1 (andT1 (andT1 (andT1 hg33)))))))))))))))) (eq_of_beq (andT2 (andT1 (andT1 (andT1 (andT1 (andT1 (andT1 (andT1 (andT1 (andT1 (andT1 (andT1 (andT1 hg33))))))))))))))) (eq_of_beq (andT2 (andT1 (andT1 (andT1 (andT1 (andT1 (andT1 (andT1 (andT1 (andT1 (andT1 (andT1 hg33)))))))))))))) ((andT2 (andT1 (andT1 (andT1 (andT1 (andT1 (andT1 (andT1 (andT1 (andT1 (andT1 hg33))))))))))))) (eq_of_beq (andT2 (andT1 (andT1 (andT1 (andT1 (andT1 (andT1 (andT1 (andT1 (andT1 hg33)))))))))))) (eq_of_beq (andT2 (andT1 (andT1 (andT1 (andT1 (andT1 (andT1 (andT1 (andT1 hg33))))))))))) (eq_of_beq (andT2 (andT1 (andT1 (andT1 (andT1 (andT1 (andT1 (andT1 hg33)))))))))) (eq_of_beq (andT2 (andT1 (andT1 (andT1 (andT1 (andT1 (andT1 hg33))))))))) (eq_of_beq (andT2 (andT1 (andT1 (andT1 (andT1 (andT1 hg33)))))))) (eq_of_beq (andT2 (andT1 (andT1 (andT1 (andT1 hg33))))))) (seqB_iff.1 (andT2 (andT1 (andT1 (andT1 hg33)))))) (seqB_iff.1 (andT2 (andT1 (andT1 hg33))))) ((andT2 (andT1 hg33)))) ((andT2 hg33))
    exact fun _ hw => c_ref08_SameAll _ a0.entries _ b.entries _ (L2_a0.below hw) (L2_b.below hw)
  clear hok a; intro a hok
  refine q_and hok (i := 103) rfl rfl rfl rfl rfl rfl rfl (by decide) rfl rfl ?_; clear hok a; intro a hok
  refine q_runk TB_Refs2 hok 1 rfl rfl ?_; clear hok a; intro a hok
  refine q_gob hok (c := (((((((((((((((a0.k == b.k) && (a0.epoch == b.epoch)) && (a0.req == b.req)) && (a0.serial == b.serial)) && (a0.flag == b.flag)) && ((a0.at_ : Int) == (b.at_ : Int))) && ((a0.last : Int) == (b.last : Int))) && (a0.n == b.n)) && (a0.m == b.m)) && (a0.p == b.p)) && (a0.e == b.e)) && (seqB a0.key b.key)) && (seqB a0.to_ b.to_)) && (sameC (⟨a0.conf.epoch, a0.conf.members, a0.conf.floor⟩ : DConf) (⟨b.conf.epoch, b.conf.members, b.conf.floor⟩ : DConf))) && (sameB (⟨a0.batch.client, a0.batch.req, a0.batch.ops⟩ : DBatch) (⟨b.batch.client, b.batch.req, b.batch.ops⟩ : DBatch))) && (sameBy sameE a0.entries b.entries)) rfl rfl rfl rfl (by decide) rfl (by decide) rfl (fun _ => fun _ _ => Ob_c TB_Refs2 rfl) ?_; clear hok a; intro a hok
  refine q_gob hok (c := (((((((((((((((a0.k == b.k) && (a0.epoch == b.epoch)) && (a0.req == b.req)) && (a0.serial == b.serial)) && (a0.flag == b.flag)) && ((a0.at_ : Int) == (b.at_ : Int))) && ((a0.last : Int) == (b.last : Int))) && (a0.n == b.n)) && (a0.m == b.m)) && (a0.p == b.p)) && (a0.e == b.e)) && (seqB a0.key b.key)) && (seqB a0.to_ b.to_)) && (sameC (⟨a0.conf.epoch, a0.conf.members, a0.conf.floor⟩ : DConf) (⟨b.conf.epoch, b.conf.members, b.conf.floor⟩ : DConf))) && (sameB (⟨a0.batch.client, a0.batch.req, a0.batch.ops⟩ : DBatch) (⟨b.batch.client, b.batch.req, b.batch.ops⟩ : DBatch))) && (sameBy sameE a0.entries b.entries)) (v := .slice ao_v3_a0 a0.stamps.length cap_v3_a0) rfl rfl rfl rfl (by decide) rfl (by decide) rfl (fun hg34 => ?_) ?_
  · replace hg34 := And.intro (And.intro (And.intro (And.intro (And.intro (And.intro (And.intro (And.intro (And.intro (And.intro (And.intro (And.intro (And.intro (And.intro (And.intro (eq_of_beq (andT1 (andT1 (andT1 (andT1 (andT1 (andT1 (andT1 (andT1 (andT1 (andT1 (andT1 (andT1 (andT1 (andT1 (andT1 hg34)))))))))))))))) (eq_of_beq (andT2 (andT1 (andT1 (andT1 (andT1 (andT1 (andT1 (andT1 (andT1 (andT1 (andT1 (andT1 (andT1 (andT1 (andT1 hg34))))))))))))))))) (eq_of_beq (andT2 (andT1 (andT1 (andT1 (andT1 (andT1 (andT1 (andT1 (andT1 (andT1 (andT1 (andT1 (andT1 (andT1 hg34)))))))))))))))) (eq_of_beq (andT2 (andT1 (andT1 (andT1 (andT1 (andT1 (andT1 (andT1 (andT1 (andT1 (andT1 (andT1 (andT1 hg34))))))))))))))) ((andT2 (andT1 (andT1 (andT1 (andT1 (andT1 (andT1 (andT1 (andT1 (andT1 (andT1 (andT1 hg34)))))))))))))) (eq_of_beq (andT2 (andT1 (andT1 (andT1 (andT1 (andT1 (andT1 (andT1 (andT1 (andT1 (andT1 hg34))))))))))))) (eq_of_beq (andT2 (andT1 (andT1 (andT1 (andT1 (andT1 (andT1 (andT1 (andT1 (andT1 hg34)))))))))))) (eq_of_beq (andT2 (andT1 (andT1 (andT1 (andT1 (andT1 (andT1 (andT1 (andT1 hg34))))))))))) (eq_of_beq (andT2 (andT1 (andT1 (andT1 (andT1 (andT1 (andT1 (andT1 hg34)))))))))) (eq_of_beq (andT2 (andT1 (andT1 (andT1 (andT1 (andT1 (andT1 hg34))))))))) (eq_of_beq (andT2 (andT1 (andT1 (andT1 (andT1 (andT1 hg34)))))))) (seqB_iff.1 (andT2 (andT1 (andT1 (andT1 (andT1 hg34))))))) (seqB_iff.1 (andT2 (andT1 (andT1 (andT1 hg34)))))) ((andT2 (andT1 (andT1 hg34))))) ((andT2 (andT1 hg34)))) ((andT2 hg34))
    exact fun _ hw => Ob_load TB_Refs2 rfl rfl rfl ((X1.below hw).cell 20 rfl)
  clear hok a; intro a hok
  refine q_gob hok (c := (((((((((((((((a0.k == b.k) && (a0.epoch == b.epoch)) && (a0.req == b.req)) && (a0.serial == b.serial)) && (a0.flag == b.flag)) && ((a0.at_ : Int) == (b.at_ : Int))) && ((a0.last : Int) == (b.last : Int))) && (a0.n == b.n)) && (a0.m == b.m)) && (a0.p == b.p)) && (a0.e == b.e)) && (seqB a0.key b.key)) && (seqB a0.to_ b.to_)) && (sameC (⟨a0.conf.epoch, a0.conf.members, a0.conf.floor⟩ : DConf) (⟨b.conf.epoch, b.conf.members, b.conf.floor⟩ : DConf))) && (sameB (⟨a0.batch.client, a0.batch.req, a0.batch.ops⟩ : DBatch) (⟨b.batch.client, b.batch.req, b.batch.ops⟩ : DBatch))) && (sameBy sameE a0.entries b.entries)) rfl rfl rfl rfl (by decide) rfl (by decide) rfl (fun _ => fun _ _ => Ob_c TB_Refs2 rfl) ?_; clear hok a; intro a hok
  refine q_gob hok (c := (((((((((((((((a0.k == b.k) && (a0.epoch == b.epoch)) && (a0.req == b.req)) && (a0.serial == b.serial)) && (a0.flag == b.flag)) && ((a0.at_ : Int) == (b.at_ : Int))) && ((a0.last : Int) == (b.last : Int))) && (a0.n == b.n)) && (a0.m == b.m)) && (a0.p == b.p)) && (a0.e == b.e)) && (seqB a0.key b.key)) && (seqB a0.to_ b.to_)) && (sameC (⟨a0.conf.epoch, a0.conf.members, a0.conf.floor⟩ : DConf) (⟨b.conf.epoch, b.conf.members, b.conf.floor⟩ : DConf))) && (sameB (⟨a0.batch.client, a0.batch.req, a0.batch.ops⟩ : DBatch) (⟨b.batch.client, b.batch.req, b.batch.ops⟩ : DBatch))) && (sameBy sameE a0.entries b.entries)) (v := .slice ao_v3_b b.stamps.length cap_v3_b) rfl rfl rfl rfl (by decide) rfl (by decide) rfl (fun hg35 => ?_) ?_
  · replace hg35 := And.intro (And.intro (And.intro (And.intro (And.intro (And.intro (And.intro (And.intro (And.intro (And.intro (And.intro (And.intro (And.intro (And.intro (And.intro (eq_of_beq (andT1 (andT1 (andT1 (andT1 (andT1 (andT1 (andT1 (andT1 (andT1 (andT1 (andT1 (andT1 (andT1 (andT1 (andT1 hg35)))))))))))))))) (eq_of_beq (andT2 (andT1 (andT1 (andT1 (andT1 (andT1 (andT1 (andT1 (andT1 (andT1 (andT1 (andT1 (andT1 (andT1 (andT1 hg35))))))))))))))))) (eq_of_beq (andT2 (andT1 (andT1 (andT1 (andT1 (andT1 (andT1 (andT1 (andT1 (andT1 (andT1 (andT1 (andT1 (andT1 hg35)))))))))))))))) (eq_of_beq (andT2 (andT1 (andT1 (andT1 (andT1 (andT1 (andT1 (andT1 (andT1 (andT1 (andT1 (andT1 (andT1 hg35))))))))))))))) ((andT2 (andT1 (andT1 (andT1 (andT1 (andT1 (andT1 (andT1 (andT1 (andT1 (andT1 (andT1 hg35)))))))))))))) (eq_of_beq (andT2 (andT1 (andT1 (andT1 (andT1 (andT1 (andT1 (andT1 (andT1 (andT1 (andT1 hg35))))))))))))) (eq_of_beq (andT2 (andT1 (andT1 (andT1 (andT1 (andT1 (andT1 (andT1 (andT1 (andT1 hg35)))))))))))) (eq_of_beq (andT2 (andT1 (andT1 (andT1 (andT1 (andT1 (andT1 (andT1 (andT1 hg35))))))))))) (eq_of_beq (andT2 (andT1 (andT1 (andT1 (andT1 (andT1 (andT1 (andT1 hg35)))))))))) (eq_of_beq (andT2 (andT1 (andT1 (andT1 (andT1 (andT1 (andT1 hg35))))))))) (eq_of_beq (andT2 (andT1 (andT1 (andT1 (andT1 (andT1 hg35)))))))) (seqB_iff.1 (andT2 (andT1 (andT1 (andT1 (andT1 hg35))))))) (seqB_iff.1 (andT2 (andT1 (andT1 (andT1 hg35)))))) ((andT2 (andT1 (andT1 hg35))))) ((andT2 (andT1 hg35)))) ((andT2 hg35))
    exact fun _ hw => Ob_load TB_Refs2 rfl rfl rfl ((X2.below hw).cell 20 rfl)
  clear hok a; intro a hok
  refine q_gcall hok (caps := #[]) (b := (((((((((((((((a0.k == b.k) && (a0.epoch == b.epoch)) && (a0.req == b.req)) && (a0.serial == b.serial)) && (a0.flag == b.flag)) && ((a0.at_ : Int) == (b.at_ : Int))) && ((a0.last : Int) == (b.last : Int))) && (a0.n == b.n)) && (a0.m == b.m)) && (a0.p == b.p)) && (a0.e == b.e)) && (seqB a0.key b.key)) && (seqB a0.to_ b.to_)) && (sameC (⟨a0.conf.epoch, a0.conf.members, a0.conf.floor⟩ : DConf) (⟨b.conf.epoch, b.conf.members, b.conf.floor⟩ : DConf))) && (sameB (⟨a0.batch.client, a0.batch.req, a0.batch.ops⟩ : DBatch) (⟨b.batch.client, b.batch.req, b.batch.ops⟩ : DBatch))) && (sameBy sameE a0.entries b.entries)) (v := .bool (sameBy eqD a0.stamps b.stamps)) fn_43_Refs2 rfl rfl rfl rfl rfl rfl rfl (by decide) rfl (by decide) rfl rfl (fun hg36 => ?_) ?_
  · replace hg36 := And.intro (And.intro (And.intro (And.intro (And.intro (And.intro (And.intro (And.intro (And.intro (And.intro (And.intro (And.intro (And.intro (And.intro (And.intro (eq_of_beq (andT1 (andT1 (andT1 (andT1 (andT1 (andT1 (andT1 (andT1 (andT1 (andT1 (andT1 (andT1 (andT1 (andT1 (andT1 hg36)))))))))))))))) (eq_of_beq (andT2 (andT1 (andT1 (andT1 (andT1 (andT1 (andT1 (andT1 (andT1 (andT1 (andT1 (andT1 (andT1 (andT1 (andT1 hg36))))))))))))))))) (eq_of_beq (andT2 (andT1 (andT1 (andT1 (andT1 (andT1 (andT1 (andT1 (andT1 (andT1 (andT1 (andT1 (andT1 (andT1 hg36)))))))))))))))) (eq_of_beq (andT2 (andT1 (andT1 (andT1 (andT1 (andT1 (andT1 (andT1 (andT1 (andT1 (andT1 (andT1 (andT1 hg36))))))))))))))) ((andT2 (andT1 (andT1 (andT1 (andT1 (andT1 (andT1 (andT1 (andT1 (andT1 (andT1 (andT1 hg36)))))))))))))) (eq_of_beq (andT2 (andT1 (andT1 (andT1 (andT1 (andT1 (andT1 (andT1 (andT1 (andT1 (andT1 hg36))))))))))))) (eq_of_beq (andT2 (andT1 (andT1 (andT1 (andT1 (andT1 (andT1 (andT1 (andT1 (andT1 hg36)))))))))))) (eq_of_beq (andT2 (andT1 (andT1 (andT1 (andT1 (andT1 (andT1 (andT1 (andT1 hg36))))))))))) (eq_of_beq (andT2 (andT1 (andT1 (andT1 (andT1 (andT1 (andT1 (andT1 hg36)))))))))) (eq_of_beq (andT2 (andT1 (andT1 (andT1 (andT1 (andT1 (andT1 hg36))))))))) (eq_of_beq (andT2 (andT1 (andT1 (andT1 (andT1 (andT1 hg36)))))))) (seqB_iff.1 (andT2 (andT1 (andT1 (andT1 (andT1 hg36))))))) (seqB_iff.1 (andT2 (andT1 (andT1 (andT1 hg36)))))) ((andT2 (andT1 (andT1 hg36))))) ((andT2 (andT1 hg36)))) ((andT2 hg36))
    exact fun _ hw => c_ref09_sameStamps _ a0.stamps _ b.stamps _ (L3_a0.below hw) (L3_b.below hw)
  clear hok a; intro a hok
  refine q_and hok (i := 110) rfl rfl rfl rfl rfl rfl rfl (by decide) rfl rfl ?_; clear hok a; intro a hok
  refine q_runk TB_Refs2 hok 1 rfl rfl ?_; clear hok a; intro a hok
  refine q_gob hok (c := ((((((((((((((((a0.k == b.k) && (a0.epoch == b.epoch)) && (a0.req == b.req)) && (a0.serial == b.serial)) && (a0.flag == b.flag)) && ((a0.at_ : Int) == (b.at_ : Int))) && ((a0.last : Int) == (b.last : Int))) && (a0.n == b.n)) && (a0.m == b.m)) && (a0.p == b.p)) && (a0.e == b.e)) && (seqB a0.key b.key)) && (seqB a0.to_ b.to_)) && (sameC (⟨a0.conf.epoch, a0.conf.members, a0.conf.floor⟩ : DConf) (⟨b.conf.epoch, b.conf.members, b.conf.floor⟩ : DConf))) && (sameB (⟨a0.batch.client, a0.batch.req, a0.batch.ops⟩ : DBatch) (⟨b.batch.client, b.batch.req, b.batch.ops⟩ : DBatch))) && (sameBy sameE a0.entries b.entries)) && (sameBy eqD a0.stamps b.stamps)) rfl rfl rfl rfl (by decide) rfl (by decide) rfl (fun _ => fun _ _ => Ob_c TB_Refs2 rfl) ?_; clear hok a; intro a hok
  refine q_gob hok (c := ((((((((((((((((a0.k == b.k) && (a0.epoch == b.epoch)) && (a0.req == b.req)) && (a0.serial == b.serial)) && (a0.flag == b.flag)) && ((a0.at_ : Int) == (b.at_ : Int))) && ((a0.last : Int) == (b.last : Int))) && (a0.n == b.n)) && (a0.m == b.m)) && (a0.p == b.p)) && (a0.e == b.e)) && (seqB a0.key b.key)) && (seqB a0.to_ b.to_)) && (sameC (⟨a0.conf.epoch, a0.conf.members, a0.conf.floor⟩ : DConf) (⟨b.conf.epoch, b.conf.members, b.conf.floor⟩ : DConf))) && (sameB (⟨a0.batch.client, a0.batch.req, a0.batch.ops⟩ : DBatch) (⟨b.batch.client, b.batch.req, b.batch.ops⟩ : DBatch))) && (sameBy sameE a0.entries b.entries)) && (sameBy eqD a0.stamps b.stamps)) (v := .slice ao_v4_a0 a0.pairs.length cap_v4_a0) rfl rfl rfl rfl (by decide) rfl (by decide) rfl (fun hg37 => ?_) ?_
  · replace hg37 := And.intro (And.intro (And.intro (And.intro (And.intro (And.intro (And.intro (And.intro (And.intro (And.intro (And.intro (And.intro (And.intro (And.intro (And.intro (And.intro (eq_of_beq (andT1 (andT1 (andT1 (andT1 (andT1 (andT1 (andT1 (andT1 (andT1 (andT1 (andT1 (andT1 (andT1 (andT1 (andT1 (andT1 hg37))))))))))))))))) (eq_of_beq (andT2 (andT1 (andT1 (andT1 (andT1 (andT1 (andT1 (andT1 (andT1 (andT1 (andT1 (andT1 (andT1 (andT1 (andT1 (andT1 hg37)))))))))))))))))) (eq_of_beq (andT2 (andT1 (andT1 (andT1 (andT1 (andT1 (andT1 (andT1 (andT1 (andT1 (andT1 (andT1 (andT1 (andT1 (andT1 hg37))))))))))))))))) (eq_of_beq (andT2 (andT1 (andT1 (andT1 (andT1 (andT1 (andT1 (andT1 (andT1 (andT1 (andT1 (andT1 (andT1 (andT1 hg37)))))))))))))))) ((andT2 (andT1 (andT1 (andT1 (andT1 (andT1 (andT1 (andT1 (andT1 (andT1 (andT1 (andT1 (andT1 hg37))))))))))))))) (eq_of_beq (andT2 (andT1 (andT1 (andT1 (andT1 (andT1 (andT1 (andT1 (andT1 (andT1 (andT1 (andT1 hg37)))))))))))))) (eq_of_beq (andT2 (andT1 (andT1 (andT1 (andT1 (andT1 (andT1 (andT1 (andT1 (andT1 (andT1 hg37))))))))))))) (eq_of_beq (andT2 (andT1 (andT1 (andT1 (andT1 (andT1 (andT1 (andT1 (andT1 (andT1 hg37)))))))))))) (eq_of_beq (andT2 (andT1 (andT1 (andT1 (andT1 (andT1 (andT1 (andT1 (andT1 hg37))))))))))) (eq_of_beq (andT2 (andT1 (andT1 (andT1 (andT1 (andT1 (andT1 (andT1 hg37)))))))))) (eq_of_beq (andT2 (andT1 (andT1 (andT1 (andT1 (andT1 (andT1 hg37))))))))) (seqB_iff.1 (andT2 (andT1 (andT1 (andT1 (andT1 (andT1 hg37)))))))) (seqB_iff.1 (andT2 (andT1 (andT1 (andT1 (andT1 hg37))))))) ((andT2 (andT1 (andT1 (andT1 hg37)))))) ((andT2 (andT1 (andT1 hg37))))) ((andT2 (andT1 hg37)))) ((andT2 hg37))
    exact fun _ hw => Ob_load TB_Refs2 rfl rfl rfl ((X1.below hw).cell 21 rfl)
  clear hok a; intro a hok
  refine q_gob hok (c := ((((((((((((((((a0.k == b.k) && (a0.epoch == b.epoch)) && (a0.req == b.req)) && (a0.serial == b.serial)) && (a0.flag == b.flag)) && ((a0.at_ : Int) == (b.at_ : Int))) && ((a0.last : Int) == (b.last : Int))) && (a0.n == b.n)) && (a0.m == b.m)) && (a0.p == b.p)) && (a0.e == b.e)) && (seqB a0.key b.key)) && (seqB a0.to_ b.to_)) && (sameC (⟨a0.conf.epoch, a0.conf.members, a0.conf.floor⟩ : DConf) (⟨b.conf.epoch, b.conf.members, b.conf.floor⟩ : DConf))) && (sameB (⟨a0.batch.client, a0.batch.req, a0.batch.ops⟩ : DBatch) (⟨b.batch.client, b.batch.req, b.batch.ops⟩ : DBatch))) && (sameBy sameE a0.entries b.entries)) && (sameBy eqD a0.stamps b.stamps)) rfl rfl rfl rfl (by decide) rfl (by decide) rfl (fun _ => fun _ _ => Ob_c TB_Refs2 rfl) ?_; clear hok a; intro a hok
  refine q_gob hok (c := ((((((((((((((((a0.k == b.k) && (a0.epoch == b.epoch)) && (a0.req == b.req)) && (a0.serial == b.serial)) && (a0.flag == b.flag)) && ((a0.at_ : Int) == (b.at_ : Int))) && ((a0.last : Int) == (b.last : Int))) && (a0.n == b.n)) && (a0.m == b.m)) && (a0.p == b.p)) && (a0.e == b.e)) && (seqB a0.key b.key)) && (seqB a0.to_ b.to_)) && (sameC (⟨a0.conf.epoch, a0.conf.members, a0.conf.floor⟩ : DConf) (⟨b.conf.epoch, b.conf.members, b.conf.floor⟩ : DConf))) && (sameB (⟨a0.batch.client, a0.batch.req, a0.batch.ops⟩ : DBatch) (⟨b.batch.client, b.batch.req, b.batch.ops⟩ : DBatch))) && (sameBy sameE a0.entries b.entries)) && (sameBy eqD a0.stamps b.stamps)) (v := .slice ao_v4_b b.pairs.length cap_v4_b) rfl rfl rfl rfl (by decide) rfl (by decide) rfl (fun hg38 => ?_) ?_
  · replace hg38 := And.intro (And.intro (And.intro (And.intro (And.intro (And.intro (And.intro (And.intro (And.intro (And.intro (And.intro (And.intro (And.intro (And.intro (And.intro (And.intro (eq_of_beq (andT1 (andT1 (andT1 (andT1 (andT1 (andT1 (andT1 (andT1 (andT1 (andT1 (andT1 (andT1 (andT1 (andT1 (andT1 (andT1 hg38))))))))))))))))) (eq_of_beq (andT2 (andT1 (andT1 (andT1 (andT1 (andT1 (andT1 (andT1 (andT1 (andT1 (andT1 (andT1 (andT1 (andT1 (andT1 (andT1 hg38)))))))))))))))))) (eq_of_beq (andT2 (andT1 (andT1 (andT1 (andT1 (andT1 (andT1 (andT1 (andT1 (andT1 (andT1 (andT1 (andT1 (andT1 (andT1 hg38))))))))))))))))) (eq_of_beq (andT2 (andT1 (andT1 (andT1 (andT1 (andT1 (andT1 (andT1 (andT1 (andT1 (andT1 (andT1 (andT1 (andT1 hg38)))))))))))))))) ((andT2 (andT1 (andT1 (andT1 (andT1 (andT1 (andT1 (andT1 (andT1 (andT1 (andT1 (andT1 (andT1 hg38))))))))))))))) (eq_of_beq (andT2 (andT1 (andT1 (andT1 (andT1 (andT1 (andT1 (andT1 (andT1 (andT1 (andT1 (andT1 hg38)))))))))))))) (eq_of_beq (andT2 (andT1 (andT1 (andT1 (andT1 (andT1 (andT1 (andT1 (andT1 (andT1 (andT1 hg38))))))))))))) (eq_of_beq (andT2 (andT1 (andT1 (andT1 (andT1 (andT1 (andT1 (andT1 (andT1 (andT1 hg38)))))))))))) (eq_of_beq (andT2 (andT1 (andT1 (andT1 (andT1 (andT1 (andT1 (andT1 (andT1 hg38))))))))))) (eq_of_beq (andT2 (andT1 (andT1 (andT1 (andT1 (andT1 (andT1 (andT1 hg38)))))))))) (eq_of_beq (andT2 (andT1 (andT1 (andT1 (andT1 (andT1 (andT1 hg38))))))))) (seqB_iff.1 (andT2 (andT1 (andT1 (andT1 (andT1 (andT1 hg38)))))))) (seqB_iff.1 (andT2 (andT1 (andT1 (andT1 (andT1 hg38))))))) ((andT2 (andT1 (andT1 (andT1 hg38)))))) ((andT2 (andT1 (andT1 hg38))))) ((andT2 (andT1 hg38)))) ((andT2 hg38))
    exact fun _ hw => Ob_load TB_Refs2 rfl rfl rfl ((X2.below hw).cell 21 rfl)
  clear hok a; intro a hok
  refine q_gcall hok (caps := #[]) (b := ((((((((((((((((a0.k == b.k) && (a0.epoch == b.epoch)) && (a0.req == b.req)) && (a0.serial == b.serial)) && (a0.flag == b.flag)) && ((a0.at_ : Int) == (b.at_ : Int))) && ((a0.last : Int) == (b.last : Int))) && (a0.n == b.n)) && (a0.m == b.m)) && (a0.p == b.p)) && (a0.e == b.e)) && (seqB a0.key b.key)) && (seqB a0.to_ b.to_)) && (sameC (⟨a0.conf.epoch, a0.conf.members, a0.conf.floor⟩ : DConf) (⟨b.conf.epoch, b.conf.members, b.conf.floor⟩ : DConf))) && (sameB (⟨a0.batch.client, a0.batch.req, a0.batch.ops⟩ : DBatch) (⟨b.batch.client, b.batch.req, b.batch.ops⟩ : DBatch))) && (sameBy sameE a0.entries b.entries)) && (sameBy eqD a0.stamps b.stamps)) (v := .bool (sameBy eqD a0.pairs b.pairs)) fn_44_Refs2 rfl rfl rfl rfl rfl rfl rfl (by decide) rfl (by decide) rfl rfl (fun hg39 => ?_) ?_
  · replace hg39 := And.intro (And.intro (And.intro (And.intro (And.intro (And.intro (And.intro (And.intro (And.intro (And.intro (And.intro (And.intro (And.intro (And.intro (And.intro (And.intro (eq_of_beq (andT1 (andT1 (andT1 (andT1 (andT1 (andT1 (andT1 (andT1 (andT1 (andT1 (andT1 (andT1 (andT1 (andT1 (andT1 (andT1 hg39))))))))))))))))) (eq_of_beq (andT2 (andT1 (andT1 (andT1 (andT1 (andT1 (andT1 (andT1 (andT1 (andT1 (andT1 (andT1 (andT1 (andT1 (andT1 (andT1 hg39)))))))))))))))))) (eq_of_beq (andT2 (andT1 (andT1 (andT1 (andT1 (andT1 (andT1 (andT1 (andT1 (andT1 (andT1 (andT1 (andT1 (andT1 (andT1 hg39))))))))))))))))) (eq_of_beq (andT2 (andT1 (andT1 (andT1 (andT1 (andT1 (andT1 (andT1 (andT1 (andT1 (andT1 (andT1 (andT1 (andT1 hg39)))))))))))))))) ((andT2 (andT1 (andT1 (andT1 (andT1 (andT1 (andT1 (andT1 (andT1 (andT1 (andT1 (andT1 (andT1 hg39))))))))))))))) (eq_of_beq (andT2 (andT1 (andT1 (andT1 (andT1 (andT1 (andT1 (andT1 (andT1 (andT1 (andT1 (andT1 hg39)))))))))))))) (eq_of_beq (andT2 (andT1 (andT1 (andT1 (andT1 (andT1 (andT1 (andT1 (andT1 (andT1 (andT1 hg39))))))))))))) (eq_of_beq (andT2 (andT1 (andT1 (andT1 (andT1 (andT1 (andT1 (andT1 (andT1 (andT1 hg39)))))))))))) (eq_of_beq (andT2 (andT1 (andT1 (andT1 (andT1 (andT1 (andT1 (andT1 (andT1 hg39))))))))))) (eq_of_beq (andT2 (andT1 (andT1 (andT1 (andT1 (andT1 (andT1 (andT1 hg39)))))))))) (eq_of_beq (andT2 (andT1 (andT1 (andT1 (andT1 (andT1 (andT1 hg39))))))))) (seqB_iff.1 (andT2 (andT1 (andT1 (andT1 (andT1 (andT1 hg39)))))))) (seqB_iff.1 (andT2 (andT1 (andT1 (andT1 (andT1 hg39))))))) ((andT2 (andT1 (andT1 (andT1 hg39)))))) ((andT2 (andT1 (andT1 hg39))))) ((andT2 (andT1 hg39)))) ((andT2 hg39))
    exact fun _ hw => c_ref06_SamePairs _ a0.pairs _ b.pairs _ (L4_a0.below hw) (L4_b.below hw)
  clear hok a; intro a hok
  refine q_and hok (i := 117) rfl rfl rfl rfl rfl rfl rfl (by decide) rfl rfl ?_; clear hok a; intro a hok
  refine q_runk TB_Refs2 hok 1 rfl rfl ?_; clear hok a; intro a hok
  refine q_end hok [0, 1, 2, 3, 4] rfl ?_; clear hok; intro w3 hb hok
  have hz_w3 : w2.heap.size ≤ w3.heap.size := hb.size
  replace B := B.blw hb
  replace L0_a0 := L0_a0.below hb
  replace L1_a0 := L1_a0.below hb
  replace L2_a0 := L2_a0.below hb
  replace L3_a0 := L3_a0.below hb
  replace L4_a0 := L4_a0.below hb
  replace L0_b := L0_b.below hb
  replace L1_b := L1_b.below hb
  replace L2_b := L2_b.below hb
  replace L3_b := L3_b.below hb
  replace L4_b := L4_b.below hb
  replace X1 := X1.below hb
  replace X2 := X2.below hb
  clear hb
  refine p_then ?_
  refine wp_ret ?_
  refine f_ret hok (run_results1 rfl hok rfl) ?_
  refine ⟨?_, B.toBelow⟩
  · clear hok B L0_a0 L1_a0 L2_a0 L3_a0 L4_a0 L0_b L1_b L2_b L3_b L4_b X1 X2 hc_v0_a0 hm_v0_a0 ha_P1 ho_P1 hc_v1_a0 hm_v1_a0 ha_P2 ho_P2 hc_v2_a0 hm_v2_a0 ha_P3 ho_P3 hc_v3_a0 hm_v3_a0 ha_P4 ho_P4 hc_v4_a0 hm_v4_a0 ha_P5 ho_P5 hc_v0_b hm_v0_b ha_P6 ho_P6 hc_v1_b hm_v1_b ha_P7 ho_P7 hc_v2_b hm_v2_b ha_P8 ho_P8 hc_v3_b hm_v3_b ha_P9 ho_P9 hc_v4_b hm_v4_b ha_P10 ho_P10 hb0_b1 hb1_b1 hge_b1 hz_w1 hb0_b2 hb1_b2 hge_b2 hlt_b1_b2 hz_w2 hz_w3
    simp only [beq_cast]; rfl

def sameN (a b : DNote) : Bool := a.k == b.k && a.n == b.n && a.at_ == b.at_ && sameC a.conf b.conf && sameBy eqD a.legit b.legit && sameE a.entry b.entry && decide (a.pin = b.pin) && decide (a.said = b.said)

set_option maxHeartbeats 1000000 in
set_option maxRecDepth 100000 in
theorem c_ref10_Same {A0 : Nat → Prop} {A1 : Nat → Prop} {A2 : Nat → Prop} {A3 : Nat → Prop} {A4 : Nat → Prop} {A5 : Nat → Prop} (a0 : DNote) (v0_a0 : Value) (v1_a0 : Value) (v2_a0 : Value) (b : DNote) (v0_b : Value) (v1_b : Value) (v2_b : Value) (w : World) (L0_a0 : slRep RDMember A0 w v0_a0 a0.conf.members) (L1_a0 : slRep RI A1 w v1_a0 a0.legit) (L2_a0 : slRep RDOp A2 w v2_a0 a0.entry.batch.ops) (h_a0 : okDNote a0) (L0_b : slRep RDMember A3 w v0_b b.conf.members) (L1_b : slRep RI A4 w v1_b b.legit) (L2_b : slRep RDOp A5 w v2_b b.entry.batch.ops) (h_b : okDNote b) :
    Calls Try.prog 45 #[.agg #[.int .i64 a0.k, .int .i64 a0.n, .int .u64 (a0.at_ : Int), .int .i64 a0.conf.epoch, v0_a0, .int .u64 (a0.conf.floor : Int), v1_a0, .int .i64 a0.entry.batch.client, .int .i64 a0.entry.batch.req, v2_a0, .int .u64 (a0.entry.ts : Int), .int .i64 a0.pin.id, .int .u64 (a0.pin.at_ : Int), .int .i64 a0.pin.left, .int .i64 a0.said.client, .int .i64 a0.said.req, .int .i64 a0.said.e, .int .i64 a0.said.pin], .agg #[.int .i64 b.k, .int .i64 b.n, .int .u64 (b.at_ : Int), .int .i64 b.conf.epoch, v0_b, .int .u64 (b.conf.floor : Int), v1_b, .int .i64 b.entry.batch.client, .int .i64 b.entry.batch.req, v2_b, .int .u64 (b.entry.ts : Int), .int .i64 b.pin.id, .int .u64 (b.pin.at_ : Int), .int .i64 b.pin.left, .int .i64 b.said.client, .int .i64 b.said.req, .int .i64 b.said.e, .int .i64 b.said.pin]] w (Ret fun r w' => r = .bool (sameN a0 b) ∧ Below w.heap.size w w') := by
  have B : Bt [] w w := Bt.refl _ _
  obtain ⟨ao_v0_a0, cap_v0_a0, rfl, hc_v0_a0, hm_v0_a0⟩ := L0_a0.shape
  unfold maxLen at hm_v0_a0
  obtain ⟨P1, ha_P1, ho_P1, L0_a0⟩ : ∃ X : Nat → Prop, (∀ k, X k → k < w.heap.size) ∧ (∀ k, X k → A0 k ∨ A1 k ∨ A2 k ∨ A3 k ∨ A4 k ∨ A5 k ∨ w.heap.size ≤ k) ∧ slRep RDMember X w (.slice ao_v0_a0 a0.conf.members.length cap_v0_a0) a0.conf.members := ⟨_, fun k h => h.2, fun k h => .inl h.1, L0_a0.bound⟩
  obtain ⟨ao_v1_a0, cap_v1_a0, rfl, hc_v1_a0, hm_v1_a0⟩ := L1_a0.shape
  unfold maxLen at hm_v1_a0
  obtain ⟨P2, ha_P2, ho_P2, L1_a0⟩ : ∃ X : Nat → Prop, (∀ k, X k → k < w.heap.size) ∧ (∀ k, X k → A0 k ∨ A1 k ∨ A2 k ∨ A3 k ∨ A4 k ∨ A5 k ∨ w.heap.size ≤ k) ∧ slRep RI X w (.slice ao_v1_a0 a0.legit.length cap_v1_a0) a0.legit := ⟨_, fun k h => h.2, fun k h => .inr (.inl h.1), L1_a0.bound⟩
  obtain ⟨ao_v2_a0, cap_v2_a0, rfl, hc_v2_a0, hm_v2_a0⟩ := L2_a0.shape
  unfold maxLen at hm_v2_a0
  obtain ⟨P3, ha_P3, ho_P3, L2_a0⟩ : ∃ X : Nat → Prop, (∀ k, X k → k < w.heap.size) ∧ (∀ k, X k → A0 k ∨ A1 k ∨ A2 k ∨ A3 k ∨ A4 k ∨ A5 k ∨ w.heap.size ≤ k) ∧ slRep RDOp X w (.slice ao_v2_a0 a0.entry.batch.ops.length cap_v2_a0) a0.entry.batch.ops := ⟨_, fun k h => h.2, fun k h => .inr (.inr (.inl h.1)), L2_a0.bound⟩
  obtain ⟨ao_v0_b, cap_v0_b, rfl, hc_v0_b, hm_v0_b⟩ := L0_b.shape
  unfold maxLen at hm_v0_b
  obtain ⟨P4, ha_P4, ho_P4, L0_b⟩ : ∃ X : Nat → Prop, (∀ k, X k → k < w.heap.size) ∧ (∀ k, X k → A0 k ∨ A1 k ∨ A2 k ∨ A3 k ∨ A4 k ∨ A5 k ∨ w.heap.size ≤ k) ∧ slRep RDMember X w (.slice ao_v0_b b.conf.members.length cap_v0_b) b.conf.members := ⟨_, fun k h => h.2, fun k h => .inr (.inr (.inr (.inl h.1))), L0_b.bound⟩
  obtain ⟨ao_v1_b, cap_v1_b, rfl, hc_v1_b, hm_v1_b⟩ := L1_b.shape
  unfold maxLen at hm_v1_b
  obtain ⟨P5, ha_P5, ho_P5, L1_b⟩ : ∃ X : Nat → Prop, (∀ k, X k → k < w.heap.size) ∧ (∀ k, X k → A0 k ∨ A1 k ∨ A2 k ∨ A3 k ∨ A4 k ∨ A5 k ∨ w.heap.size ≤ k) ∧ slRep RI X w (.slice ao_v1_b b.legit.length cap_v1_b) b.legit := ⟨_, fun k h => h.2, fun k h => .inr (.inr (.inr (.inr (.inl h.1)))), L1_b.bound⟩
  obtain ⟨ao_v2_b, cap_v2_b, rfl, hc_v2_b, hm_v2_b⟩ := L2_b.shape
  unfold maxLen at hm_v2_b
  obtain ⟨P6, ha_P6, ho_P6, L2_b⟩ : ∃ X : Nat → Prop, (∀ k, X k → k < w.heap.size) ∧ (∀ k, X k → A0 k ∨ A1 k ∨ A2 k ∨ A3 k ∨ A4 k ∨ A5 k ∨ w.heap.size ≤ k) ∧ slRep RDOp X w (.slice ao_v2_b b.entry.batch.ops.length cap_v2_b) b.entry.batch.ops := ⟨_, fun k h => h.2, fun k h => .inr (.inr (.inr (.inr (.inr (.inl h.1))))), L2_b.bound⟩
  refine f_enter 59 Try.func45 rfl rfl (Nat.le_of_ble_eq_true rfl) fun a hok => ?_
  replace hok := hok.sub (ts := [0, 1]) rfl
  refine wp_seq ?_
  refine f_region hok ?_; clear hok; intro hok
  refine s_boxv hok (cs := [.int .i64 a0.k, .int .i64 a0.n, .int .u64 (a0.at_ : Int), .int .i64 a0.conf.epoch, .slice ao_v0_a0 a0.conf.members.length cap_v0_a0, .int .u64 (a0.conf.floor : Int), .slice ao_v1_a0 a0.legit.length cap_v1_a0, .int .i64 a0.entry.batch.client, .int .i64 a0.entry.batch.req, .slice ao_v2_a0 a0.entry.batch.ops.length cap_v2_a0, .int .u64 (a0.entry.ts : Int), .int .i64 a0.pin.id, .int .u64 (a0.pin.at_ : Int), .int .i64 a0.pin.left, .int .i64 a0.said.client, .int .i64 a0.said.req, .int .i64 a0.said.e, .int .i64 a0.said.pin]) rfl rfl rfl (by decide) rfl rfl rfl ?_; clear hok a; intro a w1 b1 hb0_b1 hb1_b1 hb X1 hok
  have hge_b1 : w.heap.size ≤ b1 := by have := B.size; omega
  have hz_w1 : w.heap.size ≤ w1.heap.size := hb.size
  replace B := B.blw hb
  replace L0_a0 := L0_a0.below hb
  replace L1_a0 := L1_a0.below hb
  replace L2_a0 := L2_a0.below hb
  replace L0_b := L0_b.below hb
  replace L1_b := L1_b.below hb
  replace L2_b := L2_b.below hb
  clear hb
  refine s_boxv hok (cs := [.int .i64 b.k, .int .i64 b.n, .int .u64 (b.at_ : Int), .int .i64 b.conf.epoch, .slice ao_v0_b b.conf.members.length cap_v0_b, .int .u64 (b.conf.floor : Int), .slice ao_v1_b b.legit.length cap_v1_b, .int .i64 b.entry.batch.client, .int .i64 b.entry.batch.req, .slice ao_v2_b b.entry.batch.ops.length cap_v2_b, .int .u64 (b.entry.ts : Int), .int .i64 b.pin.id, .int .u64 (b.pin.at_ : Int), .int .i64 b.pin.left, .int .i64 b.said.client, .int .i64 b.said.req, .int .i64 b.said.e, .int .i64 b.said.pin]) rfl rfl rfl (by decide) rfl rfl rfl ?_; clear hok a; intro a w2 b2 hb0_b2 hb1_b2 hb X2 hok
  have hge_b2 : w.heap.size ≤ b2 := by have := B.size; omega
  have hlt_b1_b2 : b1 < b2 := by have := X1.lt; omega
  have hz_w2 : w1.heap.size ≤ w2.heap.size := hb.size
  replace B := B.blw hb
  replace L0_a0 := L0_a0.below hb
  replace L1_a0 := L1_a0.below hb
  replace L2_a0 := L2_a0.below hb
  replace L0_b := L0_b.below hb
  replace L1_b := L1_b.below hb
  replace L2_b := L2_b.below hb
  replace X1 := X1.below hb
  clear hb
  refine s_runk TB_Refs2 hok 1 rfl rfl ?_; clear hok a; intro a hok
  refine s_end hok [0, 1, 2, 3, 4] rfl ?_; clear hok; intro hok
  refine p_then ?_
  refine wp_seq ?_
  refine f_quiet hok ?_; clear hok; intro hok
  refine q_runk TB_Refs2 hok 1 rfl rfl ?_; clear hok a; intro a hok
  refine q_ob hok (v := .int .i64 a0.k) rfl rfl (by decide) rfl (fun _ hw => Ob_load TB_Refs2 rfl rfl rfl ((X1.below hw).cell 0 rfl)) ?_; clear hok a; intro a hok
  refine q_runk TB_Refs2 hok 1 rfl rfl ?_; clear hok a; intro a hok
  refine q_ob hok (v := .int .i64 b.k) rfl rfl (by decide) rfl (fun _ hw => Ob_load TB_Refs2 rfl rfl rfl ((X2.below hw).cell 0 rfl)) ?_; clear hok a; intro a hok
  refine q_runk TB_Refs2 hok 2 rfl rfl ?_; clear hok a; intro a hok
  refine q_gob hok (c := a0.k == b.k) rfl rfl rfl rfl (by decide) rfl (by decide) rfl (fun _ => fun _ _ => Ob_c TB_Refs2 rfl) ?_; clear hok a; intro a hok
  refine q_gob hok (c := a0.k == b.k) (v := .int .i64 a0.n) rfl rfl rfl rfl (by decide) rfl (by decide) rfl (fun hg1 => ?_) ?_
  · replace hg1 := eq_of_beq hg1
    exact fun _ hw => Ob_load TB_Refs2 rfl rfl rfl ((X1.below hw).cell 1 rfl)
  clear hok a; intro a hok
  refine q_gob hok (c := a0.k == b.k) rfl rfl rfl rfl (by decide) rfl (by decide) rfl (fun _ => fun _ _ => Ob_c TB_Refs2 rfl) ?_; clear hok a; intro a hok
  refine q_gob hok (c := a0.k == b.k) (v := .int .i64 b.n) rfl rfl rfl rfl (by decide) rfl (by decide) rfl (fun hg2 => ?_) ?_
  · replace hg2 := eq_of_beq hg2
    exact fun _ hw => Ob_load TB_Refs2 rfl rfl rfl ((X2.below hw).cell 1 rfl)
  clear hok a; intro a hok
  refine q_gob hok (c := a0.k == b.k) rfl rfl rfl rfl (by decide) rfl (by decide) rfl (fun _ => fun _ _ => Ob_c TB_Refs2 rfl) ?_; clear hok a; intro a hok
  refine q_and hok (i := 5) rfl rfl rfl rfl rfl rfl rfl (by decide) rfl rfl ?_; clear hok a; intro a hok
  refine q_runk TB_Refs2 hok 1 rfl rfl ?_; clear hok a; intro a hok
  refine q_gob hok (c := (a0.k == b.k) && (a0.n == b.n)) rfl rfl rfl rfl (by decide) rfl (by decide) rfl (fun _ => fun _ _ => Ob_c TB_Refs2 rfl) ?_; clear hok a; intro a hok
  refine q_gob hok (c := (a0.k == b.k) && (a0.n == b.n)) (v := .int .u64 (a0.at_ : Int)) rfl rfl rfl rfl (by decide) rfl (by decide) rfl (fun hg3 => ?_) ?_
  · replace hg3 := And.intro (eq_of_beq (andT1 hg3)) (eq_of_beq (andT2 hg3))
    exact fun _ hw => Ob_load TB_Refs2 rfl rfl rfl ((X1.below hw).cell 2 rfl)
  clear hok a; intro a hok
  refine q_gob hok (c := (a0.k == b.k) && (a0.n == b.n)) rfl rfl rfl rfl (by decide) rfl (by decide) rfl (fun _ => fun _ _ => Ob_c TB_Refs2 rfl) ?_; clear hok a; intro a hok
  refine q_gob hok (c := (a0.k == b.k) && (a0.n == b.n)) (v := .int .u64 (b.at_ : Int)) rfl rfl rfl rfl (by decide) rfl (by decide) rfl (fun hg4 => ?_) ?_
  · replace hg4 := And.intro (eq_of_beq (andT1 hg4)) (eq_of_beq (andT2 hg4))
    exact fun _ hw => Ob_load TB_Refs2 rfl rfl rfl ((X2.below hw).cell 2 rfl)
  clear hok a; intro a hok
  refine q_gob hok (c := (a0.k == b.k) && (a0.n == b.n)) rfl rfl rfl rfl (by decide) rfl (by decide) rfl (fun _ => fun _ _ => Ob_c TB_Refs2 rfl) ?_; clear hok a; intro a hok
  refine q_and hok (i := 12) rfl rfl rfl rfl rfl rfl rfl (by decide) rfl rfl ?_; clear hok a; intro a hok
  refine q_runk TB_Refs2 hok 1 rfl rfl ?_; clear hok a; intro a hok
  refine q_gob hok (c := ((a0.k == b.k) && (a0.n == b.n)) && ((a0.at_ : Int) == (b.at_ : Int))) rfl rfl rfl rfl (by decide) rfl (by decide) rfl (fun _ => fun _ _ => Ob_c TB_Refs2 rfl) ?_; clear hok a; intro a hok
  refine q_gob hok (c := ((a0.k == b.k) && (a0.n == b.n)) && ((a0.at_ : Int) == (b.at_ : Int))) (v := .agg #[.int .i64 a0.conf.epoch, .slice ao_v0_a0 a0.conf.members.length cap_v0_a0, .int .u64 (a0.conf.floor : Int)]) rfl rfl rfl rfl (by decide) rfl (by decide) rfl (fun hg5 => ?_) ?_
  · replace hg5 := And.intro (And.intro (eq_of_beq (andT1 (andT1 hg5))) (eq_of_beq (andT2 (andT1 hg5)))) (eq_of_beq (andT2 hg5))
    exact fun _ hw => Ob_loads TB_Refs2 (cs := [.int .i64 a0.conf.epoch, .slice ao_v0_a0 a0.conf.members.length cap_v0_a0, .int .u64 (a0.conf.floor : Int)]) rfl rfl rfl ((X1.below hw).part 3 rfl)
  clear hok a; intro a hok
  refine q_gob hok (c := ((a0.k == b.k) && (a0.n == b.n)) && ((a0.at_ : Int) == (b.at_ : Int))) rfl rfl rfl rfl (by decide) rfl (by decide) rfl (fun _ => fun _ _ => Ob_c TB_Refs2 rfl) ?_; clear hok a; intro a hok
  refine q_gob hok (c := ((a0.k == b.k) && (a0.n == b.n)) && ((a0.at_ : Int) == (b.at_ : Int))) (v := .agg #[.int .i64 b.conf.epoch, .slice ao_v0_b b.conf.members.length cap_v0_b, .int .u64 (b.conf.floor : Int)]) rfl rfl rfl rfl (by decide) rfl (by decide) rfl (fun hg6 => ?_) ?_
  · replace hg6 := And.intro (And.intro (eq_of_beq (andT1 (andT1 hg6))) (eq_of_beq (andT2 (andT1 hg6)))) (eq_of_beq (andT2 hg6))
    exact fun _ hw => Ob_loads TB_Refs2 (cs := [.int .i64 b.conf.epoch, .slice ao_v0_b b.conf.members.length cap_v0_b, .int .u64 (b.conf.floor : Int)]) rfl rfl rfl ((X2.below hw).part 3 rfl)
  clear hok a; intro a hok
  refine q_gcall hok (caps := #[]) (b := ((a0.k == b.k) && (a0.n == b.n)) && ((a0.at_ : Int) == (b.at_ : Int))) (v := .bool (sameC (⟨a0.conf.epoch, a0.conf.members, a0.conf.floor⟩ : DConf) (⟨b.conf.epoch, b.conf.members, b.conf.floor⟩ : DConf))) fn_40_Refs2 rfl rfl rfl rfl rfl rfl rfl (by decide) rfl (by decide) rfl rfl (fun hg7 => ?_) ?_
  · replace hg7 := And.intro (And.intro (eq_of_beq (andT1 (andT1 hg7))) (eq_of_beq (andT2 (andT1 hg7)))) (eq_of_beq (andT2 hg7))
    exact fun _ hw => c_ref07_Same (⟨a0.conf.epoch, a0.conf.members, a0.conf.floor⟩ : DConf) _ (⟨b.conf.epoch, b.conf.members, b.conf.floor⟩ : DConf) _ _ (L0_a0.below hw) ⟨h_a0.2.2.2.1.1, h_a0.2.2.2.1.2⟩ (L0_b.below hw) ⟨h_b.2.2.2.1.1, h_b.2.2.2.1.2⟩
  clear hok a; intro a hok
  refine q_and hok (i := 19) rfl rfl rfl rfl rfl rfl rfl (by decide) rfl rfl ?_; clear hok a; intro a hok
  refine q_runk TB_Refs2 hok 1 rfl rfl ?_; clear hok a; intro a hok
  refine q_gob hok (c := (((a0.k == b.k) && (a0.n == b.n)) && ((a0.at_ : Int) == (b.at_ : Int))) && (sameC (⟨a0.conf.epoch, a0.conf.members, a0.conf.floor⟩ : DConf) (⟨b.conf.epoch, b.conf.members, b.conf.floor⟩ : DConf))) rfl rfl rfl rfl (by decide) rfl (by decide) rfl (fun _ => fun _ _ => Ob_c TB_Refs2 rfl) ?_; clear hok a; intro a hok
  refine q_gob hok (c := (((a0.k == b.k) && (a0.n == b.n)) && ((a0.at_ : Int) == (b.at_ : Int))) && (sameC (⟨a0.conf.epoch, a0.conf.members, a0.conf.floor⟩ : DConf) (⟨b.conf.epoch, b.conf.members, b.conf.floor⟩ : DConf))) (v := .slice ao_v1_a0 a0.legit.length cap_v1_a0) rfl rfl rfl rfl (by decide) rfl (by decide) rfl (fun hg8 => ?_) ?_
  · replace hg8 := And.intro (And.intro (And.intro (eq_of_beq (andT1 (andT1 (andT1 hg8)))) (eq_of_beq (andT2 (andT1 (andT1 hg8))))) (eq_of_beq (andT2 (andT1 hg8)))) ((andT2 hg8))
    exact fun _ hw => Ob_load TB_Refs2 rfl rfl rfl ((X1.below hw).cell 6 rfl)
  clear hok a; intro a hok
  refine q_gob hok (c := (((a0.k == b.k) && (a0.n == b.n)) && ((a0.at_ : Int) == (b.at_ : Int))) && (sameC (⟨a0.conf.epoch, a0.conf.members, a0.conf.floor⟩ : DConf) (⟨b.conf.epoch, b.conf.members, b.conf.floor⟩ : DConf))) rfl rfl rfl rfl (by decide) rfl (by decide) rfl (fun _ => fun _ _ => Ob_c TB_Refs2 rfl) ?_; clear hok a; intro a hok
  refine q_gob hok (c := (((a0.k == b.k) && (a0.n == b.n)) && ((a0.at_ : Int) == (b.at_ : Int))) && (sameC (⟨a0.conf.epoch, a0.conf.members, a0.conf.floor⟩ : DConf) (⟨b.conf.epoch, b.conf.members, b.conf.floor⟩ : DConf))) (v := .slice ao_v1_b b.legit.length cap_v1_b) rfl rfl rfl rfl (by decide) rfl (by decide) rfl (fun hg9 => ?_) ?_
  · replace hg9 := And.intro (And.intro (And.intro (eq_of_beq (andT1 (andT1 (andT1 hg9)))) (eq_of_beq (andT2 (andT1 (andT1 hg9))))) (eq_of_beq (andT2 (andT1 hg9)))) ((andT2 hg9))
    exact fun _ hw => Ob_load TB_Refs2 rfl rfl rfl ((X2.below hw).cell 6 rfl)
  clear hok a; intro a hok
  refine q_gcall hok (caps := #[]) (b := (((a0.k == b.k) && (a0.n == b.n)) && ((a0.at_ : Int) == (b.at_ : Int))) && (sameC (⟨a0.conf.epoch, a0.conf.members, a0.conf.floor⟩ : DConf) (⟨b.conf.epoch, b.conf.members, b.conf.floor⟩ : DConf))) (v := .bool (sameBy eqD a0.legit b.legit)) fn_61_Refs2 rfl rfl rfl rfl rfl rfl rfl (by decide) rfl (by decide) rfl rfl (fun hg10 => ?_) ?_
  · replace hg10 := And.intro (And.intro (And.intro (eq_of_beq (andT1 (andT1 (andT1 hg10)))) (eq_of_beq (andT2 (andT1 (andT1 hg10))))) (eq_of_beq (andT2 (andT1 hg10)))) ((andT2 hg10))
    exact fun _ hw => c_ref10_SameInts _ a0.legit _ b.legit _ (L1_a0.below hw) (L1_b.below hw)
  clear hok a; intro a hok
  refine q_and hok (i := 26) rfl rfl rfl rfl rfl rfl rfl (by decide) rfl rfl ?_; clear hok a; intro a hok
  refine q_runk TB_Refs2 hok 1 rfl rfl ?_; clear hok a; intro a hok
  refine q_gob hok (c := ((((a0.k == b.k) && (a0.n == b.n)) && ((a0.at_ : Int) == (b.at_ : Int))) && (sameC (⟨a0.conf.epoch, a0.conf.members, a0.conf.floor⟩ : DConf) (⟨b.conf.epoch, b.conf.members, b.conf.floor⟩ : DConf))) && (sameBy eqD a0.legit b.legit)) rfl rfl rfl rfl (by decide) rfl (by decide) rfl (fun _ => fun _ _ => Ob_c TB_Refs2 rfl) ?_; clear hok a; intro a hok
  refine q_gob hok (c := ((((a0.k == b.k) && (a0.n == b.n)) && ((a0.at_ : Int) == (b.at_ : Int))) && (sameC (⟨a0.conf.epoch, a0.conf.members, a0.conf.floor⟩ : DConf) (⟨b.conf.epoch, b.conf.members, b.conf.floor⟩ : DConf))) && (sameBy eqD a0.legit b.legit)) (v := .agg #[.int .i64 a0.entry.batch.client, .int .i64 a0.entry.batch.req, .slice ao_v2_a0 a0.entry.batch.ops.length cap_v2_a0, .int .u64 (a0.entry.ts : Int)]) rfl rfl rfl rfl (by decide) rfl (by decide) rfl (fun hg11 => ?_) ?_
  · replace hg11 := And.intro (And.intro (And.intro (And.intro (eq_of_beq (andT1 (andT1 (andT1 (andT1 hg11))))) (eq_of_beq (andT2 (andT1 (andT1 (andT1 hg11)))))) (eq_of_beq (andT2 (andT1 (andT1 hg11))))) ((andT2 (andT1 hg11)))) ((andT2 hg11))
    exact fun _ hw => Ob_loads TB_Refs2 (cs := [.int .i64 a0.entry.batch.client, .int .i64 a0.entry.batch.req, .slice ao_v2_a0 a0.entry.batch.ops.length cap_v2_a0, .int .u64 (a0.entry.ts : Int)]) rfl rfl rfl ((X1.below hw).part 7 rfl)
  clear hok a; intro a hok
  refine q_gob hok (c := ((((a0.k == b.k) && (a0.n == b.n)) && ((a0.at_ : Int) == (b.at_ : Int))) && (sameC (⟨a0.conf.epoch, a0.conf.members, a0.conf.floor⟩ : DConf) (⟨b.conf.epoch, b.conf.members, b.conf.floor⟩ : DConf))) && (sameBy eqD a0.legit b.legit)) rfl rfl rfl rfl (by decide) rfl (by decide) rfl (fun _ => fun _ _ => Ob_c TB_Refs2 rfl) ?_; clear hok a; intro a hok
  refine q_gob hok (c := ((((a0.k == b.k) && (a0.n == b.n)) && ((a0.at_ : Int) == (b.at_ : Int))) && (sameC (⟨a0.conf.epoch, a0.conf.members, a0.conf.floor⟩ : DConf) (⟨b.conf.epoch, b.conf.members, b.conf.floor⟩ : DConf))) && (sameBy eqD a0.legit b.legit)) (v := .agg #[.int .i64 b.entry.batch.client, .int .i64 b.entry.batch.req, .slice ao_v2_b b.entry.batch.ops.length cap_v2_b, .int .u64 (b.entry.ts : Int)]) rfl rfl rfl rfl (by decide) rfl (by decide) rfl (fun hg12 => ?_) ?_
  · replace hg12 := And.intro (And.intro (And.intro (And.intro (eq_of_beq (andT1 (andT1 (andT1 (andT1 hg12))))) (eq_of_beq (andT2 (andT1 (andT1 (andT1 hg12)))))) (eq_of_beq (andT2 (andT1 (andT1 hg12))))) ((andT2 (andT1 hg12)))) ((andT2 hg12))
    exact fun _ hw => Ob_loads TB_Refs2 (cs := [.int .i64 b.entry.batch.client, .int .i64 b.entry.batch.req, .slice ao_v2_b b.entry.batch.ops.length cap_v2_b, .int .u64 (b.entry.ts : Int)]) rfl rfl rfl ((X2.below hw).part 7 rfl)
  clear hok a; intro a hok
  refine q_gcall hok (caps := #[]) (b := ((((a0.k == b.k) && (a0.n == b.n)) && ((a0.at_ : Int) == (b.at_ : Int))) && (sameC (⟨a0.conf.epoch, a0.conf.members, a0.conf.floor⟩ : DConf) (⟨b.conf.epoch, b.conf.members, b.conf.floor⟩ : DConf))) && (sameBy eqD a0.legit b.legit)) (v := .bool (sameE (⟨(⟨a0.entry.batch.client, a0.entry.batch.req, a0.entry.batch.ops⟩ : DBatch), a0.entry.ts⟩ : DEntry) (⟨(⟨b.entry.batch.client, b.entry.batch.req, b.entry.batch.ops⟩ : DBatch), b.entry.ts⟩ : DEntry))) fn_60_Refs2 rfl rfl rfl rfl rfl rfl rfl (by decide) rfl (by decide) rfl rfl (fun hg13 => ?_) ?_
  · replace hg13 := And.intro (And.intro (And.intro (And.intro (eq_of_beq (andT1 (andT1 (andT1 (andT1 hg13))))) (eq_of_beq (andT2 (andT1 (andT1 (andT1 hg13)))))) (eq_of_beq (andT2 (andT1 (andT1 hg13))))) ((andT2 (andT1 hg13)))) ((andT2 hg13))
    exact fun _ hw => c_ref08_Same (⟨(⟨a0.entry.batch.client, a0.entry.batch.req, a0.entry.batch.ops⟩ : DBatch), a0.entry.ts⟩ : DEntry) _ (⟨(⟨b.entry.batch.client, b.entry.batch.req, b.entry.batch.ops⟩ : DBatch), b.entry.ts⟩ : DEntry) _ _ (L2_a0.below hw) ⟨⟨h_a0.2.2.2.2.1.1.1, h_a0.2.2.2.2.1.1.2⟩, h_a0.2.2.2.2.1.2⟩ (L2_b.below hw) ⟨⟨h_b.2.2.2.2.1.1.1, h_b.2.2.2.2.1.1.2⟩, h_b.2.2.2.2.1.2⟩
  clear hok a; intro a hok
  refine q_and hok (i := 33) rfl rfl rfl rfl rfl rfl rfl (by decide) rfl rfl ?_; clear hok a; intro a hok
  refine q_runk TB_Refs2 hok 1 rfl rfl ?_; clear hok a; intro a hok
  refine q_gob hok (c := (((((a0.k == b.k) && (a0.n == b.n)) && ((a0.at_ : Int) == (b.at_ : Int))) && (sameC (⟨a0.conf.epoch, a0.conf.members, a0.conf.floor⟩ : DConf) (⟨b.conf.epoch, b.conf.members, b.conf.floor⟩ : DConf))) && (sameBy eqD a0.legit b.legit)) && (sameE (⟨(⟨a0.entry.batch.client, a0.entry.batch.req, a0.entry.batch.ops⟩ : DBatch), a0.entry.ts⟩ : DEntry) (⟨(⟨b.entry.batch.client, b.entry.batch.req, b.entry.batch.ops⟩ : DBatch), b.entry.ts⟩ : DEntry))) rfl rfl rfl rfl (by decide) rfl (by decide) rfl (fun _ => fun _ _ => Ob_c TB_Refs2 rfl) ?_; clear hok a; intro a hok
  refine q_gob hok (c := (((((a0.k == b.k) && (a0.n == b.n)) && ((a0.at_ : Int) == (b.at_ : Int))) && (sameC (⟨a0.conf.epoch, a0.conf.members, a0.conf.floor⟩ : DConf) (⟨b.conf.epoch, b.conf.members, b.conf.floor⟩ : DConf))) && (sameBy eqD a0.legit b.legit)) && (sameE (⟨(⟨a0.entry.batch.client, a0.entry.batch.req, a0.entry.batch.ops⟩ : DBatch), a0.entry.ts⟩ : DEntry) (⟨(⟨b.entry.batch.client, b.entry.batch.req, b.entry.batch.ops⟩ : DBatch), b.entry.ts⟩ : DEntry))) (v := .agg #[.int .i64 a0.pin.id, .int .u64 (a0.pin.at_ : Int), .int .i64 a0.pin.left]) rfl rfl rfl rfl (by decide) rfl (by decide) rfl (fun hg14 => ?_) ?_
  · replace hg14 := And.intro (And.intro (And.intro (And.intro (And.intro (eq_of_beq (andT1 (andT1 (andT1 (andT1 (andT1 hg14)))))) (eq_of_beq (andT2 (andT1 (andT1 (andT1 (andT1 hg14))))))) (eq_of_beq (andT2 (andT1 (andT1 (andT1 hg14)))))) ((andT2 (andT1 (andT1 hg14))))) ((andT2 (andT1 hg14)))) ((andT2 hg14))
    exact fun _ hw => Ob_loads TB_Refs2 (cs := [.int .i64 a0.pin.id, .int .u64 (a0.pin.at_ : Int), .int .i64 a0.pin.left]) rfl rfl rfl ((X1.below hw).part 11 rfl)
  clear hok a; intro a hok
  refine q_gob hok (c := (((((a0.k == b.k) && (a0.n == b.n)) && ((a0.at_ : Int) == (b.at_ : Int))) && (sameC (⟨a0.conf.epoch, a0.conf.members, a0.conf.floor⟩ : DConf) (⟨b.conf.epoch, b.conf.members, b.conf.floor⟩ : DConf))) && (sameBy eqD a0.legit b.legit)) && (sameE (⟨(⟨a0.entry.batch.client, a0.entry.batch.req, a0.entry.batch.ops⟩ : DBatch), a0.entry.ts⟩ : DEntry) (⟨(⟨b.entry.batch.client, b.entry.batch.req, b.entry.batch.ops⟩ : DBatch), b.entry.ts⟩ : DEntry))) rfl rfl rfl rfl (by decide) rfl (by decide) rfl (fun _ => fun _ _ => Ob_c TB_Refs2 rfl) ?_; clear hok a; intro a hok
  refine q_gob hok (c := (((((a0.k == b.k) && (a0.n == b.n)) && ((a0.at_ : Int) == (b.at_ : Int))) && (sameC (⟨a0.conf.epoch, a0.conf.members, a0.conf.floor⟩ : DConf) (⟨b.conf.epoch, b.conf.members, b.conf.floor⟩ : DConf))) && (sameBy eqD a0.legit b.legit)) && (sameE (⟨(⟨a0.entry.batch.client, a0.entry.batch.req, a0.entry.batch.ops⟩ : DBatch), a0.entry.ts⟩ : DEntry) (⟨(⟨b.entry.batch.client, b.entry.batch.req, b.entry.batch.ops⟩ : DBatch), b.entry.ts⟩ : DEntry))) (v := .agg #[.int .i64 b.pin.id, .int .u64 (b.pin.at_ : Int), .int .i64 b.pin.left]) rfl rfl rfl rfl (by decide) rfl (by decide) rfl (fun hg15 => ?_) ?_
  · replace hg15 := And.intro (And.intro (And.intro (And.intro (And.intro (eq_of_beq (andT1 (andT1 (andT1 (andT1 (andT1 hg15)))))) (eq_of_beq (andT2 (andT1 (andT1 (andT1 (andT1 hg15))))))) (eq_of_beq (andT2 (andT1 (andT1 (andT1 hg15)))))) ((andT2 (andT1 (andT1 hg15))))) ((andT2 (andT1 hg15)))) ((andT2 hg15))
    exact fun _ hw => Ob_loads TB_Refs2 (cs := [.int .i64 b.pin.id, .int .u64 (b.pin.at_ : Int), .int .i64 b.pin.left]) rfl rfl rfl ((X2.below hw).part 11 rfl)
  clear hok a; intro a hok
  refine q_gob hok (c := (((((a0.k == b.k) && (a0.n == b.n)) && ((a0.at_ : Int) == (b.at_ : Int))) && (sameC (⟨a0.conf.epoch, a0.conf.members, a0.conf.floor⟩ : DConf) (⟨b.conf.epoch, b.conf.members, b.conf.floor⟩ : DConf))) && (sameBy eqD a0.legit b.legit)) && (sameE (⟨(⟨a0.entry.batch.client, a0.entry.batch.req, a0.entry.batch.ops⟩ : DBatch), a0.entry.ts⟩ : DEntry) (⟨(⟨b.entry.batch.client, b.entry.batch.req, b.entry.batch.ops⟩ : DBatch), b.entry.ts⟩ : DEntry))) (v := .bool (decide ((⟨a0.pin.id, a0.pin.at_, a0.pin.left⟩ : DPin) = (⟨b.pin.id, b.pin.at_, b.pin.left⟩ : DPin)))) rfl rfl rfl rfl (by decide) rfl (by decide) rfl (fun hg16 => ?_) ?_
  · replace hg16 := And.intro (And.intro (And.intro (And.intro (And.intro (eq_of_beq (andT1 (andT1 (andT1 (andT1 (andT1 hg16)))))) (eq_of_beq (andT2 (andT1 (andT1 (andT1 (andT1 hg16))))))) (eq_of_beq (andT2 (andT1 (andT1 (andT1 hg16)))))) ((andT2 (andT1 (andT1 hg16))))) ((andT2 (andT1 hg16)))) ((andT2 hg16))
    exact fun _ hw => Ob_bin rfl rfl rfl (eqg_DPin _ _ _ _ _ _) (eql_DPin ((⟨a0.pin.id, a0.pin.at_, a0.pin.left⟩ : DPin)) ((⟨b.pin.id, b.pin.at_, b.pin.left⟩ : DPin)) _)
  clear hok a; intro a hok
  refine q_and hok (i := 40) rfl rfl rfl rfl rfl rfl rfl (by decide) rfl rfl ?_; clear hok a; intro a hok
  refine q_runk TB_Refs2 hok 1 rfl rfl ?_; clear hok a; intro a hok
  refine q_gob hok (c := ((((((a0.k == b.k) && (a0.n == b.n)) && ((a0.at_ : Int) == (b.at_ : Int))) && (sameC (⟨a0.conf.epoch, a0.conf.members, a0.conf.floor⟩ : DConf) (⟨b.conf.epoch, b.conf.members, b.conf.floor⟩ : DConf))) && (sameBy eqD a0.legit b.legit)) && (sameE (⟨(⟨a0.entry.batch.client, a0.entry.batch.req, a0.entry.batch.ops⟩ : DBatch), a0.entry.ts⟩ : DEntry) (⟨(⟨b.entry.batch.client, b.entry.batch.req, b.entry.batch.ops⟩ : DBatch), b.entry.ts⟩ : DEntry))) && (decide ((⟨a0.pin.id, a0.pin.at_, a0.pin.left⟩ : DPin) = (⟨b.pin.id, b.pin.at_, b.pin.left⟩ : DPin)))) rfl rfl rfl rfl (by decide) rfl (by decide) rfl (fun _ => fun _ _ => Ob_c TB_Refs2 rfl) ?_; clear hok a; intro a hok
  refine q_gob hok (c := ((((((a0.k == b.k) && (a0.n == b.n)) && ((a0.at_ : Int) == (b.at_ : Int))) && (sameC (⟨a0.conf.epoch, a0.conf.members, a0.conf.floor⟩ : DConf) (⟨b.conf.epoch, b.conf.members, b.conf.floor⟩ : DConf))) && (sameBy eqD a0.legit b.legit)) && (sameE (⟨(⟨a0.entry.batch.client, a0.entry.batch.req, a0.entry.batch.ops⟩ : DBatch), a0.entry.ts⟩ : DEntry) (⟨(⟨b.entry.batch.client, b.entry.batch.req, b.entry.batch.ops⟩ : DBatch), b.entry.ts⟩ : DEntry))) && (decide ((⟨a0.pin.id, a0.pin.at_, a0.pin.left⟩ : DPin) = (⟨b.pin.id, b.pin.at_, b.pin.left⟩ : DPin)))) (v := .agg #[.int .i64 a0.said.client, .int .i64 a0.said.req, .int .i64 a0.said.e, .int .i64 a0.said.pin]) rfl rfl rfl rfl (by decide) rfl (by decide) rfl (fun hg17 => ?_) ?_
  · replace hg17 := And.intro (And.intro (And.intro (And.intro (And.intro (And.intro (eq_of_beq (andT1 (andT1 (andT1 (andT1 (andT1 (andT1 hg17))))))) (eq_of_beq (andT2 (andT1 (andT1 (andT1 (andT1 (andT1 hg17)))))))) (eq_of_beq (andT2 (andT1 (andT1 (andT1 (andT1 hg17))))))) ((andT2 (andT1 (andT1 (andT1 hg17)))))) ((andT2 (andT1 (andT1 hg17))))) ((andT2 (andT1 hg17)))) (of_decide_eq_true (andT2 hg17))
    exact fun _ hw => Ob_loads TB_Refs2 (cs := [.int .i64 a0.said.client, .int .i64 a0.said.req, .int .i64 a0.said.e, .int .i64 a0.said.pin]) rfl rfl rfl ((X1.below hw).part 14 rfl)
  clear hok a; intro a hok
  refine q_gob hok (c := ((((((a0.k == b.k) && (a0.n == b.n)) && ((a0.at_ : Int) == (b.at_ : Int))) && (sameC (⟨a0.conf.epoch, a0.conf.members, a0.conf.floor⟩ : DConf) (⟨b.conf.epoch, b.conf.members, b.conf.floor⟩ : DConf))) && (sameBy eqD a0.legit b.legit)) && (sameE (⟨(⟨a0.entry.batch.client, a0.entry.batch.req, a0.entry.batch.ops⟩ : DBatch), a0.entry.ts⟩ : DEntry) (⟨(⟨b.entry.batch.client, b.entry.batch.req, b.entry.batch.ops⟩ : DBatch), b.entry.ts⟩ : DEntry))) && (decide ((⟨a0.pin.id, a0.pin.at_, a0.pin.left⟩ : DPin) = (⟨b.pin.id, b.pin.at_, b.pin.left⟩ : DPin)))) rfl rfl rfl rfl (by decide) rfl (by decide) rfl (fun _ => fun _ _ => Ob_c TB_Refs2 rfl) ?_; clear hok a; intro a hok
  refine q_gob hok (c := ((((((a0.k == b.k) && (a0.n == b.n)) && ((a0.at_ : Int) == (b.at_ : Int))) && (sameC (⟨a0.conf.epoch, a0.conf.members, a0.conf.floor⟩ : DConf) (⟨b.conf.epoch, b.conf.members, b.conf.floor⟩ : DConf))) && (sameBy eqD a0.legit b.legit)) && (sameE (⟨(⟨a0.entry.batch.client, a0.entry.batch.req, a0.entry.batch.ops⟩ : DBatch), a0.entry.ts⟩ : DEntry) (⟨(⟨b.entry.batch.client, b.entry.batch.req, b.entry.batch.ops⟩ : DBatch), b.entry.ts⟩ : DEntry))) && (decide ((⟨a0.pin.id, a0.pin.at_, a0.pin.left⟩ : DPin) = (⟨b.pin.id, b.pin.at_, b.pin.left⟩ : DPin)))) (v := .agg #[.int .i64 b.said.client, .int .i64 b.said.req, .int .i64 b.said.e, .int .i64 b.said.pin]) rfl rfl rfl rfl (by decide) rfl (by decide) rfl (fun hg18 => ?_) ?_
  · replace hg18 := And.intro (And.intro (And.intro (And.intro (And.intro (And.intro (eq_of_beq (andT1 (andT1 (andT1 (andT1 (andT1 (andT1 hg18))))))) (eq_of_beq (andT2 (andT1 (andT1 (andT1 (andT1 (andT1 hg18)))))))) (eq_of_beq (andT2 (andT1 (andT1 (andT1 (andT1 hg18))))))) ((andT2 (andT1 (andT1 (andT1 hg18)))))) ((andT2 (andT1 (andT1 hg18))))) ((andT2 (andT1 hg18)))) (of_decide_eq_true (andT2 hg18))
    exact fun _ hw => Ob_loads TB_Refs2 (cs := [.int .i64 b.said.client, .int .i64 b.said.req, .int .i64 b.said.e, .int .i64 b.said.pin]) rfl rfl rfl ((X2.below hw).part 14 rfl)
  clear hok a; intro a hok
  refine q_gob hok (c := ((((((a0.k == b.k) && (a0.n == b.n)) && ((a0.at_ : Int) == (b.at_ : Int))) && (sameC (⟨a0.conf.epoch, a0.conf.members, a0.conf.floor⟩ : DConf) (⟨b.conf.epoch, b.conf.members, b.conf.floor⟩ : DConf))) && (sameBy eqD a0.legit b.legit)) && (sameE (⟨(⟨a0.entry.batch.client, a0.entry.batch.req, a0.entry.batch.ops⟩ : DBatch), a0.entry.ts⟩ : DEntry) (⟨(⟨b.entry.batch.client, b.entry.batch.req, b.entry.batch.ops⟩ : DBatch), b.entry.ts⟩ : DEntry))) && (decide ((⟨a0.pin.id, a0.pin.at_, a0.pin.left⟩ : DPin) = (⟨b.pin.id, b.pin.at_, b.pin.left⟩ : DPin)))) (v := .bool (decide ((⟨a0.said.client, a0.said.req, a0.said.e, a0.said.pin⟩ : DAnswer) = (⟨b.said.client, b.said.req, b.said.e, b.said.pin⟩ : DAnswer)))) rfl rfl rfl rfl (by decide) rfl (by decide) rfl (fun hg19 => ?_) ?_
  · replace hg19 := And.intro (And.intro (And.intro (And.intro (And.intro (And.intro (eq_of_beq (andT1 (andT1 (andT1 (andT1 (andT1 (andT1 hg19))))))) (eq_of_beq (andT2 (andT1 (andT1 (andT1 (andT1 (andT1 hg19)))))))) (eq_of_beq (andT2 (andT1 (andT1 (andT1 (andT1 hg19))))))) ((andT2 (andT1 (andT1 (andT1 hg19)))))) ((andT2 (andT1 (andT1 hg19))))) ((andT2 (andT1 hg19)))) (of_decide_eq_true (andT2 hg19))
    exact fun _ hw => Ob_bin rfl rfl rfl (eqg_DAnswer _ _ _ _ _ _) (eql_DAnswer ((⟨a0.said.client, a0.said.req, a0.said.e, a0.said.pin⟩ : DAnswer)) ((⟨b.said.client, b.said.req, b.said.e, b.said.pin⟩ : DAnswer)) _)
  clear hok a; intro a hok
  refine q_and hok (i := 47) rfl rfl rfl rfl rfl rfl rfl (by decide) rfl rfl ?_; clear hok a; intro a hok
  refine q_runk TB_Refs2 hok 1 rfl rfl ?_; clear hok a; intro a hok
  refine q_end hok [0, 1, 2, 3, 4] rfl ?_; clear hok; intro w3 hb hok
  have hz_w3 : w2.heap.size ≤ w3.heap.size := hb.size
  replace B := B.blw hb
  replace L0_a0 := L0_a0.below hb
  replace L1_a0 := L1_a0.below hb
  replace L2_a0 := L2_a0.below hb
  replace L0_b := L0_b.below hb
  replace L1_b := L1_b.below hb
  replace L2_b := L2_b.below hb
  replace X1 := X1.below hb
  replace X2 := X2.below hb
  clear hb
  refine p_then ?_
  refine wp_ret ?_
  refine f_ret hok (run_results1 rfl hok rfl) ?_
  refine ⟨?_, B.toBelow⟩
  · clear hok B L0_a0 L1_a0 L2_a0 L0_b L1_b L2_b X1 X2 hc_v0_a0 hm_v0_a0 ha_P1 ho_P1 hc_v1_a0 hm_v1_a0 ha_P2 ho_P2 hc_v2_a0 hm_v2_a0 ha_P3 ho_P3 hc_v0_b hm_v0_b ha_P4 ho_P4 hc_v1_b hm_v1_b ha_P5 ho_P5 hc_v2_b hm_v2_b ha_P6 ho_P6 hb0_b1 hb1_b1 hge_b1 hz_w1 hb0_b2 hb1_b2 hge_b2 hlt_b1_b2 hz_w2 hz_w3
    simp only [beq_cast]; rfl

end Go.Proofs.Ytmdoimpeacndaaa
