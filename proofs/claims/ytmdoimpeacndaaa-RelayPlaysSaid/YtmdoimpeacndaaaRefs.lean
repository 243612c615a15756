/- The walks of the references that compare and check: operations, batches, configurations, entries. -/
import Derived.Test.YtmdoimpeacndaaaOps
import Derived.Test.YtmdoimpeacndaaaEq
import Derived.Test.YtmdoimpeacndaaaItem1
namespace Go.Proofs.Ytmdoimpeacndaaa
open Go.RowKit

def TB_RefsL : TabL := ⟨[(33792, 0), (33793, 1), (33794, 2), (58368, 0), (58369, 3)], [], [], [(22, (57, 4)), (31, (116, 3)), (34, (24, 1)), (35, (104, 2)), (76, (3, 1))], [(3, (1, false)), (24, (1, false)), (31, (1, false)), (33, (3, true)), (57, (4, true)), (104, (2, true)), (116, (3, true))]⟩

def TB_Refs : Tab Try.prog := ⟨TB_RefsL, by kernel_rfl⟩

theorem fn_41_Refs : IsFn Try.prog 41 := ⟨_, Try.func41, by kernel_rfl, by kernel_rfl⟩

theorem fn_59_Refs : IsFn Try.prog 59 := ⟨_, Try.func59, by kernel_rfl, by kernel_rfl⟩

theorem fn_60_Refs : IsFn Try.prog 60 := ⟨_, Try.func60, by kernel_rfl, by kernel_rfl⟩

/-- two lists, place by place -/
def sameBy {α : Type} (p : α → α → Bool) : List α → List α → Bool
  | [], [] => true
  | x :: l, y :: m => p x y && sameBy p l m
  | _, _ => false

theorem sameBy_len {α : Type} {p : α → α → Bool} : ∀ {l m : List α}, l.length ≠ m.length → sameBy p l m = false
  | [], [], h => absurd rfl h
  | [], _ :: _, _ => rfl
  | _ :: _, [], _ => rfl
  | x :: l, y :: m, h => by simp only [sameBy, sameBy_len (l := l) (m := m) (by simpa using h), Bool.and_false]

theorem sameBy_step {α : Type} [Inhabited α] (p : α → α → Bool) (l m : List α) (k : Nat) (h1 : k < l.length) (h2 : k < m.length) : sameBy p (l.drop k) (m.drop k) = (p (l.getD k default) (m.getD k default) && sameBy p (l.drop (k + 1)) (m.drop (k + 1))) := by
  rw [drop_getD l k h1, drop_getD m k h2]; rfl

theorem sameBy_end {α : Type} (p : α → α → Bool) (l m : List α) (k : Nat) (h1 : l.length ≤ k) (h2 : m.length ≤ k) : sameBy p (l.drop k) (m.drop k) = true := by
  rw [List.drop_eq_nil_of_le h1, List.drop_eq_nil_of_le h2]; rfl

def eqD {α : Type} [DecidableEq α] (x y : α) : Bool := decide (x = y)

theorem beq_nat (a b : Nat) : (((a : Int) == (b : Int)) : Bool) = decide (a = b) := by rw [Bool.eq_iff_iff]; simp <;> omega

theorem beq_int (a b : Int) : (a == b) = decide (a = b) := by rw [Bool.eq_iff_iff]; simp <;> omega

set_option maxHeartbeats 1000000 in
theorem c_ref06_SameOps {A0 : Nat → Prop} {A1 : Nat → Prop} (v_a0 : Value) (a0 : List DOp) (v_b : Value) (b : List DOp) (w : World) (L_a0 : slRep RDOp A0 w v_a0 a0) (L_b : slRep RDOp A1 w v_b b) :
    Calls Try.prog 59 #[v_a0, v_b] w (Ret fun r w' => r = .bool (sameBy eqD a0 b) ∧ Below w.heap.size w w') := by
  have B : Bt [] w w := Bt.refl _ _
  obtain ⟨ao_v_a0, cap_v_a0, rfl, hc_v_a0, hm_v_a0⟩ := L_a0.shape
  unfold maxLen at hm_v_a0
  obtain ⟨P1, ha_P1, ho_P1, L_a0⟩ : ∃ X : Nat → Prop, (∀ k, X k → k < w.heap.size) ∧ (∀ k, X k → A0 k ∨ A1 k ∨ w.heap.size ≤ k) ∧ slRep RDOp X w (.slice ao_v_a0 a0.length cap_v_a0) a0 := ⟨_, fun k h => h.2, fun k h => .inl h.1, L_a0.bound⟩
  obtain ⟨ao_v_b, cap_v_b, rfl, hc_v_b, hm_v_b⟩ := L_b.shape
  unfold maxLen at hm_v_b
  obtain ⟨P2, ha_P2, ho_P2, L_b⟩ : ∃ X : Nat → Prop, (∀ k, X k → k < w.heap.size) ∧ (∀ k, X k → A0 k ∨ A1 k ∨ w.heap.size ≤ k) ∧ slRep RDOp X w (.slice ao_v_b b.length cap_v_b) b := ⟨_, fun k h => h.2, fun k h => .inr (.inl h.1), L_b.bound⟩
  refine f_enter 32 Try.func59 rfl rfl (Nat.le_of_ble_eq_true rfl) fun a hok => ?_
  replace hok := hok.sub (ts := [0, 1]) rfl
  refine wp_seq ?_
  refine f_region hok ?_; clear hok; intro hok
  refine s_runk TB_Refs hok 1 rfl rfl ?_; clear hok a; intro a hok
  refine s_end hok [0, 1, 4] rfl ?_; clear hok; intro hok
  refine p_then ?_
  refine wp_seq ?_
  refine wp_seq ?_
  refine f_region hok ?_; clear hok; intro hok
  refine s_runk TB_Refs hok 5 rfl rfl ?_; clear hok a; intro a hok
  refine s_end hok [0, 1, 4, 10] rfl ?_; clear hok; intro hok
  refine p_then ?_
  refine f_cond hok rfl (fun hc1 => ?_) (fun hc1 => ?_)
  · replace hc1 := bne_iff_ne.1 hc1
    refine wp_seq ?_
    refine f_region hok ?_; clear hok; intro hok
    refine s_runk TB_Refs hok 1 rfl rfl ?_; clear hok a; intro a hok
    refine s_end hok [0, 1, 4, 10] rfl ?_; clear hok; intro hok
    refine p_then ?_
    refine wp_ret ?_
    refine p_then_r ?_
    refine f_ret hok (run_results1 rfl hok rfl) ?_
    refine ⟨?_, B.toBelow⟩
    · clear hok B L_a0 L_b hc_v_a0 hm_v_a0 ha_P1 ho_P1 hc_v_b hm_v_b ha_P2 ho_P2
      rw [sameBy_len (by omega)]
  · replace hc1 := bne_eq_false_iff_eq.1 hc1
    refine wp_skip ?_
    refine p_then ?_
    refine wp_seq ?_
    refine wp_seq ?_
    refine f_region hok ?_; clear hok; intro hok
    refine s_runk TB_Refs hok 1 rfl rfl ?_; clear hok a; intro a hok
    refine s_end hok [0, 1, 4, 10, 5] rfl ?_; clear hok; intro hok
    refine p_then ?_
    refine wp_block ?_
    refine f_loop (σ := Nat) (fun k a w' => Sl 32 [(0, .slice ao_v_a0 a0.length cap_v_a0), (1, .slice ao_v_b b.length cap_v_b), (10, .bool ((a0.length : Int) != (b.length : Int))), (5, .int .i64 (k : Int))] a ∧ (k ≤ a0.length ∧ a0.length = b.length) ∧ (sameBy eqD a0 b = sameBy eqD (a0.drop k) (b.drop k)) ∧ Bt [] w w' ∧ slRep RDOp P1 w' (.slice ao_v_a0 a0.length cap_v_a0) a0 ∧ slRep RDOp P2 w' (.slice ao_v_b b.length cap_v_b) b) (fun k => a0.length - k) 0 ⟨hok.sub (ts := [0, 1, 10, 5]) rfl, by omega, by rfl, B, L_a0, L_b⟩ ?_
    clear hok B L_a0 L_b
    rintro k a w1 ⟨hok, hinv0_0, hinv0_1, B, L_a0, L_b⟩
    refine wp_seq ?_
    refine wp_seq ?_
    refine f_region hok ?_; clear hok; intro hok
    refine s_runk TB_Refs hok 5 rfl rfl ?_; clear hok a; intro a hok
    refine s_gob hok (c := decide ((k : Int) < (a0.length : Int))) rfl rfl rfl rfl (by decide) rfl (by decide) rfl (fun _ => Ob_c TB_Refs rfl) ?_; clear hok a; intro a hok
    refine s_gob hok (c := decide ((k : Int) < (a0.length : Int))) rfl rfl rfl rfl (by decide) rfl (by decide) rfl (fun _ => Ob_c TB_Refs rfl) ?_; clear hok a; intro a hok
    refine s_gob hok (c := decide ((k : Int) < (a0.length : Int))) rfl rfl rfl rfl (by decide) rfl (by decide) rfl (fun _ => Ob_c TB_Refs rfl) ?_; clear hok a; intro a hok
    refine s_gob hok (c := decide ((k : Int) < (a0.length : Int))) rfl rfl rfl rfl (by decide) rfl (by decide) rfl (fun _ => Ob_c TB_Refs rfl) ?_; clear hok a; intro a hok
    refine s_and hok (i := 4) rfl rfl rfl rfl rfl rfl rfl (by decide) rfl rfl ?_; clear hok a; intro a hok
    refine s_end hok [0, 1, 10, 5, 20] rfl ?_; clear hok; intro hok
    refine p_then ?_
    refine f_cond hok rfl (fun hc2 => ?_) (fun hc2 => ?_)
    · replace hc2 := And.intro (of_decide_eq_true (andT1 hc2)) (of_decide_eq_true (andT2 hc2))
      refine wp_skip ?_
      refine p_then ?_
      refine wp_seq ?_
      refine wp_block ?_
      refine wp_seq ?_
      refine f_quietd (by kernel_rfl) (by kernel_rfl) hok ?_; clear hok; intro hok
      refine q_runk TB_Refs hok 2 rfl rfl ?_; clear hok a; intro a hok
      have hi1 : k < a0.length := by omega
      have he1 := elt L_a0 (k) (slRep.lt L_a0 hi1)
      refine q_ob hok (v := .pointer (some ⟨bOf ao_v_a0, oOf ao_v_a0 + k * 3, none⟩)) rfl rfl (by decide) rfl (fun _ hw => Ob_idx TB_Refs (k) rfl rfl he1.1 rfl rfl rfl hi1) ?_; clear hok a; intro a hok
      obtain ⟨_, _, _, ⟨rfl, hok_e1⟩, hat1⟩ := id he1
      refine q_ob hok (v := .agg #[.string ((a0.getD k default).key), .string ((a0.getD k default).val), .bool ((a0.getD k default).del)]) rfl rfl (by decide) rfl (fun _ hw => Ob_loads TB_Refs rfl rfl rfl (hat1.below hw he1.2.1.2)) ?_; clear hok a; intro a hok
      refine q_runk TB_Refs hok 2 rfl rfl ?_; clear hok a; intro a hok
      have hi2 : k < b.length := by omega
      have he2 := elt L_b (k) (slRep.lt L_b hi2)
      refine q_ob hok (v := .pointer (some ⟨bOf ao_v_b, oOf ao_v_b + k * 3, none⟩)) rfl rfl (by decide) rfl (fun _ hw => Ob_idx TB_Refs (k) rfl rfl he2.1 rfl rfl rfl hi2) ?_; clear hok a; intro a hok
      obtain ⟨_, _, _, ⟨rfl, hok_e2⟩, hat2⟩ := id he2
      refine q_ob hok (v := .agg #[.string ((b.getD k default).key), .string ((b.getD k default).val), .bool ((b.getD k default).del)]) rfl rfl (by decide) rfl (fun _ hw => Ob_loads TB_Refs rfl rfl rfl (hat2.below hw he2.2.1.2)) ?_; clear hok a; intro a hok
      refine q_ob hok (v := .bool (!decide ((a0.getD k default) = (b.getD k default)))) rfl rfl (by decide) rfl (fun _ hw => Ob_bin rfl rfl rfl (eqg_DOp _ _ _ _ _ _) (neq_DOp ((a0.getD k default)) ((b.getD k default)) _)) ?_; clear hok a; intro a hok
      refine q_end hok [0, 1, 10, 5, 20, 31] rfl ?_; clear hok; intro w2 hb hok
      have hz_w2 : w1.heap.size ≤ w2.heap.size := hb.size
      replace B := B.blw hb
      replace L_a0 := L_a0.below hb
      replace L_b := L_b.below hb
      clear hb
      refine p_then ?_
      refine f_cond hok rfl (fun hc3 => ?_) (fun hc3 => ?_)
      · replace hc3 := of_decide_eq_false (notT hc3)
        refine wp_seq ?_
        refine f_region hok ?_; clear hok; intro hok
        refine s_runk TB_Refs hok 1 rfl rfl ?_; clear hok a; intro a hok
        refine s_end hok [0, 1, 10, 5, 20, 31, 4] rfl ?_; clear hok; intro hok
        refine p_then ?_
        refine wp_ret ?_
        refine p_blk_r ?_
        refine p_then_r ?_
        refine p_then_r ?_
        refine p_blk_r ?_
        refine p_then_r ?_
        refine f_ret hok (run_results1 rfl hok rfl) ?_
        refine ⟨?_, B.toBelow⟩
        · clear hok B L_a0 L_b hc_v_a0 hm_v_a0 ha_P1 ho_P1 hc_v_b hm_v_b ha_P2 ho_P2 he1 hat1 he2 hat2 hz_w2
          have hp : eqD (a0.getD k default) (b.getD k default) = false := (by first | exact decide_eq_false hc3 | exact decide_eq_false (by omega) | exact hc3); rw [hinv0_1, sameBy_step _ _ _ k (by omega) (by omega), hp, Bool.false_and]
      · replace hc3 := of_decide_eq_true (notF hc3)
        refine wp_skip ?_
        refine p_blk ?_
        refine p_then ?_
        refine f_region hok ?_; clear hok; intro hok
        refine s_runk TB_Refs hok 1 rfl rfl ?_; clear hok a; intro a hok
        refine s_ob hok (v := .int .i64 ((k : Int) + 1)) rfl rfl (by decide) rfl (Ob_add rfl rfl rfl (IntWalk.i64_in _ (by omega))) ?_; clear hok a; intro a hok
        refine s_runk TB_Refs hok 1 rfl rfl ?_; clear hok a; intro a hok
        refine s_end hok [0, 1, 10, 5, 20, 31] rfl ?_; clear hok; intro hok
        refine p_then ?_
        refine ⟨k + 1, ⟨hok.sub (ts := [0, 1, 10, 5]) rfl, ?_, ?_, B, L_a0, L_b⟩, by omega⟩
        · clear hok B L_a0 L_b hc_v_a0 hm_v_a0 ha_P1 ho_P1 hc_v_b hm_v_b ha_P2 ho_P2 he1 hat1 he2 hat2 hz_w2
          omega
        · clear hok B L_a0 L_b hc_v_a0 hm_v_a0 ha_P1 ho_P1 hc_v_b hm_v_b ha_P2 ho_P2 he1 hat1 he2 hat2 hz_w2
          have hp : eqD (a0.getD k default) (b.getD k default) = true := (by first | exact decide_eq_true hc3 | exact decide_eq_true (by omega) | exact hc3); rw [hinv0_1, sameBy_step _ _ _ k (by omega) (by omega), hp, Bool.true_and]
    · replace hc2 := andF hc2 (fun h => of_decide_eq_false h) (fun h => of_decide_eq_false h)
      refine wp_exit ?_
      refine p_then_x ?_
      refine p_then_x ?_
      refine f_exit_here ?_
      refine p_then ?_
      refine wp_seq ?_
      refine f_region hok ?_; clear hok; intro hok
      refine s_runk TB_Refs hok 1 rfl rfl ?_; clear hok a; intro a hok
      refine s_end hok [0, 1, 10, 5, 20, 4] rfl ?_; clear hok; intro hok
      refine p_then ?_
      refine wp_ret ?_
      refine f_ret hok (run_results1 rfl hok rfl) ?_
      refine ⟨?_, B.toBelow⟩
      · clear hok B L_a0 L_b hc_v_a0 hm_v_a0 ha_P1 ho_P1 hc_v_b hm_v_b ha_P2 ho_P2
        rw [hinv0_1, sameBy_end _ _ _ k (by omega) (by omega)]

set_option maxHeartbeats 1000000 in
theorem c_ref06_SamePairs {A0 : Nat → Prop} {A1 : Nat → Prop} (v_a0 : Value) (a0 : List DPair) (v_b : Value) (b : List DPair) (w : World) (L_a0 : slRep RDPair A0 w v_a0 a0) (L_b : slRep RDPair A1 w v_b b) :
    Calls Try.prog 44 #[v_a0, v_b] w (Ret fun r w' => r = .bool (sameBy eqD a0 b) ∧ Below w.heap.size w w') := by
  have B : Bt [] w w := Bt.refl _ _
  obtain ⟨ao_v_a0, cap_v_a0, rfl, hc_v_a0, hm_v_a0⟩ := L_a0.shape
  unfold maxLen at hm_v_a0
  obtain ⟨P1, ha_P1, ho_P1, L_a0⟩ : ∃ X : Nat → Prop, (∀ k, X k → k < w.heap.size) ∧ (∀ k, X k → A0 k ∨ A1 k ∨ w.heap.size ≤ k) ∧ slRep RDPair X w (.slice ao_v_a0 a0.length cap_v_a0) a0 := ⟨_, fun k h => h.2, fun k h => .inl h.1, L_a0.bound⟩
  obtain ⟨ao_v_b, cap_v_b, rfl, hc_v_b, hm_v_b⟩ := L_b.shape
  unfold maxLen at hm_v_b
  obtain ⟨P2, ha_P2, ho_P2, L_b⟩ : ∃ X : Nat → Prop, (∀ k, X k → k < w.heap.size) ∧ (∀ k, X k → A0 k ∨ A1 k ∨ w.heap.size ≤ k) ∧ slRep RDPair X w (.slice ao_v_b b.length cap_v_b) b := ⟨_, fun k h => h.2, fun k h => .inr (.inl h.1), L_b.bound⟩
  refine f_enter 32 Try.func44 rfl rfl (Nat.le_of_ble_eq_true rfl) fun a hok => ?_
  replace hok := hok.sub (ts := [0, 1]) rfl
  refine wp_seq ?_
  refine f_region hok ?_; clear hok; intro hok
  refine s_runk TB_Refs hok 1 rfl rfl ?_; clear hok a; intro a hok
  refine s_end hok [0, 1, 4] rfl ?_; clear hok; intro hok
  refine p_then ?_
  refine wp_seq ?_
  refine wp_seq ?_
  refine f_region hok ?_; clear hok; intro hok
  refine s_runk TB_Refs hok 5 rfl rfl ?_; clear hok a; intro a hok
  refine s_end hok [0, 1, 4, 10] rfl ?_; clear hok; intro hok
  refine p_then ?_
  refine f_cond hok rfl (fun hc1 => ?_) (fun hc1 => ?_)
  · replace hc1 := bne_iff_ne.1 hc1
    refine wp_seq ?_
    refine f_region hok ?_; clear hok; intro hok
    refine s_runk TB_Refs hok 1 rfl rfl ?_; clear hok a; intro a hok
    refine s_end hok [0, 1, 4, 10] rfl ?_; clear hok; intro hok
    refine p_then ?_
    refine wp_ret ?_
    refine p_then_r ?_
    refine f_ret hok (run_results1 rfl hok rfl) ?_
    refine ⟨?_, B.toBelow⟩
    · clear hok B L_a0 L_b hc_v_a0 hm_v_a0 ha_P1 ho_P1 hc_v_b hm_v_b ha_P2 ho_P2
      rw [sameBy_len (by omega)]
  · replace hc1 := bne_eq_false_iff_eq.1 hc1
    refine wp_skip ?_
    refine p_then ?_
    refine wp_seq ?_
    refine wp_seq ?_
    refine f_region hok ?_; clear hok; intro hok
    refine s_runk TB_Refs hok 1 rfl rfl ?_; clear hok a; intro a hok
    refine s_end hok [0, 1, 4, 10, 5] rfl ?_; clear hok; intro hok
    refine p_then ?_
    refine wp_block ?_
    refine f_loop (σ := Nat) (fun k a w' => Sl 32 [(0, .slice ao_v_a0 a0.length cap_v_a0), (1, .slice ao_v_b b.length cap_v_b), (10, .bool ((a0.length : Int) != (b.length : Int))), (5, .int .i64 (k : Int))] a ∧ (k ≤ a0.length ∧ a0.length = b.length) ∧ (sameBy eqD a0 b = sameBy eqD (a0.drop k) (b.drop k)) ∧ Bt [] w w' ∧ slRep RDPair P1 w' (.slice ao_v_a0 a0.length cap_v_a0) a0 ∧ slRep RDPair P2 w' (.slice ao_v_b b.length cap_v_b) b) (fun k => a0.length - k) 0 ⟨hok.sub (ts := [0, 1, 10, 5]) rfl, by omega, by rfl, B, L_a0, L_b⟩ ?_
    clear hok B L_a0 L_b
    rintro k a w1 ⟨hok, hinv0_0, hinv0_1, B, L_a0, L_b⟩
    refine wp_seq ?_
    refine wp_seq ?_
    refine f_region hok ?_; clear hok; intro hok
    refine s_runk TB_Refs hok 5 rfl rfl ?_; clear hok a; intro a hok
    refine s_gob hok (c := decide ((k : Int) < (a0.length : Int))) rfl rfl rfl rfl (by decide) rfl (by decide) rfl (fun _ => Ob_c TB_Refs rfl) ?_; clear hok a; intro a hok
    refine s_gob hok (c := decide ((k : Int) < (a0.length : Int))) rfl rfl rfl rfl (by decide) rfl (by decide) rfl (fun _ => Ob_c TB_Refs rfl) ?_; clear hok a; intro a hok
    refine s_gob hok (c := decide ((k : Int) < (a0.length : Int))) rfl rfl rfl rfl (by decide) rfl (by decide) rfl (fun _ => Ob_c TB_Refs rfl) ?_; clear hok a; intro a hok
    refine s_gob hok (c := decide ((k : Int) < (a0.length : Int))) rfl rfl rfl rfl (by decide) rfl (by decide) rfl (fun _ => Ob_c TB_Refs rfl) ?_; clear hok a; intro a hok
    refine s_and hok (i := 4) rfl rfl rfl rfl rfl rfl rfl (by decide) rfl rfl ?_; clear hok a; intro a hok
    refine s_end hok [0, 1, 10, 5, 20] rfl ?_; clear hok; intro hok
    refine p_then ?_
    refine f_cond hok rfl (fun hc2 => ?_) (fun hc2 => ?_)
    · replace hc2 := And.intro (of_decide_eq_true (andT1 hc2)) (of_decide_eq_true (andT2 hc2))
      refine wp_skip ?_
      refine p_then ?_
      refine wp_seq ?_
      refine wp_block ?_
      refine wp_seq ?_
      refine f_quietd (by kernel_rfl) (by kernel_rfl) hok ?_; clear hok; intro hok
      refine q_runk TB_Refs hok 2 rfl rfl ?_; clear hok a; intro a hok
      have hi1 : k < a0.length := by omega
      have he1 := elt L_a0 (k) (slRep.lt L_a0 hi1)
      refine q_ob hok (v := .pointer (some ⟨bOf ao_v_a0, oOf ao_v_a0 + k * 2, none⟩)) rfl rfl (by decide) rfl (fun _ hw => Ob_idx TB_Refs (k) rfl rfl he1.1 rfl rfl rfl hi1) ?_; clear hok a; intro a hok
      obtain ⟨_, _, _, ⟨rfl, hok_e1⟩, hat1⟩ := id he1
      refine q_ob hok (v := .agg #[.string ((a0.getD k default).key), .string ((a0.getD k default).val)]) rfl rfl (by decide) rfl (fun _ hw => Ob_loads TB_Refs rfl rfl rfl (hat1.below hw he1.2.1.2)) ?_; clear hok a; intro a hok
      refine q_runk TB_Refs hok 2 rfl rfl ?_; clear hok a; intro a hok
      have hi2 : k < b.length := by omega
      have he2 := elt L_b (k) (slRep.lt L_b hi2)
      refine q_ob hok (v := .pointer (some ⟨bOf ao_v_b, oOf ao_v_b + k * 2, none⟩)) rfl rfl (by decide) rfl (fun _ hw => Ob_idx TB_Refs (k) rfl rfl he2.1 rfl rfl rfl hi2) ?_; clear hok a; intro a hok
      obtain ⟨_, _, _, ⟨rfl, hok_e2⟩, hat2⟩ := id he2
      refine q_ob hok (v := .agg #[.string ((b.getD k default).key), .string ((b.getD k default).val)]) rfl rfl (by decide) rfl (fun _ hw => Ob_loads TB_Refs rfl rfl rfl (hat2.below hw he2.2.1.2)) ?_; clear hok a; intro a hok
      refine q_ob hok (v := .bool (!decide ((a0.getD k default) = (b.getD k default)))) rfl rfl (by decide) rfl (fun _ hw => Ob_bin rfl rfl rfl (eqg_DPair _ _ _ _ _ _) (neq_DPair ((a0.getD k default)) ((b.getD k default)) _)) ?_; clear hok a; intro a hok
      refine q_end hok [0, 1, 10, 5, 20, 31] rfl ?_; clear hok; intro w2 hb hok
      have hz_w2 : w1.heap.size ≤ w2.heap.size := hb.size
      replace B := B.blw hb
      replace L_a0 := L_a0.below hb
      replace L_b := L_b.below hb
      clear hb
      refine p_then ?_
      refine f_cond hok rfl (fun hc3 => ?_) (fun hc3 => ?_)
      · replace hc3 := of_decide_eq_false (notT hc3)
        refine wp_seq ?_
        refine f_region hok ?_; clear hok; intro hok
        refine s_runk TB_Refs hok 1 rfl rfl ?_; clear hok a; intro a hok
        refine s_end hok [0, 1, 10, 5, 20, 31, 4] rfl ?_; clear hok; intro hok
        refine p_then ?_
        refine wp_ret ?_
        refine p_blk_r ?_
        refine p_then_r ?_
        refine p_then_r ?_
        refine p_blk_r ?_
        refine p_then_r ?_
        refine f_ret hok (run_results1 rfl hok rfl) ?_
        refine ⟨?_, B.toBelow⟩
        · clear hok B L_a0 L_b hc_v_a0 hm_v_a0 ha_P1 ho_P1 hc_v_b hm_v_b ha_P2 ho_P2 he1 hat1 he2 hat2 hz_w2
          have hp : eqD (a0.getD k default) (b.getD k default) = false := (by first | exact decide_eq_false hc3 | exact decide_eq_false (by omega) | exact hc3); rw [hinv0_1, sameBy_step _ _ _ k (by omega) (by omega), hp, Bool.false_and]
      · replace hc3 := of_decide_eq_true (notF hc3)
        refine wp_skip ?_
        refine p_blk ?_
        refine p_then ?_
        refine f_region hok ?_; clear hok; intro hok
        refine s_runk TB_Refs hok 1 rfl rfl ?_; clear hok a; intro a hok
        refine s_ob hok (v := .int .i64 ((k : Int) + 1)) rfl rfl (by decide) rfl (Ob_add rfl rfl rfl (IntWalk.i64_in _ (by omega))) ?_; clear hok a; intro a hok
        refine s_runk TB_Refs hok 1 rfl rfl ?_; clear hok a; intro a hok
        refine s_end hok [0, 1, 10, 5, 20, 31] rfl ?_; clear hok; intro hok
        refine p_then ?_
        refine ⟨k + 1, ⟨hok.sub (ts := [0, 1, 10, 5]) rfl, ?_, ?_, B, L_a0, L_b⟩, by omega⟩
        · clear hok B L_a0 L_b hc_v_a0 hm_v_a0 ha_P1 ho_P1 hc_v_b hm_v_b ha_P2 ho_P2 he1 hat1 he2 hat2 hz_w2
          omega
        · clear hok B L_a0 L_b hc_v_a0 hm_v_a0 ha_P1 ho_P1 hc_v_b hm_v_b ha_P2 ho_P2 he1 hat1 he2 hat2 hz_w2
          have hp : eqD (a0.getD k default) (b.getD k default) = true := (by first | exact decide_eq_true hc3 | exact decide_eq_true (by omega) | exact hc3); rw [hinv0_1, sameBy_step _ _ _ k (by omega) (by omega), hp, Bool.true_and]
    · replace hc2 := andF hc2 (fun h => of_decide_eq_false h) (fun h => of_decide_eq_false h)
      refine wp_exit ?_
      refine p_then_x ?_
      refine p_then_x ?_
      refine f_exit_here ?_
      refine p_then ?_
      refine wp_seq ?_
      refine f_region hok ?_; clear hok; intro hok
      refine s_runk TB_Refs hok 1 rfl rfl ?_; clear hok a; intro a hok
      refine s_end hok [0, 1, 10, 5, 20, 4] rfl ?_; clear hok; intro hok
      refine p_then ?_
      refine wp_ret ?_
      refine f_ret hok (run_results1 rfl hok rfl) ?_
      refine ⟨?_, B.toBelow⟩
      · clear hok B L_a0 L_b hc_v_a0 hm_v_a0 ha_P1 ho_P1 hc_v_b hm_v_b ha_P2 ho_P2
        rw [hinv0_1, sameBy_end _ _ _ k (by omega) (by omega)]

set_option maxHeartbeats 1000000 in
theorem c_ref09_sameStamps {A0 : Nat → Prop} {A1 : Nat → Prop} (v_a0 : Value) (a0 : List Nat) (v_b : Value) (b : List Nat) (w : World) (L_a0 : slRep RU A0 w v_a0 a0) (L_b : slRep RU A1 w v_b b) :
    Calls Try.prog 43 #[v_a0, v_b] w (Ret fun r w' => r = .bool (sameBy eqD a0 b) ∧ Below w.heap.size w w') := by
  have B : Bt [] w w := Bt.refl _ _
  obtain ⟨ao_v_a0, cap_v_a0, rfl, hc_v_a0, hm_v_a0⟩ := L_a0.shape
  unfold maxLen at hm_v_a0
  obtain ⟨P1, ha_P1, ho_P1, L_a0⟩ : ∃ X : Nat → Prop, (∀ k, X k → k < w.heap.size) ∧ (∀ k, X k → A0 k ∨ A1 k ∨ w.heap.size ≤ k) ∧ slRep RU X w (.slice ao_v_a0 a0.length cap_v_a0) a0 := ⟨_, fun k h => h.2, fun k h => .inl h.1, L_a0.bound⟩
  obtain ⟨ao_v_b, cap_v_b, rfl, hc_v_b, hm_v_b⟩ := L_b.shape
  unfold maxLen at hm_v_b
  obtain ⟨P2, ha_P2, ho_P2, L_b⟩ : ∃ X : Nat → Prop, (∀ k, X k → k < w.heap.size) ∧ (∀ k, X k → A0 k ∨ A1 k ∨ w.heap.size ≤ k) ∧ slRep RU X w (.slice ao_v_b b.length cap_v_b) b := ⟨_, fun k h => h.2, fun k h => .inr (.inl h.1), L_b.bound⟩
  refine f_enter 32 Try.func43 rfl rfl (Nat.le_of_ble_eq_true rfl) fun a hok => ?_
  replace hok := hok.sub (ts := [0, 1]) rfl
  refine wp_seq ?_
  refine f_region hok ?_; clear hok; intro hok
  refine s_runk TB_Refs hok 1 rfl rfl ?_; clear hok a; intro a hok
  refine s_end hok [0, 1, 4] rfl ?_; clear hok; intro hok
  refine p_then ?_
  refine wp_seq ?_
  refine wp_seq ?_
  refine f_region hok ?_; clear hok; intro hok
  refine s_runk TB_Refs hok 5 rfl rfl ?_; clear hok a; intro a hok
  refine s_end hok [0, 1, 4, 10] rfl ?_; clear hok; intro hok
  refine p_then ?_
  refine f_cond hok rfl (fun hc1 => ?_) (fun hc1 => ?_)
  · replace hc1 := bne_iff_ne.1 hc1
    refine wp_seq ?_
    refine f_region hok ?_; clear hok; intro hok
    refine s_runk TB_Refs hok 1 rfl rfl ?_; clear hok a; intro a hok
    refine s_end hok [0, 1, 4, 10] rfl ?_; clear hok; intro hok
    refine p_then ?_
    refine wp_ret ?_
    refine p_then_r ?_
    refine f_ret hok (run_results1 rfl hok rfl) ?_
    refine ⟨?_, B.toBelow⟩
    · clear hok B L_a0 L_b hc_v_a0 hm_v_a0 ha_P1 ho_P1 hc_v_b hm_v_b ha_P2 ho_P2
      rw [sameBy_len (by omega)]
  · replace hc1 := bne_eq_false_iff_eq.1 hc1
    refine wp_skip ?_
    refine p_then ?_
    refine wp_seq ?_
    refine wp_seq ?_
    refine f_region hok ?_; clear hok; intro hok
    refine s_runk TB_Refs hok 1 rfl rfl ?_; clear hok a; intro a hok
    refine s_end hok [0, 1, 4, 10, 5] rfl ?_; clear hok; intro hok
    refine p_then ?_
    refine wp_block ?_
    refine f_loop (σ := Nat) (fun k a w' => Sl 32 [(0, .slice ao_v_a0 a0.length cap_v_a0), (1, .slice ao_v_b b.length cap_v_b), (10, .bool ((a0.length : Int) != (b.length : Int))), (5, .int .i64 (k : Int))] a ∧ (k ≤ a0.length ∧ a0.length = b.length) ∧ (sameBy eqD a0 b = sameBy eqD (a0.drop k) (b.drop k)) ∧ Bt [] w w' ∧ slRep RU P1 w' (.slice ao_v_a0 a0.length cap_v_a0) a0 ∧ slRep RU P2 w' (.slice ao_v_b b.length cap_v_b) b) (fun k => a0.length - k) 0 ⟨hok.sub (ts := [0, 1, 10, 5]) rfl, by omega, by rfl, B, L_a0, L_b⟩ ?_
    clear hok B L_a0 L_b
    rintro k a w1 ⟨hok, hinv0_0, hinv0_1, B, L_a0, L_b⟩
    refine wp_seq ?_
    refine wp_seq ?_
    refine f_region hok ?_; clear hok; intro hok
    refine s_runk TB_Refs hok 5 rfl rfl ?_; clear hok a; intro a hok
    refine s_gob hok (c := decide ((k : Int) < (a0.length : Int))) rfl rfl rfl rfl (by decide) rfl (by decide) rfl (fun _ => Ob_c TB_Refs rfl) ?_; clear hok a; intro a hok
    refine s_gob hok (c := decide ((k : Int) < (a0.length : Int))) rfl rfl rfl rfl (by decide) rfl (by decide) rfl (fun _ => Ob_c TB_Refs rfl) ?_; clear hok a; intro a hok
    refine s_gob hok (c := decide ((k : Int) < (a0.length : Int))) rfl rfl rfl rfl (by decide) rfl (by decide) rfl (fun _ => Ob_c TB_Refs rfl) ?_; clear hok a; intro a hok
    refine s_gob hok (c := decide ((k : Int) < (a0.length : Int))) rfl rfl rfl rfl (by decide) rfl (by decide) rfl (fun _ => Ob_c TB_Refs rfl) ?_; clear hok a; intro a hok
    refine s_and hok (i := 4) rfl rfl rfl rfl rfl rfl rfl (by decide) rfl rfl ?_; clear hok a; intro a hok
    refine s_end hok [0, 1, 10, 5, 20] rfl ?_; clear hok; intro hok
    refine p_then ?_
    refine f_cond hok rfl (fun hc2 => ?_) (fun hc2 => ?_)
    · replace hc2 := And.intro (of_decide_eq_true (andT1 hc2)) (of_decide_eq_true (andT2 hc2))
      refine wp_skip ?_
      refine p_then ?_
      refine wp_seq ?_
      refine wp_block ?_
      refine wp_seq ?_
      refine f_quietd (by kernel_rfl) (by kernel_rfl) hok ?_; clear hok; intro hok
      refine q_runk TB_Refs hok 2 rfl rfl ?_; clear hok a; intro a hok
      have hi1 : k < a0.length := by omega
      have he1 := elt L_a0 (k) (slRep.lt L_a0 hi1)
      refine q_ob hok (v := .pointer (some ⟨bOf ao_v_a0, oOf ao_v_a0 + k * 1, none⟩)) rfl rfl (by decide) rfl (fun _ hw => Ob_idx TB_Refs (k) rfl rfl he1.1 rfl rfl rfl hi1) ?_; clear hok a; intro a hok
      obtain ⟨_, _, _, ⟨rfl, hok_e1⟩, hat1⟩ := id he1
      refine q_ob hok (v := .int .u64 ((a0.getD k default) : Int)) rfl rfl (by decide) rfl (fun _ hw => Ob_load TB_Refs rfl rfl rfl ((hat1.below hw he1.2.1.2) 0 _ rfl)) ?_; clear hok a; intro a hok
      refine q_runk TB_Refs hok 2 rfl rfl ?_; clear hok a; intro a hok
      have hi2 : k < b.length := by omega
      have he2 := elt L_b (k) (slRep.lt L_b hi2)
      refine q_ob hok (v := .pointer (some ⟨bOf ao_v_b, oOf ao_v_b + k * 1, none⟩)) rfl rfl (by decide) rfl (fun _ hw => Ob_idx TB_Refs (k) rfl rfl he2.1 rfl rfl rfl hi2) ?_; clear hok a; intro a hok
      obtain ⟨_, _, _, ⟨rfl, hok_e2⟩, hat2⟩ := id he2
      refine q_ob hok (v := .int .u64 ((b.getD k default) : Int)) rfl rfl (by decide) rfl (fun _ hw => Ob_load TB_Refs rfl rfl rfl ((hat2.below hw he2.2.1.2) 0 _ rfl)) ?_; clear hok a; intro a hok
      refine q_runk TB_Refs hok 1 rfl rfl ?_; clear hok a; intro a hok
      refine q_end hok [0, 1, 10, 5, 20, 31] rfl ?_; clear hok; intro w2 hb hok
      have hz_w2 : w1.heap.size ≤ w2.heap.size := hb.size
      replace B := B.blw hb
      replace L_a0 := L_a0.below hb
      replace L_b := L_b.below hb
      clear hb
      refine p_then ?_
      refine f_cond hok rfl (fun hc3 => ?_) (fun hc3 => ?_)
      · replace hc3 := bne_iff_ne.1 hc3
        refine wp_seq ?_
        refine f_region hok ?_; clear hok; intro hok
        refine s_runk TB_Refs hok 1 rfl rfl ?_; clear hok a; intro a hok
        refine s_end hok [0, 1, 10, 5, 20, 31, 4] rfl ?_; clear hok; intro hok
        refine p_then ?_
        refine wp_ret ?_
        refine p_blk_r ?_
        refine p_then_r ?_
        refine p_then_r ?_
        refine p_blk_r ?_
        refine p_then_r ?_
        refine f_ret hok (run_results1 rfl hok rfl) ?_
        refine ⟨?_, B.toBelow⟩
        · clear hok B L_a0 L_b hc_v_a0 hm_v_a0 ha_P1 ho_P1 hc_v_b hm_v_b ha_P2 ho_P2 he1 hat1 he2 hat2 hz_w2
          have hp : eqD (a0.getD k default) (b.getD k default) = false := (by first | exact decide_eq_false hc3 | exact decide_eq_false (by omega) | exact hc3); rw [hinv0_1, sameBy_step _ _ _ k (by omega) (by omega), hp, Bool.false_and]
      · replace hc3 := bne_eq_false_iff_eq.1 hc3
        refine wp_skip ?_
        refine p_blk ?_
        refine p_then ?_
        refine f_region hok ?_; clear hok; intro hok
        refine s_runk TB_Refs hok 1 rfl rfl ?_; clear hok a; intro a hok
        refine s_ob hok (v := .int .i64 ((k : Int) + 1)) rfl rfl (by decide) rfl (Ob_add rfl rfl rfl (IntWalk.i64_in _ (by omega))) ?_; clear hok a; intro a hok
        refine s_runk TB_Refs hok 1 rfl rfl ?_; clear hok a; intro a hok
        refine s_end hok [0, 1, 10, 5, 20, 31] rfl ?_; clear hok; intro hok
        refine p_then ?_
        refine ⟨k + 1, ⟨hok.sub (ts := [0, 1, 10, 5]) rfl, ?_, ?_, B, L_a0, L_b⟩, by omega⟩
        · clear hok B L_a0 L_b hc_v_a0 hm_v_a0 ha_P1 ho_P1 hc_v_b hm_v_b ha_P2 ho_P2 he1 hat1 he2 hat2 hz_w2
          omega
        · clear hok B L_a0 L_b hc_v_a0 hm_v_a0 ha_P1 ho_P1 hc_v_b hm_v_b ha_P2 ho_P2 he1 hat1 he2 hat2 hz_w2
          have hp : eqD (a0.getD k default) (b.getD k default) = true := (by first | exact decide_eq_true hc3 | exact decide_eq_true (by omega) | exact hc3); rw [hinv0_1, sameBy_step _ _ _ k (by omega) (by omega), hp, Bool.true_and]
    · replace hc2 := andF hc2 (fun h => of_decide_eq_false h) (fun h => of_decide_eq_false h)
      refine wp_exit ?_
      refine p_then_x ?_
      refine p_then_x ?_
      refine f_exit_here ?_
      refine p_then ?_
      refine wp_seq ?_
      refine f_region hok ?_; clear hok; intro hok
      refine s_runk TB_Refs hok 1 rfl rfl ?_; clear hok a; intro a hok
      refine s_end hok [0, 1, 10, 5, 20, 4] rfl ?_; clear hok; intro hok
      refine p_then ?_
      refine wp_ret ?_
      refine f_ret hok (run_results1 rfl hok rfl) ?_
      refine ⟨?_, B.toBelow⟩
      · clear hok B L_a0 L_b hc_v_a0 hm_v_a0 ha_P1 ho_P1 hc_v_b hm_v_b ha_P2 ho_P2
        rw [hinv0_1, sameBy_end _ _ _ k (by omega) (by omega)]

set_option maxHeartbeats 1000000 in
theorem c_ref10_SameInts {A0 : Nat → Prop} {A1 : Nat → Prop} (v_a0 : Value) (a0 : List Int) (v_b : Value) (b : List Int) (w : World) (L_a0 : slRep RI A0 w v_a0 a0) (L_b : slRep RI A1 w v_b b) :
    Calls Try.prog 61 #[v_a0, v_b] w (Ret fun r w' => r = .bool (sameBy eqD a0 b) ∧ Below w.heap.size w w') := by
  have B : Bt [] w w := Bt.refl _ _
  obtain ⟨ao_v_a0, cap_v_a0, rfl, hc_v_a0, hm_v_a0⟩ := L_a0.shape
  unfold maxLen at hm_v_a0
  obtain ⟨P1, ha_P1, ho_P1, L_a0⟩ : ∃ X : Nat → Prop, (∀ k, X k → k < w.heap.size) ∧ (∀ k, X k → A0 k ∨ A1 k ∨ w.heap.size ≤ k) ∧ slRep RI X w (.slice ao_v_a0 a0.length cap_v_a0) a0 := ⟨_, fun k h => h.2, fun k h => .inl h.1, L_a0.bound⟩
  obtain ⟨ao_v_b, cap_v_b, rfl, hc_v_b, hm_v_b⟩ := L_b.shape
  unfold maxLen at hm_v_b
  obtain ⟨P2, ha_P2, ho_P2, L_b⟩ : ∃ X : Nat → Prop, (∀ k, X k → k < w.heap.size) ∧ (∀ k, X k → A0 k ∨ A1 k ∨ w.heap.size ≤ k) ∧ slRep RI X w (.slice ao_v_b b.length cap_v_b) b := ⟨_, fun k h => h.2, fun k h => .inr (.inl h.1), L_b.bound⟩
  refine f_enter 32 Try.func61 rfl rfl (Nat.le_of_ble_eq_true rfl) fun a hok => ?_
  replace hok := hok.sub (ts := [0, 1]) rfl
  refine wp_seq ?_
  refine f_region hok ?_; clear hok; intro hok
  refine s_runk TB_Refs hok 1 rfl rfl ?_; clear hok a; intro a hok
  refine s_end hok [0, 1, 4] rfl ?_; clear hok; intro hok
  refine p_then ?_
  refine wp_seq ?_
  refine wp_seq ?_
  refine f_region hok ?_; clear hok; intro hok
  refine s_runk TB_Refs hok 5 rfl rfl ?_; clear hok a; intro a hok
  refine s_end hok [0, 1, 4, 10] rfl ?_; clear hok; intro hok
  refine p_then ?_
  refine f_cond hok rfl (fun hc1 => ?_) (fun hc1 => ?_)
  · replace hc1 := bne_iff_ne.1 hc1
    refine wp_seq ?_
    refine f_region hok ?_; clear hok; intro hok
    refine s_runk TB_Refs hok 1 rfl rfl ?_; clear hok a; intro a hok
    refine s_end hok [0, 1, 4, 10] rfl ?_; clear hok; intro hok
    refine p_then ?_
    refine wp_ret ?_
    refine p_then_r ?_
    refine f_ret hok (run_results1 rfl hok rfl) ?_
    refine ⟨?_, B.toBelow⟩
    · clear hok B L_a0 L_b hc_v_a0 hm_v_a0 ha_P1 ho_P1 hc_v_b hm_v_b ha_P2 ho_P2
      rw [sameBy_len (by omega)]
  · replace hc1 := bne_eq_false_iff_eq.1 hc1
    refine wp_skip ?_
    refine p_then ?_
    refine wp_seq ?_
    refine wp_seq ?_
    refine f_region hok ?_; clear hok; intro hok
    refine s_runk TB_Refs hok 1 rfl rfl ?_; clear hok a; intro a hok
    refine s_end hok [0, 1, 4, 10, 5] rfl ?_; clear hok; intro hok
    refine p_then ?_
    refine wp_block ?_
    refine f_loop (σ := Nat) (fun k a w' => Sl 32 [(0, .slice ao_v_a0 a0.length cap_v_a0), (1, .slice ao_v_b b.length cap_v_b), (10, .bool ((a0.length : Int) != (b.length : Int))), (5, .int .i64 (k : Int))] a ∧ (k ≤ a0.length ∧ a0.length = b.length) ∧ (sameBy eqD a0 b = sameBy eqD (a0.drop k) (b.drop k)) ∧ Bt [] w w' ∧ slRep RI P1 w' (.slice ao_v_a0 a0.length cap_v_a0) a0 ∧ slRep RI P2 w' (.slice ao_v_b b.length cap_v_b) b) (fun k => a0.length - k) 0 ⟨hok.sub (ts := [0, 1, 10, 5]) rfl, by omega, by rfl, B, L_a0, L_b⟩ ?_
    clear hok B L_a0 L_b
    rintro k a w1 ⟨hok, hinv0_0, hinv0_1, B, L_a0, L_b⟩
    refine wp_seq ?_
    refine wp_seq ?_
    refine f_region hok ?_; clear hok; intro hok
    refine s_runk TB_Refs hok 5 rfl rfl ?_; clear hok a; intro a hok
    refine s_gob hok (c := decide ((k : Int) < (a0.length : Int))) rfl rfl rfl rfl (by decide) rfl (by decide) rfl (fun _ => Ob_c TB_Refs rfl) ?_; clear hok a; intro a hok
    refine s_gob hok (c := decide ((k : Int) < (a0.length : Int))) rfl rfl rfl rfl (by decide) rfl (by decide) rfl (fun _ => Ob_c TB_Refs rfl) ?_; clear hok a; intro a hok
    refine s_gob hok (c := decide ((k : Int) < (a0.length : Int))) rfl rfl rfl rfl (by decide) rfl (by decide) rfl (fun _ => Ob_c TB_Refs rfl) ?_; clear hok a; intro a hok
    refine s_gob hok (c := decide ((k : Int) < (a0.length : Int))) rfl rfl rfl rfl (by decide) rfl (by decide) rfl (fun _ => Ob_c TB_Refs rfl) ?_; clear hok a; intro a hok
    refine s_and hok (i := 4) rfl rfl rfl rfl rfl rfl rfl (by decide) rfl rfl ?_; clear hok a; intro a hok
    refine s_end hok [0, 1, 10, 5, 20] rfl ?_; clear hok; intro hok
    refine p_then ?_
    refine f_cond hok rfl (fun hc2 => ?_) (fun hc2 => ?_)
    · replace hc2 := And.intro (of_decide_eq_true (andT1 hc2)) (of_decide_eq_true (andT2 hc2))
      refine wp_skip ?_
      refine p_then ?_
      refine wp_seq ?_
      refine wp_block ?_
      refine wp_seq ?_
      refine f_quietd (by kernel_rfl) (by kernel_rfl) hok ?_; clear hok; intro hok
      refine q_runk TB_Refs hok 2 rfl rfl ?_; clear hok a; intro a hok
      have hi1 : k < a0.length := by omega
      have he1 := elt L_a0 (k) (slRep.lt L_a0 hi1)
      refine q_ob hok (v := .pointer (some ⟨bOf ao_v_a0, oOf ao_v_a0 + k * 1, none⟩)) rfl rfl (by decide) rfl (fun _ hw => Ob_idx TB_Refs (k) rfl rfl he1.1 rfl rfl rfl hi1) ?_; clear hok a; intro a hok
      obtain ⟨_, _, _, ⟨rfl, hok_e1⟩, hat1⟩ := id he1
      refine q_ob hok (v := .int .i64 (a0.getD k default)) rfl rfl (by decide) rfl (fun _ hw => Ob_load TB_Refs rfl rfl rfl ((hat1.below hw he1.2.1.2) 0 _ rfl)) ?_; clear hok a; intro a hok
      refine q_runk TB_Refs hok 2 rfl rfl ?_; clear hok a; intro a hok
      have hi2 : k < b.length := by omega
      have he2 := elt L_b (k) (slRep.lt L_b hi2)
      refine q_ob hok (v := .pointer (some ⟨bOf ao_v_b, oOf ao_v_b + k * 1, none⟩)) rfl rfl (by decide) rfl (fun _ hw => Ob_idx TB_Refs (k) rfl rfl he2.1 rfl rfl rfl hi2) ?_; clear hok a; intro a hok
      obtain ⟨_, _, _, ⟨rfl, hok_e2⟩, hat2⟩ := id he2
      refine q_ob hok (v := .int .i64 (b.getD k default)) rfl rfl (by decide) rfl (fun _ hw => Ob_load TB_Refs rfl rfl rfl ((hat2.below hw he2.2.1.2) 0 _ rfl)) ?_; clear hok a; intro a hok
      refine q_runk TB_Refs hok 1 rfl rfl ?_; clear hok a; intro a hok
      refine q_end hok [0, 1, 10, 5, 20, 31] rfl ?_; clear hok; intro w2 hb hok
      have hz_w2 : w1.heap.size ≤ w2.heap.size := hb.size
      replace B := B.blw hb
      replace L_a0 := L_a0.below hb
      replace L_b := L_b.below hb
      clear hb
      refine p_then ?_
      refine f_cond hok rfl (fun hc3 => ?_) (fun hc3 => ?_)
      · replace hc3 := bne_iff_ne.1 hc3
        refine wp_seq ?_
        refine f_region hok ?_; clear hok; intro hok
        refine s_runk TB_Refs hok 1 rfl rfl ?_; clear hok a; intro a hok
        refine s_end hok [0, 1, 10, 5, 20, 31, 4] rfl ?_; clear hok; intro hok
        refine p_then ?_
        refine wp_ret ?_
        refine p_blk_r ?_
        refine p_then_r ?_
        refine p_then_r ?_
        refine p_blk_r ?_
        refine p_then_r ?_
        refine f_ret hok (run_results1 rfl hok rfl) ?_
        refine ⟨?_, B.toBelow⟩
        · clear hok B L_a0 L_b hc_v_a0 hm_v_a0 ha_P1 ho_P1 hc_v_b hm_v_b ha_P2 ho_P2 he1 hat1 he2 hat2 hz_w2
          have hp : eqD (a0.getD k default) (b.getD k default) = false := (by first | exact decide_eq_false hc3 | exact decide_eq_false (by omega) | exact hc3); rw [hinv0_1, sameBy_step _ _ _ k (by omega) (by omega), hp, Bool.false_and]
      · replace hc3 := bne_eq_false_iff_eq.1 hc3
        refine wp_skip ?_
        refine p_blk ?_
        refine p_then ?_
        refine f_region hok ?_; clear hok; intro hok
        refine s_runk TB_Refs hok 1 rfl rfl ?_; clear hok a; intro a hok
        refine s_ob hok (v := .int .i64 ((k : Int) + 1)) rfl rfl (by decide) rfl (Ob_add rfl rfl rfl (IntWalk.i64_in _ (by omega))) ?_; clear hok a; intro a hok
        refine s_runk TB_Refs hok 1 rfl rfl ?_; clear hok a; intro a hok
        refine s_end hok [0, 1, 10, 5, 20, 31] rfl ?_; clear hok; intro hok
        refine p_then ?_
        refine ⟨k + 1, ⟨hok.sub (ts := [0, 1, 10, 5]) rfl, ?_, ?_, B, L_a0, L_b⟩, by omega⟩
        · clear hok B L_a0 L_b hc_v_a0 hm_v_a0 ha_P1 ho_P1 hc_v_b hm_v_b ha_P2 ho_P2 he1 hat1 he2 hat2 hz_w2
          omega
        · clear hok B L_a0 L_b hc_v_a0 hm_v_a0 ha_P1 ho_P1 hc_v_b hm_v_b ha_P2 ho_P2 he1 hat1 he2 hat2 hz_w2
          have hp : eqD (a0.getD k default) (b.getD k default) = true := (by first | exact decide_eq_true hc3 | exact decide_eq_true (by omega) | exact hc3); rw [hinv0_1, sameBy_step _ _ _ k (by omega) (by omega), hp, Bool.true_and]
    · replace hc2 := andF hc2 (fun h => of_decide_eq_false h) (fun h => of_decide_eq_false h)
      refine wp_exit ?_
      refine p_then_x ?_
      refine p_then_x ?_
      refine f_exit_here ?_
      refine p_then ?_
      refine wp_seq ?_
      refine f_region hok ?_; clear hok; intro hok
      refine s_runk TB_Refs hok 1 rfl rfl ?_; clear hok a; intro a hok
      refine s_end hok [0, 1, 10, 5, 20, 4] rfl ?_; clear hok; intro hok
      refine p_then ?_
      refine wp_ret ?_
      refine f_ret hok (run_results1 rfl hok rfl) ?_
      refine ⟨?_, B.toBelow⟩
      · clear hok B L_a0 L_b hc_v_a0 hm_v_a0 ha_P1 ho_P1 hc_v_b hm_v_b ha_P2 ho_P2
        rw [hinv0_1, sameBy_end _ _ _ k (by omega) (by omega)]

def sameB (a b : DBatch) : Bool := decide (a.client = b.client) && decide (a.req = b.req) && sameBy eqD a.ops b.ops

set_option maxHeartbeats 1000000 in
theorem c_ref06_Same {A0 : Nat → Prop} {A1 : Nat → Prop} (a0 : DBatch) (v0_a0 : Value) (b : DBatch) (v0_b : Value) (w : World) (L0_a0 : slRep RDOp A0 w v0_a0 a0.ops) (h_a0 : okDBatch a0) (L0_b : slRep RDOp A1 w v0_b b.ops) (h_b : okDBatch b) :
    Calls Try.prog 41 #[.agg #[.int .i64 a0.client, .int .i64 a0.req, v0_a0], .agg #[.int .i64 b.client, .int .i64 b.req, v0_b]] w (Ret fun r w' => r = .bool (sameB a0 b) ∧ Below w.heap.size w w') := by
  have B : Bt [] w w := Bt.refl _ _
  obtain ⟨ao_v0_a0, cap_v0_a0, rfl, hc_v0_a0, hm_v0_a0⟩ := L0_a0.shape
  unfold maxLen at hm_v0_a0
  obtain ⟨P1, ha_P1, ho_P1, L0_a0⟩ : ∃ X : Nat → Prop, (∀ k, X k → k < w.heap.size) ∧ (∀ k, X k → A0 k ∨ A1 k ∨ w.heap.size ≤ k) ∧ slRep RDOp X w (.slice ao_v0_a0 a0.ops.length cap_v0_a0) a0.ops := ⟨_, fun k h => h.2, fun k h => .inl h.1, L0_a0.bound⟩
  obtain ⟨ao_v0_b, cap_v0_b, rfl, hc_v0_b, hm_v0_b⟩ := L0_b.shape
  unfold maxLen at hm_v0_b
  obtain ⟨P2, ha_P2, ho_P2, L0_b⟩ : ∃ X : Nat → Prop, (∀ k, X k → k < w.heap.size) ∧ (∀ k, X k → A0 k ∨ A1 k ∨ w.heap.size ≤ k) ∧ slRep RDOp X w (.slice ao_v0_b b.ops.length cap_v0_b) b.ops := ⟨_, fun k h => h.2, fun k h => .inr (.inl h.1), L0_b.bound⟩
  refine f_enter 24 Try.func41 rfl rfl (Nat.le_of_ble_eq_true rfl) fun a hok => ?_
  replace hok := hok.sub (ts := [0, 1]) rfl
  refine wp_seq ?_
  refine f_region hok ?_; clear hok; intro hok
  refine s_boxv hok (cs := [.int .i64 a0.client, .int .i64 a0.req, .slice ao_v0_a0 a0.ops.length cap_v0_a0]) rfl rfl rfl (by decide) rfl rfl rfl ?_; clear hok a; intro a w1 b1 hb0_b1 hb1_b1 hb X1 hok
  have hge_b1 : w.heap.size ≤ b1 := by have := B.size; omega
  have hz_w1 : w.heap.size ≤ w1.heap.size := hb.size
  replace B := B.blw hb
  replace L0_a0 := L0_a0.below hb
  replace L0_b := L0_b.below hb
  clear hb
  refine s_boxv hok (cs := [.int .i64 b.client, .int .i64 b.req, .slice ao_v0_b b.ops.length cap_v0_b]) rfl rfl rfl (by decide) rfl rfl rfl ?_; clear hok a; intro a w2 b2 hb0_b2 hb1_b2 hb X2 hok
  have hge_b2 : w.heap.size ≤ b2 := by have := B.size; omega
  have hlt_b1_b2 : b1 < b2 := by have := X1.lt; omega
  have hz_w2 : w1.heap.size ≤ w2.heap.size := hb.size
  replace B := B.blw hb
  replace L0_a0 := L0_a0.below hb
  replace L0_b := L0_b.below hb
  replace X1 := X1.below hb
  clear hb
  refine s_runk TB_Refs hok 1 rfl rfl ?_; clear hok a; intro a hok
  refine s_end hok [0, 1, 2, 3, 4] rfl ?_; clear hok; intro hok
  refine p_then ?_
  refine wp_seq ?_
  refine f_quiet hok ?_; clear hok; intro hok
  refine q_runk TB_Refs hok 1 rfl rfl ?_; clear hok a; intro a hok
  refine q_ob hok (v := .int .i64 a0.client) rfl rfl (by decide) rfl (fun _ hw => Ob_load TB_Refs rfl rfl rfl ((X1.below hw).cell 0 rfl)) ?_; clear hok a; intro a hok
  refine q_runk TB_Refs hok 1 rfl rfl ?_; clear hok a; intro a hok
  refine q_ob hok (v := .int .i64 b.client) rfl rfl (by decide) rfl (fun _ hw => Ob_load TB_Refs rfl rfl rfl ((X2.below hw).cell 0 rfl)) ?_; clear hok a; intro a hok
  refine q_runk TB_Refs hok 2 rfl rfl ?_; clear hok a; intro a hok
  refine q_gob hok (c := a0.client == b.client) rfl rfl rfl rfl (by decide) rfl (by decide) rfl (fun _ => fun _ _ => Ob_c TB_Refs rfl) ?_; clear hok a; intro a hok
  refine q_gob hok (c := a0.client == b.client) (v := .int .i64 a0.req) rfl rfl rfl rfl (by decide) rfl (by decide) rfl (fun hg1 => ?_) ?_
  · replace hg1 := eq_of_beq hg1
    exact fun _ hw => Ob_load TB_Refs rfl rfl rfl ((X1.below hw).cell 1 rfl)
  clear hok a; intro a hok
  refine q_gob hok (c := a0.client == b.client) rfl rfl rfl rfl (by decide) rfl (by decide) rfl (fun _ => fun _ _ => Ob_c TB_Refs rfl) ?_; clear hok a; intro a hok
  refine q_gob hok (c := a0.client == b.client) (v := .int .i64 b.req) rfl rfl rfl rfl (by decide) rfl (by decide) rfl (fun hg2 => ?_) ?_
  · replace hg2 := eq_of_beq hg2
    exact fun _ hw => Ob_load TB_Refs rfl rfl rfl ((X2.below hw).cell 1 rfl)
  clear hok a; intro a hok
  refine q_gob hok (c := a0.client == b.client) rfl rfl rfl rfl (by decide) rfl (by decide) rfl (fun _ => fun _ _ => Ob_c TB_Refs rfl) ?_; clear hok a; intro a hok
  refine q_and hok (i := 5) rfl rfl rfl rfl rfl rfl rfl (by decide) rfl rfl ?_; clear hok a; intro a hok
  refine q_runk TB_Refs hok 1 rfl rfl ?_; clear hok a; intro a hok
  refine q_gob hok (c := (a0.client == b.client) && (a0.req == b.req)) rfl rfl rfl rfl (by decide) rfl (by decide) rfl (fun _ => fun _ _ => Ob_c TB_Refs rfl) ?_; clear hok a; intro a hok
  refine q_gob hok (c := (a0.client == b.client) && (a0.req == b.req)) (v := .slice ao_v0_a0 a0.ops.length cap_v0_a0) rfl rfl rfl rfl (by decide) rfl (by decide) rfl (fun hg3 => ?_) ?_
  · replace hg3 := And.intro (eq_of_beq (andT1 hg3)) (eq_of_beq (andT2 hg3))
    exact fun _ hw => Ob_load TB_Refs rfl rfl rfl ((X1.below hw).cell 2 rfl)
  clear hok a; intro a hok
  refine q_gob hok (c := (a0.client == b.client) && (a0.req == b.req)) rfl rfl rfl rfl (by decide) rfl (by decide) rfl (fun _ => fun _ _ => Ob_c TB_Refs rfl) ?_; clear hok a; intro a hok
  refine q_gob hok (c := (a0.client == b.client) && (a0.req == b.req)) (v := .slice ao_v0_b b.ops.length cap_v0_b) rfl rfl rfl rfl (by decide) rfl (by decide) rfl (fun hg4 => ?_) ?_
  · replace hg4 := And.intro (eq_of_beq (andT1 hg4)) (eq_of_beq (andT2 hg4))
    exact fun _ hw => Ob_load TB_Refs rfl rfl rfl ((X2.below hw).cell 2 rfl)
  clear hok a; intro a hok
  refine q_gcall hok (caps := #[]) (b := (a0.client == b.client) && (a0.req == b.req)) (v := .bool (sameBy eqD a0.ops b.ops)) fn_59_Refs rfl rfl rfl rfl rfl rfl rfl (by decide) rfl (by decide) rfl rfl (fun hg5 => ?_) ?_
  · replace hg5 := And.intro (eq_of_beq (andT1 hg5)) (eq_of_beq (andT2 hg5))
    exact fun _ hw => c_ref06_SameOps _ a0.ops _ b.ops _ (L0_a0.below hw) (L0_b.below hw)
  clear hok a; intro a hok
  refine q_and hok (i := 12) rfl rfl rfl rfl rfl rfl rfl (by decide) rfl rfl ?_; clear hok a; intro a hok
  refine q_runk TB_Refs hok 1 rfl rfl ?_; clear hok a; intro a hok
  refine q_end hok [0, 1, 2, 3, 4] rfl ?_; clear hok; intro w3 hb hok
  have hz_w3 : w2.heap.size ≤ w3.heap.size := hb.size
  replace B := B.blw hb
  replace L0_a0 := L0_a0.below hb
  replace L0_b := L0_b.below hb
  replace X1 := X1.below hb
  replace X2 := X2.below hb
  clear hb
  refine p_then ?_
  refine wp_ret ?_
  refine f_ret hok (run_results1 rfl hok rfl) ?_
  refine ⟨?_, B.toBelow⟩
  · clear hok B L0_a0 L0_b X1 X2 hc_v0_a0 hm_v0_a0 ha_P1 ho_P1 hc_v0_b hm_v0_b ha_P2 ho_P2 hb0_b1 hb1_b1 hge_b1 hz_w1 hb0_b2 hb1_b2 hge_b2 hlt_b1_b2 hz_w2 hz_w3
    simp only [beq_int]; rfl

def sameE (a b : DEntry) : Bool := decide (a.ts = b.ts) && sameB a.batch b.batch

set_option maxHeartbeats 1000000 in
theorem c_ref08_Same {A0 : Nat → Prop} {A1 : Nat → Prop} (a0 : DEntry) (v0_a0 : Value) (b : DEntry) (v0_b : Value) (w : World) (L0_a0 : slRep RDOp A0 w v0_a0 a0.batch.ops) (h_a0 : okDEntry a0) (L0_b : slRep RDOp A1 w v0_b b.batch.ops) (h_b : okDEntry b) :
    Calls Try.prog 60 #[.agg #[.int .i64 a0.batch.client, .int .i64 a0.batch.req, v0_a0, .int .u64 (a0.ts : Int)], .agg #[.int .i64 b.batch.client, .int .i64 b.batch.req, v0_b, .int .u64 (b.ts : Int)]] w (Ret fun r w' => r = .bool (sameE a0 b) ∧ Below w.heap.size w w') := by
  have B : Bt [] w w := Bt.refl _ _
  obtain ⟨ao_v0_a0, cap_v0_a0, rfl, hc_v0_a0, hm_v0_a0⟩ := L0_a0.shape
  unfold maxLen at hm_v0_a0
  obtain ⟨P1, ha_P1, ho_P1, L0_a0⟩ : ∃ X : Nat → Prop, (∀ k, X k → k < w.heap.size) ∧ (∀ k, X k → A0 k ∨ A1 k ∨ w.heap.size ≤ k) ∧ slRep RDOp X w (.slice ao_v0_a0 a0.batch.ops.length cap_v0_a0) a0.batch.ops := ⟨_, fun k h => h.2, fun k h => .inl h.1, L0_a0.bound⟩
  obtain ⟨ao_v0_b, cap_v0_b, rfl, hc_v0_b, hm_v0_b⟩ := L0_b.shape
  unfold maxLen at hm_v0_b
  obtain ⟨P2, ha_P2, ho_P2, L0_b⟩ : ∃ X : Nat → Prop, (∀ k, X k → k < w.heap.size) ∧ (∀ k, X k → A0 k ∨ A1 k ∨ w.heap.size ≤ k) ∧ slRep RDOp X w (.slice ao_v0_b b.batch.ops.length cap_v0_b) b.batch.ops := ⟨_, fun k h => h.2, fun k h => .inr (.inl h.1), L0_b.bound⟩
  refine f_enter 17 Try.func60 rfl rfl (Nat.le_of_ble_eq_true rfl) fun a hok => ?_
  replace hok := hok.sub (ts := [0, 1]) rfl
  refine wp_seq ?_
  refine f_region hok ?_; clear hok; intro hok
  refine s_boxv hok (cs := [.int .i64 a0.batch.client, .int .i64 a0.batch.req, .slice ao_v0_a0 a0.batch.ops.length cap_v0_a0, .int .u64 (a0.ts : Int)]) rfl rfl rfl (by decide) rfl rfl rfl ?_; clear hok a; intro a w1 b1 hb0_b1 hb1_b1 hb X1 hok
  have hge_b1 : w.heap.size ≤ b1 := by have := B.size; omega
  have hz_w1 : w.heap.size ≤ w1.heap.size := hb.size
  replace B := B.blw hb
  replace L0_a0 := L0_a0.below hb
  replace L0_b := L0_b.below hb
  clear hb
  refine s_boxv hok (cs := [.int .i64 b.batch.client, .int .i64 b.batch.req, .slice ao_v0_b b.batch.ops.length cap_v0_b, .int .u64 (b.ts : Int)]) rfl rfl rfl (by decide) rfl rfl rfl ?_; clear hok a; intro a w2 b2 hb0_b2 hb1_b2 hb X2 hok
  have hge_b2 : w.heap.size ≤ b2 := by have := B.size; omega
  have hlt_b1_b2 : b1 < b2 := by have := X1.lt; omega
  have hz_w2 : w1.heap.size ≤ w2.heap.size := hb.size
  replace B := B.blw hb
  replace L0_a0 := L0_a0.below hb
  replace L0_b := L0_b.below hb
  replace X1 := X1.below hb
  clear hb
  refine s_runk TB_Refs hok 1 rfl rfl ?_; clear hok a; intro a hok
  refine s_end hok [0, 1, 2, 3, 4] rfl ?_; clear hok; intro hok
  refine p_then ?_
  refine wp_seq ?_
  refine f_quiet hok ?_; clear hok; intro hok
  refine q_runk TB_Refs hok 1 rfl rfl ?_; clear hok a; intro a hok
  refine q_ob hok (v := .int .u64 (a0.ts : Int)) rfl rfl (by decide) rfl (fun _ hw => Ob_load TB_Refs rfl rfl rfl ((X1.below hw).cell 3 rfl)) ?_; clear hok a; intro a hok
  refine q_runk TB_Refs hok 1 rfl rfl ?_; clear hok a; intro a hok
  refine q_ob hok (v := .int .u64 (b.ts : Int)) rfl rfl (by decide) rfl (fun _ hw => Ob_load TB_Refs rfl rfl rfl ((X2.below hw).cell 3 rfl)) ?_; clear hok a; intro a hok
  refine q_runk TB_Refs hok 2 rfl rfl ?_; clear hok a; intro a hok
  refine q_gob hok (c := (a0.ts : Int) == (b.ts : Int)) rfl rfl rfl rfl (by decide) rfl (by decide) rfl (fun _ => fun _ _ => Ob_c TB_Refs rfl) ?_; clear hok a; intro a hok
  refine q_gob hok (c := (a0.ts : Int) == (b.ts : Int)) (v := .agg #[.int .i64 a0.batch.client, .int .i64 a0.batch.req, .slice ao_v0_a0 a0.batch.ops.length cap_v0_a0]) rfl rfl rfl rfl (by decide) rfl (by decide) rfl (fun hg1 => ?_) ?_
  · replace hg1 := eq_of_beq hg1
    exact fun _ hw => Ob_loads TB_Refs (cs := [.int .i64 a0.batch.client, .int .i64 a0.batch.req, .slice ao_v0_a0 a0.batch.ops.length cap_v0_a0]) rfl rfl rfl ((X1.below hw).part 0 rfl)
  clear hok a; intro a hok
  refine q_gob hok (c := (a0.ts : Int) == (b.ts : Int)) rfl rfl rfl rfl (by decide) rfl (by decide) rfl (fun _ => fun _ _ => Ob_c TB_Refs rfl) ?_; clear hok a; intro a hok
  refine q_gob hok (c := (a0.ts : Int) == (b.ts : Int)) (v := .agg #[.int .i64 b.batch.client, .int .i64 b.batch.req, .slice ao_v0_b b.batch.ops.length cap_v0_b]) rfl rfl rfl rfl (by decide) rfl (by decide) rfl (fun hg2 => ?_) ?_
  · replace hg2 := eq_of_beq hg2
    exact fun _ hw => Ob_loads TB_Refs (cs := [.int .i64 b.batch.client, .int .i64 b.batch.req, .slice ao_v0_b b.batch.ops.length cap_v0_b]) rfl rfl rfl ((X2.below hw).part 0 rfl)
  clear hok a; intro a hok
  refine q_gcall hok (caps := #[]) (b := (a0.ts : Int) == (b.ts : Int)) (v := .bool (sameB (⟨a0.batch.client, a0.batch.req, a0.batch.ops⟩ : DBatch) (⟨b.batch.client, b.batch.req, b.batch.ops⟩ : DBatch))) fn_41_Refs rfl rfl rfl rfl rfl rfl rfl (by decide) rfl (by decide) rfl rfl (fun hg3 => ?_) ?_
  · replace hg3 := eq_of_beq hg3
    exact fun _ hw => c_ref06_Same (⟨a0.batch.client, a0.batch.req, a0.batch.ops⟩ : DBatch) _ (⟨b.batch.client, b.batch.req, b.batch.ops⟩ : DBatch) _ _ (L0_a0.below hw) ⟨h_a0.1.1, h_a0.1.2⟩ (L0_b.below hw) ⟨h_b.1.1, h_b.1.2⟩
  clear hok a; intro a hok
  refine q_and hok (i := 5) rfl rfl rfl rfl rfl rfl rfl (by decide) rfl rfl ?_; clear hok a; intro a hok
  refine q_runk TB_Refs hok 1 rfl rfl ?_; clear hok a; intro a hok
  refine q_end hok [0, 1, 2, 3, 4] rfl ?_; clear hok; intro w3 hb hok
  have hz_w3 : w2.heap.size ≤ w3.heap.size := hb.size
  replace B := B.blw hb
  replace L0_a0 := L0_a0.below hb
  replace L0_b := L0_b.below hb
  replace X1 := X1.below hb
  replace X2 := X2.below hb
  clear hb
  refine p_then ?_
  refine wp_ret ?_
  refine f_ret hok (run_results1 rfl hok rfl) ?_
  refine ⟨?_, B.toBelow⟩
  · clear hok B L0_a0 L0_b X1 X2 hc_v0_a0 hm_v0_a0 ha_P1 ho_P1 hc_v0_b hm_v0_b ha_P2 ho_P2 hb0_b1 hb1_b1 hge_b1 hz_w1 hb0_b2 hb1_b2 hge_b2 hlt_b1_b2 hz_w2 hz_w3
    simp only [beq_nat]; rfl

set_option maxHeartbeats 1000000 in
theorem c_ref08_SameAll {A0 : Nat → Prop} {A1 : Nat → Prop} (v_a0 : Value) (a0 : List DEntry) (v_b : Value) (b : List DEntry) (w : World) (L_a0 : slRep RDEntry A0 w v_a0 a0) (L_b : slRep RDEntry A1 w v_b b) :
    Calls Try.prog 42 #[v_a0, v_b] w (Ret fun r w' => r = .bool (sameBy sameE a0 b) ∧ Below w.heap.size w w') := by
  have B : Bt [] w w := Bt.refl _ _
  obtain ⟨ao_v_a0, cap_v_a0, rfl, hc_v_a0, hm_v_a0⟩ := L_a0.shape
  unfold maxLen at hm_v_a0
  obtain ⟨P1, ha_P1, ho_P1, L_a0⟩ : ∃ X : Nat → Prop, (∀ k, X k → k < w.heap.size) ∧ (∀ k, X k → A0 k ∨ A1 k ∨ w.heap.size ≤ k) ∧ slRep RDEntry X w (.slice ao_v_a0 a0.length cap_v_a0) a0 := ⟨_, fun k h => h.2, fun k h => .inl h.1, L_a0.bound⟩
  obtain ⟨ao_v_b, cap_v_b, rfl, hc_v_b, hm_v_b⟩ := L_b.shape
  unfold maxLen at hm_v_b
  obtain ⟨P2, ha_P2, ho_P2, L_b⟩ : ∃ X : Nat → Prop, (∀ k, X k → k < w.heap.size) ∧ (∀ k, X k → A0 k ∨ A1 k ∨ w.heap.size ≤ k) ∧ slRep RDEntry X w (.slice ao_v_b b.length cap_v_b) b := ⟨_, fun k h => h.2, fun k h => .inr (.inl h.1), L_b.bound⟩
  refine f_enter 33 Try.func42 rfl rfl (Nat.le_of_ble_eq_true rfl) fun a hok => ?_
  replace hok := hok.sub (ts := [0, 1]) rfl
  refine wp_seq ?_
  refine f_region hok ?_; clear hok; intro hok
  refine s_runk TB_Refs hok 1 rfl rfl ?_; clear hok a; intro a hok
  refine s_end hok [0, 1, 4] rfl ?_; clear hok; intro hok
  refine p_then ?_
  refine wp_seq ?_
  refine wp_seq ?_
  refine f_region hok ?_; clear hok; intro hok
  refine s_runk TB_Refs hok 5 rfl rfl ?_; clear hok a; intro a hok
  refine s_end hok [0, 1, 4, 10] rfl ?_; clear hok; intro hok
  refine p_then ?_
  refine f_cond hok rfl (fun hc1 => ?_) (fun hc1 => ?_)
  · replace hc1 := bne_iff_ne.1 hc1
    refine wp_seq ?_
    refine f_region hok ?_; clear hok; intro hok
    refine s_runk TB_Refs hok 1 rfl rfl ?_; clear hok a; intro a hok
    refine s_end hok [0, 1, 4, 10] rfl ?_; clear hok; intro hok
    refine p_then ?_
    refine wp_ret ?_
    refine p_then_r ?_
    refine f_ret hok (run_results1 rfl hok rfl) ?_
    refine ⟨?_, B.toBelow⟩
    · clear hok B L_a0 L_b hc_v_a0 hm_v_a0 ha_P1 ho_P1 hc_v_b hm_v_b ha_P2 ho_P2
      rw [sameBy_len (by omega)]
  · replace hc1 := bne_eq_false_iff_eq.1 hc1
    refine wp_skip ?_
    refine p_then ?_
    refine wp_seq ?_
    refine wp_seq ?_
    refine f_region hok ?_; clear hok; intro hok
    refine s_runk TB_Refs hok 1 rfl rfl ?_; clear hok a; intro a hok
    refine s_end hok [0, 1, 4, 10, 5] rfl ?_; clear hok; intro hok
    refine p_then ?_
    refine wp_block ?_
    refine f_loop (σ := Nat) (fun k a w' => Sl 33 [(0, .slice ao_v_a0 a0.length cap_v_a0), (1, .slice ao_v_b b.length cap_v_b), (10, .bool ((a0.length : Int) != (b.length : Int))), (5, .int .i64 (k : Int))] a ∧ (k ≤ a0.length ∧ a0.length = b.length) ∧ (sameBy sameE a0 b = sameBy sameE (a0.drop k) (b.drop k)) ∧ Bt [] w w' ∧ slRep RDEntry P1 w' (.slice ao_v_a0 a0.length cap_v_a0) a0 ∧ slRep RDEntry P2 w' (.slice ao_v_b b.length cap_v_b) b) (fun k => a0.length - k) 0 ⟨hok.sub (ts := [0, 1, 10, 5]) rfl, by omega, by rfl, B, L_a0, L_b⟩ ?_
    clear hok B L_a0 L_b
    rintro k a w1 ⟨hok, hinv0_0, hinv0_1, B, L_a0, L_b⟩
    refine wp_seq ?_
    refine wp_seq ?_
    refine f_region hok ?_; clear hok; intro hok
    refine s_runk TB_Refs hok 5 rfl rfl ?_; clear hok a; intro a hok
    refine s_gob hok (c := decide ((k : Int) < (a0.length : Int))) rfl rfl rfl rfl (by decide) rfl (by decide) rfl (fun _ => Ob_c TB_Refs rfl) ?_; clear hok a; intro a hok
    refine s_gob hok (c := decide ((k : Int) < (a0.length : Int))) rfl rfl rfl rfl (by decide) rfl (by decide) rfl (fun _ => Ob_c TB_Refs rfl) ?_; clear hok a; intro a hok
    refine s_gob hok (c := decide ((k : Int) < (a0.length : Int))) rfl rfl rfl rfl (by decide) rfl (by decide) rfl (fun _ => Ob_c TB_Refs rfl) ?_; clear hok a; intro a hok
    refine s_gob hok (c := decide ((k : Int) < (a0.length : Int))) rfl rfl rfl rfl (by decide) rfl (by decide) rfl (fun _ => Ob_c TB_Refs rfl) ?_; clear hok a; intro a hok
    refine s_and hok (i := 4) rfl rfl rfl rfl rfl rfl rfl (by decide) rfl rfl ?_; clear hok a; intro a hok
    refine s_end hok [0, 1, 10, 5, 20] rfl ?_; clear hok; intro hok
    refine p_then ?_
    refine f_cond hok rfl (fun hc2 => ?_) (fun hc2 => ?_)
    · replace hc2 := And.intro (of_decide_eq_true (andT1 hc2)) (of_decide_eq_true (andT2 hc2))
      refine wp_skip ?_
      refine p_then ?_
      refine wp_seq ?_
      refine wp_block ?_
      refine wp_seq ?_
      refine f_quietd (by kernel_rfl) (by kernel_rfl) hok ?_; clear hok; intro hok
      refine q_runk TB_Refs hok 2 rfl rfl ?_; clear hok a; intro a hok
      have hi1 : k < a0.length := by omega
      have he1 := elt L_a0 (k) (slRep.lt L_a0 hi1)
      refine q_ob hok (v := .pointer (some ⟨bOf ao_v_a0, oOf ao_v_a0 + k * 4, none⟩)) rfl rfl (by decide) rfl (fun _ hw => Ob_idx TB_Refs (k) rfl rfl he1.1 rfl rfl rfl hi1) ?_; clear hok a; intro a hok
      obtain ⟨_, _, _, ⟨u1, rfl, L1, hok_e1⟩, hat1⟩ := id he1
      obtain ⟨ao_u1, cap_u1, rfl, hc_u1, hm_u1⟩ := L1.shape
      unfold maxLen at hm_u1
      refine q_ob hok (v := .agg #[.int .i64 ((a0.getD k default).batch.client), .int .i64 ((a0.getD k default).batch.req), .slice ao_u1 ((a0.getD k default).batch.ops.length) cap_u1, .int .u64 ((a0.getD k default).ts : Int)]) rfl rfl (by decide) rfl (fun _ hw => Ob_loads TB_Refs rfl rfl rfl (hat1.below hw he1.2.1.2)) ?_; clear hok a; intro a hok
      refine q_runk TB_Refs hok 2 rfl rfl ?_; clear hok a; intro a hok
      have hi2 : k < b.length := by omega
      have he2 := elt L_b (k) (slRep.lt L_b hi2)
      refine q_ob hok (v := .pointer (some ⟨bOf ao_v_b, oOf ao_v_b + k * 4, none⟩)) rfl rfl (by decide) rfl (fun _ hw => Ob_idx TB_Refs (k) rfl rfl he2.1 rfl rfl rfl hi2) ?_; clear hok a; intro a hok
      obtain ⟨_, _, _, ⟨u2, rfl, L2, hok_e2⟩, hat2⟩ := id he2
      obtain ⟨ao_u2, cap_u2, rfl, hc_u2, hm_u2⟩ := L2.shape
      unfold maxLen at hm_u2
      refine q_ob hok (v := .agg #[.int .i64 ((b.getD k default).batch.client), .int .i64 ((b.getD k default).batch.req), .slice ao_u2 ((b.getD k default).batch.ops.length) cap_u2, .int .u64 ((b.getD k default).ts : Int)]) rfl rfl (by decide) rfl (fun _ hw => Ob_loads TB_Refs rfl rfl rfl (hat2.below hw he2.2.1.2)) ?_; clear hok a; intro a hok
      refine q_call hok (caps := #[]) (v := .bool (sameE (a0.getD k default) (b.getD k default))) fn_60_Refs rfl rfl rfl rfl rfl (by decide) rfl rfl (fun _ hw => c_ref08_Same (a0.getD k default) _ (b.getD k default) _ _ (L1.below hw) hok_e1 (L2.below hw) hok_e2) ?_; clear hok a; intro a hok
      refine q_runk TB_Refs hok 1 rfl rfl ?_; clear hok a; intro a hok
      refine q_end hok [0, 1, 10, 5, 20, 32] rfl ?_; clear hok; intro w2 hb hok
      have hz_w2 : w1.heap.size ≤ w2.heap.size := hb.size
      replace B := B.blw hb
      replace L_a0 := L_a0.below hb
      replace L_b := L_b.below hb
      replace L1 := L1.below hb
      replace L2 := L2.below hb
      clear hb
      refine p_then ?_
      refine f_cond hok rfl (fun hc3 => ?_) (fun hc3 => ?_)
      · replace hc3 := (notT hc3)
        refine wp_seq ?_
        refine f_region hok ?_; clear hok; intro hok
        refine s_runk TB_Refs hok 1 rfl rfl ?_; clear hok a; intro a hok
        refine s_end hok [0, 1, 10, 5, 20, 32, 4] rfl ?_; clear hok; intro hok
        refine p_then ?_
        refine wp_ret ?_
        refine p_blk_r ?_
        refine p_then_r ?_
        refine p_then_r ?_
        refine p_blk_r ?_
        refine p_then_r ?_
        refine f_ret hok (run_results1 rfl hok rfl) ?_
        refine ⟨?_, B.toBelow⟩
        · clear hok B L_a0 L_b L1 L2 hc_v_a0 hm_v_a0 ha_P1 ho_P1 hc_v_b hm_v_b ha_P2 ho_P2 he1 hc_u1 hm_u1 hat1 he2 hc_u2 hm_u2 hat2 hz_w2
          have hp : sameE (a0.getD k default) (b.getD k default) = false := (by first | exact decide_eq_false hc3 | exact decide_eq_false (by omega) | exact hc3); rw [hinv0_1, sameBy_step _ _ _ k (by omega) (by omega), hp, Bool.false_and]
      · replace hc3 := (notF hc3)
        refine wp_skip ?_
        refine p_blk ?_
        refine p_then ?_
        refine f_region hok ?_; clear hok; intro hok
        refine s_runk TB_Refs hok 1 rfl rfl ?_; clear hok a; intro a hok
        refine s_ob hok (v := .int .i64 ((k : Int) + 1)) rfl rfl (by decide) rfl (Ob_add rfl rfl rfl (IntWalk.i64_in _ (by omega))) ?_; clear hok a; intro a hok
        refine s_runk TB_Refs hok 1 rfl rfl ?_; clear hok a; intro a hok
        refine s_end hok [0, 1, 10, 5, 20, 32] rfl ?_; clear hok; intro hok
        refine p_then ?_
        refine ⟨k + 1, ⟨hok.sub (ts := [0, 1, 10, 5]) rfl, ?_, ?_, B, L_a0, L_b⟩, by omega⟩
        · clear hok B L_a0 L_b L1 L2 hc_v_a0 hm_v_a0 ha_P1 ho_P1 hc_v_b hm_v_b ha_P2 ho_P2 he1 hc_u1 hm_u1 hat1 he2 hc_u2 hm_u2 hat2 hz_w2
          omega
        · clear hok B L_a0 L_b L1 L2 hc_v_a0 hm_v_a0 ha_P1 ho_P1 hc_v_b hm_v_b ha_P2 ho_P2 he1 hc_u1 hm_u1 hat1 he2 hc_u2 hm_u2 hat2 hz_w2
          have hp : sameE (a0.getD k default) (b.getD k default) = true := (by first | exact decide_eq_true hc3 | exact decide_eq_true (by omega) | exact hc3); rw [hinv0_1, sameBy_step _ _ _ k (by omega) (by omega), hp, Bool.true_and]
    · replace hc2 := andF hc2 (fun h => of_decide_eq_false h) (fun h => of_decide_eq_false h)
      refine wp_exit ?_
      refine p_then_x ?_
      refine p_then_x ?_
      refine f_exit_here ?_
      refine p_then ?_
      refine wp_seq ?_
      refine f_region hok ?_; clear hok; intro hok
      refine s_runk TB_Refs hok 1 rfl rfl ?_; clear hok a; intro a hok
      refine s_end hok [0, 1, 10, 5, 20, 4] rfl ?_; clear hok; intro hok
      refine p_then ?_
      refine wp_ret ?_
      refine f_ret hok (run_results1 rfl hok rfl) ?_
      refine ⟨?_, B.toBelow⟩
      · clear hok B L_a0 L_b hc_v_a0 hm_v_a0 ha_P1 ho_P1 hc_v_b hm_v_b ha_P2 ho_P2
        rw [hinv0_1, sameBy_end _ _ _ k (by omega) (by omega)]

end Go.Proofs.Ytmdoimpeacndaaa
