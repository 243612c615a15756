/- The walks of 'item' and 'catenaref08': how many have timestamps, the last one. -/
import Derived.Test.YtmdoimpeacndaaaSt5
import Derived.Test.YtmdoimpeacndaaaData
import Derived.Test.YtmdoimpeacndaaaProg
namespace Go.Proofs.Ytmdoimpeacndaaa
open Go.RowKit

def TB_Item1L : TabL := ⟨[(58369, 3)], [], [], [(22, (57, 4))], [(24, (1, false)), (57, (4, true))]⟩

def TB_Item1 : Tab Try.prog := ⟨TB_Item1L, by kernel_rfl⟩

theorem fn_25_Item1 : IsFn Try.prog 25 := ⟨_, Try.func25, by kernel_rfl, by kernel_rfl⟩

theorem fn_35_Item1 : IsFn Try.prog 35 := ⟨_, Try.func35, by kernel_rfl, by kernel_rfl⟩

/-- how many have a timestamp, from the first on -/
def stampedL : List DEntry → Nat
  | [] => 0
  | x :: l => if x.ts = 0 then 0 else stampedL l + 1

theorem stamped_le : ∀ l : List DEntry, stampedL l ≤ l.length
  | [] => Nat.le_refl _
  | x :: l => by simp only [stampedL, List.length_cons]; have := stamped_le l; split <;> omega

theorem stamped_step (l : List DEntry) (k : Nat) (h : k < l.length) : stampedL (l.drop k) = if (l.getD k default).ts = 0 then 0 else stampedL (l.drop (k + 1)) + 1 := by
  rw [drop_getD l k h]; rfl

set_option maxHeartbeats 1000000 in
theorem c_item_Stamped {A0 : Nat → Prop} (v_l : Value) (l : List DEntry) (w : World) (L_l : slRep RDEntry A0 w v_l l) :
    Calls Try.prog 35 #[v_l] w (Ret fun r w' => r = .int .i64 ((stampedL l : Int)) ∧ Below w.heap.size w w') := by
  have B : Bt [] w w := Bt.refl _ _
  obtain ⟨ao_v_l, cap_v_l, rfl, hc_v_l, hm_v_l⟩ := L_l.shape
  unfold maxLen at hm_v_l
  obtain ⟨P1, ha_P1, ho_P1, L_l⟩ : ∃ X : Nat → Prop, (∀ k, X k → k < w.heap.size) ∧ (∀ k, X k → A0 k ∨ w.heap.size ≤ k) ∧ slRep RDEntry X w (.slice ao_v_l l.length cap_v_l) l := ⟨_, fun k h => h.2, fun k h => .inl h.1, L_l.bound⟩
  refine f_enter 19 Try.func35 rfl rfl (Nat.le_of_ble_eq_true rfl) fun a hok => ?_
  replace hok := hok.sub (ts := [0]) rfl
  refine wp_seq ?_
  refine f_region hok ?_; clear hok; intro hok
  refine s_runk TB_Item1 hok 1 rfl rfl ?_; clear hok a; intro a hok
  refine s_end hok [0, 2] rfl ?_; clear hok; intro hok
  refine p_then ?_
  refine wp_seq ?_
  refine wp_seq ?_
  refine f_region hok ?_; clear hok; intro hok
  refine s_runk TB_Item1 hok 3 rfl rfl ?_; clear hok a; intro a hok
  refine s_end hok [0, 2, 5, 6, 7] rfl ?_; clear hok; intro hok
  refine p_then ?_
  refine wp_block ?_
  refine f_loop (σ := Nat) (fun k a w' => Sl 19 [(0, .slice ao_v_l l.length cap_v_l), (5, .slice ao_v_l l.length cap_v_l), (6, .int .i64 (l.length : Int)), (7, .int .i64 (k : Int))] a ∧ (k ≤ l.length ∧ stampedL l = k + stampedL (l.drop k)) ∧ Bt [] w w' ∧ slRep RDEntry P1 w' (.slice ao_v_l l.length cap_v_l) l) (fun k => l.length - k) 0 ⟨hok.sub (ts := [0, 5, 6, 7]) rfl, by simp, B, L_l⟩ ?_
  clear hok B L_l
  rintro k a w1 ⟨hok, hinv0_0, B, L_l⟩
  refine wp_seq ?_
  refine f_region hok ?_; clear hok; intro hok
  refine s_runk TB_Item1 hok 1 rfl rfl ?_; clear hok a; intro a hok
  refine s_end hok [0, 5, 6, 7, 8] rfl ?_; clear hok; intro hok
  refine p_then ?_
  refine wp_seq ?_
  refine f_cond hok rfl (fun hc1 => ?_) (fun hc1 => ?_)
  · replace hc1 := of_decide_eq_true hc1
    refine wp_skip ?_
    refine p_then ?_
    refine wp_seq ?_
    refine wp_block ?_
    refine wp_seq ?_
    refine f_region hok ?_; clear hok; intro hok
    refine s_runk TB_Item1 hok 1 rfl rfl ?_; clear hok a; intro a hok
    have hi1 : k < l.length := by omega
    have he1 := elt L_l (k) (slRep.lt L_l hi1)
    refine s_ob hok (v := .pointer (some ⟨bOf ao_v_l, oOf ao_v_l + k * 4, none⟩)) rfl rfl (by decide) rfl (Ob_idx TB_Item1 (k) rfl rfl he1.1 rfl rfl rfl hi1) ?_; clear hok a; intro a hok
    obtain ⟨_, _, _, ⟨u1, rfl, L1, hok_e1⟩, hat1⟩ := id he1
    obtain ⟨ao_u1, cap_u1, rfl, hc_u1, hm_u1⟩ := L1.shape
    unfold maxLen at hm_u1
    refine s_ob hok (v := .agg #[.int .i64 ((l.getD k default).batch.client), .int .i64 ((l.getD k default).batch.req), .slice ao_u1 ((l.getD k default).batch.ops.length) cap_u1, .int .u64 ((l.getD k default).ts : Int)]) rfl rfl (by decide) rfl (Ob_loads TB_Item1 rfl rfl rfl hat1) ?_; clear hok a; intro a hok
    refine s_alloc hok (cs := [.int .i64 0, .int .i64 0, .slice none 0 0, .int .u64 0]) (z := .agg #[.int .i64 0, .int .i64 0, .slice none 0 0, .int .u64 0]) rfl rfl rfl (by decide) rfl (by kernel_rfl) rfl ?_; clear hok a; intro a w2 b1 hb0_b1 hb1_b1 hb X1 hok
    have hge_b1 : w.heap.size ≤ b1 := by have := B.size; omega
    have hz_w2 : w1.heap.size ≤ w2.heap.size := hb.size
    replace B := B.blw hb
    replace L_l := L_l.below hb
    replace L1 := L1.below hb
    clear hb
    refine s_runk TB_Item1 hok 1 rfl rfl ?_; clear hok a; intro a hok
    refine s_store TB_Item1 hok (us := [.int .i64 ((l.getD k default).batch.client), .int .i64 ((l.getD k default).batch.req), .slice ao_u1 ((l.getD k default).batch.ops.length) cap_u1, .int .u64 ((l.getD k default).ts : Int)]) (cs' := [.int .i64 ((l.getD k default).batch.client), .int .i64 ((l.getD k default).batch.req), .slice ao_u1 ((l.getD k default).batch.ops.length) cap_u1, .int .u64 ((l.getD k default).ts : Int)]) X1 rfl rfl rfl rfl rfl rfl rfl rfl (by simp only [List.mem_cons, List.not_mem_nil, or_false]; rintro u (rfl | rfl | rfl | rfl) <;> rfl) (Nat.le_of_ble_eq_true rfl) rfl fun w3 ht X2 => ?_
    clear X1
    have hz_w3 : w2.heap.size ≤ w3.heap.size := Nat.le_of_eq ht.size.symm
    replace B := B.trn ht (.inr hge_b1)
    replace L_l := L_l.turn ht (fun h => by have := ha_P1 _ h; omega)
    replace L1 := L1.turn ht (fun h => by have := ha_P1 _ h; omega)
    clear ht
    refine s_end hok [0, 5, 6, 7, 8, 4, 3] rfl ?_; clear hok; intro hok
    refine p_then ?_
    refine wp_seq ?_
    refine f_region hok ?_; clear hok; intro hok
    refine s_runk TB_Item1 hok 1 rfl rfl ?_; clear hok a; intro a hok
    refine s_ob hok (v := .int .u64 ((l.getD k default).ts : Int)) rfl rfl (by decide) rfl (Ob_load TB_Item1 rfl rfl rfl (X2.cell 3 rfl)) ?_; clear hok a; intro a hok
    refine s_runk TB_Item1 hok 1 rfl rfl ?_; clear hok a; intro a hok
    refine s_end hok [0, 5, 6, 7, 8, 4, 3, 14] rfl ?_; clear hok; intro hok
    refine p_then ?_
    refine f_cond hok rfl (fun hc2 => ?_) (fun hc2 => ?_)
    · replace hc2 := eq_of_beq hc2
      refine wp_seq ?_
      refine f_region hok ?_; clear hok; intro hok
      refine s_runk TB_Item1 hok 2 rfl rfl ?_; clear hok a; intro a hok
      refine s_end hok [0, 5, 6, 7, 8, 4, 3, 14, 2] rfl ?_; clear hok; intro hok
      refine p_then ?_
      refine wp_ret ?_
      refine p_blk_r ?_
      refine p_then_r ?_
      refine p_then_r ?_
      refine p_blk_r ?_
      refine p_then_r ?_
      refine f_ret hok (run_results1 rfl hok rfl) ?_
      refine ⟨?_, B.toBelow⟩
      · clear hok B L_l L1 X2 hc_v_l hm_v_l ha_P1 ho_P1 he1 hc_u1 hm_u1 hat1 hb0_b1 hb1_b1 hge_b1 hz_w2 hz_w3
        have := stamped_step l k (by omega); rw [if_pos (by simpa using hc2)] at this; exact congrArg _ (by omega)
    · replace hc2 := ne_of_beq_false hc2
      refine wp_skip ?_
      refine p_blk ?_
      refine p_then ?_
      refine f_region hok ?_; clear hok; intro hok
      refine s_ob hok (v := .int .i64 ((k : Int) + 1)) rfl rfl (by decide) rfl (Ob_add rfl rfl rfl (IntWalk.i64_in _ (by omega))) ?_; clear hok a; intro a hok
      refine s_runk TB_Item1 hok 1 rfl rfl ?_; clear hok a; intro a hok
      refine s_end hok [0, 5, 6, 7, 8, 4, 3, 14] rfl ?_; clear hok; intro hok
      refine p_then ?_
      refine ⟨k + 1, ⟨hok.sub (ts := [0, 5, 6, 7]) rfl, ?_, B, L_l⟩, by omega⟩
      · clear hok B L_l L1 X2 hc_v_l hm_v_l ha_P1 ho_P1 he1 hc_u1 hm_u1 hat1 hb0_b1 hb1_b1 hge_b1 hz_w2 hz_w3
        have := stamped_step l k (by omega); rw [if_neg (by simpa using hc2)] at this; omega
  · replace hc1 := of_decide_eq_false hc1
    refine wp_exit ?_
    refine p_then_x ?_
    refine p_then_x ?_
    refine f_exit_here ?_
    refine p_then ?_
    refine wp_seq ?_
    refine f_region hok ?_; clear hok; intro hok
    refine s_runk TB_Item1 hok 3 rfl rfl ?_; clear hok a; intro a hok
    refine s_end hok [0, 5, 6, 7, 8, 2] rfl ?_; clear hok; intro hok
    refine p_then ?_
    refine wp_ret ?_
    refine f_ret hok (run_results1 rfl hok rfl) ?_
    refine ⟨?_, B.toBelow⟩
    · clear hok B L_l hc_v_l hm_v_l ha_P1 ho_P1
      have h0 := hinv0_0.2; rw [List.drop_eq_nil_of_le (by omega)] at h0; simp only [stampedL] at h0; exact congrArg _ (by omega)

set_option maxHeartbeats 1000000 in
theorem c_ref08_Stamped {A0 : Nat → Prop} (v_l : Value) (l : List DEntry) (w : World) (L_l : slRep RDEntry A0 w v_l l) :
    Calls Try.prog 25 #[v_l] w (Ret fun r w' => r = .int .i64 ((stampedL l : Int)) ∧ Below w.heap.size w w') := by
  have B : Bt [] w w := Bt.refl _ _
  obtain ⟨ao_v_l, cap_v_l, rfl, hc_v_l, hm_v_l⟩ := L_l.shape
  unfold maxLen at hm_v_l
  obtain ⟨P1, ha_P1, ho_P1, L_l⟩ : ∃ X : Nat → Prop, (∀ k, X k → k < w.heap.size) ∧ (∀ k, X k → A0 k ∨ w.heap.size ≤ k) ∧ slRep RDEntry X w (.slice ao_v_l l.length cap_v_l) l := ⟨_, fun k h => h.2, fun k h => .inl h.1, L_l.bound⟩
  refine f_enter 19 Try.func25 rfl rfl (Nat.le_of_ble_eq_true rfl) fun a hok => ?_
  replace hok := hok.sub (ts := [0]) rfl
  refine wp_seq ?_
  refine f_region hok ?_; clear hok; intro hok
  refine s_runk TB_Item1 hok 1 rfl rfl ?_; clear hok a; intro a hok
  refine s_end hok [0, 2] rfl ?_; clear hok; intro hok
  refine p_then ?_
  refine wp_seq ?_
  refine wp_seq ?_
  refine f_region hok ?_; clear hok; intro hok
  refine s_runk TB_Item1 hok 1 rfl rfl ?_; clear hok a; intro a hok
  refine s_end hok [0, 2, 3] rfl ?_; clear hok; intro hok
  refine p_then ?_
  refine wp_block ?_
  refine f_loop (σ := Nat) (fun k a w' => Sl 19 [(0, .slice ao_v_l l.length cap_v_l), (3, .int .i64 (k : Int))] a ∧ (k ≤ l.length ∧ stampedL l = k + stampedL (l.drop k)) ∧ Bt [] w w' ∧ slRep RDEntry P1 w' (.slice ao_v_l l.length cap_v_l) l) (fun k => l.length - k) 0 ⟨hok.sub (ts := [0, 3]) rfl, by simp, B, L_l⟩ ?_
  clear hok B L_l
  rintro k a w1 ⟨hok, hinv0_0, B, L_l⟩
  refine wp_seq ?_
  refine wp_seq ?_
  refine f_region hok ?_; clear hok; intro hok
  refine s_runk TB_Item1 hok 4 rfl rfl ?_; clear hok a; intro a hok
  refine s_end hok [0, 3, 7] rfl ?_; clear hok; intro hok
  refine p_then ?_
  refine f_cond hok rfl (fun hc1 => ?_) (fun hc1 => ?_)
  · replace hc1 := of_decide_eq_true hc1
    refine wp_skip ?_
    refine p_then ?_
    refine wp_seq ?_
    refine wp_block ?_
    refine wp_seq ?_
    refine f_region hok ?_; clear hok; intro hok
    refine s_runk TB_Item1 hok 2 rfl rfl ?_; clear hok a; intro a hok
    have hi1 : k < l.length := by omega
    have he1 := elt L_l (k) (slRep.lt L_l hi1)
    refine s_ob hok (v := .pointer (some ⟨bOf ao_v_l, oOf ao_v_l + k * 4, none⟩)) rfl rfl (by decide) rfl (Ob_idx TB_Item1 (k) rfl rfl he1.1 rfl rfl rfl hi1) ?_; clear hok a; intro a hok
    refine s_runk TB_Item1 hok 1 rfl rfl ?_; clear hok a; intro a hok
    obtain ⟨_, _, _, ⟨u1, rfl, L1, hok_e1⟩, hat1⟩ := id he1
    obtain ⟨ao_u1, cap_u1, rfl, hc_u1, hm_u1⟩ := L1.shape
    unfold maxLen at hm_u1
    refine s_ob hok (v := .int .u64 ((l.getD k default).ts : Int)) rfl rfl (by decide) rfl (Ob_load TB_Item1 rfl rfl rfl (hat1 3 _ rfl)) ?_; clear hok a; intro a hok
    refine s_runk TB_Item1 hok 1 rfl rfl ?_; clear hok a; intro a hok
    refine s_end hok [0, 3, 7, 15] rfl ?_; clear hok; intro hok
    refine p_then ?_
    refine f_cond hok rfl (fun hc2 => ?_) (fun hc2 => ?_)
    · replace hc2 := eq_of_beq hc2
      refine wp_seq ?_
      refine f_region hok ?_; clear hok; intro hok
      refine s_runk TB_Item1 hok 2 rfl rfl ?_; clear hok a; intro a hok
      refine s_end hok [0, 3, 7, 15, 2] rfl ?_; clear hok; intro hok
      refine p_then ?_
      refine wp_ret ?_
      refine p_blk_r ?_
      refine p_then_r ?_
      refine p_then_r ?_
      refine p_blk_r ?_
      refine p_then_r ?_
      refine f_ret hok (run_results1 rfl hok rfl) ?_
      refine ⟨?_, B.toBelow⟩
      · clear hok B L_l L1 hc_v_l hm_v_l ha_P1 ho_P1 he1 hc_u1 hm_u1 hat1
        have := stamped_step l k (by omega); rw [if_pos (by simpa using hc2)] at this; exact congrArg _ (by omega)
    · replace hc2 := ne_of_beq_false hc2
      refine wp_skip ?_
      refine p_blk ?_
      refine p_then ?_
      refine f_region hok ?_; clear hok; intro hok
      refine s_runk TB_Item1 hok 1 rfl rfl ?_; clear hok a; intro a hok
      refine s_ob hok (v := .int .i64 ((k : Int) + 1)) rfl rfl (by decide) rfl (Ob_add rfl rfl rfl (IntWalk.i64_in _ (by omega))) ?_; clear hok a; intro a hok
      refine s_runk TB_Item1 hok 1 rfl rfl ?_; clear hok a; intro a hok
      refine s_end hok [0, 3, 7, 15] rfl ?_; clear hok; intro hok
      refine p_then ?_
      refine ⟨k + 1, ⟨hok.sub (ts := [0, 3]) rfl, ?_, B, L_l⟩, by omega⟩
      · clear hok B L_l L1 hc_v_l hm_v_l ha_P1 ho_P1 he1 hc_u1 hm_u1 hat1
        have := stamped_step l k (by omega); rw [if_neg (by simpa using hc2)] at this; omega
  · replace hc1 := of_decide_eq_false hc1
    refine wp_exit ?_
    refine p_then_x ?_
    refine p_then_x ?_
    refine f_exit_here ?_
    refine p_then ?_
    refine wp_seq ?_
    refine f_region hok ?_; clear hok; intro hok
    refine s_runk TB_Item1 hok 3 rfl rfl ?_; clear hok a; intro a hok
    refine s_end hok [0, 3, 7, 2] rfl ?_; clear hok; intro hok
    refine p_then ?_
    refine wp_ret ?_
    refine f_ret hok (run_results1 rfl hok rfl) ?_
    refine ⟨?_, B.toBelow⟩
    · clear hok B L_l hc_v_l hm_v_l ha_P1 ho_P1
      have h0 := hinv0_0.2; rw [List.drop_eq_nil_of_le (by omega)] at h0; simp only [stampedL] at h0; exact congrArg _ (by omega)

/-- the last timestamp -/
def lastL (l : List DEntry) : Nat := if stampedL l = 0 then 0 else (l.getD (stampedL l - 1) default).ts

set_option maxHeartbeats 1000000 in
theorem c_item_Last {A0 : Nat → Prop} (v_l : Value) (l : List DEntry) (w : World) (L_l : slRep RDEntry A0 w v_l l) :
    Calls Try.prog 46 #[v_l] w (Ret fun r w' => r = .int .u64 ((lastL l : Nat) : Int) ∧ Below w.heap.size w w') := by
  have B : Bt [] w w := Bt.refl _ _
  obtain ⟨ao_v_l, cap_v_l, rfl, hc_v_l, hm_v_l⟩ := L_l.shape
  unfold maxLen at hm_v_l
  obtain ⟨P1, ha_P1, ho_P1, L_l⟩ : ∃ X : Nat → Prop, (∀ k, X k → k < w.heap.size) ∧ (∀ k, X k → A0 k ∨ w.heap.size ≤ k) ∧ slRep RDEntry X w (.slice ao_v_l l.length cap_v_l) l := ⟨_, fun k h => h.2, fun k h => .inl h.1, L_l.bound⟩
  have hle := stamped_le l
  refine f_enter 14 Try.func46 rfl rfl (Nat.le_of_ble_eq_true rfl) fun a hok => ?_
  replace hok := hok.sub (ts := [0]) rfl
  refine wp_seq ?_
  refine f_region hok ?_; clear hok; intro hok
  refine s_runk TB_Item1 hok 1 rfl rfl ?_; clear hok a; intro a hok
  refine s_end hok [0, 2] rfl ?_; clear hok; intro hok
  refine p_then ?_
  refine wp_seq ?_
  refine wp_seq ?_
  refine f_region hok ?_; clear hok; intro hok
  refine s_runk TB_Item1 hok 1 rfl rfl ?_; clear hok a; intro a hok
  refine s_call hok fn_35_Item1 (caps := #[]) rfl rfl rfl rfl rfl (by decide) rfl rfl (c_item_Stamped _ l _ L_l) ?_; clear hok a; intro _ a w1 hr hok
  obtain ⟨rfl, hb⟩ := hr
  have hz_w1 : w.heap.size ≤ w1.heap.size := hb.size
  replace B := B.blw hb
  replace L_l := L_l.below hb
  clear hb
  refine s_runk TB_Item1 hok 1 rfl rfl ?_; clear hok a; intro a hok
  refine s_end hok [0, 2, 3] rfl ?_; clear hok; intro hok
  refine p_then ?_
  refine wp_seq ?_
  refine f_region hok ?_; clear hok; intro hok
  refine s_runk TB_Item1 hok 2 rfl rfl ?_; clear hok a; intro a hok
  refine s_end hok [0, 2, 3, 7] rfl ?_; clear hok; intro hok
  refine p_then ?_
  refine f_cond hok rfl (fun hc1 => ?_) (fun hc1 => ?_)
  · replace hc1 := of_decide_eq_true hc1
    refine wp_seq ?_
    refine f_region hok ?_; clear hok; intro hok
    refine s_runk TB_Item1 hok 2 rfl rfl ?_; clear hok a; intro a hok
    refine s_ob hok (v := .int .i64 ((stampedL l - 1 : Nat) : Int)) rfl rfl (by decide) rfl (Ob_sub rfl rfl rfl ((IntWalk.i64_in _ (by omega)).trans (by omega))) ?_; clear hok a; intro a hok
    have hi1 : (stampedL l - 1) < l.length := by omega
    have he1 := elt L_l ((stampedL l - 1)) (slRep.lt L_l hi1)
    refine s_ob hok (v := .pointer (some ⟨bOf ao_v_l, oOf ao_v_l + (stampedL l - 1) * 4, none⟩)) rfl rfl (by decide) rfl (Ob_idx TB_Item1 ((stampedL l - 1)) rfl rfl he1.1 rfl rfl rfl hi1) ?_; clear hok a; intro a hok
    refine s_runk TB_Item1 hok 1 rfl rfl ?_; clear hok a; intro a hok
    obtain ⟨_, _, _, ⟨u1, rfl, L1, hok_e1⟩, hat1⟩ := id he1
    obtain ⟨ao_u1, cap_u1, rfl, hc_u1, hm_u1⟩ := L1.shape
    unfold maxLen at hm_u1
    refine s_ob hok (v := .int .u64 ((l.getD (stampedL l - 1) default).ts : Int)) rfl rfl (by decide) rfl (Ob_load TB_Item1 rfl rfl rfl (hat1 3 _ rfl)) ?_; clear hok a; intro a hok
    refine s_runk TB_Item1 hok 1 rfl rfl ?_; clear hok a; intro a hok
    refine s_end hok [0, 2, 3, 7] rfl ?_; clear hok; intro hok
    refine p_then ?_
    refine wp_ret ?_
    refine p_then_r ?_
    refine f_ret hok (run_results1 rfl hok rfl) ?_
    refine ⟨?_, B.toBelow⟩
    · clear hok B L_l L1 hc_v_l hm_v_l ha_P1 ho_P1 hz_w1 he1 hc_u1 hm_u1 hat1
      simp only [lastL]; rw [if_neg (by omega)]
  · replace hc1 := of_decide_eq_false hc1
    refine wp_skip ?_
    refine p_then ?_
    refine wp_seq ?_
    refine f_region hok ?_; clear hok; intro hok
    refine s_runk TB_Item1 hok 1 rfl rfl ?_; clear hok a; intro a hok
    refine s_end hok [0, 2, 3, 7] rfl ?_; clear hok; intro hok
    refine p_then ?_
    refine wp_ret ?_
    refine f_ret hok (run_results1 rfl hok rfl) ?_
    refine ⟨?_, B.toBelow⟩
    · clear hok B L_l hc_v_l hm_v_l ha_P1 ho_P1 hz_w1
      simp only [lastL]; rw [if_pos (by omega)]; rfl

set_option maxHeartbeats 1000000 in
theorem c_ref08_Last {A0 : Nat → Prop} (v_l : Value) (l : List DEntry) (w : World) (L_l : slRep RDEntry A0 w v_l l) :
    Calls Try.prog 27 #[v_l] w (Ret fun r w' => r = .int .u64 ((lastL l : Nat) : Int) ∧ Below w.heap.size w w') := by
  have B : Bt [] w w := Bt.refl _ _
  obtain ⟨ao_v_l, cap_v_l, rfl, hc_v_l, hm_v_l⟩ := L_l.shape
  unfold maxLen at hm_v_l
  obtain ⟨P1, ha_P1, ho_P1, L_l⟩ : ∃ X : Nat → Prop, (∀ k, X k → k < w.heap.size) ∧ (∀ k, X k → A0 k ∨ w.heap.size ≤ k) ∧ slRep RDEntry X w (.slice ao_v_l l.length cap_v_l) l := ⟨_, fun k h => h.2, fun k h => .inl h.1, L_l.bound⟩
  have hle := stamped_le l
  refine f_enter 14 Try.func27 rfl rfl (Nat.le_of_ble_eq_true rfl) fun a hok => ?_
  replace hok := hok.sub (ts := [0]) rfl
  refine wp_seq ?_
  refine f_region hok ?_; clear hok; intro hok
  refine s_runk TB_Item1 hok 1 rfl rfl ?_; clear hok a; intro a hok
  refine s_end hok [0, 2] rfl ?_; clear hok; intro hok
  refine p_then ?_
  refine wp_seq ?_
  refine f_region hok ?_; clear hok; intro hok
  refine s_runk TB_Item1 hok 1 rfl rfl ?_; clear hok a; intro a hok
  refine s_call hok fn_25_Item1 (caps := #[]) rfl rfl rfl rfl rfl (by decide) rfl rfl (c_ref08_Stamped _ l _ L_l) ?_; clear hok a; intro _ a w1 hr hok
  obtain ⟨rfl, hb⟩ := hr
  have hz_w1 : w.heap.size ≤ w1.heap.size := hb.size
  replace B := B.blw hb
  replace L_l := L_l.below hb
  clear hb
  refine s_runk TB_Item1 hok 1 rfl rfl ?_; clear hok a; intro a hok
  refine s_end hok [0, 2, 3] rfl ?_; clear hok; intro hok
  refine p_then ?_
  refine wp_seq ?_
  refine wp_seq ?_
  refine f_region hok ?_; clear hok; intro hok
  refine s_runk TB_Item1 hok 2 rfl rfl ?_; clear hok a; intro a hok
  refine s_end hok [0, 2, 3, 7] rfl ?_; clear hok; intro hok
  refine p_then ?_
  refine f_cond hok rfl (fun hc1 => ?_) (fun hc1 => ?_)
  · replace hc1 := eq_of_beq hc1
    refine wp_seq ?_
    refine f_region hok ?_; clear hok; intro hok
    refine s_runk TB_Item1 hok 1 rfl rfl ?_; clear hok a; intro a hok
    refine s_end hok [0, 2, 3, 7] rfl ?_; clear hok; intro hok
    refine p_then ?_
    refine wp_ret ?_
    refine p_then_r ?_
    refine f_ret hok (run_results1 rfl hok rfl) ?_
    refine ⟨?_, B.toBelow⟩
    · clear hok B L_l hc_v_l hm_v_l ha_P1 ho_P1 hz_w1
      simp only [lastL]; rw [if_pos (by omega)]; rfl
  · replace hc1 := ne_of_beq_false hc1
    refine wp_skip ?_
    refine p_then ?_
    refine wp_seq ?_
    refine f_region hok ?_; clear hok; intro hok
    refine s_runk TB_Item1 hok 2 rfl rfl ?_; clear hok a; intro a hok
    refine s_ob hok (v := .int .i64 ((stampedL l - 1 : Nat) : Int)) rfl rfl (by decide) rfl (Ob_sub rfl rfl rfl ((IntWalk.i64_in _ (by omega)).trans (by omega))) ?_; clear hok a; intro a hok
    have hi1 : (stampedL l - 1) < l.length := by omega
    have he1 := elt L_l ((stampedL l - 1)) (slRep.lt L_l hi1)
    refine s_ob hok (v := .pointer (some ⟨bOf ao_v_l, oOf ao_v_l + (stampedL l - 1) * 4, none⟩)) rfl rfl (by decide) rfl (Ob_idx TB_Item1 ((stampedL l - 1)) rfl rfl he1.1 rfl rfl rfl hi1) ?_; clear hok a; intro a hok
    refine s_runk TB_Item1 hok 1 rfl rfl ?_; clear hok a; intro a hok
    obtain ⟨_, _, _, ⟨u1, rfl, L1, hok_e1⟩, hat1⟩ := id he1
    obtain ⟨ao_u1, cap_u1, rfl, hc_u1, hm_u1⟩ := L1.shape
    unfold maxLen at hm_u1
    refine s_ob hok (v := .int .u64 ((l.getD (stampedL l - 1) default).ts : Int)) rfl rfl (by decide) rfl (Ob_load TB_Item1 rfl rfl rfl (hat1 3 _ rfl)) ?_; clear hok a; intro a hok
    refine s_runk TB_Item1 hok 1 rfl rfl ?_; clear hok a; intro a hok
    refine s_end hok [0, 2, 3, 7] rfl ?_; clear hok; intro hok
    refine p_then ?_
    refine wp_ret ?_
    refine f_ret hok (run_results1 rfl hok rfl) ?_
    refine ⟨?_, B.toBelow⟩
    · clear hok B L_l L1 hc_v_l hm_v_l ha_P1 ho_P1 hz_w1 he1 hc_u1 hm_u1 hat1
      simp only [lastL]; rw [if_neg (by omega)]

end Go.Proofs.Ytmdoimpeacndaaa
