/- The walks of 'relay' and its reference: what is held, what is learned; how much a log is. -/
import Derived.Test.YtmdoimpeacndaaaStamp
namespace Go.Proofs.Ytmdoimpeacndaaa
open Go.RowKit

def TB_Relay1L : TabL := ⟨[(37895, 7), (37897, 9), (37904, 20)], [], [], [(22, (57, 4)), (34, (24, 1)), (45, (82, 18))], [(3, (1, false)), (24, (1, false)), (34, (1, false))]⟩

def TB_Relay1 : Tab Try.prog := ⟨TB_Relay1L, by kernel_rfl⟩

theorem fn_25_Relay1 : IsFn Try.prog 25 := ⟨_, Try.func25, by kernel_rfl, by kernel_rfl⟩

theorem fn_27_Relay1 : IsFn Try.prog 27 := ⟨_, Try.func27, by kernel_rfl, by kernel_rfl⟩

theorem fn_29_Relay1 : IsFn Try.prog 29 := ⟨_, Try.func29, by kernel_rfl, by kernel_rfl⟩

theorem fn_35_Relay1 : IsFn Try.prog 35 := ⟨_, Try.func35, by kernel_rfl, by kernel_rfl⟩

theorem fn_39_Relay1 : IsFn Try.prog 39 := ⟨_, Try.func39, by kernel_rfl, by kernel_rfl⟩

theorem fn_46_Relay1 : IsFn Try.prog 46 := ⟨_, Try.func46, by kernel_rfl, by kernel_rfl⟩

theorem E_45_Relay1 : Elem Try.prog 45 82 18 192 := ⟨Try.underlying45, by
  have h : (Try.prog.info? 82).map (fun i => (i.zero, i.size, i.bytes)) = some (some (.agg #[.int .i64 0, .int .i64 0, .int .u64 0, .int .i64 0, .slice none 0 0, .int .u64 0, .slice none 0 0, .int .i64 0, .int .i64 0, .slice none 0 0, .int .u64 0, .int .i64 0, .int .u64 0, .int .i64 0, .int .i64 0, .int .i64 0, .int .i64 0, .int .i64 0]), 18, 192) := by kernel_rfl
  obtain ⟨i, h1, h2, h3, h4⟩ := info_parts h
  exact ⟨i, _, h1, h2, h3, h4, rfl⟩, by decide⟩

set_option maxHeartbeats 1000000 in
theorem c_relay_Held (good : Int) (stamped : Int) (tail : Bool) (behind : Int) (w : World) (h_good : i64ok good) (h_stamped : i64ok stamped) (h_behind : i64ok behind) :
    Calls Try.prog 18 #[.int .i64 good, .int .i64 stamped, .bool tail, .int .i64 behind] w (Ret fun r w' => r = .int .i64 ((if tail = true then max (min good stamped) 0 else max (min (min good stamped) behind) 0)) ∧ Below w.heap.size w w') := by
  have B : Bt [] w w := Bt.refl _ _
  unfold i64ok at h_good
  unfold i64ok at h_stamped
  unfold i64ok at h_behind
  refine f_enter 20 Try.func18 rfl rfl (Nat.le_of_ble_eq_true rfl) fun a hok => ?_
  replace hok := hok.sub (ts := [0, 1, 2, 3]) rfl
  refine wp_seq ?_
  refine f_region hok ?_; clear hok; intro hok
  refine s_runk TB_Relay1 hok 1 rfl rfl ?_; clear hok a; intro a hok
  refine s_end hok [0, 1, 2, 3, 8] rfl ?_; clear hok; intro hok
  refine p_then ?_
  refine wp_seq ?_
  refine f_region hok ?_; clear hok; intro hok
  refine s_runk TB_Relay1 hok 4 rfl rfl ?_; clear hok a; intro a hok
  refine s_end hok [0, 1, 2, 3, 8, 9] rfl ?_; clear hok; intro hok
  refine p_then ?_
  refine wp_seq ?_
  refine wp_seq ?_
  refine f_region hok ?_; clear hok; intro hok
  refine s_runk TB_Relay1 hok 2 rfl rfl ?_; clear hok a; intro a hok
  refine s_end hok [0, 1, 2, 3, 8, 9, 14] rfl ?_; clear hok; intro hok
  refine p_then ?_
  refine f_cond hok rfl (fun hc1 => ?_) (fun hc1 => ?_)
  · replace hc1 := (notT hc1)
    refine f_region hok ?_; clear hok; intro hok
    refine s_runk TB_Relay1 hok 4 rfl rfl ?_; clear hok a; intro a hok
    refine s_end hok [0, 1, 2, 3, 8, 9, 14] rfl ?_; clear hok; intro hok
    refine p_then ?_
    refine wp_seq ?_
    refine f_region hok ?_; clear hok; intro hok
    refine s_runk TB_Relay1 hok 3 rfl rfl ?_; clear hok a; intro a hok
    refine s_end hok [0, 1, 2, 3, 8, 9, 14] rfl ?_; clear hok; intro hok
    refine p_then ?_
    refine wp_ret ?_
    refine f_ret hok (run_results1 rfl hok rfl) ?_
    refine ⟨?_, B.toBelow⟩
    · clear hok B
      ((repeat' split) <;> first | rfl | (exfalso; omega) | grind)
  · replace hc1 := (notF hc1)
    refine wp_skip ?_
    refine p_then ?_
    refine wp_seq ?_
    refine f_region hok ?_; clear hok; intro hok
    refine s_runk TB_Relay1 hok 3 rfl rfl ?_; clear hok a; intro a hok
    refine s_end hok [0, 1, 2, 3, 8, 9, 14] rfl ?_; clear hok; intro hok
    refine p_then ?_
    refine wp_ret ?_
    refine f_ret hok (run_results1 rfl hok rfl) ?_
    refine ⟨?_, B.toBelow⟩
    · clear hok B
      ((repeat' split) <;> first | rfl | (exfalso; omega) | grind)

set_option maxHeartbeats 1000000 in
theorem c_ref32_Held (good : Int) (stamped : Int) (tail : Bool) (behind : Int) (w : World) (h_good : i64ok good) (h_stamped : i64ok stamped) (h_behind : i64ok behind) :
    Calls Try.prog 19 #[.int .i64 good, .int .i64 stamped, .bool tail, .int .i64 behind] w (Ret fun r w' => r = .int .i64 ((if tail = true then max (min good stamped) 0 else max (min (min good stamped) behind) 0)) ∧ Below w.heap.size w w') := by
  have B : Bt [] w w := Bt.refl _ _
  unfold i64ok at h_good
  unfold i64ok at h_stamped
  unfold i64ok at h_behind
  refine f_enter 20 Try.func19 rfl rfl (Nat.le_of_ble_eq_true rfl) fun a hok => ?_
  replace hok := hok.sub (ts := [0, 1, 2, 3]) rfl
  refine wp_seq ?_
  refine f_region hok ?_; clear hok; intro hok
  refine s_runk TB_Relay1 hok 1 rfl rfl ?_; clear hok a; intro a hok
  refine s_end hok [0, 1, 2, 3, 8] rfl ?_; clear hok; intro hok
  refine p_then ?_
  refine wp_seq ?_
  refine f_region hok ?_; clear hok; intro hok
  refine s_runk TB_Relay1 hok 4 rfl rfl ?_; clear hok a; intro a hok
  refine s_end hok [0, 1, 2, 3, 8, 9] rfl ?_; clear hok; intro hok
  refine p_then ?_
  refine wp_seq ?_
  refine wp_seq ?_
  refine f_region hok ?_; clear hok; intro hok
  refine s_runk TB_Relay1 hok 2 rfl rfl ?_; clear hok a; intro a hok
  refine s_end hok [0, 1, 2, 3, 8, 9, 14] rfl ?_; clear hok; intro hok
  refine p_then ?_
  refine f_cond hok rfl (fun hc1 => ?_) (fun hc1 => ?_)
  · replace hc1 := (notT hc1)
    refine f_region hok ?_; clear hok; intro hok
    refine s_runk TB_Relay1 hok 4 rfl rfl ?_; clear hok a; intro a hok
    refine s_end hok [0, 1, 2, 3, 8, 9, 14] rfl ?_; clear hok; intro hok
    refine p_then ?_
    refine wp_seq ?_
    refine f_region hok ?_; clear hok; intro hok
    refine s_runk TB_Relay1 hok 3 rfl rfl ?_; clear hok a; intro a hok
    refine s_end hok [0, 1, 2, 3, 8, 9, 14] rfl ?_; clear hok; intro hok
    refine p_then ?_
    refine wp_ret ?_
    refine f_ret hok (run_results1 rfl hok rfl) ?_
    refine ⟨?_, B.toBelow⟩
    · clear hok B
      ((repeat' split) <;> first | rfl | (exfalso; omega) | grind)
  · replace hc1 := (notF hc1)
    refine wp_skip ?_
    refine p_then ?_
    refine wp_seq ?_
    refine f_region hok ?_; clear hok; intro hok
    refine s_runk TB_Relay1 hok 3 rfl rfl ?_; clear hok a; intro a hok
    refine s_end hok [0, 1, 2, 3, 8, 9, 14] rfl ?_; clear hok; intro hok
    refine p_then ?_
    refine wp_ret ?_
    refine f_ret hok (run_results1 rfl hok rfl) ?_
    refine ⟨?_, B.toBelow⟩
    · clear hok B
      ((repeat' split) <;> first | rfl | (exfalso; omega) | grind)

set_option maxHeartbeats 1000000 in
theorem c_relay_Good {A0 : Nat → Prop} {A1 : Nat → Prop} {A2 : Nat → Prop} {A3 : Nat → Prop} {A4 : Nat → Prop} (x : DMsg) (v0_x : Value) (v1_x : Value) (v2_x : Value) (v3_x : Value) (v4_x : Value) (good : Int) (w : World) (L0_x : slRep RDMember A0 w v0_x x.conf.members) (L1_x : slRep RDOp A1 w v1_x x.batch.ops) (L2_x : slRep RDEntry A2 w v2_x x.entries) (L3_x : slRep RU A3 w v3_x x.stamps) (L4_x : slRep RDPair A4 w v4_x x.pairs) (h_x : okDMsg x) (h_good : i64ok good) :
    Calls Try.prog 20 #[.agg #[.int .i64 x.k, .int .i64 x.epoch, .int .i64 x.req, .int .i64 x.serial, .bool x.flag, .int .u64 (x.at_ : Int), .int .u64 (x.last : Int), .int .i64 x.n, .int .i64 x.m, .int .i64 x.p, .int .i64 x.e, .string x.key, .string x.to_, .int .i64 x.conf.epoch, v0_x, .int .u64 (x.conf.floor : Int), .int .i64 x.batch.client, .int .i64 x.batch.req, v1_x, v2_x, v3_x, v4_x], .int .i64 good] w (Ret fun r w' => r = .int .i64 (max (min x.n good) 0) ∧ Below w.heap.size w w') := by
  have B : Bt [] w w := Bt.refl _ _
  obtain ⟨ao_v0_x, cap_v0_x, rfl, hc_v0_x, hm_v0_x⟩ := L0_x.shape
  unfold maxLen at hm_v0_x
  obtain ⟨P1, ha_P1, ho_P1, L0_x⟩ : ∃ X : Nat → Prop, (∀ k, X k → k < w.heap.size) ∧ (∀ k, X k → A0 k ∨ A1 k ∨ A2 k ∨ A3 k ∨ A4 k ∨ w.heap.size ≤ k) ∧ slRep RDMember X w (.slice ao_v0_x x.conf.members.length cap_v0_x) x.conf.members := ⟨_, fun k h => h.2, fun k h => .inl h.1, L0_x.bound⟩
  obtain ⟨ao_v1_x, cap_v1_x, rfl, hc_v1_x, hm_v1_x⟩ := L1_x.shape
  unfold maxLen at hm_v1_x
  obtain ⟨P2, ha_P2, ho_P2, L1_x⟩ : ∃ X : Nat → Prop, (∀ k, X k → k < w.heap.size) ∧ (∀ k, X k → A0 k ∨ A1 k ∨ A2 k ∨ A3 k ∨ A4 k ∨ w.heap.size ≤ k) ∧ slRep RDOp X w (.slice ao_v1_x x.batch.ops.length cap_v1_x) x.batch.ops := ⟨_, fun k h => h.2, fun k h => .inr (.inl h.1), L1_x.bound⟩
  obtain ⟨ao_v2_x, cap_v2_x, rfl, hc_v2_x, hm_v2_x⟩ := L2_x.shape
  unfold maxLen at hm_v2_x
  obtain ⟨P3, ha_P3, ho_P3, L2_x⟩ : ∃ X : Nat → Prop, (∀ k, X k → k < w.heap.size) ∧ (∀ k, X k → A0 k ∨ A1 k ∨ A2 k ∨ A3 k ∨ A4 k ∨ w.heap.size ≤ k) ∧ slRep RDEntry X w (.slice ao_v2_x x.entries.length cap_v2_x) x.entries := ⟨_, fun k h => h.2, fun k h => .inr (.inr (.inl h.1)), L2_x.bound⟩
  obtain ⟨ao_v3_x, cap_v3_x, rfl, hc_v3_x, hm_v3_x⟩ := L3_x.shape
  unfold maxLen at hm_v3_x
  obtain ⟨P4, ha_P4, ho_P4, L3_x⟩ : ∃ X : Nat → Prop, (∀ k, X k → k < w.heap.size) ∧ (∀ k, X k → A0 k ∨ A1 k ∨ A2 k ∨ A3 k ∨ A4 k ∨ w.heap.size ≤ k) ∧ slRep RU X w (.slice ao_v3_x x.stamps.length cap_v3_x) x.stamps := ⟨_, fun k h => h.2, fun k h => .inr (.inr (.inr (.inl h.1))), L3_x.bound⟩
  obtain ⟨ao_v4_x, cap_v4_x, rfl, hc_v4_x, hm_v4_x⟩ := L4_x.shape
  unfold maxLen at hm_v4_x
  obtain ⟨P5, ha_P5, ho_P5, L4_x⟩ : ∃ X : Nat → Prop, (∀ k, X k → k < w.heap.size) ∧ (∀ k, X k → A0 k ∨ A1 k ∨ A2 k ∨ A3 k ∨ A4 k ∨ w.heap.size ≤ k) ∧ slRep RDPair X w (.slice ao_v4_x x.pairs.length cap_v4_x) x.pairs := ⟨_, fun k h => h.2, fun k h => .inr (.inr (.inr (.inr (.inl h.1)))), L4_x.bound⟩
  unfold i64ok at h_good
  refine f_enter 10 Try.func20 rfl rfl (Nat.le_of_ble_eq_true rfl) fun a hok => ?_
  replace hok := hok.sub (ts := [0, 1]) rfl
  refine wp_seq ?_
  refine f_region hok ?_; clear hok; intro hok
  refine s_boxv hok (cs := [.int .i64 x.k, .int .i64 x.epoch, .int .i64 x.req, .int .i64 x.serial, .bool x.flag, .int .u64 (x.at_ : Int), .int .u64 (x.last : Int), .int .i64 x.n, .int .i64 x.m, .int .i64 x.p, .int .i64 x.e, .string x.key, .string x.to_, .int .i64 x.conf.epoch, .slice ao_v0_x x.conf.members.length cap_v0_x, .int .u64 (x.conf.floor : Int), .int .i64 x.batch.client, .int .i64 x.batch.req, .slice ao_v1_x x.batch.ops.length cap_v1_x, .slice ao_v2_x x.entries.length cap_v2_x, .slice ao_v3_x x.stamps.length cap_v3_x, .slice ao_v4_x x.pairs.length cap_v4_x]) rfl rfl rfl (by decide) rfl rfl rfl ?_; clear hok a; intro a w1 b1 hb0_b1 hb1_b1 hb X1 hok
  have hge_b1 : w.heap.size ≤ b1 := by have := B.size; omega
  have hz_w1 : w.heap.size ≤ w1.heap.size := hb.size
  replace B := B.blw hb
  replace L0_x := L0_x.below hb
  replace L1_x := L1_x.below hb
  replace L2_x := L2_x.below hb
  replace L3_x := L3_x.below hb
  replace L4_x := L4_x.below hb
  clear hb
  refine s_runk TB_Relay1 hok 1 rfl rfl ?_; clear hok a; intro a hok
  refine s_end hok [0, 1, 2, 4] rfl ?_; clear hok; intro hok
  refine p_then ?_
  refine wp_seq ?_
  refine f_region hok ?_; clear hok; intro hok
  refine s_runk TB_Relay1 hok 1 rfl rfl ?_; clear hok a; intro a hok
  refine s_ob hok (v := .int .i64 x.n) rfl rfl (by decide) rfl (Ob_load TB_Relay1 rfl rfl rfl (X1.cell 7 rfl)) ?_; clear hok a; intro a hok
  refine s_runk TB_Relay1 hok 4 rfl rfl ?_; clear hok a; intro a hok
  refine s_end hok [0, 1, 2, 4] rfl ?_; clear hok; intro hok
  refine p_then ?_
  refine wp_ret ?_
  refine f_ret hok (run_results1 rfl hok rfl) ?_
  refine ⟨?_, B.toBelow⟩
  · clear hok B L0_x L1_x L2_x L3_x L4_x X1 hc_v0_x hm_v0_x ha_P1 ho_P1 hc_v1_x hm_v1_x ha_P2 ho_P2 hc_v2_x hm_v2_x ha_P3 ho_P3 hc_v3_x hm_v3_x ha_P4 ho_P4 hc_v4_x hm_v4_x ha_P5 ho_P5 hb0_b1 hb1_b1 hge_b1 hz_w1
    rfl

set_option maxHeartbeats 1000000 in
theorem c_ref32_Good {A0 : Nat → Prop} {A1 : Nat → Prop} {A2 : Nat → Prop} {A3 : Nat → Prop} {A4 : Nat → Prop} (x : DMsg) (v0_x : Value) (v1_x : Value) (v2_x : Value) (v3_x : Value) (v4_x : Value) (good : Int) (w : World) (L0_x : slRep RDMember A0 w v0_x x.conf.members) (L1_x : slRep RDOp A1 w v1_x x.batch.ops) (L2_x : slRep RDEntry A2 w v2_x x.entries) (L3_x : slRep RU A3 w v3_x x.stamps) (L4_x : slRep RDPair A4 w v4_x x.pairs) (h_x : okDMsg x) (h_good : i64ok good) :
    Calls Try.prog 21 #[.agg #[.int .i64 x.k, .int .i64 x.epoch, .int .i64 x.req, .int .i64 x.serial, .bool x.flag, .int .u64 (x.at_ : Int), .int .u64 (x.last : Int), .int .i64 x.n, .int .i64 x.m, .int .i64 x.p, .int .i64 x.e, .string x.key, .string x.to_, .int .i64 x.conf.epoch, v0_x, .int .u64 (x.conf.floor : Int), .int .i64 x.batch.client, .int .i64 x.batch.req, v1_x, v2_x, v3_x, v4_x], .int .i64 good] w (Ret fun r w' => r = .int .i64 (max (min x.n good) 0) ∧ Below w.heap.size w w') := by
  have B : Bt [] w w := Bt.refl _ _
  obtain ⟨ao_v0_x, cap_v0_x, rfl, hc_v0_x, hm_v0_x⟩ := L0_x.shape
  unfold maxLen at hm_v0_x
  obtain ⟨P1, ha_P1, ho_P1, L0_x⟩ : ∃ X : Nat → Prop, (∀ k, X k → k < w.heap.size) ∧ (∀ k, X k → A0 k ∨ A1 k ∨ A2 k ∨ A3 k ∨ A4 k ∨ w.heap.size ≤ k) ∧ slRep RDMember X w (.slice ao_v0_x x.conf.members.length cap_v0_x) x.conf.members := ⟨_, fun k h => h.2, fun k h => .inl h.1, L0_x.bound⟩
  obtain ⟨ao_v1_x, cap_v1_x, rfl, hc_v1_x, hm_v1_x⟩ := L1_x.shape
  unfold maxLen at hm_v1_x
  obtain ⟨P2, ha_P2, ho_P2, L1_x⟩ : ∃ X : Nat → Prop, (∀ k, X k → k < w.heap.size) ∧ (∀ k, X k → A0 k ∨ A1 k ∨ A2 k ∨ A3 k ∨ A4 k ∨ w.heap.size ≤ k) ∧ slRep RDOp X w (.slice ao_v1_x x.batch.ops.length cap_v1_x) x.batch.ops := ⟨_, fun k h => h.2, fun k h => .inr (.inl h.1), L1_x.bound⟩
  obtain ⟨ao_v2_x, cap_v2_x, rfl, hc_v2_x, hm_v2_x⟩ := L2_x.shape
  unfold maxLen at hm_v2_x
  obtain ⟨P3, ha_P3, ho_P3, L2_x⟩ : ∃ X : Nat → Prop, (∀ k, X k → k < w.heap.size) ∧ (∀ k, X k → A0 k ∨ A1 k ∨ A2 k ∨ A3 k ∨ A4 k ∨ w.heap.size ≤ k) ∧ slRep RDEntry X w (.slice ao_v2_x x.entries.length cap_v2_x) x.entries := ⟨_, fun k h => h.2, fun k h => .inr (.inr (.inl h.1)), L2_x.bound⟩
  obtain ⟨ao_v3_x, cap_v3_x, rfl, hc_v3_x, hm_v3_x⟩ := L3_x.shape
  unfold maxLen at hm_v3_x
  obtain ⟨P4, ha_P4, ho_P4, L3_x⟩ : ∃ X : Nat → Prop, (∀ k, X k → k < w.heap.size) ∧ (∀ k, X k → A0 k ∨ A1 k ∨ A2 k ∨ A3 k ∨ A4 k ∨ w.heap.size ≤ k) ∧ slRep RU X w (.slice ao_v3_x x.stamps.length cap_v3_x) x.stamps := ⟨_, fun k h => h.2, fun k h => .inr (.inr (.inr (.inl h.1))), L3_x.bound⟩
  obtain ⟨ao_v4_x, cap_v4_x, rfl, hc_v4_x, hm_v4_x⟩ := L4_x.shape
  unfold maxLen at hm_v4_x
  obtain ⟨P5, ha_P5, ho_P5, L4_x⟩ : ∃ X : Nat → Prop, (∀ k, X k → k < w.heap.size) ∧ (∀ k, X k → A0 k ∨ A1 k ∨ A2 k ∨ A3 k ∨ A4 k ∨ w.heap.size ≤ k) ∧ slRep RDPair X w (.slice ao_v4_x x.pairs.length cap_v4_x) x.pairs := ⟨_, fun k h => h.2, fun k h => .inr (.inr (.inr (.inr (.inl h.1)))), L4_x.bound⟩
  unfold i64ok at h_good
  refine f_enter 10 Try.func21 rfl rfl (Nat.le_of_ble_eq_true rfl) fun a hok => ?_
  replace hok := hok.sub (ts := [0, 1]) rfl
  refine wp_seq ?_
  refine f_region hok ?_; clear hok; intro hok
  refine s_boxv hok (cs := [.int .i64 x.k, .int .i64 x.epoch, .int .i64 x.req, .int .i64 x.serial, .bool x.flag, .int .u64 (x.at_ : Int), .int .u64 (x.last : Int), .int .i64 x.n, .int .i64 x.m, .int .i64 x.p, .int .i64 x.e, .string x.key, .string x.to_, .int .i64 x.conf.epoch, .slice ao_v0_x x.conf.members.length cap_v0_x, .int .u64 (x.conf.floor : Int), .int .i64 x.batch.client, .int .i64 x.batch.req, .slice ao_v1_x x.batch.ops.length cap_v1_x, .slice ao_v2_x x.entries.length cap_v2_x, .slice ao_v3_x x.stamps.length cap_v3_x, .slice ao_v4_x x.pairs.length cap_v4_x]) rfl rfl rfl (by decide) rfl rfl rfl ?_; clear hok a; intro a w1 b1 hb0_b1 hb1_b1 hb X1 hok
  have hge_b1 : w.heap.size ≤ b1 := by have := B.size; omega
  have hz_w1 : w.heap.size ≤ w1.heap.size := hb.size
  replace B := B.blw hb
  replace L0_x := L0_x.below hb
  replace L1_x := L1_x.below hb
  replace L2_x := L2_x.below hb
  replace L3_x := L3_x.below hb
  replace L4_x := L4_x.below hb
  clear hb
  refine s_runk TB_Relay1 hok 1 rfl rfl ?_; clear hok a; intro a hok
  refine s_end hok [0, 1, 2, 4] rfl ?_; clear hok; intro hok
  refine p_then ?_
  refine wp_seq ?_
  refine f_region hok ?_; clear hok; intro hok
  refine s_runk TB_Relay1 hok 1 rfl rfl ?_; clear hok a; intro a hok
  refine s_ob hok (v := .int .i64 x.n) rfl rfl (by decide) rfl (Ob_load TB_Relay1 rfl rfl rfl (X1.cell 7 rfl)) ?_; clear hok a; intro a hok
  refine s_runk TB_Relay1 hok 4 rfl rfl ?_; clear hok a; intro a hok
  refine s_end hok [0, 1, 2, 4] rfl ?_; clear hok; intro hok
  refine p_then ?_
  refine wp_ret ?_
  refine f_ret hok (run_results1 rfl hok rfl) ?_
  refine ⟨?_, B.toBelow⟩
  · clear hok B L0_x L1_x L2_x L3_x L4_x X1 hc_v0_x hm_v0_x ha_P1 ho_P1 hc_v1_x hm_v1_x ha_P2 ho_P2 hc_v2_x hm_v2_x ha_P3 ho_P3 hc_v3_x hm_v3_x ha_P4 ho_P4 hc_v4_x hm_v4_x ha_P5 ho_P5 hb0_b1 hb1_b1 hge_b1 hz_w1
    rfl

def stampN (at_ : Nat) (ts : Nat) : DNote := ⟨3, (at_ : Int), ts, ⟨0, [], 0⟩, [], ⟨⟨0, 0, []⟩, 0⟩, ⟨0, 0, 0⟩, ⟨0, 0, 0, 0⟩⟩

/-- what is learned of timestamps, the k-th and those behind it, at entries of a log, the last timestamp known -/
def learnG (g p : Int) : Nat → Nat → Nat → List Nat → List DNote
  | _, _, _, [] => []
  | at_, last, k, ts :: r => if p < (at_ : Int) - k then learnG g p at_ last (k + 1) r else if p > (at_ : Int) - k ∨ (at_ : Int) ≥ g ∨ ts ≤ last then [] else stampN at_ ts :: learnG g p (at_ + 1) ts (k + 1) r

def learnL (l : List DEntry) (good : Int) (x : DMsg) : List DNote := learnG (min (max good 0) l.length) x.p (stampedL l) (lastL l) 0 x.stamps

theorem learnG_end (g p : Int) (at_ last k : Nat) : learnG g p at_ last k [] = [] := rfl

theorem learnG_step (g p : Int) (at_ last k : Nat) (l : List Nat) (h : k < l.length) : learnG g p at_ last k (l.drop k) = if p < (at_ : Int) - k then learnG g p at_ last (k + 1) (l.drop (k + 1)) else if p > (at_ : Int) - k ∨ (at_ : Int) ≥ g ∨ l.getD k default ≤ last then [] else stampN at_ (l.getD k default) :: learnG g p (at_ + 1) (l.getD k default) (k + 1) (l.drop (k + 1)) := by
  rw [drop_getD l k h]; rfl

set_option maxHeartbeats 1000000 in
set_option maxRecDepth 100000 in
theorem c_ref32_Learn {A0 : Nat → Prop} {A1 : Nat → Prop} {A2 : Nat → Prop} {A3 : Nat → Prop} {A4 : Nat → Prop} {A5 : Nat → Prop} (v_l : Value) (l : List DEntry) (good : Int) (x : DMsg) (v0_x : Value) (v1_x : Value) (v2_x : Value) (v3_x : Value) (v4_x : Value) (w : World) (L_l : slRep RDEntry A0 w v_l l) (h_good : i64ok good) (L0_x : slRep RDMember A1 w v0_x x.conf.members) (L1_x : slRep RDOp A2 w v1_x x.batch.ops) (L2_x : slRep RDEntry A3 w v2_x x.entries) (L3_x : slRep RU A4 w v3_x x.stamps) (L4_x : slRep RDPair A5 w v4_x x.pairs) (h_x : okDMsg x) (hst : x.stamps.length ≤ 1000000) :
    Calls Try.prog 17 #[v_l, .int .i64 good, .agg #[.int .i64 x.k, .int .i64 x.epoch, .int .i64 x.req, .int .i64 x.serial, .bool x.flag, .int .u64 (x.at_ : Int), .int .u64 (x.last : Int), .int .i64 x.n, .int .i64 x.m, .int .i64 x.p, .int .i64 x.e, .string x.key, .string x.to_, .int .i64 x.conf.epoch, v0_x, .int .u64 (x.conf.floor : Int), .int .i64 x.batch.client, .int .i64 x.batch.req, v1_x, v2_x, v3_x, v4_x]] w (Ret fun r w' => ∃ q0 : Value, r = q0 ∧ slRep RDNote (fun k => w.heap.size ≤ k) w' q0 (learnL l good x) ∧ Below w.heap.size w w') := by
  have B : Bt [] w w := Bt.refl _ _
  obtain ⟨ao_v_l, cap_v_l, rfl, hc_v_l, hm_v_l⟩ := L_l.shape
  unfold maxLen at hm_v_l
  obtain ⟨P1, ha_P1, ho_P1, L_l⟩ : ∃ X : Nat → Prop, (∀ k, X k → k < w.heap.size) ∧ (∀ k, X k → A0 k ∨ A1 k ∨ A2 k ∨ A3 k ∨ A4 k ∨ A5 k ∨ w.heap.size ≤ k) ∧ slRep RDEntry X w (.slice ao_v_l l.length cap_v_l) l := ⟨_, fun k h => h.2, fun k h => .inl h.1, L_l.bound⟩
  obtain ⟨ao_v0_x, cap_v0_x, rfl, hc_v0_x, hm_v0_x⟩ := L0_x.shape
  unfold maxLen at hm_v0_x
  obtain ⟨P2, ha_P2, ho_P2, L0_x⟩ : ∃ X : Nat → Prop, (∀ k, X k → k < w.heap.size) ∧ (∀ k, X k → A0 k ∨ A1 k ∨ A2 k ∨ A3 k ∨ A4 k ∨ A5 k ∨ w.heap.size ≤ k) ∧ slRep RDMember X w (.slice ao_v0_x x.conf.members.length cap_v0_x) x.conf.members := ⟨_, fun k h => h.2, fun k h => .inr (.inl h.1), L0_x.bound⟩
  obtain ⟨ao_v1_x, cap_v1_x, rfl, hc_v1_x, hm_v1_x⟩ := L1_x.shape
  unfold maxLen at hm_v1_x
  obtain ⟨P3, ha_P3, ho_P3, L1_x⟩ : ∃ X : Nat → Prop, (∀ k, X k → k < w.heap.size) ∧ (∀ k, X k → A0 k ∨ A1 k ∨ A2 k ∨ A3 k ∨ A4 k ∨ A5 k ∨ w.heap.size ≤ k) ∧ slRep RDOp X w (.slice ao_v1_x x.batch.ops.length cap_v1_x) x.batch.ops := ⟨_, fun k h => h.2, fun k h => .inr (.inr (.inl h.1)), L1_x.bound⟩
  obtain ⟨ao_v2_x, cap_v2_x, rfl, hc_v2_x, hm_v2_x⟩ := L2_x.shape
  unfold maxLen at hm_v2_x
  obtain ⟨P4, ha_P4, ho_P4, L2_x⟩ : ∃ X : Nat → Prop, (∀ k, X k → k < w.heap.size) ∧ (∀ k, X k → A0 k ∨ A1 k ∨ A2 k ∨ A3 k ∨ A4 k ∨ A5 k ∨ w.heap.size ≤ k) ∧ slRep RDEntry X w (.slice ao_v2_x x.entries.length cap_v2_x) x.entries := ⟨_, fun k h => h.2, fun k h => .inr (.inr (.inr (.inl h.1))), L2_x.bound⟩
  obtain ⟨ao_v3_x, cap_v3_x, rfl, hc_v3_x, hm_v3_x⟩ := L3_x.shape
  unfold maxLen at hm_v3_x
  obtain ⟨P5, ha_P5, ho_P5, L3_x⟩ : ∃ X : Nat → Prop, (∀ k, X k → k < w.heap.size) ∧ (∀ k, X k → A0 k ∨ A1 k ∨ A2 k ∨ A3 k ∨ A4 k ∨ A5 k ∨ w.heap.size ≤ k) ∧ slRep RU X w (.slice ao_v3_x x.stamps.length cap_v3_x) x.stamps := ⟨_, fun k h => h.2, fun k h => .inr (.inr (.inr (.inr (.inl h.1)))), L3_x.bound⟩
  obtain ⟨ao_v4_x, cap_v4_x, rfl, hc_v4_x, hm_v4_x⟩ := L4_x.shape
  unfold maxLen at hm_v4_x
  obtain ⟨P6, ha_P6, ho_P6, L4_x⟩ : ∃ X : Nat → Prop, (∀ k, X k → k < w.heap.size) ∧ (∀ k, X k → A0 k ∨ A1 k ∨ A2 k ∨ A3 k ∨ A4 k ∨ A5 k ∨ w.heap.size ≤ k) ∧ slRep RDPair X w (.slice ao_v4_x x.pairs.length cap_v4_x) x.pairs := ⟨_, fun k h => h.2, fun k h => .inr (.inr (.inr (.inr (.inr (.inl h.1))))), L4_x.bound⟩
  unfold i64ok at h_good
  have hsl := stamped_le l
  refine f_enter 71 Try.func17 rfl rfl (Nat.le_of_ble_eq_true rfl) fun a hok => ?_
  replace hok := hok.sub (ts := [0, 1, 2]) rfl
  refine wp_seq ?_
  refine f_region hok ?_; clear hok; intro hok
  refine s_boxv hok (cs := [.int .i64 x.k, .int .i64 x.epoch, .int .i64 x.req, .int .i64 x.serial, .bool x.flag, .int .u64 (x.at_ : Int), .int .u64 (x.last : Int), .int .i64 x.n, .int .i64 x.m, .int .i64 x.p, .int .i64 x.e, .string x.key, .string x.to_, .int .i64 x.conf.epoch, .slice ao_v0_x x.conf.members.length cap_v0_x, .int .u64 (x.conf.floor : Int), .int .i64 x.batch.client, .int .i64 x.batch.req, .slice ao_v1_x x.batch.ops.length cap_v1_x, .slice ao_v2_x x.entries.length cap_v2_x, .slice ao_v3_x x.stamps.length cap_v3_x, .slice ao_v4_x x.pairs.length cap_v4_x]) rfl rfl rfl (by decide) rfl rfl rfl ?_; clear hok a; intro a w1 b1 hb0_b1 hb1_b1 hb X1 hok
  have hge_b1 : w.heap.size ≤ b1 := by have := B.size; omega
  have hz_w1 : w.heap.size ≤ w1.heap.size := hb.size
  replace B := B.blw hb
  replace L_l := L_l.below hb
  replace L0_x := L0_x.below hb
  replace L1_x := L1_x.below hb
  replace L2_x := L2_x.below hb
  replace L3_x := L3_x.below hb
  replace L4_x := L4_x.below hb
  clear hb
  refine s_runk TB_Relay1 hok 1 rfl rfl ?_; clear hok a; intro a hok
  refine s_end hok [0, 1, 2, 5, 6] rfl ?_; clear hok; intro hok
  refine p_then ?_
  refine wp_seq ?_
  refine f_region hok ?_; clear hok; intro hok
  refine s_runk TB_Relay1 hok 1 rfl rfl ?_; clear hok a; intro a hok
  refine s_end hok [0, 1, 2, 5, 6, 7] rfl ?_; clear hok; intro hok
  refine p_then ?_
  refine wp_seq ?_
  refine f_region hok ?_; clear hok; intro hok
  refine s_runk TB_Relay1 hok 3 rfl rfl ?_; clear hok a; intro a hok
  refine s_call hok fn_39_Relay1 (caps := #[]) rfl rfl rfl rfl rfl (by decide) rfl rfl (c_ref32_fit good (l.length : Int) _ h_good (show i64ok (l.length : Int) by unfold i64ok; omega)) ?_; clear hok a; intro _ a w2 hr hok
  obtain ⟨rfl, hb⟩ := hr
  have hz_w2 : w1.heap.size ≤ w2.heap.size := hb.size
  replace B := B.blw hb
  replace L_l := L_l.below hb
  replace L0_x := L0_x.below hb
  replace L1_x := L1_x.below hb
  replace L2_x := L2_x.below hb
  replace L3_x := L3_x.below hb
  replace L4_x := L4_x.below hb
  replace X1 := X1.below hb
  clear hb
  refine s_runk TB_Relay1 hok 1 rfl rfl ?_; clear hok a; intro a hok
  refine s_end hok [0, 1, 2, 5, 6, 7, 8] rfl ?_; clear hok; intro hok
  refine p_then ?_
  refine wp_seq ?_
  refine f_region hok ?_; clear hok; intro hok
  refine s_runk TB_Relay1 hok 1 rfl rfl ?_; clear hok a; intro a hok
  refine s_call hok fn_25_Relay1 (caps := #[]) rfl rfl rfl rfl rfl (by decide) rfl rfl (c_ref08_Stamped _ l _ L_l) ?_; clear hok a; intro _ a w3 hr hok
  obtain ⟨rfl, hb⟩ := hr
  have hz_w3 : w2.heap.size ≤ w3.heap.size := hb.size
  replace B := B.blw hb
  replace L_l := L_l.below hb
  replace L0_x := L0_x.below hb
  replace L1_x := L1_x.below hb
  replace L2_x := L2_x.below hb
  replace L3_x := L3_x.below hb
  replace L4_x := L4_x.below hb
  replace X1 := X1.below hb
  clear hb
  refine s_runk TB_Relay1 hok 1 rfl rfl ?_; clear hok a; intro a hok
  refine s_end hok [0, 1, 2, 5, 6, 7, 8, 9] rfl ?_; clear hok; intro hok
  refine p_then ?_
  refine wp_seq ?_
  refine f_region hok ?_; clear hok; intro hok
  refine s_runk TB_Relay1 hok 1 rfl rfl ?_; clear hok a; intro a hok
  refine s_call hok fn_27_Relay1 (caps := #[]) rfl rfl rfl rfl rfl (by decide) rfl rfl (c_ref08_Last _ l _ L_l) ?_; clear hok a; intro _ a w4 hr hok
  obtain ⟨rfl, hb⟩ := hr
  have hz_w4 : w3.heap.size ≤ w4.heap.size := hb.size
  replace B := B.blw hb
  replace L_l := L_l.below hb
  replace L0_x := L0_x.below hb
  replace L1_x := L1_x.below hb
  replace L2_x := L2_x.below hb
  replace L3_x := L3_x.below hb
  replace L4_x := L4_x.below hb
  replace X1 := X1.below hb
  clear hb
  refine s_runk TB_Relay1 hok 1 rfl rfl ?_; clear hok a; intro a hok
  refine s_end hok [0, 1, 2, 5, 6, 7, 8, 9, 10] rfl ?_; clear hok; intro hok
  refine p_then ?_
  refine wp_seq ?_
  refine wp_seq ?_
  refine f_region hok ?_; clear hok; intro hok
  refine s_runk TB_Relay1 hok 1 rfl rfl ?_; clear hok a; intro a hok
  refine s_end hok [0, 1, 2, 5, 6, 7, 8, 9, 10, 11] rfl ?_; clear hok; intro hok
  refine p_then ?_
  refine wp_block ?_
  have O1 : Ow RDNote NoA w.heap.size 82 w4 (.slice none 0 0) [] := Ow.nil _ _ _ _ _ _
  have hg_O1 : ∀ k, (Value.slice none 0 0).ownBlock = some k → w.heap.size ≤ k ∧ k < w4.heap.size := fun k h => by cases h
  have hnb_O1_b1 : (Value.slice none 0 0).ownBlock ≠ some b1 := by intro h; cases h
  refine f_loop (σ := Nat × Nat × Nat × List DNote) (fun ⟨k, at_, last, out⟩ a w' => ∃ ao_7 cap_7, Sl 71 [(0, .slice ao_v_l l.length cap_v_l), (1, .int .i64 good), (2, .agg #[.int .i64 x.k, .int .i64 x.epoch, .int .i64 x.req, .int .i64 x.serial, .bool x.flag, .int .u64 (x.at_ : Int), .int .u64 (x.last : Int), .int .i64 x.n, .int .i64 x.m, .int .i64 x.p, .int .i64 x.e, .string x.key, .string x.to_, .int .i64 x.conf.epoch, .slice ao_v0_x x.conf.members.length cap_v0_x, .int .u64 (x.conf.floor : Int), .int .i64 x.batch.client, .int .i64 x.batch.req, .slice ao_v1_x x.batch.ops.length cap_v1_x, .slice ao_v2_x x.entries.length cap_v2_x, .slice ao_v3_x x.stamps.length cap_v3_x, .slice ao_v4_x x.pairs.length cap_v4_x]), (5, .pointer (some ⟨b1, 0, none⟩)), (6, .slice none 0 0), (8, .int .i64 (min (max good 0) (l.length : Int))), (11, .int .i64 (k : Int)), (9, .int .i64 (at_ : Int)), (10, .int .u64 (last : Int)), (7, .slice ao_7 out.length cap_7)] a ∧ (k ≤ x.stamps.length ∧ at_ ≤ l.length ∧ out.length ≤ k) ∧ (learnL l good x = out ++ learnG (min (max good 0) l.length) x.p at_ last k (x.stamps.drop k)) ∧ Bt [] w w' ∧ slRep RDEntry P1 w' (.slice ao_v_l l.length cap_v_l) l ∧ slRep RDMember P2 w' (.slice ao_v0_x x.conf.members.length cap_v0_x) x.conf.members ∧ slRep RDOp P3 w' (.slice ao_v1_x x.batch.ops.length cap_v1_x) x.batch.ops ∧ slRep RDEntry P4 w' (.slice ao_v2_x x.entries.length cap_v2_x) x.entries ∧ slRep RU P5 w' (.slice ao_v3_x x.stamps.length cap_v3_x) x.stamps ∧ slRep RDPair P6 w' (.slice ao_v4_x x.pairs.length cap_v4_x) x.pairs ∧ Box w' b1 37 [.int .i64 x.k, .int .i64 x.epoch, .int .i64 x.req, .int .i64 x.serial, .bool x.flag, .int .u64 (x.at_ : Int), .int .u64 (x.last : Int), .int .i64 x.n, .int .i64 x.m, .int .i64 x.p, .int .i64 x.e, .string x.key, .string x.to_, .int .i64 x.conf.epoch, .slice ao_v0_x x.conf.members.length cap_v0_x, .int .u64 (x.conf.floor : Int), .int .i64 x.batch.client, .int .i64 x.batch.req, .slice ao_v1_x x.batch.ops.length cap_v1_x, .slice ao_v2_x x.entries.length cap_v2_x, .slice ao_v3_x x.stamps.length cap_v3_x, .slice ao_v4_x x.pairs.length cap_v4_x] ∧ Ow RDNote NoA w.heap.size 82 w' (.slice ao_7 out.length cap_7) out ∧ out.length ≤ cap_7 ∧ cap_7 ≤ maxLen ∧ (∀ k, (Value.slice ao_7 out.length cap_7).ownBlock = some k → w.heap.size ≤ k ∧ k < w'.heap.size) ∧ (Value.slice ao_7 out.length cap_7).ownBlock ≠ some b1) (fun ⟨k, at_, last, out⟩ => x.stamps.length - k) (0, stampedL l, lastL l, []) ⟨_, _, hok.sub (ts := [0, 1, 2, 5, 6, 8, 11, 9, 10, 7]) rfl, by refine ⟨Nat.zero_le _, by omega, Nat.zero_le _⟩, by rfl, B, L_l, L0_x, L1_x, L2_x, L3_x, L4_x, X1, O1, (Nat.le_refl 0), (by decide), hg_O1, hnb_O1_b1⟩ ?_
  clear hok B L_l L0_x L1_x L2_x L3_x L4_x X1 O1 hg_O1 hnb_O1_b1
  rintro ⟨k, at_, last, out⟩ a w5 ⟨ao_7, cap_7, hok, hinv0_0, hinv0_1, B, L_l, L0_x, L1_x, L2_x, L3_x, L4_x, X1, O1, hc_o7, hm_o7, hg_O1, hnb_O1_b1⟩
  unfold maxLen at hm_o7
  have hkl : ((x.stamps.take x.stamps.length).drop ((stampedL l : Int) - x.p).toNat).length = x.stamps.length - ((stampedL l : Int) - x.p).toNat := by simp
  refine wp_seq ?_
  refine wp_seq ?_
  refine f_region hok ?_; clear hok; intro hok
  refine s_runk TB_Relay1 hok 2 rfl rfl ?_; clear hok a; intro a hok
  refine s_ob hok (v := .slice ao_v3_x x.stamps.length cap_v3_x) rfl rfl (by decide) rfl (Ob_load TB_Relay1 rfl rfl rfl (X1.cell 20 rfl)) ?_; clear hok a; intro a hok
  refine s_runk TB_Relay1 hok 2 rfl rfl ?_; clear hok a; intro a hok
  refine s_end hok [0, 1, 2, 5, 6, 8, 11, 9, 10, 7, 24] rfl ?_; clear hok; intro hok
  refine p_then ?_
  refine f_cond hok rfl (fun hc1 => ?_) (fun hc1 => ?_)
  · replace hc1 := of_decide_eq_true hc1
    refine wp_skip ?_
    refine p_then ?_
    refine wp_seq ?_
    refine wp_block ?_
    refine wp_seq ?_
    refine wp_seq ?_
    refine f_region hok ?_; clear hok; intro hok
    refine s_runk TB_Relay1 hok 1 rfl rfl ?_; clear hok a; intro a hok
    refine s_ob hok (v := .int .i64 x.p) rfl rfl (by decide) rfl (Ob_load TB_Relay1 rfl rfl rfl (X1.cell 9 rfl)) ?_; clear hok a; intro a hok
    refine s_runk TB_Relay1 hok 2 rfl rfl ?_; clear hok a; intro a hok
    refine s_ob hok (v := .int .i64 ((at_ : Int) - (k : Int))) rfl rfl (by decide) rfl (Ob_sub rfl rfl rfl (IntWalk.i64_in _ (by omega))) ?_; clear hok a; intro a hok
    refine s_runk TB_Relay1 hok 1 rfl rfl ?_; clear hok a; intro a hok
    refine s_end hok [0, 1, 2, 5, 6, 8, 11, 9, 10, 7, 24, 32] rfl ?_; clear hok; intro hok
    refine p_then ?_
    refine f_cond hok rfl (fun hc2 => ?_) (fun hc2 => ?_)
    · replace hc2 := of_decide_eq_true hc2
      refine wp_exit ?_
      refine p_then_x ?_
      refine f_exit_here ?_
      refine p_then ?_
      refine f_region hok ?_; clear hok; intro hok
      refine s_runk TB_Relay1 hok 1 rfl rfl ?_; clear hok a; intro a hok
      refine s_ob hok (v := .int .i64 ((k : Int) + 1)) rfl rfl (by decide) rfl (Ob_add rfl rfl rfl (IntWalk.i64_in _ (by omega))) ?_; clear hok a; intro a hok
      refine s_runk TB_Relay1 hok 1 rfl rfl ?_; clear hok a; intro a hok
      refine s_end hok [0, 1, 2, 5, 6, 8, 11, 9, 10, 7, 24, 32] rfl ?_; clear hok; intro hok
      refine p_then ?_
      refine ⟨(k + 1, at_, last, out), ⟨_, _, hok.sub (ts := [0, 1, 2, 5, 6, 8, 11, 9, 10, 7]) rfl, ?_, ?_, B, L_l, L0_x, L1_x, L2_x, L3_x, L4_x, X1, O1, hc_o7, hm_o7, hg_O1, hnb_O1_b1⟩, by dsimp only; omega⟩
      · clear hok B L_l L0_x L1_x L2_x L3_x L4_x X1 O1 hc_v_l hm_v_l ha_P1 ho_P1 hc_v0_x hm_v0_x ha_P2 ho_P2 hc_v1_x hm_v1_x ha_P3 ho_P3 hc_v2_x hm_v2_x ha_P4 ho_P4 hc_v3_x hm_v3_x ha_P5 ho_P5 hc_v4_x hm_v4_x ha_P6 ho_P6 hb0_b1 hb1_b1 hge_b1 hz_w1 hz_w2 hz_w3 hz_w4 hc_o7 hm_o7 hg_O1 hnb_O1_b1
        omega
      · clear hok B L_l L0_x L1_x L2_x L3_x L4_x X1 O1 hc_v_l hm_v_l ha_P1 ho_P1 hc_v0_x hm_v0_x ha_P2 ho_P2 hc_v1_x hm_v1_x ha_P3 ho_P3 hc_v2_x hm_v2_x ha_P4 ho_P4 hc_v3_x hm_v3_x ha_P5 ho_P5 hc_v4_x hm_v4_x ha_P6 ho_P6 hb0_b1 hb1_b1 hge_b1 hz_w1 hz_w2 hz_w3 hz_w4 hc_o7 hm_o7 hg_O1 hnb_O1_b1
        rw [hinv0_1, learnG_step _ _ _ _ k _ (by omega), if_pos (by omega)]
    · replace hc2 := of_decide_eq_false hc2
      refine wp_skip ?_
      refine p_then ?_
      refine wp_seq ?_
      refine wp_seq ?_
      refine f_region hok ?_; clear hok; intro hok
      refine s_runk TB_Relay1 hok 1 rfl rfl ?_; clear hok a; intro a hok
      refine s_ob hok (v := .int .i64 x.p) rfl rfl (by decide) rfl (Ob_load TB_Relay1 rfl rfl rfl (X1.cell 9 rfl)) ?_; clear hok a; intro a hok
      refine s_runk TB_Relay1 hok 2 rfl rfl ?_; clear hok a; intro a hok
      refine s_ob hok (v := .int .i64 ((at_ : Int) - (k : Int))) rfl rfl (by decide) rfl (Ob_sub rfl rfl rfl (IntWalk.i64_in _ (by omega))) ?_; clear hok a; intro a hok
      refine s_runk TB_Relay1 hok 2 rfl rfl ?_; clear hok a; intro a hok
      refine s_gob hok (c := decide (x.p > ((at_ : Int) - (k : Int)))) rfl rfl rfl rfl (by decide) rfl (by decide) rfl (fun _ => Ob_c TB_Relay1 rfl) ?_; clear hok a; intro a hok
      refine s_gob hok (c := decide (x.p > ((at_ : Int) - (k : Int)))) rfl rfl rfl rfl (by decide) rfl (by decide) rfl (fun _ => Ob_c TB_Relay1 rfl) ?_; clear hok a; intro a hok
      refine s_gob hok (c := decide (x.p > ((at_ : Int) - (k : Int)))) rfl rfl rfl rfl (by decide) rfl (by decide) rfl (fun _ => Ob_c TB_Relay1 rfl) ?_; clear hok a; intro a hok
      refine s_or hok (i := 6) rfl rfl rfl rfl rfl rfl rfl (by decide) rfl rfl ?_; clear hok a; intro a hok
      refine s_runk TB_Relay1 hok 1 rfl rfl ?_; clear hok a; intro a hok
      refine s_gob hok (c := (decide (x.p > ((at_ : Int) - (k : Int)))) || (decide ((at_ : Int) ≥ (min (max good 0) (l.length : Int))))) rfl rfl rfl rfl (by decide) rfl (by decide) rfl (fun _ => Ob_c TB_Relay1 rfl) ?_; clear hok a; intro a hok
      refine s_gob hok (c := (decide (x.p > ((at_ : Int) - (k : Int)))) || (decide ((at_ : Int) ≥ (min (max good 0) (l.length : Int))))) (v := .slice ao_v3_x x.stamps.length cap_v3_x) rfl rfl rfl rfl (by decide) rfl (by decide) rfl (fun hg1 => ?_) ?_
      · replace hg1 := And.intro (of_decide_eq_false (orF1 hg1)) (of_decide_eq_false (orF2 hg1))
        exact Ob_load TB_Relay1 rfl rfl rfl (X1.cell 20 rfl)
      clear hok a; intro a hok
      refine s_gob hok (c := (decide (x.p > ((at_ : Int) - (k : Int)))) || (decide ((at_ : Int) ≥ (min (max good 0) (l.length : Int))))) rfl rfl rfl rfl (by decide) rfl (by decide) rfl (fun _ => Ob_c TB_Relay1 rfl) ?_; clear hok a; intro a hok
      refine s_gob hok (c := (decide (x.p > ((at_ : Int) - (k : Int)))) || (decide ((at_ : Int) ≥ (min (max good 0) (l.length : Int))))) (v := .pointer (some ⟨bOf ao_v3_x, oOf ao_v3_x + k * 1, none⟩)) rfl rfl rfl rfl (by decide) rfl (by decide) rfl (fun hg2 => ?_) ?_
      · replace hg2 := And.intro (of_decide_eq_false (orF1 hg2)) (of_decide_eq_false (orF2 hg2))
        have hi1 : k < x.stamps.length := by omega
        have he1 := elt L3_x (k) (slRep.lt L3_x hi1)
        exact Ob_idx TB_Relay1 (k) rfl rfl he1.1 rfl rfl rfl hi1
      clear hok a; intro a hok
      refine s_gob hok (c := (decide (x.p > ((at_ : Int) - (k : Int)))) || (decide ((at_ : Int) ≥ (min (max good 0) (l.length : Int))))) (v := .int .u64 ((x.stamps.getD k default) : Int)) rfl rfl rfl rfl (by decide) rfl (by decide) rfl (fun hg3 => ?_) ?_
      · replace hg3 := And.intro (of_decide_eq_false (orF1 hg3)) (of_decide_eq_false (orF2 hg3))
        have hi2 : k < x.stamps.length := by omega
        have he2 := elt L3_x (k) (slRep.lt L3_x hi2)
        obtain ⟨_, _, _, ⟨rfl, hok_e1⟩, hat1⟩ := id he2
        exact Ob_load TB_Relay1 rfl rfl rfl (hat1 0 _ rfl)
      clear hok a; intro a hok
      refine s_gob hok (c := (decide (x.p > ((at_ : Int) - (k : Int)))) || (decide ((at_ : Int) ≥ (min (max good 0) (l.length : Int))))) rfl rfl rfl rfl (by decide) rfl (by decide) rfl (fun _ => Ob_c TB_Relay1 rfl) ?_; clear hok a; intro a hok
      refine s_gob hok (c := (decide (x.p > ((at_ : Int) - (k : Int)))) || (decide ((at_ : Int) ≥ (min (max good 0) (l.length : Int))))) rfl rfl rfl rfl (by decide) rfl (by decide) rfl (fun _ => Ob_c TB_Relay1 rfl) ?_; clear hok a; intro a hok
      refine s_or hok (i := 11) rfl rfl rfl rfl rfl rfl rfl (by decide) rfl rfl ?_; clear hok a; intro a hok
      refine s_end hok [0, 1, 2, 5, 6, 8, 11, 9, 10, 7, 24, 32, 52] rfl ?_; clear hok; intro hok
      refine p_then ?_
      refine f_cond hok rfl (fun hc3 => ?_) (fun hc3 => ?_)
      · replace hc3 := orT hc3 (fun h => orT h (fun h => of_decide_eq_true h) (fun h => of_decide_eq_true h)) (fun h => of_decide_eq_true h)
        refine wp_exit ?_
        refine p_then_x ?_
        refine f_exit_out (by decide) ?_
        refine p_then_x ?_
        refine p_then_x ?_
        refine f_exit_here ?_
        refine p_then ?_
        refine wp_seq ?_
        refine f_region hok ?_; clear hok; intro hok
        refine s_runk TB_Relay1 hok 2 rfl rfl ?_; clear hok a; intro a hok
        refine s_end hok [0, 1, 2, 5, 6, 8, 11, 9, 10, 7, 24, 32, 52] rfl ?_; clear hok; intro hok
        refine p_then ?_
        refine wp_ret ?_
        refine f_ret hok (run_results1 rfl hok rfl) ?_
        refine ⟨.slice ao_7 out.length cap_7, ?_, ?_, B.toBelow⟩
        · clear hok B L_l L0_x L1_x L2_x L3_x L4_x X1 O1 hc_v_l hm_v_l ha_P1 ho_P1 hc_v0_x hm_v0_x ha_P2 ho_P2 hc_v1_x hm_v1_x ha_P3 ho_P3 hc_v2_x hm_v2_x ha_P4 ho_P4 hc_v3_x hm_v3_x ha_P5 ho_P5 hc_v4_x hm_v4_x ha_P6 ho_P6 hb0_b1 hb1_b1 hge_b1 hz_w1 hz_w2 hz_w3 hz_w4 hc_o7 hm_o7 hg_O1 hnb_O1_b1
          rfl
        · rw [hinv0_1, learnG_step _ _ _ _ k _ (by omega), if_neg (by omega), if_pos (by omega), List.append_nil]; exact O1.sl (fun _ h => h.elim) (fun k h => h)
      · replace hc3 := And.intro (And.intro (of_decide_eq_false (orF1 (orF1 hc3))) (of_decide_eq_false (orF2 (orF1 hc3)))) (of_decide_eq_false (orF2 hc3))
        refine wp_skip ?_
        refine p_then ?_
        refine wp_seq ?_
        refine f_region hok ?_; clear hok; intro hok
        refine s_runk TB_Relay1 hok 3 rfl rfl ?_; clear hok a; intro a hok
        refine s_ob hok (v := .slice ao_v3_x x.stamps.length cap_v3_x) rfl rfl (by decide) rfl (Ob_load TB_Relay1 rfl rfl rfl (X1.cell 20 rfl)) ?_; clear hok a; intro a hok
        refine s_runk TB_Relay1 hok 1 rfl rfl ?_; clear hok a; intro a hok
        have hi3 : k < x.stamps.length := by omega
        have he3 := elt L3_x (k) (slRep.lt L3_x hi3)
        refine s_ob hok (v := .pointer (some ⟨bOf ao_v3_x, oOf ao_v3_x + k * 1, none⟩)) rfl rfl (by decide) rfl (Ob_idx TB_Relay1 (k) rfl rfl he3.1 rfl rfl rfl hi3) ?_; clear hok a; intro a hok
        obtain ⟨_, _, _, ⟨rfl, hok_e2⟩, hat2⟩ := id he3
        refine s_ob hok (v := .int .u64 ((x.stamps.getD k default) : Int)) rfl rfl (by decide) rfl (Ob_load TB_Relay1 rfl rfl rfl (hat2 0 _ rfl)) ?_; clear hok a; intro a hok
        refine s_ob hok (v := .agg #[.int .i64 3, .int .i64 (at_ : Int), .int .u64 ((x.stamps.getD k default) : Int), .int .i64 0, .slice none 0 0, .int .u64 0, .slice none 0 0, .int .i64 0, .int .i64 0, .slice none 0 0, .int .u64 0, .int .i64 0, .int .u64 0, .int .i64 0, .int .i64 0, .int .i64 0, .int .i64 0, .int .i64 0]) rfl rfl (by decide) rfl (Ob_build (vs := [(0, .int .i64 3), (1, .int .i64 (at_ : Int)), (2, .int .u64 ((x.stamps.getD k default) : Int))]) rfl rfl (by go_simp <;> rfl)) ?_; clear hok a; intro a hok
        refine s_bslice hok (vs := [(0, .agg #[.int .i64 3, .int .i64 (at_ : Int), .int .u64 ((x.stamps.getD k default) : Int), .int .i64 0, .slice none 0 0, .int .u64 0, .slice none 0 0, .int .i64 0, .int .i64 0, .slice none 0 0, .int .u64 0, .int .i64 0, .int .u64 0, .int .i64 0, .int .i64 0, .int .i64 0, .int .i64 0, .int .i64 0])]) (cs := [.int .i64 3, .int .i64 (at_ : Int), .int .u64 ((x.stamps.getD k default) : Int), .int .i64 0, .slice none 0 0, .int .u64 0, .slice none 0 0, .int .i64 0, .int .i64 0, .slice none 0 0, .int .u64 0, .int .i64 0, .int .u64 0, .int .i64 0, .int .i64 0, .int .i64 0, .int .i64 0, .int .i64 0]) (e := 82) rfl rfl rfl (by decide) rfl rfl (fun w => run_bslice (z := .agg #[.int .i64 0, .int .i64 0, .int .u64 0, .int .i64 0, .slice none 0 0, .int .u64 0, .slice none 0 0, .int .i64 0, .int .i64 0, .slice none 0 0, .int .u64 0, .int .i64 0, .int .u64 0, .int .i64 0, .int .i64 0, .int .i64 0, .int .i64 0, .int .i64 0]) (m := 18) Try.underlying45 (by kernel_rfl) rfl rfl (by decide) (by simp [Instr.fill, Value.cells]) w) ?_; clear hok a; intro a w6 b2 hb0_b2 hb1_b2 hb X2 hok
        have hge_b2 : w.heap.size ≤ b2 := by have := B.size; omega
        have hlt_b1_b2 : b1 < b2 := by have := X1.lt; omega
        have hnb_O1_b2 : (Value.slice ao_7 out.length cap_7).ownBlock ≠ some b2 := fun e => by have := (hg_O1 _ e).2; omega
        have hz_w6 : w5.heap.size ≤ w6.heap.size := hb.size
        replace B := B.blw hb
        replace L_l := L_l.below hb
        replace L0_x := L0_x.below hb
        replace L1_x := L1_x.below hb
        replace L2_x := L2_x.below hb
        replace L3_x := L3_x.below hb
        replace L4_x := L4_x.below hb
        replace X1 := X1.below hb
        replace O1 := O1.below hb
        replace hg_O1 := fun k h => And.intro (hg_O1 k h).1 (Nat.lt_of_lt_of_le (hg_O1 k h).2 hb.size)
        clear hb
        refine s_app2 hok RDNote NoA w.heap.size E_45_Relay1 rfl out [(⟨3, (at_ : Int), (x.stamps.getD k default), (⟨0, [], 0⟩ : DConf), [], (⟨(⟨0, 0, []⟩ : DBatch), 0⟩ : DEntry), (⟨0, 0, 0⟩ : DPin), (⟨0, 0, 0, 0⟩ : DAnswer)⟩ : DNote)] AnyA NoA rfl rfl rfl (by decide) rfl rfl rfl O1 (slRep2.box1 X2 ⟨_, _, _, rfl, (slRep.nil _ _ _ _ _ (Nat.zero_le _)), (slRep.nil _ _ _ _ _ (Nat.zero_le _)), (slRep.nil _ _ _ _ _ (Nat.zero_le _)), ⟨(show i64ok 3 by unfold i64ok; omega), (show i64ok (at_ : Int) by unfold i64ok; omega), hok_e2, ⟨(show i64ok 0 by unfold i64ok; omega), (show 0 < 18446744073709551616 by omega)⟩, ⟨⟨(show i64ok 0 by unfold i64ok; omega), (show i64ok 0 by unfold i64ok; omega)⟩, (show 0 < 18446744073709551616 by omega)⟩, ⟨(show i64ok 0 by unfold i64ok; omega), (show 0 < 18446744073709551616 by omega), (show i64ok 0 by unfold i64ok; omega)⟩, ⟨(show i64ok 0 by unfold i64ok; omega), (show i64ok 0 by unfold i64ok; omega), (show i64ok 0 by unfold i64ok; omega), (show i64ok 0 by unfold i64ok; omega)⟩⟩⟩) (fun cs y hr => RDNote.mono hr (fun k hk => hk.elim) (Keep.refl _ _)) (by simp only [maxLen, List.length_append, List.length_cons, List.length_nil]; omega) (by simp only [List.length_append, List.length_cons, List.length_nil]; omega) B.size hg_O1 ?_; clear hok a; intro ao1 cap1 a w7 O2 hc_O2 hm_O2 hb hblk hown hg_O2 hok
        have hz_w7 : w6.heap.size ≤ w7.heap.size := hb.size
        replace B := B.app hb
        replace L_l := L_l.mono (fun _ h => h) (keep_app hz_w7 hblk (fun k h e => by have h1 := ha_P1 _ h; have h2 := (hg_O1 k e).1; omega))
        replace L0_x := L0_x.mono (fun _ h => h) (keep_app hz_w7 hblk (fun k h e => by have h1 := ha_P2 _ h; have h2 := (hg_O1 k e).1; omega))
        replace L1_x := L1_x.mono (fun _ h => h) (keep_app hz_w7 hblk (fun k h e => by have h1 := ha_P3 _ h; have h2 := (hg_O1 k e).1; omega))
        replace L2_x := L2_x.mono (fun _ h => h) (keep_app hz_w7 hblk (fun k h e => by have h1 := ha_P4 _ h; have h2 := (hg_O1 k e).1; omega))
        replace L3_x := L3_x.mono (fun _ h => h) (keep_app hz_w7 hblk (fun k h e => by have h1 := ha_P5 _ h; have h2 := (hg_O1 k e).1; omega))
        replace L4_x := L4_x.mono (fun _ h => h) (keep_app hz_w7 hblk (fun k h e => by have h1 := ha_P6 _ h; have h2 := (hg_O1 k e).1; omega))
        have hnb_O2_b1 : (Value.slice ao1 (out ++ [(⟨3, (at_ : Int), (x.stamps.getD k default), (⟨0, [], 0⟩ : DConf), [], (⟨(⟨0, 0, []⟩ : DBatch), 0⟩ : DEntry), (⟨0, 0, 0⟩ : DPin), (⟨0, 0, 0, 0⟩ : DAnswer)⟩ : DNote)]).length cap1).ownBlock ≠ some b1 := fun e => (hown _ e).elim hnb_O1_b1 (fun h => by have := X1.lt; omega)
        replace X1 := X1.keep (hblk _ X1.lt hnb_O1_b1)
        have hnb_O2_b2 : (Value.slice ao1 (out ++ [(⟨3, (at_ : Int), (x.stamps.getD k default), (⟨0, [], 0⟩ : DConf), [], (⟨(⟨0, 0, []⟩ : DBatch), 0⟩ : DEntry), (⟨0, 0, 0⟩ : DPin), (⟨0, 0, 0, 0⟩ : DAnswer)⟩ : DNote)]).length cap1).ownBlock ≠ some b2 := fun e => (hown _ e).elim hnb_O1_b2 (fun h => by have := X2.lt; omega)
        replace X2 := X2.keep (hblk _ X2.lt hnb_O1_b2)
        clear hb hblk hown O1
        refine s_runk TB_Relay1 hok 1 rfl rfl ?_; clear hok a; intro a hok
        refine s_end hok [0, 1, 2, 5, 6, 8, 11, 9, 10, 7, 24, 32, 52] rfl ?_; clear hok; intro hok
        refine p_then ?_
        refine wp_seq ?_
        refine f_region hok ?_; clear hok; intro hok
        refine s_runk TB_Relay1 hok 1 rfl rfl ?_; clear hok a; intro a hok
        refine s_ob hok (v := .slice ao_v3_x x.stamps.length cap_v3_x) rfl rfl (by decide) rfl (Ob_load TB_Relay1 rfl rfl rfl (X1.cell 20 rfl)) ?_; clear hok a; intro a hok
        refine s_runk TB_Relay1 hok 1 rfl rfl ?_; clear hok a; intro a hok
        have hi4 : k < x.stamps.length := by omega
        have he4 := elt L3_x (k) (slRep.lt L3_x hi4)
        refine s_ob hok (v := .pointer (some ⟨bOf ao_v3_x, oOf ao_v3_x + k * 1, none⟩)) rfl rfl (by decide) rfl (Ob_idx TB_Relay1 (k) rfl rfl he4.1 rfl rfl rfl hi4) ?_; clear hok a; intro a hok
        obtain ⟨_, _, _, ⟨rfl, hok_e3⟩, hat3⟩ := id he4
        refine s_ob hok (v := .int .u64 ((x.stamps.getD k default) : Int)) rfl rfl (by decide) rfl (Ob_load TB_Relay1 rfl rfl rfl (hat3 0 _ rfl)) ?_; clear hok a; intro a hok
        refine s_runk TB_Relay1 hok 1 rfl rfl ?_; clear hok a; intro a hok
        refine s_end hok [0, 1, 2, 5, 6, 8, 11, 9, 10, 7, 24, 32, 52] rfl ?_; clear hok; intro hok
        refine p_then ?_
        refine f_region hok ?_; clear hok; intro hok
        refine s_runk TB_Relay1 hok 1 rfl rfl ?_; clear hok a; intro a hok
        refine s_ob hok (v := .int .i64 ((at_ : Int) + 1)) rfl rfl (by decide) rfl (Ob_add rfl rfl rfl (IntWalk.i64_in _ (by omega))) ?_; clear hok a; intro a hok
        refine s_runk TB_Relay1 hok 1 rfl rfl ?_; clear hok a; intro a hok
        refine s_end hok [0, 1, 2, 5, 6, 8, 11, 9, 10, 7, 24, 32, 52] rfl ?_; clear hok; intro hok
        refine p_blk ?_
        refine p_then ?_
        refine f_region hok ?_; clear hok; intro hok
        refine s_runk TB_Relay1 hok 1 rfl rfl ?_; clear hok a; intro a hok
        refine s_ob hok (v := .int .i64 ((k : Int) + 1)) rfl rfl (by decide) rfl (Ob_add rfl rfl rfl (IntWalk.i64_in _ (by omega))) ?_; clear hok a; intro a hok
        refine s_runk TB_Relay1 hok 1 rfl rfl ?_; clear hok a; intro a hok
        refine s_end hok [0, 1, 2, 5, 6, 8, 11, 9, 10, 7, 24, 32, 52] rfl ?_; clear hok; intro hok
        refine p_then ?_
        refine ⟨(k + 1, at_ + 1, x.stamps.getD k default, out ++ [stampN at_ (x.stamps.getD k default)]), ⟨_, _, hok.sub (ts := [0, 1, 2, 5, 6, 8, 11, 9, 10, 7]) rfl, ?_, ?_, B, L_l, L0_x, L1_x, L2_x, L3_x, L4_x, X1, O2, hc_O2, (by first | assumption | exact hm_O2), hg_O2, hnb_O2_b1⟩, by dsimp only; omega⟩
        · clear hok B L_l L0_x L1_x L2_x L3_x L4_x X1 X2 O2 hc_v_l hm_v_l ha_P1 ho_P1 hc_v0_x hm_v0_x ha_P2 ho_P2 hc_v1_x hm_v1_x ha_P3 ho_P3 hc_v2_x hm_v2_x ha_P4 ho_P4 hc_v3_x hm_v3_x ha_P5 ho_P5 hc_v4_x hm_v4_x ha_P6 ho_P6 hb0_b1 hb1_b1 hge_b1 hz_w1 hz_w2 hz_w3 hz_w4 hc_o7 hm_o7 hg_O1 hnb_O1_b1 he3 hat2 hb0_b2 hb1_b2 hge_b2 hlt_b1_b2 hnb_O1_b2 hz_w6 hc_O2 hm_O2 hz_w7 hg_O2 hnb_O2_b1 hnb_O2_b2 he4 hat3
          simp only [List.length_append, List.length_cons, List.length_nil]; omega
        · clear hok B L_l L0_x L1_x L2_x L3_x L4_x X1 X2 O2 hc_v_l hm_v_l ha_P1 ho_P1 hc_v0_x hm_v0_x ha_P2 ho_P2 hc_v1_x hm_v1_x ha_P3 ho_P3 hc_v2_x hm_v2_x ha_P4 ho_P4 hc_v3_x hm_v3_x ha_P5 ho_P5 hc_v4_x hm_v4_x ha_P6 ho_P6 hb0_b1 hb1_b1 hge_b1 hz_w1 hz_w2 hz_w3 hz_w4 hc_o7 hm_o7 hg_O1 hnb_O1_b1 he3 hat2 hb0_b2 hb1_b2 hge_b2 hlt_b1_b2 hnb_O1_b2 hz_w6 hc_O2 hm_O2 hz_w7 hg_O2 hnb_O2_b1 hnb_O2_b2 he4 hat3
          rw [hinv0_1, learnG_step _ _ _ _ k _ (by omega), if_neg (by omega), if_neg (by omega), List.append_assoc]; rfl
  · replace hc1 := of_decide_eq_false hc1
    refine wp_exit ?_
    refine p_then_x ?_
    refine p_then_x ?_
    refine f_exit_here ?_
    refine p_then ?_
    refine wp_seq ?_
    refine f_region hok ?_; clear hok; intro hok
    refine s_runk TB_Relay1 hok 2 rfl rfl ?_; clear hok a; intro a hok
    refine s_end hok [0, 1, 2, 5, 6, 8, 11, 9, 10, 7, 24] rfl ?_; clear hok; intro hok
    refine p_then ?_
    refine wp_ret ?_
    refine f_ret hok (run_results1 rfl hok rfl) ?_
    refine ⟨.slice ao_7 out.length cap_7, ?_, ?_, B.toBelow⟩
    · clear hok B L_l L0_x L1_x L2_x L3_x L4_x X1 O1 hc_v_l hm_v_l ha_P1 ho_P1 hc_v0_x hm_v0_x ha_P2 ho_P2 hc_v1_x hm_v1_x ha_P3 ho_P3 hc_v2_x hm_v2_x ha_P4 ho_P4 hc_v3_x hm_v3_x ha_P5 ho_P5 hc_v4_x hm_v4_x ha_P6 ho_P6 hb0_b1 hb1_b1 hge_b1 hz_w1 hz_w2 hz_w3 hz_w4 hc_o7 hm_o7 hg_O1 hnb_O1_b1
      rfl
    · rw [hinv0_1, List.drop_eq_nil_of_le (by omega), learnG_end, List.append_nil]; exact O1.sl (fun _ h => h.elim) (fun k h => h)

def learnH (g : Int) : Nat → Nat → List Nat → List DNote
  | _, _, [] => []
  | at_, last, ts :: r => if (at_ : Int) ≥ g ∨ ts ≤ last then [] else stampN at_ ts :: learnH g (at_ + 1) ts r

theorem learnH_step (g : Int) (at_ last k : Nat) (l : List Nat) (h : k < l.length) : learnH g at_ last (l.drop k) = if (at_ : Int) ≥ g ∨ l.getD k default ≤ last then [] else stampN at_ (l.getD k default) :: learnH g (at_ + 1) (l.getD k default) (l.drop (k + 1)) := by
  rw [drop_getD l k h]; rfl

def learnP (l : List DEntry) (good : Int) (x : DMsg) : List DNote :=
  if (stampedL l : Int) - x.p < 0 ∨ (stampedL l : Int) - x.p > x.stamps.length then [] else learnH (min (max good 0) l.length) (stampedL l) (lastL l) ((x.stamps.take x.stamps.length).drop ((stampedL l : Int) - x.p).toNat)

theorem learnGH (g p : Int) : ∀ (l : List Nat) (at_ last k : Nat), p = (at_ : Int) - k → learnG g p at_ last k l = learnH g at_ last l
  | [], _, _, _, _ => rfl
  | ts :: r, at_, last, k, h => by
    simp only [learnG, learnH]
    rw [if_neg (by omega)]
    by_cases hc : (at_ : Int) ≥ g ∨ ts ≤ last
    · rw [if_pos hc, if_pos (by rcases hc with h | h <;> simp [h])]
    · rw [if_neg hc, if_neg (by omega), learnGH g p r (at_ + 1) ts (k + 1) (by omega)]

theorem learnG_skip (g p : Int) (at_ last : Nat) : ∀ (n : Nat) (l : List Nat) (k : Nat), p = (at_ : Int) - (k + n : Nat) → n ≤ l.length → learnG g p at_ last k l = learnH g at_ last (l.drop n)
  | 0, l, k, h, _ => by rw [List.drop_zero]; exact learnGH g p l at_ last k (by omega)
  | n + 1, [], k, h, hn => by simp at hn
  | n + 1, ts :: r, k, h, hn => by
    simp only [learnG, List.drop_succ_cons]
    rw [if_pos (by omega)]
    exact learnG_skip g p at_ last n r (k + 1) (by omega) (by simpa using hn)

theorem learnG_far (g p : Int) (at_ last : Nat) : ∀ (l : List Nat) (k : Nat), p < (at_ : Int) - (k + l.length : Nat) + 1 → learnG g p at_ last k l = []
  | [], _, _ => rfl
  | ts :: r, k, h => by
    simp only [learnG]
    simp only [List.length_cons] at h
    rw [if_pos (by omega)]
    exact learnG_far g p at_ last r (k + 1) (by omega)

/-- both learn the same -/
theorem learn_eq (l : List DEntry) (good : Int) (x : DMsg) : learnP l good x = learnL l good x := by
  unfold learnP learnL; rw [List.take_length]
  by_cases h1 : (stampedL l : Int) - x.p < 0
  · rw [if_pos (.inl h1)]
    cases x.stamps with
    | nil => rfl
    | cons ts r => simp only [learnG]; rw [if_neg (by omega), if_pos (.inl (by omega))]
  · by_cases h2 : (stampedL l : Int) - x.p > x.stamps.length
    · rw [if_pos (.inr h2), learnG_far _ _ _ _ _ _ (by omega)]
    · rw [if_neg (by omega), learnG_skip _ _ _ _ ((stampedL l : Int) - x.p).toNat _ 0 (by omega) (by omega)]

set_option maxHeartbeats 1000000 in
set_option maxRecDepth 100000 in
theorem c_relay_Learn {A0 : Nat → Prop} {A1 : Nat → Prop} {A2 : Nat → Prop} {A3 : Nat → Prop} {A4 : Nat → Prop} {A5 : Nat → Prop} (v_l : Value) (l : List DEntry) (good : Int) (x : DMsg) (v0_x : Value) (v1_x : Value) (v2_x : Value) (v3_x : Value) (v4_x : Value) (w : World) (L_l : slRep RDEntry A0 w v_l l) (h_good : i64ok good) (L0_x : slRep RDMember A1 w v0_x x.conf.members) (L1_x : slRep RDOp A2 w v1_x x.batch.ops) (L2_x : slRep RDEntry A3 w v2_x x.entries) (L3_x : slRep RU A4 w v3_x x.stamps) (L4_x : slRep RDPair A5 w v4_x x.pairs) (h_x : okDMsg x) (hst : x.stamps.length ≤ 1000000) (hp : -1000000 ≤ x.p) (hll : l.length ≤ 1000000) :
    Calls Try.prog 16 #[v_l, .int .i64 good, .agg #[.int .i64 x.k, .int .i64 x.epoch, .int .i64 x.req, .int .i64 x.serial, .bool x.flag, .int .u64 (x.at_ : Int), .int .u64 (x.last : Int), .int .i64 x.n, .int .i64 x.m, .int .i64 x.p, .int .i64 x.e, .string x.key, .string x.to_, .int .i64 x.conf.epoch, v0_x, .int .u64 (x.conf.floor : Int), .int .i64 x.batch.client, .int .i64 x.batch.req, v1_x, v2_x, v3_x, v4_x]] w (Ret fun r w' => ∃ q0 : Value, r = q0 ∧ slRep RDNote (fun k => w.heap.size ≤ k) w' q0 (learnP l good x) ∧ Below w.heap.size w w') := by
  have B : Bt [] w w := Bt.refl _ _
  obtain ⟨ao_v_l, cap_v_l, rfl, hc_v_l, hm_v_l⟩ := L_l.shape
  unfold maxLen at hm_v_l
  obtain ⟨P1, ha_P1, ho_P1, L_l⟩ : ∃ X : Nat → Prop, (∀ k, X k → k < w.heap.size) ∧ (∀ k, X k → A0 k ∨ A1 k ∨ A2 k ∨ A3 k ∨ A4 k ∨ A5 k ∨ w.heap.size ≤ k) ∧ slRep RDEntry X w (.slice ao_v_l l.length cap_v_l) l := ⟨_, fun k h => h.2, fun k h => .inl h.1, L_l.bound⟩
  obtain ⟨ao_v0_x, cap_v0_x, rfl, hc_v0_x, hm_v0_x⟩ := L0_x.shape
  unfold maxLen at hm_v0_x
  obtain ⟨P2, ha_P2, ho_P2, L0_x⟩ : ∃ X : Nat → Prop, (∀ k, X k → k < w.heap.size) ∧ (∀ k, X k → A0 k ∨ A1 k ∨ A2 k ∨ A3 k ∨ A4 k ∨ A5 k ∨ w.heap.size ≤ k) ∧ slRep RDMember X w (.slice ao_v0_x x.conf.members.length cap_v0_x) x.conf.members := ⟨_, fun k h => h.2, fun k h => .inr (.inl h.1), L0_x.bound⟩
  obtain ⟨ao_v1_x, cap_v1_x, rfl, hc_v1_x, hm_v1_x⟩ := L1_x.shape
  unfold maxLen at hm_v1_x
  obtain ⟨P3, ha_P3, ho_P3, L1_x⟩ : ∃ X : Nat → Prop, (∀ k, X k → k < w.heap.size) ∧ (∀ k, X k → A0 k ∨ A1 k ∨ A2 k ∨ A3 k ∨ A4 k ∨ A5 k ∨ w.heap.size ≤ k) ∧ slRep RDOp X w (.slice ao_v1_x x.batch.ops.length cap_v1_x) x.batch.ops := ⟨_, fun k h => h.2, fun k h => .inr (.inr (.inl h.1)), L1_x.bound⟩
  obtain ⟨ao_v2_x, cap_v2_x, rfl, hc_v2_x, hm_v2_x⟩ := L2_x.shape
  unfold maxLen at hm_v2_x
  obtain ⟨P4, ha_P4, ho_P4, L2_x⟩ : ∃ X : Nat → Prop, (∀ k, X k → k < w.heap.size) ∧ (∀ k, X k → A0 k ∨ A1 k ∨ A2 k ∨ A3 k ∨ A4 k ∨ A5 k ∨ w.heap.size ≤ k) ∧ slRep RDEntry X w (.slice ao_v2_x x.entries.length cap_v2_x) x.entries := ⟨_, fun k h => h.2, fun k h => .inr (.inr (.inr (.inl h.1))), L2_x.bound⟩
  obtain ⟨ao_v3_x, cap_v3_x, rfl, hc_v3_x, hm_v3_x⟩ := L3_x.shape
  unfold maxLen at hm_v3_x
  obtain ⟨P5, ha_P5, ho_P5, L3_x⟩ : ∃ X : Nat → Prop, (∀ k, X k → k < w.heap.size) ∧ (∀ k, X k → A0 k ∨ A1 k ∨ A2 k ∨ A3 k ∨ A4 k ∨ A5 k ∨ w.heap.size ≤ k) ∧ slRep RU X w (.slice ao_v3_x x.stamps.length cap_v3_x) x.stamps := ⟨_, fun k h => h.2, fun k h => .inr (.inr (.inr (.inr (.inl h.1)))), L3_x.bound⟩
  obtain ⟨ao_v4_x, cap_v4_x, rfl, hc_v4_x, hm_v4_x⟩ := L4_x.shape
  unfold maxLen at hm_v4_x
  obtain ⟨P6, ha_P6, ho_P6, L4_x⟩ : ∃ X : Nat → Prop, (∀ k, X k → k < w.heap.size) ∧ (∀ k, X k → A0 k ∨ A1 k ∨ A2 k ∨ A3 k ∨ A4 k ∨ A5 k ∨ w.heap.size ≤ k) ∧ slRep RDPair X w (.slice ao_v4_x x.pairs.length cap_v4_x) x.pairs := ⟨_, fun k h => h.2, fun k h => .inr (.inr (.inr (.inr (.inr (.inl h.1))))), L4_x.bound⟩
  unfold i64ok at h_good
  have hsl := stamped_le l
  have hxp := h_x; have hxp2 : x.p ≤ 9223372036854775807 := (by have := h_x.2.2.2.2.2.2.2.2.1; unfold i64ok at this; omega)
  refine f_enter 61 Try.func16 rfl rfl (Nat.le_of_ble_eq_true rfl) fun a hok => ?_
  replace hok := hok.sub (ts := [0, 1, 2]) rfl
  refine wp_seq ?_
  refine f_region hok ?_; clear hok; intro hok
  refine s_boxv hok (cs := [.int .i64 x.k, .int .i64 x.epoch, .int .i64 x.req, .int .i64 x.serial, .bool x.flag, .int .u64 (x.at_ : Int), .int .u64 (x.last : Int), .int .i64 x.n, .int .i64 x.m, .int .i64 x.p, .int .i64 x.e, .string x.key, .string x.to_, .int .i64 x.conf.epoch, .slice ao_v0_x x.conf.members.length cap_v0_x, .int .u64 (x.conf.floor : Int), .int .i64 x.batch.client, .int .i64 x.batch.req, .slice ao_v1_x x.batch.ops.length cap_v1_x, .slice ao_v2_x x.entries.length cap_v2_x, .slice ao_v3_x x.stamps.length cap_v3_x, .slice ao_v4_x x.pairs.length cap_v4_x]) rfl rfl rfl (by decide) rfl rfl rfl ?_; clear hok a; intro a w1 b1 hb0_b1 hb1_b1 hb X1 hok
  have hge_b1 : w.heap.size ≤ b1 := by have := B.size; omega
  have hz_w1 : w.heap.size ≤ w1.heap.size := hb.size
  replace B := B.blw hb
  replace L_l := L_l.below hb
  replace L0_x := L0_x.below hb
  replace L1_x := L1_x.below hb
  replace L2_x := L2_x.below hb
  replace L3_x := L3_x.below hb
  replace L4_x := L4_x.below hb
  clear hb
  refine s_runk TB_Relay1 hok 1 rfl rfl ?_; clear hok a; intro a hok
  refine s_end hok [0, 1, 2, 5, 6] rfl ?_; clear hok; intro hok
  refine p_then ?_
  refine wp_seq ?_
  refine f_region hok ?_; clear hok; intro hok
  refine s_runk TB_Relay1 hok 1 rfl rfl ?_; clear hok a; intro a hok
  refine s_call hok fn_35_Relay1 (caps := #[]) rfl rfl rfl rfl rfl (by decide) rfl rfl (c_item_Stamped _ l _ L_l) ?_; clear hok a; intro _ a w2 hr hok
  obtain ⟨rfl, hb⟩ := hr
  have hz_w2 : w1.heap.size ≤ w2.heap.size := hb.size
  replace B := B.blw hb
  replace L_l := L_l.below hb
  replace L0_x := L0_x.below hb
  replace L1_x := L1_x.below hb
  replace L2_x := L2_x.below hb
  replace L3_x := L3_x.below hb
  replace L4_x := L4_x.below hb
  replace X1 := X1.below hb
  clear hb
  refine s_runk TB_Relay1 hok 1 rfl rfl ?_; clear hok a; intro a hok
  refine s_call hok fn_46_Relay1 (caps := #[]) rfl rfl rfl rfl rfl (by decide) rfl rfl (c_item_Last _ l _ L_l) ?_; clear hok a; intro _ a w3 hr hok
  obtain ⟨rfl, hb⟩ := hr
  have hz_w3 : w2.heap.size ≤ w3.heap.size := hb.size
  replace B := B.blw hb
  replace L_l := L_l.below hb
  replace L0_x := L0_x.below hb
  replace L1_x := L1_x.below hb
  replace L2_x := L2_x.below hb
  replace L3_x := L3_x.below hb
  replace L4_x := L4_x.below hb
  replace X1 := X1.below hb
  clear hb
  refine s_runk TB_Relay1 hok 2 rfl rfl ?_; clear hok a; intro a hok
  refine s_end hok [0, 1, 2, 5, 6, 7, 8] rfl ?_; clear hok; intro hok
  refine p_then ?_
  refine wp_seq ?_
  refine f_region hok ?_; clear hok; intro hok
  refine s_runk TB_Relay1 hok 2 rfl rfl ?_; clear hok a; intro a hok
  refine s_ob hok (v := .int .i64 x.p) rfl rfl (by decide) rfl (Ob_load TB_Relay1 rfl rfl rfl (X1.cell 9 rfl)) ?_; clear hok a; intro a hok
  refine s_ob hok (v := .int .i64 ((stampedL l : Int) - x.p)) rfl rfl (by decide) rfl (Ob_sub rfl rfl rfl (IntWalk.i64_in _ (by omega))) ?_; clear hok a; intro a hok
  refine s_runk TB_Relay1 hok 1 rfl rfl ?_; clear hok a; intro a hok
  refine s_end hok [0, 1, 2, 5, 6, 7, 8, 9] rfl ?_; clear hok; intro hok
  refine p_then ?_
  refine wp_seq ?_
  refine wp_seq ?_
  refine f_region hok ?_; clear hok; intro hok
  refine s_runk TB_Relay1 hok 3 rfl rfl ?_; clear hok a; intro a hok
  refine s_gob hok (c := decide (((stampedL l : Int) - x.p) < 0)) rfl rfl rfl rfl (by decide) rfl (by decide) rfl (fun _ => Ob_c TB_Relay1 rfl) ?_; clear hok a; intro a hok
  refine s_gob hok (c := decide (((stampedL l : Int) - x.p) < 0)) rfl rfl rfl rfl (by decide) rfl (by decide) rfl (fun _ => Ob_c TB_Relay1 rfl) ?_; clear hok a; intro a hok
  refine s_gob hok (c := decide (((stampedL l : Int) - x.p) < 0)) (v := .slice ao_v3_x x.stamps.length cap_v3_x) rfl rfl rfl rfl (by decide) rfl (by decide) rfl (fun hg1 => ?_) ?_
  · replace hg1 := of_decide_eq_false hg1
    exact Ob_load TB_Relay1 rfl rfl rfl (X1.cell 20 rfl)
  clear hok a; intro a hok
  refine s_gob hok (c := decide (((stampedL l : Int) - x.p) < 0)) rfl rfl rfl rfl (by decide) rfl (by decide) rfl (fun _ => Ob_c TB_Relay1 rfl) ?_; clear hok a; intro a hok
  refine s_gob hok (c := decide (((stampedL l : Int) - x.p) < 0)) rfl rfl rfl rfl (by decide) rfl (by decide) rfl (fun _ => Ob_c TB_Relay1 rfl) ?_; clear hok a; intro a hok
  refine s_or hok (i := 2) rfl rfl rfl rfl rfl rfl rfl (by decide) rfl rfl ?_; clear hok a; intro a hok
  refine s_end hok [0, 1, 2, 5, 6, 7, 8, 9, 29] rfl ?_; clear hok; intro hok
  refine p_then ?_
  refine f_cond hok rfl (fun hc1 => ?_) (fun hc1 => ?_)
  · replace hc1 := orT hc1 (fun h => of_decide_eq_true h) (fun h => of_decide_eq_true h)
    refine wp_seq ?_
    refine f_region hok ?_; clear hok; intro hok
    refine s_runk TB_Relay1 hok 1 rfl rfl ?_; clear hok a; intro a hok
    refine s_end hok [0, 1, 2, 5, 6, 7, 8, 9, 29] rfl ?_; clear hok; intro hok
    refine p_then ?_
    refine wp_ret ?_
    refine p_then_r ?_
    refine f_ret hok (run_results1 rfl hok rfl) ?_
    refine ⟨.slice none 0 0, ?_, ?_, B.toBelow⟩
    · clear hok B L_l L0_x L1_x L2_x L3_x L4_x X1 hc_v_l hm_v_l ha_P1 ho_P1 hc_v0_x hm_v0_x ha_P2 ho_P2 hc_v1_x hm_v1_x ha_P3 ho_P3 hc_v2_x hm_v2_x ha_P4 ho_P4 hc_v3_x hm_v3_x ha_P5 ho_P5 hc_v4_x hm_v4_x ha_P6 ho_P6 hb0_b1 hb1_b1 hge_b1 hz_w1 hz_w2 hz_w3
      rfl
    · unfold learnP; rw [if_pos hc1]; exact slRep.nil _ _ _ _ _ (Nat.zero_le _)
  · replace hc1 := And.intro (of_decide_eq_false (orF1 hc1)) (of_decide_eq_false (orF2 hc1))
    refine wp_skip ?_
    refine p_then ?_
    refine wp_seq ?_
    refine f_region hok ?_; clear hok; intro hok
    refine s_runk TB_Relay1 hok 1 rfl rfl ?_; clear hok a; intro a hok
    refine s_end hok [0, 1, 2, 5, 6, 7, 8, 9, 29, 10] rfl ?_; clear hok; intro hok
    refine p_then ?_
    refine wp_seq ?_
    refine wp_seq ?_
    refine f_region hok ?_; clear hok; intro hok
    refine s_runk TB_Relay1 hok 1 rfl rfl ?_; clear hok a; intro a hok
    refine s_ob hok (v := .slice ao_v3_x x.stamps.length cap_v3_x) rfl rfl (by decide) rfl (Ob_load TB_Relay1 rfl rfl rfl (X1.cell 20 rfl)) ?_; clear hok a; intro a hok
    refine s_runk TB_Relay1 hok 1 rfl rfl ?_; clear hok a; intro a hok
    have hs1 : ((stampedL l : Int) - x.p).toNat ≤ x.stamps.length ∧ x.stamps.length ≤ x.stamps.length := by constructor <;> omega
    have L1 := L3_x.sub 1 (((stampedL l : Int) - x.p).toNat) x.stamps.length rfl hs1.1 hs1.2
    refine s_ob hok (v := .slice (subA ao_v3_x cap_v3_x (((stampedL l : Int) - x.p).toNat) 1) (x.stamps.length - (((stampedL l : Int) - x.p).toNat)) (cap_v3_x - (((stampedL l : Int) - x.p).toNat))) rfl rfl (by decide) rfl (Ob_sl_from TB_Relay1 (((stampedL l : Int) - x.p).toNat) rfl rfl rfl rfl (by omega) hs1.1 hc_v3_x) ?_; clear hok a; intro a hok
    refine s_runk TB_Relay1 hok 2 rfl rfl ?_; clear hok a; intro a hok
    refine s_end hok [0, 1, 2, 5, 6, 7, 8, 9, 29, 10, 33, 34, 35] rfl ?_; clear hok; intro hok
    refine p_then ?_
    refine wp_block ?_
    have O1 : Ow RDNote NoA w.heap.size 82 w3 (.slice none 0 0) [] := Ow.nil _ _ _ _ _ _
    have hg_O1 : ∀ k, (Value.slice none 0 0).ownBlock = some k → w.heap.size ≤ k ∧ k < w3.heap.size := fun k h => by cases h
    have hnb_O1_b1 : (Value.slice none 0 0).ownBlock ≠ some b1 := by intro h; cases h
    refine f_loop (σ := Nat × Nat × Nat × List DNote) (fun ⟨k, at_, last, out⟩ a w' => ∃ ao_10 cap_10, Sl 61 [(0, .slice ao_v_l l.length cap_v_l), (1, .int .i64 good), (2, .agg #[.int .i64 x.k, .int .i64 x.epoch, .int .i64 x.req, .int .i64 x.serial, .bool x.flag, .int .u64 (x.at_ : Int), .int .u64 (x.last : Int), .int .i64 x.n, .int .i64 x.m, .int .i64 x.p, .int .i64 x.e, .string x.key, .string x.to_, .int .i64 x.conf.epoch, .slice ao_v0_x x.conf.members.length cap_v0_x, .int .u64 (x.conf.floor : Int), .int .i64 x.batch.client, .int .i64 x.batch.req, .slice ao_v1_x x.batch.ops.length cap_v1_x, .slice ao_v2_x x.entries.length cap_v2_x, .slice ao_v3_x x.stamps.length cap_v3_x, .slice ao_v4_x x.pairs.length cap_v4_x]), (5, .pointer (some ⟨b1, 0, none⟩)), (6, .slice none 0 0), (9, .int .i64 ((stampedL l : Int) - x.p)), (29, .bool ((decide (((stampedL l : Int) - x.p) < 0)) || (decide (((stampedL l : Int) - x.p) > (x.stamps.length : Int))))), (33, .slice (subA ao_v3_x cap_v3_x (((stampedL l : Int) - x.p).toNat) 1) (x.stamps.length - (((stampedL l : Int) - x.p).toNat)) (cap_v3_x - (((stampedL l : Int) - x.p).toNat))), (34, .int .i64 ((x.stamps.length - (((stampedL l : Int) - x.p).toNat) : Nat) : Int)), (35, .int .i64 (k : Int)), (7, .int .i64 (at_ : Int)), (8, .int .u64 (last : Int)), (10, .slice ao_10 out.length cap_10)] a ∧ (k ≤ ((x.stamps.take x.stamps.length).drop ((stampedL l : Int) - x.p).toNat).length ∧ at_ ≤ l.length ∧ out.length ≤ k) ∧ (learnP l good x = out ++ learnH (min (max good 0) l.length) at_ last (((x.stamps.take x.stamps.length).drop ((stampedL l : Int) - x.p).toNat).drop k)) ∧ Bt [] w w' ∧ slRep RDEntry P1 w' (.slice ao_v_l l.length cap_v_l) l ∧ slRep RDMember P2 w' (.slice ao_v0_x x.conf.members.length cap_v0_x) x.conf.members ∧ slRep RDOp P3 w' (.slice ao_v1_x x.batch.ops.length cap_v1_x) x.batch.ops ∧ slRep RDEntry P4 w' (.slice ao_v2_x x.entries.length cap_v2_x) x.entries ∧ slRep RU P5 w' (.slice ao_v3_x x.stamps.length cap_v3_x) x.stamps ∧ slRep RDPair P6 w' (.slice ao_v4_x x.pairs.length cap_v4_x) x.pairs ∧ Box w' b1 37 [.int .i64 x.k, .int .i64 x.epoch, .int .i64 x.req, .int .i64 x.serial, .bool x.flag, .int .u64 (x.at_ : Int), .int .u64 (x.last : Int), .int .i64 x.n, .int .i64 x.m, .int .i64 x.p, .int .i64 x.e, .string x.key, .string x.to_, .int .i64 x.conf.epoch, .slice ao_v0_x x.conf.members.length cap_v0_x, .int .u64 (x.conf.floor : Int), .int .i64 x.batch.client, .int .i64 x.batch.req, .slice ao_v1_x x.batch.ops.length cap_v1_x, .slice ao_v2_x x.entries.length cap_v2_x, .slice ao_v3_x x.stamps.length cap_v3_x, .slice ao_v4_x x.pairs.length cap_v4_x] ∧ slRep RU P5 w' (.slice (subA ao_v3_x cap_v3_x (((stampedL l : Int) - x.p).toNat) 1) (x.stamps.length - (((stampedL l : Int) - x.p).toNat)) (cap_v3_x - (((stampedL l : Int) - x.p).toNat))) ((x.stamps.take x.stamps.length).drop (((stampedL l : Int) - x.p).toNat)) ∧ Ow RDNote NoA w.heap.size 82 w' (.slice ao_10 out.length cap_10) out ∧ out.length ≤ cap_10 ∧ cap_10 ≤ maxLen ∧ (∀ k, (Value.slice ao_10 out.length cap_10).ownBlock = some k → w.heap.size ≤ k ∧ k < w'.heap.size) ∧ (Value.slice ao_10 out.length cap_10).ownBlock ≠ some b1) (fun ⟨k, at_, last, out⟩ => x.stamps.length - k) (0, stampedL l, lastL l, []) ⟨_, _, hok.sub (ts := [0, 1, 2, 5, 6, 9, 29, 33, 34, 35, 7, 8, 10]) rfl, by refine ⟨Nat.zero_le _, by omega, Nat.zero_le _⟩, by unfold learnP; rw [if_neg (by omega)]; rfl, B, L_l, L0_x, L1_x, L2_x, L3_x, L4_x, X1, L1, O1, (Nat.le_refl 0), (by decide), hg_O1, hnb_O1_b1⟩ ?_
    clear hok B L_l L0_x L1_x L2_x L3_x L4_x X1 L1 O1 hg_O1 hnb_O1_b1
    rintro ⟨k, at_, last, out⟩ a w4 ⟨ao_10, cap_10, hok, hinv0_0, hinv0_1, B, L_l, L0_x, L1_x, L2_x, L3_x, L4_x, X1, L1, O1, hc_o10, hm_o10, hg_O1, hnb_O1_b1⟩
    unfold maxLen at hm_o10
    have hkl : ((x.stamps.take x.stamps.length).drop ((stampedL l : Int) - x.p).toNat).length = x.stamps.length - ((stampedL l : Int) - x.p).toNat := by simp
    refine wp_seq ?_
    refine f_region hok ?_; clear hok; intro hok
    refine s_runk TB_Relay1 hok 1 rfl rfl ?_; clear hok a; intro a hok
    refine s_end hok [0, 1, 2, 5, 6, 9, 29, 33, 34, 35, 7, 8, 10, 36] rfl ?_; clear hok; intro hok
    refine p_then ?_
    refine wp_seq ?_
    refine f_cond hok rfl (fun hc2 => ?_) (fun hc2 => ?_)
    · replace hc2 := of_decide_eq_true hc2
      refine wp_skip ?_
      refine p_then ?_
      refine wp_seq ?_
      refine wp_block ?_
      refine wp_seq ?_
      refine f_region hok ?_; clear hok; intro hok
      have hi1 : k < x.stamps.length - (((stampedL l : Int) - x.p).toNat) := by omega
      have he1 := elt L1 (k) (slRep.lt L1 hi1)
      refine s_ob hok (v := .pointer (some ⟨bOf (subA ao_v3_x cap_v3_x (((stampedL l : Int) - x.p).toNat) 1), oOf (subA ao_v3_x cap_v3_x (((stampedL l : Int) - x.p).toNat) 1) + k * 1, none⟩)) rfl rfl (by decide) rfl (Ob_idx TB_Relay1 (k) rfl rfl he1.1 rfl rfl rfl hi1) ?_; clear hok a; intro a hok
      obtain ⟨_, _, _, ⟨rfl, hok_e1⟩, hat1⟩ := id he1
      refine s_ob hok (v := .int .u64 ((((x.stamps.take x.stamps.length).drop (((stampedL l : Int) - x.p).toNat)).getD k default) : Int)) rfl rfl (by decide) rfl (Ob_load TB_Relay1 rfl rfl rfl (hat1 0 _ rfl)) ?_; clear hok a; intro a hok
      refine s_runk TB_Relay1 hok 1 rfl rfl ?_; clear hok a; intro a hok
      refine s_end hok [0, 1, 2, 5, 6, 9, 29, 33, 34, 35, 7, 8, 10, 36, 12] rfl ?_; clear hok; intro hok
      refine p_then ?_
      refine wp_seq ?_
      refine wp_seq ?_
      refine f_region hok ?_; clear hok; intro hok
      refine s_runk TB_Relay1 hok 4 rfl rfl ?_; clear hok a; intro a hok
      refine s_call hok fn_29_Relay1 (caps := #[]) rfl rfl rfl rfl rfl (by decide) rfl rfl (c_relay_fit good (l.length : Int) _ h_good (show i64ok (l.length : Int) by unfold i64ok; omega)) ?_; clear hok a; intro _ a w5 hr hok
      obtain ⟨rfl, hb⟩ := hr
      have hz_w5 : w4.heap.size ≤ w5.heap.size := hb.size
      replace B := B.blw hb
      replace L_l := L_l.below hb
      replace L0_x := L0_x.below hb
      replace L1_x := L1_x.below hb
      replace L2_x := L2_x.below hb
      replace L3_x := L3_x.below hb
      replace L4_x := L4_x.below hb
      replace X1 := X1.below hb
      replace L1 := L1.below hb
      replace O1 := O1.below hb
      replace hg_O1 := fun k h => And.intro (hg_O1 k h).1 (Nat.lt_of_lt_of_le (hg_O1 k h).2 hb.size)
      clear hb
      refine s_runk TB_Relay1 hok 2 rfl rfl ?_; clear hok a; intro a hok
      refine s_gob hok (c := decide ((at_ : Int) ≥ (min (max good 0) (l.length : Int)))) rfl rfl rfl rfl (by decide) rfl (by decide) rfl (fun _ => Ob_c TB_Relay1 rfl) ?_; clear hok a; intro a hok
      refine s_gob hok (c := decide ((at_ : Int) ≥ (min (max good 0) (l.length : Int)))) rfl rfl rfl rfl (by decide) rfl (by decide) rfl (fun _ => Ob_c TB_Relay1 rfl) ?_; clear hok a; intro a hok
      refine s_gob hok (c := decide ((at_ : Int) ≥ (min (max good 0) (l.length : Int)))) rfl rfl rfl rfl (by decide) rfl (by decide) rfl (fun _ => Ob_c TB_Relay1 rfl) ?_; clear hok a; intro a hok
      refine s_or hok (i := 6) rfl rfl rfl rfl rfl rfl rfl (by decide) rfl rfl ?_; clear hok a; intro a hok
      refine s_end hok [0, 1, 2, 5, 6, 9, 29, 33, 34, 35, 7, 8, 10, 36, 12, 49] rfl ?_; clear hok; intro hok
      refine p_then ?_
      refine f_cond hok rfl (fun hc3 => ?_) (fun hc3 => ?_)
      · replace hc3 := orT hc3 (fun h => of_decide_eq_true h) (fun h => of_decide_eq_true h)
        refine wp_exit ?_
        refine p_then_x ?_
        refine f_exit_out (by decide) ?_
        refine p_then_x ?_
        refine p_then_x ?_
        refine f_exit_here ?_
        refine p_then ?_
        refine wp_seq ?_
        refine f_region hok ?_; clear hok; intro hok
        refine s_runk TB_Relay1 hok 2 rfl rfl ?_; clear hok a; intro a hok
        refine s_end hok [0, 1, 2, 5, 6, 9, 29, 33, 34, 35, 7, 8, 10, 36, 12, 49] rfl ?_; clear hok; intro hok
        refine p_then ?_
        refine wp_ret ?_
        refine f_ret hok (run_results1 rfl hok rfl) ?_
        refine ⟨.slice ao_10 out.length cap_10, ?_, ?_, B.toBelow⟩
        · clear hok B L_l L0_x L1_x L2_x L3_x L4_x X1 L1 O1 hc_v_l hm_v_l ha_P1 ho_P1 hc_v0_x hm_v0_x ha_P2 ho_P2 hc_v1_x hm_v1_x ha_P3 ho_P3 hc_v2_x hm_v2_x ha_P4 ho_P4 hc_v3_x hm_v3_x ha_P5 ho_P5 hc_v4_x hm_v4_x ha_P6 ho_P6 hb0_b1 hb1_b1 hge_b1 hz_w1 hz_w2 hz_w3 hc_o10 hm_o10 hg_O1 hnb_O1_b1 he1 hat1 hz_w5
          rfl
        · rw [hinv0_1, learnH_step _ _ _ _ _ (by omega), if_pos (by omega), List.append_nil]; exact O1.sl (fun _ h => h.elim) (fun k h => h)
      · replace hc3 := And.intro (of_decide_eq_false (orF1 hc3)) (of_decide_eq_false (orF2 hc3))
        refine wp_skip ?_
        refine p_then ?_
        refine wp_seq ?_
        refine f_region hok ?_; clear hok; intro hok
        refine s_runk TB_Relay1 hok 3 rfl rfl ?_; clear hok a; intro a hok
        refine s_ob hok (v := .agg #[.int .i64 3, .int .i64 (at_ : Int), .int .u64 ((((x.stamps.take x.stamps.length).drop (((stampedL l : Int) - x.p).toNat)).getD k default) : Int), .int .i64 0, .slice none 0 0, .int .u64 0, .slice none 0 0, .int .i64 0, .int .i64 0, .slice none 0 0, .int .u64 0, .int .i64 0, .int .u64 0, .int .i64 0, .int .i64 0, .int .i64 0, .int .i64 0, .int .i64 0]) rfl rfl (by decide) rfl (Ob_build (vs := [(0, .int .i64 3), (1, .int .i64 (at_ : Int)), (2, .int .u64 ((((x.stamps.take x.stamps.length).drop (((stampedL l : Int) - x.p).toNat)).getD k default) : Int))]) rfl rfl (by go_simp <;> rfl)) ?_; clear hok a; intro a hok
        refine s_bslice hok (vs := [(0, .agg #[.int .i64 3, .int .i64 (at_ : Int), .int .u64 ((((x.stamps.take x.stamps.length).drop (((stampedL l : Int) - x.p).toNat)).getD k default) : Int), .int .i64 0, .slice none 0 0, .int .u64 0, .slice none 0 0, .int .i64 0, .int .i64 0, .slice none 0 0, .int .u64 0, .int .i64 0, .int .u64 0, .int .i64 0, .int .i64 0, .int .i64 0, .int .i64 0, .int .i64 0])]) (cs := [.int .i64 3, .int .i64 (at_ : Int), .int .u64 ((((x.stamps.take x.stamps.length).drop (((stampedL l : Int) - x.p).toNat)).getD k default) : Int), .int .i64 0, .slice none 0 0, .int .u64 0, .slice none 0 0, .int .i64 0, .int .i64 0, .slice none 0 0, .int .u64 0, .int .i64 0, .int .u64 0, .int .i64 0, .int .i64 0, .int .i64 0, .int .i64 0, .int .i64 0]) (e := 82) rfl rfl rfl (by decide) rfl rfl (fun w => run_bslice (z := .agg #[.int .i64 0, .int .i64 0, .int .u64 0, .int .i64 0, .slice none 0 0, .int .u64 0, .slice none 0 0, .int .i64 0, .int .i64 0, .slice none 0 0, .int .u64 0, .int .i64 0, .int .u64 0, .int .i64 0, .int .i64 0, .int .i64 0, .int .i64 0, .int .i64 0]) (m := 18) Try.underlying45 (by kernel_rfl) rfl rfl (by decide) (by simp [Instr.fill, Value.cells]) w) ?_; clear hok a; intro a w6 b2 hb0_b2 hb1_b2 hb X2 hok
        have hge_b2 : w.heap.size ≤ b2 := by have := B.size; omega
        have hlt_b1_b2 : b1 < b2 := by have := X1.lt; omega
        have hnb_O1_b2 : (Value.slice ao_10 out.length cap_10).ownBlock ≠ some b2 := fun e => by have := (hg_O1 _ e).2; omega
        have hz_w6 : w5.heap.size ≤ w6.heap.size := hb.size
        replace B := B.blw hb
        replace L_l := L_l.below hb
        replace L0_x := L0_x.below hb
        replace L1_x := L1_x.below hb
        replace L2_x := L2_x.below hb
        replace L3_x := L3_x.below hb
        replace L4_x := L4_x.below hb
        replace X1 := X1.below hb
        replace L1 := L1.below hb
        replace O1 := O1.below hb
        replace hg_O1 := fun k h => And.intro (hg_O1 k h).1 (Nat.lt_of_lt_of_le (hg_O1 k h).2 hb.size)
        clear hb
        refine s_app2 hok RDNote NoA w.heap.size E_45_Relay1 rfl out [(⟨3, (at_ : Int), (((x.stamps.take x.stamps.length).drop (((stampedL l : Int) - x.p).toNat)).getD k default), (⟨0, [], 0⟩ : DConf), [], (⟨(⟨0, 0, []⟩ : DBatch), 0⟩ : DEntry), (⟨0, 0, 0⟩ : DPin), (⟨0, 0, 0, 0⟩ : DAnswer)⟩ : DNote)] AnyA NoA rfl rfl rfl (by decide) rfl rfl rfl O1 (slRep2.box1 X2 ⟨_, _, _, rfl, (slRep.nil _ _ _ _ _ (Nat.zero_le _)), (slRep.nil _ _ _ _ _ (Nat.zero_le _)), (slRep.nil _ _ _ _ _ (Nat.zero_le _)), ⟨(show i64ok 3 by unfold i64ok; omega), (show i64ok (at_ : Int) by unfold i64ok; omega), hok_e1, ⟨(show i64ok 0 by unfold i64ok; omega), (show 0 < 18446744073709551616 by omega)⟩, ⟨⟨(show i64ok 0 by unfold i64ok; omega), (show i64ok 0 by unfold i64ok; omega)⟩, (show 0 < 18446744073709551616 by omega)⟩, ⟨(show i64ok 0 by unfold i64ok; omega), (show 0 < 18446744073709551616 by omega), (show i64ok 0 by unfold i64ok; omega)⟩, ⟨(show i64ok 0 by unfold i64ok; omega), (show i64ok 0 by unfold i64ok; omega), (show i64ok 0 by unfold i64ok; omega), (show i64ok 0 by unfold i64ok; omega)⟩⟩⟩) (fun cs y hr => RDNote.mono hr (fun k hk => hk.elim) (Keep.refl _ _)) (by simp only [maxLen, List.length_append, List.length_cons, List.length_nil]; omega) (by simp only [List.length_append, List.length_cons, List.length_nil]; omega) B.size hg_O1 ?_; clear hok a; intro ao1 cap1 a w7 O2 hc_O2 hm_O2 hb hblk hown hg_O2 hok
        have hz_w7 : w6.heap.size ≤ w7.heap.size := hb.size
        replace B := B.app hb
        replace L_l := L_l.mono (fun _ h => h) (keep_app hz_w7 hblk (fun k h e => by have h1 := ha_P1 _ h; have h2 := (hg_O1 k e).1; omega))
        replace L0_x := L0_x.mono (fun _ h => h) (keep_app hz_w7 hblk (fun k h e => by have h1 := ha_P2 _ h; have h2 := (hg_O1 k e).1; omega))
        replace L1_x := L1_x.mono (fun _ h => h) (keep_app hz_w7 hblk (fun k h e => by have h1 := ha_P3 _ h; have h2 := (hg_O1 k e).1; omega))
        replace L2_x := L2_x.mono (fun _ h => h) (keep_app hz_w7 hblk (fun k h e => by have h1 := ha_P4 _ h; have h2 := (hg_O1 k e).1; omega))
        replace L3_x := L3_x.mono (fun _ h => h) (keep_app hz_w7 hblk (fun k h e => by have h1 := ha_P5 _ h; have h2 := (hg_O1 k e).1; omega))
        replace L4_x := L4_x.mono (fun _ h => h) (keep_app hz_w7 hblk (fun k h e => by have h1 := ha_P6 _ h; have h2 := (hg_O1 k e).1; omega))
        have hnb_O2_b1 : (Value.slice ao1 (out ++ [(⟨3, (at_ : Int), (((x.stamps.take x.stamps.length).drop (((stampedL l : Int) - x.p).toNat)).getD k default), (⟨0, [], 0⟩ : DConf), [], (⟨(⟨0, 0, []⟩ : DBatch), 0⟩ : DEntry), (⟨0, 0, 0⟩ : DPin), (⟨0, 0, 0, 0⟩ : DAnswer)⟩ : DNote)]).length cap1).ownBlock ≠ some b1 := fun e => (hown _ e).elim hnb_O1_b1 (fun h => by have := X1.lt; omega)
        replace X1 := X1.keep (hblk _ X1.lt hnb_O1_b1)
        replace L1 := L1.mono (fun _ h => h) (keep_app hz_w7 hblk (fun k h e => by have h1 := ha_P5 _ h; have h2 := (hg_O1 k e).1; omega))
        have hnb_O2_b2 : (Value.slice ao1 (out ++ [(⟨3, (at_ : Int), (((x.stamps.take x.stamps.length).drop (((stampedL l : Int) - x.p).toNat)).getD k default), (⟨0, [], 0⟩ : DConf), [], (⟨(⟨0, 0, []⟩ : DBatch), 0⟩ : DEntry), (⟨0, 0, 0⟩ : DPin), (⟨0, 0, 0, 0⟩ : DAnswer)⟩ : DNote)]).length cap1).ownBlock ≠ some b2 := fun e => (hown _ e).elim hnb_O1_b2 (fun h => by have := X2.lt; omega)
        replace X2 := X2.keep (hblk _ X2.lt hnb_O1_b2)
        clear hb hblk hown O1
        refine s_runk TB_Relay1 hok 1 rfl rfl ?_; clear hok a; intro a hok
        refine s_end hok [0, 1, 2, 5, 6, 9, 29, 33, 34, 35, 7, 8, 10, 36, 12, 49] rfl ?_; clear hok; intro hok
        refine p_then ?_
        refine f_region hok ?_; clear hok; intro hok
        refine s_runk TB_Relay1 hok 1 rfl rfl ?_; clear hok a; intro a hok
        refine s_ob hok (v := .int .i64 ((at_ : Int) + 1)) rfl rfl (by decide) rfl (Ob_add rfl rfl rfl (IntWalk.i64_in _ (by omega))) ?_; clear hok a; intro a hok
        refine s_runk TB_Relay1 hok 3 rfl rfl ?_; clear hok a; intro a hok
        refine s_end hok [0, 1, 2, 5, 6, 9, 29, 33, 34, 35, 7, 8, 10, 36, 12, 49] rfl ?_; clear hok; intro hok
        refine p_blk ?_
        refine p_then ?_
        refine f_region hok ?_; clear hok; intro hok
        refine s_ob hok (v := .int .i64 ((k : Int) + 1)) rfl rfl (by decide) rfl (Ob_add rfl rfl rfl (IntWalk.i64_in _ (by omega))) ?_; clear hok a; intro a hok
        refine s_runk TB_Relay1 hok 1 rfl rfl ?_; clear hok a; intro a hok
        refine s_end hok [0, 1, 2, 5, 6, 9, 29, 33, 34, 35, 7, 8, 10, 36, 12, 49] rfl ?_; clear hok; intro hok
        refine p_then ?_
        refine ⟨(k + 1, at_ + 1, ((x.stamps.take x.stamps.length).drop ((stampedL l : Int) - x.p).toNat).getD k default, out ++ [stampN at_ (((x.stamps.take x.stamps.length).drop ((stampedL l : Int) - x.p).toNat).getD k default)]), ⟨_, _, hok.sub (ts := [0, 1, 2, 5, 6, 9, 29, 33, 34, 35, 7, 8, 10]) rfl, ?_, ?_, B, L_l, L0_x, L1_x, L2_x, L3_x, L4_x, X1, L1, O2, hc_O2, (by first | assumption | exact hm_O2), hg_O2, hnb_O2_b1⟩, by dsimp only; omega⟩
        · clear hok B L_l L0_x L1_x L2_x L3_x L4_x X1 L1 X2 O2 hc_v_l hm_v_l ha_P1 ho_P1 hc_v0_x hm_v0_x ha_P2 ho_P2 hc_v1_x hm_v1_x ha_P3 ho_P3 hc_v2_x hm_v2_x ha_P4 ho_P4 hc_v3_x hm_v3_x ha_P5 ho_P5 hc_v4_x hm_v4_x ha_P6 ho_P6 hb0_b1 hb1_b1 hge_b1 hz_w1 hz_w2 hz_w3 hc_o10 hm_o10 hg_O1 hnb_O1_b1 he1 hat1 hz_w5 hb0_b2 hb1_b2 hge_b2 hlt_b1_b2 hnb_O1_b2 hz_w6 hc_O2 hm_O2 hz_w7 hg_O2 hnb_O2_b1 hnb_O2_b2
          refine ⟨by omega, by omega, ?_⟩; rw [List.length_append]; show _ + 1 ≤ _; omega
        · clear hok B L_l L0_x L1_x L2_x L3_x L4_x X1 L1 X2 O2 hc_v_l hm_v_l ha_P1 ho_P1 hc_v0_x hm_v0_x ha_P2 ho_P2 hc_v1_x hm_v1_x ha_P3 ho_P3 hc_v2_x hm_v2_x ha_P4 ho_P4 hc_v3_x hm_v3_x ha_P5 ho_P5 hc_v4_x hm_v4_x ha_P6 ho_P6 hb0_b1 hb1_b1 hge_b1 hz_w1 hz_w2 hz_w3 hc_o10 hm_o10 hg_O1 hnb_O1_b1 he1 hat1 hz_w5 hb0_b2 hb1_b2 hge_b2 hlt_b1_b2 hnb_O1_b2 hz_w6 hc_O2 hm_O2 hz_w7 hg_O2 hnb_O2_b1 hnb_O2_b2
          rw [hinv0_1, learnH_step _ _ _ _ _ (by omega), if_neg (by omega), List.append_assoc]; rfl
    · replace hc2 := of_decide_eq_false hc2
      refine wp_exit ?_
      refine p_then_x ?_
      refine p_then_x ?_
      refine f_exit_here ?_
      refine p_then ?_
      refine wp_seq ?_
      refine f_region hok ?_; clear hok; intro hok
      refine s_runk TB_Relay1 hok 2 rfl rfl ?_; clear hok a; intro a hok
      refine s_end hok [0, 1, 2, 5, 6, 9, 29, 33, 34, 35, 7, 8, 10, 36] rfl ?_; clear hok; intro hok
      refine p_then ?_
      refine wp_ret ?_
      refine f_ret hok (run_results1 rfl hok rfl) ?_
      refine ⟨.slice ao_10 out.length cap_10, ?_, ?_, B.toBelow⟩
      · clear hok B L_l L0_x L1_x L2_x L3_x L4_x X1 L1 O1 hc_v_l hm_v_l ha_P1 ho_P1 hc_v0_x hm_v0_x ha_P2 ho_P2 hc_v1_x hm_v1_x ha_P3 ho_P3 hc_v2_x hm_v2_x ha_P4 ho_P4 hc_v3_x hm_v3_x ha_P5 ho_P5 hc_v4_x hm_v4_x ha_P6 ho_P6 hb0_b1 hb1_b1 hge_b1 hz_w1 hz_w2 hz_w3 hc_o10 hm_o10 hg_O1 hnb_O1_b1
        rfl
      · rw [hinv0_1, List.drop_eq_nil_of_le (by omega)]; show slRep RDNote _ _ _ (out ++ []); rw [List.append_nil]; exact O1.sl (fun _ h => h.elim) (fun k h => h)

end Go.Proofs.Ytmdoimpeacndaaa
