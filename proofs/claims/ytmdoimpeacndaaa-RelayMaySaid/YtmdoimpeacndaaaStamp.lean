/- The walks of 'stamp' and its reference. -/
import Derived.Test.YtmdoimpeacndaaaRefs2
import Derived.Test.YtmdoimpeacndaaaSt5
namespace Go.Proofs.Ytmdoimpeacndaaa
open Go.RowKit

def TB_StampL : TabL := ⟨[(37890, 2), (37893, 5), (37895, 7), (37896, 8), (37897, 9), (37903, 19)], [], [], [(22, (57, 4))], [(3, (1, false)), (22, (1, false)), (24, (1, false))]⟩
def TB_Stamp : Tab Try.prog := ⟨TB_StampL, by kernel_rfl⟩
theorem fn_31_Stamp : IsFn Try.prog 31 := ⟨_, Try.func31, by kernel_rfl, by kernel_rfl⟩
theorem E_22_Stamp : Elem Try.prog 22 57 4 48 := ⟨Try.underlying22, by
  have h : (Try.prog.info? 57).map (fun i => (i.zero, i.size, i.bytes)) = some (some (.agg #[.int .i64 0, .int .i64 0, .slice none 0 0, .int .u64 0]), 4, 48) := by kernel_rfl
  obtain ⟨i, h1, h2, h3, h4⟩ := info_parts h
  exact ⟨i, _, h1, h2, h3, h4, rfl⟩, by decide⟩

def ackL (l : List DEntry) : Nat → List Nat
  | 0 => []
  | n + 1 => match l with
    | [] => []
    | e :: l => if e.ts = 0 then [] else e.ts :: ackL l n

set_option maxHeartbeats 1000000 in
theorem c_ref32_fit (n0 : Int) (most : Int) (w : World) (h_n0 : i64ok n0) (h_most : i64ok most) :
    Calls Try.prog 39 #[.int .i64 n0, .int .i64 most] w (Ret fun r w' => r = .int .i64 (min (max n0 0) most) ∧ Below w.heap.size w w') := by
  have B : Bt [] w w := Bt.refl _ _
  unfold i64ok at h_n0
  unfold i64ok at h_most
  refine f_enter 9 Try.func39 rfl rfl (Nat.le_of_ble_eq_true rfl) fun a hok => ?_
  replace hok := hok.sub (ts := [0, 1]) rfl
  refine wp_seq ?_
  refine f_region hok ?_; clear hok; intro hok
  refine s_runk TB_Stamp hok 1 rfl rfl ?_; clear hok a; intro a hok
  refine s_end hok [0, 1, 4] rfl ?_; clear hok; intro hok
  refine p_then ?_
  refine wp_seq ?_
  refine f_region hok ?_; clear hok; intro hok
  refine s_runk TB_Stamp hok 5 rfl rfl ?_; clear hok a; intro a hok
  refine s_end hok [0, 1, 4] rfl ?_; clear hok; intro hok
  refine p_then ?_
  refine wp_ret ?_
  refine f_ret hok (run_results1 rfl hok rfl) ?_
  refine ⟨?_, B.toBelow⟩
  · clear hok B
    rfl

set_option maxHeartbeats 1000000 in
theorem c_relay_fit (n0 : Int) (most : Int) (w : World) (h_n0 : i64ok n0) (h_most : i64ok most) :
    Calls Try.prog 29 #[.int .i64 n0, .int .i64 most] w (Ret fun r w' => r = .int .i64 (min (max n0 0) most) ∧ Below w.heap.size w w') := by
  have B : Bt [] w w := Bt.refl _ _
  unfold i64ok at h_n0
  unfold i64ok at h_most
  refine f_enter 9 Try.func29 rfl rfl (Nat.le_of_ble_eq_true rfl) fun a hok => ?_
  replace hok := hok.sub (ts := [0, 1]) rfl
  refine wp_seq ?_
  refine f_region hok ?_; clear hok; intro hok
  refine s_runk TB_Stamp hok 1 rfl rfl ?_; clear hok a; intro a hok
  refine s_end hok [0, 1, 4] rfl ?_; clear hok; intro hok
  refine p_then ?_
  refine wp_seq ?_
  refine f_region hok ?_; clear hok; intro hok
  refine s_runk TB_Stamp hok 5 rfl rfl ?_; clear hok a; intro a hok
  refine s_end hok [0, 1, 4] rfl ?_; clear hok; intro hok
  refine p_then ?_
  refine wp_ret ?_
  refine f_ret hok (run_results1 rfl hok rfl) ?_
  refine ⟨?_, B.toBelow⟩
  · clear hok B
    rfl


set_option maxHeartbeats 1000000 in
theorem c_Clone_Entry {A0 : Nat → Prop} (v_s : Value) (s : List DEntry) (w : World) (L_s : slRep RDEntry A0 w v_s s) (hb_s : s.length * 48 ≤ 140737488355328) :
    Calls Try.prog 31 #[v_s] w (Ret fun r w' => ∃ q0 : Value, r = q0 ∧ slRep RDEntry (fun k => A0 k ∨ w.heap.size ≤ k) w' q0 s ∧ Below w.heap.size w w') := by
  have B : Bt [] w w := Bt.refl _ _
  obtain ⟨ao_v_s, cap_v_s, rfl, hc_v_s, hm_v_s⟩ := L_s.shape
  unfold maxLen at hm_v_s
  obtain ⟨P1, ha_P1, ho_P1, L_s⟩ : ∃ X : Nat → Prop, (∀ k, X k → k < w.heap.size) ∧ (∀ k, X k → A0 k ∨ w.heap.size ≤ k) ∧ slRep RDEntry X w (.slice ao_v_s s.length cap_v_s) s := ⟨_, fun k h => h.2, fun k h => .inl h.1, L_s.bound⟩
  refine f_enter 8 Try.func31 rfl rfl (Nat.le_of_ble_eq_true rfl) fun a hok => ?_
  replace hok := hok.sub (ts := [0]) rfl
  refine wp_seq ?_
  refine f_region hok ?_; clear hok; intro hok
  refine s_runk TB_Stamp hok 1 rfl rfl ?_; clear hok a; intro a hok
  refine s_end hok [0, 2] rfl ?_; clear hok; intro hok
  refine p_then ?_
  refine wp_seq ?_
  refine wp_seq ?_
  refine f_region hok ?_; clear hok; intro hok
  refine s_runk TB_Stamp hok 1 rfl rfl ?_; clear hok a; intro a hok
  refine s_ob hok (v := .bool ao_v_s.isNone) rfl rfl (by decide) rfl (Ob_bin rfl rfl rfl (eqg_sl _ _ _ _ _ _ _ _ _ _ _) (run_eql_slice_nil' Try.underlying22 _ _ _ _)) ?_; clear hok a; intro a hok
  refine s_end hok [0, 2, 4] rfl ?_; clear hok; intro hok
  refine p_then ?_
  refine f_cond hok rfl (fun hc1 => ?_) (fun hc1 => ?_)
  · skip
    refine wp_seq ?_
    refine f_region hok ?_; clear hok; intro hok
    refine s_runk TB_Stamp hok 1 rfl rfl ?_; clear hok a; intro a hok
    refine s_end hok [0, 2, 4] rfl ?_; clear hok; intro hok
    refine p_then ?_
    refine wp_ret ?_
    refine p_then_r ?_
    refine f_ret hok (run_results1 rfl hok rfl) ?_
    refine ⟨.slice none 0 0, ?_, ?_, B.toBelow⟩
    · clear hok B L_s hc_v_s hm_v_s ha_P1 ho_P1
      rfl
    · have e := L_s.isNone hc1; subst e; exact slRep.nil _ _ _ _ _ (Nat.zero_le _)
  · skip
    refine wp_skip ?_
    refine p_then ?_
    refine wp_seq ?_
    refine f_region hok ?_; clear hok; intro hok
    refine s_bslice hok (vs := []) (cs := []) (e := 57) rfl rfl rfl (by decide) rfl rfl (fun w => run_bslice (z := .agg #[.int .i64 0, .int .i64 0, .slice none 0 0, .int .u64 0]) (m := 4) Try.underlying22 (by kernel_rfl) rfl rfl (by decide) (by simp [Instr.fill, Value.cells]) w) ?_; clear hok a; intro a w1 b1 hb0_b1 hb1_b1 hb X1 hok
    have hge_b1 : w.heap.size ≤ b1 := by have := B.size; omega
    have hz_w1 : w.heap.size ≤ w1.heap.size := hb.size
    replace B := B.blw hb
    replace L_s := L_s.below hb
    clear hb
    refine s_runk TB_Stamp hok 1 rfl rfl ?_; clear hok a; intro a hok
    have O1 : Ow RDEntry P1 w.heap.size 57 w1 (.slice (some ⟨b1, 0, none⟩) 0 0) [] := Ow.nil _ _ _ _ _ _
    have hg_O1 : ∀ k, (Value.slice (some ⟨b1, 0, none⟩) 0 0).ownBlock = some k → w.heap.size ≤ k ∧ k < w1.heap.size := fun k h => by simp [Value.ownBlock] at h; subst h; exact ⟨hge_b1, X1.lt⟩
    refine s_app2 hok RDEntry P1 w.heap.size E_22_Stamp rfl ([]) s AnyA _ rfl rfl rfl (by decide) rfl rfl rfl O1 L_s.two (fun cs y hr => RDEntry.mono (RDEntry.bound hr) (fun k hk => ⟨hk.1, fun e => by have h1 := (hg_O1 k e).1; have h2 := ha_P1 _ hk.1; omega⟩) (Keep.refl _ _)) (by simp only [maxLen, List.length_append, List.length_cons, List.length_nil]; omega) (by simp only [List.length_append, List.length_cons, List.length_nil]; omega) B.size hg_O1 ?_; clear hok a; intro ao1 cap1 a w2 O2 hc_O2 hm_O2 hb hblk hown hg_O2 hok
    have hz_w2 : w1.heap.size ≤ w2.heap.size := hb.size
    replace B := B.app hb
    replace L_s := L_s.mono (fun _ h => h) (keep_app hz_w2 hblk (fun k h e => by have h1 := ha_P1 _ h; have h2 := (hg_O1 k e).1; omega))
    clear hb hblk hown O1
    refine s_runk TB_Stamp hok 1 rfl rfl ?_; clear hok a; intro a hok
    refine s_end hok [0, 2, 4] rfl ?_; clear hok; intro hok
    refine p_then ?_
    refine wp_ret ?_
    refine f_ret hok (run_results1 rfl hok rfl) ?_
    refine ⟨.slice ao1 ((([]) ++ s).length) cap1, ?_, ?_, B.toBelow⟩
    · clear hok B L_s O2 hc_v_s hm_v_s ha_P1 ho_P1 hb0_b1 hb1_b1 hge_b1 hz_w1 hg_O1 hc_O2 hm_O2 hz_w2 hg_O2
      rfl
    · exact O2.sl (fun k h => ho_P1 _ h) (fun k h => (.inr h))


set_option maxHeartbeats 1000000 in
theorem c_Fwd2 {A0 : Nat → Prop} {A1 : Nat → Prop} {A2 : Nat → Prop} {A3 : Nat → Prop} {A4 : Nat → Prop} (b_x : Nat) (x : DMsg) (v0_x : Value) (v1_x : Value) (v2_x : Value) (v3_x : Value) (v4_x : Value) (b_stable : Nat) (stable : Int) (b_horizon : Nat) (horizon : Nat) (w : World) (L0_x : slRep RDMember A0 w v0_x x.conf.members) (L1_x : slRep RDOp A1 w v1_x x.batch.ops) (L2_x : slRep RDEntry A2 w v2_x x.entries) (L3_x : slRep RU A3 w v3_x x.stamps) (L4_x : slRep RDPair A4 w v4_x x.pairs) (h_x : okDMsg x) (X_x : Box w b_x 37 (cDMsg x v0_x v1_x v2_x v3_x v4_x)) (h_stable : i64ok stable) (X_stable : Box w b_stable 3 [.int .i64 stable]) (h_horizon : horizon < 18446744073709551616) (X_horizon : Box w b_horizon 24 [.int .u64 (horizon : Int)]) (hne_stable_x : b_stable ≠ b_x) (hne_horizon_x : b_horizon ≠ b_x) (hA_A0_x : ∀ k, A0 k → k ≠ b_x) (hA_A1_x : ∀ k, A1 k → k ≠ b_x) (hA_A2_x : ∀ k, A2 k → k ≠ b_x) (hA_A3_x : ∀ k, A3 k → k ≠ b_x) (hA_A4_x : ∀ k, A4 k → k ≠ b_x) :
    Calls Try.prog 32 #[.pointer (some ⟨b_x, 0, none⟩), .pointer (some ⟨b_stable, 0, none⟩), .pointer (some ⟨b_horizon, 0, none⟩)] w (Ret fun r w' => r = .tuple #[] ∧ Box w' b_x 37 (cDMsg ({x with req := max stable 0, at_ := horizon}) v0_x v1_x v2_x v3_x v4_x) ∧ Bt [b_x] w w') := by
  have B : Bt [b_x] w w := Bt.refl _ _
  obtain ⟨ao_v0_x, cap_v0_x, rfl, hc_v0_x, hm_v0_x⟩ := L0_x.shape
  unfold maxLen at hm_v0_x
  obtain ⟨P1, ha_P1, ho_P1, L0_x⟩ : ∃ X : Nat → Prop, (∀ k, X k → k < w.heap.size ∧ k ≠ b_x) ∧ (∀ k, X k → A0 k ∨ A1 k ∨ A2 k ∨ A3 k ∨ A4 k ∨ w.heap.size ≤ k) ∧ slRep RDMember X w (.slice ao_v0_x x.conf.members.length cap_v0_x) x.conf.members := ⟨_, fun k h => ⟨h.2, hA_A0_x k h.1⟩, fun k h => .inl h.1, L0_x.bound⟩
  obtain ⟨ao_v1_x, cap_v1_x, rfl, hc_v1_x, hm_v1_x⟩ := L1_x.shape
  unfold maxLen at hm_v1_x
  obtain ⟨P2, ha_P2, ho_P2, L1_x⟩ : ∃ X : Nat → Prop, (∀ k, X k → k < w.heap.size ∧ k ≠ b_x) ∧ (∀ k, X k → A0 k ∨ A1 k ∨ A2 k ∨ A3 k ∨ A4 k ∨ w.heap.size ≤ k) ∧ slRep RDOp X w (.slice ao_v1_x x.batch.ops.length cap_v1_x) x.batch.ops := ⟨_, fun k h => ⟨h.2, hA_A1_x k h.1⟩, fun k h => .inr (.inl h.1), L1_x.bound⟩
  obtain ⟨ao_v2_x, cap_v2_x, rfl, hc_v2_x, hm_v2_x⟩ := L2_x.shape
  unfold maxLen at hm_v2_x
  obtain ⟨P3, ha_P3, ho_P3, L2_x⟩ : ∃ X : Nat → Prop, (∀ k, X k → k < w.heap.size ∧ k ≠ b_x) ∧ (∀ k, X k → A0 k ∨ A1 k ∨ A2 k ∨ A3 k ∨ A4 k ∨ w.heap.size ≤ k) ∧ slRep RDEntry X w (.slice ao_v2_x x.entries.length cap_v2_x) x.entries := ⟨_, fun k h => ⟨h.2, hA_A2_x k h.1⟩, fun k h => .inr (.inr (.inl h.1)), L2_x.bound⟩
  obtain ⟨ao_v3_x, cap_v3_x, rfl, hc_v3_x, hm_v3_x⟩ := L3_x.shape
  unfold maxLen at hm_v3_x
  obtain ⟨P4, ha_P4, ho_P4, L3_x⟩ : ∃ X : Nat → Prop, (∀ k, X k → k < w.heap.size ∧ k ≠ b_x) ∧ (∀ k, X k → A0 k ∨ A1 k ∨ A2 k ∨ A3 k ∨ A4 k ∨ w.heap.size ≤ k) ∧ slRep RU X w (.slice ao_v3_x x.stamps.length cap_v3_x) x.stamps := ⟨_, fun k h => ⟨h.2, hA_A3_x k h.1⟩, fun k h => .inr (.inr (.inr (.inl h.1))), L3_x.bound⟩
  obtain ⟨ao_v4_x, cap_v4_x, rfl, hc_v4_x, hm_v4_x⟩ := L4_x.shape
  unfold maxLen at hm_v4_x
  obtain ⟨P5, ha_P5, ho_P5, L4_x⟩ : ∃ X : Nat → Prop, (∀ k, X k → k < w.heap.size ∧ k ≠ b_x) ∧ (∀ k, X k → A0 k ∨ A1 k ∨ A2 k ∨ A3 k ∨ A4 k ∨ w.heap.size ≤ k) ∧ slRep RDPair X w (.slice ao_v4_x x.pairs.length cap_v4_x) x.pairs := ⟨_, fun k h => ⟨h.2, hA_A4_x k h.1⟩, fun k h => .inr (.inr (.inr (.inr (.inl h.1)))), L4_x.bound⟩
  unfold i64ok at h_stable
  refine f_enter 13 Try.func32 rfl rfl (Nat.le_of_ble_eq_true rfl) fun a hok => ?_
  replace hok := hok.sub (ts := [0, 1, 2]) rfl
  refine f_regionF hok (by kernel_rfl) (by kernel_rfl) (by decide) (by decide) (fun xw => Bt [b_x] w xw ∧ Wr xw b_x 37 [.int .i64 x.k, .int .i64 x.epoch, .int .i64 x.req, .int .i64 x.serial, .bool x.flag, .int .u64 (x.at_ : Int), .int .u64 (x.last : Int), .int .i64 x.n, .int .i64 x.m, .int .i64 x.p, .int .i64 x.e, .string x.key, .string x.to_, .int .i64 x.conf.epoch, .slice ao_v0_x x.conf.members.length cap_v0_x, .int .u64 (x.conf.floor : Int), .int .i64 x.batch.client, .int .i64 x.batch.req, .slice ao_v1_x x.batch.ops.length cap_v1_x, .slice ao_v2_x x.entries.length cap_v2_x, .slice ao_v3_x x.stamps.length cap_v3_x, .slice ao_v4_x x.pairs.length cap_v4_x] [2, 5]) (fun jj vv xw => match jj with | 0 => vv = .pointer (some ⟨b_x, 0, none⟩) | 1 => vv = .pointer (some ⟨b_x, 0, none⟩) | 2 => vv = .int .i64 stable | 3 => vv = .int .i64 (max stable 0) | 4 => vv = .int .u64 (horizon : Int) | 5 => vv = .pointer (some ⟨b_x, 0, none⟩) | 6 => vv = .pointer (some ⟨b_x, 2, none⟩) | 7 => xw.cell? ⟨b_x, 2, none⟩ = some (.int .i64 (max stable 0)) | 8 => vv = .pointer (some ⟨b_x, 0, none⟩) | 9 => vv = .pointer (some ⟨b_x, 5, none⟩) | _ => xw.cell? ⟨b_x, 5, none⟩ = some (.int .u64 (horizon : Int))) ⟨Bt.of (Below.refl _ _).drew, (Wr.start X_x _).below (Below.refl _ _).drew⟩ ?_ ?_
  · intro fr hfr hfe
    simp only [owesF]
    refine ⟨fun vals xw hC hF hL => ?_, fun vals xw hC hF hL => ?_, fun vals xw hC hF hL => ?_, fun vals xw hC hF hL => ?_, fun vals xw hC hF hL => ?_, fun vals xw hC hF hL => ?_, fun vals xw hC hF hL => ?_, fun vals xw hC hF hL => ?_, fun vals xw hC hF hL => ?_, fun vals xw hC hF hL => ?_, fun vals xw hC hF hL => ?_, trivial⟩
    · rw [← hfe]
      have hS := (hfr vals).sub (ts := [0]) (S' := [(0, .pointer (some ⟨b_x, 0, none⟩))]) rfl
      exact F_val hS rfl (Ob_c TB_Stamp rfl) hC rfl
    · rw [← hfe]
      have hS := (hfr vals).sub (ts := [0]) (S' := [(0, .pointer (some ⟨b_x, 0, none⟩))]) rfl
      exact F_val hS rfl (Ob_c TB_Stamp rfl) hC rfl
    · rw [← hfe]
      have hS := (hfr vals).sub (ts := [1]) (S' := [(1, .pointer (some ⟨b_stable, 0, none⟩))]) rfl
      exact F_val hS rfl (Ob_load TB_Stamp rfl rfl rfl ((X_stable.keep (hC.1.block _ X_stable.lt (by simp; omega))).cell 0 rfl)) hC rfl
    · rw [← hfe]
      have hS := (hfr vals).sub (ts := [6]) (S' := [(6, vals 2)]) rfl
      have f2 : vals 2 = .int .i64 stable := hF 2 (by decide)
      rw [f2] at hS
      exact F_val hS rfl (Ob_c TB_Stamp rfl) hC rfl
    · rw [← hfe]
      have hS := (hfr vals).sub (ts := [2]) (S' := [(2, .pointer (some ⟨b_horizon, 0, none⟩))]) rfl
      exact F_val hS rfl (Ob_load TB_Stamp rfl rfl rfl ((X_horizon.keep (hC.1.block _ X_horizon.lt (by simp; omega))).cell 0 rfl)) hC rfl
    · rw [← hfe]
      have hS := (hfr vals).sub (ts := [4]) (S' := [(4, vals 0)]) rfl
      have f0 : vals 0 = .pointer (some ⟨b_x, 0, none⟩) := hF 0 (by decide)
      rw [f0] at hS
      exact F_val hS rfl (Ob_c TB_Stamp rfl) hC rfl
    · rw [← hfe]
      have hS := (hfr vals).sub (ts := [9]) (S' := [(9, vals 5)]) rfl
      have f5 : vals 5 = .pointer (some ⟨b_x, 0, none⟩) := hF 5 (by decide)
      rw [f5] at hS
      exact F_val hS rfl (Ob_c TB_Stamp rfl) hC rfl
    · rw [← hfe]
      have hS := (hfr vals).sub (ts := [10, 7]) (S' := [(10, vals 6), (7, vals 3)]) rfl
      have f6 : vals 6 = .pointer (some ⟨b_x, 2, none⟩) := hF 6 (by decide)
      have f3 : vals 3 = .int .i64 (max stable 0) := hF 3 (by decide)
      rw [f6, f3] at hS
      obtain ⟨ds, hX, hl, ho⟩ := hC.2
      refine F_store TB_Stamp (us := [.int .i64 (max stable 0)]) hS hX rfl rfl rfl rfl rfl rfl rfl rfl (by simp only [List.mem_singleton]; rintro u rfl; rfl) (by rw [hl]; exact (Nat.le_of_ble_eq_true rfl)) fun yw ht hY => ?_
      refine ⟨⟨⟨hC.1.trn ht (.inl (by simp)), Wr.put hl ho hY (by simp)⟩, fun j v hj hne hk h => ?_⟩, ?_⟩
      · match j, hne, h with
          | 0, hne, h => exact h
          | 1, hne, h => exact h
          | 2, hne, h => exact h
          | 3, hne, h => exact h
          | 4, hne, h => exact h
          | 5, hne, h => exact h
          | 6, hne, h => exact h
          | 7, hne, h => exact absurd rfl hne
          | 8, hne, h => exact h
          | 9, hne, h => exact h
          | _ + 10, hne, h => exact put_other hX hY (by decide) h
      · exact put_cell hY (by rw [hl]; exact (Nat.le_of_ble_eq_true rfl))
    · rw [← hfe]
      have hS := (hfr vals).sub (ts := [5]) (S' := [(5, vals 1)]) rfl
      have f1 : vals 1 = .pointer (some ⟨b_x, 0, none⟩) := hF 1 (by decide)
      rw [f1] at hS
      exact F_val hS rfl (Ob_c TB_Stamp rfl) hC rfl
    · rw [← hfe]
      have hS := (hfr vals).sub (ts := [11]) (S' := [(11, vals 8)]) rfl
      have f8 : vals 8 = .pointer (some ⟨b_x, 0, none⟩) := hF 8 (by decide)
      rw [f8] at hS
      exact F_val hS rfl (Ob_c TB_Stamp rfl) hC rfl
    · rw [← hfe]
      have hS := (hfr vals).sub (ts := [12, 8]) (S' := [(12, vals 9), (8, vals 4)]) rfl
      have f9 : vals 9 = .pointer (some ⟨b_x, 5, none⟩) := hF 9 (by decide)
      have f4 : vals 4 = .int .u64 (horizon : Int) := hF 4 (by decide)
      rw [f9, f4] at hS
      obtain ⟨ds, hX, hl, ho⟩ := hC.2
      refine F_store TB_Stamp (us := [.int .u64 (horizon : Int)]) hS hX rfl rfl rfl rfl rfl rfl rfl rfl (by simp only [List.mem_singleton]; rintro u rfl; rfl) (by rw [hl]; exact (Nat.le_of_ble_eq_true rfl)) fun yw ht hY => ?_
      refine ⟨⟨⟨hC.1.trn ht (.inl (by simp)), Wr.put hl ho hY (by simp)⟩, fun j v hj hne hk h => ?_⟩, ?_⟩
      · match j, hne, h with
          | 0, hne, h => exact h
          | 1, hne, h => exact h
          | 2, hne, h => exact h
          | 3, hne, h => exact h
          | 4, hne, h => exact h
          | 5, hne, h => exact h
          | 6, hne, h => exact h
          | 7, hne, h => exact put_other hX hY (by decide) h
          | 8, hne, h => exact h
          | 9, hne, h => exact h
          | _ + 10, hne, h => (first | (exact absurd rfl hne) | omega | (simp at hj; omega))
      · exact put_cell hY (by rw [hl]; exact (Nat.le_of_ble_eq_true rfl))
  · intro vals a w1 hS hC hF
    replace hok := hS.sub (ts := [0, 1, 2]) (S' := [(0, .pointer (some ⟨b_x, 0, none⟩)), (1, .pointer (some ⟨b_stable, 0, none⟩)), (2, .pointer (some ⟨b_horizon, 0, none⟩))]) rfl; clear hS
    have X1 : Box w1 b_x 37 [.int .i64 x.k, .int .i64 x.epoch, .int .i64 (max stable 0), .int .i64 x.serial, .bool x.flag, .int .u64 (horizon : Int), .int .u64 (x.last : Int), .int .i64 x.n, .int .i64 x.m, .int .i64 x.p, .int .i64 x.e, .string x.key, .string x.to_, .int .i64 x.conf.epoch, .slice ao_v0_x x.conf.members.length cap_v0_x, .int .u64 (x.conf.floor : Int), .int .i64 x.batch.client, .int .i64 x.batch.req, .slice ao_v1_x x.batch.ops.length cap_v1_x, .slice ao_v2_x x.entries.length cap_v2_x, .slice ao_v3_x x.stamps.length cap_v3_x, .slice ao_v4_x x.pairs.length cap_v4_x] := Wr.done hC.2 [(2, .int .i64 (max stable 0)), (5, .int .u64 (horizon : Int))] rfl (by decide) (by intro p hp; simp only [List.mem_cons, List.not_mem_nil, or_false] at hp; rcases hp with rfl | rfl <;> exact (Nat.le_of_ble_eq_true rfl)) (by intro p hp; simp only [List.mem_cons, List.not_mem_nil, or_false] at hp; rcases hp with rfl | rfl <;> first | exact hF 7 (by decide) | exact hF 10 (by decide))
    have ht := hC.1
    clear X_x
    clear hC hF
    have hz_w1 : w.heap.size ≤ w1.heap.size := ht.size
    replace B := B.tch ht (.inl (by simp))
    replace L0_x := L0_x.tch ht (fun h => by have := ha_P1 _ h; omega)
    replace L1_x := L1_x.tch ht (fun h => by have := ha_P2 _ h; omega)
    replace L2_x := L2_x.tch ht (fun h => by have := ha_P3 _ h; omega)
    replace L3_x := L3_x.tch ht (fun h => by have := ha_P4 _ h; omega)
    replace L4_x := L4_x.tch ht (fun h => by have := ha_P5 _ h; omega)
    replace X_stable := X_stable.tch ht (by omega)
    replace X_horizon := X_horizon.tch ht (by omega)
    clear ht
    refine f_fall hok (run_results0 rfl) ?_
    refine ⟨?_, ?_, B⟩
    · clear hok B L0_x L1_x L2_x L3_x L4_x X1 X_stable X_horizon hc_v0_x hm_v0_x ha_P1 ho_P1 hc_v1_x hm_v1_x ha_P2 ho_P2 hc_v2_x hm_v2_x ha_P3 ho_P3 hc_v3_x hm_v3_x ha_P4 ho_P4 hc_v4_x hm_v4_x ha_P5 ho_P5 hz_w1
      rfl
    · exact X1


set_option maxHeartbeats 1000000 in
theorem c_Fwd1 {A0 : Nat → Prop} {A1 : Nat → Prop} {A2 : Nat → Prop} {A3 : Nat → Prop} {A4 : Nat → Prop} {A5 : Nat → Prop} (b_x : Nat) (x : DMsg) (v0_x : Value) (v1_x : Value) (v2_x : Value) (v3_x : Value) (v4_x : Value) (b_l : Nat) (v_l : Value) (l : List DEntry) (b_f : Nat) (f : Int) (b_to_ : Nat) (to_ : Int) (w : World) (L0_x : slRep RDMember A0 w v0_x x.conf.members) (L1_x : slRep RDOp A1 w v1_x x.batch.ops) (L2_x : slRep RDEntry A2 w v2_x x.entries) (L3_x : slRep RU A3 w v3_x x.stamps) (L4_x : slRep RDPair A4 w v4_x x.pairs) (h_x : okDMsg x) (X_x : Box w b_x 37 (cDMsg x v0_x v1_x v2_x v3_x v4_x)) (L_l : slRep RDEntry A5 w v_l l) (X_l : Box w b_l 22 [v_l]) (h_f : i64ok f) (X_f : Box w b_f 3 [.int .i64 f]) (h_to_ : i64ok to_) (X_to_ : Box w b_to_ 3 [.int .i64 to_]) (hne_l_x : b_l ≠ b_x) (hne_f_x : b_f ≠ b_x) (hne_to__x : b_to_ ≠ b_x) (hA_A0_x : ∀ k, A0 k → k ≠ b_x) (hA_A1_x : ∀ k, A1 k → k ≠ b_x) (hA_A2_x : ∀ k, A2 k → k ≠ b_x) (hA_A3_x : ∀ k, A3 k → k ≠ b_x) (hA_A4_x : ∀ k, A4 k → k ≠ b_x) (hA_A5_x : ∀ k, A5 k → k ≠ b_x) (hf0 : 0 ≤ f ∧ f ≤ to_ ∧ to_ ≤ l.length) (hb : l.length * 48 ≤ 140737488355328) :
    Calls Try.prog 30 #[.pointer (some ⟨b_x, 0, none⟩), .pointer (some ⟨b_l, 0, none⟩), .pointer (some ⟨b_f, 0, none⟩), .pointer (some ⟨b_to_, 0, none⟩)] w (Ret fun r w' => ∃ z0 : Value, r = .tuple #[] ∧ slRep RDEntry (fun k => A0 k ∨ A1 k ∨ A2 k ∨ A3 k ∨ A4 k ∨ A5 k ∨ w.heap.size ≤ k) w' z0 ({x with entries := (l.take to_.toNat).drop f.toNat}).entries ∧ Box w' b_x 37 (cDMsg ({x with entries := (l.take to_.toNat).drop f.toNat}) v0_x v1_x z0 v3_x v4_x) ∧ Bt [b_x] w w') := by
  have B : Bt [b_x] w w := Bt.refl _ _
  obtain ⟨ao_v0_x, cap_v0_x, rfl, hc_v0_x, hm_v0_x⟩ := L0_x.shape
  unfold maxLen at hm_v0_x
  obtain ⟨P1, ha_P1, ho_P1, L0_x⟩ : ∃ X : Nat → Prop, (∀ k, X k → k < w.heap.size ∧ k ≠ b_x) ∧ (∀ k, X k → A0 k ∨ A1 k ∨ A2 k ∨ A3 k ∨ A4 k ∨ A5 k ∨ w.heap.size ≤ k) ∧ slRep RDMember X w (.slice ao_v0_x x.conf.members.length cap_v0_x) x.conf.members := ⟨_, fun k h => ⟨h.2, hA_A0_x k h.1⟩, fun k h => .inl h.1, L0_x.bound⟩
  obtain ⟨ao_v1_x, cap_v1_x, rfl, hc_v1_x, hm_v1_x⟩ := L1_x.shape
  unfold maxLen at hm_v1_x
  obtain ⟨P2, ha_P2, ho_P2, L1_x⟩ : ∃ X : Nat → Prop, (∀ k, X k → k < w.heap.size ∧ k ≠ b_x) ∧ (∀ k, X k → A0 k ∨ A1 k ∨ A2 k ∨ A3 k ∨ A4 k ∨ A5 k ∨ w.heap.size ≤ k) ∧ slRep RDOp X w (.slice ao_v1_x x.batch.ops.length cap_v1_x) x.batch.ops := ⟨_, fun k h => ⟨h.2, hA_A1_x k h.1⟩, fun k h => .inr (.inl h.1), L1_x.bound⟩
  obtain ⟨ao_v2_x, cap_v2_x, rfl, hc_v2_x, hm_v2_x⟩ := L2_x.shape
  unfold maxLen at hm_v2_x
  obtain ⟨P3, ha_P3, ho_P3, L2_x⟩ : ∃ X : Nat → Prop, (∀ k, X k → k < w.heap.size ∧ k ≠ b_x) ∧ (∀ k, X k → A0 k ∨ A1 k ∨ A2 k ∨ A3 k ∨ A4 k ∨ A5 k ∨ w.heap.size ≤ k) ∧ slRep RDEntry X w (.slice ao_v2_x x.entries.length cap_v2_x) x.entries := ⟨_, fun k h => ⟨h.2, hA_A2_x k h.1⟩, fun k h => .inr (.inr (.inl h.1)), L2_x.bound⟩
  obtain ⟨ao_v3_x, cap_v3_x, rfl, hc_v3_x, hm_v3_x⟩ := L3_x.shape
  unfold maxLen at hm_v3_x
  obtain ⟨P4, ha_P4, ho_P4, L3_x⟩ : ∃ X : Nat → Prop, (∀ k, X k → k < w.heap.size ∧ k ≠ b_x) ∧ (∀ k, X k → A0 k ∨ A1 k ∨ A2 k ∨ A3 k ∨ A4 k ∨ A5 k ∨ w.heap.size ≤ k) ∧ slRep RU X w (.slice ao_v3_x x.stamps.length cap_v3_x) x.stamps := ⟨_, fun k h => ⟨h.2, hA_A3_x k h.1⟩, fun k h => .inr (.inr (.inr (.inl h.1))), L3_x.bound⟩
  obtain ⟨ao_v4_x, cap_v4_x, rfl, hc_v4_x, hm_v4_x⟩ := L4_x.shape
  unfold maxLen at hm_v4_x
  obtain ⟨P5, ha_P5, ho_P5, L4_x⟩ : ∃ X : Nat → Prop, (∀ k, X k → k < w.heap.size ∧ k ≠ b_x) ∧ (∀ k, X k → A0 k ∨ A1 k ∨ A2 k ∨ A3 k ∨ A4 k ∨ A5 k ∨ w.heap.size ≤ k) ∧ slRep RDPair X w (.slice ao_v4_x x.pairs.length cap_v4_x) x.pairs := ⟨_, fun k h => ⟨h.2, hA_A4_x k h.1⟩, fun k h => .inr (.inr (.inr (.inr (.inl h.1)))), L4_x.bound⟩
  obtain ⟨ao_v_l, cap_v_l, rfl, hc_v_l, hm_v_l⟩ := L_l.shape
  unfold maxLen at hm_v_l
  obtain ⟨P6, ha_P6, ho_P6, L_l⟩ : ∃ X : Nat → Prop, (∀ k, X k → k < w.heap.size ∧ k ≠ b_x) ∧ (∀ k, X k → A0 k ∨ A1 k ∨ A2 k ∨ A3 k ∨ A4 k ∨ A5 k ∨ w.heap.size ≤ k) ∧ slRep RDEntry X w (.slice ao_v_l l.length cap_v_l) l := ⟨_, fun k h => ⟨h.2, hA_A5_x k h.1⟩, fun k h => .inr (.inr (.inr (.inr (.inr (.inl h.1))))), L_l.bound⟩
  unfold i64ok at h_f
  unfold i64ok at h_to_
  refine f_enter 13 Try.func30 rfl rfl (Nat.le_of_ble_eq_true rfl) fun a hok => ?_
  replace hok := hok.sub (ts := [0, 1, 2, 3]) rfl
  refine f_region hok ?_; clear hok; intro hok
  refine s_runk TB_Stamp hok 1 rfl rfl ?_; clear hok a; intro a hok
  refine s_ob hok (v := .slice ao_v_l l.length cap_v_l) rfl rfl (by decide) rfl (Ob_load TB_Stamp rfl rfl rfl (X_l.cell 0 rfl)) ?_; clear hok a; intro a hok
  refine s_ob hok (v := .int .i64 f) rfl rfl (by decide) rfl (Ob_load TB_Stamp rfl rfl rfl (X_f.cell 0 rfl)) ?_; clear hok a; intro a hok
  refine s_ob hok (v := .int .i64 to_) rfl rfl (by decide) rfl (Ob_load TB_Stamp rfl rfl rfl (X_to_.cell 0 rfl)) ?_; clear hok a; intro a hok
  have hs1 : f.toNat ≤ to_.toNat ∧ to_.toNat ≤ l.length := by constructor <;> omega
  have L1 := L_l.sub 4 f.toNat to_.toNat rfl hs1.1 hs1.2
  refine s_ob hok (v := .slice (subA ao_v_l cap_v_l f.toNat 4) (to_.toNat - f.toNat) (cap_v_l - f.toNat)) rfl rfl (by decide) rfl (Ob_sl_of TB_Stamp (f.toNat) (to_.toNat) rfl rfl rfl rfl rfl (by omega) (by omega) hs1.1 (Nat.le_trans hs1.2 hc_v_l)) ?_; clear hok a; intro a hok
  refine s_call hok fn_31_Stamp (caps := #[]) rfl rfl rfl rfl rfl (by decide) rfl rfl (c_Clone_Entry _ ((l.take to_.toNat).drop f.toNat) _ L1 (by first | omega | (simp only [List.length_drop, List.length_take, List.length_append, List.length_cons, List.length_nil]; omega))) ?_; clear hok a; intro _ a w1 hr hok
  obtain ⟨q1, rfl, L2, hb⟩ := hr
  have hbl_b_x_w1 : b_x < w.heap.size := X_x.lt
  have hbl_b_l_w1 : b_l < w.heap.size := X_l.lt
  have hbl_b_f_w1 : b_f < w.heap.size := X_f.lt
  have hbl_b_to__w1 : b_to_ < w.heap.size := X_to_.lt
  have hn_w1 : w.heap.size ≤ w.heap.size := B.size
  have hz_w1 : w.heap.size ≤ w1.heap.size := hb.size
  replace B := B.blw hb
  replace L0_x := L0_x.below hb
  replace L1_x := L1_x.below hb
  replace L2_x := L2_x.below hb
  replace L3_x := L3_x.below hb
  replace L4_x := L4_x.below hb
  replace X_x := X_x.below hb
  replace L_l := L_l.below hb
  replace X_l := X_l.below hb
  replace X_f := X_f.below hb
  replace X_to_ := X_to_.below hb
  replace L1 := L1.below hb
  clear hb
  obtain ⟨ao_q1, cap_q1, rfl, hc_q1, hm_q1⟩ := L2.shape
  unfold maxLen at hm_q1
  obtain ⟨P7, ha_P7, ho_P7, L2⟩ : ∃ X : Nat → Prop, (∀ k, X k → (k < w.heap.size ∧ k ≠ b_x ∨ w.heap.size ≤ k ∧ k ≠ b_x ∧ k ≠ b_l ∧ k ≠ b_f ∧ k ≠ b_to_) ∧ k < w1.heap.size) ∧ (∀ k, X k → A0 k ∨ A1 k ∨ A2 k ∨ A3 k ∨ A4 k ∨ A5 k ∨ w.heap.size ≤ k) ∧ slRep RDEntry X w1 (.slice ao_q1 ((l.take to_.toNat).drop f.toNat).length cap_q1) ((l.take to_.toNat).drop f.toNat) := ⟨_, fun k h => by rcases h.1 with h1 | h1 <;> first | (have := ha_P6 _ h1; have := h.2; omega) | (have := h.2; omega), fun k h => by rcases h.1 with h1 | h1 <;> first | exact ho_P6 _ h1 | exact (.inr (.inr (.inr (.inr (.inr (.inr (Nat.le_trans hn_w1 h1))))))), L2.bound⟩
  refine s_runk TB_Stamp hok 2 rfl rfl ?_; clear hok a; intro a hok
  refine s_store TB_Stamp hok (us := [.slice ao_q1 (((l.take to_.toNat).drop f.toNat).length) cap_q1]) (cs' := [.int .i64 x.k, .int .i64 x.epoch, .int .i64 x.req, .int .i64 x.serial, .bool x.flag, .int .u64 (x.at_ : Int), .int .u64 (x.last : Int), .int .i64 x.n, .int .i64 x.m, .int .i64 x.p, .int .i64 x.e, .string x.key, .string x.to_, .int .i64 x.conf.epoch, .slice ao_v0_x x.conf.members.length cap_v0_x, .int .u64 (x.conf.floor : Int), .int .i64 x.batch.client, .int .i64 x.batch.req, .slice ao_v1_x x.batch.ops.length cap_v1_x, .slice ao_q1 (((l.take to_.toNat).drop f.toNat).length) cap_q1, .slice ao_v3_x x.stamps.length cap_v3_x, .slice ao_v4_x x.pairs.length cap_v4_x]) X_x rfl rfl rfl rfl rfl rfl rfl rfl (by simp only [List.mem_cons, List.not_mem_nil, or_false]; rintro u rfl <;> rfl) (Nat.le_of_ble_eq_true rfl) rfl fun w2 ht X1 => ?_
  clear X_x
  have hz_w2 : w1.heap.size ≤ w2.heap.size := Nat.le_of_eq ht.size.symm
  replace B := B.trn ht (.inl (by simp))
  replace L0_x := L0_x.turn ht (fun h => by have := ha_P1 _ h; omega)
  replace L1_x := L1_x.turn ht (fun h => by have := ha_P2 _ h; omega)
  replace L2_x := L2_x.turn ht (fun h => by have := ha_P3 _ h; omega)
  replace L3_x := L3_x.turn ht (fun h => by have := ha_P4 _ h; omega)
  replace L4_x := L4_x.turn ht (fun h => by have := ha_P5 _ h; omega)
  replace L_l := L_l.turn ht (fun h => by have := ha_P6 _ h; omega)
  replace X_l := X_l.turn ht (by omega)
  replace X_f := X_f.turn ht (by omega)
  replace X_to_ := X_to_.turn ht (by omega)
  replace L1 := L1.turn ht (fun h => by have := ha_P6 _ h; omega)
  replace L2 := L2.turn ht (fun h => by have := ha_P7 _ h; omega)
  clear ht
  refine s_end hok [0, 1, 2, 3] rfl ?_; clear hok; intro hok
  refine f_fall hok (run_results0 rfl) ?_
  refine ⟨.slice ao_q1 (((l.take to_.toNat).drop f.toNat).length) cap_q1, ?_, ?_, ?_, B⟩
  · clear hok B L0_x L1_x L2_x L3_x L4_x X1 L_l X_l X_f X_to_ L1 L2 hc_v0_x hm_v0_x ha_P1 ho_P1 hc_v1_x hm_v1_x ha_P2 ho_P2 hc_v2_x hm_v2_x ha_P3 ho_P3 hc_v3_x hm_v3_x ha_P4 ho_P4 hc_v4_x hm_v4_x ha_P5 ho_P5 hc_v_l hm_v_l ha_P6 ho_P6 hbl_b_x_w1 hbl_b_l_w1 hbl_b_f_w1 hbl_b_to__w1 hn_w1 hz_w1 hc_q1 hm_q1 ha_P7 ho_P7 hz_w2
    rfl
  · exact L2.mono ho_P7 (Keep.refl _ _)
  · exact X1


set_option maxHeartbeats 1000000 in
set_option maxRecDepth 100000 in
theorem c_counts1 {A0 : Nat → Prop} {A1 : Nat → Prop} {A2 : Nat → Prop} {A3 : Nat → Prop} {A4 : Nat → Prop} (b_x : Nat) (x : DMsg) (v0_x : Value) (v1_x : Value) (v2_x : Value) (v3_x : Value) (v4_x : Value) (b_cn : Nat) (cn : Int) (b_cm : Nat) (cm : Int) (b_cp : Nat) (cp : Int) (w : World) (L0_x : slRep RDMember A0 w v0_x x.conf.members) (L1_x : slRep RDOp A1 w v1_x x.batch.ops) (L2_x : slRep RDEntry A2 w v2_x x.entries) (L3_x : slRep RU A3 w v3_x x.stamps) (L4_x : slRep RDPair A4 w v4_x x.pairs) (h_x : okDMsg x) (X_x : Box w b_x 37 (cDMsg x v0_x v1_x v2_x v3_x v4_x)) (h_cn : i64ok cn) (X_cn : Box w b_cn 3 [.int .i64 cn]) (h_cm : i64ok cm) (X_cm : Box w b_cm 3 [.int .i64 cm]) (h_cp : i64ok cp) (X_cp : Box w b_cp 3 [.int .i64 cp]) (hne_cn_x : b_cn ≠ b_x) (hne_cm_x : b_cm ≠ b_x) (hne_cp_x : b_cp ≠ b_x) (hA_A0_x : ∀ k, A0 k → k ≠ b_x) (hA_A1_x : ∀ k, A1 k → k ≠ b_x) (hA_A2_x : ∀ k, A2 k → k ≠ b_x) (hA_A3_x : ∀ k, A3 k → k ≠ b_x) (hA_A4_x : ∀ k, A4 k → k ≠ b_x) :
    Calls Try.prog 54 #[.pointer (some ⟨b_x, 0, none⟩), .pointer (some ⟨b_cn, 0, none⟩), .pointer (some ⟨b_cm, 0, none⟩), .pointer (some ⟨b_cp, 0, none⟩)] w (Ret fun r w' => r = .tuple #[] ∧ Box w' b_x 37 (cDMsg ({x with n := max cn 0, m := max cm 0, p := max cp 0}) v0_x v1_x v2_x v3_x v4_x) ∧ Bt [b_x] w w') := by
  have B : Bt [b_x] w w := Bt.refl _ _
  obtain ⟨ao_v0_x, cap_v0_x, rfl, hc_v0_x, hm_v0_x⟩ := L0_x.shape
  unfold maxLen at hm_v0_x
  obtain ⟨P1, ha_P1, ho_P1, L0_x⟩ : ∃ X : Nat → Prop, (∀ k, X k → k < w.heap.size ∧ k ≠ b_x) ∧ (∀ k, X k → A0 k ∨ A1 k ∨ A2 k ∨ A3 k ∨ A4 k ∨ w.heap.size ≤ k) ∧ slRep RDMember X w (.slice ao_v0_x x.conf.members.length cap_v0_x) x.conf.members := ⟨_, fun k h => ⟨h.2, hA_A0_x k h.1⟩, fun k h => .inl h.1, L0_x.bound⟩
  obtain ⟨ao_v1_x, cap_v1_x, rfl, hc_v1_x, hm_v1_x⟩ := L1_x.shape
  unfold maxLen at hm_v1_x
  obtain ⟨P2, ha_P2, ho_P2, L1_x⟩ : ∃ X : Nat → Prop, (∀ k, X k → k < w.heap.size ∧ k ≠ b_x) ∧ (∀ k, X k → A0 k ∨ A1 k ∨ A2 k ∨ A3 k ∨ A4 k ∨ w.heap.size ≤ k) ∧ slRep RDOp X w (.slice ao_v1_x x.batch.ops.length cap_v1_x) x.batch.ops := ⟨_, fun k h => ⟨h.2, hA_A1_x k h.1⟩, fun k h => .inr (.inl h.1), L1_x.bound⟩
  obtain ⟨ao_v2_x, cap_v2_x, rfl, hc_v2_x, hm_v2_x⟩ := L2_x.shape
  unfold maxLen at hm_v2_x
  obtain ⟨P3, ha_P3, ho_P3, L2_x⟩ : ∃ X : Nat → Prop, (∀ k, X k → k < w.heap.size ∧ k ≠ b_x) ∧ (∀ k, X k → A0 k ∨ A1 k ∨ A2 k ∨ A3 k ∨ A4 k ∨ w.heap.size ≤ k) ∧ slRep RDEntry X w (.slice ao_v2_x x.entries.length cap_v2_x) x.entries := ⟨_, fun k h => ⟨h.2, hA_A2_x k h.1⟩, fun k h => .inr (.inr (.inl h.1)), L2_x.bound⟩
  obtain ⟨ao_v3_x, cap_v3_x, rfl, hc_v3_x, hm_v3_x⟩ := L3_x.shape
  unfold maxLen at hm_v3_x
  obtain ⟨P4, ha_P4, ho_P4, L3_x⟩ : ∃ X : Nat → Prop, (∀ k, X k → k < w.heap.size ∧ k ≠ b_x) ∧ (∀ k, X k → A0 k ∨ A1 k ∨ A2 k ∨ A3 k ∨ A4 k ∨ w.heap.size ≤ k) ∧ slRep RU X w (.slice ao_v3_x x.stamps.length cap_v3_x) x.stamps := ⟨_, fun k h => ⟨h.2, hA_A3_x k h.1⟩, fun k h => .inr (.inr (.inr (.inl h.1))), L3_x.bound⟩
  obtain ⟨ao_v4_x, cap_v4_x, rfl, hc_v4_x, hm_v4_x⟩ := L4_x.shape
  unfold maxLen at hm_v4_x
  obtain ⟨P5, ha_P5, ho_P5, L4_x⟩ : ∃ X : Nat → Prop, (∀ k, X k → k < w.heap.size ∧ k ≠ b_x) ∧ (∀ k, X k → A0 k ∨ A1 k ∨ A2 k ∨ A3 k ∨ A4 k ∨ w.heap.size ≤ k) ∧ slRep RDPair X w (.slice ao_v4_x x.pairs.length cap_v4_x) x.pairs := ⟨_, fun k h => ⟨h.2, hA_A4_x k h.1⟩, fun k h => .inr (.inr (.inr (.inr (.inl h.1)))), L4_x.bound⟩
  unfold i64ok at h_cn
  unfold i64ok at h_cm
  unfold i64ok at h_cp
  refine f_enter 20 Try.func54 rfl rfl (Nat.le_of_ble_eq_true rfl) fun a hok => ?_
  replace hok := hok.sub (ts := [0, 1, 2, 3]) rfl
  refine f_regionF hok (by kernel_rfl) (by kernel_rfl) (by decide) (by decide) (fun xw => Bt [b_x] w xw ∧ Wr xw b_x 37 [.int .i64 x.k, .int .i64 x.epoch, .int .i64 x.req, .int .i64 x.serial, .bool x.flag, .int .u64 (x.at_ : Int), .int .u64 (x.last : Int), .int .i64 x.n, .int .i64 x.m, .int .i64 x.p, .int .i64 x.e, .string x.key, .string x.to_, .int .i64 x.conf.epoch, .slice ao_v0_x x.conf.members.length cap_v0_x, .int .u64 (x.conf.floor : Int), .int .i64 x.batch.client, .int .i64 x.batch.req, .slice ao_v1_x x.batch.ops.length cap_v1_x, .slice ao_v2_x x.entries.length cap_v2_x, .slice ao_v3_x x.stamps.length cap_v3_x, .slice ao_v4_x x.pairs.length cap_v4_x] [7, 8, 9]) (fun jj vv xw => match jj with | 0 => vv = .pointer (some ⟨b_x, 0, none⟩) | 1 => vv = .pointer (some ⟨b_x, 0, none⟩) | 2 => vv = .pointer (some ⟨b_x, 0, none⟩) | 3 => vv = .int .i64 cn | 4 => vv = .int .i64 (max cn 0) | 5 => vv = .int .i64 cm | 6 => vv = .int .i64 (max cm 0) | 7 => vv = .int .i64 cp | 8 => vv = .int .i64 (max cp 0) | 9 => vv = .pointer (some ⟨b_x, 0, none⟩) | 10 => vv = .pointer (some ⟨b_x, 7, none⟩) | 11 => xw.cell? ⟨b_x, 7, none⟩ = some (.int .i64 (max cn 0)) | 12 => vv = .pointer (some ⟨b_x, 0, none⟩) | 13 => vv = .pointer (some ⟨b_x, 8, none⟩) | 14 => xw.cell? ⟨b_x, 8, none⟩ = some (.int .i64 (max cm 0)) | 15 => vv = .pointer (some ⟨b_x, 0, none⟩) | 16 => vv = .pointer (some ⟨b_x, 9, none⟩) | _ => xw.cell? ⟨b_x, 9, none⟩ = some (.int .i64 (max cp 0))) ⟨Bt.of (Below.refl _ _).drew, (Wr.start X_x _).below (Below.refl _ _).drew⟩ ?_ ?_
  · intro fr hfr hfe
    simp only [owesF]
    refine ⟨fun vals xw hC hF hL => ?_, fun vals xw hC hF hL => ?_, fun vals xw hC hF hL => ?_, fun vals xw hC hF hL => ?_, fun vals xw hC hF hL => ?_, fun vals xw hC hF hL => ?_, fun vals xw hC hF hL => ?_, fun vals xw hC hF hL => ?_, fun vals xw hC hF hL => ?_, fun vals xw hC hF hL => ?_, fun vals xw hC hF hL => ?_, fun vals xw hC hF hL => ?_, fun vals xw hC hF hL => ?_, fun vals xw hC hF hL => ?_, fun vals xw hC hF hL => ?_, fun vals xw hC hF hL => ?_, fun vals xw hC hF hL => ?_, fun vals xw hC hF hL => ?_, trivial⟩
    · rw [← hfe]
      have hS := (hfr vals).sub (ts := [0]) (S' := [(0, .pointer (some ⟨b_x, 0, none⟩))]) rfl
      exact F_val hS rfl (Ob_c TB_Stamp rfl) hC rfl
    · rw [← hfe]
      have hS := (hfr vals).sub (ts := [0]) (S' := [(0, .pointer (some ⟨b_x, 0, none⟩))]) rfl
      exact F_val hS rfl (Ob_c TB_Stamp rfl) hC rfl
    · rw [← hfe]
      have hS := (hfr vals).sub (ts := [0]) (S' := [(0, .pointer (some ⟨b_x, 0, none⟩))]) rfl
      exact F_val hS rfl (Ob_c TB_Stamp rfl) hC rfl
    · rw [← hfe]
      have hS := (hfr vals).sub (ts := [1]) (S' := [(1, .pointer (some ⟨b_cn, 0, none⟩))]) rfl
      exact F_val hS rfl (Ob_load TB_Stamp rfl rfl rfl ((X_cn.keep (hC.1.block _ X_cn.lt (by simp; omega))).cell 0 rfl)) hC rfl
    · rw [← hfe]
      have hS := (hfr vals).sub (ts := [8]) (S' := [(8, vals 3)]) rfl
      have f3 : vals 3 = .int .i64 cn := hF 3 (by decide)
      rw [f3] at hS
      exact F_val hS rfl (Ob_c TB_Stamp rfl) hC rfl
    · rw [← hfe]
      have hS := (hfr vals).sub (ts := [2]) (S' := [(2, .pointer (some ⟨b_cm, 0, none⟩))]) rfl
      exact F_val hS rfl (Ob_load TB_Stamp rfl rfl rfl ((X_cm.keep (hC.1.block _ X_cm.lt (by simp; omega))).cell 0 rfl)) hC rfl
    · rw [← hfe]
      have hS := (hfr vals).sub (ts := [10]) (S' := [(10, vals 5)]) rfl
      have f5 : vals 5 = .int .i64 cm := hF 5 (by decide)
      rw [f5] at hS
      exact F_val hS rfl (Ob_c TB_Stamp rfl) hC rfl
    · rw [← hfe]
      have hS := (hfr vals).sub (ts := [3]) (S' := [(3, .pointer (some ⟨b_cp, 0, none⟩))]) rfl
      exact F_val hS rfl (Ob_load TB_Stamp rfl rfl rfl ((X_cp.keep (hC.1.block _ X_cp.lt (by simp; omega))).cell 0 rfl)) hC rfl
    · rw [← hfe]
      have hS := (hfr vals).sub (ts := [12]) (S' := [(12, vals 7)]) rfl
      have f7 : vals 7 = .int .i64 cp := hF 7 (by decide)
      rw [f7] at hS
      exact F_val hS rfl (Ob_c TB_Stamp rfl) hC rfl
    · rw [← hfe]
      have hS := (hfr vals).sub (ts := [5]) (S' := [(5, vals 0)]) rfl
      have f0 : vals 0 = .pointer (some ⟨b_x, 0, none⟩) := hF 0 (by decide)
      rw [f0] at hS
      exact F_val hS rfl (Ob_c TB_Stamp rfl) hC rfl
    · rw [← hfe]
      have hS := (hfr vals).sub (ts := [14]) (S' := [(14, vals 9)]) rfl
      have f9 : vals 9 = .pointer (some ⟨b_x, 0, none⟩) := hF 9 (by decide)
      rw [f9] at hS
      exact F_val hS rfl (Ob_c TB_Stamp rfl) hC rfl
    · rw [← hfe]
      have hS := (hfr vals).sub (ts := [15, 9]) (S' := [(15, vals 10), (9, vals 4)]) rfl
      have f10 : vals 10 = .pointer (some ⟨b_x, 7, none⟩) := hF 10 (by decide)
      have f4 : vals 4 = .int .i64 (max cn 0) := hF 4 (by decide)
      rw [f10, f4] at hS
      obtain ⟨ds, hX, hl, ho⟩ := hC.2
      refine F_store TB_Stamp (us := [.int .i64 (max cn 0)]) hS hX rfl rfl rfl rfl rfl rfl rfl rfl (by simp only [List.mem_singleton]; rintro u rfl; rfl) (by rw [hl]; exact (Nat.le_of_ble_eq_true rfl)) fun yw ht hY => ?_
      refine ⟨⟨⟨hC.1.trn ht (.inl (by simp)), Wr.put hl ho hY (by simp)⟩, fun j v hj hne hk h => ?_⟩, ?_⟩
      · match j, hne, h with
          | 0, hne, h => exact h
          | 1, hne, h => exact h
          | 2, hne, h => exact h
          | 3, hne, h => exact h
          | 4, hne, h => exact h
          | 5, hne, h => exact h
          | 6, hne, h => exact h
          | 7, hne, h => exact h
          | 8, hne, h => exact h
          | 9, hne, h => exact h
          | 10, hne, h => exact h
          | 11, hne, h => exact absurd rfl hne
          | 12, hne, h => exact h
          | 13, hne, h => exact h
          | 14, hne, h => exact put_other hX hY (by decide) h
          | 15, hne, h => exact h
          | 16, hne, h => exact h
          | _ + 17, hne, h => exact put_other hX hY (by decide) h
      · exact put_cell hY (by rw [hl]; exact (Nat.le_of_ble_eq_true rfl))
    · rw [← hfe]
      have hS := (hfr vals).sub (ts := [6]) (S' := [(6, vals 1)]) rfl
      have f1 : vals 1 = .pointer (some ⟨b_x, 0, none⟩) := hF 1 (by decide)
      rw [f1] at hS
      exact F_val hS rfl (Ob_c TB_Stamp rfl) hC rfl
    · rw [← hfe]
      have hS := (hfr vals).sub (ts := [16]) (S' := [(16, vals 12)]) rfl
      have f12 : vals 12 = .pointer (some ⟨b_x, 0, none⟩) := hF 12 (by decide)
      rw [f12] at hS
      exact F_val hS rfl (Ob_c TB_Stamp rfl) hC rfl
    · rw [← hfe]
      have hS := (hfr vals).sub (ts := [17, 11]) (S' := [(17, vals 13), (11, vals 6)]) rfl
      have f13 : vals 13 = .pointer (some ⟨b_x, 8, none⟩) := hF 13 (by decide)
      have f6 : vals 6 = .int .i64 (max cm 0) := hF 6 (by decide)
      rw [f13, f6] at hS
      obtain ⟨ds, hX, hl, ho⟩ := hC.2
      refine F_store TB_Stamp (us := [.int .i64 (max cm 0)]) hS hX rfl rfl rfl rfl rfl rfl rfl rfl (by simp only [List.mem_singleton]; rintro u rfl; rfl) (by rw [hl]; exact (Nat.le_of_ble_eq_true rfl)) fun yw ht hY => ?_
      refine ⟨⟨⟨hC.1.trn ht (.inl (by simp)), Wr.put hl ho hY (by simp)⟩, fun j v hj hne hk h => ?_⟩, ?_⟩
      · match j, hne, h with
          | 0, hne, h => exact h
          | 1, hne, h => exact h
          | 2, hne, h => exact h
          | 3, hne, h => exact h
          | 4, hne, h => exact h
          | 5, hne, h => exact h
          | 6, hne, h => exact h
          | 7, hne, h => exact h
          | 8, hne, h => exact h
          | 9, hne, h => exact h
          | 10, hne, h => exact h
          | 11, hne, h => exact put_other hX hY (by decide) h
          | 12, hne, h => exact h
          | 13, hne, h => exact h
          | 14, hne, h => exact absurd rfl hne
          | 15, hne, h => exact h
          | 16, hne, h => exact h
          | _ + 17, hne, h => exact put_other hX hY (by decide) h
      · exact put_cell hY (by rw [hl]; exact (Nat.le_of_ble_eq_true rfl))
    · rw [← hfe]
      have hS := (hfr vals).sub (ts := [7]) (S' := [(7, vals 2)]) rfl
      have f2 : vals 2 = .pointer (some ⟨b_x, 0, none⟩) := hF 2 (by decide)
      rw [f2] at hS
      exact F_val hS rfl (Ob_c TB_Stamp rfl) hC rfl
    · rw [← hfe]
      have hS := (hfr vals).sub (ts := [18]) (S' := [(18, vals 15)]) rfl
      have f15 : vals 15 = .pointer (some ⟨b_x, 0, none⟩) := hF 15 (by decide)
      rw [f15] at hS
      exact F_val hS rfl (Ob_c TB_Stamp rfl) hC rfl
    · rw [← hfe]
      have hS := (hfr vals).sub (ts := [19, 13]) (S' := [(19, vals 16), (13, vals 8)]) rfl
      have f16 : vals 16 = .pointer (some ⟨b_x, 9, none⟩) := hF 16 (by decide)
      have f8 : vals 8 = .int .i64 (max cp 0) := hF 8 (by decide)
      rw [f16, f8] at hS
      obtain ⟨ds, hX, hl, ho⟩ := hC.2
      refine F_store TB_Stamp (us := [.int .i64 (max cp 0)]) hS hX rfl rfl rfl rfl rfl rfl rfl rfl (by simp only [List.mem_singleton]; rintro u rfl; rfl) (by rw [hl]; exact (Nat.le_of_ble_eq_true rfl)) fun yw ht hY => ?_
      refine ⟨⟨⟨hC.1.trn ht (.inl (by simp)), Wr.put hl ho hY (by simp)⟩, fun j v hj hne hk h => ?_⟩, ?_⟩
      · match j, hne, h with
          | 0, hne, h => exact h
          | 1, hne, h => exact h
          | 2, hne, h => exact h
          | 3, hne, h => exact h
          | 4, hne, h => exact h
          | 5, hne, h => exact h
          | 6, hne, h => exact h
          | 7, hne, h => exact h
          | 8, hne, h => exact h
          | 9, hne, h => exact h
          | 10, hne, h => exact h
          | 11, hne, h => exact put_other hX hY (by decide) h
          | 12, hne, h => exact h
          | 13, hne, h => exact h
          | 14, hne, h => exact put_other hX hY (by decide) h
          | 15, hne, h => exact h
          | 16, hne, h => exact h
          | _ + 17, hne, h => (first | (exact absurd rfl hne) | omega | (simp at hj; omega))
      · exact put_cell hY (by rw [hl]; exact (Nat.le_of_ble_eq_true rfl))
  · intro vals a w1 hS hC hF
    replace hok := hS.sub (ts := [0, 1, 2, 3]) (S' := [(0, .pointer (some ⟨b_x, 0, none⟩)), (1, .pointer (some ⟨b_cn, 0, none⟩)), (2, .pointer (some ⟨b_cm, 0, none⟩)), (3, .pointer (some ⟨b_cp, 0, none⟩))]) rfl; clear hS
    have X1 : Box w1 b_x 37 [.int .i64 x.k, .int .i64 x.epoch, .int .i64 x.req, .int .i64 x.serial, .bool x.flag, .int .u64 (x.at_ : Int), .int .u64 (x.last : Int), .int .i64 (max cn 0), .int .i64 (max cm 0), .int .i64 (max cp 0), .int .i64 x.e, .string x.key, .string x.to_, .int .i64 x.conf.epoch, .slice ao_v0_x x.conf.members.length cap_v0_x, .int .u64 (x.conf.floor : Int), .int .i64 x.batch.client, .int .i64 x.batch.req, .slice ao_v1_x x.batch.ops.length cap_v1_x, .slice ao_v2_x x.entries.length cap_v2_x, .slice ao_v3_x x.stamps.length cap_v3_x, .slice ao_v4_x x.pairs.length cap_v4_x] := Wr.done hC.2 [(7, .int .i64 (max cn 0)), (8, .int .i64 (max cm 0)), (9, .int .i64 (max cp 0))] rfl (by decide) (by intro p hp; simp only [List.mem_cons, List.not_mem_nil, or_false] at hp; rcases hp with rfl | rfl | rfl <;> exact (Nat.le_of_ble_eq_true rfl)) (by intro p hp; simp only [List.mem_cons, List.not_mem_nil, or_false] at hp; rcases hp with rfl | rfl | rfl <;> first | exact hF 11 (by decide) | exact hF 14 (by decide) | exact hF 17 (by decide))
    have ht := hC.1
    clear X_x
    clear hC hF
    have hz_w1 : w.heap.size ≤ w1.heap.size := ht.size
    replace B := B.tch ht (.inl (by simp))
    replace L0_x := L0_x.tch ht (fun h => by have := ha_P1 _ h; omega)
    replace L1_x := L1_x.tch ht (fun h => by have := ha_P2 _ h; omega)
    replace L2_x := L2_x.tch ht (fun h => by have := ha_P3 _ h; omega)
    replace L3_x := L3_x.tch ht (fun h => by have := ha_P4 _ h; omega)
    replace L4_x := L4_x.tch ht (fun h => by have := ha_P5 _ h; omega)
    replace X_cn := X_cn.tch ht (by omega)
    replace X_cm := X_cm.tch ht (by omega)
    replace X_cp := X_cp.tch ht (by omega)
    clear ht
    refine f_fall hok (run_results0 rfl) ?_
    refine ⟨?_, ?_, B⟩
    · clear hok B L0_x L1_x L2_x L3_x L4_x X1 X_cn X_cm X_cp hc_v0_x hm_v0_x ha_P1 ho_P1 hc_v1_x hm_v1_x ha_P2 ho_P2 hc_v2_x hm_v2_x ha_P3 ho_P3 hc_v3_x hm_v3_x ha_P4 ho_P4 hc_v4_x hm_v4_x ha_P5 ho_P5 hz_w1
      rfl
    · exact X1


end Go.Proofs.Ytmdoimpeacndaaa
