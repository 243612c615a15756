/- The law RelayPlays. -/
import Derived.Test.YtmdoimpeacndaaaRelay4
import Derived.Test.YtmdoimpeacndaaaBd
namespace Go.Proofs.Ytmdoimpeacndaaa
open Go.RowKit

def TB_Relay5L : TabL := ⟨[(30721, 1), (33794, 2), (37897, 9), (37901, 13), (37902, 16), (37903, 19), (37904, 20), (37905, 21)], [], [], [(22, (57, 4)), (28, (101, 2)), (31, (116, 3)), (34, (24, 1)), (35, (104, 2))], [(3, (1, false)), (22, (1, false)), (28, (1, false)), (31, (1, false)), (34, (1, false)), (35, (1, false)), (37, (22, true))]⟩

def TB_Relay5 : Tab Try.prog := ⟨TB_Relay5L, by kernel_rfl⟩

theorem fn_6_Relay5 : IsFn Try.prog 6 := ⟨_, Try.func6, by kernel_rfl, by kernel_rfl⟩

theorem fn_8_Relay5 : IsFn Try.prog 8 := ⟨_, Try.func8, by kernel_rfl, by kernel_rfl⟩

theorem fn_9_Relay5 : IsFn Try.prog 9 := ⟨_, Try.func9, by kernel_rfl, by kernel_rfl⟩

theorem fn_10_Relay5 : IsFn Try.prog 10 := ⟨_, Try.func10, by kernel_rfl, by kernel_rfl⟩

theorem fn_12_Relay5 : IsFn Try.prog 12 := ⟨_, Try.func12, by kernel_rfl, by kernel_rfl⟩

theorem fn_13_Relay5 : IsFn Try.prog 13 := ⟨_, Try.func13, by kernel_rfl, by kernel_rfl⟩

theorem fn_14_Relay5 : IsFn Try.prog 14 := ⟨_, Try.func14, by kernel_rfl, by kernel_rfl⟩

theorem fn_15_Relay5 : IsFn Try.prog 15 := ⟨_, Try.func15, by kernel_rfl, by kernel_rfl⟩

theorem fn_16_Relay5 : IsFn Try.prog 16 := ⟨_, Try.func16, by kernel_rfl, by kernel_rfl⟩

theorem fn_17_Relay5 : IsFn Try.prog 17 := ⟨_, Try.func17, by kernel_rfl, by kernel_rfl⟩

theorem fn_18_Relay5 : IsFn Try.prog 18 := ⟨_, Try.func18, by kernel_rfl, by kernel_rfl⟩

theorem fn_19_Relay5 : IsFn Try.prog 19 := ⟨_, Try.func19, by kernel_rfl, by kernel_rfl⟩

theorem fn_20_Relay5 : IsFn Try.prog 20 := ⟨_, Try.func20, by kernel_rfl, by kernel_rfl⟩

theorem fn_21_Relay5 : IsFn Try.prog 21 := ⟨_, Try.func21, by kernel_rfl, by kernel_rfl⟩

theorem seqB_refl (a : ByteArray) : seqB a a = true := by unfold seqB; simp

theorem sameBy_refl {α : Type} {p : α → α → Bool} (h : ∀ x, p x x = true) : ∀ l : List α, sameBy p l l = true
  | [] => rfl
  | x :: l => by unfold sameBy; rw [h x, sameBy_refl h l]; rfl

theorem sameB_refl (a : DBatch) : sameB a a = true := by simp [sameB, sameBy_refl, eqD]

theorem sameE_refl (a : DEntry) : sameE a a = true := by simp [sameE, sameB_refl]

theorem sameC_refl (a : DConf) : sameC a a = true := by simp [sameC, sameBy_refl, eqD]

theorem sameM_refl (a : DMsg) : sameM a a = true := by simp [sameM, seqB_refl, sameC_refl, sameB_refl, sameBy_refl, sameE_refl, eqD]

theorem sameN_refl (a : DNote) : sameN a a = true := by simp [sameN, sameC_refl, sameE_refl, sameBy_refl, eqD]

theorem muchI_len {l : List DEntry} (h : bdSl bdDEntry l) : ∀ n, n ≤ 200 → (l.length : Int) ≤ muchI l n ∧ muchI l n ≤ (n + 1 : Nat) * 140737488355328
  | 0, _ => by have := h.1; unfold bdM at this; unfold muchI; omega
  | n + 1, hn => by
    obtain ⟨h1, h2⟩ := muchI_len h n (by omega)
    have h3 : (l.getD n default).batch.ops.length ≤ 140737488355328 := by
      by_cases hk : n < l.length
      · exact (h.2 n hk).1
      · rw [List.getD_eq_getElem?_getD, List.getElem?_eq_none (by omega)]; exact Nat.zero_le _
    unfold muchI
    rw [IntWalk.i64_in _ (by omega)]
    omega

theorem much_len {l : List DEntry} (h : bdSl bdDEntry l) : muchI l (min l.length 200) ≤ 80 → l.length ≤ 80 := fun h2 => by
  have := (muchI_len h (min l.length 200) (by omega)).1; omega

theorem ok_fwdD {epoch base from_ stable good : Int} {horizon : Nat} {l : List DEntry} (h1 : i64ok epoch) (h2 : i64ok base) (h3 : i64ok from_) (h4 : i64ok stable) (h5 : horizon < 18446744073709551616) (h6 : i64ok good) (hl : l.length ≤ maxLen) : okDMsg (fwdD epoch base from_ stable horizon l good) := by
  have hs := stamped_le l
  rw [← fwdP_eq]
  unfold fwdP msgM okDMsg okDConf okDBatch
  unfold i64ok maxLen at *
  dsimp only
  refine ⟨?_, ?_, ?_, ?_, ?_, ?_, ?_, ?_, ?_, ?_, ?_, ?_, ?_, ?_⟩ <;> first | omega | decide | exact Nat.zero_le _

theorem ok_ackD {epoch good held from_ : Int} {l : List DEntry} (h1 : i64ok epoch) (h2 : i64ok good) (h3 : i64ok held) (h4 : i64ok from_) (hl : l.length ≤ maxLen) : okDMsg (ackD epoch good held from_ l) := by
  rw [← ackP_eq]
  unfold ackP msgM okDMsg okDConf okDBatch
  unfold i64ok maxLen at *
  dsimp only
  refine ⟨?_, ?_, ?_, ?_, ?_, ?_, ?_, ?_, ?_, ?_, ?_, ?_, ?_, ?_⟩ <;> first | omega | decide | exact Nat.zero_le _

set_option maxHeartbeats 1000000 in
theorem FwdX {A0 : Nat → Prop} (epoch : Int) (base : Int) (from_ : Int) (stable : Int) (horizon : Nat) (v_l : Value) (l : List DEntry) (good : Int) (w : World) (h_epoch : i64ok epoch) (h_base : i64ok base) (h_from_ : i64ok from_) (h_stable : i64ok stable) (h_horizon : horizon < 18446744073709551616) (L_v_l : slRep RDEntry A0 w v_l l) (h_good : i64ok good) (hll : l.length ≤ 1000000) :
    Calls Try.prog 12 #[.int .i64 epoch, .int .i64 base, .int .i64 from_, .int .i64 stable, .int .u64 (horizon : Int), v_l, .int .i64 good] w (Ret fun r w' => ∃ q0 q1 q2 q3 q4 : Value, r = .agg (cDMsg (fwdD epoch base from_ stable horizon l good) q0 q1 q2 q3 q4).toArray ∧ slRep RDMember (fun k => A0 k ∨ w.heap.size ≤ k) w' q0 (fwdD epoch base from_ stable horizon l good).conf.members ∧ slRep RDOp (fun k => A0 k ∨ w.heap.size ≤ k) w' q1 (fwdD epoch base from_ stable horizon l good).batch.ops ∧ slRep RDEntry (fun k => A0 k ∨ w.heap.size ≤ k) w' q2 (fwdD epoch base from_ stable horizon l good).entries ∧ slRep RU (fun k => A0 k ∨ w.heap.size ≤ k) w' q3 (fwdD epoch base from_ stable horizon l good).stamps ∧ slRep RDPair (fun k => A0 k ∨ w.heap.size ≤ k) w' q4 (fwdD epoch base from_ stable horizon l good).pairs ∧ okDMsg (fwdD epoch base from_ stable horizon l good) ∧ Below w.heap.size w w') := by
  refine Ret.mono (c_ref32_Fwd _ _ _ _ _ _ _ _ w h_epoch h_base h_from_ h_stable h_horizon L_v_l h_good (by first | assumption | omega)) fun _ _ h0 => ?_
  obtain ⟨q0, q1, q2, q3, q4, hr, L0_, L1_, L2_, L3_, L4_, hb⟩ := h0
  exact ⟨q0, q1, q2, q3, q4, hr.trans (by rfl), L0_, L1_, L2_, L3_, L4_, ok_fwdD h_epoch h_base h_from_ h_stable h_horizon h_good L_v_l.len_le, hb⟩

set_option maxHeartbeats 1000000 in
theorem AckX {A0 : Nat → Prop} (epoch : Int) (good : Int) (held : Int) (from_ : Int) (v_l : Value) (l : List DEntry) (w : World) (h_epoch : i64ok epoch) (h_good : i64ok good) (h_held : i64ok held) (h_from_ : i64ok from_) (L_v_l : slRep RDEntry A0 w v_l l) (hll : l.length ≤ 1000000) :
    Calls Try.prog 13 #[.int .i64 epoch, .int .i64 good, .int .i64 held, .int .i64 from_, v_l] w (Ret fun r w' => ∃ q0 q1 q2 q3 q4 : Value, r = .agg (cDMsg (ackD epoch good held from_ l) q0 q1 q2 q3 q4).toArray ∧ slRep RDMember (fun k => A0 k ∨ w.heap.size ≤ k) w' q0 (ackD epoch good held from_ l).conf.members ∧ slRep RDOp (fun k => A0 k ∨ w.heap.size ≤ k) w' q1 (ackD epoch good held from_ l).batch.ops ∧ slRep RDEntry (fun k => A0 k ∨ w.heap.size ≤ k) w' q2 (ackD epoch good held from_ l).entries ∧ slRep RU (fun k => A0 k ∨ w.heap.size ≤ k) w' q3 (ackD epoch good held from_ l).stamps ∧ slRep RDPair (fun k => A0 k ∨ w.heap.size ≤ k) w' q4 (ackD epoch good held from_ l).pairs ∧ okDMsg (ackD epoch good held from_ l) ∧ Below w.heap.size w w') := by
  refine Ret.mono (c_ref32_Ack _ _ _ _ _ _ w h_epoch h_good h_held h_from_ L_v_l (by first | assumption | omega)) fun _ _ h0 => ?_
  obtain ⟨q0, q1, q2, q3, q4, hr, L0_, L1_, L2_, L3_, L4_, hb⟩ := h0
  exact ⟨q0, q1, q2, q3, q4, hr.trans (by rfl), L0_, L1_, L2_, L3_, L4_, ok_ackD h_epoch h_good h_held h_from_ L_v_l.len_le, hb⟩

set_option maxHeartbeats 1000000 in
theorem SameT {A0 : Nat → Prop} {A1 : Nat → Prop} {A2 : Nat → Prop} {A3 : Nat → Prop} {A4 : Nat → Prop} {A5 : Nat → Prop} {A6 : Nat → Prop} {A7 : Nat → Prop} {A8 : Nat → Prop} {A9 : Nat → Prop} (a0 : DMsg) (v0_a0 : Value) (v1_a0 : Value) (v2_a0 : Value) (v3_a0 : Value) (v4_a0 : Value) (b : DMsg) (v0_b : Value) (v1_b : Value) (v2_b : Value) (v3_b : Value) (v4_b : Value) (w : World) (L_v0_a0 : slRep RDMember A0 w v0_a0 a0.conf.members) (L_v1_a0 : slRep RDOp A1 w v1_a0 a0.batch.ops) (L_v2_a0 : slRep RDEntry A2 w v2_a0 a0.entries) (L_v3_a0 : slRep RU A3 w v3_a0 a0.stamps) (L_v4_a0 : slRep RDPair A4 w v4_a0 a0.pairs) (h_a0 : okDMsg a0) (L_v0_b : slRep RDMember A5 w v0_b b.conf.members) (L_v1_b : slRep RDOp A6 w v1_b b.batch.ops) (L_v2_b : slRep RDEntry A7 w v2_b b.entries) (L_v3_b : slRep RU A8 w v3_b b.stamps) (L_v4_b : slRep RDPair A9 w v4_b b.pairs) (h_b : okDMsg b) (hT : sameM a0 b = true) :
    Calls Try.prog 14 #[.agg #[.int .i64 a0.k, .int .i64 a0.epoch, .int .i64 a0.req, .int .i64 a0.serial, .bool a0.flag, .int .u64 (a0.at_ : Int), .int .u64 (a0.last : Int), .int .i64 a0.n, .int .i64 a0.m, .int .i64 a0.p, .int .i64 a0.e, .string a0.key, .string a0.to_, .int .i64 a0.conf.epoch, v0_a0, .int .u64 (a0.conf.floor : Int), .int .i64 a0.batch.client, .int .i64 a0.batch.req, v1_a0, v2_a0, v3_a0, v4_a0], .agg #[.int .i64 b.k, .int .i64 b.epoch, .int .i64 b.req, .int .i64 b.serial, .bool b.flag, .int .u64 (b.at_ : Int), .int .u64 (b.last : Int), .int .i64 b.n, .int .i64 b.m, .int .i64 b.p, .int .i64 b.e, .string b.key, .string b.to_, .int .i64 b.conf.epoch, v0_b, .int .u64 (b.conf.floor : Int), .int .i64 b.batch.client, .int .i64 b.batch.req, v1_b, v2_b, v3_b, v4_b]] w (Ret fun r w' => r = .bool true ∧ Below w.heap.size w w') := by
  refine Ret.mono (c_ref09_Same _ _ _ _ _ _ _ _ _ _ _ _ w L_v0_a0 L_v1_a0 L_v2_a0 L_v3_a0 L_v4_a0 h_a0 L_v0_b L_v1_b L_v2_b L_v3_b L_v4_b h_b) fun _ _ h0 => ?_
  obtain ⟨hr, hb⟩ := h0
  exact ⟨hr.trans (by rw [hT]), hb⟩

set_option maxHeartbeats 1000000 in
theorem notesT {A0 : Nat → Prop} {A1 : Nat → Prop} (v_a0 : Value) (a0 : List DNote) (v_b : Value) (b : List DNote) (w : World) (L_v_a0 : slRep RDNote A0 w v_a0 a0) (L_v_b : slRep RDNote A1 w v_b b) (hT : sameBy sameN a0 b = true) :
    Calls Try.prog 15 #[v_a0, v_b] w (Ret fun r w' => r = .bool true ∧ Below w.heap.size w w') := by
  refine Ret.mono (c_notes _ _ _ _ w L_v_a0 L_v_b) fun _ _ h0 => ?_
  obtain ⟨hr, hb⟩ := h0
  exact ⟨hr.trans (by rw [hT]), hb⟩

set_option maxHeartbeats 16000000 in
set_option maxRecDepth 100000 in
theorem law_RelayPlays {A0 : Nat → Prop} {A1 : Nat → Prop} {A2 : Nat → Prop} {A3 : Nat → Prop} {A4 : Nat → Prop} {A5 : Nat → Prop} (v_l : Value) (l : List DEntry) (n00 : Int) (n01 : Int) (n02 : Int) (n03 : Int) (n04 : Int) (horizon : Nat) (x : DMsg) (v0_x : Value) (v1_x : Value) (v2_x : Value) (v3_x : Value) (v4_x : Value) (tail : Bool) (w : World) (L_v_l : slRep RDEntry A0 w v_l l) (h_n00 : i64ok n00) (h_n01 : i64ok n01) (h_n02 : i64ok n02) (h_n03 : i64ok n03) (h_n04 : i64ok n04) (h_horizon : horizon < 18446744073709551616) (L_v0_x : slRep RDMember A1 w v0_x x.conf.members) (L_v1_x : slRep RDOp A2 w v1_x x.batch.ops) (L_v2_x : slRep RDEntry A3 w v2_x x.entries) (L_v3_x : slRep RU A4 w v3_x x.stamps) (L_v4_x : slRep RDPair A5 w v4_x x.pairs) (h_x : okDMsg x) (bd_l : bdSl bdDEntry l) :
    Calls Try.prog 4 #[v_l, .agg #[.int .i64 n00, .int .i64 n01, .int .i64 n02, .int .i64 n03, .int .i64 n04], .int .u64 (horizon : Int), .agg #[.int .i64 x.k, .int .i64 x.epoch, .int .i64 x.req, .int .i64 x.serial, .bool x.flag, .int .u64 (x.at_ : Int), .int .u64 (x.last : Int), .int .i64 x.n, .int .i64 x.m, .int .i64 x.p, .int .i64 x.e, .string x.key, .string x.to_, .int .i64 x.conf.epoch, v0_x, .int .u64 (x.conf.floor : Int), .int .i64 x.batch.client, .int .i64 x.batch.req, v1_x, v2_x, v3_x, v4_x], .bool tail] w (Ret fun r w' => r = .bool true ∧ Below w.heap.size w w') := by
  obtain ⟨ao_v_l, cap_v_l, rfl, hc_v_l, hm_v_l⟩ := L_v_l.shape
  unfold maxLen at hm_v_l
  obtain ⟨ao_v0_x, cap_v0_x, rfl, hc_v0_x, hm_v0_x⟩ := L_v0_x.shape
  unfold maxLen at hm_v0_x
  obtain ⟨ao_v1_x, cap_v1_x, rfl, hc_v1_x, hm_v1_x⟩ := L_v1_x.shape
  unfold maxLen at hm_v1_x
  obtain ⟨ao_v2_x, cap_v2_x, rfl, hc_v2_x, hm_v2_x⟩ := L_v2_x.shape
  unfold maxLen at hm_v2_x
  obtain ⟨ao_v3_x, cap_v3_x, rfl, hc_v3_x, hm_v3_x⟩ := L_v3_x.shape
  unfold maxLen at hm_v3_x
  obtain ⟨ao_v4_x, cap_v4_x, rfl, hc_v4_x, hm_v4_x⟩ := L_v4_x.shape
  unfold maxLen at hm_v4_x
  obtain ⟨I, hI, H⟩ : ∃ I : Dm, (∀ k, I k ↔ ((A0 k ∨ A1 k ∨ A2 k ∨ A3 k ∨ A4 k ∨ A5 k) ∧ k < w.heap.size)) ∧ Hf I NoD w I w [] := ⟨_, fun _ => Iff.rfl, (St.none _ _ fun _ h => h.2).hf⟩
  replace H := H.addsl (L_v_l.bound.mono (fun k h => (hI k).2 ⟨.inl h.1, h.2⟩) (Keep.refl _ _))
  replace H := H.addsl (L_v0_x.bound.mono (fun k h => (hI k).2 ⟨.inr (.inl h.1), h.2⟩) (Keep.refl _ _))
  replace H := H.addsl (L_v1_x.bound.mono (fun k h => (hI k).2 ⟨.inr (.inr (.inl h.1)), h.2⟩) (Keep.refl _ _))
  replace H := H.addsl (L_v2_x.bound.mono (fun k h => (hI k).2 ⟨.inr (.inr (.inr (.inl h.1))), h.2⟩) (Keep.refl _ _))
  replace H := H.addsl (L_v3_x.bound.mono (fun k h => (hI k).2 ⟨.inr (.inr (.inr (.inr (.inl h.1)))), h.2⟩) (Keep.refl _ _))
  replace H := H.addsl (L_v4_x.bound.mono (fun k h => (hI k).2 ⟨.inr (.inr (.inr (.inr (.inr (h.1))))), h.2⟩) (Keep.refl _ _))
  unfold i64ok at h_n00
  unfold i64ok at h_n01
  unfold i64ok at h_n02
  unfold i64ok at h_n03
  unfold i64ok at h_n04
  have hml := much_len bd_l
  refine f_enter 156 Try.func4 rfl rfl (Nat.le_of_ble_eq_true rfl) fun a hok => ?_
  replace hok := hok.sub (ts := [0, 1, 2, 3, 4]) rfl
  refine wp_seq ?_
  refine f_region hok ?_; clear hok; intro hok
  refine h_boxv hok H (cl := [.int .i64 n00, .int .i64 n01, .int .i64 n02, .int .i64 n03, .int .i64 n04]) rfl rfl rfl (by decide) rfl rfl rfl ?_; clear hok a H; intro a w1 b1 H hok
  refine h_boxv hok H (cl := [.int .i64 x.k, .int .i64 x.epoch, .int .i64 x.req, .int .i64 x.serial, .bool x.flag, .int .u64 (x.at_ : Int), .int .u64 (x.last : Int), .int .i64 x.n, .int .i64 x.m, .int .i64 x.p, .int .i64 x.e, .string x.key, .string x.to_, .int .i64 x.conf.epoch, .slice ao_v0_x x.conf.members.length cap_v0_x, .int .u64 (x.conf.floor : Int), .int .i64 x.batch.client, .int .i64 x.batch.req, .slice ao_v1_x x.batch.ops.length cap_v1_x, .slice ao_v2_x x.entries.length cap_v2_x, .slice ao_v3_x x.stamps.length cap_v3_x, .slice ao_v4_x x.pairs.length cap_v4_x]) rfl rfl rfl (by decide) rfl rfl rfl ?_; clear hok a H; intro a w2 b2 H hok
  refine s_runk TB_Relay5 hok 1 rfl rfl ?_; clear hok a; intro a hok
  refine s_end hok [0, 1, 2, 3, 4, 6, 8, 10] rfl ?_; clear hok; intro hok
  refine p_then ?_
  refine wp_seq ?_
  refine wp_seq ?_
  refine f_region hok ?_; clear hok; intro hok
  refine s_runk TB_Relay5 hok 1 rfl rfl ?_; clear hok a; intro a hok
  refine s_call hok fn_6_Relay5 (caps := #[]) rfl rfl rfl rfl rfl (by decide) rfl rfl (c_Much _ l _ (H.sl 7 rfl)) ?_; clear hok a; intro _ a w3 hr hok
  obtain ⟨rfl, hb⟩ := hr
  replace H := H.blw hb
  clear hb
  refine s_runk TB_Relay5 hok 2 rfl rfl ?_; clear hok a; intro a hok
  refine g_ob hok (p := (!(decide ((muchI l (min l.length 200)) > 80)))) (v := .pointer (some ⟨b2, 20, none⟩)) (S' := [(8, .pointer (some ⟨b2, 0, none⟩))]) rfl rfl rfl (wantB_f _) rfl (by decide) (fun hp hS => hS.sub (ts := [8]) rfl) (fun _ => Ob_c TB_Relay5 rfl) ?_; clear hok a; intro a hok
  refine g_ob hok (p := (!(decide ((muchI l (min l.length 200)) > 80)))) (v := .slice ao_v3_x x.stamps.length cap_v3_x) (S' := [(19, .pointer (some ⟨b2, 20, none⟩))]) rfl rfl rfl (wantB_f _) rfl (by decide) (fun hp hS => (hS.conv (t := 19) rfl (cond_t hp)).sub (ts := [19]) rfl) (fun hp => ?_) ?_
  · have hg1 := of_decide_eq_false (notT hp)
    exact Ob_load TB_Relay5 rfl rfl rfl ((H.bx 0 rfl).cell 20 rfl)
  clear hok a; intro a hok
  refine g_ob hok (p := (!(decide ((muchI l (min l.length 200)) > 80)))) (v := .int .i64 (x.stamps.length : Int)) (S' := [(20, .slice ao_v3_x x.stamps.length cap_v3_x)]) rfl rfl rfl (wantB_f _) rfl (by decide) (fun hp hS => (hS.conv (t := 20) rfl (cond_t hp)).sub (ts := [20]) rfl) (fun _ => Ob_c TB_Relay5 rfl) ?_; clear hok a; intro a hok
  refine g_ob hok (p := (!(decide ((muchI l (min l.length 200)) > 80)))) (v := .bool (decide ((x.stamps.length : Int) > 40))) (S' := [(21, .int .i64 (x.stamps.length : Int))]) rfl rfl rfl (wantB_f _) rfl (by decide) (fun hp hS => (hS.conv (t := 21) rfl (cond_t hp)).sub (ts := [21]) rfl) (fun _ => Ob_c TB_Relay5 rfl) ?_; clear hok a; intro a hok
  refine s_ob hok (v := .bool ((decide ((muchI l (min l.length 200)) > 80)) || (decide ((x.stamps.length : Int) > 40)))) rfl rfl (by decide) rfl (Ob_pick rfl rfl rfl rfl (pick_or _ _)) ?_; clear hok a; intro a hok
  refine s_runk TB_Relay5 hok 1 rfl rfl ?_; clear hok a; intro a hok
  refine g_ob hok (p := (!((decide ((muchI l (min l.length 200)) > 80)) || (decide ((x.stamps.length : Int) > 40))))) (v := .pointer (some ⟨b2, 9, none⟩)) (S' := [(8, .pointer (some ⟨b2, 0, none⟩))]) rfl rfl rfl (wantB_f _) rfl (by decide) (fun hp hS => hS.sub (ts := [8]) rfl) (fun _ => Ob_c TB_Relay5 rfl) ?_; clear hok a; intro a hok
  refine g_ob hok (p := (!((decide ((muchI l (min l.length 200)) > 80)) || (decide ((x.stamps.length : Int) > 40))))) (v := .int .i64 x.p) (S' := [(25, .pointer (some ⟨b2, 9, none⟩))]) rfl rfl rfl (wantB_f _) rfl (by decide) (fun hp hS => (hS.conv (t := 25) rfl (cond_t hp)).sub (ts := [25]) rfl) (fun hp => ?_) ?_
  · have hg2 := And.intro (of_decide_eq_false (orF1 (notT hp))) (of_decide_eq_false (orF2 (notT hp)))
    exact Ob_load TB_Relay5 rfl rfl rfl ((H.bx 0 rfl).cell 9 rfl)
  clear hok a; intro a hok
  refine g_ob hok (p := (!((decide ((muchI l (min l.length 200)) > 80)) || (decide ((x.stamps.length : Int) > 40))))) (v := .bool (decide (x.p < (-1000000)))) (S' := [(26, .int .i64 x.p)]) rfl rfl rfl (wantB_f _) rfl (by decide) (fun hp hS => (hS.conv (t := 26) rfl (cond_t hp)).sub (ts := [26]) rfl) (fun _ => Ob_c TB_Relay5 rfl) ?_; clear hok a; intro a hok
  refine s_ob hok (v := .bool (((decide ((muchI l (min l.length 200)) > 80)) || (decide ((x.stamps.length : Int) > 40))) || (decide (x.p < (-1000000))))) rfl rfl (by decide) rfl (Ob_pick rfl rfl rfl rfl (pick_or _ _)) ?_; clear hok a; intro a hok
  refine s_runk TB_Relay5 hok 1 rfl rfl ?_; clear hok a; intro a hok
  refine g_ob hok (p := (!(((decide ((muchI l (min l.length 200)) > 80)) || (decide ((x.stamps.length : Int) > 40))) || (decide (x.p < (-1000000)))))) (v := .pointer (some ⟨b2, 19, none⟩)) (S' := [(8, .pointer (some ⟨b2, 0, none⟩))]) rfl rfl rfl (wantB_f _) rfl (by decide) (fun hp hS => hS.sub (ts := [8]) rfl) (fun _ => Ob_c TB_Relay5 rfl) ?_; clear hok a; intro a hok
  refine g_ob hok (p := (!(((decide ((muchI l (min l.length 200)) > 80)) || (decide ((x.stamps.length : Int) > 40))) || (decide (x.p < (-1000000)))))) (v := .slice ao_v2_x x.entries.length cap_v2_x) (S' := [(30, .pointer (some ⟨b2, 19, none⟩))]) rfl rfl rfl (wantB_f _) rfl (by decide) (fun hp hS => (hS.conv (t := 30) rfl (cond_t hp)).sub (ts := [30]) rfl) (fun hp => ?_) ?_
  · have hg3 := And.intro (And.intro (of_decide_eq_false (orF1 (orF1 (notT hp)))) (of_decide_eq_false (orF2 (orF1 (notT hp))))) (of_decide_eq_false (orF2 (notT hp)))
    exact Ob_load TB_Relay5 rfl rfl rfl ((H.bx 0 rfl).cell 19 rfl)
  clear hok a; intro a hok
  refine g_ob hok (p := (!(((decide ((muchI l (min l.length 200)) > 80)) || (decide ((x.stamps.length : Int) > 40))) || (decide (x.p < (-1000000)))))) (v := .int .i64 (x.entries.length : Int)) (S' := [(31, .slice ao_v2_x x.entries.length cap_v2_x)]) rfl rfl rfl (wantB_f _) rfl (by decide) (fun hp hS => (hS.conv (t := 31) rfl (cond_t hp)).sub (ts := [31]) rfl) (fun _ => Ob_c TB_Relay5 rfl) ?_; clear hok a; intro a hok
  refine g_ob hok (p := (!(((decide ((muchI l (min l.length 200)) > 80)) || (decide ((x.stamps.length : Int) > 40))) || (decide (x.p < (-1000000)))))) (v := .bool (decide ((x.entries.length : Int) > 20))) (S' := [(32, .int .i64 (x.entries.length : Int))]) rfl rfl rfl (wantB_f _) rfl (by decide) (fun hp hS => (hS.conv (t := 32) rfl (cond_t hp)).sub (ts := [32]) rfl) (fun _ => Ob_c TB_Relay5 rfl) ?_; clear hok a; intro a hok
  refine s_ob hok (v := .bool ((((decide ((muchI l (min l.length 200)) > 80)) || (decide ((x.stamps.length : Int) > 40))) || (decide (x.p < (-1000000)))) || (decide ((x.entries.length : Int) > 20)))) rfl rfl (by decide) rfl (Ob_pick rfl rfl rfl rfl (pick_or _ _)) ?_; clear hok a; intro a hok
  refine s_runk TB_Relay5 hok 1 rfl rfl ?_; clear hok a; intro a hok
  refine g_ob hok (p := (!((((decide ((muchI l (min l.length 200)) > 80)) || (decide ((x.stamps.length : Int) > 40))) || (decide (x.p < (-1000000)))) || (decide ((x.entries.length : Int) > 20))))) (v := .pointer (some ⟨b2, 21, none⟩)) (S' := [(8, .pointer (some ⟨b2, 0, none⟩))]) rfl rfl rfl (wantB_f _) rfl (by decide) (fun hp hS => hS.sub (ts := [8]) rfl) (fun _ => Ob_c TB_Relay5 rfl) ?_; clear hok a; intro a hok
  refine g_ob hok (p := (!((((decide ((muchI l (min l.length 200)) > 80)) || (decide ((x.stamps.length : Int) > 40))) || (decide (x.p < (-1000000)))) || (decide ((x.entries.length : Int) > 20))))) (v := .slice ao_v4_x x.pairs.length cap_v4_x) (S' := [(36, .pointer (some ⟨b2, 21, none⟩))]) rfl rfl rfl (wantB_f _) rfl (by decide) (fun hp hS => (hS.conv (t := 36) rfl (cond_t hp)).sub (ts := [36]) rfl) (fun hp => ?_) ?_
  · have hg4 := And.intro (And.intro (And.intro (of_decide_eq_false (orF1 (orF1 (orF1 (notT hp))))) (of_decide_eq_false (orF2 (orF1 (orF1 (notT hp)))))) (of_decide_eq_false (orF2 (orF1 (notT hp))))) (of_decide_eq_false (orF2 (notT hp)))
    exact Ob_load TB_Relay5 rfl rfl rfl ((H.bx 0 rfl).cell 21 rfl)
  clear hok a; intro a hok
  refine g_ob hok (p := (!((((decide ((muchI l (min l.length 200)) > 80)) || (decide ((x.stamps.length : Int) > 40))) || (decide (x.p < (-1000000)))) || (decide ((x.entries.length : Int) > 20))))) (v := .int .i64 (x.pairs.length : Int)) (S' := [(37, .slice ao_v4_x x.pairs.length cap_v4_x)]) rfl rfl rfl (wantB_f _) rfl (by decide) (fun hp hS => (hS.conv (t := 37) rfl (cond_t hp)).sub (ts := [37]) rfl) (fun _ => Ob_c TB_Relay5 rfl) ?_; clear hok a; intro a hok
  refine g_ob hok (p := (!((((decide ((muchI l (min l.length 200)) > 80)) || (decide ((x.stamps.length : Int) > 40))) || (decide (x.p < (-1000000)))) || (decide ((x.entries.length : Int) > 20))))) (v := .bool (decide ((x.pairs.length : Int) > 40))) (S' := [(38, .int .i64 (x.pairs.length : Int))]) rfl rfl rfl (wantB_f _) rfl (by decide) (fun hp hS => (hS.conv (t := 38) rfl (cond_t hp)).sub (ts := [38]) rfl) (fun _ => Ob_c TB_Relay5 rfl) ?_; clear hok a; intro a hok
  refine s_ob hok (v := .bool (((((decide ((muchI l (min l.length 200)) > 80)) || (decide ((x.stamps.length : Int) > 40))) || (decide (x.p < (-1000000)))) || (decide ((x.entries.length : Int) > 20))) || (decide ((x.pairs.length : Int) > 40)))) rfl rfl (by decide) rfl (Ob_pick rfl rfl rfl rfl (pick_or _ _)) ?_; clear hok a; intro a hok
  refine s_runk TB_Relay5 hok 1 rfl rfl ?_; clear hok a; intro a hok
  refine g_ob hok (p := (!(((((decide ((muchI l (min l.length 200)) > 80)) || (decide ((x.stamps.length : Int) > 40))) || (decide (x.p < (-1000000)))) || (decide ((x.entries.length : Int) > 20))) || (decide ((x.pairs.length : Int) > 40))))) (v := .pointer (some ⟨b2, 13, none⟩)) (S' := [(8, .pointer (some ⟨b2, 0, none⟩))]) rfl rfl rfl (wantB_f _) rfl (by decide) (fun hp hS => hS.sub (ts := [8]) rfl) (fun _ => Ob_c TB_Relay5 rfl) ?_; clear hok a; intro a hok
  refine g_ob hok (p := (!(((((decide ((muchI l (min l.length 200)) > 80)) || (decide ((x.stamps.length : Int) > 40))) || (decide (x.p < (-1000000)))) || (decide ((x.entries.length : Int) > 20))) || (decide ((x.pairs.length : Int) > 40))))) (v := .pointer (some ⟨b2, 14, none⟩)) (S' := [(42, .pointer (some ⟨b2, 13, none⟩))]) rfl rfl rfl (wantB_f _) rfl (by decide) (fun hp hS => (hS.conv (t := 42) rfl (cond_t hp)).sub (ts := [42]) rfl) (fun _ => Ob_c TB_Relay5 rfl) ?_; clear hok a; intro a hok
  refine g_ob hok (p := (!(((((decide ((muchI l (min l.length 200)) > 80)) || (decide ((x.stamps.length : Int) > 40))) || (decide (x.p < (-1000000)))) || (decide ((x.entries.length : Int) > 20))) || (decide ((x.pairs.length : Int) > 40))))) (v := .slice ao_v0_x x.conf.members.length cap_v0_x) (S' := [(43, .pointer (some ⟨b2, 14, none⟩))]) rfl rfl rfl (wantB_f _) rfl (by decide) (fun hp hS => (hS.conv (t := 43) rfl (cond_t hp)).sub (ts := [43]) rfl) (fun hp => ?_) ?_
  · have hg5 := And.intro (And.intro (And.intro (And.intro (of_decide_eq_false (orF1 (orF1 (orF1 (orF1 (notT hp)))))) (of_decide_eq_false (orF2 (orF1 (orF1 (orF1 (notT hp))))))) (of_decide_eq_false (orF2 (orF1 (orF1 (notT hp)))))) (of_decide_eq_false (orF2 (orF1 (notT hp))))) (of_decide_eq_false (orF2 (notT hp)))
    exact Ob_load TB_Relay5 rfl rfl rfl ((H.bx 0 rfl).cell 14 rfl)
  clear hok a; intro a hok
  refine g_ob hok (p := (!(((((decide ((muchI l (min l.length 200)) > 80)) || (decide ((x.stamps.length : Int) > 40))) || (decide (x.p < (-1000000)))) || (decide ((x.entries.length : Int) > 20))) || (decide ((x.pairs.length : Int) > 40))))) (v := .int .i64 (x.conf.members.length : Int)) (S' := [(44, .slice ao_v0_x x.conf.members.length cap_v0_x)]) rfl rfl rfl (wantB_f _) rfl (by decide) (fun hp hS => (hS.conv (t := 44) rfl (cond_t hp)).sub (ts := [44]) rfl) (fun _ => Ob_c TB_Relay5 rfl) ?_; clear hok a; intro a hok
  refine g_ob hok (p := (!(((((decide ((muchI l (min l.length 200)) > 80)) || (decide ((x.stamps.length : Int) > 40))) || (decide (x.p < (-1000000)))) || (decide ((x.entries.length : Int) > 20))) || (decide ((x.pairs.length : Int) > 40))))) (v := .bool (decide ((x.conf.members.length : Int) > 20))) (S' := [(45, .int .i64 (x.conf.members.length : Int))]) rfl rfl rfl (wantB_f _) rfl (by decide) (fun hp hS => (hS.conv (t := 45) rfl (cond_t hp)).sub (ts := [45]) rfl) (fun _ => Ob_c TB_Relay5 rfl) ?_; clear hok a; intro a hok
  refine s_ob hok (v := .bool ((((((decide ((muchI l (min l.length 200)) > 80)) || (decide ((x.stamps.length : Int) > 40))) || (decide (x.p < (-1000000)))) || (decide ((x.entries.length : Int) > 20))) || (decide ((x.pairs.length : Int) > 40))) || (decide ((x.conf.members.length : Int) > 20)))) rfl rfl (by decide) rfl (Ob_pick rfl rfl rfl rfl (pick_or _ _)) ?_; clear hok a; intro a hok
  refine s_runk TB_Relay5 hok 1 rfl rfl ?_; clear hok a; intro a hok
  refine g_ob hok (p := (!((((((decide ((muchI l (min l.length 200)) > 80)) || (decide ((x.stamps.length : Int) > 40))) || (decide (x.p < (-1000000)))) || (decide ((x.entries.length : Int) > 20))) || (decide ((x.pairs.length : Int) > 40))) || (decide ((x.conf.members.length : Int) > 20))))) (v := .pointer (some ⟨b2, 16, none⟩)) (S' := [(8, .pointer (some ⟨b2, 0, none⟩))]) rfl rfl rfl (wantB_f _) rfl (by decide) (fun hp hS => hS.sub (ts := [8]) rfl) (fun _ => Ob_c TB_Relay5 rfl) ?_; clear hok a; intro a hok
  refine g_ob hok (p := (!((((((decide ((muchI l (min l.length 200)) > 80)) || (decide ((x.stamps.length : Int) > 40))) || (decide (x.p < (-1000000)))) || (decide ((x.entries.length : Int) > 20))) || (decide ((x.pairs.length : Int) > 40))) || (decide ((x.conf.members.length : Int) > 20))))) (v := .pointer (some ⟨b2, 18, none⟩)) (S' := [(49, .pointer (some ⟨b2, 16, none⟩))]) rfl rfl rfl (wantB_f _) rfl (by decide) (fun hp hS => (hS.conv (t := 49) rfl (cond_t hp)).sub (ts := [49]) rfl) (fun _ => Ob_c TB_Relay5 rfl) ?_; clear hok a; intro a hok
  refine g_ob hok (p := (!((((((decide ((muchI l (min l.length 200)) > 80)) || (decide ((x.stamps.length : Int) > 40))) || (decide (x.p < (-1000000)))) || (decide ((x.entries.length : Int) > 20))) || (decide ((x.pairs.length : Int) > 40))) || (decide ((x.conf.members.length : Int) > 20))))) (v := .slice ao_v1_x x.batch.ops.length cap_v1_x) (S' := [(50, .pointer (some ⟨b2, 18, none⟩))]) rfl rfl rfl (wantB_f _) rfl (by decide) (fun hp hS => (hS.conv (t := 50) rfl (cond_t hp)).sub (ts := [50]) rfl) (fun hp => ?_) ?_
  · have hg6 := And.intro (And.intro (And.intro (And.intro (And.intro (of_decide_eq_false (orF1 (orF1 (orF1 (orF1 (orF1 (notT hp))))))) (of_decide_eq_false (orF2 (orF1 (orF1 (orF1 (orF1 (notT hp)))))))) (of_decide_eq_false (orF2 (orF1 (orF1 (orF1 (notT hp))))))) (of_decide_eq_false (orF2 (orF1 (orF1 (notT hp)))))) (of_decide_eq_false (orF2 (orF1 (notT hp))))) (of_decide_eq_false (orF2 (notT hp)))
    exact Ob_load TB_Relay5 rfl rfl rfl ((H.bx 0 rfl).cell 18 rfl)
  clear hok a; intro a hok
  refine g_ob hok (p := (!((((((decide ((muchI l (min l.length 200)) > 80)) || (decide ((x.stamps.length : Int) > 40))) || (decide (x.p < (-1000000)))) || (decide ((x.entries.length : Int) > 20))) || (decide ((x.pairs.length : Int) > 40))) || (decide ((x.conf.members.length : Int) > 20))))) (v := .int .i64 (x.batch.ops.length : Int)) (S' := [(51, .slice ao_v1_x x.batch.ops.length cap_v1_x)]) rfl rfl rfl (wantB_f _) rfl (by decide) (fun hp hS => (hS.conv (t := 51) rfl (cond_t hp)).sub (ts := [51]) rfl) (fun _ => Ob_c TB_Relay5 rfl) ?_; clear hok a; intro a hok
  refine g_ob hok (p := (!((((((decide ((muchI l (min l.length 200)) > 80)) || (decide ((x.stamps.length : Int) > 40))) || (decide (x.p < (-1000000)))) || (decide ((x.entries.length : Int) > 20))) || (decide ((x.pairs.length : Int) > 40))) || (decide ((x.conf.members.length : Int) > 20))))) (v := .bool (decide ((x.batch.ops.length : Int) > 20))) (S' := [(52, .int .i64 (x.batch.ops.length : Int))]) rfl rfl rfl (wantB_f _) rfl (by decide) (fun hp hS => (hS.conv (t := 52) rfl (cond_t hp)).sub (ts := [52]) rfl) (fun _ => Ob_c TB_Relay5 rfl) ?_; clear hok a; intro a hok
  refine s_ob hok (v := .bool (((((((decide ((muchI l (min l.length 200)) > 80)) || (decide ((x.stamps.length : Int) > 40))) || (decide (x.p < (-1000000)))) || (decide ((x.entries.length : Int) > 20))) || (decide ((x.pairs.length : Int) > 40))) || (decide ((x.conf.members.length : Int) > 20))) || (decide ((x.batch.ops.length : Int) > 20)))) rfl rfl (by decide) rfl (Ob_pick rfl rfl rfl rfl (pick_or _ _)) ?_; clear hok a; intro a hok
  refine s_end hok [0, 1, 2, 3, 4, 6, 8, 10, 54] rfl ?_; clear hok; intro hok
  refine p_then ?_
  refine f_cond hok rfl (fun hc1 => ?_) (fun hc1 => ?_)
  · replace hc1 := orT hc1 (fun h => orT h (fun h => orT h (fun h => orT h (fun h => orT h (fun h => orT h (fun h => of_decide_eq_true h) (fun h => of_decide_eq_true h)) (fun h => of_decide_eq_true h)) (fun h => of_decide_eq_true h)) (fun h => of_decide_eq_true h)) (fun h => of_decide_eq_true h)) (fun h => of_decide_eq_true h)
    refine wp_seq ?_
    refine f_region hok ?_; clear hok; intro hok
    refine s_call hok fn_8_Relay5 (caps := #[]) rfl rfl rfl rfl rfl (by decide) rfl rfl (c_awake  _ ) ?_; clear hok a; intro _ a w4 hr hok
    obtain ⟨rfl, hb⟩ := hr
    replace H := H.blw hb
    clear hb
    refine s_runk TB_Relay5 hok 1 rfl rfl ?_; clear hok a; intro a hok
    refine s_end hok [0, 1, 2, 3, 4, 6, 8, 10, 54] rfl ?_; clear hok; intro hok
    refine p_then ?_
    refine wp_ret ?_
    refine p_then_r ?_
    refine f_ret hok (run_results1 rfl hok rfl) ?_
    refine ⟨?_, H.below fun _ h => h⟩
    · clear hok H
      rfl
  · replace hc1 := And.intro (And.intro (And.intro (And.intro (And.intro (And.intro (of_decide_eq_false (orF1 (orF1 (orF1 (orF1 (orF1 (orF1 hc1))))))) (of_decide_eq_false (orF2 (orF1 (orF1 (orF1 (orF1 (orF1 hc1)))))))) (of_decide_eq_false (orF2 (orF1 (orF1 (orF1 (orF1 hc1))))))) (of_decide_eq_false (orF2 (orF1 (orF1 (orF1 hc1)))))) (of_decide_eq_false (orF2 (orF1 (orF1 hc1))))) (of_decide_eq_false (orF2 (orF1 hc1)))) (of_decide_eq_false (orF2 hc1))
    refine wp_skip ?_
    refine p_then ?_
    refine wp_seq ?_
    refine f_region hok ?_; clear hok; intro hok
    refine s_ob hok (v := .pointer (some ⟨b1, 0, none⟩)) rfl rfl (by decide) rfl (Ob_idxa (b := b1) (off := 0) (m := 1) Try.underlying42 (by kernel_rfl) (0) rfl rfl rfl rfl (show 0 < 5 from by decide)) ?_; clear hok a; intro a hok
    refine s_ob hok (v := .int .i64 n00) rfl rfl (by decide) rfl (Ob_load TB_Relay5 rfl rfl rfl ((H.bx 1 rfl).cell 0 rfl)) ?_; clear hok a; intro a hok
    refine s_ob hok (v := .pointer (some ⟨b1, 1, none⟩)) rfl rfl (by decide) rfl (Ob_idxa (b := b1) (off := 0) (m := 1) Try.underlying42 (by kernel_rfl) (1) rfl rfl rfl rfl (show 1 < 5 from by decide)) ?_; clear hok a; intro a hok
    refine s_ob hok (v := .int .i64 n01) rfl rfl (by decide) rfl (Ob_load TB_Relay5 rfl rfl rfl ((H.bx 1 rfl).cell 1 rfl)) ?_; clear hok a; intro a hok
    refine s_ob hok (v := .pointer (some ⟨b1, 2, none⟩)) rfl rfl (by decide) rfl (Ob_idxa (b := b1) (off := 0) (m := 1) Try.underlying42 (by kernel_rfl) (2) rfl rfl rfl rfl (show 2 < 5 from by decide)) ?_; clear hok a; intro a hok
    refine s_ob hok (v := .int .i64 n02) rfl rfl (by decide) rfl (Ob_load TB_Relay5 rfl rfl rfl ((H.bx 1 rfl).cell 2 rfl)) ?_; clear hok a; intro a hok
    refine s_ob hok (v := .pointer (some ⟨b1, 3, none⟩)) rfl rfl (by decide) rfl (Ob_idxa (b := b1) (off := 0) (m := 1) Try.underlying42 (by kernel_rfl) (3) rfl rfl rfl rfl (show 3 < 5 from by decide)) ?_; clear hok a; intro a hok
    refine s_ob hok (v := .int .i64 n03) rfl rfl (by decide) rfl (Ob_load TB_Relay5 rfl rfl rfl ((H.bx 1 rfl).cell 3 rfl)) ?_; clear hok a; intro a hok
    refine s_runk TB_Relay5 hok 2 rfl rfl ?_; clear hok a; intro a hok
    refine s_ob hok (v := .pointer (some ⟨b1, 4, none⟩)) rfl rfl (by decide) rfl (Ob_idxa (b := b1) (off := 0) (m := 1) Try.underlying42 (by kernel_rfl) (4) rfl rfl rfl rfl (show 4 < 5 from by decide)) ?_; clear hok a; intro a hok
    refine s_ob hok (v := .int .i64 n04) rfl rfl (by decide) rfl (Ob_load TB_Relay5 rfl rfl rfl ((H.bx 1 rfl).cell 4 rfl)) ?_; clear hok a; intro a hok
    refine s_call hok fn_9_Relay5 (caps := #[]) rfl rfl rfl rfl rfl (by decide) rfl rfl (c_relay_Fwd n00 n01 n02 n03 horizon _ l n04 _ h_n00 h_n01 h_n02 h_n03 h_horizon (H.sl 7 rfl) h_n04 (by first | omega | rfl | (simp only [List.length_drop, List.length_take, List.length_append, List.length_cons, List.length_nil]; omega))) ?_; clear hok a; intro _ a w5 hr hok
    obtain ⟨q1, q2, q3, q4, q5, rfl, L1, L2, L3, L4, L5, hx1, hb⟩ := hr
    obtain ⟨ao_q1, cap_q1, rfl, hc_q1, hm_q1⟩ := L1.shape
    unfold maxLen at hm_q1
    obtain ⟨ao_q2, cap_q2, rfl, hc_q2, hm_q2⟩ := L2.shape
    unfold maxLen at hm_q2
    obtain ⟨ao_q3, cap_q3, rfl, hc_q3, hm_q3⟩ := L3.shape
    unfold maxLen at hm_q3
    obtain ⟨ao_q4, cap_q4, rfl, hc_q4, hm_q4⟩ := L4.shape
    unfold maxLen at hm_q4
    obtain ⟨ao_q5, cap_q5, rfl, hc_q5, hm_q5⟩ := L5.shape
    unfold maxLen at hm_q5
    obtain ⟨I1, hI1, H⟩ := H.fresh hb
    replace H := H.addsl (L1.inI hI1 (fun k h => by rcases h with h | h <;> first | exact .inl h | exact .inr h | exact h.elim))
    replace H := H.addsl (L2.inI hI1 (fun k h => by rcases h with h | h <;> first | exact .inl h | exact .inr h | exact h.elim))
    replace H := H.addsl (L3.inI hI1 (fun k h => by rcases h with h | h <;> first | exact .inl h | exact .inr h | exact h.elim))
    replace H := H.addsl (L4.inI hI1 (fun k h => by rcases h with h | h <;> first | exact .inl h | exact .inr h | exact h.elim))
    replace H := H.addsl (L5.inI hI1 (fun k h => by rcases h with h | h <;> first | exact .inl h | exact .inr h | exact h.elim))
    clear hb hI1
    refine h_alloc hok H (cl := [.int .i64 0, .int .i64 0, .int .i64 0, .int .i64 0, .bool false, .int .u64 0, .int .u64 0, .int .i64 0, .int .i64 0, .int .i64 0, .int .i64 0, .string ByteArray.empty, .string ByteArray.empty, .int .i64 0, .slice none 0 0, .int .u64 0, .int .i64 0, .int .i64 0, .slice none 0 0, .slice none 0 0, .slice none 0 0, .slice none 0 0]) (z := .agg #[.int .i64 0, .int .i64 0, .int .i64 0, .int .i64 0, .bool false, .int .u64 0, .int .u64 0, .int .i64 0, .int .i64 0, .int .i64 0, .int .i64 0, .string ByteArray.empty, .string ByteArray.empty, .int .i64 0, .slice none 0 0, .int .u64 0, .int .i64 0, .int .i64 0, .slice none 0 0, .slice none 0 0, .slice none 0 0, .slice none 0 0]) rfl rfl rfl (by decide) rfl (by kernel_rfl) rfl ?_; clear hok a H; intro a w6 b3 H hok
    refine h_store TB_Relay5 hok H 0 (us := [.int .i64 ((fwdP n00 n01 n02 n03 horizon l n04).k), .int .i64 ((fwdP n00 n01 n02 n03 horizon l n04).epoch), .int .i64 ((fwdP n00 n01 n02 n03 horizon l n04).req), .int .i64 ((fwdP n00 n01 n02 n03 horizon l n04).serial), .bool ((fwdP n00 n01 n02 n03 horizon l n04).flag), .int .u64 ((fwdP n00 n01 n02 n03 horizon l n04).at_ : Int), .int .u64 ((fwdP n00 n01 n02 n03 horizon l n04).last : Int), .int .i64 ((fwdP n00 n01 n02 n03 horizon l n04).n), .int .i64 ((fwdP n00 n01 n02 n03 horizon l n04).m), .int .i64 ((fwdP n00 n01 n02 n03 horizon l n04).p), .int .i64 ((fwdP n00 n01 n02 n03 horizon l n04).e), .string ((fwdP n00 n01 n02 n03 horizon l n04).key), .string ((fwdP n00 n01 n02 n03 horizon l n04).to_), .int .i64 ((fwdP n00 n01 n02 n03 horizon l n04).conf.epoch), .slice ao_q1 (((fwdP n00 n01 n02 n03 horizon l n04).conf.members).length) cap_q1, .int .u64 ((fwdP n00 n01 n02 n03 horizon l n04).conf.floor : Int), .int .i64 ((fwdP n00 n01 n02 n03 horizon l n04).batch.client), .int .i64 ((fwdP n00 n01 n02 n03 horizon l n04).batch.req), .slice ao_q2 (((fwdP n00 n01 n02 n03 horizon l n04).batch.ops).length) cap_q2, .slice ao_q3 (((fwdP n00 n01 n02 n03 horizon l n04).entries).length) cap_q3, .slice ao_q4 (((fwdP n00 n01 n02 n03 horizon l n04).stamps).length) cap_q4, .slice ao_q5 (((fwdP n00 n01 n02 n03 horizon l n04).pairs).length) cap_q5]) (cl' := [.int .i64 ((fwdP n00 n01 n02 n03 horizon l n04).k), .int .i64 ((fwdP n00 n01 n02 n03 horizon l n04).epoch), .int .i64 ((fwdP n00 n01 n02 n03 horizon l n04).req), .int .i64 ((fwdP n00 n01 n02 n03 horizon l n04).serial), .bool ((fwdP n00 n01 n02 n03 horizon l n04).flag), .int .u64 ((fwdP n00 n01 n02 n03 horizon l n04).at_ : Int), .int .u64 ((fwdP n00 n01 n02 n03 horizon l n04).last : Int), .int .i64 ((fwdP n00 n01 n02 n03 horizon l n04).n), .int .i64 ((fwdP n00 n01 n02 n03 horizon l n04).m), .int .i64 ((fwdP n00 n01 n02 n03 horizon l n04).p), .int .i64 ((fwdP n00 n01 n02 n03 horizon l n04).e), .string ((fwdP n00 n01 n02 n03 horizon l n04).key), .string ((fwdP n00 n01 n02 n03 horizon l n04).to_), .int .i64 ((fwdP n00 n01 n02 n03 horizon l n04).conf.epoch), .slice ao_q1 (((fwdP n00 n01 n02 n03 horizon l n04).conf.members).length) cap_q1, .int .u64 ((fwdP n00 n01 n02 n03 horizon l n04).conf.floor : Int), .int .i64 ((fwdP n00 n01 n02 n03 horizon l n04).batch.client), .int .i64 ((fwdP n00 n01 n02 n03 horizon l n04).batch.req), .slice ao_q2 (((fwdP n00 n01 n02 n03 horizon l n04).batch.ops).length) cap_q2, .slice ao_q3 (((fwdP n00 n01 n02 n03 horizon l n04).entries).length) cap_q3, .slice ao_q4 (((fwdP n00 n01 n02 n03 horizon l n04).stamps).length) cap_q4, .slice ao_q5 (((fwdP n00 n01 n02 n03 horizon l n04).pairs).length) cap_q5]) rfl rfl rfl rfl rfl rfl rfl rfl rfl (ones_all rfl) (Nat.le_of_ble_eq_true rfl) (putCells_all rfl) ?_; clear H; intro w7 H
    dsimp only [List.eraseIdx] at H
    refine s_end hok [0, 1, 2, 3, 4, 6, 8, 10, 54, 11] rfl ?_; clear hok; intro hok
    refine p_then ?_
    refine wp_seq ?_
    refine f_region hok ?_; clear hok; intro hok
    refine s_ob hok (v := .pointer (some ⟨b1, 0, none⟩)) rfl rfl (by decide) rfl (Ob_idxa (b := b1) (off := 0) (m := 1) Try.underlying42 (by kernel_rfl) (0) rfl rfl rfl rfl (show 0 < 5 from by decide)) ?_; clear hok a; intro a hok
    refine s_ob hok (v := .int .i64 n00) rfl rfl (by decide) rfl (Ob_load TB_Relay5 rfl rfl rfl ((H.bx 7 rfl).cell 0 rfl)) ?_; clear hok a; intro a hok
    refine s_ob hok (v := .pointer (some ⟨b1, 1, none⟩)) rfl rfl (by decide) rfl (Ob_idxa (b := b1) (off := 0) (m := 1) Try.underlying42 (by kernel_rfl) (1) rfl rfl rfl rfl (show 1 < 5 from by decide)) ?_; clear hok a; intro a hok
    refine s_ob hok (v := .int .i64 n01) rfl rfl (by decide) rfl (Ob_load TB_Relay5 rfl rfl rfl ((H.bx 7 rfl).cell 1 rfl)) ?_; clear hok a; intro a hok
    refine s_ob hok (v := .pointer (some ⟨b1, 2, none⟩)) rfl rfl (by decide) rfl (Ob_idxa (b := b1) (off := 0) (m := 1) Try.underlying42 (by kernel_rfl) (2) rfl rfl rfl rfl (show 2 < 5 from by decide)) ?_; clear hok a; intro a hok
    refine s_ob hok (v := .int .i64 n02) rfl rfl (by decide) rfl (Ob_load TB_Relay5 rfl rfl rfl ((H.bx 7 rfl).cell 2 rfl)) ?_; clear hok a; intro a hok
    refine s_ob hok (v := .pointer (some ⟨b1, 3, none⟩)) rfl rfl (by decide) rfl (Ob_idxa (b := b1) (off := 0) (m := 1) Try.underlying42 (by kernel_rfl) (3) rfl rfl rfl rfl (show 3 < 5 from by decide)) ?_; clear hok a; intro a hok
    refine s_ob hok (v := .int .i64 n03) rfl rfl (by decide) rfl (Ob_load TB_Relay5 rfl rfl rfl ((H.bx 7 rfl).cell 3 rfl)) ?_; clear hok a; intro a hok
    refine s_runk TB_Relay5 hok 2 rfl rfl ?_; clear hok a; intro a hok
    refine s_ob hok (v := .pointer (some ⟨b1, 4, none⟩)) rfl rfl (by decide) rfl (Ob_idxa (b := b1) (off := 0) (m := 1) Try.underlying42 (by kernel_rfl) (4) rfl rfl rfl rfl (show 4 < 5 from by decide)) ?_; clear hok a; intro a hok
    refine s_ob hok (v := .int .i64 n04) rfl rfl (by decide) rfl (Ob_load TB_Relay5 rfl rfl rfl ((H.bx 7 rfl).cell 4 rfl)) ?_; clear hok a; intro a hok
    refine s_call hok fn_12_Relay5 (caps := #[]) rfl rfl rfl rfl rfl (by decide) rfl rfl (FwdX n00 n01 n02 n03 horizon _ l n04 _ h_n00 h_n01 h_n02 h_n03 h_horizon (H.sl 13 rfl) h_n04 (by first | omega | rfl | (simp only [List.length_drop, List.length_take, List.length_append, List.length_cons, List.length_nil]; omega))) ?_; clear hok a; intro _ a w8 hr hok
    obtain ⟨q6, q7, q8, q9, q10, rfl, L6, L7, L8, L9, L10, hx2, hb⟩ := hr
    obtain ⟨ao_q6, cap_q6, rfl, hc_q6, hm_q6⟩ := L6.shape
    unfold maxLen at hm_q6
    obtain ⟨ao_q7, cap_q7, rfl, hc_q7, hm_q7⟩ := L7.shape
    unfold maxLen at hm_q7
    obtain ⟨ao_q8, cap_q8, rfl, hc_q8, hm_q8⟩ := L8.shape
    unfold maxLen at hm_q8
    obtain ⟨ao_q9, cap_q9, rfl, hc_q9, hm_q9⟩ := L9.shape
    unfold maxLen at hm_q9
    obtain ⟨ao_q10, cap_q10, rfl, hc_q10, hm_q10⟩ := L10.shape
    unfold maxLen at hm_q10
    obtain ⟨I2, hI2, H⟩ := H.fresh hb
    replace H := H.addsl (L6.inI hI2 (fun k h => by rcases h with h | h <;> first | exact .inl h | exact .inr h | exact h.elim))
    replace H := H.addsl (L7.inI hI2 (fun k h => by rcases h with h | h <;> first | exact .inl h | exact .inr h | exact h.elim))
    replace H := H.addsl (L8.inI hI2 (fun k h => by rcases h with h | h <;> first | exact .inl h | exact .inr h | exact h.elim))
    replace H := H.addsl (L9.inI hI2 (fun k h => by rcases h with h | h <;> first | exact .inl h | exact .inr h | exact h.elim))
    replace H := H.addsl (L10.inI hI2 (fun k h => by rcases h with h | h <;> first | exact .inl h | exact .inr h | exact h.elim))
    clear hb hI2
    refine h_alloc hok H (cl := [.int .i64 0, .int .i64 0, .int .i64 0, .int .i64 0, .bool false, .int .u64 0, .int .u64 0, .int .i64 0, .int .i64 0, .int .i64 0, .int .i64 0, .string ByteArray.empty, .string ByteArray.empty, .int .i64 0, .slice none 0 0, .int .u64 0, .int .i64 0, .int .i64 0, .slice none 0 0, .slice none 0 0, .slice none 0 0, .slice none 0 0]) (z := .agg #[.int .i64 0, .int .i64 0, .int .i64 0, .int .i64 0, .bool false, .int .u64 0, .int .u64 0, .int .i64 0, .int .i64 0, .int .i64 0, .int .i64 0, .string ByteArray.empty, .string ByteArray.empty, .int .i64 0, .slice none 0 0, .int .u64 0, .int .i64 0, .int .i64 0, .slice none 0 0, .slice none 0 0, .slice none 0 0, .slice none 0 0]) rfl rfl rfl (by decide) rfl (by kernel_rfl) rfl ?_; clear hok a H; intro a w9 b4 H hok
    refine h_store TB_Relay5 hok H 0 (us := [.int .i64 ((fwdD n00 n01 n02 n03 horizon l n04).k), .int .i64 ((fwdD n00 n01 n02 n03 horizon l n04).epoch), .int .i64 ((fwdD n00 n01 n02 n03 horizon l n04).req), .int .i64 ((fwdD n00 n01 n02 n03 horizon l n04).serial), .bool ((fwdD n00 n01 n02 n03 horizon l n04).flag), .int .u64 ((fwdD n00 n01 n02 n03 horizon l n04).at_ : Int), .int .u64 ((fwdD n00 n01 n02 n03 horizon l n04).last : Int), .int .i64 ((fwdD n00 n01 n02 n03 horizon l n04).n), .int .i64 ((fwdD n00 n01 n02 n03 horizon l n04).m), .int .i64 ((fwdD n00 n01 n02 n03 horizon l n04).p), .int .i64 ((fwdD n00 n01 n02 n03 horizon l n04).e), .string ((fwdD n00 n01 n02 n03 horizon l n04).key), .string ((fwdD n00 n01 n02 n03 horizon l n04).to_), .int .i64 ((fwdD n00 n01 n02 n03 horizon l n04).conf.epoch), .slice ao_q6 (((fwdD n00 n01 n02 n03 horizon l n04).conf.members).length) cap_q6, .int .u64 ((fwdD n00 n01 n02 n03 horizon l n04).conf.floor : Int), .int .i64 ((fwdD n00 n01 n02 n03 horizon l n04).batch.client), .int .i64 ((fwdD n00 n01 n02 n03 horizon l n04).batch.req), .slice ao_q7 (((fwdD n00 n01 n02 n03 horizon l n04).batch.ops).length) cap_q7, .slice ao_q8 (((fwdD n00 n01 n02 n03 horizon l n04).entries).length) cap_q8, .slice ao_q9 (((fwdD n00 n01 n02 n03 horizon l n04).stamps).length) cap_q9, .slice ao_q10 (((fwdD n00 n01 n02 n03 horizon l n04).pairs).length) cap_q10]) (cl' := [.int .i64 ((fwdD n00 n01 n02 n03 horizon l n04).k), .int .i64 ((fwdD n00 n01 n02 n03 horizon l n04).epoch), .int .i64 ((fwdD n00 n01 n02 n03 horizon l n04).req), .int .i64 ((fwdD n00 n01 n02 n03 horizon l n04).serial), .bool ((fwdD n00 n01 n02 n03 horizon l n04).flag), .int .u64 ((fwdD n00 n01 n02 n03 horizon l n04).at_ : Int), .int .u64 ((fwdD n00 n01 n02 n03 horizon l n04).last : Int), .int .i64 ((fwdD n00 n01 n02 n03 horizon l n04).n), .int .i64 ((fwdD n00 n01 n02 n03 horizon l n04).m), .int .i64 ((fwdD n00 n01 n02 n03 horizon l n04).p), .int .i64 ((fwdD n00 n01 n02 n03 horizon l n04).e), .string ((fwdD n00 n01 n02 n03 horizon l n04).key), .string ((fwdD n00 n01 n02 n03 horizon l n04).to_), .int .i64 ((fwdD n00 n01 n02 n03 horizon l n04).conf.epoch), .slice ao_q6 (((fwdD n00 n01 n02 n03 horizon l n04).conf.members).length) cap_q6, .int .u64 ((fwdD n00 n01 n02 n03 horizon l n04).conf.floor : Int), .int .i64 ((fwdD n00 n01 n02 n03 horizon l n04).batch.client), .int .i64 ((fwdD n00 n01 n02 n03 horizon l n04).batch.req), .slice ao_q7 (((fwdD n00 n01 n02 n03 horizon l n04).batch.ops).length) cap_q7, .slice ao_q8 (((fwdD n00 n01 n02 n03 horizon l n04).entries).length) cap_q8, .slice ao_q9 (((fwdD n00 n01 n02 n03 horizon l n04).stamps).length) cap_q9, .slice ao_q10 (((fwdD n00 n01 n02 n03 horizon l n04).pairs).length) cap_q10]) rfl rfl rfl rfl rfl rfl rfl rfl rfl (ones_all rfl) (Nat.le_of_ble_eq_true rfl) (putCells_all rfl) ?_; clear H; intro w10 H
    dsimp only [List.eraseIdx] at H
    refine s_end hok [0, 1, 2, 3, 4, 6, 8, 10, 54, 11, 12] rfl ?_; clear hok; intro hok
    refine p_then ?_
    refine wp_seq ?_
    refine f_region hok ?_; clear hok; intro hok
    refine s_ob hok (v := .pointer (some ⟨b1, 0, none⟩)) rfl rfl (by decide) rfl (Ob_idxa (b := b1) (off := 0) (m := 1) Try.underlying42 (by kernel_rfl) (0) rfl rfl rfl rfl (show 0 < 5 from by decide)) ?_; clear hok a; intro a hok
    refine s_ob hok (v := .int .i64 n00) rfl rfl (by decide) rfl (Ob_load TB_Relay5 rfl rfl rfl ((H.bx 13 rfl).cell 0 rfl)) ?_; clear hok a; intro a hok
    refine s_ob hok (v := .pointer (some ⟨b1, 4, none⟩)) rfl rfl (by decide) rfl (Ob_idxa (b := b1) (off := 0) (m := 1) Try.underlying42 (by kernel_rfl) (4) rfl rfl rfl rfl (show 4 < 5 from by decide)) ?_; clear hok a; intro a hok
    refine s_ob hok (v := .int .i64 n04) rfl rfl (by decide) rfl (Ob_load TB_Relay5 rfl rfl rfl ((H.bx 13 rfl).cell 4 rfl)) ?_; clear hok a; intro a hok
    refine s_ob hok (v := .pointer (some ⟨b1, 1, none⟩)) rfl rfl (by decide) rfl (Ob_idxa (b := b1) (off := 0) (m := 1) Try.underlying42 (by kernel_rfl) (1) rfl rfl rfl rfl (show 1 < 5 from by decide)) ?_; clear hok a; intro a hok
    refine s_ob hok (v := .int .i64 n01) rfl rfl (by decide) rfl (Ob_load TB_Relay5 rfl rfl rfl ((H.bx 13 rfl).cell 1 rfl)) ?_; clear hok a; intro a hok
    refine s_ob hok (v := .pointer (some ⟨b1, 2, none⟩)) rfl rfl (by decide) rfl (Ob_idxa (b := b1) (off := 0) (m := 1) Try.underlying42 (by kernel_rfl) (2) rfl rfl rfl rfl (show 2 < 5 from by decide)) ?_; clear hok a; intro a hok
    refine s_ob hok (v := .int .i64 n02) rfl rfl (by decide) rfl (Ob_load TB_Relay5 rfl rfl rfl ((H.bx 13 rfl).cell 2 rfl)) ?_; clear hok a; intro a hok
    refine s_runk TB_Relay5 hok 1 rfl rfl ?_; clear hok a; intro a hok
    refine s_call hok fn_10_Relay5 (caps := #[]) rfl rfl rfl rfl rfl (by decide) rfl rfl (c_relay_Ack n00 n04 n01 n02 _ l _ h_n00 h_n04 h_n01 h_n02 (H.sl 19 rfl) (by first | omega | rfl | (simp only [List.length_drop, List.length_take, List.length_append, List.length_cons, List.length_nil]; omega))) ?_; clear hok a; intro _ a w11 hr hok
    obtain ⟨q11, q12, q13, q14, q15, rfl, L11, L12, L13, L14, L15, hx3, hb⟩ := hr
    obtain ⟨ao_q11, cap_q11, rfl, hc_q11, hm_q11⟩ := L11.shape
    unfold maxLen at hm_q11
    obtain ⟨ao_q12, cap_q12, rfl, hc_q12, hm_q12⟩ := L12.shape
    unfold maxLen at hm_q12
    obtain ⟨ao_q13, cap_q13, rfl, hc_q13, hm_q13⟩ := L13.shape
    unfold maxLen at hm_q13
    obtain ⟨ao_q14, cap_q14, rfl, hc_q14, hm_q14⟩ := L14.shape
    unfold maxLen at hm_q14
    obtain ⟨ao_q15, cap_q15, rfl, hc_q15, hm_q15⟩ := L15.shape
    unfold maxLen at hm_q15
    obtain ⟨I3, hI3, H⟩ := H.fresh hb
    replace H := H.addsl (L11.inI hI3 (fun k h => by rcases h with h | h <;> first | exact .inl h | exact .inr h | exact h.elim))
    replace H := H.addsl (L12.inI hI3 (fun k h => by rcases h with h | h <;> first | exact .inl h | exact .inr h | exact h.elim))
    replace H := H.addsl (L13.inI hI3 (fun k h => by rcases h with h | h <;> first | exact .inl h | exact .inr h | exact h.elim))
    replace H := H.addsl (L14.inI hI3 (fun k h => by rcases h with h | h <;> first | exact .inl h | exact .inr h | exact h.elim))
    replace H := H.addsl (L15.inI hI3 (fun k h => by rcases h with h | h <;> first | exact .inl h | exact .inr h | exact h.elim))
    clear hb hI3
    refine h_alloc hok H (cl := [.int .i64 0, .int .i64 0, .int .i64 0, .int .i64 0, .bool false, .int .u64 0, .int .u64 0, .int .i64 0, .int .i64 0, .int .i64 0, .int .i64 0, .string ByteArray.empty, .string ByteArray.empty, .int .i64 0, .slice none 0 0, .int .u64 0, .int .i64 0, .int .i64 0, .slice none 0 0, .slice none 0 0, .slice none 0 0, .slice none 0 0]) (z := .agg #[.int .i64 0, .int .i64 0, .int .i64 0, .int .i64 0, .bool false, .int .u64 0, .int .u64 0, .int .i64 0, .int .i64 0, .int .i64 0, .int .i64 0, .string ByteArray.empty, .string ByteArray.empty, .int .i64 0, .slice none 0 0, .int .u64 0, .int .i64 0, .int .i64 0, .slice none 0 0, .slice none 0 0, .slice none 0 0, .slice none 0 0]) rfl rfl rfl (by decide) rfl (by kernel_rfl) rfl ?_; clear hok a H; intro a w12 b5 H hok
    refine h_store TB_Relay5 hok H 0 (us := [.int .i64 ((ackP n00 n04 n01 n02 l).k), .int .i64 ((ackP n00 n04 n01 n02 l).epoch), .int .i64 ((ackP n00 n04 n01 n02 l).req), .int .i64 ((ackP n00 n04 n01 n02 l).serial), .bool ((ackP n00 n04 n01 n02 l).flag), .int .u64 ((ackP n00 n04 n01 n02 l).at_ : Int), .int .u64 ((ackP n00 n04 n01 n02 l).last : Int), .int .i64 ((ackP n00 n04 n01 n02 l).n), .int .i64 ((ackP n00 n04 n01 n02 l).m), .int .i64 ((ackP n00 n04 n01 n02 l).p), .int .i64 ((ackP n00 n04 n01 n02 l).e), .string ((ackP n00 n04 n01 n02 l).key), .string ((ackP n00 n04 n01 n02 l).to_), .int .i64 ((ackP n00 n04 n01 n02 l).conf.epoch), .slice ao_q11 (((ackP n00 n04 n01 n02 l).conf.members).length) cap_q11, .int .u64 ((ackP n00 n04 n01 n02 l).conf.floor : Int), .int .i64 ((ackP n00 n04 n01 n02 l).batch.client), .int .i64 ((ackP n00 n04 n01 n02 l).batch.req), .slice ao_q12 (((ackP n00 n04 n01 n02 l).batch.ops).length) cap_q12, .slice ao_q13 (((ackP n00 n04 n01 n02 l).entries).length) cap_q13, .slice ao_q14 (((ackP n00 n04 n01 n02 l).stamps).length) cap_q14, .slice ao_q15 (((ackP n00 n04 n01 n02 l).pairs).length) cap_q15]) (cl' := [.int .i64 ((ackP n00 n04 n01 n02 l).k), .int .i64 ((ackP n00 n04 n01 n02 l).epoch), .int .i64 ((ackP n00 n04 n01 n02 l).req), .int .i64 ((ackP n00 n04 n01 n02 l).serial), .bool ((ackP n00 n04 n01 n02 l).flag), .int .u64 ((ackP n00 n04 n01 n02 l).at_ : Int), .int .u64 ((ackP n00 n04 n01 n02 l).last : Int), .int .i64 ((ackP n00 n04 n01 n02 l).n), .int .i64 ((ackP n00 n04 n01 n02 l).m), .int .i64 ((ackP n00 n04 n01 n02 l).p), .int .i64 ((ackP n00 n04 n01 n02 l).e), .string ((ackP n00 n04 n01 n02 l).key), .string ((ackP n00 n04 n01 n02 l).to_), .int .i64 ((ackP n00 n04 n01 n02 l).conf.epoch), .slice ao_q11 (((ackP n00 n04 n01 n02 l).conf.members).length) cap_q11, .int .u64 ((ackP n00 n04 n01 n02 l).conf.floor : Int), .int .i64 ((ackP n00 n04 n01 n02 l).batch.client), .int .i64 ((ackP n00 n04 n01 n02 l).batch.req), .slice ao_q12 (((ackP n00 n04 n01 n02 l).batch.ops).length) cap_q12, .slice ao_q13 (((ackP n00 n04 n01 n02 l).entries).length) cap_q13, .slice ao_q14 (((ackP n00 n04 n01 n02 l).stamps).length) cap_q14, .slice ao_q15 (((ackP n00 n04 n01 n02 l).pairs).length) cap_q15]) rfl rfl rfl rfl rfl rfl rfl rfl rfl (ones_all rfl) (Nat.le_of_ble_eq_true rfl) (putCells_all rfl) ?_; clear H; intro w13 H
    dsimp only [List.eraseIdx] at H
    refine s_end hok [0, 1, 2, 3, 4, 6, 8, 10, 54, 11, 12, 13] rfl ?_; clear hok; intro hok
    refine p_then ?_
    refine wp_seq ?_
    refine f_region hok ?_; clear hok; intro hok
    refine s_ob hok (v := .pointer (some ⟨b1, 0, none⟩)) rfl rfl (by decide) rfl (Ob_idxa (b := b1) (off := 0) (m := 1) Try.underlying42 (by kernel_rfl) (0) rfl rfl rfl rfl (show 0 < 5 from by decide)) ?_; clear hok a; intro a hok
    refine s_ob hok (v := .int .i64 n00) rfl rfl (by decide) rfl (Ob_load TB_Relay5 rfl rfl rfl ((H.bx 19 rfl).cell 0 rfl)) ?_; clear hok a; intro a hok
    refine s_ob hok (v := .pointer (some ⟨b1, 4, none⟩)) rfl rfl (by decide) rfl (Ob_idxa (b := b1) (off := 0) (m := 1) Try.underlying42 (by kernel_rfl) (4) rfl rfl rfl rfl (show 4 < 5 from by decide)) ?_; clear hok a; intro a hok
    refine s_ob hok (v := .int .i64 n04) rfl rfl (by decide) rfl (Ob_load TB_Relay5 rfl rfl rfl ((H.bx 19 rfl).cell 4 rfl)) ?_; clear hok a; intro a hok
    refine s_ob hok (v := .pointer (some ⟨b1, 1, none⟩)) rfl rfl (by decide) rfl (Ob_idxa (b := b1) (off := 0) (m := 1) Try.underlying42 (by kernel_rfl) (1) rfl rfl rfl rfl (show 1 < 5 from by decide)) ?_; clear hok a; intro a hok
    refine s_ob hok (v := .int .i64 n01) rfl rfl (by decide) rfl (Ob_load TB_Relay5 rfl rfl rfl ((H.bx 19 rfl).cell 1 rfl)) ?_; clear hok a; intro a hok
    refine s_ob hok (v := .pointer (some ⟨b1, 2, none⟩)) rfl rfl (by decide) rfl (Ob_idxa (b := b1) (off := 0) (m := 1) Try.underlying42 (by kernel_rfl) (2) rfl rfl rfl rfl (show 2 < 5 from by decide)) ?_; clear hok a; intro a hok
    refine s_ob hok (v := .int .i64 n02) rfl rfl (by decide) rfl (Ob_load TB_Relay5 rfl rfl rfl ((H.bx 19 rfl).cell 2 rfl)) ?_; clear hok a; intro a hok
    refine s_runk TB_Relay5 hok 1 rfl rfl ?_; clear hok a; intro a hok
    refine s_call hok fn_13_Relay5 (caps := #[]) rfl rfl rfl rfl rfl (by decide) rfl rfl (AckX n00 n04 n01 n02 _ l _ h_n00 h_n04 h_n01 h_n02 (H.sl 25 rfl) (by first | omega | rfl | (simp only [List.length_drop, List.length_take, List.length_append, List.length_cons, List.length_nil]; omega))) ?_; clear hok a; intro _ a w14 hr hok
    obtain ⟨q16, q17, q18, q19, q20, rfl, L16, L17, L18, L19, L20, hx4, hb⟩ := hr
    obtain ⟨ao_q16, cap_q16, rfl, hc_q16, hm_q16⟩ := L16.shape
    unfold maxLen at hm_q16
    obtain ⟨ao_q17, cap_q17, rfl, hc_q17, hm_q17⟩ := L17.shape
    unfold maxLen at hm_q17
    obtain ⟨ao_q18, cap_q18, rfl, hc_q18, hm_q18⟩ := L18.shape
    unfold maxLen at hm_q18
    obtain ⟨ao_q19, cap_q19, rfl, hc_q19, hm_q19⟩ := L19.shape
    unfold maxLen at hm_q19
    obtain ⟨ao_q20, cap_q20, rfl, hc_q20, hm_q20⟩ := L20.shape
    unfold maxLen at hm_q20
    obtain ⟨I4, hI4, H⟩ := H.fresh hb
    replace H := H.addsl (L16.inI hI4 (fun k h => by rcases h with h | h <;> first | exact .inl h | exact .inr h | exact h.elim))
    replace H := H.addsl (L17.inI hI4 (fun k h => by rcases h with h | h <;> first | exact .inl h | exact .inr h | exact h.elim))
    replace H := H.addsl (L18.inI hI4 (fun k h => by rcases h with h | h <;> first | exact .inl h | exact .inr h | exact h.elim))
    replace H := H.addsl (L19.inI hI4 (fun k h => by rcases h with h | h <;> first | exact .inl h | exact .inr h | exact h.elim))
    replace H := H.addsl (L20.inI hI4 (fun k h => by rcases h with h | h <;> first | exact .inl h | exact .inr h | exact h.elim))
    clear hb hI4
    refine h_alloc hok H (cl := [.int .i64 0, .int .i64 0, .int .i64 0, .int .i64 0, .bool false, .int .u64 0, .int .u64 0, .int .i64 0, .int .i64 0, .int .i64 0, .int .i64 0, .string ByteArray.empty, .string ByteArray.empty, .int .i64 0, .slice none 0 0, .int .u64 0, .int .i64 0, .int .i64 0, .slice none 0 0, .slice none 0 0, .slice none 0 0, .slice none 0 0]) (z := .agg #[.int .i64 0, .int .i64 0, .int .i64 0, .int .i64 0, .bool false, .int .u64 0, .int .u64 0, .int .i64 0, .int .i64 0, .int .i64 0, .int .i64 0, .string ByteArray.empty, .string ByteArray.empty, .int .i64 0, .slice none 0 0, .int .u64 0, .int .i64 0, .int .i64 0, .slice none 0 0, .slice none 0 0, .slice none 0 0, .slice none 0 0]) rfl rfl rfl (by decide) rfl (by kernel_rfl) rfl ?_; clear hok a H; intro a w15 b6 H hok
    refine h_store TB_Relay5 hok H 0 (us := [.int .i64 ((ackD n00 n04 n01 n02 l).k), .int .i64 ((ackD n00 n04 n01 n02 l).epoch), .int .i64 ((ackD n00 n04 n01 n02 l).req), .int .i64 ((ackD n00 n04 n01 n02 l).serial), .bool ((ackD n00 n04 n01 n02 l).flag), .int .u64 ((ackD n00 n04 n01 n02 l).at_ : Int), .int .u64 ((ackD n00 n04 n01 n02 l).last : Int), .int .i64 ((ackD n00 n04 n01 n02 l).n), .int .i64 ((ackD n00 n04 n01 n02 l).m), .int .i64 ((ackD n00 n04 n01 n02 l).p), .int .i64 ((ackD n00 n04 n01 n02 l).e), .string ((ackD n00 n04 n01 n02 l).key), .string ((ackD n00 n04 n01 n02 l).to_), .int .i64 ((ackD n00 n04 n01 n02 l).conf.epoch), .slice ao_q16 (((ackD n00 n04 n01 n02 l).conf.members).length) cap_q16, .int .u64 ((ackD n00 n04 n01 n02 l).conf.floor : Int), .int .i64 ((ackD n00 n04 n01 n02 l).batch.client), .int .i64 ((ackD n00 n04 n01 n02 l).batch.req), .slice ao_q17 (((ackD n00 n04 n01 n02 l).batch.ops).length) cap_q17, .slice ao_q18 (((ackD n00 n04 n01 n02 l).entries).length) cap_q18, .slice ao_q19 (((ackD n00 n04 n01 n02 l).stamps).length) cap_q19, .slice ao_q20 (((ackD n00 n04 n01 n02 l).pairs).length) cap_q20]) (cl' := [.int .i64 ((ackD n00 n04 n01 n02 l).k), .int .i64 ((ackD n00 n04 n01 n02 l).epoch), .int .i64 ((ackD n00 n04 n01 n02 l).req), .int .i64 ((ackD n00 n04 n01 n02 l).serial), .bool ((ackD n00 n04 n01 n02 l).flag), .int .u64 ((ackD n00 n04 n01 n02 l).at_ : Int), .int .u64 ((ackD n00 n04 n01 n02 l).last : Int), .int .i64 ((ackD n00 n04 n01 n02 l).n), .int .i64 ((ackD n00 n04 n01 n02 l).m), .int .i64 ((ackD n00 n04 n01 n02 l).p), .int .i64 ((ackD n00 n04 n01 n02 l).e), .string ((ackD n00 n04 n01 n02 l).key), .string ((ackD n00 n04 n01 n02 l).to_), .int .i64 ((ackD n00 n04 n01 n02 l).conf.epoch), .slice ao_q16 (((ackD n00 n04 n01 n02 l).conf.members).length) cap_q16, .int .u64 ((ackD n00 n04 n01 n02 l).conf.floor : Int), .int .i64 ((ackD n00 n04 n01 n02 l).batch.client), .int .i64 ((ackD n00 n04 n01 n02 l).batch.req), .slice ao_q17 (((ackD n00 n04 n01 n02 l).batch.ops).length) cap_q17, .slice ao_q18 (((ackD n00 n04 n01 n02 l).entries).length) cap_q18, .slice ao_q19 (((ackD n00 n04 n01 n02 l).stamps).length) cap_q19, .slice ao_q20 (((ackD n00 n04 n01 n02 l).pairs).length) cap_q20]) rfl rfl rfl rfl rfl rfl rfl rfl rfl (ones_all rfl) (Nat.le_of_ble_eq_true rfl) (putCells_all rfl) ?_; clear H; intro w16 H
    dsimp only [List.eraseIdx] at H
    refine s_end hok [0, 1, 2, 3, 4, 6, 8, 10, 54, 11, 12, 13, 14] rfl ?_; clear hok; intro hok
    refine p_then ?_
    refine wp_seq ?_
    have hkn1 : ((if tail = true then max (min n00 n01) 0 else max (min (min n00 n01) n02) 0) == (if tail = true then max (min n00 n01) 0 else max (min (min n00 n01) n02) 0)) = true := by simp
    have hkn2 : ((max (min x.n n04) 0) == (max (min x.n n04) 0)) = true := by simp
    refine f_regionL hok (by kernel_rfl) (by kernel_rfl) (by decide) (by decide) [13, 18] [(0, 0, 0), (0, 0, 0), (3, 0, 0), (7, 0, 0), (15, 0, 0), (15, 0, 0), (63, 0, 0), (127, 0, 0), (255, 0, 0), (511, 0, 0), (511, 0, 0), (1535, 0, 0), (511, 0, 0), (8191, 0, 0), (511, 0, 1), (511, 0, 1), (33279, 0, 1), (511, 0, 1), (262143, 1, 1), (524287, 2, 2), (1048575, 2, 2), (2097151, 2, 2), (4194303, 2, 2), (8388607, 2, 2), (4194303, 2, 2), (20971519, 2, 2), (4194303, 2, 2), (4194303, 2, 2), (138412031, 2, 2), (536870911, 2, 2), (4194303, 2, 2), (1077936127, 2, 2), (4194303, 2, 2), (4299161599, 2, 2), (4194303, 2, 2), (4194303, 2, 2), (34363932671, 2, 2), (137438953471, 2, 2), (274877906943, 2, 2), (549755813887, 2, 2), (1099511627775, 2, 2), (2199023255551, 2, 2), (2199023255551, 2, 2), (6597069766655, 2, 2), (17592186044415, 2, 2), (2199023255551, 2, 2), (2199023255551, 2, 2), (72567767433215, 2, 2), (281474976710655, 2, 2), (562949953421311, 2, 2), (1125899906842623, 2, 2), (2251799813685247, 2, 2), (4503599627370495, 2, 2), (9007199254740991, 2, 2), (18014398509481983, 2, 2)] (by kernel_rfl) (fun jj vv => cond (Nat.blt jj 27) (cond (Nat.blt jj 13) (cond (Nat.blt jj 6) (cond (Nat.blt jj 3) (cond (Nat.blt jj 1) (vv = .agg #[.int .i64 ((fwdP n00 n01 n02 n03 horizon l n04).k), .int .i64 ((fwdP n00 n01 n02 n03 horizon l n04).epoch), .int .i64 ((fwdP n00 n01 n02 n03 horizon l n04).req), .int .i64 ((fwdP n00 n01 n02 n03 horizon l n04).serial), .bool ((fwdP n00 n01 n02 n03 horizon l n04).flag), .int .u64 ((fwdP n00 n01 n02 n03 horizon l n04).at_ : Int), .int .u64 ((fwdP n00 n01 n02 n03 horizon l n04).last : Int), .int .i64 ((fwdP n00 n01 n02 n03 horizon l n04).n), .int .i64 ((fwdP n00 n01 n02 n03 horizon l n04).m), .int .i64 ((fwdP n00 n01 n02 n03 horizon l n04).p), .int .i64 ((fwdP n00 n01 n02 n03 horizon l n04).e), .string ((fwdP n00 n01 n02 n03 horizon l n04).key), .string ((fwdP n00 n01 n02 n03 horizon l n04).to_), .int .i64 ((fwdP n00 n01 n02 n03 horizon l n04).conf.epoch), .slice ao_q1 (((fwdP n00 n01 n02 n03 horizon l n04).conf.members).length) cap_q1, .int .u64 ((fwdP n00 n01 n02 n03 horizon l n04).conf.floor : Int), .int .i64 ((fwdP n00 n01 n02 n03 horizon l n04).batch.client), .int .i64 ((fwdP n00 n01 n02 n03 horizon l n04).batch.req), .slice ao_q2 (((fwdP n00 n01 n02 n03 horizon l n04).batch.ops).length) cap_q2, .slice ao_q3 (((fwdP n00 n01 n02 n03 horizon l n04).entries).length) cap_q3, .slice ao_q4 (((fwdP n00 n01 n02 n03 horizon l n04).stamps).length) cap_q4, .slice ao_q5 (((fwdP n00 n01 n02 n03 horizon l n04).pairs).length) cap_q5]) (cond (Nat.blt jj 2) (vv = .agg #[.int .i64 ((fwdD n00 n01 n02 n03 horizon l n04).k), .int .i64 ((fwdD n00 n01 n02 n03 horizon l n04).epoch), .int .i64 ((fwdD n00 n01 n02 n03 horizon l n04).req), .int .i64 ((fwdD n00 n01 n02 n03 horizon l n04).serial), .bool ((fwdD n00 n01 n02 n03 horizon l n04).flag), .int .u64 ((fwdD n00 n01 n02 n03 horizon l n04).at_ : Int), .int .u64 ((fwdD n00 n01 n02 n03 horizon l n04).last : Int), .int .i64 ((fwdD n00 n01 n02 n03 horizon l n04).n), .int .i64 ((fwdD n00 n01 n02 n03 horizon l n04).m), .int .i64 ((fwdD n00 n01 n02 n03 horizon l n04).p), .int .i64 ((fwdD n00 n01 n02 n03 horizon l n04).e), .string ((fwdD n00 n01 n02 n03 horizon l n04).key), .string ((fwdD n00 n01 n02 n03 horizon l n04).to_), .int .i64 ((fwdD n00 n01 n02 n03 horizon l n04).conf.epoch), .slice ao_q6 (((fwdD n00 n01 n02 n03 horizon l n04).conf.members).length) cap_q6, .int .u64 ((fwdD n00 n01 n02 n03 horizon l n04).conf.floor : Int), .int .i64 ((fwdD n00 n01 n02 n03 horizon l n04).batch.client), .int .i64 ((fwdD n00 n01 n02 n03 horizon l n04).batch.req), .slice ao_q7 (((fwdD n00 n01 n02 n03 horizon l n04).batch.ops).length) cap_q7, .slice ao_q8 (((fwdD n00 n01 n02 n03 horizon l n04).entries).length) cap_q8, .slice ao_q9 (((fwdD n00 n01 n02 n03 horizon l n04).stamps).length) cap_q9, .slice ao_q10 (((fwdD n00 n01 n02 n03 horizon l n04).pairs).length) cap_q10]) (vv = .bool true))) (cond (Nat.blt jj 4) (vv = .bool true) (cond (Nat.blt jj 5) (vv = .agg #[.int .i64 ((ackP n00 n04 n01 n02 l).k), .int .i64 ((ackP n00 n04 n01 n02 l).epoch), .int .i64 ((ackP n00 n04 n01 n02 l).req), .int .i64 ((ackP n00 n04 n01 n02 l).serial), .bool ((ackP n00 n04 n01 n02 l).flag), .int .u64 ((ackP n00 n04 n01 n02 l).at_ : Int), .int .u64 ((ackP n00 n04 n01 n02 l).last : Int), .int .i64 ((ackP n00 n04 n01 n02 l).n), .int .i64 ((ackP n00 n04 n01 n02 l).m), .int .i64 ((ackP n00 n04 n01 n02 l).p), .int .i64 ((ackP n00 n04 n01 n02 l).e), .string ((ackP n00 n04 n01 n02 l).key), .string ((ackP n00 n04 n01 n02 l).to_), .int .i64 ((ackP n00 n04 n01 n02 l).conf.epoch), .slice ao_q11 (((ackP n00 n04 n01 n02 l).conf.members).length) cap_q11, .int .u64 ((ackP n00 n04 n01 n02 l).conf.floor : Int), .int .i64 ((ackP n00 n04 n01 n02 l).batch.client), .int .i64 ((ackP n00 n04 n01 n02 l).batch.req), .slice ao_q12 (((ackP n00 n04 n01 n02 l).batch.ops).length) cap_q12, .slice ao_q13 (((ackP n00 n04 n01 n02 l).entries).length) cap_q13, .slice ao_q14 (((ackP n00 n04 n01 n02 l).stamps).length) cap_q14, .slice ao_q15 (((ackP n00 n04 n01 n02 l).pairs).length) cap_q15]) (vv = .agg #[.int .i64 ((ackD n00 n04 n01 n02 l).k), .int .i64 ((ackD n00 n04 n01 n02 l).epoch), .int .i64 ((ackD n00 n04 n01 n02 l).req), .int .i64 ((ackD n00 n04 n01 n02 l).serial), .bool ((ackD n00 n04 n01 n02 l).flag), .int .u64 ((ackD n00 n04 n01 n02 l).at_ : Int), .int .u64 ((ackD n00 n04 n01 n02 l).last : Int), .int .i64 ((ackD n00 n04 n01 n02 l).n), .int .i64 ((ackD n00 n04 n01 n02 l).m), .int .i64 ((ackD n00 n04 n01 n02 l).p), .int .i64 ((ackD n00 n04 n01 n02 l).e), .string ((ackD n00 n04 n01 n02 l).key), .string ((ackD n00 n04 n01 n02 l).to_), .int .i64 ((ackD n00 n04 n01 n02 l).conf.epoch), .slice ao_q16 (((ackD n00 n04 n01 n02 l).conf.members).length) cap_q16, .int .u64 ((ackD n00 n04 n01 n02 l).conf.floor : Int), .int .i64 ((ackD n00 n04 n01 n02 l).batch.client), .int .i64 ((ackD n00 n04 n01 n02 l).batch.req), .slice ao_q17 (((ackD n00 n04 n01 n02 l).batch.ops).length) cap_q17, .slice ao_q18 (((ackD n00 n04 n01 n02 l).entries).length) cap_q18, .slice ao_q19 (((ackD n00 n04 n01 n02 l).stamps).length) cap_q19, .slice ao_q20 (((ackD n00 n04 n01 n02 l).pairs).length) cap_q20])))) (cond (Nat.blt jj 9) (cond (Nat.blt jj 7) (vv = .bool true) (cond (Nat.blt jj 8) (vv = .bool true) (vv = .bool true))) (cond (Nat.blt jj 11) (cond (Nat.blt jj 10) (vv = .slice ao_v_l l.length cap_v_l) (vv = .pointer (some ⟨b1, 4, none⟩))) (cond (Nat.blt jj 12) (vv = .int .i64 n04) (vv = .agg #[.int .i64 x.k, .int .i64 x.epoch, .int .i64 x.req, .int .i64 x.serial, .bool x.flag, .int .u64 (x.at_ : Int), .int .u64 (x.last : Int), .int .i64 x.n, .int .i64 x.m, .int .i64 x.p, .int .i64 x.e, .string x.key, .string x.to_, .int .i64 x.conf.epoch, .slice ao_v0_x x.conf.members.length cap_v0_x, .int .u64 (x.conf.floor : Int), .int .i64 x.batch.client, .int .i64 x.batch.req, .slice ao_v1_x x.batch.ops.length cap_v1_x, .slice ao_v2_x x.entries.length cap_v2_x, .slice ao_v3_x x.stamps.length cap_v3_x, .slice ao_v4_x x.pairs.length cap_v4_x]))))) (cond (Nat.blt jj 20) (cond (Nat.blt jj 16) (cond (Nat.blt jj 14) (vv = .slice (aoOf vv) ((learnP l n04 x).length) (capOf vv) ∧ (learnP l n04 x).length ≤ capOf vv ∧ capOf vv ≤ maxLen) (cond (Nat.blt jj 15) (vv = .slice ao_v_l l.length cap_v_l) (vv = .pointer (some ⟨b1, 4, none⟩)))) (cond (Nat.blt jj 18) (cond (Nat.blt jj 17) (vv = .int .i64 n04) (vv = .agg #[.int .i64 x.k, .int .i64 x.epoch, .int .i64 x.req, .int .i64 x.serial, .bool x.flag, .int .u64 (x.at_ : Int), .int .u64 (x.last : Int), .int .i64 x.n, .int .i64 x.m, .int .i64 x.p, .int .i64 x.e, .string x.key, .string x.to_, .int .i64 x.conf.epoch, .slice ao_v0_x x.conf.members.length cap_v0_x, .int .u64 (x.conf.floor : Int), .int .i64 x.batch.client, .int .i64 x.batch.req, .slice ao_v1_x x.batch.ops.length cap_v1_x, .slice ao_v2_x x.entries.length cap_v2_x, .slice ao_v3_x x.stamps.length cap_v3_x, .slice ao_v4_x x.pairs.length cap_v4_x])) (cond (Nat.blt jj 19) (vv = .slice (aoOf vv) ((learnL l n04 x).length) (capOf vv) ∧ (learnL l n04 x).length ≤ capOf vv ∧ capOf vv ≤ maxLen) (vv = .bool true)))) (cond (Nat.blt jj 23) (cond (Nat.blt jj 21) (vv = .bool true) (cond (Nat.blt jj 22) (vv = .bool true) (vv = .pointer (some ⟨b1, 0, none⟩)))) (cond (Nat.blt jj 25) (cond (Nat.blt jj 24) (vv = .int .i64 n00) (vv = .pointer (some ⟨b1, 1, none⟩))) (cond (Nat.blt jj 26) (vv = .int .i64 n01) (vv = .bool tail)))))) (cond (Nat.blt jj 41) (cond (Nat.blt jj 34) (cond (Nat.blt jj 30) (cond (Nat.blt jj 28) (vv = .pointer (some ⟨b1, 2, none⟩)) (cond (Nat.blt jj 29) (vv = .int .i64 n02) (vv = .int .i64 (if tail = true then max (min n00 n01) 0 else max (min (min n00 n01) n02) 0)))) (cond (Nat.blt jj 32) (cond (Nat.blt jj 31) (vv = .pointer (some ⟨b1, 0, none⟩)) (vv = .int .i64 n00)) (cond (Nat.blt jj 33) (vv = .pointer (some ⟨b1, 1, none⟩)) (vv = .int .i64 n01)))) (cond (Nat.blt jj 37) (cond (Nat.blt jj 35) (vv = .bool tail) (cond (Nat.blt jj 36) (vv = .pointer (some ⟨b1, 2, none⟩)) (vv = .int .i64 n02))) (cond (Nat.blt jj 39) (cond (Nat.blt jj 38) (vv = .int .i64 (if tail = true then max (min n00 n01) 0 else max (min (min n00 n01) n02) 0)) (vv = .bool true)) (cond (Nat.blt jj 40) (vv = .bool true) (vv = .bool true))))) (cond (Nat.blt jj 48) (cond (Nat.blt jj 44) (cond (Nat.blt jj 42) (vv = .agg #[.int .i64 x.k, .int .i64 x.epoch, .int .i64 x.req, .int .i64 x.serial, .bool x.flag, .int .u64 (x.at_ : Int), .int .u64 (x.last : Int), .int .i64 x.n, .int .i64 x.m, .int .i64 x.p, .int .i64 x.e, .string x.key, .string x.to_, .int .i64 x.conf.epoch, .slice ao_v0_x x.conf.members.length cap_v0_x, .int .u64 (x.conf.floor : Int), .int .i64 x.batch.client, .int .i64 x.batch.req, .slice ao_v1_x x.batch.ops.length cap_v1_x, .slice ao_v2_x x.entries.length cap_v2_x, .slice ao_v3_x x.stamps.length cap_v3_x, .slice ao_v4_x x.pairs.length cap_v4_x]) (cond (Nat.blt jj 43) (vv = .pointer (some ⟨b1, 4, none⟩)) (vv = .int .i64 n04))) (cond (Nat.blt jj 46) (cond (Nat.blt jj 45) (vv = .int .i64 (max (min x.n n04) 0)) (vv = .agg #[.int .i64 x.k, .int .i64 x.epoch, .int .i64 x.req, .int .i64 x.serial, .bool x.flag, .int .u64 (x.at_ : Int), .int .u64 (x.last : Int), .int .i64 x.n, .int .i64 x.m, .int .i64 x.p, .int .i64 x.e, .string x.key, .string x.to_, .int .i64 x.conf.epoch, .slice ao_v0_x x.conf.members.length cap_v0_x, .int .u64 (x.conf.floor : Int), .int .i64 x.batch.client, .int .i64 x.batch.req, .slice ao_v1_x x.batch.ops.length cap_v1_x, .slice ao_v2_x x.entries.length cap_v2_x, .slice ao_v3_x x.stamps.length cap_v3_x, .slice ao_v4_x x.pairs.length cap_v4_x])) (cond (Nat.blt jj 47) (vv = .pointer (some ⟨b1, 4, none⟩)) (vv = .int .i64 n04)))) (cond (Nat.blt jj 51) (cond (Nat.blt jj 49) (vv = .int .i64 (max (min x.n n04) 0)) (cond (Nat.blt jj 50) (vv = .bool true) (vv = .bool true))) (cond (Nat.blt jj 53) (cond (Nat.blt jj 52) (vv = .bool true) (vv = .bool true)) (cond (Nat.blt jj 54) (vv = .bool true) (vv = .bool true))))))) (fun ss vals1 xw => match ss with | 0 => Gx I NoD w I4 w16 xw [BxC b6 37 [.int .i64 ((ackD n00 n04 n01 n02 l).k), .int .i64 ((ackD n00 n04 n01 n02 l).epoch), .int .i64 ((ackD n00 n04 n01 n02 l).req), .int .i64 ((ackD n00 n04 n01 n02 l).serial), .bool ((ackD n00 n04 n01 n02 l).flag), .int .u64 ((ackD n00 n04 n01 n02 l).at_ : Int), .int .u64 ((ackD n00 n04 n01 n02 l).last : Int), .int .i64 ((ackD n00 n04 n01 n02 l).n), .int .i64 ((ackD n00 n04 n01 n02 l).m), .int .i64 ((ackD n00 n04 n01 n02 l).p), .int .i64 ((ackD n00 n04 n01 n02 l).e), .string ((ackD n00 n04 n01 n02 l).key), .string ((ackD n00 n04 n01 n02 l).to_), .int .i64 ((ackD n00 n04 n01 n02 l).conf.epoch), .slice ao_q16 (((ackD n00 n04 n01 n02 l).conf.members).length) cap_q16, .int .u64 ((ackD n00 n04 n01 n02 l).conf.floor : Int), .int .i64 ((ackD n00 n04 n01 n02 l).batch.client), .int .i64 ((ackD n00 n04 n01 n02 l).batch.req), .slice ao_q17 (((ackD n00 n04 n01 n02 l).batch.ops).length) cap_q17, .slice ao_q18 (((ackD n00 n04 n01 n02 l).entries).length) cap_q18, .slice ao_q19 (((ackD n00 n04 n01 n02 l).stamps).length) cap_q19, .slice ao_q20 (((ackD n00 n04 n01 n02 l).pairs).length) cap_q20], SlC RDPair (.slice ao_q20 (((ackD n00 n04 n01 n02 l).pairs).length) cap_q20) ((ackD n00 n04 n01 n02 l).pairs), SlC RU (.slice ao_q19 (((ackD n00 n04 n01 n02 l).stamps).length) cap_q19) ((ackD n00 n04 n01 n02 l).stamps), SlC RDEntry (.slice ao_q18 (((ackD n00 n04 n01 n02 l).entries).length) cap_q18) ((ackD n00 n04 n01 n02 l).entries), SlC RDOp (.slice ao_q17 (((ackD n00 n04 n01 n02 l).batch.ops).length) cap_q17) ((ackD n00 n04 n01 n02 l).batch.ops), SlC RDMember (.slice ao_q16 (((ackD n00 n04 n01 n02 l).conf.members).length) cap_q16) ((ackD n00 n04 n01 n02 l).conf.members), BxC b5 37 [.int .i64 ((ackP n00 n04 n01 n02 l).k), .int .i64 ((ackP n00 n04 n01 n02 l).epoch), .int .i64 ((ackP n00 n04 n01 n02 l).req), .int .i64 ((ackP n00 n04 n01 n02 l).serial), .bool ((ackP n00 n04 n01 n02 l).flag), .int .u64 ((ackP n00 n04 n01 n02 l).at_ : Int), .int .u64 ((ackP n00 n04 n01 n02 l).last : Int), .int .i64 ((ackP n00 n04 n01 n02 l).n), .int .i64 ((ackP n00 n04 n01 n02 l).m), .int .i64 ((ackP n00 n04 n01 n02 l).p), .int .i64 ((ackP n00 n04 n01 n02 l).e), .string ((ackP n00 n04 n01 n02 l).key), .string ((ackP n00 n04 n01 n02 l).to_), .int .i64 ((ackP n00 n04 n01 n02 l).conf.epoch), .slice ao_q11 (((ackP n00 n04 n01 n02 l).conf.members).length) cap_q11, .int .u64 ((ackP n00 n04 n01 n02 l).conf.floor : Int), .int .i64 ((ackP n00 n04 n01 n02 l).batch.client), .int .i64 ((ackP n00 n04 n01 n02 l).batch.req), .slice ao_q12 (((ackP n00 n04 n01 n02 l).batch.ops).length) cap_q12, .slice ao_q13 (((ackP n00 n04 n01 n02 l).entries).length) cap_q13, .slice ao_q14 (((ackP n00 n04 n01 n02 l).stamps).length) cap_q14, .slice ao_q15 (((ackP n00 n04 n01 n02 l).pairs).length) cap_q15], SlC RDPair (.slice ao_q15 (((ackP n00 n04 n01 n02 l).pairs).length) cap_q15) ((ackP n00 n04 n01 n02 l).pairs), SlC RU (.slice ao_q14 (((ackP n00 n04 n01 n02 l).stamps).length) cap_q14) ((ackP n00 n04 n01 n02 l).stamps), SlC RDEntry (.slice ao_q13 (((ackP n00 n04 n01 n02 l).entries).length) cap_q13) ((ackP n00 n04 n01 n02 l).entries), SlC RDOp (.slice ao_q12 (((ackP n00 n04 n01 n02 l).batch.ops).length) cap_q12) ((ackP n00 n04 n01 n02 l).batch.ops), SlC RDMember (.slice ao_q11 (((ackP n00 n04 n01 n02 l).conf.members).length) cap_q11) ((ackP n00 n04 n01 n02 l).conf.members), BxC b4 37 [.int .i64 ((fwdD n00 n01 n02 n03 horizon l n04).k), .int .i64 ((fwdD n00 n01 n02 n03 horizon l n04).epoch), .int .i64 ((fwdD n00 n01 n02 n03 horizon l n04).req), .int .i64 ((fwdD n00 n01 n02 n03 horizon l n04).serial), .bool ((fwdD n00 n01 n02 n03 horizon l n04).flag), .int .u64 ((fwdD n00 n01 n02 n03 horizon l n04).at_ : Int), .int .u64 ((fwdD n00 n01 n02 n03 horizon l n04).last : Int), .int .i64 ((fwdD n00 n01 n02 n03 horizon l n04).n), .int .i64 ((fwdD n00 n01 n02 n03 horizon l n04).m), .int .i64 ((fwdD n00 n01 n02 n03 horizon l n04).p), .int .i64 ((fwdD n00 n01 n02 n03 horizon l n04).e), .string ((fwdD n00 n01 n02 n03 horizon l n04).key), .string ((fwdD n00 n01 n02 n03 horizon l n04).to_), .int .i64 ((fwdD n00 n01 n02 n03 horizon l n04).conf.epoch), .slice ao_q6 (((fwdD n00 n01 n02 n03 horizon l n04).conf.members).length) cap_q6, .int .u64 ((fwdD n00 n01 n02 n03 horizon l n04).conf.floor : Int), .int .i64 ((fwdD n00 n01 n02 n03 horizon l n04).batch.client), .int .i64 ((fwdD n00 n01 n02 n03 horizon l n04).batch.req), .slice ao_q7 (((fwdD n00 n01 n02 n03 horizon l n04).batch.ops).length) cap_q7, .slice ao_q8 (((fwdD n00 n01 n02 n03 horizon l n04).entries).length) cap_q8, .slice ao_q9 (((fwdD n00 n01 n02 n03 horizon l n04).stamps).length) cap_q9, .slice ao_q10 (((fwdD n00 n01 n02 n03 horizon l n04).pairs).length) cap_q10], SlC RDPair (.slice ao_q10 (((fwdD n00 n01 n02 n03 horizon l n04).pairs).length) cap_q10) ((fwdD n00 n01 n02 n03 horizon l n04).pairs), SlC RU (.slice ao_q9 (((fwdD n00 n01 n02 n03 horizon l n04).stamps).length) cap_q9) ((fwdD n00 n01 n02 n03 horizon l n04).stamps), SlC RDEntry (.slice ao_q8 (((fwdD n00 n01 n02 n03 horizon l n04).entries).length) cap_q8) ((fwdD n00 n01 n02 n03 horizon l n04).entries), SlC RDOp (.slice ao_q7 (((fwdD n00 n01 n02 n03 horizon l n04).batch.ops).length) cap_q7) ((fwdD n00 n01 n02 n03 horizon l n04).batch.ops), SlC RDMember (.slice ao_q6 (((fwdD n00 n01 n02 n03 horizon l n04).conf.members).length) cap_q6) ((fwdD n00 n01 n02 n03 horizon l n04).conf.members), BxC b3 37 [.int .i64 ((fwdP n00 n01 n02 n03 horizon l n04).k), .int .i64 ((fwdP n00 n01 n02 n03 horizon l n04).epoch), .int .i64 ((fwdP n00 n01 n02 n03 horizon l n04).req), .int .i64 ((fwdP n00 n01 n02 n03 horizon l n04).serial), .bool ((fwdP n00 n01 n02 n03 horizon l n04).flag), .int .u64 ((fwdP n00 n01 n02 n03 horizon l n04).at_ : Int), .int .u64 ((fwdP n00 n01 n02 n03 horizon l n04).last : Int), .int .i64 ((fwdP n00 n01 n02 n03 horizon l n04).n), .int .i64 ((fwdP n00 n01 n02 n03 horizon l n04).m), .int .i64 ((fwdP n00 n01 n02 n03 horizon l n04).p), .int .i64 ((fwdP n00 n01 n02 n03 horizon l n04).e), .string ((fwdP n00 n01 n02 n03 horizon l n04).key), .string ((fwdP n00 n01 n02 n03 horizon l n04).to_), .int .i64 ((fwdP n00 n01 n02 n03 horizon l n04).conf.epoch), .slice ao_q1 (((fwdP n00 n01 n02 n03 horizon l n04).conf.members).length) cap_q1, .int .u64 ((fwdP n00 n01 n02 n03 horizon l n04).conf.floor : Int), .int .i64 ((fwdP n00 n01 n02 n03 horizon l n04).batch.client), .int .i64 ((fwdP n00 n01 n02 n03 horizon l n04).batch.req), .slice ao_q2 (((fwdP n00 n01 n02 n03 horizon l n04).batch.ops).length) cap_q2, .slice ao_q3 (((fwdP n00 n01 n02 n03 horizon l n04).entries).length) cap_q3, .slice ao_q4 (((fwdP n00 n01 n02 n03 horizon l n04).stamps).length) cap_q4, .slice ao_q5 (((fwdP n00 n01 n02 n03 horizon l n04).pairs).length) cap_q5], SlC RDPair (.slice ao_q5 (((fwdP n00 n01 n02 n03 horizon l n04).pairs).length) cap_q5) ((fwdP n00 n01 n02 n03 horizon l n04).pairs), SlC RU (.slice ao_q4 (((fwdP n00 n01 n02 n03 horizon l n04).stamps).length) cap_q4) ((fwdP n00 n01 n02 n03 horizon l n04).stamps), SlC RDEntry (.slice ao_q3 (((fwdP n00 n01 n02 n03 horizon l n04).entries).length) cap_q3) ((fwdP n00 n01 n02 n03 horizon l n04).entries), SlC RDOp (.slice ao_q2 (((fwdP n00 n01 n02 n03 horizon l n04).batch.ops).length) cap_q2) ((fwdP n00 n01 n02 n03 horizon l n04).batch.ops), SlC RDMember (.slice ao_q1 (((fwdP n00 n01 n02 n03 horizon l n04).conf.members).length) cap_q1) ((fwdP n00 n01 n02 n03 horizon l n04).conf.members), BxC b2 37 [.int .i64 x.k, .int .i64 x.epoch, .int .i64 x.req, .int .i64 x.serial, .bool x.flag, .int .u64 (x.at_ : Int), .int .u64 (x.last : Int), .int .i64 x.n, .int .i64 x.m, .int .i64 x.p, .int .i64 x.e, .string x.key, .string x.to_, .int .i64 x.conf.epoch, .slice ao_v0_x x.conf.members.length cap_v0_x, .int .u64 (x.conf.floor : Int), .int .i64 x.batch.client, .int .i64 x.batch.req, .slice ao_v1_x x.batch.ops.length cap_v1_x, .slice ao_v2_x x.entries.length cap_v2_x, .slice ao_v3_x x.stamps.length cap_v3_x, .slice ao_v4_x x.pairs.length cap_v4_x], BxC b1 42 [.int .i64 n00, .int .i64 n01, .int .i64 n02, .int .i64 n03, .int .i64 n04], SlC RDPair (.slice ao_v4_x x.pairs.length cap_v4_x) x.pairs, SlC RU (.slice ao_v3_x x.stamps.length cap_v3_x) x.stamps, SlC RDEntry (.slice ao_v2_x x.entries.length cap_v2_x) x.entries, SlC RDOp (.slice ao_v1_x x.batch.ops.length cap_v1_x) x.batch.ops, SlC RDMember (.slice ao_v0_x x.conf.members.length cap_v0_x) x.conf.members, SlC RDEntry (.slice ao_v_l l.length cap_v_l) l] | 1 => Gx I NoD w I4 w16 xw [SlC RDNote (.slice (aoOf (vals1 13)) ((learnP l n04 x).length) (capOf (vals1 13))) (learnP l n04 x), BxC b6 37 [.int .i64 ((ackD n00 n04 n01 n02 l).k), .int .i64 ((ackD n00 n04 n01 n02 l).epoch), .int .i64 ((ackD n00 n04 n01 n02 l).req), .int .i64 ((ackD n00 n04 n01 n02 l).serial), .bool ((ackD n00 n04 n01 n02 l).flag), .int .u64 ((ackD n00 n04 n01 n02 l).at_ : Int), .int .u64 ((ackD n00 n04 n01 n02 l).last : Int), .int .i64 ((ackD n00 n04 n01 n02 l).n), .int .i64 ((ackD n00 n04 n01 n02 l).m), .int .i64 ((ackD n00 n04 n01 n02 l).p), .int .i64 ((ackD n00 n04 n01 n02 l).e), .string ((ackD n00 n04 n01 n02 l).key), .string ((ackD n00 n04 n01 n02 l).to_), .int .i64 ((ackD n00 n04 n01 n02 l).conf.epoch), .slice ao_q16 (((ackD n00 n04 n01 n02 l).conf.members).length) cap_q16, .int .u64 ((ackD n00 n04 n01 n02 l).conf.floor : Int), .int .i64 ((ackD n00 n04 n01 n02 l).batch.client), .int .i64 ((ackD n00 n04 n01 n02 l).batch.req), .slice ao_q17 (((ackD n00 n04 n01 n02 l).batch.ops).length) cap_q17, .slice ao_q18 (((ackD n00 n04 n01 n02 l).entries).length) cap_q18, .slice ao_q19 (((ackD n00 n04 n01 n02 l).stamps).length) cap_q19, .slice ao_q20 (((ackD n00 n04 n01 n02 l).pairs).length) cap_q20], SlC RDPair (.slice ao_q20 (((ackD n00 n04 n01 n02 l).pairs).length) cap_q20) ((ackD n00 n04 n01 n02 l).pairs), SlC RU (.slice ao_q19 (((ackD n00 n04 n01 n02 l).stamps).length) cap_q19) ((ackD n00 n04 n01 n02 l).stamps), SlC RDEntry (.slice ao_q18 (((ackD n00 n04 n01 n02 l).entries).length) cap_q18) ((ackD n00 n04 n01 n02 l).entries), SlC RDOp (.slice ao_q17 (((ackD n00 n04 n01 n02 l).batch.ops).length) cap_q17) ((ackD n00 n04 n01 n02 l).batch.ops), SlC RDMember (.slice ao_q16 (((ackD n00 n04 n01 n02 l).conf.members).length) cap_q16) ((ackD n00 n04 n01 n02 l).conf.members), BxC b5 37 [.int .i64 ((ackP n00 n04 n01 n02 l).k), .int .i64 ((ackP n00 n04 n01 n02 l).epoch), .int .i64 ((ackP n00 n04 n01 n02 l).req), .int .i64 ((ackP n00 n04 n01 n02 l).serial), .bool ((ackP n00 n04 n01 n02 l).flag), .int .u64 ((ackP n00 n04 n01 n02 l).at_ : Int), .int .u64 ((ackP n00 n04 n01 n02 l).last : Int), .int .i64 ((ackP n00 n04 n01 n02 l).n), .int .i64 ((ackP n00 n04 n01 n02 l).m), .int .i64 ((ackP n00 n04 n01 n02 l).p), .int .i64 ((ackP n00 n04 n01 n02 l).e), .string ((ackP n00 n04 n01 n02 l).key), .string ((ackP n00 n04 n01 n02 l).to_), .int .i64 ((ackP n00 n04 n01 n02 l).conf.epoch), .slice ao_q11 (((ackP n00 n04 n01 n02 l).conf.members).length) cap_q11, .int .u64 ((ackP n00 n04 n01 n02 l).conf.floor : Int), .int .i64 ((ackP n00 n04 n01 n02 l).batch.client), .int .i64 ((ackP n00 n04 n01 n02 l).batch.req), .slice ao_q12 (((ackP n00 n04 n01 n02 l).batch.ops).length) cap_q12, .slice ao_q13 (((ackP n00 n04 n01 n02 l).entries).length) cap_q13, .slice ao_q14 (((ackP n00 n04 n01 n02 l).stamps).length) cap_q14, .slice ao_q15 (((ackP n00 n04 n01 n02 l).pairs).length) cap_q15], SlC RDPair (.slice ao_q15 (((ackP n00 n04 n01 n02 l).pairs).length) cap_q15) ((ackP n00 n04 n01 n02 l).pairs), SlC RU (.slice ao_q14 (((ackP n00 n04 n01 n02 l).stamps).length) cap_q14) ((ackP n00 n04 n01 n02 l).stamps), SlC RDEntry (.slice ao_q13 (((ackP n00 n04 n01 n02 l).entries).length) cap_q13) ((ackP n00 n04 n01 n02 l).entries), SlC RDOp (.slice ao_q12 (((ackP n00 n04 n01 n02 l).batch.ops).length) cap_q12) ((ackP n00 n04 n01 n02 l).batch.ops), SlC RDMember (.slice ao_q11 (((ackP n00 n04 n01 n02 l).conf.members).length) cap_q11) ((ackP n00 n04 n01 n02 l).conf.members), BxC b4 37 [.int .i64 ((fwdD n00 n01 n02 n03 horizon l n04).k), .int .i64 ((fwdD n00 n01 n02 n03 horizon l n04).epoch), .int .i64 ((fwdD n00 n01 n02 n03 horizon l n04).req), .int .i64 ((fwdD n00 n01 n02 n03 horizon l n04).serial), .bool ((fwdD n00 n01 n02 n03 horizon l n04).flag), .int .u64 ((fwdD n00 n01 n02 n03 horizon l n04).at_ : Int), .int .u64 ((fwdD n00 n01 n02 n03 horizon l n04).last : Int), .int .i64 ((fwdD n00 n01 n02 n03 horizon l n04).n), .int .i64 ((fwdD n00 n01 n02 n03 horizon l n04).m), .int .i64 ((fwdD n00 n01 n02 n03 horizon l n04).p), .int .i64 ((fwdD n00 n01 n02 n03 horizon l n04).e), .string ((fwdD n00 n01 n02 n03 horizon l n04).key), .string ((fwdD n00 n01 n02 n03 horizon l n04).to_), .int .i64 ((fwdD n00 n01 n02 n03 horizon l n04).conf.epoch), .slice ao_q6 (((fwdD n00 n01 n02 n03 horizon l n04).conf.members).length) cap_q6, .int .u64 ((fwdD n00 n01 n02 n03 horizon l n04).conf.floor : Int), .int .i64 ((fwdD n00 n01 n02 n03 horizon l n04).batch.client), .int .i64 ((fwdD n00 n01 n02 n03 horizon l n04).batch.req), .slice ao_q7 (((fwdD n00 n01 n02 n03 horizon l n04).batch.ops).length) cap_q7, .slice ao_q8 (((fwdD n00 n01 n02 n03 horizon l n04).entries).length) cap_q8, .slice ao_q9 (((fwdD n00 n01 n02 n03 horizon l n04).stamps).length) cap_q9, .slice ao_q10 (((fwdD n00 n01 n02 n03 horizon l n04).pairs).length) cap_q10], SlC RDPair (.slice ao_q10 (((fwdD n00 n01 n02 n03 horizon l n04).pairs).length) cap_q10) ((fwdD n00 n01 n02 n03 horizon l n04).pairs), SlC RU (.slice ao_q9 (((fwdD n00 n01 n02 n03 horizon l n04).stamps).length) cap_q9) ((fwdD n00 n01 n02 n03 horizon l n04).stamps), SlC RDEntry (.slice ao_q8 (((fwdD n00 n01 n02 n03 horizon l n04).entries).length) cap_q8) ((fwdD n00 n01 n02 n03 horizon l n04).entries), SlC RDOp (.slice ao_q7 (((fwdD n00 n01 n02 n03 horizon l n04).batch.ops).length) cap_q7) ((fwdD n00 n01 n02 n03 horizon l n04).batch.ops), SlC RDMember (.slice ao_q6 (((fwdD n00 n01 n02 n03 horizon l n04).conf.members).length) cap_q6) ((fwdD n00 n01 n02 n03 horizon l n04).conf.members), BxC b3 37 [.int .i64 ((fwdP n00 n01 n02 n03 horizon l n04).k), .int .i64 ((fwdP n00 n01 n02 n03 horizon l n04).epoch), .int .i64 ((fwdP n00 n01 n02 n03 horizon l n04).req), .int .i64 ((fwdP n00 n01 n02 n03 horizon l n04).serial), .bool ((fwdP n00 n01 n02 n03 horizon l n04).flag), .int .u64 ((fwdP n00 n01 n02 n03 horizon l n04).at_ : Int), .int .u64 ((fwdP n00 n01 n02 n03 horizon l n04).last : Int), .int .i64 ((fwdP n00 n01 n02 n03 horizon l n04).n), .int .i64 ((fwdP n00 n01 n02 n03 horizon l n04).m), .int .i64 ((fwdP n00 n01 n02 n03 horizon l n04).p), .int .i64 ((fwdP n00 n01 n02 n03 horizon l n04).e), .string ((fwdP n00 n01 n02 n03 horizon l n04).key), .string ((fwdP n00 n01 n02 n03 horizon l n04).to_), .int .i64 ((fwdP n00 n01 n02 n03 horizon l n04).conf.epoch), .slice ao_q1 (((fwdP n00 n01 n02 n03 horizon l n04).conf.members).length) cap_q1, .int .u64 ((fwdP n00 n01 n02 n03 horizon l n04).conf.floor : Int), .int .i64 ((fwdP n00 n01 n02 n03 horizon l n04).batch.client), .int .i64 ((fwdP n00 n01 n02 n03 horizon l n04).batch.req), .slice ao_q2 (((fwdP n00 n01 n02 n03 horizon l n04).batch.ops).length) cap_q2, .slice ao_q3 (((fwdP n00 n01 n02 n03 horizon l n04).entries).length) cap_q3, .slice ao_q4 (((fwdP n00 n01 n02 n03 horizon l n04).stamps).length) cap_q4, .slice ao_q5 (((fwdP n00 n01 n02 n03 horizon l n04).pairs).length) cap_q5], SlC RDPair (.slice ao_q5 (((fwdP n00 n01 n02 n03 horizon l n04).pairs).length) cap_q5) ((fwdP n00 n01 n02 n03 horizon l n04).pairs), SlC RU (.slice ao_q4 (((fwdP n00 n01 n02 n03 horizon l n04).stamps).length) cap_q4) ((fwdP n00 n01 n02 n03 horizon l n04).stamps), SlC RDEntry (.slice ao_q3 (((fwdP n00 n01 n02 n03 horizon l n04).entries).length) cap_q3) ((fwdP n00 n01 n02 n03 horizon l n04).entries), SlC RDOp (.slice ao_q2 (((fwdP n00 n01 n02 n03 horizon l n04).batch.ops).length) cap_q2) ((fwdP n00 n01 n02 n03 horizon l n04).batch.ops), SlC RDMember (.slice ao_q1 (((fwdP n00 n01 n02 n03 horizon l n04).conf.members).length) cap_q1) ((fwdP n00 n01 n02 n03 horizon l n04).conf.members), BxC b2 37 [.int .i64 x.k, .int .i64 x.epoch, .int .i64 x.req, .int .i64 x.serial, .bool x.flag, .int .u64 (x.at_ : Int), .int .u64 (x.last : Int), .int .i64 x.n, .int .i64 x.m, .int .i64 x.p, .int .i64 x.e, .string x.key, .string x.to_, .int .i64 x.conf.epoch, .slice ao_v0_x x.conf.members.length cap_v0_x, .int .u64 (x.conf.floor : Int), .int .i64 x.batch.client, .int .i64 x.batch.req, .slice ao_v1_x x.batch.ops.length cap_v1_x, .slice ao_v2_x x.entries.length cap_v2_x, .slice ao_v3_x x.stamps.length cap_v3_x, .slice ao_v4_x x.pairs.length cap_v4_x], BxC b1 42 [.int .i64 n00, .int .i64 n01, .int .i64 n02, .int .i64 n03, .int .i64 n04], SlC RDPair (.slice ao_v4_x x.pairs.length cap_v4_x) x.pairs, SlC RU (.slice ao_v3_x x.stamps.length cap_v3_x) x.stamps, SlC RDEntry (.slice ao_v2_x x.entries.length cap_v2_x) x.entries, SlC RDOp (.slice ao_v1_x x.batch.ops.length cap_v1_x) x.batch.ops, SlC RDMember (.slice ao_v0_x x.conf.members.length cap_v0_x) x.conf.members, SlC RDEntry (.slice ao_v_l l.length cap_v_l) l] | _ => Gx I NoD w I4 w16 xw [SlC RDNote (.slice (aoOf (vals1 18)) ((learnL l n04 x).length) (capOf (vals1 18))) (learnL l n04 x), SlC RDNote (.slice (aoOf (vals1 13)) ((learnP l n04 x).length) (capOf (vals1 13))) (learnP l n04 x), BxC b6 37 [.int .i64 ((ackD n00 n04 n01 n02 l).k), .int .i64 ((ackD n00 n04 n01 n02 l).epoch), .int .i64 ((ackD n00 n04 n01 n02 l).req), .int .i64 ((ackD n00 n04 n01 n02 l).serial), .bool ((ackD n00 n04 n01 n02 l).flag), .int .u64 ((ackD n00 n04 n01 n02 l).at_ : Int), .int .u64 ((ackD n00 n04 n01 n02 l).last : Int), .int .i64 ((ackD n00 n04 n01 n02 l).n), .int .i64 ((ackD n00 n04 n01 n02 l).m), .int .i64 ((ackD n00 n04 n01 n02 l).p), .int .i64 ((ackD n00 n04 n01 n02 l).e), .string ((ackD n00 n04 n01 n02 l).key), .string ((ackD n00 n04 n01 n02 l).to_), .int .i64 ((ackD n00 n04 n01 n02 l).conf.epoch), .slice ao_q16 (((ackD n00 n04 n01 n02 l).conf.members).length) cap_q16, .int .u64 ((ackD n00 n04 n01 n02 l).conf.floor : Int), .int .i64 ((ackD n00 n04 n01 n02 l).batch.client), .int .i64 ((ackD n00 n04 n01 n02 l).batch.req), .slice ao_q17 (((ackD n00 n04 n01 n02 l).batch.ops).length) cap_q17, .slice ao_q18 (((ackD n00 n04 n01 n02 l).entries).length) cap_q18, .slice ao_q19 (((ackD n00 n04 n01 n02 l).stamps).length) cap_q19, .slice ao_q20 (((ackD n00 n04 n01 n02 l).pairs).length) cap_q20], SlC RDPair (.slice ao_q20 (((ackD n00 n04 n01 n02 l).pairs).length) cap_q20) ((ackD n00 n04 n01 n02 l).pairs), SlC RU (.slice ao_q19 (((ackD n00 n04 n01 n02 l).stamps).length) cap_q19) ((ackD n00 n04 n01 n02 l).stamps), SlC RDEntry (.slice ao_q18 (((ackD n00 n04 n01 n02 l).entries).length) cap_q18) ((ackD n00 n04 n01 n02 l).entries), SlC RDOp (.slice ao_q17 (((ackD n00 n04 n01 n02 l).batch.ops).length) cap_q17) ((ackD n00 n04 n01 n02 l).batch.ops), SlC RDMember (.slice ao_q16 (((ackD n00 n04 n01 n02 l).conf.members).length) cap_q16) ((ackD n00 n04 n01 n02 l).conf.members), BxC b5 37 [.int .i64 ((ackP n00 n04 n01 n02 l).k), .int .i64 ((ackP n00 n04 n01 n02 l).epoch), .int .i64 ((ackP n00 n04 n01 n02 l).req), .int .i64 ((ackP n00 n04 n01 n02 l).serial), .bool ((ackP n00 n04 n01 n02 l).flag), .int .u64 ((ackP n00 n04 n01 n02 l).at_ : Int), .int .u64 ((ackP n00 n04 n01 n02 l).last : Int), .int .i64 ((ackP n00 n04 n01 n02 l).n), .int .i64 ((ackP n00 n04 n01 n02 l).m), .int .i64 ((ackP n00 n04 n01 n02 l).p), .int .i64 ((ackP n00 n04 n01 n02 l).e), .string ((ackP n00 n04 n01 n02 l).key), .string ((ackP n00 n04 n01 n02 l).to_), .int .i64 ((ackP n00 n04 n01 n02 l).conf.epoch), .slice ao_q11 (((ackP n00 n04 n01 n02 l).conf.members).length) cap_q11, .int .u64 ((ackP n00 n04 n01 n02 l).conf.floor : Int), .int .i64 ((ackP n00 n04 n01 n02 l).batch.client), .int .i64 ((ackP n00 n04 n01 n02 l).batch.req), .slice ao_q12 (((ackP n00 n04 n01 n02 l).batch.ops).length) cap_q12, .slice ao_q13 (((ackP n00 n04 n01 n02 l).entries).length) cap_q13, .slice ao_q14 (((ackP n00 n04 n01 n02 l).stamps).length) cap_q14, .slice ao_q15 (((ackP n00 n04 n01 n02 l).pairs).length) cap_q15], SlC RDPair (.slice ao_q15 (((ackP n00 n04 n01 n02 l).pairs).length) cap_q15) ((ackP n00 n04 n01 n02 l).pairs), SlC RU (.slice ao_q14 (((ackP n00 n04 n01 n02 l).stamps).length) cap_q14) ((ackP n00 n04 n01 n02 l).stamps), SlC RDEntry (.slice ao_q13 (((ackP n00 n04 n01 n02 l).entries).length) cap_q13) ((ackP n00 n04 n01 n02 l).entries), SlC RDOp (.slice ao_q12 (((ackP n00 n04 n01 n02 l).batch.ops).length) cap_q12) ((ackP n00 n04 n01 n02 l).batch.ops), SlC RDMember (.slice ao_q11 (((ackP n00 n04 n01 n02 l).conf.members).length) cap_q11) ((ackP n00 n04 n01 n02 l).conf.members), BxC b4 37 [.int .i64 ((fwdD n00 n01 n02 n03 horizon l n04).k), .int .i64 ((fwdD n00 n01 n02 n03 horizon l n04).epoch), .int .i64 ((fwdD n00 n01 n02 n03 horizon l n04).req), .int .i64 ((fwdD n00 n01 n02 n03 horizon l n04).serial), .bool ((fwdD n00 n01 n02 n03 horizon l n04).flag), .int .u64 ((fwdD n00 n01 n02 n03 horizon l n04).at_ : Int), .int .u64 ((fwdD n00 n01 n02 n03 horizon l n04).last : Int), .int .i64 ((fwdD n00 n01 n02 n03 horizon l n04).n), .int .i64 ((fwdD n00 n01 n02 n03 horizon l n04).m), .int .i64 ((fwdD n00 n01 n02 n03 horizon l n04).p), .int .i64 ((fwdD n00 n01 n02 n03 horizon l n04).e), .string ((fwdD n00 n01 n02 n03 horizon l n04).key), .string ((fwdD n00 n01 n02 n03 horizon l n04).to_), .int .i64 ((fwdD n00 n01 n02 n03 horizon l n04).conf.epoch), .slice ao_q6 (((fwdD n00 n01 n02 n03 horizon l n04).conf.members).length) cap_q6, .int .u64 ((fwdD n00 n01 n02 n03 horizon l n04).conf.floor : Int), .int .i64 ((fwdD n00 n01 n02 n03 horizon l n04).batch.client), .int .i64 ((fwdD n00 n01 n02 n03 horizon l n04).batch.req), .slice ao_q7 (((fwdD n00 n01 n02 n03 horizon l n04).batch.ops).length) cap_q7, .slice ao_q8 (((fwdD n00 n01 n02 n03 horizon l n04).entries).length) cap_q8, .slice ao_q9 (((fwdD n00 n01 n02 n03 horizon l n04).stamps).length) cap_q9, .slice ao_q10 (((fwdD n00 n01 n02 n03 horizon l n04).pairs).length) cap_q10], SlC RDPair (.slice ao_q10 (((fwdD n00 n01 n02 n03 horizon l n04).pairs).length) cap_q10) ((fwdD n00 n01 n02 n03 horizon l n04).pairs), SlC RU (.slice ao_q9 (((fwdD n00 n01 n02 n03 horizon l n04).stamps).length) cap_q9) ((fwdD n00 n01 n02 n03 horizon l n04).stamps), SlC RDEntry (.slice ao_q8 (((fwdD n00 n01 n02 n03 horizon l n04).entries).length) cap_q8) ((fwdD n00 n01 n02 n03 horizon l n04).entries), SlC RDOp (.slice ao_q7 (((fwdD n00 n01 n02 n03 horizon l n04).batch.ops).length) cap_q7) ((fwdD n00 n01 n02 n03 horizon l n04).batch.ops), SlC RDMember (.slice ao_q6 (((fwdD n00 n01 n02 n03 horizon l n04).conf.members).length) cap_q6) ((fwdD n00 n01 n02 n03 horizon l n04).conf.members), BxC b3 37 [.int .i64 ((fwdP n00 n01 n02 n03 horizon l n04).k), .int .i64 ((fwdP n00 n01 n02 n03 horizon l n04).epoch), .int .i64 ((fwdP n00 n01 n02 n03 horizon l n04).req), .int .i64 ((fwdP n00 n01 n02 n03 horizon l n04).serial), .bool ((fwdP n00 n01 n02 n03 horizon l n04).flag), .int .u64 ((fwdP n00 n01 n02 n03 horizon l n04).at_ : Int), .int .u64 ((fwdP n00 n01 n02 n03 horizon l n04).last : Int), .int .i64 ((fwdP n00 n01 n02 n03 horizon l n04).n), .int .i64 ((fwdP n00 n01 n02 n03 horizon l n04).m), .int .i64 ((fwdP n00 n01 n02 n03 horizon l n04).p), .int .i64 ((fwdP n00 n01 n02 n03 horizon l n04).e), .string ((fwdP n00 n01 n02 n03 horizon l n04).key), .string ((fwdP n00 n01 n02 n03 horizon l n04).to_), .int .i64 ((fwdP n00 n01 n02 n03 horizon l n04).conf.epoch), .slice ao_q1 (((fwdP n00 n01 n02 n03 horizon l n04).conf.members).length) cap_q1, .int .u64 ((fwdP n00 n01 n02 n03 horizon l n04).conf.floor : Int), .int .i64 ((fwdP n00 n01 n02 n03 horizon l n04).batch.client), .int .i64 ((fwdP n00 n01 n02 n03 horizon l n04).batch.req), .slice ao_q2 (((fwdP n00 n01 n02 n03 horizon l n04).batch.ops).length) cap_q2, .slice ao_q3 (((fwdP n00 n01 n02 n03 horizon l n04).entries).length) cap_q3, .slice ao_q4 (((fwdP n00 n01 n02 n03 horizon l n04).stamps).length) cap_q4, .slice ao_q5 (((fwdP n00 n01 n02 n03 horizon l n04).pairs).length) cap_q5], SlC RDPair (.slice ao_q5 (((fwdP n00 n01 n02 n03 horizon l n04).pairs).length) cap_q5) ((fwdP n00 n01 n02 n03 horizon l n04).pairs), SlC RU (.slice ao_q4 (((fwdP n00 n01 n02 n03 horizon l n04).stamps).length) cap_q4) ((fwdP n00 n01 n02 n03 horizon l n04).stamps), SlC RDEntry (.slice ao_q3 (((fwdP n00 n01 n02 n03 horizon l n04).entries).length) cap_q3) ((fwdP n00 n01 n02 n03 horizon l n04).entries), SlC RDOp (.slice ao_q2 (((fwdP n00 n01 n02 n03 horizon l n04).batch.ops).length) cap_q2) ((fwdP n00 n01 n02 n03 horizon l n04).batch.ops), SlC RDMember (.slice ao_q1 (((fwdP n00 n01 n02 n03 horizon l n04).conf.members).length) cap_q1) ((fwdP n00 n01 n02 n03 horizon l n04).conf.members), BxC b2 37 [.int .i64 x.k, .int .i64 x.epoch, .int .i64 x.req, .int .i64 x.serial, .bool x.flag, .int .u64 (x.at_ : Int), .int .u64 (x.last : Int), .int .i64 x.n, .int .i64 x.m, .int .i64 x.p, .int .i64 x.e, .string x.key, .string x.to_, .int .i64 x.conf.epoch, .slice ao_v0_x x.conf.members.length cap_v0_x, .int .u64 (x.conf.floor : Int), .int .i64 x.batch.client, .int .i64 x.batch.req, .slice ao_v1_x x.batch.ops.length cap_v1_x, .slice ao_v2_x x.entries.length cap_v2_x, .slice ao_v3_x x.stamps.length cap_v3_x, .slice ao_v4_x x.pairs.length cap_v4_x], BxC b1 42 [.int .i64 n00, .int .i64 n01, .int .i64 n02, .int .i64 n03, .int .i64 n04], SlC RDPair (.slice ao_v4_x x.pairs.length cap_v4_x) x.pairs, SlC RU (.slice ao_v3_x x.stamps.length cap_v3_x) x.stamps, SlC RDEntry (.slice ao_v2_x x.entries.length cap_v2_x) x.entries, SlC RDOp (.slice ao_v1_x x.batch.ops.length cap_v1_x) x.batch.ops, SlC RDMember (.slice ao_v0_x x.conf.members.length cap_v0_x) x.conf.members, SlC RDEntry (.slice ao_v_l l.length cap_v_l) l]) (fun _ => Gx.start H) ?_ ?_
    · intro fr hfr hfe
      refine .cons (fun ss hlo hhi vals1 xw hG hF => ?_) ?_
      · obtain rfl : ss = 0 := Nat.le_antisymm hhi hlo
        rw [← hfe]
        have hS := (hfr vals1).sub (ts := [11]) (S' := [(11, .pointer (some ⟨b3, 0, none⟩))]) rfl
        obtain ⟨I2, hI2, H⟩ := Gx.ex hG
        exact L_val hS rfl (Ob_loads TB_Relay5 (cs := [.int .i64 ((fwdP n00 n01 n02 n03 horizon l n04).k), .int .i64 ((fwdP n00 n01 n02 n03 horizon l n04).epoch), .int .i64 ((fwdP n00 n01 n02 n03 horizon l n04).req), .int .i64 ((fwdP n00 n01 n02 n03 horizon l n04).serial), .bool ((fwdP n00 n01 n02 n03 horizon l n04).flag), .int .u64 ((fwdP n00 n01 n02 n03 horizon l n04).at_ : Int), .int .u64 ((fwdP n00 n01 n02 n03 horizon l n04).last : Int), .int .i64 ((fwdP n00 n01 n02 n03 horizon l n04).n), .int .i64 ((fwdP n00 n01 n02 n03 horizon l n04).m), .int .i64 ((fwdP n00 n01 n02 n03 horizon l n04).p), .int .i64 ((fwdP n00 n01 n02 n03 horizon l n04).e), .string ((fwdP n00 n01 n02 n03 horizon l n04).key), .string ((fwdP n00 n01 n02 n03 horizon l n04).to_), .int .i64 ((fwdP n00 n01 n02 n03 horizon l n04).conf.epoch), .slice ao_q1 (((fwdP n00 n01 n02 n03 horizon l n04).conf.members).length) cap_q1, .int .u64 ((fwdP n00 n01 n02 n03 horizon l n04).conf.floor : Int), .int .i64 ((fwdP n00 n01 n02 n03 horizon l n04).batch.client), .int .i64 ((fwdP n00 n01 n02 n03 horizon l n04).batch.req), .slice ao_q2 (((fwdP n00 n01 n02 n03 horizon l n04).batch.ops).length) cap_q2, .slice ao_q3 (((fwdP n00 n01 n02 n03 horizon l n04).entries).length) cap_q3, .slice ao_q4 (((fwdP n00 n01 n02 n03 horizon l n04).stamps).length) cap_q4, .slice ao_q5 (((fwdP n00 n01 n02 n03 horizon l n04).pairs).length) cap_q5]) rfl rfl rfl (H.bx 18 rfl).at) ⟨rfl, hG⟩
      refine .cons (fun ss hlo hhi vals1 xw hG hF => ?_) ?_
      · obtain rfl : ss = 0 := Nat.le_antisymm hhi hlo
        rw [← hfe]
        have hS := (hfr vals1).sub (ts := [12]) (S' := [(12, .pointer (some ⟨b4, 0, none⟩))]) rfl
        obtain ⟨I2, hI2, H⟩ := Gx.ex hG
        exact L_val hS rfl (Ob_loads TB_Relay5 (cs := [.int .i64 ((fwdD n00 n01 n02 n03 horizon l n04).k), .int .i64 ((fwdD n00 n01 n02 n03 horizon l n04).epoch), .int .i64 ((fwdD n00 n01 n02 n03 horizon l n04).req), .int .i64 ((fwdD n00 n01 n02 n03 horizon l n04).serial), .bool ((fwdD n00 n01 n02 n03 horizon l n04).flag), .int .u64 ((fwdD n00 n01 n02 n03 horizon l n04).at_ : Int), .int .u64 ((fwdD n00 n01 n02 n03 horizon l n04).last : Int), .int .i64 ((fwdD n00 n01 n02 n03 horizon l n04).n), .int .i64 ((fwdD n00 n01 n02 n03 horizon l n04).m), .int .i64 ((fwdD n00 n01 n02 n03 horizon l n04).p), .int .i64 ((fwdD n00 n01 n02 n03 horizon l n04).e), .string ((fwdD n00 n01 n02 n03 horizon l n04).key), .string ((fwdD n00 n01 n02 n03 horizon l n04).to_), .int .i64 ((fwdD n00 n01 n02 n03 horizon l n04).conf.epoch), .slice ao_q6 (((fwdD n00 n01 n02 n03 horizon l n04).conf.members).length) cap_q6, .int .u64 ((fwdD n00 n01 n02 n03 horizon l n04).conf.floor : Int), .int .i64 ((fwdD n00 n01 n02 n03 horizon l n04).batch.client), .int .i64 ((fwdD n00 n01 n02 n03 horizon l n04).batch.req), .slice ao_q7 (((fwdD n00 n01 n02 n03 horizon l n04).batch.ops).length) cap_q7, .slice ao_q8 (((fwdD n00 n01 n02 n03 horizon l n04).entries).length) cap_q8, .slice ao_q9 (((fwdD n00 n01 n02 n03 horizon l n04).stamps).length) cap_q9, .slice ao_q10 (((fwdD n00 n01 n02 n03 horizon l n04).pairs).length) cap_q10]) rfl rfl rfl (H.bx 12 rfl).at) ⟨rfl, hG⟩
      refine .cons (fun ss hlo hhi vals1 xw hG hF => ?_) ?_
      · obtain rfl : ss = 0 := Nat.le_antisymm hhi hlo
        rw [← hfe]
        have hS := (hfr vals1).sub (ts := [102, 103]) (S' := [(102, vals1 0), (103, vals1 1)]) rfl
        have hf0 : vals1 0 = .agg #[.int .i64 ((fwdP n00 n01 n02 n03 horizon l n04).k), .int .i64 ((fwdP n00 n01 n02 n03 horizon l n04).epoch), .int .i64 ((fwdP n00 n01 n02 n03 horizon l n04).req), .int .i64 ((fwdP n00 n01 n02 n03 horizon l n04).serial), .bool ((fwdP n00 n01 n02 n03 horizon l n04).flag), .int .u64 ((fwdP n00 n01 n02 n03 horizon l n04).at_ : Int), .int .u64 ((fwdP n00 n01 n02 n03 horizon l n04).last : Int), .int .i64 ((fwdP n00 n01 n02 n03 horizon l n04).n), .int .i64 ((fwdP n00 n01 n02 n03 horizon l n04).m), .int .i64 ((fwdP n00 n01 n02 n03 horizon l n04).p), .int .i64 ((fwdP n00 n01 n02 n03 horizon l n04).e), .string ((fwdP n00 n01 n02 n03 horizon l n04).key), .string ((fwdP n00 n01 n02 n03 horizon l n04).to_), .int .i64 ((fwdP n00 n01 n02 n03 horizon l n04).conf.epoch), .slice ao_q1 (((fwdP n00 n01 n02 n03 horizon l n04).conf.members).length) cap_q1, .int .u64 ((fwdP n00 n01 n02 n03 horizon l n04).conf.floor : Int), .int .i64 ((fwdP n00 n01 n02 n03 horizon l n04).batch.client), .int .i64 ((fwdP n00 n01 n02 n03 horizon l n04).batch.req), .slice ao_q2 (((fwdP n00 n01 n02 n03 horizon l n04).batch.ops).length) cap_q2, .slice ao_q3 (((fwdP n00 n01 n02 n03 horizon l n04).entries).length) cap_q3, .slice ao_q4 (((fwdP n00 n01 n02 n03 horizon l n04).stamps).length) cap_q4, .slice ao_q5 (((fwdP n00 n01 n02 n03 horizon l n04).pairs).length) cap_q5] := hF 0 (by decide)
        replace hS := hS.conv (t := 102) rfl hf0
        have hf1 : vals1 1 = .agg #[.int .i64 ((fwdD n00 n01 n02 n03 horizon l n04).k), .int .i64 ((fwdD n00 n01 n02 n03 horizon l n04).epoch), .int .i64 ((fwdD n00 n01 n02 n03 horizon l n04).req), .int .i64 ((fwdD n00 n01 n02 n03 horizon l n04).serial), .bool ((fwdD n00 n01 n02 n03 horizon l n04).flag), .int .u64 ((fwdD n00 n01 n02 n03 horizon l n04).at_ : Int), .int .u64 ((fwdD n00 n01 n02 n03 horizon l n04).last : Int), .int .i64 ((fwdD n00 n01 n02 n03 horizon l n04).n), .int .i64 ((fwdD n00 n01 n02 n03 horizon l n04).m), .int .i64 ((fwdD n00 n01 n02 n03 horizon l n04).p), .int .i64 ((fwdD n00 n01 n02 n03 horizon l n04).e), .string ((fwdD n00 n01 n02 n03 horizon l n04).key), .string ((fwdD n00 n01 n02 n03 horizon l n04).to_), .int .i64 ((fwdD n00 n01 n02 n03 horizon l n04).conf.epoch), .slice ao_q6 (((fwdD n00 n01 n02 n03 horizon l n04).conf.members).length) cap_q6, .int .u64 ((fwdD n00 n01 n02 n03 horizon l n04).conf.floor : Int), .int .i64 ((fwdD n00 n01 n02 n03 horizon l n04).batch.client), .int .i64 ((fwdD n00 n01 n02 n03 horizon l n04).batch.req), .slice ao_q7 (((fwdD n00 n01 n02 n03 horizon l n04).batch.ops).length) cap_q7, .slice ao_q8 (((fwdD n00 n01 n02 n03 horizon l n04).entries).length) cap_q8, .slice ao_q9 (((fwdD n00 n01 n02 n03 horizon l n04).stamps).length) cap_q9, .slice ao_q10 (((fwdD n00 n01 n02 n03 horizon l n04).pairs).length) cap_q10] := hF 1 (by decide)
        replace hS := hS.conv (t := 103) rfl hf1
        obtain ⟨I2, hI2, H⟩ := Gx.ex hG
        refine L_call (caps := #[]) hS fn_14_Relay5 rfl rfl rfl rfl rfl (SameT (fwdP n00 n01 n02 n03 horizon l n04) _ _ _ _ _ (fwdD n00 n01 n02 n03 horizon l n04) _ _ _ _ _ _ (H.sl 23 rfl) (H.sl 22 rfl) (H.sl 21 rfl) (H.sl 20 rfl) (H.sl 19 rfl) hx1 (H.sl 17 rfl) (H.sl 16 rfl) (H.sl 15 rfl) (H.sl 14 rfl) (H.sl 13 rfl) hx2 (by first | (rw [fwdP_eq]; exact sameM_refl _) | (rw [ackP_eq]; exact sameM_refl _))) fun r yw hr => ?_
        obtain ⟨rfl, hb⟩ := hr
        exact ⟨rfl, Gx.blw hG hb⟩
      refine .cons (fun ss hlo hhi vals1 xw hG hF => ?_) ?_
      · obtain rfl : ss = 0 := Nat.le_antisymm hhi hlo
        rw [← hfe]
        have hS := (hfr vals1).sub (ts := [104]) (S' := [(104, vals1 2)]) rfl
        have hf2 : vals1 2 = .bool true := hF 2 (by decide)
        replace hS := hS.conv (t := 104) rfl hf2
        exact L_val hS rfl (Ob_c TB_Relay5 rfl) ⟨rfl, hG⟩
      refine .cons (fun ss hlo hhi vals1 xw hG hF => ?_) ?_
      · obtain rfl : ss = 0 := Nat.le_antisymm hhi hlo
        rw [← hfe]
        have hS := (hfr vals1).sub (ts := [105, 13]) (S' := [(105, vals1 3), (13, .pointer (some ⟨b5, 0, none⟩))]) rfl
        have hf3 : vals1 3 = .bool true := hF 3 (by decide)
        replace hS := hS.conv (t := 105) rfl hf3
        refine L_g hS rfl rfl rfl (fun _ => ?_) (fun h => absurd rfl h)
        obtain ⟨I2, hI2, H⟩ := Gx.ex hG
        exact L_val hS rfl (Ob_loads TB_Relay5 (cs := [.int .i64 ((ackP n00 n04 n01 n02 l).k), .int .i64 ((ackP n00 n04 n01 n02 l).epoch), .int .i64 ((ackP n00 n04 n01 n02 l).req), .int .i64 ((ackP n00 n04 n01 n02 l).serial), .bool ((ackP n00 n04 n01 n02 l).flag), .int .u64 ((ackP n00 n04 n01 n02 l).at_ : Int), .int .u64 ((ackP n00 n04 n01 n02 l).last : Int), .int .i64 ((ackP n00 n04 n01 n02 l).n), .int .i64 ((ackP n00 n04 n01 n02 l).m), .int .i64 ((ackP n00 n04 n01 n02 l).p), .int .i64 ((ackP n00 n04 n01 n02 l).e), .string ((ackP n00 n04 n01 n02 l).key), .string ((ackP n00 n04 n01 n02 l).to_), .int .i64 ((ackP n00 n04 n01 n02 l).conf.epoch), .slice ao_q11 (((ackP n00 n04 n01 n02 l).conf.members).length) cap_q11, .int .u64 ((ackP n00 n04 n01 n02 l).conf.floor : Int), .int .i64 ((ackP n00 n04 n01 n02 l).batch.client), .int .i64 ((ackP n00 n04 n01 n02 l).batch.req), .slice ao_q12 (((ackP n00 n04 n01 n02 l).batch.ops).length) cap_q12, .slice ao_q13 (((ackP n00 n04 n01 n02 l).entries).length) cap_q13, .slice ao_q14 (((ackP n00 n04 n01 n02 l).stamps).length) cap_q14, .slice ao_q15 (((ackP n00 n04 n01 n02 l).pairs).length) cap_q15]) rfl rfl rfl (H.bx 6 rfl).at) ⟨rfl, hG⟩
      refine .cons (fun ss hlo hhi vals1 xw hG hF => ?_) ?_
      · obtain rfl : ss = 0 := Nat.le_antisymm hhi hlo
        rw [← hfe]
        have hS := (hfr vals1).sub (ts := [105, 14]) (S' := [(105, vals1 3), (14, .pointer (some ⟨b6, 0, none⟩))]) rfl
        have hf3 : vals1 3 = .bool true := hF 3 (by decide)
        replace hS := hS.conv (t := 105) rfl hf3
        refine L_g hS rfl rfl rfl (fun _ => ?_) (fun h => absurd rfl h)
        obtain ⟨I2, hI2, H⟩ := Gx.ex hG
        exact L_val hS rfl (Ob_loads TB_Relay5 (cs := [.int .i64 ((ackD n00 n04 n01 n02 l).k), .int .i64 ((ackD n00 n04 n01 n02 l).epoch), .int .i64 ((ackD n00 n04 n01 n02 l).req), .int .i64 ((ackD n00 n04 n01 n02 l).serial), .bool ((ackD n00 n04 n01 n02 l).flag), .int .u64 ((ackD n00 n04 n01 n02 l).at_ : Int), .int .u64 ((ackD n00 n04 n01 n02 l).last : Int), .int .i64 ((ackD n00 n04 n01 n02 l).n), .int .i64 ((ackD n00 n04 n01 n02 l).m), .int .i64 ((ackD n00 n04 n01 n02 l).p), .int .i64 ((ackD n00 n04 n01 n02 l).e), .string ((ackD n00 n04 n01 n02 l).key), .string ((ackD n00 n04 n01 n02 l).to_), .int .i64 ((ackD n00 n04 n01 n02 l).conf.epoch), .slice ao_q16 (((ackD n00 n04 n01 n02 l).conf.members).length) cap_q16, .int .u64 ((ackD n00 n04 n01 n02 l).conf.floor : Int), .int .i64 ((ackD n00 n04 n01 n02 l).batch.client), .int .i64 ((ackD n00 n04 n01 n02 l).batch.req), .slice ao_q17 (((ackD n00 n04 n01 n02 l).batch.ops).length) cap_q17, .slice ao_q18 (((ackD n00 n04 n01 n02 l).entries).length) cap_q18, .slice ao_q19 (((ackD n00 n04 n01 n02 l).stamps).length) cap_q19, .slice ao_q20 (((ackD n00 n04 n01 n02 l).pairs).length) cap_q20]) rfl rfl rfl (H.bx 0 rfl).at) ⟨rfl, hG⟩
      refine .cons (fun ss hlo hhi vals1 xw hG hF => ?_) ?_
      · obtain rfl : ss = 0 := Nat.le_antisymm hhi hlo
        rw [← hfe]
        have hS := (hfr vals1).sub (ts := [106, 107, 105]) (S' := [(106, vals1 4), (107, vals1 5), (105, vals1 3)]) rfl
        have hf4 : vals1 4 = .agg #[.int .i64 ((ackP n00 n04 n01 n02 l).k), .int .i64 ((ackP n00 n04 n01 n02 l).epoch), .int .i64 ((ackP n00 n04 n01 n02 l).req), .int .i64 ((ackP n00 n04 n01 n02 l).serial), .bool ((ackP n00 n04 n01 n02 l).flag), .int .u64 ((ackP n00 n04 n01 n02 l).at_ : Int), .int .u64 ((ackP n00 n04 n01 n02 l).last : Int), .int .i64 ((ackP n00 n04 n01 n02 l).n), .int .i64 ((ackP n00 n04 n01 n02 l).m), .int .i64 ((ackP n00 n04 n01 n02 l).p), .int .i64 ((ackP n00 n04 n01 n02 l).e), .string ((ackP n00 n04 n01 n02 l).key), .string ((ackP n00 n04 n01 n02 l).to_), .int .i64 ((ackP n00 n04 n01 n02 l).conf.epoch), .slice ao_q11 (((ackP n00 n04 n01 n02 l).conf.members).length) cap_q11, .int .u64 ((ackP n00 n04 n01 n02 l).conf.floor : Int), .int .i64 ((ackP n00 n04 n01 n02 l).batch.client), .int .i64 ((ackP n00 n04 n01 n02 l).batch.req), .slice ao_q12 (((ackP n00 n04 n01 n02 l).batch.ops).length) cap_q12, .slice ao_q13 (((ackP n00 n04 n01 n02 l).entries).length) cap_q13, .slice ao_q14 (((ackP n00 n04 n01 n02 l).stamps).length) cap_q14, .slice ao_q15 (((ackP n00 n04 n01 n02 l).pairs).length) cap_q15] := hF 4 (by decide)
        replace hS := hS.conv (t := 106) rfl hf4
        have hf5 : vals1 5 = .agg #[.int .i64 ((ackD n00 n04 n01 n02 l).k), .int .i64 ((ackD n00 n04 n01 n02 l).epoch), .int .i64 ((ackD n00 n04 n01 n02 l).req), .int .i64 ((ackD n00 n04 n01 n02 l).serial), .bool ((ackD n00 n04 n01 n02 l).flag), .int .u64 ((ackD n00 n04 n01 n02 l).at_ : Int), .int .u64 ((ackD n00 n04 n01 n02 l).last : Int), .int .i64 ((ackD n00 n04 n01 n02 l).n), .int .i64 ((ackD n00 n04 n01 n02 l).m), .int .i64 ((ackD n00 n04 n01 n02 l).p), .int .i64 ((ackD n00 n04 n01 n02 l).e), .string ((ackD n00 n04 n01 n02 l).key), .string ((ackD n00 n04 n01 n02 l).to_), .int .i64 ((ackD n00 n04 n01 n02 l).conf.epoch), .slice ao_q16 (((ackD n00 n04 n01 n02 l).conf.members).length) cap_q16, .int .u64 ((ackD n00 n04 n01 n02 l).conf.floor : Int), .int .i64 ((ackD n00 n04 n01 n02 l).batch.client), .int .i64 ((ackD n00 n04 n01 n02 l).batch.req), .slice ao_q17 (((ackD n00 n04 n01 n02 l).batch.ops).length) cap_q17, .slice ao_q18 (((ackD n00 n04 n01 n02 l).entries).length) cap_q18, .slice ao_q19 (((ackD n00 n04 n01 n02 l).stamps).length) cap_q19, .slice ao_q20 (((ackD n00 n04 n01 n02 l).pairs).length) cap_q20] := hF 5 (by decide)
        replace hS := hS.conv (t := 107) rfl hf5
        have hf3 : vals1 3 = .bool true := hF 3 (by decide)
        replace hS := hS.conv (t := 105) rfl hf3
        refine L_g hS rfl rfl rfl (fun _ => ?_) (fun h => absurd rfl h)
        obtain ⟨I2, hI2, H⟩ := Gx.ex hG
        refine L_call (caps := #[]) hS fn_14_Relay5 rfl rfl rfl rfl rfl (SameT (ackP n00 n04 n01 n02 l) _ _ _ _ _ (ackD n00 n04 n01 n02 l) _ _ _ _ _ _ (H.sl 11 rfl) (H.sl 10 rfl) (H.sl 9 rfl) (H.sl 8 rfl) (H.sl 7 rfl) hx3 (H.sl 5 rfl) (H.sl 4 rfl) (H.sl 3 rfl) (H.sl 2 rfl) (H.sl 1 rfl) hx4 (by first | (rw [fwdP_eq]; exact sameM_refl _) | (rw [ackP_eq]; exact sameM_refl _))) fun r yw hr => ?_
        obtain ⟨rfl, hb⟩ := hr
        exact ⟨rfl, Gx.blw hG hb⟩
      refine .cons (fun ss hlo hhi vals1 xw hG hF => ?_) ?_
      · obtain rfl : ss = 0 := Nat.le_antisymm hhi hlo
        rw [← hfe]
        have hS := (hfr vals1).sub (ts := [105, 108]) (S' := [(105, vals1 3), (108, vals1 6)]) rfl
        have hf3 : vals1 3 = .bool true := hF 3 (by decide)
        replace hS := hS.conv (t := 105) rfl hf3
        have hf6 : vals1 6 = .bool true := hF 6 (by decide)
        replace hS := hS.conv (t := 108) rfl hf6
        exact L_val hS rfl (Ob_pick rfl rfl rfl rfl rfl) ⟨rfl, hG⟩
      refine .cons (fun ss hlo hhi vals1 xw hG hF => ?_) ?_
      · obtain rfl : ss = 0 := Nat.le_antisymm hhi hlo
        rw [← hfe]
        have hS := (hfr vals1).sub (ts := [109]) (S' := [(109, vals1 7)]) rfl
        have hf7 : vals1 7 = .bool true := hF 7 (by decide)
        replace hS := hS.conv (t := 109) rfl hf7
        exact L_val hS rfl (Ob_c TB_Relay5 rfl) ⟨rfl, hG⟩
      refine .cons (fun ss hlo hhi vals1 xw hG hF => ?_) ?_
      · obtain rfl : ss = 0 := Nat.le_antisymm hhi hlo
        rw [← hfe]
        have hS := (hfr vals1).sub (ts := [110, 0]) (S' := [(110, vals1 8), (0, .slice ao_v_l l.length cap_v_l)]) rfl
        have hf8 : vals1 8 = .bool true := hF 8 (by decide)
        replace hS := hS.conv (t := 110) rfl hf8
        refine L_g hS rfl rfl rfl (fun _ => ?_) (fun h => absurd rfl h)
        exact L_val hS rfl (Ob_c TB_Relay5 rfl) ⟨rfl, hG⟩
      refine .cons (fun ss hlo hhi vals1 xw hG hF => ?_) ?_
      · obtain rfl : ss = 0 := Nat.le_antisymm hhi hlo
        rw [← hfe]
        have hS := (hfr vals1).sub (ts := [110, 6]) (S' := [(110, vals1 8), (6, .pointer (some ⟨b1, 0, none⟩))]) rfl
        have hf8 : vals1 8 = .bool true := hF 8 (by decide)
        replace hS := hS.conv (t := 110) rfl hf8
        refine L_g hS rfl rfl rfl (fun _ => ?_) (fun h => absurd rfl h)
        obtain ⟨I2, hI2, H⟩ := Gx.ex hG
        exact L_val hS rfl (Ob_idxa (b := b1) (off := 0) (m := 1) Try.underlying42 (by kernel_rfl) (4) rfl rfl rfl rfl (show 4 < 5 from by decide)) ⟨rfl, hG⟩
      refine .cons (fun ss hlo hhi vals1 xw hG hF => ?_) ?_
      · obtain rfl : ss = 0 := Nat.le_antisymm hhi hlo
        rw [← hfe]
        have hS := (hfr vals1).sub (ts := [112, 110]) (S' := [(112, vals1 10), (110, vals1 8)]) rfl
        have hf10 : vals1 10 = .pointer (some ⟨b1, 4, none⟩) := hF 10 (by decide)
        replace hS := hS.conv (t := 112) rfl hf10
        have hf8 : vals1 8 = .bool true := hF 8 (by decide)
        replace hS := hS.conv (t := 110) rfl hf8
        refine L_g hS rfl rfl rfl (fun _ => ?_) (fun h => absurd rfl h)
        obtain ⟨I2, hI2, H⟩ := Gx.ex hG
        exact L_val hS rfl (Ob_load TB_Relay5 rfl rfl rfl ((H.bx 25 rfl).cell 4 rfl)) ⟨rfl, hG⟩
      refine .cons (fun ss hlo hhi vals1 xw hG hF => ?_) ?_
      · obtain rfl : ss = 0 := Nat.le_antisymm hhi hlo
        rw [← hfe]
        have hS := (hfr vals1).sub (ts := [110, 8]) (S' := [(110, vals1 8), (8, .pointer (some ⟨b2, 0, none⟩))]) rfl
        have hf8 : vals1 8 = .bool true := hF 8 (by decide)
        replace hS := hS.conv (t := 110) rfl hf8
        refine L_g hS rfl rfl rfl (fun _ => ?_) (fun h => absurd rfl h)
        obtain ⟨I2, hI2, H⟩ := Gx.ex hG
        exact L_val hS rfl (Ob_loads TB_Relay5 (cs := [.int .i64 x.k, .int .i64 x.epoch, .int .i64 x.req, .int .i64 x.serial, .bool x.flag, .int .u64 (x.at_ : Int), .int .u64 (x.last : Int), .int .i64 x.n, .int .i64 x.m, .int .i64 x.p, .int .i64 x.e, .string x.key, .string x.to_, .int .i64 x.conf.epoch, .slice ao_v0_x x.conf.members.length cap_v0_x, .int .u64 (x.conf.floor : Int), .int .i64 x.batch.client, .int .i64 x.batch.req, .slice ao_v1_x x.batch.ops.length cap_v1_x, .slice ao_v2_x x.entries.length cap_v2_x, .slice ao_v3_x x.stamps.length cap_v3_x, .slice ao_v4_x x.pairs.length cap_v4_x]) rfl rfl rfl (H.bx 24 rfl).at) ⟨rfl, hG⟩
      refine .cons (fun ss hlo hhi vals1 xw hG hF => ?_) ?_
      · obtain rfl : ss = 0 := Nat.le_antisymm hhi hlo
        rw [← hfe]
        have hS := (hfr vals1).sub (ts := [111, 113, 114, 110]) (S' := [(111, vals1 9), (113, vals1 11), (114, vals1 12), (110, vals1 8)]) rfl
        have hf9 : vals1 9 = .slice ao_v_l l.length cap_v_l := hF 9 (by decide)
        replace hS := hS.conv (t := 111) rfl hf9
        have hf11 : vals1 11 = .int .i64 n04 := hF 11 (by decide)
        replace hS := hS.conv (t := 113) rfl hf11
        have hf12 : vals1 12 = .agg #[.int .i64 x.k, .int .i64 x.epoch, .int .i64 x.req, .int .i64 x.serial, .bool x.flag, .int .u64 (x.at_ : Int), .int .u64 (x.last : Int), .int .i64 x.n, .int .i64 x.m, .int .i64 x.p, .int .i64 x.e, .string x.key, .string x.to_, .int .i64 x.conf.epoch, .slice ao_v0_x x.conf.members.length cap_v0_x, .int .u64 (x.conf.floor : Int), .int .i64 x.batch.client, .int .i64 x.batch.req, .slice ao_v1_x x.batch.ops.length cap_v1_x, .slice ao_v2_x x.entries.length cap_v2_x, .slice ao_v3_x x.stamps.length cap_v3_x, .slice ao_v4_x x.pairs.length cap_v4_x] := hF 12 (by decide)
        replace hS := hS.conv (t := 114) rfl hf12
        have hf8 : vals1 8 = .bool true := hF 8 (by decide)
        replace hS := hS.conv (t := 110) rfl hf8
        refine L_g hS rfl rfl rfl (fun _ => ?_) (fun h => absurd rfl h)
        obtain ⟨I2, hI2, H⟩ := Gx.ex hG
        refine L_call (caps := #[]) hS fn_16_Relay5 rfl rfl rfl rfl rfl (c_relay_Learn _ l n04 x _ _ _ _ _ _ (H.sl 31 rfl) h_n04 (H.sl 30 rfl) (H.sl 29 rfl) (H.sl 28 rfl) (H.sl 27 rfl) (H.sl 26 rfl) h_x (by first | omega | rfl | (simp only [List.length_drop, List.length_take, List.length_append, List.length_cons, List.length_nil]; omega)) (by first | omega | rfl | (simp only [List.length_drop, List.length_take, List.length_append, List.length_cons, List.length_nil]; omega)) (by first | omega | rfl | (simp only [List.length_drop, List.length_take, List.length_append, List.length_cons, List.length_nil]; omega))) fun r yw hr => ?_
        obtain ⟨q0_, rfl, L0_, hb⟩ := hr
        obtain ⟨I3, hI3, H⟩ := H.fresh hb
        have H := H.addsl (L0_.inI hI3 (fun k h => .inr h))
        obtain ⟨ao0_, cap0_, rfl, gc0_, gm0_⟩ := L0_.shape
        exact ⟨⟨rfl, gc0_, gm0_⟩, Gx.go hG hI2 (Keep.below hb) (fun k h => (hI3 k).2 (.inl h)) H⟩
      refine .cons (fun ss hlo hhi vals1 xw hG hF => ?_) ?_
      · obtain rfl | rfl : ss = 0 ∨ ss = 1 := st1 hlo hhi
        · rw [← hfe]
          have hS := (hfr vals1).sub (ts := [110, 0]) (S' := [(110, vals1 8), (0, .slice ao_v_l l.length cap_v_l)]) rfl
          have hf8 : vals1 8 = .bool true := hF 8 (by decide)
          replace hS := hS.conv (t := 110) rfl hf8
          refine L_g hS rfl rfl rfl (fun _ => ?_) (fun h => absurd rfl h)
          exact L_val hS rfl (Ob_c TB_Relay5 rfl) ⟨rfl, hG⟩
        · rw [← hfe]
          have hS := (hfr vals1).sub (ts := [110, 0]) (S' := [(110, vals1 8), (0, .slice ao_v_l l.length cap_v_l)]) rfl
          have hf8 : vals1 8 = .bool true := hF 8 (by decide)
          replace hS := hS.conv (t := 110) rfl hf8
          refine L_g hS rfl rfl rfl (fun _ => ?_) (fun h => absurd rfl h)
          exact L_val hS rfl (Ob_c TB_Relay5 rfl) ⟨rfl, hG⟩
      refine .cons (fun ss hlo hhi vals1 xw hG hF => ?_) ?_
      · obtain rfl | rfl : ss = 0 ∨ ss = 1 := st1 hlo hhi
        · rw [← hfe]
          have hS := (hfr vals1).sub (ts := [110, 6]) (S' := [(110, vals1 8), (6, .pointer (some ⟨b1, 0, none⟩))]) rfl
          have hf8 : vals1 8 = .bool true := hF 8 (by decide)
          replace hS := hS.conv (t := 110) rfl hf8
          refine L_g hS rfl rfl rfl (fun _ => ?_) (fun h => absurd rfl h)
          obtain ⟨I2, hI2, H⟩ := Gx.ex hG
          exact L_val hS rfl (Ob_idxa (b := b1) (off := 0) (m := 1) Try.underlying42 (by kernel_rfl) (4) rfl rfl rfl rfl (show 4 < 5 from by decide)) ⟨rfl, hG⟩
        · rw [← hfe]
          have hS := (hfr vals1).sub (ts := [110, 6]) (S' := [(110, vals1 8), (6, .pointer (some ⟨b1, 0, none⟩))]) rfl
          have hf8 : vals1 8 = .bool true := hF 8 (by decide)
          replace hS := hS.conv (t := 110) rfl hf8
          refine L_g hS rfl rfl rfl (fun _ => ?_) (fun h => absurd rfl h)
          obtain ⟨I2, hI2, H⟩ := Gx.ex hG
          exact L_val hS rfl (Ob_idxa (b := b1) (off := 0) (m := 1) Try.underlying42 (by kernel_rfl) (4) rfl rfl rfl rfl (show 4 < 5 from by decide)) ⟨rfl, hG⟩
      refine .cons (fun ss hlo hhi vals1 xw hG hF => ?_) ?_
      · obtain rfl | rfl : ss = 0 ∨ ss = 1 := st1 hlo hhi
        · rw [← hfe]
          have hS := (hfr vals1).sub (ts := [117, 110]) (S' := [(117, vals1 15), (110, vals1 8)]) rfl
          have hf15 : vals1 15 = .pointer (some ⟨b1, 4, none⟩) := hF 15 (by decide)
          replace hS := hS.conv (t := 117) rfl hf15
          have hf8 : vals1 8 = .bool true := hF 8 (by decide)
          replace hS := hS.conv (t := 110) rfl hf8
          refine L_g hS rfl rfl rfl (fun _ => ?_) (fun h => absurd rfl h)
          obtain ⟨I2, hI2, H⟩ := Gx.ex hG
          exact L_val hS rfl (Ob_load TB_Relay5 rfl rfl rfl ((H.bx 25 rfl).cell 4 rfl)) ⟨rfl, hG⟩
        · rw [← hfe]
          have hS := (hfr vals1).sub (ts := [117, 110]) (S' := [(117, vals1 15), (110, vals1 8)]) rfl
          have hf15 : vals1 15 = .pointer (some ⟨b1, 4, none⟩) := hF 15 (by decide)
          replace hS := hS.conv (t := 117) rfl hf15
          have hf8 : vals1 8 = .bool true := hF 8 (by decide)
          replace hS := hS.conv (t := 110) rfl hf8
          refine L_g hS rfl rfl rfl (fun _ => ?_) (fun h => absurd rfl h)
          obtain ⟨I2, hI2, H⟩ := Gx.ex hG
          exact L_val hS rfl (Ob_load TB_Relay5 rfl rfl rfl ((H.bx 26 rfl).cell 4 rfl)) ⟨rfl, hG⟩
      refine .cons (fun ss hlo hhi vals1 xw hG hF => ?_) ?_
      · obtain rfl | rfl : ss = 0 ∨ ss = 1 := st1 hlo hhi
        · rw [← hfe]
          have hS := (hfr vals1).sub (ts := [110, 8]) (S' := [(110, vals1 8), (8, .pointer (some ⟨b2, 0, none⟩))]) rfl
          have hf8 : vals1 8 = .bool true := hF 8 (by decide)
          replace hS := hS.conv (t := 110) rfl hf8
          refine L_g hS rfl rfl rfl (fun _ => ?_) (fun h => absurd rfl h)
          obtain ⟨I2, hI2, H⟩ := Gx.ex hG
          exact L_val hS rfl (Ob_loads TB_Relay5 (cs := [.int .i64 x.k, .int .i64 x.epoch, .int .i64 x.req, .int .i64 x.serial, .bool x.flag, .int .u64 (x.at_ : Int), .int .u64 (x.last : Int), .int .i64 x.n, .int .i64 x.m, .int .i64 x.p, .int .i64 x.e, .string x.key, .string x.to_, .int .i64 x.conf.epoch, .slice ao_v0_x x.conf.members.length cap_v0_x, .int .u64 (x.conf.floor : Int), .int .i64 x.batch.client, .int .i64 x.batch.req, .slice ao_v1_x x.batch.ops.length cap_v1_x, .slice ao_v2_x x.entries.length cap_v2_x, .slice ao_v3_x x.stamps.length cap_v3_x, .slice ao_v4_x x.pairs.length cap_v4_x]) rfl rfl rfl (H.bx 24 rfl).at) ⟨rfl, hG⟩
        · rw [← hfe]
          have hS := (hfr vals1).sub (ts := [110, 8]) (S' := [(110, vals1 8), (8, .pointer (some ⟨b2, 0, none⟩))]) rfl
          have hf8 : vals1 8 = .bool true := hF 8 (by decide)
          replace hS := hS.conv (t := 110) rfl hf8
          refine L_g hS rfl rfl rfl (fun _ => ?_) (fun h => absurd rfl h)
          obtain ⟨I2, hI2, H⟩ := Gx.ex hG
          exact L_val hS rfl (Ob_loads TB_Relay5 (cs := [.int .i64 x.k, .int .i64 x.epoch, .int .i64 x.req, .int .i64 x.serial, .bool x.flag, .int .u64 (x.at_ : Int), .int .u64 (x.last : Int), .int .i64 x.n, .int .i64 x.m, .int .i64 x.p, .int .i64 x.e, .string x.key, .string x.to_, .int .i64 x.conf.epoch, .slice ao_v0_x x.conf.members.length cap_v0_x, .int .u64 (x.conf.floor : Int), .int .i64 x.batch.client, .int .i64 x.batch.req, .slice ao_v1_x x.batch.ops.length cap_v1_x, .slice ao_v2_x x.entries.length cap_v2_x, .slice ao_v3_x x.stamps.length cap_v3_x, .slice ao_v4_x x.pairs.length cap_v4_x]) rfl rfl rfl (H.bx 25 rfl).at) ⟨rfl, hG⟩
      refine .cons (fun ss hlo hhi vals1 xw hG hF => ?_) ?_
      · obtain rfl : ss = 1 := Nat.le_antisymm hhi hlo
        rw [← hfe]
        have hS := (hfr vals1).sub (ts := [116, 118, 119, 110]) (S' := [(116, vals1 14), (118, vals1 16), (119, vals1 17), (110, vals1 8)]) rfl
        have hf14 : vals1 14 = .slice ao_v_l l.length cap_v_l := hF 14 (by decide)
        replace hS := hS.conv (t := 116) rfl hf14
        have hf16 : vals1 16 = .int .i64 n04 := hF 16 (by decide)
        replace hS := hS.conv (t := 118) rfl hf16
        have hf17 : vals1 17 = .agg #[.int .i64 x.k, .int .i64 x.epoch, .int .i64 x.req, .int .i64 x.serial, .bool x.flag, .int .u64 (x.at_ : Int), .int .u64 (x.last : Int), .int .i64 x.n, .int .i64 x.m, .int .i64 x.p, .int .i64 x.e, .string x.key, .string x.to_, .int .i64 x.conf.epoch, .slice ao_v0_x x.conf.members.length cap_v0_x, .int .u64 (x.conf.floor : Int), .int .i64 x.batch.client, .int .i64 x.batch.req, .slice ao_v1_x x.batch.ops.length cap_v1_x, .slice ao_v2_x x.entries.length cap_v2_x, .slice ao_v3_x x.stamps.length cap_v3_x, .slice ao_v4_x x.pairs.length cap_v4_x] := hF 17 (by decide)
        replace hS := hS.conv (t := 119) rfl hf17
        have hf8 : vals1 8 = .bool true := hF 8 (by decide)
        replace hS := hS.conv (t := 110) rfl hf8
        refine L_g hS rfl rfl rfl (fun _ => ?_) (fun h => absurd rfl h)
        obtain ⟨I2, hI2, H⟩ := Gx.ex hG
        refine L_call (caps := #[]) hS fn_17_Relay5 rfl rfl rfl rfl rfl (c_ref32_Learn _ l n04 x _ _ _ _ _ _ (H.sl 32 rfl) h_n04 (H.sl 31 rfl) (H.sl 30 rfl) (H.sl 29 rfl) (H.sl 28 rfl) (H.sl 27 rfl) h_x (by first | omega | rfl | (simp only [List.length_drop, List.length_take, List.length_append, List.length_cons, List.length_nil]; omega))) fun r yw hr => ?_
        obtain ⟨q0_, rfl, L0_, hb⟩ := hr
        obtain ⟨I3, hI3, H⟩ := H.fresh hb
        have H := H.addsl (L0_.inI hI3 (fun k h => .inr h))
        obtain ⟨ao0_, cap0_, rfl, gc0_, gm0_⟩ := L0_.shape
        exact ⟨⟨rfl, gc0_, gm0_⟩, Gx.go hG hI2 (Keep.below hb) (fun k h => (hI3 k).2 (.inl h)) H⟩
      refine .cons (fun ss hlo hhi vals1 xw hG hF => ?_) ?_
      · obtain rfl : ss = 2 := Nat.le_antisymm hhi hlo
        rw [← hfe]
        have hS := (hfr vals1).sub (ts := [115, 120, 110]) (S' := [(115, vals1 13), (120, vals1 18), (110, vals1 8)]) rfl
        have hf13 : vals1 13 = .slice (aoOf (vals1 13)) ((learnP l n04 x).length) (capOf (vals1 13)) ∧ (learnP l n04 x).length ≤ capOf (vals1 13) ∧ capOf (vals1 13) ≤ maxLen := hF 13 (by decide)
        replace hS := hS.conv (t := 115) rfl hf13.1
        have hf18 : vals1 18 = .slice (aoOf (vals1 18)) ((learnL l n04 x).length) (capOf (vals1 18)) ∧ (learnL l n04 x).length ≤ capOf (vals1 18) ∧ capOf (vals1 18) ≤ maxLen := hF 18 (by decide)
        replace hS := hS.conv (t := 120) rfl hf18.1
        have hf8 : vals1 8 = .bool true := hF 8 (by decide)
        replace hS := hS.conv (t := 110) rfl hf8
        refine L_g hS rfl rfl rfl (fun _ => ?_) (fun h => absurd rfl h)
        obtain ⟨I2, hI2, H⟩ := Gx.ex hG
        refine L_call (caps := #[]) hS fn_15_Relay5 rfl rfl rfl rfl rfl (notesT _ (learnP l n04 x) _ (learnL l n04 x) _ (H.sl 1 rfl) (H.sl 0 rfl) (by rw [learn_eq]; exact sameBy_refl sameN_refl _)) fun r yw hr => ?_
        obtain ⟨rfl, hb⟩ := hr
        exact ⟨rfl, Gx.blw hG hb⟩
      refine .cons (fun ss hlo hhi vals1 xw hG hF => ?_) ?_
      · obtain rfl : ss = 2 := Nat.le_antisymm hhi hlo
        rw [← hfe]
        have hS := (hfr vals1).sub (ts := [110, 121]) (S' := [(110, vals1 8), (121, vals1 19)]) rfl
        have hf8 : vals1 8 = .bool true := hF 8 (by decide)
        replace hS := hS.conv (t := 110) rfl hf8
        have hf19 : vals1 19 = .bool true := hF 19 (by decide)
        replace hS := hS.conv (t := 121) rfl hf19
        exact L_val hS rfl (Ob_pick rfl rfl rfl rfl rfl) ⟨rfl, hG⟩
      refine .cons (fun ss hlo hhi vals1 xw hG hF => ?_) ?_
      · obtain rfl : ss = 2 := Nat.le_antisymm hhi hlo
        rw [← hfe]
        have hS := (hfr vals1).sub (ts := [122]) (S' := [(122, vals1 20)]) rfl
        have hf20 : vals1 20 = .bool true := hF 20 (by decide)
        replace hS := hS.conv (t := 122) rfl hf20
        exact L_val hS rfl (Ob_c TB_Relay5 rfl) ⟨rfl, hG⟩
      refine .cons (fun ss hlo hhi vals1 xw hG hF => ?_) ?_
      · obtain rfl : ss = 2 := Nat.le_antisymm hhi hlo
        rw [← hfe]
        have hS := (hfr vals1).sub (ts := [123, 6]) (S' := [(123, vals1 21), (6, .pointer (some ⟨b1, 0, none⟩))]) rfl
        have hf21 : vals1 21 = .bool true := hF 21 (by decide)
        replace hS := hS.conv (t := 123) rfl hf21
        refine L_g hS rfl rfl rfl (fun _ => ?_) (fun h => absurd rfl h)
        obtain ⟨I2, hI2, H⟩ := Gx.ex hG
        exact L_val hS rfl (Ob_idxa (b := b1) (off := 0) (m := 1) Try.underlying42 (by kernel_rfl) (0) rfl rfl rfl rfl (show 0 < 5 from by decide)) ⟨rfl, hG⟩
      refine .cons (fun ss hlo hhi vals1 xw hG hF => ?_) ?_
      · obtain rfl : ss = 2 := Nat.le_antisymm hhi hlo
        rw [← hfe]
        have hS := (hfr vals1).sub (ts := [124, 123]) (S' := [(124, vals1 22), (123, vals1 21)]) rfl
        have hf22 : vals1 22 = .pointer (some ⟨b1, 0, none⟩) := hF 22 (by decide)
        replace hS := hS.conv (t := 124) rfl hf22
        have hf21 : vals1 21 = .bool true := hF 21 (by decide)
        replace hS := hS.conv (t := 123) rfl hf21
        refine L_g hS rfl rfl rfl (fun _ => ?_) (fun h => absurd rfl h)
        obtain ⟨I2, hI2, H⟩ := Gx.ex hG
        exact L_val hS rfl (Ob_load TB_Relay5 rfl rfl rfl ((H.bx 27 rfl).cell 0 rfl)) ⟨rfl, hG⟩
      refine .cons (fun ss hlo hhi vals1 xw hG hF => ?_) ?_
      · obtain rfl : ss = 2 := Nat.le_antisymm hhi hlo
        rw [← hfe]
        have hS := (hfr vals1).sub (ts := [123, 6]) (S' := [(123, vals1 21), (6, .pointer (some ⟨b1, 0, none⟩))]) rfl
        have hf21 : vals1 21 = .bool true := hF 21 (by decide)
        replace hS := hS.conv (t := 123) rfl hf21
        refine L_g hS rfl rfl rfl (fun _ => ?_) (fun h => absurd rfl h)
        obtain ⟨I2, hI2, H⟩ := Gx.ex hG
        exact L_val hS rfl (Ob_idxa (b := b1) (off := 0) (m := 1) Try.underlying42 (by kernel_rfl) (1) rfl rfl rfl rfl (show 1 < 5 from by decide)) ⟨rfl, hG⟩
      refine .cons (fun ss hlo hhi vals1 xw hG hF => ?_) ?_
      · obtain rfl : ss = 2 := Nat.le_antisymm hhi hlo
        rw [← hfe]
        have hS := (hfr vals1).sub (ts := [126, 123]) (S' := [(126, vals1 24), (123, vals1 21)]) rfl
        have hf24 : vals1 24 = .pointer (some ⟨b1, 1, none⟩) := hF 24 (by decide)
        replace hS := hS.conv (t := 126) rfl hf24
        have hf21 : vals1 21 = .bool true := hF 21 (by decide)
        replace hS := hS.conv (t := 123) rfl hf21
        refine L_g hS rfl rfl rfl (fun _ => ?_) (fun h => absurd rfl h)
        obtain ⟨I2, hI2, H⟩ := Gx.ex hG
        exact L_val hS rfl (Ob_load TB_Relay5 rfl rfl rfl ((H.bx 27 rfl).cell 1 rfl)) ⟨rfl, hG⟩
      refine .cons (fun ss hlo hhi vals1 xw hG hF => ?_) ?_
      · obtain rfl : ss = 2 := Nat.le_antisymm hhi hlo
        rw [← hfe]
        have hS := (hfr vals1).sub (ts := [123, 4]) (S' := [(123, vals1 21), (4, .bool tail)]) rfl
        have hf21 : vals1 21 = .bool true := hF 21 (by decide)
        replace hS := hS.conv (t := 123) rfl hf21
        refine L_g hS rfl rfl rfl (fun _ => ?_) (fun h => absurd rfl h)
        exact L_val hS rfl (Ob_c TB_Relay5 rfl) ⟨rfl, hG⟩
      refine .cons (fun ss hlo hhi vals1 xw hG hF => ?_) ?_
      · obtain rfl : ss = 2 := Nat.le_antisymm hhi hlo
        rw [← hfe]
        have hS := (hfr vals1).sub (ts := [123, 6]) (S' := [(123, vals1 21), (6, .pointer (some ⟨b1, 0, none⟩))]) rfl
        have hf21 : vals1 21 = .bool true := hF 21 (by decide)
        replace hS := hS.conv (t := 123) rfl hf21
        refine L_g hS rfl rfl rfl (fun _ => ?_) (fun h => absurd rfl h)
        obtain ⟨I2, hI2, H⟩ := Gx.ex hG
        exact L_val hS rfl (Ob_idxa (b := b1) (off := 0) (m := 1) Try.underlying42 (by kernel_rfl) (2) rfl rfl rfl rfl (show 2 < 5 from by decide)) ⟨rfl, hG⟩
      refine .cons (fun ss hlo hhi vals1 xw hG hF => ?_) ?_
      · obtain rfl : ss = 2 := Nat.le_antisymm hhi hlo
        rw [← hfe]
        have hS := (hfr vals1).sub (ts := [129, 123]) (S' := [(129, vals1 27), (123, vals1 21)]) rfl
        have hf27 : vals1 27 = .pointer (some ⟨b1, 2, none⟩) := hF 27 (by decide)
        replace hS := hS.conv (t := 129) rfl hf27
        have hf21 : vals1 21 = .bool true := hF 21 (by decide)
        replace hS := hS.conv (t := 123) rfl hf21
        refine L_g hS rfl rfl rfl (fun _ => ?_) (fun h => absurd rfl h)
        obtain ⟨I2, hI2, H⟩ := Gx.ex hG
        exact L_val hS rfl (Ob_load TB_Relay5 rfl rfl rfl ((H.bx 27 rfl).cell 2 rfl)) ⟨rfl, hG⟩
      refine .cons (fun ss hlo hhi vals1 xw hG hF => ?_) ?_
      · obtain rfl : ss = 2 := Nat.le_antisymm hhi hlo
        rw [← hfe]
        have hS := (hfr vals1).sub (ts := [125, 127, 128, 130, 123]) (S' := [(125, vals1 23), (127, vals1 25), (128, vals1 26), (130, vals1 28), (123, vals1 21)]) rfl
        have hf23 : vals1 23 = .int .i64 n00 := hF 23 (by decide)
        replace hS := hS.conv (t := 125) rfl hf23
        have hf25 : vals1 25 = .int .i64 n01 := hF 25 (by decide)
        replace hS := hS.conv (t := 127) rfl hf25
        have hf26 : vals1 26 = .bool tail := hF 26 (by decide)
        replace hS := hS.conv (t := 128) rfl hf26
        have hf28 : vals1 28 = .int .i64 n02 := hF 28 (by decide)
        replace hS := hS.conv (t := 130) rfl hf28
        have hf21 : vals1 21 = .bool true := hF 21 (by decide)
        replace hS := hS.conv (t := 123) rfl hf21
        refine L_g hS rfl rfl rfl (fun _ => ?_) (fun h => absurd rfl h)
        obtain ⟨I2, hI2, H⟩ := Gx.ex hG
        refine L_call (caps := #[]) hS fn_18_Relay5 rfl rfl rfl rfl rfl (c_relay_Held n00 n01 tail n02 _ h_n00 h_n01 h_n02) fun r yw hr => ?_
        obtain ⟨rfl, hb⟩ := hr
        exact ⟨rfl, Gx.blw hG hb⟩
      refine .cons (fun ss hlo hhi vals1 xw hG hF => ?_) ?_
      · obtain rfl : ss = 2 := Nat.le_antisymm hhi hlo
        rw [← hfe]
        have hS := (hfr vals1).sub (ts := [123, 6]) (S' := [(123, vals1 21), (6, .pointer (some ⟨b1, 0, none⟩))]) rfl
        have hf21 : vals1 21 = .bool true := hF 21 (by decide)
        replace hS := hS.conv (t := 123) rfl hf21
        refine L_g hS rfl rfl rfl (fun _ => ?_) (fun h => absurd rfl h)
        obtain ⟨I2, hI2, H⟩ := Gx.ex hG
        exact L_val hS rfl (Ob_idxa (b := b1) (off := 0) (m := 1) Try.underlying42 (by kernel_rfl) (0) rfl rfl rfl rfl (show 0 < 5 from by decide)) ⟨rfl, hG⟩
      refine .cons (fun ss hlo hhi vals1 xw hG hF => ?_) ?_
      · obtain rfl : ss = 2 := Nat.le_antisymm hhi hlo
        rw [← hfe]
        have hS := (hfr vals1).sub (ts := [132, 123]) (S' := [(132, vals1 30), (123, vals1 21)]) rfl
        have hf30 : vals1 30 = .pointer (some ⟨b1, 0, none⟩) := hF 30 (by decide)
        replace hS := hS.conv (t := 132) rfl hf30
        have hf21 : vals1 21 = .bool true := hF 21 (by decide)
        replace hS := hS.conv (t := 123) rfl hf21
        refine L_g hS rfl rfl rfl (fun _ => ?_) (fun h => absurd rfl h)
        obtain ⟨I2, hI2, H⟩ := Gx.ex hG
        exact L_val hS rfl (Ob_load TB_Relay5 rfl rfl rfl ((H.bx 27 rfl).cell 0 rfl)) ⟨rfl, hG⟩
      refine .cons (fun ss hlo hhi vals1 xw hG hF => ?_) ?_
      · obtain rfl : ss = 2 := Nat.le_antisymm hhi hlo
        rw [← hfe]
        have hS := (hfr vals1).sub (ts := [123, 6]) (S' := [(123, vals1 21), (6, .pointer (some ⟨b1, 0, none⟩))]) rfl
        have hf21 : vals1 21 = .bool true := hF 21 (by decide)
        replace hS := hS.conv (t := 123) rfl hf21
        refine L_g hS rfl rfl rfl (fun _ => ?_) (fun h => absurd rfl h)
        obtain ⟨I2, hI2, H⟩ := Gx.ex hG
        exact L_val hS rfl (Ob_idxa (b := b1) (off := 0) (m := 1) Try.underlying42 (by kernel_rfl) (1) rfl rfl rfl rfl (show 1 < 5 from by decide)) ⟨rfl, hG⟩
      refine .cons (fun ss hlo hhi vals1 xw hG hF => ?_) ?_
      · obtain rfl : ss = 2 := Nat.le_antisymm hhi hlo
        rw [← hfe]
        have hS := (hfr vals1).sub (ts := [134, 123]) (S' := [(134, vals1 32), (123, vals1 21)]) rfl
        have hf32 : vals1 32 = .pointer (some ⟨b1, 1, none⟩) := hF 32 (by decide)
        replace hS := hS.conv (t := 134) rfl hf32
        have hf21 : vals1 21 = .bool true := hF 21 (by decide)
        replace hS := hS.conv (t := 123) rfl hf21
        refine L_g hS rfl rfl rfl (fun _ => ?_) (fun h => absurd rfl h)
        obtain ⟨I2, hI2, H⟩ := Gx.ex hG
        exact L_val hS rfl (Ob_load TB_Relay5 rfl rfl rfl ((H.bx 27 rfl).cell 1 rfl)) ⟨rfl, hG⟩
      refine .cons (fun ss hlo hhi vals1 xw hG hF => ?_) ?_
      · obtain rfl : ss = 2 := Nat.le_antisymm hhi hlo
        rw [← hfe]
        have hS := (hfr vals1).sub (ts := [123, 4]) (S' := [(123, vals1 21), (4, .bool tail)]) rfl
        have hf21 : vals1 21 = .bool true := hF 21 (by decide)
        replace hS := hS.conv (t := 123) rfl hf21
        refine L_g hS rfl rfl rfl (fun _ => ?_) (fun h => absurd rfl h)
        exact L_val hS rfl (Ob_c TB_Relay5 rfl) ⟨rfl, hG⟩
      refine .cons (fun ss hlo hhi vals1 xw hG hF => ?_) ?_
      · obtain rfl : ss = 2 := Nat.le_antisymm hhi hlo
        rw [← hfe]
        have hS := (hfr vals1).sub (ts := [123, 6]) (S' := [(123, vals1 21), (6, .pointer (some ⟨b1, 0, none⟩))]) rfl
        have hf21 : vals1 21 = .bool true := hF 21 (by decide)
        replace hS := hS.conv (t := 123) rfl hf21
        refine L_g hS rfl rfl rfl (fun _ => ?_) (fun h => absurd rfl h)
        obtain ⟨I2, hI2, H⟩ := Gx.ex hG
        exact L_val hS rfl (Ob_idxa (b := b1) (off := 0) (m := 1) Try.underlying42 (by kernel_rfl) (2) rfl rfl rfl rfl (show 2 < 5 from by decide)) ⟨rfl, hG⟩
      refine .cons (fun ss hlo hhi vals1 xw hG hF => ?_) ?_
      · obtain rfl : ss = 2 := Nat.le_antisymm hhi hlo
        rw [← hfe]
        have hS := (hfr vals1).sub (ts := [137, 123]) (S' := [(137, vals1 35), (123, vals1 21)]) rfl
        have hf35 : vals1 35 = .pointer (some ⟨b1, 2, none⟩) := hF 35 (by decide)
        replace hS := hS.conv (t := 137) rfl hf35
        have hf21 : vals1 21 = .bool true := hF 21 (by decide)
        replace hS := hS.conv (t := 123) rfl hf21
        refine L_g hS rfl rfl rfl (fun _ => ?_) (fun h => absurd rfl h)
        obtain ⟨I2, hI2, H⟩ := Gx.ex hG
        exact L_val hS rfl (Ob_load TB_Relay5 rfl rfl rfl ((H.bx 27 rfl).cell 2 rfl)) ⟨rfl, hG⟩
      refine .cons (fun ss hlo hhi vals1 xw hG hF => ?_) ?_
      · obtain rfl : ss = 2 := Nat.le_antisymm hhi hlo
        rw [← hfe]
        have hS := (hfr vals1).sub (ts := [133, 135, 136, 138, 123]) (S' := [(133, vals1 31), (135, vals1 33), (136, vals1 34), (138, vals1 36), (123, vals1 21)]) rfl
        have hf31 : vals1 31 = .int .i64 n00 := hF 31 (by decide)
        replace hS := hS.conv (t := 133) rfl hf31
        have hf33 : vals1 33 = .int .i64 n01 := hF 33 (by decide)
        replace hS := hS.conv (t := 135) rfl hf33
        have hf34 : vals1 34 = .bool tail := hF 34 (by decide)
        replace hS := hS.conv (t := 136) rfl hf34
        have hf36 : vals1 36 = .int .i64 n02 := hF 36 (by decide)
        replace hS := hS.conv (t := 138) rfl hf36
        have hf21 : vals1 21 = .bool true := hF 21 (by decide)
        replace hS := hS.conv (t := 123) rfl hf21
        refine L_g hS rfl rfl rfl (fun _ => ?_) (fun h => absurd rfl h)
        obtain ⟨I2, hI2, H⟩ := Gx.ex hG
        refine L_call (caps := #[]) hS fn_19_Relay5 rfl rfl rfl rfl rfl (c_ref32_Held n00 n01 tail n02 _ h_n00 h_n01 h_n02) fun r yw hr => ?_
        obtain ⟨rfl, hb⟩ := hr
        exact ⟨rfl, Gx.blw hG hb⟩
      refine .cons (fun ss hlo hhi vals1 xw hG hF => ?_) ?_
      · obtain rfl : ss = 2 := Nat.le_antisymm hhi hlo
        rw [← hfe]
        have hS := (hfr vals1).sub (ts := [131, 139, 123]) (S' := [(131, vals1 29), (139, vals1 37), (123, vals1 21)]) rfl
        have hf29 : vals1 29 = .int .i64 (if tail = true then max (min n00 n01) 0 else max (min (min n00 n01) n02) 0) := hF 29 (by decide)
        replace hS := hS.conv (t := 131) rfl hf29
        have hf37 : vals1 37 = .int .i64 (if tail = true then max (min n00 n01) 0 else max (min (min n00 n01) n02) 0) := hF 37 (by decide)
        replace hS := hS.conv (t := 139) rfl hf37
        have hf21 : vals1 21 = .bool true := hF 21 (by decide)
        replace hS := hS.conv (t := 123) rfl hf21
        refine L_g hS rfl rfl rfl (fun _ => ?_) (fun h => absurd rfl h)
        exact L_val hS rfl (Ob_c TB_Relay5 rfl) ⟨congrArg Value.bool hkn1, hG⟩
      refine .cons (fun ss hlo hhi vals1 xw hG hF => ?_) ?_
      · obtain rfl : ss = 2 := Nat.le_antisymm hhi hlo
        rw [← hfe]
        have hS := (hfr vals1).sub (ts := [123, 140]) (S' := [(123, vals1 21), (140, vals1 38)]) rfl
        have hf21 : vals1 21 = .bool true := hF 21 (by decide)
        replace hS := hS.conv (t := 123) rfl hf21
        have hf38 : vals1 38 = .bool true := hF 38 (by decide)
        replace hS := hS.conv (t := 140) rfl hf38
        exact L_val hS rfl (Ob_pick rfl rfl rfl rfl rfl) ⟨rfl, hG⟩
      refine .cons (fun ss hlo hhi vals1 xw hG hF => ?_) ?_
      · obtain rfl : ss = 2 := Nat.le_antisymm hhi hlo
        rw [← hfe]
        have hS := (hfr vals1).sub (ts := [141]) (S' := [(141, vals1 39)]) rfl
        have hf39 : vals1 39 = .bool true := hF 39 (by decide)
        replace hS := hS.conv (t := 141) rfl hf39
        exact L_val hS rfl (Ob_c TB_Relay5 rfl) ⟨rfl, hG⟩
      refine .cons (fun ss hlo hhi vals1 xw hG hF => ?_) ?_
      · obtain rfl : ss = 2 := Nat.le_antisymm hhi hlo
        rw [← hfe]
        have hS := (hfr vals1).sub (ts := [142, 8]) (S' := [(142, vals1 40), (8, .pointer (some ⟨b2, 0, none⟩))]) rfl
        have hf40 : vals1 40 = .bool true := hF 40 (by decide)
        replace hS := hS.conv (t := 142) rfl hf40
        refine L_g hS rfl rfl rfl (fun _ => ?_) (fun h => absurd rfl h)
        obtain ⟨I2, hI2, H⟩ := Gx.ex hG
        exact L_val hS rfl (Ob_loads TB_Relay5 (cs := [.int .i64 x.k, .int .i64 x.epoch, .int .i64 x.req, .int .i64 x.serial, .bool x.flag, .int .u64 (x.at_ : Int), .int .u64 (x.last : Int), .int .i64 x.n, .int .i64 x.m, .int .i64 x.p, .int .i64 x.e, .string x.key, .string x.to_, .int .i64 x.conf.epoch, .slice ao_v0_x x.conf.members.length cap_v0_x, .int .u64 (x.conf.floor : Int), .int .i64 x.batch.client, .int .i64 x.batch.req, .slice ao_v1_x x.batch.ops.length cap_v1_x, .slice ao_v2_x x.entries.length cap_v2_x, .slice ao_v3_x x.stamps.length cap_v3_x, .slice ao_v4_x x.pairs.length cap_v4_x]) rfl rfl rfl (H.bx 26 rfl).at) ⟨rfl, hG⟩
      refine .cons (fun ss hlo hhi vals1 xw hG hF => ?_) ?_
      · obtain rfl : ss = 2 := Nat.le_antisymm hhi hlo
        rw [← hfe]
        have hS := (hfr vals1).sub (ts := [142, 6]) (S' := [(142, vals1 40), (6, .pointer (some ⟨b1, 0, none⟩))]) rfl
        have hf40 : vals1 40 = .bool true := hF 40 (by decide)
        replace hS := hS.conv (t := 142) rfl hf40
        refine L_g hS rfl rfl rfl (fun _ => ?_) (fun h => absurd rfl h)
        obtain ⟨I2, hI2, H⟩ := Gx.ex hG
        exact L_val hS rfl (Ob_idxa (b := b1) (off := 0) (m := 1) Try.underlying42 (by kernel_rfl) (4) rfl rfl rfl rfl (show 4 < 5 from by decide)) ⟨rfl, hG⟩
      refine .cons (fun ss hlo hhi vals1 xw hG hF => ?_) ?_
      · obtain rfl : ss = 2 := Nat.le_antisymm hhi hlo
        rw [← hfe]
        have hS := (hfr vals1).sub (ts := [144, 142]) (S' := [(144, vals1 42), (142, vals1 40)]) rfl
        have hf42 : vals1 42 = .pointer (some ⟨b1, 4, none⟩) := hF 42 (by decide)
        replace hS := hS.conv (t := 144) rfl hf42
        have hf40 : vals1 40 = .bool true := hF 40 (by decide)
        replace hS := hS.conv (t := 142) rfl hf40
        refine L_g hS rfl rfl rfl (fun _ => ?_) (fun h => absurd rfl h)
        obtain ⟨I2, hI2, H⟩ := Gx.ex hG
        exact L_val hS rfl (Ob_load TB_Relay5 rfl rfl rfl ((H.bx 27 rfl).cell 4 rfl)) ⟨rfl, hG⟩
      refine .cons (fun ss hlo hhi vals1 xw hG hF => ?_) ?_
      · obtain rfl : ss = 2 := Nat.le_antisymm hhi hlo
        rw [← hfe]
        have hS := (hfr vals1).sub (ts := [143, 145, 142]) (S' := [(143, vals1 41), (145, vals1 43), (142, vals1 40)]) rfl
        have hf41 : vals1 41 = .agg #[.int .i64 x.k, .int .i64 x.epoch, .int .i64 x.req, .int .i64 x.serial, .bool x.flag, .int .u64 (x.at_ : Int), .int .u64 (x.last : Int), .int .i64 x.n, .int .i64 x.m, .int .i64 x.p, .int .i64 x.e, .string x.key, .string x.to_, .int .i64 x.conf.epoch, .slice ao_v0_x x.conf.members.length cap_v0_x, .int .u64 (x.conf.floor : Int), .int .i64 x.batch.client, .int .i64 x.batch.req, .slice ao_v1_x x.batch.ops.length cap_v1_x, .slice ao_v2_x x.entries.length cap_v2_x, .slice ao_v3_x x.stamps.length cap_v3_x, .slice ao_v4_x x.pairs.length cap_v4_x] := hF 41 (by decide)
        replace hS := hS.conv (t := 143) rfl hf41
        have hf43 : vals1 43 = .int .i64 n04 := hF 43 (by decide)
        replace hS := hS.conv (t := 145) rfl hf43
        have hf40 : vals1 40 = .bool true := hF 40 (by decide)
        replace hS := hS.conv (t := 142) rfl hf40
        refine L_g hS rfl rfl rfl (fun _ => ?_) (fun h => absurd rfl h)
        obtain ⟨I2, hI2, H⟩ := Gx.ex hG
        refine L_call (caps := #[]) hS fn_20_Relay5 rfl rfl rfl rfl rfl (c_relay_Good x _ _ _ _ _ n04 _ (H.sl 32 rfl) (H.sl 31 rfl) (H.sl 30 rfl) (H.sl 29 rfl) (H.sl 28 rfl) h_x h_n04) fun r yw hr => ?_
        obtain ⟨rfl, hb⟩ := hr
        exact ⟨rfl, Gx.blw hG hb⟩
      refine .cons (fun ss hlo hhi vals1 xw hG hF => ?_) ?_
      · obtain rfl : ss = 2 := Nat.le_antisymm hhi hlo
        rw [← hfe]
        have hS := (hfr vals1).sub (ts := [142, 8]) (S' := [(142, vals1 40), (8, .pointer (some ⟨b2, 0, none⟩))]) rfl
        have hf40 : vals1 40 = .bool true := hF 40 (by decide)
        replace hS := hS.conv (t := 142) rfl hf40
        refine L_g hS rfl rfl rfl (fun _ => ?_) (fun h => absurd rfl h)
        obtain ⟨I2, hI2, H⟩ := Gx.ex hG
        exact L_val hS rfl (Ob_loads TB_Relay5 (cs := [.int .i64 x.k, .int .i64 x.epoch, .int .i64 x.req, .int .i64 x.serial, .bool x.flag, .int .u64 (x.at_ : Int), .int .u64 (x.last : Int), .int .i64 x.n, .int .i64 x.m, .int .i64 x.p, .int .i64 x.e, .string x.key, .string x.to_, .int .i64 x.conf.epoch, .slice ao_v0_x x.conf.members.length cap_v0_x, .int .u64 (x.conf.floor : Int), .int .i64 x.batch.client, .int .i64 x.batch.req, .slice ao_v1_x x.batch.ops.length cap_v1_x, .slice ao_v2_x x.entries.length cap_v2_x, .slice ao_v3_x x.stamps.length cap_v3_x, .slice ao_v4_x x.pairs.length cap_v4_x]) rfl rfl rfl (H.bx 26 rfl).at) ⟨rfl, hG⟩
      refine .cons (fun ss hlo hhi vals1 xw hG hF => ?_) ?_
      · obtain rfl : ss = 2 := Nat.le_antisymm hhi hlo
        rw [← hfe]
        have hS := (hfr vals1).sub (ts := [142, 6]) (S' := [(142, vals1 40), (6, .pointer (some ⟨b1, 0, none⟩))]) rfl
        have hf40 : vals1 40 = .bool true := hF 40 (by decide)
        replace hS := hS.conv (t := 142) rfl hf40
        refine L_g hS rfl rfl rfl (fun _ => ?_) (fun h => absurd rfl h)
        obtain ⟨I2, hI2, H⟩ := Gx.ex hG
        exact L_val hS rfl (Ob_idxa (b := b1) (off := 0) (m := 1) Try.underlying42 (by kernel_rfl) (4) rfl rfl rfl rfl (show 4 < 5 from by decide)) ⟨rfl, hG⟩
      refine .cons (fun ss hlo hhi vals1 xw hG hF => ?_) ?_
      · obtain rfl : ss = 2 := Nat.le_antisymm hhi hlo
        rw [← hfe]
        have hS := (hfr vals1).sub (ts := [148, 142]) (S' := [(148, vals1 46), (142, vals1 40)]) rfl
        have hf46 : vals1 46 = .pointer (some ⟨b1, 4, none⟩) := hF 46 (by decide)
        replace hS := hS.conv (t := 148) rfl hf46
        have hf40 : vals1 40 = .bool true := hF 40 (by decide)
        replace hS := hS.conv (t := 142) rfl hf40
        refine L_g hS rfl rfl rfl (fun _ => ?_) (fun h => absurd rfl h)
        obtain ⟨I2, hI2, H⟩ := Gx.ex hG
        exact L_val hS rfl (Ob_load TB_Relay5 rfl rfl rfl ((H.bx 27 rfl).cell 4 rfl)) ⟨rfl, hG⟩
      refine .cons (fun ss hlo hhi vals1 xw hG hF => ?_) ?_
      · obtain rfl : ss = 2 := Nat.le_antisymm hhi hlo
        rw [← hfe]
        have hS := (hfr vals1).sub (ts := [147, 149, 142]) (S' := [(147, vals1 45), (149, vals1 47), (142, vals1 40)]) rfl
        have hf45 : vals1 45 = .agg #[.int .i64 x.k, .int .i64 x.epoch, .int .i64 x.req, .int .i64 x.serial, .bool x.flag, .int .u64 (x.at_ : Int), .int .u64 (x.last : Int), .int .i64 x.n, .int .i64 x.m, .int .i64 x.p, .int .i64 x.e, .string x.key, .string x.to_, .int .i64 x.conf.epoch, .slice ao_v0_x x.conf.members.length cap_v0_x, .int .u64 (x.conf.floor : Int), .int .i64 x.batch.client, .int .i64 x.batch.req, .slice ao_v1_x x.batch.ops.length cap_v1_x, .slice ao_v2_x x.entries.length cap_v2_x, .slice ao_v3_x x.stamps.length cap_v3_x, .slice ao_v4_x x.pairs.length cap_v4_x] := hF 45 (by decide)
        replace hS := hS.conv (t := 147) rfl hf45
        have hf47 : vals1 47 = .int .i64 n04 := hF 47 (by decide)
        replace hS := hS.conv (t := 149) rfl hf47
        have hf40 : vals1 40 = .bool true := hF 40 (by decide)
        replace hS := hS.conv (t := 142) rfl hf40
        refine L_g hS rfl rfl rfl (fun _ => ?_) (fun h => absurd rfl h)
        obtain ⟨I2, hI2, H⟩ := Gx.ex hG
        refine L_call (caps := #[]) hS fn_21_Relay5 rfl rfl rfl rfl rfl (c_ref32_Good x _ _ _ _ _ n04 _ (H.sl 32 rfl) (H.sl 31 rfl) (H.sl 30 rfl) (H.sl 29 rfl) (H.sl 28 rfl) h_x h_n04) fun r yw hr => ?_
        obtain ⟨rfl, hb⟩ := hr
        exact ⟨rfl, Gx.blw hG hb⟩
      refine .cons (fun ss hlo hhi vals1 xw hG hF => ?_) ?_
      · obtain rfl : ss = 2 := Nat.le_antisymm hhi hlo
        rw [← hfe]
        have hS := (hfr vals1).sub (ts := [146, 150, 142]) (S' := [(146, vals1 44), (150, vals1 48), (142, vals1 40)]) rfl
        have hf44 : vals1 44 = .int .i64 (max (min x.n n04) 0) := hF 44 (by decide)
        replace hS := hS.conv (t := 146) rfl hf44
        have hf48 : vals1 48 = .int .i64 (max (min x.n n04) 0) := hF 48 (by decide)
        replace hS := hS.conv (t := 150) rfl hf48
        have hf40 : vals1 40 = .bool true := hF 40 (by decide)
        replace hS := hS.conv (t := 142) rfl hf40
        refine L_g hS rfl rfl rfl (fun _ => ?_) (fun h => absurd rfl h)
        exact L_val hS rfl (Ob_c TB_Relay5 rfl) ⟨congrArg Value.bool hkn2, hG⟩
      refine .cons (fun ss hlo hhi vals1 xw hG hF => ?_) ?_
      · obtain rfl : ss = 2 := Nat.le_antisymm hhi hlo
        rw [← hfe]
        have hS := (hfr vals1).sub (ts := [142, 151]) (S' := [(142, vals1 40), (151, vals1 49)]) rfl
        have hf40 : vals1 40 = .bool true := hF 40 (by decide)
        replace hS := hS.conv (t := 142) rfl hf40
        have hf49 : vals1 49 = .bool true := hF 49 (by decide)
        replace hS := hS.conv (t := 151) rfl hf49
        exact L_val hS rfl (Ob_pick rfl rfl rfl rfl rfl) ⟨rfl, hG⟩
      refine .cons (fun ss hlo hhi vals1 xw hG hF => ?_) ?_
      · obtain rfl : ss = 2 := Nat.le_antisymm hhi hlo
        rw [← hfe]
        have hS := (hfr vals1).sub (ts := [152]) (S' := [(152, vals1 50)]) rfl
        have hf50 : vals1 50 = .bool true := hF 50 (by decide)
        replace hS := hS.conv (t := 152) rfl hf50
        exact L_val hS rfl (Ob_c TB_Relay5 rfl) ⟨rfl, hG⟩
      refine .cons (fun ss hlo hhi vals1 xw hG hF => ?_) ?_
      · obtain rfl : ss = 2 := Nat.le_antisymm hhi hlo
        rw [← hfe]
        have hS := (hfr vals1).sub (ts := [153]) (S' := [(153, vals1 51)]) rfl
        have hf51 : vals1 51 = .bool true := hF 51 (by decide)
        replace hS := hS.conv (t := 153) rfl hf51
        refine L_g hS rfl rfl rfl (fun _ => ?_) (fun h => absurd rfl h)
        obtain ⟨I2, hI2, H⟩ := Gx.ex hG
        refine L_call (caps := #[]) hS fn_8_Relay5 rfl rfl rfl rfl rfl (c_awake  _ ) fun r yw hr => ?_
        obtain ⟨rfl, hb⟩ := hr
        exact ⟨rfl, Gx.blw hG hb⟩
      refine .cons (fun ss hlo hhi vals1 xw hG hF => ?_) ?_
      · obtain rfl : ss = 2 := Nat.le_antisymm hhi hlo
        rw [← hfe]
        have hS := (hfr vals1).sub (ts := [153, 154]) (S' := [(153, vals1 51), (154, vals1 52)]) rfl
        have hf51 : vals1 51 = .bool true := hF 51 (by decide)
        replace hS := hS.conv (t := 153) rfl hf51
        have hf52 : vals1 52 = .bool true := hF 52 (by decide)
        replace hS := hS.conv (t := 154) rfl hf52
        exact L_val hS rfl (Ob_pick rfl rfl rfl rfl rfl) ⟨rfl, hG⟩
      refine .cons (fun ss hlo hhi vals1 xw hG hF => ?_) ?_
      · obtain rfl : ss = 2 := Nat.le_antisymm hhi hlo
        rw [← hfe]
        have hS := (hfr vals1).sub (ts := [155]) (S' := [(155, vals1 53)]) rfl
        have hf53 : vals1 53 = .bool true := hF 53 (by decide)
        replace hS := hS.conv (t := 155) rfl hf53
        exact L_val hS rfl (Ob_c TB_Relay5 rfl) ⟨rfl, hG⟩
      exact .nil
    · intro vals1 a w17 hok hG hF
      replace hok := hok.sub (ts := [0, 1, 2, 3, 4, 6, 8, 10, 54, 11, 12, 13, 14]) (S' := [(0, .slice ao_v_l l.length cap_v_l), (1, .agg #[.int .i64 n00, .int .i64 n01, .int .i64 n02, .int .i64 n03, .int .i64 n04]), (2, .int .u64 (horizon : Int)), (3, .agg #[.int .i64 x.k, .int .i64 x.epoch, .int .i64 x.req, .int .i64 x.serial, .bool x.flag, .int .u64 (x.at_ : Int), .int .u64 (x.last : Int), .int .i64 x.n, .int .i64 x.m, .int .i64 x.p, .int .i64 x.e, .string x.key, .string x.to_, .int .i64 x.conf.epoch, .slice ao_v0_x x.conf.members.length cap_v0_x, .int .u64 (x.conf.floor : Int), .int .i64 x.batch.client, .int .i64 x.batch.req, .slice ao_v1_x x.batch.ops.length cap_v1_x, .slice ao_v2_x x.entries.length cap_v2_x, .slice ao_v3_x x.stamps.length cap_v3_x, .slice ao_v4_x x.pairs.length cap_v4_x]), (4, .bool tail), (6, .pointer (some ⟨b1, 0, none⟩)), (8, .pointer (some ⟨b2, 0, none⟩)), (10, vals1 54), (54, .bool (((((((decide ((muchI l (min l.length 200)) > 80)) || (decide ((x.stamps.length : Int) > 40))) || (decide (x.p < (-1000000)))) || (decide ((x.entries.length : Int) > 20))) || (decide ((x.pairs.length : Int) > 40))) || (decide ((x.conf.members.length : Int) > 20))) || (decide ((x.batch.ops.length : Int) > 20)))), (11, .pointer (some ⟨b3, 0, none⟩)), (12, .pointer (some ⟨b4, 0, none⟩)), (13, .pointer (some ⟨b5, 0, none⟩)), (14, .pointer (some ⟨b6, 0, none⟩))]) rfl
      have hv_vals1_13 : vals1 13 = .slice (aoOf (vals1 13)) ((learnP l n04 x).length) (capOf (vals1 13)) ∧ (learnP l n04 x).length ≤ capOf (vals1 13) ∧ capOf (vals1 13) ≤ maxLen := hF 13 (by decide)
      have hv_vals1_18 : vals1 18 = .slice (aoOf (vals1 18)) ((learnL l n04 x).length) (capOf (vals1 18)) ∧ (learnL l n04 x).length ≤ capOf (vals1 18) ∧ capOf (vals1 18) ≤ maxLen := hF 18 (by decide)
      have hf54 : vals1 54 = .bool true := hF 54 (by decide)
      replace hok := hok.conv (t := 10) rfl hf54
      obtain ⟨I5, hI5, H⟩ := Gx.ex hG
      clear hG hF
      replace H : Hf I NoD w I5 w17 [SlC RDNote (.slice (aoOf (vals1 18)) ((learnL l n04 x).length) (capOf (vals1 18))) (learnL l n04 x), SlC RDNote (.slice (aoOf (vals1 13)) ((learnP l n04 x).length) (capOf (vals1 13))) (learnP l n04 x), BxC b6 37 [.int .i64 ((ackD n00 n04 n01 n02 l).k), .int .i64 ((ackD n00 n04 n01 n02 l).epoch), .int .i64 ((ackD n00 n04 n01 n02 l).req), .int .i64 ((ackD n00 n04 n01 n02 l).serial), .bool ((ackD n00 n04 n01 n02 l).flag), .int .u64 ((ackD n00 n04 n01 n02 l).at_ : Int), .int .u64 ((ackD n00 n04 n01 n02 l).last : Int), .int .i64 ((ackD n00 n04 n01 n02 l).n), .int .i64 ((ackD n00 n04 n01 n02 l).m), .int .i64 ((ackD n00 n04 n01 n02 l).p), .int .i64 ((ackD n00 n04 n01 n02 l).e), .string ((ackD n00 n04 n01 n02 l).key), .string ((ackD n00 n04 n01 n02 l).to_), .int .i64 ((ackD n00 n04 n01 n02 l).conf.epoch), .slice ao_q16 (((ackD n00 n04 n01 n02 l).conf.members).length) cap_q16, .int .u64 ((ackD n00 n04 n01 n02 l).conf.floor : Int), .int .i64 ((ackD n00 n04 n01 n02 l).batch.client), .int .i64 ((ackD n00 n04 n01 n02 l).batch.req), .slice ao_q17 (((ackD n00 n04 n01 n02 l).batch.ops).length) cap_q17, .slice ao_q18 (((ackD n00 n04 n01 n02 l).entries).length) cap_q18, .slice ao_q19 (((ackD n00 n04 n01 n02 l).stamps).length) cap_q19, .slice ao_q20 (((ackD n00 n04 n01 n02 l).pairs).length) cap_q20], SlC RDPair (.slice ao_q20 (((ackD n00 n04 n01 n02 l).pairs).length) cap_q20) ((ackD n00 n04 n01 n02 l).pairs), SlC RU (.slice ao_q19 (((ackD n00 n04 n01 n02 l).stamps).length) cap_q19) ((ackD n00 n04 n01 n02 l).stamps), SlC RDEntry (.slice ao_q18 (((ackD n00 n04 n01 n02 l).entries).length) cap_q18) ((ackD n00 n04 n01 n02 l).entries), SlC RDOp (.slice ao_q17 (((ackD n00 n04 n01 n02 l).batch.ops).length) cap_q17) ((ackD n00 n04 n01 n02 l).batch.ops), SlC RDMember (.slice ao_q16 (((ackD n00 n04 n01 n02 l).conf.members).length) cap_q16) ((ackD n00 n04 n01 n02 l).conf.members), BxC b5 37 [.int .i64 ((ackP n00 n04 n01 n02 l).k), .int .i64 ((ackP n00 n04 n01 n02 l).epoch), .int .i64 ((ackP n00 n04 n01 n02 l).req), .int .i64 ((ackP n00 n04 n01 n02 l).serial), .bool ((ackP n00 n04 n01 n02 l).flag), .int .u64 ((ackP n00 n04 n01 n02 l).at_ : Int), .int .u64 ((ackP n00 n04 n01 n02 l).last : Int), .int .i64 ((ackP n00 n04 n01 n02 l).n), .int .i64 ((ackP n00 n04 n01 n02 l).m), .int .i64 ((ackP n00 n04 n01 n02 l).p), .int .i64 ((ackP n00 n04 n01 n02 l).e), .string ((ackP n00 n04 n01 n02 l).key), .string ((ackP n00 n04 n01 n02 l).to_), .int .i64 ((ackP n00 n04 n01 n02 l).conf.epoch), .slice ao_q11 (((ackP n00 n04 n01 n02 l).conf.members).length) cap_q11, .int .u64 ((ackP n00 n04 n01 n02 l).conf.floor : Int), .int .i64 ((ackP n00 n04 n01 n02 l).batch.client), .int .i64 ((ackP n00 n04 n01 n02 l).batch.req), .slice ao_q12 (((ackP n00 n04 n01 n02 l).batch.ops).length) cap_q12, .slice ao_q13 (((ackP n00 n04 n01 n02 l).entries).length) cap_q13, .slice ao_q14 (((ackP n00 n04 n01 n02 l).stamps).length) cap_q14, .slice ao_q15 (((ackP n00 n04 n01 n02 l).pairs).length) cap_q15], SlC RDPair (.slice ao_q15 (((ackP n00 n04 n01 n02 l).pairs).length) cap_q15) ((ackP n00 n04 n01 n02 l).pairs), SlC RU (.slice ao_q14 (((ackP n00 n04 n01 n02 l).stamps).length) cap_q14) ((ackP n00 n04 n01 n02 l).stamps), SlC RDEntry (.slice ao_q13 (((ackP n00 n04 n01 n02 l).entries).length) cap_q13) ((ackP n00 n04 n01 n02 l).entries), SlC RDOp (.slice ao_q12 (((ackP n00 n04 n01 n02 l).batch.ops).length) cap_q12) ((ackP n00 n04 n01 n02 l).batch.ops), SlC RDMember (.slice ao_q11 (((ackP n00 n04 n01 n02 l).conf.members).length) cap_q11) ((ackP n00 n04 n01 n02 l).conf.members), BxC b4 37 [.int .i64 ((fwdD n00 n01 n02 n03 horizon l n04).k), .int .i64 ((fwdD n00 n01 n02 n03 horizon l n04).epoch), .int .i64 ((fwdD n00 n01 n02 n03 horizon l n04).req), .int .i64 ((fwdD n00 n01 n02 n03 horizon l n04).serial), .bool ((fwdD n00 n01 n02 n03 horizon l n04).flag), .int .u64 ((fwdD n00 n01 n02 n03 horizon l n04).at_ : Int), .int .u64 ((fwdD n00 n01 n02 n03 horizon l n04).last : Int), .int .i64 ((fwdD n00 n01 n02 n03 horizon l n04).n), .int .i64 ((fwdD n00 n01 n02 n03 horizon l n04).m), .int .i64 ((fwdD n00 n01 n02 n03 horizon l n04).p), .int .i64 ((fwdD n00 n01 n02 n03 horizon l n04).e), .string ((fwdD n00 n01 n02 n03 horizon l n04).key), .string ((fwdD n00 n01 n02 n03 horizon l n04).to_), .int .i64 ((fwdD n00 n01 n02 n03 horizon l n04).conf.epoch), .slice ao_q6 (((fwdD n00 n01 n02 n03 horizon l n04).conf.members).length) cap_q6, .int .u64 ((fwdD n00 n01 n02 n03 horizon l n04).conf.floor : Int), .int .i64 ((fwdD n00 n01 n02 n03 horizon l n04).batch.client), .int .i64 ((fwdD n00 n01 n02 n03 horizon l n04).batch.req), .slice ao_q7 (((fwdD n00 n01 n02 n03 horizon l n04).batch.ops).length) cap_q7, .slice ao_q8 (((fwdD n00 n01 n02 n03 horizon l n04).entries).length) cap_q8, .slice ao_q9 (((fwdD n00 n01 n02 n03 horizon l n04).stamps).length) cap_q9, .slice ao_q10 (((fwdD n00 n01 n02 n03 horizon l n04).pairs).length) cap_q10], SlC RDPair (.slice ao_q10 (((fwdD n00 n01 n02 n03 horizon l n04).pairs).length) cap_q10) ((fwdD n00 n01 n02 n03 horizon l n04).pairs), SlC RU (.slice ao_q9 (((fwdD n00 n01 n02 n03 horizon l n04).stamps).length) cap_q9) ((fwdD n00 n01 n02 n03 horizon l n04).stamps), SlC RDEntry (.slice ao_q8 (((fwdD n00 n01 n02 n03 horizon l n04).entries).length) cap_q8) ((fwdD n00 n01 n02 n03 horizon l n04).entries), SlC RDOp (.slice ao_q7 (((fwdD n00 n01 n02 n03 horizon l n04).batch.ops).length) cap_q7) ((fwdD n00 n01 n02 n03 horizon l n04).batch.ops), SlC RDMember (.slice ao_q6 (((fwdD n00 n01 n02 n03 horizon l n04).conf.members).length) cap_q6) ((fwdD n00 n01 n02 n03 horizon l n04).conf.members), BxC b3 37 [.int .i64 ((fwdP n00 n01 n02 n03 horizon l n04).k), .int .i64 ((fwdP n00 n01 n02 n03 horizon l n04).epoch), .int .i64 ((fwdP n00 n01 n02 n03 horizon l n04).req), .int .i64 ((fwdP n00 n01 n02 n03 horizon l n04).serial), .bool ((fwdP n00 n01 n02 n03 horizon l n04).flag), .int .u64 ((fwdP n00 n01 n02 n03 horizon l n04).at_ : Int), .int .u64 ((fwdP n00 n01 n02 n03 horizon l n04).last : Int), .int .i64 ((fwdP n00 n01 n02 n03 horizon l n04).n), .int .i64 ((fwdP n00 n01 n02 n03 horizon l n04).m), .int .i64 ((fwdP n00 n01 n02 n03 horizon l n04).p), .int .i64 ((fwdP n00 n01 n02 n03 horizon l n04).e), .string ((fwdP n00 n01 n02 n03 horizon l n04).key), .string ((fwdP n00 n01 n02 n03 horizon l n04).to_), .int .i64 ((fwdP n00 n01 n02 n03 horizon l n04).conf.epoch), .slice ao_q1 (((fwdP n00 n01 n02 n03 horizon l n04).conf.members).length) cap_q1, .int .u64 ((fwdP n00 n01 n02 n03 horizon l n04).conf.floor : Int), .int .i64 ((fwdP n00 n01 n02 n03 horizon l n04).batch.client), .int .i64 ((fwdP n00 n01 n02 n03 horizon l n04).batch.req), .slice ao_q2 (((fwdP n00 n01 n02 n03 horizon l n04).batch.ops).length) cap_q2, .slice ao_q3 (((fwdP n00 n01 n02 n03 horizon l n04).entries).length) cap_q3, .slice ao_q4 (((fwdP n00 n01 n02 n03 horizon l n04).stamps).length) cap_q4, .slice ao_q5 (((fwdP n00 n01 n02 n03 horizon l n04).pairs).length) cap_q5], SlC RDPair (.slice ao_q5 (((fwdP n00 n01 n02 n03 horizon l n04).pairs).length) cap_q5) ((fwdP n00 n01 n02 n03 horizon l n04).pairs), SlC RU (.slice ao_q4 (((fwdP n00 n01 n02 n03 horizon l n04).stamps).length) cap_q4) ((fwdP n00 n01 n02 n03 horizon l n04).stamps), SlC RDEntry (.slice ao_q3 (((fwdP n00 n01 n02 n03 horizon l n04).entries).length) cap_q3) ((fwdP n00 n01 n02 n03 horizon l n04).entries), SlC RDOp (.slice ao_q2 (((fwdP n00 n01 n02 n03 horizon l n04).batch.ops).length) cap_q2) ((fwdP n00 n01 n02 n03 horizon l n04).batch.ops), SlC RDMember (.slice ao_q1 (((fwdP n00 n01 n02 n03 horizon l n04).conf.members).length) cap_q1) ((fwdP n00 n01 n02 n03 horizon l n04).conf.members), BxC b2 37 [.int .i64 x.k, .int .i64 x.epoch, .int .i64 x.req, .int .i64 x.serial, .bool x.flag, .int .u64 (x.at_ : Int), .int .u64 (x.last : Int), .int .i64 x.n, .int .i64 x.m, .int .i64 x.p, .int .i64 x.e, .string x.key, .string x.to_, .int .i64 x.conf.epoch, .slice ao_v0_x x.conf.members.length cap_v0_x, .int .u64 (x.conf.floor : Int), .int .i64 x.batch.client, .int .i64 x.batch.req, .slice ao_v1_x x.batch.ops.length cap_v1_x, .slice ao_v2_x x.entries.length cap_v2_x, .slice ao_v3_x x.stamps.length cap_v3_x, .slice ao_v4_x x.pairs.length cap_v4_x], BxC b1 42 [.int .i64 n00, .int .i64 n01, .int .i64 n02, .int .i64 n03, .int .i64 n04], SlC RDPair (.slice ao_v4_x x.pairs.length cap_v4_x) x.pairs, SlC RU (.slice ao_v3_x x.stamps.length cap_v3_x) x.stamps, SlC RDEntry (.slice ao_v2_x x.entries.length cap_v2_x) x.entries, SlC RDOp (.slice ao_v1_x x.batch.ops.length cap_v1_x) x.batch.ops, SlC RDMember (.slice ao_v0_x x.conf.members.length cap_v0_x) x.conf.members, SlC RDEntry (.slice ao_v_l l.length cap_v_l) l] := H
      refine p_then ?_
      refine wp_ret ?_
      refine f_ret hok (run_results1 rfl hok rfl) ?_
      refine ⟨?_, H.below fun _ h => h⟩
      · clear hok H
        rfl

end Go.Proofs.Ytmdoimpeacndaaa
