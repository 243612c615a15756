/- The walks of the reference's Fwd and Ack. -/
import Derived.Test.YtmdoimpeacndaaaRelay1
import Derived.Test.YtmdoimpeacndaaaSt6
namespace Go.Proofs.Ytmdoimpeacndaaa
open Go.RowKit

def TB_Relay2L : TabL := ⟨[(37903, 19), (37904, 20), (58369, 3)], [], [], [(22, (57, 4)), (34, (24, 1))], [(22, (1, false)), (24, (1, false)), (34, (1, false)), (37, (22, true)), (57, (4, true))]⟩

def TB_Relay2 : Tab Try.prog := ⟨TB_Relay2L, by kernel_rfl⟩

theorem fn_25_Relay2 : IsFn Try.prog 25 := ⟨_, Try.func25, by kernel_rfl, by kernel_rfl⟩

theorem fn_39_Relay2 : IsFn Try.prog 39 := ⟨_, Try.func39, by kernel_rfl, by kernel_rfl⟩

theorem E_22_Relay2 : Elem Try.prog 22 57 4 48 := ⟨Try.underlying22, by
  have h : (Try.prog.info? 57).map (fun i => (i.zero, i.size, i.bytes)) = some (some (.agg #[.int .i64 0, .int .i64 0, .slice none 0 0, .int .u64 0]), 4, 48) := by kernel_rfl
  obtain ⟨i, h1, h2, h3, h4⟩ := info_parts h
  exact ⟨i, _, h1, h2, h3, h4, rfl⟩, by decide⟩

theorem E_34_Relay2 : Elem Try.prog 34 24 1 8 := ⟨Try.underlying34, by
  have h : (Try.prog.info? 24).map (fun i => (i.zero, i.size, i.bytes)) = some (some (.int .u64 0), 1, 8) := by kernel_rfl
  obtain ⟨i, h1, h2, h3, h4⟩ := info_parts h
  exact ⟨i, _, h1, h2, h3, h4, rfl⟩, by decide⟩

def fwdD (epoch base from_ stable : Int) (horizon : Nat) (l : List DEntry) (good : Int) : DMsg :=
  { (default : DMsg) with
    k := 3, epoch := max epoch 0, n := max base 0, m := min (max from_ 0) (min (max good 0) (l.length : Int)), p := min (stampedL l : Int) (min (max good 0) (l.length : Int)), req := max stable 0, at_ := horizon,
    entries := (l.take (min (min (max good 0) (l.length : Int)) (min (max from_ 0) (min (max good 0) (l.length : Int)) + 4)).toNat).drop (min (max from_ 0) (min (max good 0) (l.length : Int))).toNat }

theorem grow_take {α : Type} [Inhabited α] (l : List α) (f i : Int) (h0 : 0 ≤ f) (h1 : f ≤ i) (h2 : i < l.length) : (l.take (i + 1).toNat).drop f.toNat = (l.take i.toNat).drop f.toNat ++ [l.getD i.toNat default] := by
  rw [show (i + 1).toNat = i.toNat + 1 by omega, take_getD l _ (by omega), List.drop_append_of_le_length (by rw [List.length_take]; omega)]

set_option maxHeartbeats 4000000 in
theorem c_ref32_Fwd {A0 : Nat → Prop} (epoch : Int) (base : Int) (from_ : Int) (stable : Int) (horizon : Nat) (v_l : Value) (l : List DEntry) (good : Int) (w : World) (h_epoch : i64ok epoch) (h_base : i64ok base) (h_from_ : i64ok from_) (h_stable : i64ok stable) (h_horizon : horizon < 18446744073709551616) (L_l : slRep RDEntry A0 w v_l l) (h_good : i64ok good) (hll : l.length ≤ 1000000) :
    Calls Try.prog 12 #[.int .i64 epoch, .int .i64 base, .int .i64 from_, .int .i64 stable, .int .u64 (horizon : Int), v_l, .int .i64 good] w (Ret fun r w' => ∃ q0 q1 q2 q3 q4 : Value, r = .agg (cDMsg (fwdD epoch base from_ stable horizon l good) q0 q1 q2 q3 q4).toArray ∧ slRep RDMember (fun k => A0 k ∨ w.heap.size ≤ k) w' q0 (fwdD epoch base from_ stable horizon l good).conf.members ∧ slRep RDOp (fun k => A0 k ∨ w.heap.size ≤ k) w' q1 (fwdD epoch base from_ stable horizon l good).batch.ops ∧ slRep RDEntry (fun k => A0 k ∨ w.heap.size ≤ k) w' q2 (fwdD epoch base from_ stable horizon l good).entries ∧ slRep RU (fun k => A0 k ∨ w.heap.size ≤ k) w' q3 (fwdD epoch base from_ stable horizon l good).stamps ∧ slRep RDPair (fun k => A0 k ∨ w.heap.size ≤ k) w' q4 (fwdD epoch base from_ stable horizon l good).pairs ∧ Below w.heap.size w w') := by
  have B : Bt [] w w := Bt.refl _ _
  obtain ⟨ao_v_l, cap_v_l, rfl, hc_v_l, hm_v_l⟩ := L_l.shape
  unfold maxLen at hm_v_l
  obtain ⟨P1, ha_P1, ho_P1, L_l⟩ : ∃ X : Nat → Prop, (∀ k, X k → k < w.heap.size) ∧ (∀ k, X k → A0 k ∨ w.heap.size ≤ k) ∧ slRep RDEntry X w (.slice ao_v_l l.length cap_v_l) l := ⟨_, fun k h => h.2, fun k h => .inl h.1, L_l.bound⟩
  unfold i64ok at h_epoch
  unfold i64ok at h_base
  unfold i64ok at h_from_
  unfold i64ok at h_stable
  unfold i64ok at h_good
  refine f_enter 61 Try.func12 rfl rfl (Nat.le_of_ble_eq_true rfl) fun a hok => ?_
  replace hok := hok.sub (ts := [0, 1, 2, 3, 4, 5, 6]) rfl
  refine wp_seq ?_
  refine f_region hok ?_; clear hok; intro hok
  refine s_alloc hok (cs := [.int .i64 0, .int .i64 0, .int .i64 0, .int .i64 0, .bool false, .int .u64 0, .int .u64 0, .int .i64 0, .int .i64 0, .int .i64 0, .int .i64 0, .string ByteArray.empty, .string ByteArray.empty, .int .i64 0, .slice none 0 0, .int .u64 0, .int .i64 0, .int .i64 0, .slice none 0 0, .slice none 0 0, .slice none 0 0, .slice none 0 0]) (z := .agg #[.int .i64 0, .int .i64 0, .int .i64 0, .int .i64 0, .bool false, .int .u64 0, .int .u64 0, .int .i64 0, .int .i64 0, .int .i64 0, .int .i64 0, .string ByteArray.empty, .string ByteArray.empty, .int .i64 0, .slice none 0 0, .int .u64 0, .int .i64 0, .int .i64 0, .slice none 0 0, .slice none 0 0, .slice none 0 0, .slice none 0 0]) rfl rfl rfl (by decide) rfl (by kernel_rfl) rfl ?_; clear hok a; intro a w1 b1 hb0_b1 hb1_b1 hb X1 hok
  have hge_b1 : w.heap.size ≤ b1 := by have := B.size; omega
  have hz_w1 : w.heap.size ≤ w1.heap.size := hb.size
  replace B := B.blw hb
  replace L_l := L_l.below hb
  clear hb
  refine s_end hok [0, 1, 2, 3, 4, 5, 6, 14] rfl ?_; clear hok; intro hok
  refine p_then ?_
  refine wp_seq ?_
  refine f_region hok ?_; clear hok; intro hok
  refine s_runk TB_Relay2 hok 3 rfl rfl ?_; clear hok a; intro a hok
  refine s_call hok fn_39_Relay2 (caps := #[]) rfl rfl rfl rfl rfl (by decide) rfl rfl (c_ref32_fit good (l.length : Int) _ h_good (show i64ok (l.length : Int) by unfold i64ok; omega)) ?_; clear hok a; intro _ a w2 hr hok
  obtain ⟨rfl, hb⟩ := hr
  have hz_w2 : w1.heap.size ≤ w2.heap.size := hb.size
  replace B := B.blw hb
  replace L_l := L_l.below hb
  replace X1 := X1.below hb
  clear hb
  refine s_runk TB_Relay2 hok 1 rfl rfl ?_; clear hok a; intro a hok
  refine s_end hok [0, 1, 2, 3, 4, 5, 6, 14, 15] rfl ?_; clear hok; intro hok
  refine p_then ?_
  refine wp_seq ?_
  refine f_region hok ?_; clear hok; intro hok
  refine s_runk TB_Relay2 hok 2 rfl rfl ?_; clear hok a; intro a hok
  refine s_call hok fn_39_Relay2 (caps := #[]) rfl rfl rfl rfl rfl (by decide) rfl rfl (c_ref32_fit from_ (min (max good 0) (l.length : Int)) _ h_from_ (show i64ok (min (max good 0) (l.length : Int)) by unfold i64ok; omega)) ?_; clear hok a; intro _ a w3 hr hok
  obtain ⟨rfl, hb⟩ := hr
  have hz_w3 : w2.heap.size ≤ w3.heap.size := hb.size
  replace B := B.blw hb
  replace L_l := L_l.below hb
  replace X1 := X1.below hb
  clear hb
  refine s_runk TB_Relay2 hok 1 rfl rfl ?_; clear hok a; intro a hok
  refine s_end hok [0, 1, 2, 3, 4, 5, 6, 14, 15, 16] rfl ?_; clear hok; intro hok
  refine p_then ?_
  refine wp_seq ?_
  refine f_region hok ?_; clear hok; intro hok
  refine s_runk TB_Relay2 hok 6 rfl rfl ?_; clear hok a; intro a hok
  refine s_call hok fn_25_Relay2 (caps := #[]) rfl rfl rfl rfl rfl (by decide) rfl rfl (c_ref08_Stamped _ l _ L_l) ?_; clear hok a; intro _ a w4 hr hok
  obtain ⟨rfl, hb⟩ := hr
  have hz_w4 : w3.heap.size ≤ w4.heap.size := hb.size
  replace B := B.blw hb
  replace L_l := L_l.below hb
  replace X1 := X1.below hb
  clear hb
  refine s_runk TB_Relay2 hok 5 rfl rfl ?_; clear hok a; intro a hok
  refine s_ob hok (v := .agg #[.int .i64 3, .int .i64 (max epoch 0), .int .i64 (max stable 0), .int .i64 0, .bool false, .int .u64 (horizon : Int), .int .u64 0, .int .i64 (max base 0), .int .i64 (min (max from_ 0) (min (max good 0) (l.length : Int))), .int .i64 (min (stampedL l : Int) (min (max good 0) (l.length : Int))), .int .i64 0, .string ByteArray.empty, .string ByteArray.empty, .int .i64 0, .slice none 0 0, .int .u64 0, .int .i64 0, .int .i64 0, .slice none 0 0, .slice none 0 0, .slice none 0 0, .slice none 0 0]) rfl rfl (by decide) rfl (Ob_build (vs := [(0, .int .i64 3), (1, .int .i64 (max epoch 0)), (7, .int .i64 (max base 0)), (8, .int .i64 (min (max from_ 0) (min (max good 0) (l.length : Int)))), (9, .int .i64 (min (stampedL l : Int) (min (max good 0) (l.length : Int)))), (2, .int .i64 (max stable 0)), (5, .int .u64 (horizon : Int))]) rfl rfl (by go_simp <;> rfl)) ?_; clear hok a; intro a hok
  refine s_alloc hok (cs := [.int .i64 0, .int .i64 0, .int .i64 0, .int .i64 0, .bool false, .int .u64 0, .int .u64 0, .int .i64 0, .int .i64 0, .int .i64 0, .int .i64 0, .string ByteArray.empty, .string ByteArray.empty, .int .i64 0, .slice none 0 0, .int .u64 0, .int .i64 0, .int .i64 0, .slice none 0 0, .slice none 0 0, .slice none 0 0, .slice none 0 0]) (z := .agg #[.int .i64 0, .int .i64 0, .int .i64 0, .int .i64 0, .bool false, .int .u64 0, .int .u64 0, .int .i64 0, .int .i64 0, .int .i64 0, .int .i64 0, .string ByteArray.empty, .string ByteArray.empty, .int .i64 0, .slice none 0 0, .int .u64 0, .int .i64 0, .int .i64 0, .slice none 0 0, .slice none 0 0, .slice none 0 0, .slice none 0 0]) rfl rfl rfl (by decide) rfl (by kernel_rfl) rfl ?_; clear hok a; intro a w5 b2 hb0_b2 hb1_b2 hb X2 hok
  have hge_b2 : w.heap.size ≤ b2 := by have := B.size; omega
  have hlt_b1_b2 : b1 < b2 := by have := X1.lt; omega
  have hz_w5 : w4.heap.size ≤ w5.heap.size := hb.size
  replace B := B.blw hb
  replace L_l := L_l.below hb
  replace X1 := X1.below hb
  clear hb
  refine s_store TB_Relay2 hok (us := [.int .i64 3, .int .i64 (max epoch 0), .int .i64 (max stable 0), .int .i64 0, .bool false, .int .u64 (horizon : Int), .int .u64 0, .int .i64 (max base 0), .int .i64 (min (max from_ 0) (min (max good 0) (l.length : Int))), .int .i64 (min (stampedL l : Int) (min (max good 0) (l.length : Int))), .int .i64 0, .string ByteArray.empty, .string ByteArray.empty, .int .i64 0, .slice none 0 0, .int .u64 0, .int .i64 0, .int .i64 0, .slice none 0 0, .slice none 0 0, .slice none 0 0, .slice none 0 0]) (cs' := [.int .i64 3, .int .i64 (max epoch 0), .int .i64 (max stable 0), .int .i64 0, .bool false, .int .u64 (horizon : Int), .int .u64 0, .int .i64 (max base 0), .int .i64 (min (max from_ 0) (min (max good 0) (l.length : Int))), .int .i64 (min (stampedL l : Int) (min (max good 0) (l.length : Int))), .int .i64 0, .string ByteArray.empty, .string ByteArray.empty, .int .i64 0, .slice none 0 0, .int .u64 0, .int .i64 0, .int .i64 0, .slice none 0 0, .slice none 0 0, .slice none 0 0, .slice none 0 0]) X2 rfl rfl rfl rfl rfl rfl rfl rfl (ones_all rfl) (Nat.le_of_ble_eq_true rfl) (putCells_all rfl) fun w6 ht X3 => ?_
  clear X2
  have hz_w6 : w5.heap.size ≤ w6.heap.size := Nat.le_of_eq ht.size.symm
  replace B := B.trn ht (.inr hge_b2)
  replace L_l := L_l.turn ht (fun h => by have := ha_P1 _ h; omega)
  replace X1 := X1.turn ht (by omega)
  clear ht
  refine s_end hok [0, 1, 2, 3, 4, 5, 6, 14, 15, 16, 17] rfl ?_; clear hok; intro hok
  refine p_then ?_
  refine wp_seq ?_
  refine wp_seq ?_
  refine f_region hok ?_; clear hok; intro hok
  refine s_runk TB_Relay2 hok 2 rfl rfl ?_; clear hok a; intro a hok
  refine s_end hok [0, 1, 2, 3, 4, 5, 6, 14, 15, 16, 17, 18] rfl ?_; clear hok; intro hok
  refine p_then ?_
  refine wp_block ?_
  have O1 : Ow RDEntry P1 w.heap.size 57 w6 (.slice none 0 0) [] := Ow.nil _ _ _ _ _ _
  have hg_O1 : ∀ k, (Value.slice none 0 0).ownBlock = some k → w.heap.size ≤ k ∧ k < w6.heap.size := fun k h => by cases h
  have hnb_O1_b1 : (Value.slice none 0 0).ownBlock ≠ some b1 := by intro h; cases h
  have hnb_O1_b2 : (Value.slice none 0 0).ownBlock ≠ some b2 := by intro h; cases h
  refine f_loop (σ := Int × List DEntry) (fun ⟨i, es⟩ a w' => ∃ ao_c19 cap_c19, Sl 61 [(0, .int .i64 epoch), (1, .int .i64 base), (2, .int .i64 from_), (3, .int .i64 stable), (4, .int .u64 (horizon : Int)), (5, .slice ao_v_l l.length cap_v_l), (6, .int .i64 good), (14, .pointer (some ⟨b1, 0, none⟩)), (15, .int .i64 (min (max good 0) (l.length : Int))), (16, .int .i64 (min (max from_ 0) (min (max good 0) (l.length : Int)))), (17, .pointer (some ⟨b2, 0, none⟩)), (18, .int .i64 i)] a ∧ (min (max from_ 0) (min (max good 0) (l.length : Int)) ≤ i ∧ i ≤ min (max good 0) (l.length : Int) ∧ i ≤ min (max from_ 0) (min (max good 0) (l.length : Int)) + 4) ∧ ((es.length : Int) + min (max from_ 0) (min (max good 0) (l.length : Int)) = i) ∧ (es = (l.take i.toNat).drop (min (max from_ 0) (min (max good 0) (l.length : Int))).toNat) ∧ Bt [] w w' ∧ slRep RDEntry P1 w' (.slice ao_v_l l.length cap_v_l) l ∧ Box w' b1 37 [.int .i64 0, .int .i64 0, .int .i64 0, .int .i64 0, .bool false, .int .u64 0, .int .u64 0, .int .i64 0, .int .i64 0, .int .i64 0, .int .i64 0, .string ByteArray.empty, .string ByteArray.empty, .int .i64 0, .slice none 0 0, .int .u64 0, .int .i64 0, .int .i64 0, .slice none 0 0, .slice none 0 0, .slice none 0 0, .slice none 0 0] ∧ Box w' b2 37 [.int .i64 3, .int .i64 (max epoch 0), .int .i64 (max stable 0), .int .i64 0, .bool false, .int .u64 (horizon : Int), .int .u64 0, .int .i64 (max base 0), .int .i64 (min (max from_ 0) (min (max good 0) (l.length : Int))), .int .i64 (min (stampedL l : Int) (min (max good 0) (l.length : Int))), .int .i64 0, .string ByteArray.empty, .string ByteArray.empty, .int .i64 0, .slice none 0 0, .int .u64 0, .int .i64 0, .int .i64 0, .slice none 0 0, .slice ao_c19 es.length cap_c19, .slice none 0 0, .slice none 0 0] ∧ Ow RDEntry P1 w.heap.size 57 w' (.slice ao_c19 es.length cap_c19) es ∧ es.length ≤ cap_c19 ∧ cap_c19 ≤ maxLen ∧ (∀ k, (Value.slice ao_c19 es.length cap_c19).ownBlock = some k → w.heap.size ≤ k ∧ k < w'.heap.size) ∧ (Value.slice ao_c19 es.length cap_c19).ownBlock ≠ some b1 ∧ (Value.slice ao_c19 es.length cap_c19).ownBlock ≠ some b2) (fun ⟨i, es⟩ => (min (max good 0) (l.length : Int) - i).toNat) (min (max from_ 0) (min (max good 0) (l.length : Int)), []) ⟨_, _, hok.sub (ts := [0, 1, 2, 3, 4, 5, 6, 14, 15, 16, 17, 18]) rfl, by omega, by simp, by rw [List.drop_eq_nil_of_le]; rw [List.length_take]; omega, B, L_l, X1, X3, O1, (Nat.le_refl 0), (by decide), hg_O1, hnb_O1_b1, hnb_O1_b2⟩ ?_
  clear hok B L_l X1 X3 O1 hg_O1 hnb_O1_b1 hnb_O1_b2
  rintro ⟨i, es⟩ a w7 ⟨ao_c19, cap_c19, hok, hinv0_0, hinv0_1, hinv0_2, B, L_l, X1, X3, O1, hc_oc19, hm_oc19, hg_O1, hnb_O1_b1, hnb_O1_b2⟩
  unfold maxLen at hm_oc19
  refine wp_seq ?_
  refine wp_seq ?_
  refine f_region hok ?_; clear hok; intro hok
  refine s_runk TB_Relay2 hok 4 rfl rfl ?_; clear hok a; intro a hok
  refine s_gob hok (c := decide (i < (min (max good 0) (l.length : Int)))) rfl rfl rfl rfl (by decide) rfl (by decide) rfl (fun _ => Ob_c TB_Relay2 rfl) ?_; clear hok a; intro a hok
  refine s_gob hok (c := decide (i < (min (max good 0) (l.length : Int)))) rfl rfl rfl rfl (by decide) rfl (by decide) rfl (fun _ => Ob_c TB_Relay2 rfl) ?_; clear hok a; intro a hok
  refine s_gob hok (c := decide (i < (min (max good 0) (l.length : Int)))) (v := .int .i64 (min (max from_ 0) (min (max good 0) (l.length : Int)) + 4)) rfl rfl rfl rfl (by decide) rfl (by decide) rfl (fun hg1 => ?_) ?_
  · replace hg1 := of_decide_eq_true hg1
    exact Ob_add rfl rfl rfl (IntWalk.i64_in _ (by omega))
  clear hok a; intro a hok
  refine s_gob hok (c := decide (i < (min (max good 0) (l.length : Int)))) rfl rfl rfl rfl (by decide) rfl (by decide) rfl (fun _ => Ob_c TB_Relay2 rfl) ?_; clear hok a; intro a hok
  refine s_and hok (i := 3) rfl rfl rfl rfl rfl rfl rfl (by decide) rfl rfl ?_; clear hok a; intro a hok
  refine s_end hok [0, 1, 2, 3, 4, 5, 6, 14, 15, 16, 17, 18, 48] rfl ?_; clear hok; intro hok
  refine p_then ?_
  refine f_cond hok rfl (fun hc1 => ?_) (fun hc1 => ?_)
  · replace hc1 := And.intro (of_decide_eq_true (andT1 hc1)) (of_decide_eq_true (andT2 hc1))
    refine wp_skip ?_
    refine p_then ?_
    refine wp_seq ?_
    refine wp_block ?_
    have hi1 : i.toNat < l.length := by omega
    have he1 := elt L_l (i.toNat) (slRep.lt L_l hi1)
    obtain ⟨_, _, _, ⟨u1, rfl, L1, hok_e1⟩, hat1⟩ := id he1
    obtain ⟨ao_u1, cap_u1, rfl, hc_u1, hm_u1⟩ := L1.shape
    unfold maxLen at hm_u1
    refine f_regionFS hok 7 (by kernel_rfl) (by kernel_rfl) (by kernel_rfl) (by decide) (by decide) (fun xw => Bt [] w7 xw) (fun jj vv xw => match jj with | 0 => vv = .pointer (some ⟨b2, 19, none⟩) | 1 => vv = .slice ao_c19 es.length cap_c19 | 2 => vv = .slice ao_v_l l.length cap_v_l | 3 => vv = .int .i64 i | 4 => vv = .pointer (some ⟨bOf ao_v_l, oOf ao_v_l + i.toNat * 4, none⟩) | 5 => vv = .agg #[.int .i64 ((l.getD i.toNat default).batch.client), .int .i64 ((l.getD i.toNat default).batch.req), .slice ao_u1 ((l.getD i.toNat default).batch.ops.length) cap_u1, .int .u64 ((l.getD i.toNat default).ts : Int)] | 6 => ∃ bb, vv = .slice (some ⟨bb, 0, none⟩) 1 1 ∧ w7.heap.size ≤ bb ∧ Box xw bb 57 [.int .i64 ((l.getD i.toNat default).batch.client), .int .i64 ((l.getD i.toNat default).batch.req), .slice ao_u1 ((l.getD i.toNat default).batch.ops.length) cap_u1, .int .u64 ((l.getD i.toNat default).ts : Int)] | _ => True) (Bt.of (Below.refl _ _).drew) ?_ ?_
    · intro fr hfr hfe
      simp only [List.take, owesF]
      refine ⟨fun vals xw hC hF hL => ?_, fun vals xw hC hF hL => ?_, fun vals xw hC hF hL => ?_, fun vals xw hC hF hL => ?_, fun vals xw hC hF hL => ?_, fun vals xw hC hF hL => ?_, fun vals xw hC hF hL => ?_, trivial⟩
      · rw [← hfe]
        have hS := (hfr vals).sub (ts := [17]) (S' := [(17, .pointer (some ⟨b2, 0, none⟩))]) rfl
        exact F_val hS rfl (Ob_c TB_Relay2 rfl) hC rfl
      · rw [← hfe]
        have hS := (hfr vals).sub (ts := [51]) (S' := [(51, vals 0)]) rfl
        have f0 : vals 0 = .pointer (some ⟨b2, 19, none⟩) := hF 0 (by decide)
        rw [f0] at hS
        have hw := hC.toBelow
        exact F_val hS rfl (Ob_load TB_Relay2 rfl rfl rfl ((X3.below hw).cell 19 rfl)) hC rfl
      · rw [← hfe]
        have hS := (hfr vals).sub (ts := [5]) (S' := [(5, .slice ao_v_l l.length cap_v_l)]) rfl
        exact F_val hS rfl (Ob_c TB_Relay2 rfl) hC rfl
      · rw [← hfe]
        have hS := (hfr vals).sub (ts := [18]) (S' := [(18, .int .i64 i)]) rfl
        exact F_val hS rfl (Ob_c TB_Relay2 rfl) hC rfl
      · rw [← hfe]
        have hS := (hfr vals).sub (ts := [53, 54]) (S' := [(53, vals 2), (54, vals 3)]) rfl
        have f2 : vals 2 = .slice ao_v_l l.length cap_v_l := hF 2 (by decide)
        have f3 : vals 3 = .int .i64 i := hF 3 (by decide)
        rw [f2, f3] at hS
        have hi2 : i.toNat < l.length := by omega
        have hw := hC.toBelow
        exact F_val hS rfl (Ob_idx TB_Relay2 (i.toNat) rfl rfl he1.1 rfl rfl (by omega) hi2) hC rfl
      · rw [← hfe]
        have hS := (hfr vals).sub (ts := [55]) (S' := [(55, vals 4)]) rfl
        have f4 : vals 4 = .pointer (some ⟨bOf ao_v_l, oOf ao_v_l + i.toNat * 4, none⟩) := hF 4 (by decide)
        rw [f4] at hS
        have hw := hC.toBelow
        exact F_val hS rfl (Ob_loads TB_Relay2 rfl rfl rfl (hat1.below hw he1.2.1.2)) hC rfl
      · rw [← hfe]
        have hS := (hfr vals).sub (ts := [56]) (S' := [(56, vals 5)]) rfl
        have f5 : vals 5 = .agg #[.int .i64 ((l.getD i.toNat default).batch.client), .int .i64 ((l.getD i.toNat default).batch.req), .slice ao_u1 ((l.getD i.toNat default).batch.ops.length) cap_u1, .int .u64 ((l.getD i.toNat default).ts : Int)] := hF 5 (by decide)
        rw [f5] at hS
        refine F_bslice (vs := [(0, .agg #[.int .i64 ((l.getD i.toNat default).batch.client), .int .i64 ((l.getD i.toNat default).batch.req), .slice ao_u1 ((l.getD i.toNat default).batch.ops.length) cap_u1, .int .u64 ((l.getD i.toNat default).ts : Int)])]) (cs := [.int .i64 ((l.getD i.toNat default).batch.client), .int .i64 ((l.getD i.toNat default).batch.req), .slice ao_u1 ((l.getD i.toNat default).batch.ops.length) cap_u1, .int .u64 ((l.getD i.toNat default).ts : Int)]) (e := 57) hS rfl rfl rfl (fun w => run_bslice (z := .agg #[.int .i64 0, .int .i64 0, .slice none 0 0, .int .u64 0]) (m := 4) Try.underlying22 (by kernel_rfl) rfl rfl (by decide) (by simp [Instr.fill, Value.cells]) w) fun yw bb he hb hX => ?_
        refine ⟨⟨hC.blw hb, fun j v hj hne hk h => ?_⟩, ⟨bb, rfl, by have := hC.size; omega, hX⟩⟩
        match j, hne, h with
          | 0, hne, h => exact h
          | 1, hne, h => exact h
          | 2, hne, h => exact h
          | 3, hne, h => exact h
          | 4, hne, h => exact h
          | 5, hne, h => exact h
          | 6, hne, h => exact (by obtain ⟨bb, h1, h2, h3⟩ := h; exact ⟨bb, h1, h2, h3.below hb⟩)
          | _ + 7, hne, h => trivial
    · intro vals a w8 hS hC hF
      replace hok := hS.sub (ts := [0, 1, 2, 3, 4, 5, 6, 14, 15, 16, 17, 18, 48, 51, 52, 53, 54, 55, 56, 57]) (S' := [(0, .int .i64 epoch), (1, .int .i64 base), (2, .int .i64 from_), (3, .int .i64 stable), (4, .int .u64 (horizon : Int)), (5, .slice ao_v_l l.length cap_v_l), (6, .int .i64 good), (14, .pointer (some ⟨b1, 0, none⟩)), (15, .int .i64 (min (max good 0) (l.length : Int))), (16, .int .i64 (min (max from_ 0) (min (max good 0) (l.length : Int)))), (17, .pointer (some ⟨b2, 0, none⟩)), (18, .int .i64 i), (48, .bool ((decide (i < (min (max good 0) (l.length : Int)))) && (decide (i < (min (max from_ 0) (min (max good 0) (l.length : Int)) + 4))))), (51, vals 0), (52, vals 1), (53, vals 2), (54, vals 3), (55, vals 4), (56, vals 5), (57, vals 6)]) rfl; clear hS
      have f0 : vals 0 = .pointer (some ⟨b2, 19, none⟩) := hF 0 (by decide)
      have f1 : vals 1 = .slice ao_c19 es.length cap_c19 := hF 1 (by decide)
      have f2 : vals 2 = .slice ao_v_l l.length cap_v_l := hF 2 (by decide)
      have f3 : vals 3 = .int .i64 i := hF 3 (by decide)
      have f4 : vals 4 = .pointer (some ⟨bOf ao_v_l, oOf ao_v_l + i.toNat * 4, none⟩) := hF 4 (by decide)
      have f5 : vals 5 = .agg #[.int .i64 ((l.getD i.toNat default).batch.client), .int .i64 ((l.getD i.toNat default).batch.req), .slice ao_u1 ((l.getD i.toNat default).batch.ops.length) cap_u1, .int .u64 ((l.getD i.toNat default).ts : Int)] := hF 5 (by decide)
      obtain ⟨b3, f6, hbg_b3, X4⟩ := hF 6 (by decide)
      rw [f0, f1, f2, f3, f4, f5, f6] at hok
      clear f0 f1 f2 f3 f4 f5 f6
      replace hC := hC.toBelow; clear hF
      have hge_b3 : w.heap.size ≤ b3 := by have := B.size; omega
      have hlt_b1_b3 : b1 < b3 := by have := X1.lt; omega
      have hlt_b2_b3 : b2 < b3 := by have := X3.lt; omega
      have hnb_O1_b3 : (Value.slice ao_c19 es.length cap_c19).ownBlock ≠ some b3 := fun e => by have := (hg_O1 _ e).2; omega
      have hz_w8 : w7.heap.size ≤ w8.heap.size := hC.size
      replace B := B.blw hC
      replace L_l := L_l.below hC
      replace X1 := X1.below hC
      replace X3 := X3.below hC
      replace O1 := O1.below hC
      replace hg_O1 := fun k h => And.intro (hg_O1 k h).1 (Nat.lt_of_lt_of_le (hg_O1 k h).2 hC.size)
      replace L1 := L1.below hC
      clear hC
      refine s_app2 hok RDEntry P1 w.heap.size E_22_Relay2 rfl es [(l.getD i.toNat default)] AnyA _ rfl rfl rfl (by decide) rfl rfl rfl O1 (slRep2.box1 X4 ⟨_, rfl, L1, hok_e1⟩) (fun cs y hr => RDEntry.mono (RDEntry.bound hr) (fun k hk => ⟨hk.1, fun e => by have h1 := (hg_O1 k e).1; have h2 := ha_P1 _ hk.1; omega⟩) (Keep.refl _ _)) (by simp only [maxLen, List.length_append, List.length_cons, List.length_nil]; omega) (by simp only [List.length_append, List.length_cons, List.length_nil]; omega) B.size hg_O1 ?_; clear hok a; intro ao1 cap1 a w9 O2 hc_O2 hm_O2 hb hblk hown hg_O2 hok
      have hz_w9 : w8.heap.size ≤ w9.heap.size := hb.size
      replace B := B.app hb
      replace L_l := L_l.mono (fun _ h => h) (keep_app hz_w9 hblk (fun k h e => by have h1 := ha_P1 _ h; have h2 := (hg_O1 k e).1; omega))
      have hnb_O2_b1 : (Value.slice ao1 (es ++ [(l.getD i.toNat default)]).length cap1).ownBlock ≠ some b1 := fun e => (hown _ e).elim hnb_O1_b1 (fun h => by have := X1.lt; omega)
      replace X1 := X1.keep (hblk _ X1.lt hnb_O1_b1)
      have hnb_O2_b2 : (Value.slice ao1 (es ++ [(l.getD i.toNat default)]).length cap1).ownBlock ≠ some b2 := fun e => (hown _ e).elim hnb_O1_b2 (fun h => by have := X3.lt; omega)
      replace X3 := X3.keep (hblk _ X3.lt hnb_O1_b2)
      replace L1 := L1.mono (fun _ h => h) (keep_app hz_w9 hblk (fun k h e => by have h1 := ha_P1 _ h; have h2 := (hg_O1 k e).1; omega))
      have hnb_O2_b3 : (Value.slice ao1 (es ++ [(l.getD i.toNat default)]).length cap1).ownBlock ≠ some b3 := fun e => (hown _ e).elim hnb_O1_b3 (fun h => by have := X4.lt; omega)
      replace X4 := X4.keep (hblk _ X4.lt hnb_O1_b3)
      clear hb hblk hown O1
      refine s_runk TB_Relay2 hok 1 rfl rfl ?_; clear hok a; intro a hok
      refine s_store TB_Relay2 hok (us := [.slice ao1 ((es ++ [(l.getD i.toNat default)]).length) cap1]) (cs' := [.int .i64 3, .int .i64 (max epoch 0), .int .i64 (max stable 0), .int .i64 0, .bool false, .int .u64 (horizon : Int), .int .u64 0, .int .i64 (max base 0), .int .i64 (min (max from_ 0) (min (max good 0) (l.length : Int))), .int .i64 (min (stampedL l : Int) (min (max good 0) (l.length : Int))), .int .i64 0, .string ByteArray.empty, .string ByteArray.empty, .int .i64 0, .slice none 0 0, .int .u64 0, .int .i64 0, .int .i64 0, .slice none 0 0, .slice ao1 ((es ++ [(l.getD i.toNat default)]).length) cap1, .slice none 0 0, .slice none 0 0]) X3 rfl rfl rfl rfl rfl rfl rfl rfl (by simp only [List.mem_cons, List.not_mem_nil, or_false]; rintro u rfl <;> rfl) (Nat.le_of_ble_eq_true rfl) rfl fun w10 ht X5 => ?_
      clear X3
      have hz_w10 : w9.heap.size ≤ w10.heap.size := Nat.le_of_eq ht.size.symm
      replace B := B.trn ht (.inr hge_b2)
      replace L_l := L_l.turn ht (fun h => by have := ha_P1 _ h; omega)
      replace X1 := X1.turn ht (by omega)
      replace L1 := L1.turn ht (fun h => by have := ha_P1 _ h; omega)
      replace X4 := X4.turn ht (by omega)
      replace O2 := O2.turn ht (fun h => by have := ha_P1 _ h; omega) hnb_O2_b2
      replace hg_O2 := fun k h => And.intro (hg_O2 k h).1 (Nat.lt_of_lt_of_le (hg_O2 k h).2 (Nat.le_of_eq ht.size.symm))
      clear ht
      refine s_end hok [0, 1, 2, 3, 4, 5, 6, 14, 15, 16, 17, 18, 48] rfl ?_; clear hok; intro hok
      refine p_blk ?_
      refine p_then ?_
      refine f_region hok ?_; clear hok; intro hok
      refine s_runk TB_Relay2 hok 1 rfl rfl ?_; clear hok a; intro a hok
      refine s_ob hok (v := .int .i64 (i + 1)) rfl rfl (by decide) rfl (Ob_add rfl rfl rfl (IntWalk.i64_in _ (by omega))) ?_; clear hok a; intro a hok
      refine s_runk TB_Relay2 hok 1 rfl rfl ?_; clear hok a; intro a hok
      refine s_end hok [0, 1, 2, 3, 4, 5, 6, 14, 15, 16, 17, 18, 48] rfl ?_; clear hok; intro hok
      refine p_then ?_
      refine ⟨(i + 1, es ++ [l.getD i.toNat default]), ⟨_, _, hok.sub (ts := [0, 1, 2, 3, 4, 5, 6, 14, 15, 16, 17, 18]) rfl, ?_, ?_, ?_, B, L_l, X1, X5, O2, hc_O2, (by first | assumption | exact hm_O2), hg_O2, hnb_O2_b1, hnb_O2_b2⟩, by dsimp only; omega⟩
      · clear hok B L_l X1 X5 L1 X4 O2 hc_v_l hm_v_l ha_P1 ho_P1 hb0_b1 hb1_b1 hge_b1 hz_w1 hz_w2 hz_w3 hz_w4 hb0_b2 hb1_b2 hge_b2 hlt_b1_b2 hz_w5 hz_w6 hc_oc19 hm_oc19 hg_O1 hnb_O1_b1 hnb_O1_b2 he1 hat1 hge_b3 hlt_b1_b3 hlt_b2_b3 hnb_O1_b3 hz_w8 hc_O2 hm_O2 hz_w9 hg_O2 hnb_O2_b1 hnb_O2_b2 hnb_O2_b3 hz_w10
        omega
      · clear hok B L_l X1 X5 L1 X4 O2 hc_v_l hm_v_l ha_P1 ho_P1 hb0_b1 hb1_b1 hge_b1 hz_w1 hz_w2 hz_w3 hz_w4 hb0_b2 hb1_b2 hge_b2 hlt_b1_b2 hz_w5 hz_w6 hc_oc19 hm_oc19 hg_O1 hnb_O1_b1 hnb_O1_b2 he1 hat1 hge_b3 hlt_b1_b3 hlt_b2_b3 hnb_O1_b3 hz_w8 hc_O2 hm_O2 hz_w9 hg_O2 hnb_O2_b1 hnb_O2_b2 hnb_O2_b3 hz_w10
        rw [List.length_append]; show ((_ + 1 : Nat) : Int) + _ = _; omega
      · clear hok B L_l X1 X5 L1 X4 O2 hc_v_l hm_v_l ha_P1 ho_P1 hb0_b1 hb1_b1 hge_b1 hz_w1 hz_w2 hz_w3 hz_w4 hb0_b2 hb1_b2 hge_b2 hlt_b1_b2 hz_w5 hz_w6 hc_oc19 hm_oc19 hg_O1 hnb_O1_b1 hnb_O1_b2 he1 hat1 hge_b3 hlt_b1_b3 hlt_b2_b3 hnb_O1_b3 hz_w8 hc_O2 hm_O2 hz_w9 hg_O2 hnb_O2_b1 hnb_O2_b2 hnb_O2_b3 hz_w10
        rw [hinv0_2, grow_take _ _ _ (by omega) (by omega) (by omega)]
  · replace hc1 := andF hc1 (fun h => of_decide_eq_false h) (fun h => of_decide_eq_false h)
    refine wp_exit ?_
    refine p_then_x ?_
    refine p_then_x ?_
    refine f_exit_here ?_
    refine p_then ?_
    refine wp_seq ?_
    refine f_region hok ?_; clear hok; intro hok
    refine s_ob hok (v := .agg #[.int .i64 3, .int .i64 (max epoch 0), .int .i64 (max stable 0), .int .i64 0, .bool false, .int .u64 (horizon : Int), .int .u64 0, .int .i64 (max base 0), .int .i64 (min (max from_ 0) (min (max good 0) (l.length : Int))), .int .i64 (min (stampedL l : Int) (min (max good 0) (l.length : Int))), .int .i64 0, .string ByteArray.empty, .string ByteArray.empty, .int .i64 0, .slice none 0 0, .int .u64 0, .int .i64 0, .int .i64 0, .slice none 0 0, .slice ao_c19 es.length cap_c19, .slice none 0 0, .slice none 0 0]) rfl rfl (by decide) rfl (Ob_loads TB_Relay2 (cs := [.int .i64 3, .int .i64 (max epoch 0), .int .i64 (max stable 0), .int .i64 0, .bool false, .int .u64 (horizon : Int), .int .u64 0, .int .i64 (max base 0), .int .i64 (min (max from_ 0) (min (max good 0) (l.length : Int))), .int .i64 (min (stampedL l : Int) (min (max good 0) (l.length : Int))), .int .i64 0, .string ByteArray.empty, .string ByteArray.empty, .int .i64 0, .slice none 0 0, .int .u64 0, .int .i64 0, .int .i64 0, .slice none 0 0, .slice ao_c19 es.length cap_c19, .slice none 0 0, .slice none 0 0]) rfl rfl rfl X3.at) ?_; clear hok a; intro a hok
    refine s_store TB_Relay2 hok (us := [.int .i64 3, .int .i64 (max epoch 0), .int .i64 (max stable 0), .int .i64 0, .bool false, .int .u64 (horizon : Int), .int .u64 0, .int .i64 (max base 0), .int .i64 (min (max from_ 0) (min (max good 0) (l.length : Int))), .int .i64 (min (stampedL l : Int) (min (max good 0) (l.length : Int))), .int .i64 0, .string ByteArray.empty, .string ByteArray.empty, .int .i64 0, .slice none 0 0, .int .u64 0, .int .i64 0, .int .i64 0, .slice none 0 0, .slice ao_c19 es.length cap_c19, .slice none 0 0, .slice none 0 0]) (cs' := [.int .i64 3, .int .i64 (max epoch 0), .int .i64 (max stable 0), .int .i64 0, .bool false, .int .u64 (horizon : Int), .int .u64 0, .int .i64 (max base 0), .int .i64 (min (max from_ 0) (min (max good 0) (l.length : Int))), .int .i64 (min (stampedL l : Int) (min (max good 0) (l.length : Int))), .int .i64 0, .string ByteArray.empty, .string ByteArray.empty, .int .i64 0, .slice none 0 0, .int .u64 0, .int .i64 0, .int .i64 0, .slice none 0 0, .slice ao_c19 es.length cap_c19, .slice none 0 0, .slice none 0 0]) X1 rfl rfl rfl rfl rfl rfl rfl rfl (ones_all rfl) (Nat.le_of_ble_eq_true rfl) (putCells_all rfl) fun w11 ht X6 => ?_
    clear X1
    have hz_w11 : w7.heap.size ≤ w11.heap.size := Nat.le_of_eq ht.size.symm
    replace B := B.trn ht (.inr hge_b1)
    replace L_l := L_l.turn ht (fun h => by have := ha_P1 _ h; omega)
    replace X3 := X3.turn ht (by omega)
    replace O1 := O1.turn ht (fun h => by have := ha_P1 _ h; omega) hnb_O1_b1
    replace hg_O1 := fun k h => And.intro (hg_O1 k h).1 (Nat.lt_of_lt_of_le (hg_O1 k h).2 (Nat.le_of_eq ht.size.symm))
    clear ht
    refine s_end hok [0, 1, 2, 3, 4, 5, 6, 14, 15, 16, 17, 18, 48] rfl ?_; clear hok; intro hok
    refine p_then ?_
    refine wp_ret ?_
    refine f_ret hok (run_resultsC rfl hok rfl (run_loadVar_agg TB_Relay2 rfl X6.at)) ?_
    refine ⟨.slice none 0 0, .slice none 0 0, .slice ao_c19 es.length cap_c19, .slice none 0 0, .slice none 0 0, ?_, ?_, ?_, ?_, ?_, ?_, B.toBelow⟩
    · clear hok B L_l X6 X3 O1 hc_v_l hm_v_l ha_P1 ho_P1 hb0_b1 hb1_b1 hge_b1 hz_w1 hz_w2 hz_w3 hz_w4 hb0_b2 hb1_b2 hge_b2 hlt_b1_b2 hz_w5 hz_w6 hc_oc19 hm_oc19 hg_O1 hnb_O1_b1 hnb_O1_b2 hz_w11
      rfl
    · first | exact slRep.nil _ _ _ _ _ (Nat.zero_le _) | (show slRep RDEntry _ _ _ ((l.take (min (min (max good 0) (l.length : Int)) ((min (max from_ 0) (min (max good 0) (l.length : Int))) + 4)).toNat).drop (min (max from_ 0) (min (max good 0) (l.length : Int))).toNat); rw [show min (min (max good 0) (l.length : Int)) ((min (max from_ 0) (min (max good 0) (l.length : Int))) + 4) = i by omega, ← hinv0_2]; exact O1.sl (fun k h => ho_P1 k h) fun k h => Or.inr h)
    · first | exact slRep.nil _ _ _ _ _ (Nat.zero_le _) | (show slRep RDEntry _ _ _ ((l.take (min (min (max good 0) (l.length : Int)) ((min (max from_ 0) (min (max good 0) (l.length : Int))) + 4)).toNat).drop (min (max from_ 0) (min (max good 0) (l.length : Int))).toNat); rw [show min (min (max good 0) (l.length : Int)) ((min (max from_ 0) (min (max good 0) (l.length : Int))) + 4) = i by omega, ← hinv0_2]; exact O1.sl (fun k h => ho_P1 k h) fun k h => Or.inr h)
    · first | exact slRep.nil _ _ _ _ _ (Nat.zero_le _) | (show slRep RDEntry _ _ _ ((l.take (min (min (max good 0) (l.length : Int)) ((min (max from_ 0) (min (max good 0) (l.length : Int))) + 4)).toNat).drop (min (max from_ 0) (min (max good 0) (l.length : Int))).toNat); rw [show min (min (max good 0) (l.length : Int)) ((min (max from_ 0) (min (max good 0) (l.length : Int))) + 4) = i by omega, ← hinv0_2]; exact O1.sl (fun k h => ho_P1 k h) fun k h => Or.inr h)
    · first | exact slRep.nil _ _ _ _ _ (Nat.zero_le _) | (show slRep RDEntry _ _ _ ((l.take (min (min (max good 0) (l.length : Int)) ((min (max from_ 0) (min (max good 0) (l.length : Int))) + 4)).toNat).drop (min (max from_ 0) (min (max good 0) (l.length : Int))).toNat); rw [show min (min (max good 0) (l.length : Int)) ((min (max from_ 0) (min (max good 0) (l.length : Int))) + 4) = i by omega, ← hinv0_2]; exact O1.sl (fun k h => ho_P1 k h) fun k h => Or.inr h)
    · first | exact slRep.nil _ _ _ _ _ (Nat.zero_le _) | (show slRep RDEntry _ _ _ ((l.take (min (min (max good 0) (l.length : Int)) ((min (max from_ 0) (min (max good 0) (l.length : Int))) + 4)).toNat).drop (min (max from_ 0) (min (max good 0) (l.length : Int))).toNat); rw [show min (min (max good 0) (l.length : Int)) ((min (max from_ 0) (min (max good 0) (l.length : Int))) + 4) = i by omega, ← hinv0_2]; exact O1.sl (fun k h => ho_P1 k h) fun k h => Or.inr h)

/-- the timestamps from place i on, up to the first entry that has none -/
def stampsL (l : List DEntry) (i lim : Nat) : List Nat := (((l.take lim).drop i).takeWhile (fun e => e.ts != 0)).map (·.ts)

theorem stampsL_stop (l : List DEntry) (i lim : Nat) (h : lim ≤ i ∨ l.length ≤ i ∨ (l.getD i default).ts = 0) : stampsL l i lim = [] := by
  unfold stampsL
  by_cases hi : i < (l.take lim).length
  · rw [List.length_take] at hi
    rw [drop_getD _ i (by rw [List.length_take]; omega), List.takeWhile_cons]
    have : (l.take lim).getD i default = l.getD i default := by rw [getD_get _ _ _ (by rw [List.length_take]; omega), getD_get _ _ _ (by omega), List.getElem_take]
    rw [this, show (l.getD i default).ts = 0 by omega]; rfl
  · rw [List.drop_eq_nil_of_le (by omega)]; rfl

theorem stampsL_step (l : List DEntry) (i lim : Nat) (h1 : i < lim) (h2 : i < l.length) (h3 : (l.getD i default).ts ≠ 0) : stampsL l i lim = (l.getD i default).ts :: stampsL l (i + 1) lim := by
  unfold stampsL
  rw [drop_getD _ i (by rw [List.length_take]; omega), List.takeWhile_cons]
  have : (l.take lim).getD i default = l.getD i default := by rw [getD_get _ _ _ (by rw [List.length_take]; omega), getD_get _ _ _ (by omega), List.getElem_take]
  rw [this, if_pos (by simpa using h3)]; rfl

def ackD (epoch good held from_ : Int) (l : List DEntry) : DMsg :=
  { (default : DMsg) with
    k := 4, epoch := max epoch 0, n := (min (max good 0) (l.length : Int)), m := max held 0, p := (min (max from_ 0) (min (max good 0) (l.length : Int))), stamps := stampsL l (min (max from_ 0) (min (max good 0) (l.length : Int))).toNat (min (min (max good 0) (l.length : Int)) ((min (max from_ 0) (min (max good 0) (l.length : Int))) + 8)).toNat }

set_option maxHeartbeats 4000000 in
theorem c_ref32_Ack {A0 : Nat → Prop} (epoch : Int) (good : Int) (held : Int) (from_ : Int) (v_l : Value) (l : List DEntry) (w : World) (h_epoch : i64ok epoch) (h_good : i64ok good) (h_held : i64ok held) (h_from_ : i64ok from_) (L_l : slRep RDEntry A0 w v_l l) (hll : l.length ≤ 1000000) :
    Calls Try.prog 13 #[.int .i64 epoch, .int .i64 good, .int .i64 held, .int .i64 from_, v_l] w (Ret fun r w' => ∃ q0 q1 q2 q3 q4 : Value, r = .agg (cDMsg (ackD epoch good held from_ l) q0 q1 q2 q3 q4).toArray ∧ slRep RDMember (fun k => A0 k ∨ w.heap.size ≤ k) w' q0 (ackD epoch good held from_ l).conf.members ∧ slRep RDOp (fun k => A0 k ∨ w.heap.size ≤ k) w' q1 (ackD epoch good held from_ l).batch.ops ∧ slRep RDEntry (fun k => A0 k ∨ w.heap.size ≤ k) w' q2 (ackD epoch good held from_ l).entries ∧ slRep RU (fun k => A0 k ∨ w.heap.size ≤ k) w' q3 (ackD epoch good held from_ l).stamps ∧ slRep RDPair (fun k => A0 k ∨ w.heap.size ≤ k) w' q4 (ackD epoch good held from_ l).pairs ∧ Below w.heap.size w w') := by
  have B : Bt [] w w := Bt.refl _ _
  obtain ⟨ao_v_l, cap_v_l, rfl, hc_v_l, hm_v_l⟩ := L_l.shape
  unfold maxLen at hm_v_l
  obtain ⟨P1, ha_P1, ho_P1, L_l⟩ : ∃ X : Nat → Prop, (∀ k, X k → k < w.heap.size) ∧ (∀ k, X k → A0 k ∨ w.heap.size ≤ k) ∧ slRep RDEntry X w (.slice ao_v_l l.length cap_v_l) l := ⟨_, fun k h => h.2, fun k h => .inl h.1, L_l.bound⟩
  unfold i64ok at h_epoch
  unfold i64ok at h_good
  unfold i64ok at h_held
  unfold i64ok at h_from_
  refine f_enter 60 Try.func13 rfl rfl (Nat.le_of_ble_eq_true rfl) fun a hok => ?_
  replace hok := hok.sub (ts := [0, 1, 2, 3, 4]) rfl
  refine wp_seq ?_
  refine f_region hok ?_; clear hok; intro hok
  refine s_alloc hok (cs := [.int .i64 0, .int .i64 0, .int .i64 0, .int .i64 0, .bool false, .int .u64 0, .int .u64 0, .int .i64 0, .int .i64 0, .int .i64 0, .int .i64 0, .string ByteArray.empty, .string ByteArray.empty, .int .i64 0, .slice none 0 0, .int .u64 0, .int .i64 0, .int .i64 0, .slice none 0 0, .slice none 0 0, .slice none 0 0, .slice none 0 0]) (z := .agg #[.int .i64 0, .int .i64 0, .int .i64 0, .int .i64 0, .bool false, .int .u64 0, .int .u64 0, .int .i64 0, .int .i64 0, .int .i64 0, .int .i64 0, .string ByteArray.empty, .string ByteArray.empty, .int .i64 0, .slice none 0 0, .int .u64 0, .int .i64 0, .int .i64 0, .slice none 0 0, .slice none 0 0, .slice none 0 0, .slice none 0 0]) rfl rfl rfl (by decide) rfl (by kernel_rfl) rfl ?_; clear hok a; intro a w1 b1 hb0_b1 hb1_b1 hb X1 hok
  have hge_b1 : w.heap.size ≤ b1 := by have := B.size; omega
  have hz_w1 : w.heap.size ≤ w1.heap.size := hb.size
  replace B := B.blw hb
  replace L_l := L_l.below hb
  clear hb
  refine s_end hok [0, 1, 2, 3, 4, 10] rfl ?_; clear hok; intro hok
  refine p_then ?_
  refine wp_seq ?_
  refine f_region hok ?_; clear hok; intro hok
  refine s_runk TB_Relay2 hok 3 rfl rfl ?_; clear hok a; intro a hok
  refine s_call hok fn_39_Relay2 (caps := #[]) rfl rfl rfl rfl rfl (by decide) rfl rfl (c_ref32_fit good (l.length : Int) _ h_good (show i64ok (l.length : Int) by unfold i64ok; omega)) ?_; clear hok a; intro _ a w2 hr hok
  obtain ⟨rfl, hb⟩ := hr
  have hz_w2 : w1.heap.size ≤ w2.heap.size := hb.size
  replace B := B.blw hb
  replace L_l := L_l.below hb
  replace X1 := X1.below hb
  clear hb
  refine s_runk TB_Relay2 hok 1 rfl rfl ?_; clear hok a; intro a hok
  refine s_end hok [0, 1, 2, 3, 4, 10, 11] rfl ?_; clear hok; intro hok
  refine p_then ?_
  refine wp_seq ?_
  refine f_region hok ?_; clear hok; intro hok
  refine s_runk TB_Relay2 hok 2 rfl rfl ?_; clear hok a; intro a hok
  refine s_call hok fn_39_Relay2 (caps := #[]) rfl rfl rfl rfl rfl (by decide) rfl rfl (c_ref32_fit from_ (min (max good 0) (l.length : Int)) _ h_from_ (show i64ok (min (max good 0) (l.length : Int)) by unfold i64ok; omega)) ?_; clear hok a; intro _ a w3 hr hok
  obtain ⟨rfl, hb⟩ := hr
  have hz_w3 : w2.heap.size ≤ w3.heap.size := hb.size
  replace B := B.blw hb
  replace L_l := L_l.below hb
  replace X1 := X1.below hb
  clear hb
  refine s_runk TB_Relay2 hok 1 rfl rfl ?_; clear hok a; intro a hok
  refine s_end hok [0, 1, 2, 3, 4, 10, 11, 12] rfl ?_; clear hok; intro hok
  refine p_then ?_
  refine wp_seq ?_
  refine f_region hok ?_; clear hok; intro hok
  refine s_runk TB_Relay2 hok 6 rfl rfl ?_; clear hok a; intro a hok
  refine s_ob hok (v := .agg #[.int .i64 4, .int .i64 (max epoch 0), .int .i64 0, .int .i64 0, .bool false, .int .u64 0, .int .u64 0, .int .i64 (min (max good 0) (l.length : Int)), .int .i64 (max held 0), .int .i64 (min (max from_ 0) (min (max good 0) (l.length : Int))), .int .i64 0, .string ByteArray.empty, .string ByteArray.empty, .int .i64 0, .slice none 0 0, .int .u64 0, .int .i64 0, .int .i64 0, .slice none 0 0, .slice none 0 0, .slice none 0 0, .slice none 0 0]) rfl rfl (by decide) rfl (Ob_build (vs := [(0, .int .i64 4), (1, .int .i64 (max epoch 0)), (7, .int .i64 (min (max good 0) (l.length : Int))), (8, .int .i64 (max held 0)), (9, .int .i64 (min (max from_ 0) (min (max good 0) (l.length : Int))))]) rfl rfl (by go_simp <;> rfl)) ?_; clear hok a; intro a hok
  refine s_alloc hok (cs := [.int .i64 0, .int .i64 0, .int .i64 0, .int .i64 0, .bool false, .int .u64 0, .int .u64 0, .int .i64 0, .int .i64 0, .int .i64 0, .int .i64 0, .string ByteArray.empty, .string ByteArray.empty, .int .i64 0, .slice none 0 0, .int .u64 0, .int .i64 0, .int .i64 0, .slice none 0 0, .slice none 0 0, .slice none 0 0, .slice none 0 0]) (z := .agg #[.int .i64 0, .int .i64 0, .int .i64 0, .int .i64 0, .bool false, .int .u64 0, .int .u64 0, .int .i64 0, .int .i64 0, .int .i64 0, .int .i64 0, .string ByteArray.empty, .string ByteArray.empty, .int .i64 0, .slice none 0 0, .int .u64 0, .int .i64 0, .int .i64 0, .slice none 0 0, .slice none 0 0, .slice none 0 0, .slice none 0 0]) rfl rfl rfl (by decide) rfl (by kernel_rfl) rfl ?_; clear hok a; intro a w4 b2 hb0_b2 hb1_b2 hb X2 hok
  have hge_b2 : w.heap.size ≤ b2 := by have := B.size; omega
  have hlt_b1_b2 : b1 < b2 := by have := X1.lt; omega
  have hz_w4 : w3.heap.size ≤ w4.heap.size := hb.size
  replace B := B.blw hb
  replace L_l := L_l.below hb
  replace X1 := X1.below hb
  clear hb
  refine s_store TB_Relay2 hok (us := [.int .i64 4, .int .i64 (max epoch 0), .int .i64 0, .int .i64 0, .bool false, .int .u64 0, .int .u64 0, .int .i64 (min (max good 0) (l.length : Int)), .int .i64 (max held 0), .int .i64 (min (max from_ 0) (min (max good 0) (l.length : Int))), .int .i64 0, .string ByteArray.empty, .string ByteArray.empty, .int .i64 0, .slice none 0 0, .int .u64 0, .int .i64 0, .int .i64 0, .slice none 0 0, .slice none 0 0, .slice none 0 0, .slice none 0 0]) (cs' := [.int .i64 4, .int .i64 (max epoch 0), .int .i64 0, .int .i64 0, .bool false, .int .u64 0, .int .u64 0, .int .i64 (min (max good 0) (l.length : Int)), .int .i64 (max held 0), .int .i64 (min (max from_ 0) (min (max good 0) (l.length : Int))), .int .i64 0, .string ByteArray.empty, .string ByteArray.empty, .int .i64 0, .slice none 0 0, .int .u64 0, .int .i64 0, .int .i64 0, .slice none 0 0, .slice none 0 0, .slice none 0 0, .slice none 0 0]) X2 rfl rfl rfl rfl rfl rfl rfl rfl (ones_all rfl) (Nat.le_of_ble_eq_true rfl) (putCells_all rfl) fun w5 ht X3 => ?_
  clear X2
  have hz_w5 : w4.heap.size ≤ w5.heap.size := Nat.le_of_eq ht.size.symm
  replace B := B.trn ht (.inr hge_b2)
  replace L_l := L_l.turn ht (fun h => by have := ha_P1 _ h; omega)
  replace X1 := X1.turn ht (by omega)
  clear ht
  refine s_end hok [0, 1, 2, 3, 4, 10, 11, 12, 13] rfl ?_; clear hok; intro hok
  refine p_then ?_
  refine wp_seq ?_
  refine wp_seq ?_
  refine f_region hok ?_; clear hok; intro hok
  refine s_runk TB_Relay2 hok 2 rfl rfl ?_; clear hok a; intro a hok
  refine s_end hok [0, 1, 2, 3, 4, 10, 11, 12, 13, 14] rfl ?_; clear hok; intro hok
  refine p_then ?_
  refine wp_block ?_
  have O1 : Ow RU NoA w.heap.size 24 w5 (.slice none 0 0) [] := Ow.nil _ _ _ _ _ _
  have hg_O1 : ∀ k, (Value.slice none 0 0).ownBlock = some k → w.heap.size ≤ k ∧ k < w5.heap.size := fun k h => by cases h
  have hnb_O1_b1 : (Value.slice none 0 0).ownBlock ≠ some b1 := by intro h; cases h
  have hnb_O1_b2 : (Value.slice none 0 0).ownBlock ≠ some b2 := by intro h; cases h
  refine f_loop (σ := Int × List Nat) (fun ⟨i, es⟩ a w' => ∃ ao_c20 cap_c20, Sl 60 [(0, .int .i64 epoch), (1, .int .i64 good), (2, .int .i64 held), (3, .int .i64 from_), (4, .slice ao_v_l l.length cap_v_l), (10, .pointer (some ⟨b1, 0, none⟩)), (11, .int .i64 (min (max good 0) (l.length : Int))), (12, .int .i64 (min (max from_ 0) (min (max good 0) (l.length : Int)))), (13, .pointer (some ⟨b2, 0, none⟩)), (14, .int .i64 i)] a ∧ ((min (max from_ 0) (min (max good 0) (l.length : Int))) ≤ i ∧ i ≤ (min (max good 0) (l.length : Int)) ∧ i ≤ (min (max from_ 0) (min (max good 0) (l.length : Int))) + 8) ∧ ((es.length : Int) + (min (max from_ 0) (min (max good 0) (l.length : Int))) = i) ∧ (stampsL l (min (max from_ 0) (min (max good 0) (l.length : Int))).toNat (min (min (max good 0) (l.length : Int)) ((min (max from_ 0) (min (max good 0) (l.length : Int))) + 8)).toNat = es ++ stampsL l i.toNat (min (min (max good 0) (l.length : Int)) ((min (max from_ 0) (min (max good 0) (l.length : Int))) + 8)).toNat) ∧ Bt [] w w' ∧ slRep RDEntry P1 w' (.slice ao_v_l l.length cap_v_l) l ∧ Box w' b1 37 [.int .i64 0, .int .i64 0, .int .i64 0, .int .i64 0, .bool false, .int .u64 0, .int .u64 0, .int .i64 0, .int .i64 0, .int .i64 0, .int .i64 0, .string ByteArray.empty, .string ByteArray.empty, .int .i64 0, .slice none 0 0, .int .u64 0, .int .i64 0, .int .i64 0, .slice none 0 0, .slice none 0 0, .slice none 0 0, .slice none 0 0] ∧ Box w' b2 37 [.int .i64 4, .int .i64 (max epoch 0), .int .i64 0, .int .i64 0, .bool false, .int .u64 0, .int .u64 0, .int .i64 (min (max good 0) (l.length : Int)), .int .i64 (max held 0), .int .i64 (min (max from_ 0) (min (max good 0) (l.length : Int))), .int .i64 0, .string ByteArray.empty, .string ByteArray.empty, .int .i64 0, .slice none 0 0, .int .u64 0, .int .i64 0, .int .i64 0, .slice none 0 0, .slice none 0 0, .slice ao_c20 es.length cap_c20, .slice none 0 0] ∧ Ow RU NoA w.heap.size 24 w' (.slice ao_c20 es.length cap_c20) es ∧ es.length ≤ cap_c20 ∧ cap_c20 ≤ maxLen ∧ (∀ k, (Value.slice ao_c20 es.length cap_c20).ownBlock = some k → w.heap.size ≤ k ∧ k < w'.heap.size) ∧ (Value.slice ao_c20 es.length cap_c20).ownBlock ≠ some b1 ∧ (Value.slice ao_c20 es.length cap_c20).ownBlock ≠ some b2) (fun ⟨i, es⟩ => ((min (max good 0) (l.length : Int)) - i).toNat) ((min (max from_ 0) (min (max good 0) (l.length : Int))), []) ⟨_, _, hok.sub (ts := [0, 1, 2, 3, 4, 10, 11, 12, 13, 14]) rfl, by omega, by simp, by rfl, B, L_l, X1, X3, O1, (Nat.le_refl 0), (by decide), hg_O1, hnb_O1_b1, hnb_O1_b2⟩ ?_
  clear hok B L_l X1 X3 O1 hg_O1 hnb_O1_b1 hnb_O1_b2
  rintro ⟨i, es⟩ a w6 ⟨ao_c20, cap_c20, hok, hinv0_0, hinv0_1, hinv0_2, B, L_l, X1, X3, O1, hc_oc20, hm_oc20, hg_O1, hnb_O1_b1, hnb_O1_b2⟩
  unfold maxLen at hm_oc20
  refine wp_seq ?_
  refine wp_seq ?_
  refine f_region hok ?_; clear hok; intro hok
  refine s_runk TB_Relay2 hok 4 rfl rfl ?_; clear hok a; intro a hok
  refine s_gob hok (c := decide (i < (min (max good 0) (l.length : Int)))) rfl rfl rfl rfl (by decide) rfl (by decide) rfl (fun _ => Ob_c TB_Relay2 rfl) ?_; clear hok a; intro a hok
  refine s_gob hok (c := decide (i < (min (max good 0) (l.length : Int)))) rfl rfl rfl rfl (by decide) rfl (by decide) rfl (fun _ => Ob_c TB_Relay2 rfl) ?_; clear hok a; intro a hok
  refine s_gob hok (c := decide (i < (min (max good 0) (l.length : Int)))) (v := .int .i64 (min (max from_ 0) (min (max good 0) (l.length : Int)) + 8)) rfl rfl rfl rfl (by decide) rfl (by decide) rfl (fun hg1 => ?_) ?_
  · replace hg1 := of_decide_eq_true hg1
    exact Ob_add rfl rfl rfl (IntWalk.i64_in _ (by omega))
  clear hok a; intro a hok
  refine s_gob hok (c := decide (i < (min (max good 0) (l.length : Int)))) rfl rfl rfl rfl (by decide) rfl (by decide) rfl (fun _ => Ob_c TB_Relay2 rfl) ?_; clear hok a; intro a hok
  refine s_and hok (i := 3) rfl rfl rfl rfl rfl rfl rfl (by decide) rfl rfl ?_; clear hok a; intro a hok
  refine s_runk TB_Relay2 hok 1 rfl rfl ?_; clear hok a; intro a hok
  refine s_gob hok (c := (decide (i < (min (max good 0) (l.length : Int)))) && (decide (i < (min (max from_ 0) (min (max good 0) (l.length : Int)) + 8)))) rfl rfl rfl rfl (by decide) rfl (by decide) rfl (fun _ => Ob_c TB_Relay2 rfl) ?_; clear hok a; intro a hok
  refine s_gob hok (c := (decide (i < (min (max good 0) (l.length : Int)))) && (decide (i < (min (max from_ 0) (min (max good 0) (l.length : Int)) + 8)))) rfl rfl rfl rfl (by decide) rfl (by decide) rfl (fun _ => Ob_c TB_Relay2 rfl) ?_; clear hok a; intro a hok
  refine s_gob hok (c := (decide (i < (min (max good 0) (l.length : Int)))) && (decide (i < (min (max from_ 0) (min (max good 0) (l.length : Int)) + 8)))) (v := .pointer (some ⟨bOf ao_v_l, oOf ao_v_l + i.toNat * 4, none⟩)) rfl rfl rfl rfl (by decide) rfl (by decide) rfl (fun hg2 => ?_) ?_
  · replace hg2 := And.intro (of_decide_eq_true (andT1 hg2)) (of_decide_eq_true (andT2 hg2))
    have hi1 : i.toNat < l.length := by omega
    have he1 := elt L_l (i.toNat) (slRep.lt L_l hi1)
    exact Ob_idx TB_Relay2 (i.toNat) rfl rfl he1.1 rfl rfl (by omega) hi1
  clear hok a; intro a hok
  refine s_gob hok (c := (decide (i < (min (max good 0) (l.length : Int)))) && (decide (i < (min (max from_ 0) (min (max good 0) (l.length : Int)) + 8)))) rfl rfl rfl rfl (by decide) rfl (by decide) rfl (fun _ => Ob_c TB_Relay2 rfl) ?_; clear hok a; intro a hok
  refine s_gob hok (c := (decide (i < (min (max good 0) (l.length : Int)))) && (decide (i < (min (max from_ 0) (min (max good 0) (l.length : Int)) + 8)))) (v := .int .u64 ((l.getD i.toNat default).ts : Int)) rfl rfl rfl rfl (by decide) rfl (by decide) rfl (fun hg3 => ?_) ?_
  · replace hg3 := And.intro (of_decide_eq_true (andT1 hg3)) (of_decide_eq_true (andT2 hg3))
    have hi2 : i.toNat < l.length := by omega
    have he2 := elt L_l (i.toNat) (slRep.lt L_l hi2)
    obtain ⟨_, _, _, ⟨u1, rfl, L1, hok_e1⟩, hat1⟩ := id he2
    obtain ⟨ao_u1, cap_u1, rfl, hc_u1, hm_u1⟩ := L1.shape
    unfold maxLen at hm_u1
    exact Ob_load TB_Relay2 rfl rfl rfl (hat1 3 _ rfl)
  clear hok a; intro a hok
  refine s_gob hok (c := (decide (i < (min (max good 0) (l.length : Int)))) && (decide (i < (min (max from_ 0) (min (max good 0) (l.length : Int)) + 8)))) rfl rfl rfl rfl (by decide) rfl (by decide) rfl (fun _ => Ob_c TB_Relay2 rfl) ?_; clear hok a; intro a hok
  refine s_and hok (i := 9) rfl rfl rfl rfl rfl rfl rfl (by decide) rfl rfl ?_; clear hok a; intro a hok
  refine s_end hok [0, 1, 2, 3, 4, 10, 11, 12, 13, 14, 46] rfl ?_; clear hok; intro hok
  refine p_then ?_
  refine f_cond hok rfl (fun hc1 => ?_) (fun hc1 => ?_)
  · replace hc1 := And.intro (And.intro (of_decide_eq_true (andT1 (andT1 hc1))) (of_decide_eq_true (andT2 (andT1 hc1)))) (bne_iff_ne.1 (andT2 hc1))
    refine wp_skip ?_
    refine p_then ?_
    refine wp_seq ?_
    refine wp_block ?_
    have hi3 : i.toNat < l.length := by omega
    have he3 := elt L_l (i.toNat) (slRep.lt L_l hi3)
    obtain ⟨_, _, _, ⟨u2, rfl, L2, hok_e2⟩, hat2⟩ := id he3
    obtain ⟨ao_u2, cap_u2, rfl, hc_u2, hm_u2⟩ := L2.shape
    unfold maxLen at hm_u2
    refine f_regionFS hok 8 (by kernel_rfl) (by kernel_rfl) (by kernel_rfl) (by decide) (by decide) (fun xw => Bt [] w6 xw) (fun jj vv xw => match jj with | 0 => vv = .pointer (some ⟨b2, 20, none⟩) | 1 => vv = .slice ao_c20 es.length cap_c20 | 2 => vv = .slice ao_v_l l.length cap_v_l | 3 => vv = .int .i64 i | 4 => vv = .pointer (some ⟨bOf ao_v_l, oOf ao_v_l + i.toNat * 4, none⟩) | 5 => vv = .pointer (some ⟨bOf ao_v_l, oOf ao_v_l + i.toNat * 4 + 3, none⟩) | 6 => vv = .int .u64 ((l.getD i.toNat default).ts : Int) | 7 => ∃ bb, vv = .slice (some ⟨bb, 0, none⟩) 1 1 ∧ w6.heap.size ≤ bb ∧ Box xw bb 24 [.int .u64 ((l.getD i.toNat default).ts : Int)] | _ => True) (Bt.of (Below.refl _ _).drew) ?_ ?_
    · intro fr hfr hfe
      simp only [List.take, owesF]
      refine ⟨fun vals xw hC hF hL => ?_, fun vals xw hC hF hL => ?_, fun vals xw hC hF hL => ?_, fun vals xw hC hF hL => ?_, fun vals xw hC hF hL => ?_, fun vals xw hC hF hL => ?_, fun vals xw hC hF hL => ?_, fun vals xw hC hF hL => ?_, trivial⟩
      · rw [← hfe]
        have hS := (hfr vals).sub (ts := [13]) (S' := [(13, .pointer (some ⟨b2, 0, none⟩))]) rfl
        exact F_val hS rfl (Ob_c TB_Relay2 rfl) hC rfl
      · rw [← hfe]
        have hS := (hfr vals).sub (ts := [49]) (S' := [(49, vals 0)]) rfl
        have f0 : vals 0 = .pointer (some ⟨b2, 20, none⟩) := hF 0 (by decide)
        rw [f0] at hS
        have hw := hC.toBelow
        exact F_val hS rfl (Ob_load TB_Relay2 rfl rfl rfl ((X3.below hw).cell 20 rfl)) hC rfl
      · rw [← hfe]
        have hS := (hfr vals).sub (ts := [4]) (S' := [(4, .slice ao_v_l l.length cap_v_l)]) rfl
        exact F_val hS rfl (Ob_c TB_Relay2 rfl) hC rfl
      · rw [← hfe]
        have hS := (hfr vals).sub (ts := [14]) (S' := [(14, .int .i64 i)]) rfl
        exact F_val hS rfl (Ob_c TB_Relay2 rfl) hC rfl
      · rw [← hfe]
        have hS := (hfr vals).sub (ts := [51, 52]) (S' := [(51, vals 2), (52, vals 3)]) rfl
        have f2 : vals 2 = .slice ao_v_l l.length cap_v_l := hF 2 (by decide)
        have f3 : vals 3 = .int .i64 i := hF 3 (by decide)
        rw [f2, f3] at hS
        have hi4 : i.toNat < l.length := by omega
        have hw := hC.toBelow
        exact F_val hS rfl (Ob_idx TB_Relay2 (i.toNat) rfl rfl he3.1 rfl rfl (by omega) hi4) hC rfl
      · rw [← hfe]
        have hS := (hfr vals).sub (ts := [53]) (S' := [(53, vals 4)]) rfl
        have f4 : vals 4 = .pointer (some ⟨bOf ao_v_l, oOf ao_v_l + i.toNat * 4, none⟩) := hF 4 (by decide)
        rw [f4] at hS
        exact F_val hS rfl (Ob_c TB_Relay2 rfl) hC rfl
      · rw [← hfe]
        have hS := (hfr vals).sub (ts := [54]) (S' := [(54, vals 5)]) rfl
        have f5 : vals 5 = .pointer (some ⟨bOf ao_v_l, oOf ao_v_l + i.toNat * 4 + 3, none⟩) := hF 5 (by decide)
        rw [f5] at hS
        have hw := hC.toBelow
        exact F_val hS rfl (Ob_load TB_Relay2 rfl rfl rfl ((hat2.below hw he3.2.1.2) 3 _ rfl)) hC rfl
      · rw [← hfe]
        have hS := (hfr vals).sub (ts := [55]) (S' := [(55, vals 6)]) rfl
        have f6 : vals 6 = .int .u64 ((l.getD i.toNat default).ts : Int) := hF 6 (by decide)
        rw [f6] at hS
        refine F_bslice (vs := [(0, .int .u64 ((l.getD i.toNat default).ts : Int))]) (cs := [.int .u64 ((l.getD i.toNat default).ts : Int)]) (e := 24) hS rfl rfl rfl (fun w => run_bslice (z := .int .u64 0) (m := 1) Try.underlying34 (by kernel_rfl) rfl rfl (by decide) (by simp [Instr.fill, Value.cells]) w) fun yw bb he hb hX => ?_
        refine ⟨⟨hC.blw hb, fun j v hj hne hk h => ?_⟩, ⟨bb, rfl, by have := hC.size; omega, hX⟩⟩
        match j, hne, h with
          | 0, hne, h => exact h
          | 1, hne, h => exact h
          | 2, hne, h => exact h
          | 3, hne, h => exact h
          | 4, hne, h => exact h
          | 5, hne, h => exact h
          | 6, hne, h => exact h
          | 7, hne, h => exact (by obtain ⟨bb, h1, h2, h3⟩ := h; exact ⟨bb, h1, h2, h3.below hb⟩)
          | _ + 8, hne, h => trivial
    · intro vals a w7 hS hC hF
      replace hok := hS.sub (ts := [0, 1, 2, 3, 4, 10, 11, 12, 13, 14, 46, 49, 50, 51, 52, 53, 54, 55, 56]) (S' := [(0, .int .i64 epoch), (1, .int .i64 good), (2, .int .i64 held), (3, .int .i64 from_), (4, .slice ao_v_l l.length cap_v_l), (10, .pointer (some ⟨b1, 0, none⟩)), (11, .int .i64 (min (max good 0) (l.length : Int))), (12, .int .i64 (min (max from_ 0) (min (max good 0) (l.length : Int)))), (13, .pointer (some ⟨b2, 0, none⟩)), (14, .int .i64 i), (46, .bool (((decide (i < (min (max good 0) (l.length : Int)))) && (decide (i < (min (max from_ 0) (min (max good 0) (l.length : Int)) + 8)))) && (((l.getD i.toNat default).ts : Int) != 0))), (49, vals 0), (50, vals 1), (51, vals 2), (52, vals 3), (53, vals 4), (54, vals 5), (55, vals 6), (56, vals 7)]) rfl; clear hS
      have f0 : vals 0 = .pointer (some ⟨b2, 20, none⟩) := hF 0 (by decide)
      have f1 : vals 1 = .slice ao_c20 es.length cap_c20 := hF 1 (by decide)
      have f2 : vals 2 = .slice ao_v_l l.length cap_v_l := hF 2 (by decide)
      have f3 : vals 3 = .int .i64 i := hF 3 (by decide)
      have f4 : vals 4 = .pointer (some ⟨bOf ao_v_l, oOf ao_v_l + i.toNat * 4, none⟩) := hF 4 (by decide)
      have f5 : vals 5 = .pointer (some ⟨bOf ao_v_l, oOf ao_v_l + i.toNat * 4 + 3, none⟩) := hF 5 (by decide)
      have f6 : vals 6 = .int .u64 ((l.getD i.toNat default).ts : Int) := hF 6 (by decide)
      obtain ⟨b3, f7, hbg_b3, X4⟩ := hF 7 (by decide)
      rw [f0, f1, f2, f3, f4, f5, f6, f7] at hok
      clear f0 f1 f2 f3 f4 f5 f6 f7
      replace hC := hC.toBelow; clear hF
      have hge_b3 : w.heap.size ≤ b3 := by have := B.size; omega
      have hlt_b1_b3 : b1 < b3 := by have := X1.lt; omega
      have hlt_b2_b3 : b2 < b3 := by have := X3.lt; omega
      have hnb_O1_b3 : (Value.slice ao_c20 es.length cap_c20).ownBlock ≠ some b3 := fun e => by have := (hg_O1 _ e).2; omega
      have hz_w7 : w6.heap.size ≤ w7.heap.size := hC.size
      replace B := B.blw hC
      replace L_l := L_l.below hC
      replace X1 := X1.below hC
      replace X3 := X3.below hC
      replace O1 := O1.below hC
      replace hg_O1 := fun k h => And.intro (hg_O1 k h).1 (Nat.lt_of_lt_of_le (hg_O1 k h).2 hC.size)
      replace L2 := L2.below hC
      clear hC
      refine s_app2 hok RU NoA w.heap.size E_34_Relay2 rfl es [(l.getD i.toNat default).ts] AnyA NoA rfl rfl rfl (by decide) rfl rfl rfl O1 (slRep2.box1 X4 ⟨rfl, hok_e2.2⟩) RU.isFlat.off (by simp only [maxLen, List.length_append, List.length_cons, List.length_nil]; omega) (by simp only [List.length_append, List.length_cons, List.length_nil]; omega) B.size hg_O1 ?_; clear hok a; intro ao1 cap1 a w8 O2 hc_O2 hm_O2 hb hblk hown hg_O2 hok
      have hz_w8 : w7.heap.size ≤ w8.heap.size := hb.size
      replace B := B.app hb
      replace L_l := L_l.mono (fun _ h => h) (keep_app hz_w8 hblk (fun k h e => by have h1 := ha_P1 _ h; have h2 := (hg_O1 k e).1; omega))
      have hnb_O2_b1 : (Value.slice ao1 (es ++ [(l.getD i.toNat default).ts]).length cap1).ownBlock ≠ some b1 := fun e => (hown _ e).elim hnb_O1_b1 (fun h => by have := X1.lt; omega)
      replace X1 := X1.keep (hblk _ X1.lt hnb_O1_b1)
      have hnb_O2_b2 : (Value.slice ao1 (es ++ [(l.getD i.toNat default).ts]).length cap1).ownBlock ≠ some b2 := fun e => (hown _ e).elim hnb_O1_b2 (fun h => by have := X3.lt; omega)
      replace X3 := X3.keep (hblk _ X3.lt hnb_O1_b2)
      replace L2 := L2.mono (fun _ h => h) (keep_app hz_w8 hblk (fun k h e => by have h1 := ha_P1 _ h; have h2 := (hg_O1 k e).1; omega))
      have hnb_O2_b3 : (Value.slice ao1 (es ++ [(l.getD i.toNat default).ts]).length cap1).ownBlock ≠ some b3 := fun e => (hown _ e).elim hnb_O1_b3 (fun h => by have := X4.lt; omega)
      replace X4 := X4.keep (hblk _ X4.lt hnb_O1_b3)
      clear hb hblk hown O1
      refine s_runk TB_Relay2 hok 1 rfl rfl ?_; clear hok a; intro a hok
      refine s_store TB_Relay2 hok (us := [.slice ao1 ((es ++ [(l.getD i.toNat default).ts]).length) cap1]) (cs' := [.int .i64 4, .int .i64 (max epoch 0), .int .i64 0, .int .i64 0, .bool false, .int .u64 0, .int .u64 0, .int .i64 (min (max good 0) (l.length : Int)), .int .i64 (max held 0), .int .i64 (min (max from_ 0) (min (max good 0) (l.length : Int))), .int .i64 0, .string ByteArray.empty, .string ByteArray.empty, .int .i64 0, .slice none 0 0, .int .u64 0, .int .i64 0, .int .i64 0, .slice none 0 0, .slice none 0 0, .slice ao1 ((es ++ [(l.getD i.toNat default).ts]).length) cap1, .slice none 0 0]) X3 rfl rfl rfl rfl rfl rfl rfl rfl (by simp only [List.mem_cons, List.not_mem_nil, or_false]; rintro u rfl <;> rfl) (Nat.le_of_ble_eq_true rfl) rfl fun w9 ht X5 => ?_
      clear X3
      have hz_w9 : w8.heap.size ≤ w9.heap.size := Nat.le_of_eq ht.size.symm
      replace B := B.trn ht (.inr hge_b2)
      replace L_l := L_l.turn ht (fun h => by have := ha_P1 _ h; omega)
      replace X1 := X1.turn ht (by omega)
      replace L2 := L2.turn ht (fun h => by have := ha_P1 _ h; omega)
      replace X4 := X4.turn ht (by omega)
      replace O2 := O2.turn ht (fun h => h) hnb_O2_b2
      replace hg_O2 := fun k h => And.intro (hg_O2 k h).1 (Nat.lt_of_lt_of_le (hg_O2 k h).2 (Nat.le_of_eq ht.size.symm))
      clear ht
      refine s_end hok [0, 1, 2, 3, 4, 10, 11, 12, 13, 14, 46] rfl ?_; clear hok; intro hok
      refine p_blk ?_
      refine p_then ?_
      refine f_region hok ?_; clear hok; intro hok
      refine s_runk TB_Relay2 hok 1 rfl rfl ?_; clear hok a; intro a hok
      refine s_ob hok (v := .int .i64 (i + 1)) rfl rfl (by decide) rfl (Ob_add rfl rfl rfl (IntWalk.i64_in _ (by omega))) ?_; clear hok a; intro a hok
      refine s_runk TB_Relay2 hok 1 rfl rfl ?_; clear hok a; intro a hok
      refine s_end hok [0, 1, 2, 3, 4, 10, 11, 12, 13, 14, 46] rfl ?_; clear hok; intro hok
      refine p_then ?_
      refine ⟨(i + 1, es ++ [(l.getD i.toNat default).ts]), ⟨_, _, hok.sub (ts := [0, 1, 2, 3, 4, 10, 11, 12, 13, 14]) rfl, ?_, ?_, ?_, B, L_l, X1, X5, O2, hc_O2, (by first | assumption | exact hm_O2), hg_O2, hnb_O2_b1, hnb_O2_b2⟩, by dsimp only; omega⟩
      · clear hok B L_l X1 X5 L2 X4 O2 hc_v_l hm_v_l ha_P1 ho_P1 hb0_b1 hb1_b1 hge_b1 hz_w1 hz_w2 hz_w3 hb0_b2 hb1_b2 hge_b2 hlt_b1_b2 hz_w4 hz_w5 hc_oc20 hm_oc20 hg_O1 hnb_O1_b1 hnb_O1_b2 he3 hat2 hge_b3 hlt_b1_b3 hlt_b2_b3 hnb_O1_b3 hz_w7 hc_O2 hm_O2 hz_w8 hg_O2 hnb_O2_b1 hnb_O2_b2 hnb_O2_b3 hz_w9
        omega
      · clear hok B L_l X1 X5 L2 X4 O2 hc_v_l hm_v_l ha_P1 ho_P1 hb0_b1 hb1_b1 hge_b1 hz_w1 hz_w2 hz_w3 hb0_b2 hb1_b2 hge_b2 hlt_b1_b2 hz_w4 hz_w5 hc_oc20 hm_oc20 hg_O1 hnb_O1_b1 hnb_O1_b2 he3 hat2 hge_b3 hlt_b1_b3 hlt_b2_b3 hnb_O1_b3 hz_w7 hc_O2 hm_O2 hz_w8 hg_O2 hnb_O2_b1 hnb_O2_b2 hnb_O2_b3 hz_w9
        rw [List.length_append]; show ((_ + 1 : Nat) : Int) + _ = _; omega
      · clear hok B L_l X1 X5 L2 X4 O2 hc_v_l hm_v_l ha_P1 ho_P1 hb0_b1 hb1_b1 hge_b1 hz_w1 hz_w2 hz_w3 hb0_b2 hb1_b2 hge_b2 hlt_b1_b2 hz_w4 hz_w5 hc_oc20 hm_oc20 hg_O1 hnb_O1_b1 hnb_O1_b2 he3 hat2 hge_b3 hlt_b1_b3 hlt_b2_b3 hnb_O1_b3 hz_w7 hc_O2 hm_O2 hz_w8 hg_O2 hnb_O2_b1 hnb_O2_b2 hnb_O2_b3 hz_w9
        rw [hinv0_2, stampsL_step _ _ _ (by omega) (by omega) (by omega), show (i + 1).toNat = i.toNat + 1 by omega, List.append_assoc]; rfl
  · replace hc1 := andF hc1 (fun h => andF h (fun h => of_decide_eq_false h) (fun h => of_decide_eq_false h)) (fun h => bne_eq_false_iff_eq.1 h)
    refine wp_exit ?_
    refine p_then_x ?_
    refine p_then_x ?_
    refine f_exit_here ?_
    refine p_then ?_
    refine wp_seq ?_
    refine f_region hok ?_; clear hok; intro hok
    refine s_ob hok (v := .agg #[.int .i64 4, .int .i64 (max epoch 0), .int .i64 0, .int .i64 0, .bool false, .int .u64 0, .int .u64 0, .int .i64 (min (max good 0) (l.length : Int)), .int .i64 (max held 0), .int .i64 (min (max from_ 0) (min (max good 0) (l.length : Int))), .int .i64 0, .string ByteArray.empty, .string ByteArray.empty, .int .i64 0, .slice none 0 0, .int .u64 0, .int .i64 0, .int .i64 0, .slice none 0 0, .slice none 0 0, .slice ao_c20 es.length cap_c20, .slice none 0 0]) rfl rfl (by decide) rfl (Ob_loads TB_Relay2 (cs := [.int .i64 4, .int .i64 (max epoch 0), .int .i64 0, .int .i64 0, .bool false, .int .u64 0, .int .u64 0, .int .i64 (min (max good 0) (l.length : Int)), .int .i64 (max held 0), .int .i64 (min (max from_ 0) (min (max good 0) (l.length : Int))), .int .i64 0, .string ByteArray.empty, .string ByteArray.empty, .int .i64 0, .slice none 0 0, .int .u64 0, .int .i64 0, .int .i64 0, .slice none 0 0, .slice none 0 0, .slice ao_c20 es.length cap_c20, .slice none 0 0]) rfl rfl rfl X3.at) ?_; clear hok a; intro a hok
    refine s_store TB_Relay2 hok (us := [.int .i64 4, .int .i64 (max epoch 0), .int .i64 0, .int .i64 0, .bool false, .int .u64 0, .int .u64 0, .int .i64 (min (max good 0) (l.length : Int)), .int .i64 (max held 0), .int .i64 (min (max from_ 0) (min (max good 0) (l.length : Int))), .int .i64 0, .string ByteArray.empty, .string ByteArray.empty, .int .i64 0, .slice none 0 0, .int .u64 0, .int .i64 0, .int .i64 0, .slice none 0 0, .slice none 0 0, .slice ao_c20 es.length cap_c20, .slice none 0 0]) (cs' := [.int .i64 4, .int .i64 (max epoch 0), .int .i64 0, .int .i64 0, .bool false, .int .u64 0, .int .u64 0, .int .i64 (min (max good 0) (l.length : Int)), .int .i64 (max held 0), .int .i64 (min (max from_ 0) (min (max good 0) (l.length : Int))), .int .i64 0, .string ByteArray.empty, .string ByteArray.empty, .int .i64 0, .slice none 0 0, .int .u64 0, .int .i64 0, .int .i64 0, .slice none 0 0, .slice none 0 0, .slice ao_c20 es.length cap_c20, .slice none 0 0]) X1 rfl rfl rfl rfl rfl rfl rfl rfl (ones_all rfl) (Nat.le_of_ble_eq_true rfl) (putCells_all rfl) fun w10 ht X6 => ?_
    clear X1
    have hz_w10 : w6.heap.size ≤ w10.heap.size := Nat.le_of_eq ht.size.symm
    replace B := B.trn ht (.inr hge_b1)
    replace L_l := L_l.turn ht (fun h => by have := ha_P1 _ h; omega)
    replace X3 := X3.turn ht (by omega)
    replace O1 := O1.turn ht (fun h => h) hnb_O1_b1
    replace hg_O1 := fun k h => And.intro (hg_O1 k h).1 (Nat.lt_of_lt_of_le (hg_O1 k h).2 (Nat.le_of_eq ht.size.symm))
    clear ht
    refine s_end hok [0, 1, 2, 3, 4, 10, 11, 12, 13, 14, 46] rfl ?_; clear hok; intro hok
    refine p_then ?_
    refine wp_ret ?_
    refine f_ret hok (run_resultsC rfl hok rfl (run_loadVar_agg TB_Relay2 rfl X6.at)) ?_
    refine ⟨.slice none 0 0, .slice none 0 0, .slice none 0 0, .slice ao_c20 es.length cap_c20, .slice none 0 0, ?_, ?_, ?_, ?_, ?_, ?_, B.toBelow⟩
    · clear hok B L_l X6 X3 O1 hc_v_l hm_v_l ha_P1 ho_P1 hb0_b1 hb1_b1 hge_b1 hz_w1 hz_w2 hz_w3 hb0_b2 hb1_b2 hge_b2 hlt_b1_b2 hz_w4 hz_w5 hc_oc20 hm_oc20 hg_O1 hnb_O1_b1 hnb_O1_b2 hz_w10
      rfl
    · first | exact slRep.nil _ _ _ _ _ (Nat.zero_le _) | (show slRep RU _ _ _ (stampsL l (min (max from_ 0) (min (max good 0) (l.length : Int))).toNat (min (min (max good 0) (l.length : Int)) ((min (max from_ 0) (min (max good 0) (l.length : Int))) + 8)).toNat); rw [hinv0_2, stampsL_stop _ _ _ (by omega), List.append_nil]; exact O1.sl (fun _ h => h.elim) fun k h => Or.inr h)
    · first | exact slRep.nil _ _ _ _ _ (Nat.zero_le _) | (show slRep RU _ _ _ (stampsL l (min (max from_ 0) (min (max good 0) (l.length : Int))).toNat (min (min (max good 0) (l.length : Int)) ((min (max from_ 0) (min (max good 0) (l.length : Int))) + 8)).toNat); rw [hinv0_2, stampsL_stop _ _ _ (by omega), List.append_nil]; exact O1.sl (fun _ h => h.elim) fun k h => Or.inr h)
    · first | exact slRep.nil _ _ _ _ _ (Nat.zero_le _) | (show slRep RU _ _ _ (stampsL l (min (max from_ 0) (min (max good 0) (l.length : Int))).toNat (min (min (max good 0) (l.length : Int)) ((min (max from_ 0) (min (max good 0) (l.length : Int))) + 8)).toNat); rw [hinv0_2, stampsL_stop _ _ _ (by omega), List.append_nil]; exact O1.sl (fun _ h => h.elim) fun k h => Or.inr h)
    · first | exact slRep.nil _ _ _ _ _ (Nat.zero_le _) | (show slRep RU _ _ _ (stampsL l (min (max from_ 0) (min (max good 0) (l.length : Int))).toNat (min (min (max good 0) (l.length : Int)) ((min (max from_ 0) (min (max good 0) (l.length : Int))) + 8)).toNat); rw [hinv0_2, stampsL_stop _ _ _ (by omega), List.append_nil]; exact O1.sl (fun _ h => h.elim) fun k h => Or.inr h)
    · first | exact slRep.nil _ _ _ _ _ (Nat.zero_le _) | (show slRep RU _ _ _ (stampsL l (min (max from_ 0) (min (max good 0) (l.length : Int))).toNat (min (min (max good 0) (l.length : Int)) ((min (max from_ 0) (min (max good 0) (l.length : Int))) + 8)).toNat); rw [hinv0_2, stampsL_stop _ _ _ (by omega), List.append_nil]; exact O1.sl (fun _ h => h.elim) fun k h => Or.inr h)

end Go.Proofs.Ytmdoimpeacndaaa
