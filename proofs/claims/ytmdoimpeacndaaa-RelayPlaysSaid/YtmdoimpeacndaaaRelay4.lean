/- The laws of 'relay': whether a list is right, whether what goes along the chain may be written. -/
import Derived.Test.YtmdoimpeacndaaaRelay3
namespace Go.Proofs.Ytmdoimpeacndaaa
open Go.RowKit

def TB_Relay4L : TabL := ⟨[(33794, 2), (37888, 0), (37893, 5), (37897, 9), (37903, 19), (37904, 20), (58368, 0), (58369, 3)], [], [], [(22, (57, 4)), (31, (116, 3)), (34, (24, 1)), (45, (82, 18))], [(3, (1, false)), (5, (1, false)), (22, (1, false)), (24, (1, false)), (31, (1, false)), (34, (1, false)), (37, (22, true)), (57, (4, true)), (82, (18, true))]⟩

def TB_Relay4 : Tab Try.prog := ⟨TB_Relay4L, by kernel_rfl⟩

theorem fn_9_Relay4 : IsFn Try.prog 9 := ⟨_, Try.func9, by kernel_rfl, by kernel_rfl⟩

theorem fn_10_Relay4 : IsFn Try.prog 10 := ⟨_, Try.func10, by kernel_rfl, by kernel_rfl⟩

theorem fn_45_Relay4 : IsFn Try.prog 45 := ⟨_, Try.func45, by kernel_rfl, by kernel_rfl⟩

/-- how many operations entries have together, of the first so many, as the machine counts -/
def muchI (l : List DEntry) : Nat → Int
  | 0 => l.length
  | n + 1 => IntKind.i64.wrap (muchI l n + ((l.getD n default).batch.ops.length : Int))

set_option maxHeartbeats 1000000 in
theorem c_Much {A0 : Nat → Prop} (v_l : Value) (l : List DEntry) (w : World) (L_v_l : slRep RDEntry A0 w v_l l) :
    Calls Try.prog 6 #[v_l] w (Ret fun r w' => r = .int .i64 (muchI l (min l.length 200)) ∧ Below w.heap.size w w') := by
  obtain ⟨ao_v_l, cap_v_l, rfl, hc_v_l, hm_v_l⟩ := L_v_l.shape
  unfold maxLen at hm_v_l
  obtain ⟨I, hI, H⟩ : ∃ I : Dm, (∀ k, I k ↔ ((A0 k) ∧ k < w.heap.size)) ∧ Hf I NoD w I w [] := ⟨_, fun _ => Iff.rfl, (St.none _ _ fun _ h => h.2).hf⟩
  replace H := H.addsl (L_v_l.bound.mono (fun k h => (hI k).2 ⟨h.1, h.2⟩) (Keep.refl _ _))
  refine f_enter 27 Try.func6 rfl rfl (Nat.le_of_ble_eq_true rfl) fun a hok => ?_
  replace hok := hok.sub (ts := [0]) rfl
  refine wp_seq ?_
  refine f_region hok ?_; clear hok; intro hok
  refine s_runk TB_Relay4 hok 1 rfl rfl ?_; clear hok a; intro a hok
  refine s_end hok [0, 2] rfl ?_; clear hok; intro hok
  refine p_then ?_
  refine wp_seq ?_
  refine f_region hok ?_; clear hok; intro hok
  refine s_runk TB_Relay4 hok 3 rfl rfl ?_; clear hok a; intro a hok
  refine s_end hok [0, 2, 3] rfl ?_; clear hok; intro hok
  refine p_then ?_
  refine wp_seq ?_
  refine wp_seq ?_
  refine f_region hok ?_; clear hok; intro hok
  refine s_runk TB_Relay4 hok 1 rfl rfl ?_; clear hok a; intro a hok
  refine s_end hok [0, 2, 3, 4] rfl ?_; clear hok; intro hok
  refine p_then ?_
  refine wp_block ?_
  refine f_loop (σ := Nat) (fun k a w' => Sl 27 [(0, .slice ao_v_l l.length cap_v_l), (2, .int .i64 0), (3, .int .i64 (muchI l k)), (4, .int .i64 (k : Int))] a ∧ (k ≤ l.length ∧ k ≤ 200) ∧ ∃ I2, Hf I NoD w I2 w' [SlC RDEntry (.slice ao_v_l l.length cap_v_l) l]) (fun k => l.length - k) 0 ⟨hok.sub (ts := [0, 2, 3, 4]) rfl, by omega, I, H⟩ ?_
  clear hok H
  rintro k a w1 ⟨hok, hinv0_0, I1, H⟩
  refine wp_seq ?_
  refine wp_seq ?_
  refine f_region hok ?_; clear hok; intro hok
  refine s_runk TB_Relay4 hok 5 rfl rfl ?_; clear hok a; intro a hok
  refine g_ob hok (p := (decide ((k : Int) < (l.length : Int)))) (v := .int .i64 (k : Int)) (S' := [(4, .int .i64 (k : Int))]) rfl rfl rfl (wantB_t _) rfl (by decide) (fun hp hS => hS.sub (ts := [4]) rfl) (fun _ => Ob_c TB_Relay4 rfl) ?_; clear hok a; intro a hok
  refine g_ob hok (p := (decide ((k : Int) < (l.length : Int)))) (v := .bool (decide ((k : Int) < 200))) (S' := [(12, .int .i64 (k : Int))]) rfl rfl rfl (wantB_t _) rfl (by decide) (fun hp hS => (hS.conv (t := 12) rfl (cond_t hp)).sub (ts := [12]) rfl) (fun _ => Ob_c TB_Relay4 rfl) ?_; clear hok a; intro a hok
  refine s_ob hok (v := .bool ((decide ((k : Int) < (l.length : Int))) && (decide ((k : Int) < 200)))) rfl rfl (by decide) rfl (Ob_pick rfl rfl rfl rfl (pick_and _ _)) ?_; clear hok a; intro a hok
  refine s_end hok [0, 2, 3, 4, 14] rfl ?_; clear hok; intro hok
  refine p_then ?_
  refine f_cond hok rfl (fun hc1 => ?_) (fun hc1 => ?_)
  · replace hc1 := And.intro (of_decide_eq_true (andT1 hc1)) (of_decide_eq_true (andT2 hc1))
    refine wp_skip ?_
    refine p_then ?_
    refine wp_seq ?_
    refine wp_block ?_
    refine f_region hok ?_; clear hok; intro hok
    refine s_runk TB_Relay4 hok 3 rfl rfl ?_; clear hok a; intro a hok
    have hi1 : k < l.length := by omega
    have he1 := elt (H.sl 0 rfl) (k) (slRep.lt (H.sl 0 rfl) hi1)
    refine s_ob hok (v := .pointer (some ⟨bOf ao_v_l, oOf ao_v_l + k * 4, none⟩)) rfl rfl (by decide) rfl (Ob_idx TB_Relay4 (k) rfl rfl he1.1 rfl rfl rfl hi1) ?_; clear hok a; intro a hok
    refine s_runk TB_Relay4 hok 2 rfl rfl ?_; clear hok a; intro a hok
    obtain ⟨_, _, _, ⟨u1, rfl, L1, hok_e1⟩, hat1⟩ := id he1
    obtain ⟨ao_u1, cap_u1, rfl, hc_u1, hm_u1⟩ := L1.shape
    unfold maxLen at hm_u1
    replace H := H.addsl L1
    refine s_ob hok (v := .slice ao_u1 ((l.getD k default).batch.ops.length) cap_u1) rfl rfl (by decide) rfl (Ob_load TB_Relay4 rfl rfl rfl (hat1 2 _ rfl)) ?_; clear hok a; intro a hok
    refine s_runk TB_Relay4 hok 1 rfl rfl ?_; clear hok a; intro a hok
    refine s_ob hok (v := .int .i64 (IntKind.i64.wrap (muchI l k + (((l.getD k default).batch.ops.length : Nat) : Int)))) rfl rfl (by decide) rfl (Ob_add rfl rfl rfl rfl) ?_; clear hok a; intro a hok
    refine s_runk TB_Relay4 hok 1 rfl rfl ?_; clear hok a; intro a hok
    refine s_end hok [0, 2, 3, 4, 14] rfl ?_; clear hok; intro hok
    refine p_blk ?_
    refine p_then ?_
    refine f_region hok ?_; clear hok; intro hok
    refine s_runk TB_Relay4 hok 1 rfl rfl ?_; clear hok a; intro a hok
    refine s_ob hok (v := .int .i64 ((k : Int) + 1)) rfl rfl (by decide) rfl (Ob_add rfl rfl rfl (IntWalk.i64_in _ (by omega))) ?_; clear hok a; intro a hok
    refine s_runk TB_Relay4 hok 1 rfl rfl ?_; clear hok a; intro a hok
    refine s_end hok [0, 2, 3, 4, 14] rfl ?_; clear hok; intro hok
    refine p_then ?_
    refine ⟨k + 1, ⟨hok.sub (ts := [0, 2, 3, 4]) rfl, ?_, I1, H.sub [(1, true)] rfl⟩, by omega⟩
    · clear hok H he1 hat1
      omega
  · replace hc1 := andF hc1 (fun h => of_decide_eq_false h) (fun h => of_decide_eq_false h)
    refine wp_exit ?_
    refine p_then_x ?_
    refine p_then_x ?_
    refine f_exit_here ?_
    refine p_then ?_
    refine wp_seq ?_
    refine f_region hok ?_; clear hok; intro hok
    refine s_runk TB_Relay4 hok 2 rfl rfl ?_; clear hok a; intro a hok
    refine s_end hok [0, 2, 3, 4, 14] rfl ?_; clear hok; intro hok
    refine p_then ?_
    refine wp_ret ?_
    refine f_ret hok (run_results1 rfl hok rfl) ?_
    refine ⟨?_, H.below fun _ h => h⟩
    · clear hok H
      have e : min l.length 200 = k := (by omega); rw [e]

set_option maxHeartbeats 1000000 in
theorem c_notes {A0 : Nat → Prop} {A1 : Nat → Prop} (v_a0 : Value) (a0 : List DNote) (v_b : Value) (b : List DNote) (w : World) (L_v_a0 : slRep RDNote A0 w v_a0 a0) (L_v_b : slRep RDNote A1 w v_b b) :
    Calls Try.prog 15 #[v_a0, v_b] w (Ret fun r w' => r = .bool (sameBy sameN a0 b) ∧ Below w.heap.size w w') := by
  obtain ⟨ao_v_a0, cap_v_a0, rfl, hc_v_a0, hm_v_a0⟩ := L_v_a0.shape
  unfold maxLen at hm_v_a0
  obtain ⟨ao_v_b, cap_v_b, rfl, hc_v_b, hm_v_b⟩ := L_v_b.shape
  unfold maxLen at hm_v_b
  obtain ⟨I, hI, H⟩ : ∃ I : Dm, (∀ k, I k ↔ ((A0 k ∨ A1 k) ∧ k < w.heap.size)) ∧ Hf I NoD w I w [] := ⟨_, fun _ => Iff.rfl, (St.none _ _ fun _ h => h.2).hf⟩
  replace H := H.addsl (L_v_a0.bound.mono (fun k h => (hI k).2 ⟨.inl h.1, h.2⟩) (Keep.refl _ _))
  replace H := H.addsl (L_v_b.bound.mono (fun k h => (hI k).2 ⟨.inr (h.1), h.2⟩) (Keep.refl _ _))
  refine f_enter 33 Try.func15 rfl rfl (Nat.le_of_ble_eq_true rfl) fun a hok => ?_
  replace hok := hok.sub (ts := [0, 1]) rfl
  refine wp_seq ?_
  refine f_region hok ?_; clear hok; intro hok
  refine s_runk TB_Relay4 hok 1 rfl rfl ?_; clear hok a; intro a hok
  refine s_end hok [0, 1, 4] rfl ?_; clear hok; intro hok
  refine p_then ?_
  refine wp_seq ?_
  refine wp_seq ?_
  refine f_region hok ?_; clear hok; intro hok
  refine s_runk TB_Relay4 hok 5 rfl rfl ?_; clear hok a; intro a hok
  refine s_end hok [0, 1, 4, 10] rfl ?_; clear hok; intro hok
  refine p_then ?_
  refine f_cond hok rfl (fun hc1 => ?_) (fun hc1 => ?_)
  · replace hc1 := bne_iff_ne.1 hc1
    refine wp_seq ?_
    refine f_region hok ?_; clear hok; intro hok
    refine s_runk TB_Relay4 hok 1 rfl rfl ?_; clear hok a; intro a hok
    refine s_end hok [0, 1, 4, 10] rfl ?_; clear hok; intro hok
    refine p_then ?_
    refine wp_ret ?_
    refine p_then_r ?_
    refine f_ret hok (run_results1 rfl hok rfl) ?_
    refine ⟨?_, H.below fun _ h => h⟩
    · clear hok H
      rw [sameBy_len (by omega)]
  · replace hc1 := bne_eq_false_iff_eq.1 hc1
    refine wp_skip ?_
    refine p_then ?_
    refine wp_seq ?_
    refine wp_seq ?_
    refine f_region hok ?_; clear hok; intro hok
    refine s_runk TB_Relay4 hok 1 rfl rfl ?_; clear hok a; intro a hok
    refine s_end hok [0, 1, 4, 10, 5] rfl ?_; clear hok; intro hok
    refine p_then ?_
    refine wp_block ?_
    refine f_loop (σ := Nat) (fun k a w' => Sl 33 [(0, .slice ao_v_a0 a0.length cap_v_a0), (1, .slice ao_v_b b.length cap_v_b), (10, .bool ((a0.length : Int) != (b.length : Int))), (5, .int .i64 (k : Int))] a ∧ (k ≤ a0.length ∧ a0.length = b.length) ∧ (sameBy sameN a0 b = sameBy sameN (a0.drop k) (b.drop k)) ∧ ∃ I2, Hf I NoD w I2 w' [SlC RDNote (.slice ao_v_b b.length cap_v_b) b, SlC RDNote (.slice ao_v_a0 a0.length cap_v_a0) a0]) (fun k => a0.length - k) 0 ⟨hok.sub (ts := [0, 1, 10, 5]) rfl, by omega, by rfl, I, H⟩ ?_
    clear hok H
    rintro k a w1 ⟨hok, hinv0_0, hinv0_1, I1, H⟩
    refine wp_seq ?_
    refine wp_seq ?_
    refine f_region hok ?_; clear hok; intro hok
    refine s_runk TB_Relay4 hok 5 rfl rfl ?_; clear hok a; intro a hok
    refine g_ob hok (p := (decide ((k : Int) < (a0.length : Int)))) (v := .int .i64 (k : Int)) (S' := [(5, .int .i64 (k : Int))]) rfl rfl rfl (wantB_t _) rfl (by decide) (fun hp hS => hS.sub (ts := [5]) rfl) (fun _ => Ob_c TB_Relay4 rfl) ?_; clear hok a; intro a hok
    refine g_ob hok (p := (decide ((k : Int) < (a0.length : Int)))) (v := .slice ao_v_b b.length cap_v_b) (S' := [(1, .slice ao_v_b b.length cap_v_b)]) rfl rfl rfl (wantB_t _) rfl (by decide) (fun hp hS => hS.sub (ts := [1]) rfl) (fun _ => Ob_c TB_Relay4 rfl) ?_; clear hok a; intro a hok
    refine g_ob hok (p := (decide ((k : Int) < (a0.length : Int)))) (v := .int .i64 (b.length : Int)) (S' := [(17, .slice ao_v_b b.length cap_v_b)]) rfl rfl rfl (wantB_t _) rfl (by decide) (fun hp hS => (hS.conv (t := 17) rfl (cond_t hp)).sub (ts := [17]) rfl) (fun _ => Ob_c TB_Relay4 rfl) ?_; clear hok a; intro a hok
    refine g_ob hok (p := (decide ((k : Int) < (a0.length : Int)))) (v := .bool (decide ((k : Int) < (b.length : Int)))) (S' := [(16, .int .i64 (k : Int)), (18, .int .i64 (b.length : Int))]) rfl rfl rfl (wantB_t _) rfl (by decide) (fun hp hS => ((hS.conv (t := 16) rfl (cond_t hp)).conv (t := 18) rfl (cond_t hp)).sub (ts := [16, 18]) rfl) (fun _ => Ob_c TB_Relay4 rfl) ?_; clear hok a; intro a hok
    refine s_ob hok (v := .bool ((decide ((k : Int) < (a0.length : Int))) && (decide ((k : Int) < (b.length : Int))))) rfl rfl (by decide) rfl (Ob_pick rfl rfl rfl rfl (pick_and _ _)) ?_; clear hok a; intro a hok
    refine s_end hok [0, 1, 10, 5, 20] rfl ?_; clear hok; intro hok
    refine p_then ?_
    refine f_cond hok rfl (fun hc2 => ?_) (fun hc2 => ?_)
    · replace hc2 := And.intro (of_decide_eq_true (andT1 hc2)) (of_decide_eq_true (andT2 hc2))
      refine wp_skip ?_
      refine p_then ?_
      refine wp_seq ?_
      refine wp_block ?_
      refine wp_seq ?_
      refine f_quietd (by kernel_rfl) (by kernel_rfl) hok ?_; clear hok; intro hok
      refine q_runk TB_Relay4 hok 2 rfl rfl ?_; clear hok a; intro a hok
      have hi1 : k < a0.length := by omega
      have he1 := elt (H.sl 1 rfl) (k) (slRep.lt (H.sl 1 rfl) hi1)
      refine q_ob hok (v := .pointer (some ⟨bOf ao_v_a0, oOf ao_v_a0 + k * 18, none⟩)) rfl rfl (by decide) rfl (fun _ hw => Ob_idx TB_Relay4 (k) rfl rfl he1.1 rfl rfl rfl hi1) ?_; clear hok a; intro a hok
      obtain ⟨_, _, _, ⟨u1, u2, u3, rfl, L1, L2, L3, hok_e1⟩, hat1⟩ := id he1
      obtain ⟨ao_u1, cap_u1, rfl, hc_u1, hm_u1⟩ := L1.shape
      unfold maxLen at hm_u1
      replace H := H.addsl L1
      obtain ⟨ao_u2, cap_u2, rfl, hc_u2, hm_u2⟩ := L2.shape
      unfold maxLen at hm_u2
      replace H := H.addsl L2
      obtain ⟨ao_u3, cap_u3, rfl, hc_u3, hm_u3⟩ := L3.shape
      unfold maxLen at hm_u3
      replace H := H.addsl L3
      refine q_ob hok (v := .agg #[.int .i64 ((a0.getD k default).k), .int .i64 ((a0.getD k default).n), .int .u64 ((a0.getD k default).at_ : Int), .int .i64 ((a0.getD k default).conf.epoch), .slice ao_u1 ((a0.getD k default).conf.members.length) cap_u1, .int .u64 ((a0.getD k default).conf.floor : Int), .slice ao_u2 ((a0.getD k default).legit.length) cap_u2, .int .i64 ((a0.getD k default).entry.batch.client), .int .i64 ((a0.getD k default).entry.batch.req), .slice ao_u3 ((a0.getD k default).entry.batch.ops.length) cap_u3, .int .u64 ((a0.getD k default).entry.ts : Int), .int .i64 ((a0.getD k default).pin.id), .int .u64 ((a0.getD k default).pin.at_ : Int), .int .i64 ((a0.getD k default).pin.left), .int .i64 ((a0.getD k default).said.client), .int .i64 ((a0.getD k default).said.req), .int .i64 ((a0.getD k default).said.e), .int .i64 ((a0.getD k default).said.pin)]) rfl rfl (by decide) rfl (fun _ hw => Ob_loads TB_Relay4 rfl rfl rfl (hat1.below hw he1.2.1.2)) ?_; clear hok a; intro a hok
      refine q_runk TB_Relay4 hok 2 rfl rfl ?_; clear hok a; intro a hok
      have hi2 : k < b.length := by omega
      have he2 := elt (H.sl 3 rfl) (k) (slRep.lt (H.sl 3 rfl) hi2)
      refine q_ob hok (v := .pointer (some ⟨bOf ao_v_b, oOf ao_v_b + k * 18, none⟩)) rfl rfl (by decide) rfl (fun _ hw => Ob_idx TB_Relay4 (k) rfl rfl he2.1 rfl rfl rfl hi2) ?_; clear hok a; intro a hok
      obtain ⟨_, _, _, ⟨u4, u5, u6, rfl, L4, L5, L6, hok_e2⟩, hat2⟩ := id he2
      obtain ⟨ao_u4, cap_u4, rfl, hc_u4, hm_u4⟩ := L4.shape
      unfold maxLen at hm_u4
      replace H := H.addsl L4
      obtain ⟨ao_u5, cap_u5, rfl, hc_u5, hm_u5⟩ := L5.shape
      unfold maxLen at hm_u5
      replace H := H.addsl L5
      obtain ⟨ao_u6, cap_u6, rfl, hc_u6, hm_u6⟩ := L6.shape
      unfold maxLen at hm_u6
      replace H := H.addsl L6
      refine q_ob hok (v := .agg #[.int .i64 ((b.getD k default).k), .int .i64 ((b.getD k default).n), .int .u64 ((b.getD k default).at_ : Int), .int .i64 ((b.getD k default).conf.epoch), .slice ao_u4 ((b.getD k default).conf.members.length) cap_u4, .int .u64 ((b.getD k default).conf.floor : Int), .slice ao_u5 ((b.getD k default).legit.length) cap_u5, .int .i64 ((b.getD k default).entry.batch.client), .int .i64 ((b.getD k default).entry.batch.req), .slice ao_u6 ((b.getD k default).entry.batch.ops.length) cap_u6, .int .u64 ((b.getD k default).entry.ts : Int), .int .i64 ((b.getD k default).pin.id), .int .u64 ((b.getD k default).pin.at_ : Int), .int .i64 ((b.getD k default).pin.left), .int .i64 ((b.getD k default).said.client), .int .i64 ((b.getD k default).said.req), .int .i64 ((b.getD k default).said.e), .int .i64 ((b.getD k default).said.pin)]) rfl rfl (by decide) rfl (fun _ hw => Ob_loads TB_Relay4 rfl rfl rfl (hat2.below hw he2.2.1.2)) ?_; clear hok a; intro a hok
      refine q_call hok (caps := #[]) (v := .bool (sameN (a0.getD k default) (b.getD k default))) fn_45_Relay4 rfl rfl rfl rfl rfl (by decide) rfl rfl (fun _ hw => c_ref10_Same (a0.getD k default) _ _ _ (b.getD k default) _ _ _ _ ((H.blw hw).sl 5 rfl) ((H.blw hw).sl 4 rfl) ((H.blw hw).sl 3 rfl) hok_e1 ((H.blw hw).sl 2 rfl) ((H.blw hw).sl 1 rfl) ((H.blw hw).sl 0 rfl) hok_e2) ?_; clear hok a; intro a hok
      refine q_runk TB_Relay4 hok 1 rfl rfl ?_; clear hok a; intro a hok
      refine q_end hok [0, 1, 10, 5, 20, 32] rfl ?_; clear hok; intro w2 hb hok
      replace H := H.blw hb
      clear hb
      clear he1 hat1 he2 hat2
      refine p_then ?_
      refine f_cond hok rfl (fun hc3 => ?_) (fun hc3 => ?_)
      · replace hc3 := (notT hc3)
        refine wp_seq ?_
        refine f_region hok ?_; clear hok; intro hok
        refine s_runk TB_Relay4 hok 1 rfl rfl ?_; clear hok a; intro a hok
        refine s_end hok [0, 1, 10, 5, 20, 32, 4] rfl ?_; clear hok; intro hok
        refine p_then ?_
        refine wp_ret ?_
        refine p_blk_r ?_
        refine p_then_r ?_
        refine p_then_r ?_
        refine p_blk_r ?_
        refine p_then_r ?_
        refine f_ret hok (run_results1 rfl hok rfl) ?_
        refine ⟨?_, H.below fun _ h => h⟩
        · clear hok H
          have hp : sameN (a0.getD k default) (b.getD k default) = false := (by first | exact decide_eq_false hc3 | exact decide_eq_false (by omega) | exact hc3); rw [hinv0_1, sameBy_step _ _ _ k (by omega) (by omega), hp, Bool.false_and]
      · replace hc3 := (notF hc3)
        refine wp_skip ?_
        refine p_blk ?_
        refine p_then ?_
        refine f_region hok ?_; clear hok; intro hok
        refine s_runk TB_Relay4 hok 1 rfl rfl ?_; clear hok a; intro a hok
        refine s_ob hok (v := .int .i64 ((k : Int) + 1)) rfl rfl (by decide) rfl (Ob_add rfl rfl rfl (IntWalk.i64_in _ (by omega))) ?_; clear hok a; intro a hok
        refine s_runk TB_Relay4 hok 1 rfl rfl ?_; clear hok a; intro a hok
        refine s_end hok [0, 1, 10, 5, 20, 32] rfl ?_; clear hok; intro hok
        refine p_then ?_
        refine ⟨k + 1, ⟨hok.sub (ts := [0, 1, 10, 5]) rfl, ?_, ?_, I1, H.sub [(6, true), (7, true)] rfl⟩, by omega⟩
        · clear hok H
          omega
        · clear hok H
          have hp : sameN (a0.getD k default) (b.getD k default) = true := (by first | exact decide_eq_true hc3 | exact decide_eq_true (by omega) | exact hc3); rw [hinv0_1, sameBy_step _ _ _ k (by omega) (by omega), hp, Bool.true_and]
    · replace hc2 := andF hc2 (fun h => of_decide_eq_false h) (fun h => of_decide_eq_false h)
      refine wp_exit ?_
      refine p_then_x ?_
      refine p_then_x ?_
      refine f_exit_here ?_
      refine p_then ?_
      refine wp_seq ?_
      refine f_region hok ?_; clear hok; intro hok
      refine s_runk TB_Relay4 hok 1 rfl rfl ?_; clear hok a; intro a hok
      refine s_end hok [0, 1, 10, 5, 20, 4] rfl ?_; clear hok; intro hok
      refine p_then ?_
      refine wp_ret ?_
      refine f_ret hok (run_results1 rfl hok rfl) ?_
      refine ⟨?_, H.below fun _ h => h⟩
      · clear hok H
        rw [hinv0_1, sameBy_end _ _ _ k (by omega) (by omega)]

set_option maxHeartbeats 1000000 in
theorem c_awake (w : World) :
    Calls Try.prog 8 #[] w (Ret fun r w' => r = .bool true ∧ Below w.heap.size w w') := by
  obtain ⟨I, hI, H⟩ : ∃ I : Dm, (∀ k, I k → False) ∧ Hf I NoD w I w [] := ⟨NoD, fun _ h => h, (St.none _ _ fun _ h => h.elim).hf⟩
  refine f_enter 45 Try.func8 rfl rfl (Nat.le_of_ble_eq_true rfl) fun a hok => ?_
  replace hok := hok.sub (ts := []) rfl
  refine wp_seq ?_
  refine f_region hok ?_; clear hok; intro hok
  refine s_runk TB_Relay4 hok 1 rfl rfl ?_; clear hok a; intro a hok
  refine s_end hok [0] rfl ?_; clear hok; intro hok
  refine p_then ?_
  refine wp_seq ?_
  refine f_region hok ?_; clear hok; intro hok
  refine s_ob hok (v := .agg #[.int .i64 0, .int .i64 1, .slice none 0 0]) rfl rfl (by decide) rfl (Ob_build (vs := [(1, .int .i64 1)]) rfl rfl (by go_simp <;> rfl)) ?_; clear hok a; intro a hok
  refine s_ob hok (v := .agg #[.int .i64 0, .int .i64 1, .slice none 0 0, .int .u64 3]) rfl rfl (by decide) rfl (Ob_build (vs := [(0, .agg #[.int .i64 0, .int .i64 1, .slice none 0 0]), (1, .int .u64 3)]) rfl rfl (by go_simp <;> rfl)) ?_; clear hok a; intro a hok
  refine s_ob hok (v := .agg #[.int .i64 0, .int .i64 2, .slice none 0 0]) rfl rfl (by decide) rfl (Ob_build (vs := [(1, .int .i64 2)]) rfl rfl (by go_simp <;> rfl)) ?_; clear hok a; intro a hok
  refine s_ob hok (v := .agg #[.int .i64 0, .int .i64 2, .slice none 0 0, .int .u64 5]) rfl rfl (by decide) rfl (Ob_build (vs := [(0, .agg #[.int .i64 0, .int .i64 2, .slice none 0 0]), (1, .int .u64 5)]) rfl rfl (by go_simp <;> rfl)) ?_; clear hok a; intro a hok
  refine h_bslice hok H (vs := [(0, .agg #[.int .i64 0, .int .i64 1, .slice none 0 0, .int .u64 3]), (1, .agg #[.int .i64 0, .int .i64 2, .slice none 0 0, .int .u64 5])]) (cl := [.int .i64 0, .int .i64 1, .slice none 0 0, .int .u64 3, .int .i64 0, .int .i64 2, .slice none 0 0, .int .u64 5]) (e := 57) rfl rfl rfl (by decide) rfl rfl (fun w => run_bslice (z := .agg #[.int .i64 0, .int .i64 0, .slice none 0 0, .int .u64 0]) (m := 4) Try.underlying22 (by kernel_rfl) rfl rfl (by decide) (by simp [Instr.fill, Value.cells]) w) ?_; clear hok a H; intro a w1 b1 H hok
  refine s_runk TB_Relay4 hok 1 rfl rfl ?_; clear hok a; intro a hok
  refine s_end hok [0, 1] rfl ?_; clear hok; intro hok
  refine p_then ?_
  refine wp_seq ?_
  refine f_region hok ?_; clear hok; intro hok
  refine s_runk TB_Relay4 hok 1 rfl rfl ?_; clear hok a; intro a hok
  obtain ⟨I1, hI1, H⟩ := H.frzlit 0 rfl (R := RDEntry) [[.int .i64 0, .int .i64 1, .slice none 0 0, .int .u64 3], [.int .i64 0, .int .i64 2, .slice none 0 0, .int .u64 5]] [(⟨(⟨0, 1, []⟩ : DBatch), 3⟩ : DEntry), (⟨(⟨0, 2, []⟩ : DBatch), 5⟩ : DEntry)] rfl rfl (fun i h1 h2 => by match i, h1, h2 with | 0, _, _ => exact ⟨_, rfl, (slRep.nil _ _ _ _ _ (Nat.zero_le _)), ⟨⟨(show i64ok 0 by unfold i64ok; omega), (show i64ok 1 by unfold i64ok; omega)⟩, (show 3 < 18446744073709551616 by omega)⟩⟩ | 1, _, _ => exact ⟨_, rfl, (slRep.nil _ _ _ _ _ (Nat.zero_le _)), ⟨⟨(show i64ok 0 by unfold i64ok; omega), (show i64ok 2 by unfold i64ok; omega)⟩, (show 5 < 18446744073709551616 by omega)⟩⟩) (by decide) (n := 2) rfl
  dsimp only [List.eraseIdx] at H
  refine s_call hok fn_10_Relay4 (caps := #[]) rfl rfl rfl rfl rfl (by decide) rfl rfl (c_relay_Ack 1 2 2 1 _ ([(⟨(⟨0, 1, []⟩ : DBatch), 3⟩ : DEntry), (⟨(⟨0, 2, []⟩ : DBatch), 5⟩ : DEntry)]) _ (show i64ok 1 by unfold i64ok; omega) (show i64ok 2 by unfold i64ok; omega) (show i64ok 2 by unfold i64ok; omega) (show i64ok 1 by unfold i64ok; omega) (H.sl 0 rfl) (by first | omega | rfl | (simp only [List.length_drop, List.length_take, List.length_append, List.length_cons, List.length_nil]; omega))) ?_; clear hok a; intro _ a w2 hr hok
  obtain ⟨q1, q2, q3, q4, q5, rfl, L1, L2, L3, L4, L5, hx1, hb⟩ := hr
  obtain ⟨ao_q1, cap_q1, rfl, hc_q1, hm_q1⟩ := L1.shape
  unfold maxLen at hm_q1
  obtain ⟨ao_q2, cap_q2, rfl, hc_q2, hm_q2⟩ := L2.shape
  unfold maxLen at hm_q2
  obtain ⟨ao_q3, cap_q3, rfl, hc_q3, hm_q3⟩ := L3.shape
  unfold maxLen at hm_q3
  obtain ⟨ao_q4, cap_q4, rfl, hc_q4, hm_q4⟩ := L4.shape
  unfold maxLen at hm_q4
  obtain ⟨ao_q5, cap_q5, rfl, hc_q5, hm_q5⟩ := L5.shape
  unfold maxLen at hm_q5
  obtain ⟨I2, hI2, H⟩ := H.fresh hb
  replace H := H.addsl (L1.inI hI2 (fun k h => by rcases h with h | h <;> first | exact .inl h | exact .inr h | exact h.elim))
  replace H := H.addsl (L2.inI hI2 (fun k h => by rcases h with h | h <;> first | exact .inl h | exact .inr h | exact h.elim))
  replace H := H.addsl (L3.inI hI2 (fun k h => by rcases h with h | h <;> first | exact .inl h | exact .inr h | exact h.elim))
  replace H := H.addsl (L4.inI hI2 (fun k h => by rcases h with h | h <;> first | exact .inl h | exact .inr h | exact h.elim))
  replace H := H.addsl (L5.inI hI2 (fun k h => by rcases h with h | h <;> first | exact .inl h | exact .inr h | exact h.elim))
  clear hb hI2
  refine h_alloc hok H (cl := [.int .i64 0, .int .i64 0, .int .i64 0, .int .i64 0, .bool false, .int .u64 0, .int .u64 0, .int .i64 0, .int .i64 0, .int .i64 0, .int .i64 0, .string ByteArray.empty, .string ByteArray.empty, .int .i64 0, .slice none 0 0, .int .u64 0, .int .i64 0, .int .i64 0, .slice none 0 0, .slice none 0 0, .slice none 0 0, .slice none 0 0]) (z := .agg #[.int .i64 0, .int .i64 0, .int .i64 0, .int .i64 0, .bool false, .int .u64 0, .int .u64 0, .int .i64 0, .int .i64 0, .int .i64 0, .int .i64 0, .string ByteArray.empty, .string ByteArray.empty, .int .i64 0, .slice none 0 0, .int .u64 0, .int .i64 0, .int .i64 0, .slice none 0 0, .slice none 0 0, .slice none 0 0, .slice none 0 0]) rfl rfl rfl (by decide) rfl (by kernel_rfl) rfl ?_; clear hok a H; intro a w3 b2 H hok
  refine h_store TB_Relay4 hok H 0 (us := [.int .i64 ((ackP 1 2 2 1 ([(⟨(⟨0, 1, []⟩ : DBatch), 3⟩ : DEntry), (⟨(⟨0, 2, []⟩ : DBatch), 5⟩ : DEntry)])).k), .int .i64 ((ackP 1 2 2 1 ([(⟨(⟨0, 1, []⟩ : DBatch), 3⟩ : DEntry), (⟨(⟨0, 2, []⟩ : DBatch), 5⟩ : DEntry)])).epoch), .int .i64 ((ackP 1 2 2 1 ([(⟨(⟨0, 1, []⟩ : DBatch), 3⟩ : DEntry), (⟨(⟨0, 2, []⟩ : DBatch), 5⟩ : DEntry)])).req), .int .i64 ((ackP 1 2 2 1 ([(⟨(⟨0, 1, []⟩ : DBatch), 3⟩ : DEntry), (⟨(⟨0, 2, []⟩ : DBatch), 5⟩ : DEntry)])).serial), .bool ((ackP 1 2 2 1 ([(⟨(⟨0, 1, []⟩ : DBatch), 3⟩ : DEntry), (⟨(⟨0, 2, []⟩ : DBatch), 5⟩ : DEntry)])).flag), .int .u64 ((ackP 1 2 2 1 ([(⟨(⟨0, 1, []⟩ : DBatch), 3⟩ : DEntry), (⟨(⟨0, 2, []⟩ : DBatch), 5⟩ : DEntry)])).at_ : Int), .int .u64 ((ackP 1 2 2 1 ([(⟨(⟨0, 1, []⟩ : DBatch), 3⟩ : DEntry), (⟨(⟨0, 2, []⟩ : DBatch), 5⟩ : DEntry)])).last : Int), .int .i64 ((ackP 1 2 2 1 ([(⟨(⟨0, 1, []⟩ : DBatch), 3⟩ : DEntry), (⟨(⟨0, 2, []⟩ : DBatch), 5⟩ : DEntry)])).n), .int .i64 ((ackP 1 2 2 1 ([(⟨(⟨0, 1, []⟩ : DBatch), 3⟩ : DEntry), (⟨(⟨0, 2, []⟩ : DBatch), 5⟩ : DEntry)])).m), .int .i64 ((ackP 1 2 2 1 ([(⟨(⟨0, 1, []⟩ : DBatch), 3⟩ : DEntry), (⟨(⟨0, 2, []⟩ : DBatch), 5⟩ : DEntry)])).p), .int .i64 ((ackP 1 2 2 1 ([(⟨(⟨0, 1, []⟩ : DBatch), 3⟩ : DEntry), (⟨(⟨0, 2, []⟩ : DBatch), 5⟩ : DEntry)])).e), .string ((ackP 1 2 2 1 ([(⟨(⟨0, 1, []⟩ : DBatch), 3⟩ : DEntry), (⟨(⟨0, 2, []⟩ : DBatch), 5⟩ : DEntry)])).key), .string ((ackP 1 2 2 1 ([(⟨(⟨0, 1, []⟩ : DBatch), 3⟩ : DEntry), (⟨(⟨0, 2, []⟩ : DBatch), 5⟩ : DEntry)])).to_), .int .i64 ((ackP 1 2 2 1 ([(⟨(⟨0, 1, []⟩ : DBatch), 3⟩ : DEntry), (⟨(⟨0, 2, []⟩ : DBatch), 5⟩ : DEntry)])).conf.epoch), .slice ao_q1 (((ackP 1 2 2 1 ([(⟨(⟨0, 1, []⟩ : DBatch), 3⟩ : DEntry), (⟨(⟨0, 2, []⟩ : DBatch), 5⟩ : DEntry)])).conf.members).length) cap_q1, .int .u64 ((ackP 1 2 2 1 ([(⟨(⟨0, 1, []⟩ : DBatch), 3⟩ : DEntry), (⟨(⟨0, 2, []⟩ : DBatch), 5⟩ : DEntry)])).conf.floor : Int), .int .i64 ((ackP 1 2 2 1 ([(⟨(⟨0, 1, []⟩ : DBatch), 3⟩ : DEntry), (⟨(⟨0, 2, []⟩ : DBatch), 5⟩ : DEntry)])).batch.client), .int .i64 ((ackP 1 2 2 1 ([(⟨(⟨0, 1, []⟩ : DBatch), 3⟩ : DEntry), (⟨(⟨0, 2, []⟩ : DBatch), 5⟩ : DEntry)])).batch.req), .slice ao_q2 (((ackP 1 2 2 1 ([(⟨(⟨0, 1, []⟩ : DBatch), 3⟩ : DEntry), (⟨(⟨0, 2, []⟩ : DBatch), 5⟩ : DEntry)])).batch.ops).length) cap_q2, .slice ao_q3 (((ackP 1 2 2 1 ([(⟨(⟨0, 1, []⟩ : DBatch), 3⟩ : DEntry), (⟨(⟨0, 2, []⟩ : DBatch), 5⟩ : DEntry)])).entries).length) cap_q3, .slice ao_q4 (((ackP 1 2 2 1 ([(⟨(⟨0, 1, []⟩ : DBatch), 3⟩ : DEntry), (⟨(⟨0, 2, []⟩ : DBatch), 5⟩ : DEntry)])).stamps).length) cap_q4, .slice ao_q5 (((ackP 1 2 2 1 ([(⟨(⟨0, 1, []⟩ : DBatch), 3⟩ : DEntry), (⟨(⟨0, 2, []⟩ : DBatch), 5⟩ : DEntry)])).pairs).length) cap_q5]) (cl' := [.int .i64 ((ackP 1 2 2 1 ([(⟨(⟨0, 1, []⟩ : DBatch), 3⟩ : DEntry), (⟨(⟨0, 2, []⟩ : DBatch), 5⟩ : DEntry)])).k), .int .i64 ((ackP 1 2 2 1 ([(⟨(⟨0, 1, []⟩ : DBatch), 3⟩ : DEntry), (⟨(⟨0, 2, []⟩ : DBatch), 5⟩ : DEntry)])).epoch), .int .i64 ((ackP 1 2 2 1 ([(⟨(⟨0, 1, []⟩ : DBatch), 3⟩ : DEntry), (⟨(⟨0, 2, []⟩ : DBatch), 5⟩ : DEntry)])).req), .int .i64 ((ackP 1 2 2 1 ([(⟨(⟨0, 1, []⟩ : DBatch), 3⟩ : DEntry), (⟨(⟨0, 2, []⟩ : DBatch), 5⟩ : DEntry)])).serial), .bool ((ackP 1 2 2 1 ([(⟨(⟨0, 1, []⟩ : DBatch), 3⟩ : DEntry), (⟨(⟨0, 2, []⟩ : DBatch), 5⟩ : DEntry)])).flag), .int .u64 ((ackP 1 2 2 1 ([(⟨(⟨0, 1, []⟩ : DBatch), 3⟩ : DEntry), (⟨(⟨0, 2, []⟩ : DBatch), 5⟩ : DEntry)])).at_ : Int), .int .u64 ((ackP 1 2 2 1 ([(⟨(⟨0, 1, []⟩ : DBatch), 3⟩ : DEntry), (⟨(⟨0, 2, []⟩ : DBatch), 5⟩ : DEntry)])).last : Int), .int .i64 ((ackP 1 2 2 1 ([(⟨(⟨0, 1, []⟩ : DBatch), 3⟩ : DEntry), (⟨(⟨0, 2, []⟩ : DBatch), 5⟩ : DEntry)])).n), .int .i64 ((ackP 1 2 2 1 ([(⟨(⟨0, 1, []⟩ : DBatch), 3⟩ : DEntry), (⟨(⟨0, 2, []⟩ : DBatch), 5⟩ : DEntry)])).m), .int .i64 ((ackP 1 2 2 1 ([(⟨(⟨0, 1, []⟩ : DBatch), 3⟩ : DEntry), (⟨(⟨0, 2, []⟩ : DBatch), 5⟩ : DEntry)])).p), .int .i64 ((ackP 1 2 2 1 ([(⟨(⟨0, 1, []⟩ : DBatch), 3⟩ : DEntry), (⟨(⟨0, 2, []⟩ : DBatch), 5⟩ : DEntry)])).e), .string ((ackP 1 2 2 1 ([(⟨(⟨0, 1, []⟩ : DBatch), 3⟩ : DEntry), (⟨(⟨0, 2, []⟩ : DBatch), 5⟩ : DEntry)])).key), .string ((ackP 1 2 2 1 ([(⟨(⟨0, 1, []⟩ : DBatch), 3⟩ : DEntry), (⟨(⟨0, 2, []⟩ : DBatch), 5⟩ : DEntry)])).to_), .int .i64 ((ackP 1 2 2 1 ([(⟨(⟨0, 1, []⟩ : DBatch), 3⟩ : DEntry), (⟨(⟨0, 2, []⟩ : DBatch), 5⟩ : DEntry)])).conf.epoch), .slice ao_q1 (((ackP 1 2 2 1 ([(⟨(⟨0, 1, []⟩ : DBatch), 3⟩ : DEntry), (⟨(⟨0, 2, []⟩ : DBatch), 5⟩ : DEntry)])).conf.members).length) cap_q1, .int .u64 ((ackP 1 2 2 1 ([(⟨(⟨0, 1, []⟩ : DBatch), 3⟩ : DEntry), (⟨(⟨0, 2, []⟩ : DBatch), 5⟩ : DEntry)])).conf.floor : Int), .int .i64 ((ackP 1 2 2 1 ([(⟨(⟨0, 1, []⟩ : DBatch), 3⟩ : DEntry), (⟨(⟨0, 2, []⟩ : DBatch), 5⟩ : DEntry)])).batch.client), .int .i64 ((ackP 1 2 2 1 ([(⟨(⟨0, 1, []⟩ : DBatch), 3⟩ : DEntry), (⟨(⟨0, 2, []⟩ : DBatch), 5⟩ : DEntry)])).batch.req), .slice ao_q2 (((ackP 1 2 2 1 ([(⟨(⟨0, 1, []⟩ : DBatch), 3⟩ : DEntry), (⟨(⟨0, 2, []⟩ : DBatch), 5⟩ : DEntry)])).batch.ops).length) cap_q2, .slice ao_q3 (((ackP 1 2 2 1 ([(⟨(⟨0, 1, []⟩ : DBatch), 3⟩ : DEntry), (⟨(⟨0, 2, []⟩ : DBatch), 5⟩ : DEntry)])).entries).length) cap_q3, .slice ao_q4 (((ackP 1 2 2 1 ([(⟨(⟨0, 1, []⟩ : DBatch), 3⟩ : DEntry), (⟨(⟨0, 2, []⟩ : DBatch), 5⟩ : DEntry)])).stamps).length) cap_q4, .slice ao_q5 (((ackP 1 2 2 1 ([(⟨(⟨0, 1, []⟩ : DBatch), 3⟩ : DEntry), (⟨(⟨0, 2, []⟩ : DBatch), 5⟩ : DEntry)])).pairs).length) cap_q5]) rfl rfl rfl rfl rfl rfl rfl rfl rfl (ones_all rfl) (Nat.le_of_ble_eq_true rfl) (putCells_all rfl) ?_; clear H; intro w4 H
  dsimp only [List.eraseIdx] at H
  refine s_end hok [0, 1, 2] rfl ?_; clear hok; intro hok
  refine p_then ?_
  refine wp_seq ?_
  refine f_region hok ?_; clear hok; intro hok
  refine s_runk TB_Relay4 hok 1 rfl rfl ?_; clear hok a; intro a hok
  refine s_call hok fn_9_Relay4 (caps := #[]) rfl rfl rfl rfl rfl (by decide) rfl rfl (c_relay_Fwd 1 0 1 0 9 _ ([(⟨(⟨0, 1, []⟩ : DBatch), 3⟩ : DEntry), (⟨(⟨0, 2, []⟩ : DBatch), 5⟩ : DEntry)]) 2 _ (show i64ok 1 by unfold i64ok; omega) (show i64ok 0 by unfold i64ok; omega) (show i64ok 1 by unfold i64ok; omega) (show i64ok 0 by unfold i64ok; omega) (show 9 < 18446744073709551616 by omega) (H.sl 6 rfl) (show i64ok 2 by unfold i64ok; omega) (by first | omega | rfl | (simp only [List.length_drop, List.length_take, List.length_append, List.length_cons, List.length_nil]; omega))) ?_; clear hok a; intro _ a w5 hr hok
  obtain ⟨q6, q7, q8, q9, q10, rfl, L6, L7, L8, L9, L10, hx2, hb⟩ := hr
  obtain ⟨ao_q6, cap_q6, rfl, hc_q6, hm_q6⟩ := L6.shape
  unfold maxLen at hm_q6
  obtain ⟨ao_q7, cap_q7, rfl, hc_q7, hm_q7⟩ := L7.shape
  unfold maxLen at hm_q7
  obtain ⟨ao_q8, cap_q8, rfl, hc_q8, hm_q8⟩ := L8.shape
  unfold maxLen at hm_q8
  obtain ⟨ao_q9, cap_q9, rfl, hc_q9, hm_q9⟩ := L9.shape
  unfold maxLen at hm_q9
  obtain ⟨ao_q10, cap_q10, rfl, hc_q10, hm_q10⟩ := L10.shape
  unfold maxLen at hm_q10
  obtain ⟨I3, hI3, H⟩ := H.fresh hb
  replace H := H.addsl (L6.inI hI3 (fun k h => by rcases h with h | h <;> first | exact .inl h | exact .inr h | exact h.elim))
  replace H := H.addsl (L7.inI hI3 (fun k h => by rcases h with h | h <;> first | exact .inl h | exact .inr h | exact h.elim))
  replace H := H.addsl (L8.inI hI3 (fun k h => by rcases h with h | h <;> first | exact .inl h | exact .inr h | exact h.elim))
  replace H := H.addsl (L9.inI hI3 (fun k h => by rcases h with h | h <;> first | exact .inl h | exact .inr h | exact h.elim))
  replace H := H.addsl (L10.inI hI3 (fun k h => by rcases h with h | h <;> first | exact .inl h | exact .inr h | exact h.elim))
  clear hb hI3
  refine h_alloc hok H (cl := [.int .i64 0, .int .i64 0, .int .i64 0, .int .i64 0, .bool false, .int .u64 0, .int .u64 0, .int .i64 0, .int .i64 0, .int .i64 0, .int .i64 0, .string ByteArray.empty, .string ByteArray.empty, .int .i64 0, .slice none 0 0, .int .u64 0, .int .i64 0, .int .i64 0, .slice none 0 0, .slice none 0 0, .slice none 0 0, .slice none 0 0]) (z := .agg #[.int .i64 0, .int .i64 0, .int .i64 0, .int .i64 0, .bool false, .int .u64 0, .int .u64 0, .int .i64 0, .int .i64 0, .int .i64 0, .int .i64 0, .string ByteArray.empty, .string ByteArray.empty, .int .i64 0, .slice none 0 0, .int .u64 0, .int .i64 0, .int .i64 0, .slice none 0 0, .slice none 0 0, .slice none 0 0, .slice none 0 0]) rfl rfl rfl (by decide) rfl (by kernel_rfl) rfl ?_; clear hok a H; intro a w6 b3 H hok
  refine h_store TB_Relay4 hok H 0 (us := [.int .i64 ((fwdP 1 0 1 0 9 ([(⟨(⟨0, 1, []⟩ : DBatch), 3⟩ : DEntry), (⟨(⟨0, 2, []⟩ : DBatch), 5⟩ : DEntry)]) 2).k), .int .i64 ((fwdP 1 0 1 0 9 ([(⟨(⟨0, 1, []⟩ : DBatch), 3⟩ : DEntry), (⟨(⟨0, 2, []⟩ : DBatch), 5⟩ : DEntry)]) 2).epoch), .int .i64 ((fwdP 1 0 1 0 9 ([(⟨(⟨0, 1, []⟩ : DBatch), 3⟩ : DEntry), (⟨(⟨0, 2, []⟩ : DBatch), 5⟩ : DEntry)]) 2).req), .int .i64 ((fwdP 1 0 1 0 9 ([(⟨(⟨0, 1, []⟩ : DBatch), 3⟩ : DEntry), (⟨(⟨0, 2, []⟩ : DBatch), 5⟩ : DEntry)]) 2).serial), .bool ((fwdP 1 0 1 0 9 ([(⟨(⟨0, 1, []⟩ : DBatch), 3⟩ : DEntry), (⟨(⟨0, 2, []⟩ : DBatch), 5⟩ : DEntry)]) 2).flag), .int .u64 ((fwdP 1 0 1 0 9 ([(⟨(⟨0, 1, []⟩ : DBatch), 3⟩ : DEntry), (⟨(⟨0, 2, []⟩ : DBatch), 5⟩ : DEntry)]) 2).at_ : Int), .int .u64 ((fwdP 1 0 1 0 9 ([(⟨(⟨0, 1, []⟩ : DBatch), 3⟩ : DEntry), (⟨(⟨0, 2, []⟩ : DBatch), 5⟩ : DEntry)]) 2).last : Int), .int .i64 ((fwdP 1 0 1 0 9 ([(⟨(⟨0, 1, []⟩ : DBatch), 3⟩ : DEntry), (⟨(⟨0, 2, []⟩ : DBatch), 5⟩ : DEntry)]) 2).n), .int .i64 ((fwdP 1 0 1 0 9 ([(⟨(⟨0, 1, []⟩ : DBatch), 3⟩ : DEntry), (⟨(⟨0, 2, []⟩ : DBatch), 5⟩ : DEntry)]) 2).m), .int .i64 ((fwdP 1 0 1 0 9 ([(⟨(⟨0, 1, []⟩ : DBatch), 3⟩ : DEntry), (⟨(⟨0, 2, []⟩ : DBatch), 5⟩ : DEntry)]) 2).p), .int .i64 ((fwdP 1 0 1 0 9 ([(⟨(⟨0, 1, []⟩ : DBatch), 3⟩ : DEntry), (⟨(⟨0, 2, []⟩ : DBatch), 5⟩ : DEntry)]) 2).e), .string ((fwdP 1 0 1 0 9 ([(⟨(⟨0, 1, []⟩ : DBatch), 3⟩ : DEntry), (⟨(⟨0, 2, []⟩ : DBatch), 5⟩ : DEntry)]) 2).key), .string ((fwdP 1 0 1 0 9 ([(⟨(⟨0, 1, []⟩ : DBatch), 3⟩ : DEntry), (⟨(⟨0, 2, []⟩ : DBatch), 5⟩ : DEntry)]) 2).to_), .int .i64 ((fwdP 1 0 1 0 9 ([(⟨(⟨0, 1, []⟩ : DBatch), 3⟩ : DEntry), (⟨(⟨0, 2, []⟩ : DBatch), 5⟩ : DEntry)]) 2).conf.epoch), .slice ao_q6 (((fwdP 1 0 1 0 9 ([(⟨(⟨0, 1, []⟩ : DBatch), 3⟩ : DEntry), (⟨(⟨0, 2, []⟩ : DBatch), 5⟩ : DEntry)]) 2).conf.members).length) cap_q6, .int .u64 ((fwdP 1 0 1 0 9 ([(⟨(⟨0, 1, []⟩ : DBatch), 3⟩ : DEntry), (⟨(⟨0, 2, []⟩ : DBatch), 5⟩ : DEntry)]) 2).conf.floor : Int), .int .i64 ((fwdP 1 0 1 0 9 ([(⟨(⟨0, 1, []⟩ : DBatch), 3⟩ : DEntry), (⟨(⟨0, 2, []⟩ : DBatch), 5⟩ : DEntry)]) 2).batch.client), .int .i64 ((fwdP 1 0 1 0 9 ([(⟨(⟨0, 1, []⟩ : DBatch), 3⟩ : DEntry), (⟨(⟨0, 2, []⟩ : DBatch), 5⟩ : DEntry)]) 2).batch.req), .slice ao_q7 (((fwdP 1 0 1 0 9 ([(⟨(⟨0, 1, []⟩ : DBatch), 3⟩ : DEntry), (⟨(⟨0, 2, []⟩ : DBatch), 5⟩ : DEntry)]) 2).batch.ops).length) cap_q7, .slice ao_q8 (((fwdP 1 0 1 0 9 ([(⟨(⟨0, 1, []⟩ : DBatch), 3⟩ : DEntry), (⟨(⟨0, 2, []⟩ : DBatch), 5⟩ : DEntry)]) 2).entries).length) cap_q8, .slice ao_q9 (((fwdP 1 0 1 0 9 ([(⟨(⟨0, 1, []⟩ : DBatch), 3⟩ : DEntry), (⟨(⟨0, 2, []⟩ : DBatch), 5⟩ : DEntry)]) 2).stamps).length) cap_q9, .slice ao_q10 (((fwdP 1 0 1 0 9 ([(⟨(⟨0, 1, []⟩ : DBatch), 3⟩ : DEntry), (⟨(⟨0, 2, []⟩ : DBatch), 5⟩ : DEntry)]) 2).pairs).length) cap_q10]) (cl' := [.int .i64 ((fwdP 1 0 1 0 9 ([(⟨(⟨0, 1, []⟩ : DBatch), 3⟩ : DEntry), (⟨(⟨0, 2, []⟩ : DBatch), 5⟩ : DEntry)]) 2).k), .int .i64 ((fwdP 1 0 1 0 9 ([(⟨(⟨0, 1, []⟩ : DBatch), 3⟩ : DEntry), (⟨(⟨0, 2, []⟩ : DBatch), 5⟩ : DEntry)]) 2).epoch), .int .i64 ((fwdP 1 0 1 0 9 ([(⟨(⟨0, 1, []⟩ : DBatch), 3⟩ : DEntry), (⟨(⟨0, 2, []⟩ : DBatch), 5⟩ : DEntry)]) 2).req), .int .i64 ((fwdP 1 0 1 0 9 ([(⟨(⟨0, 1, []⟩ : DBatch), 3⟩ : DEntry), (⟨(⟨0, 2, []⟩ : DBatch), 5⟩ : DEntry)]) 2).serial), .bool ((fwdP 1 0 1 0 9 ([(⟨(⟨0, 1, []⟩ : DBatch), 3⟩ : DEntry), (⟨(⟨0, 2, []⟩ : DBatch), 5⟩ : DEntry)]) 2).flag), .int .u64 ((fwdP 1 0 1 0 9 ([(⟨(⟨0, 1, []⟩ : DBatch), 3⟩ : DEntry), (⟨(⟨0, 2, []⟩ : DBatch), 5⟩ : DEntry)]) 2).at_ : Int), .int .u64 ((fwdP 1 0 1 0 9 ([(⟨(⟨0, 1, []⟩ : DBatch), 3⟩ : DEntry), (⟨(⟨0, 2, []⟩ : DBatch), 5⟩ : DEntry)]) 2).last : Int), .int .i64 ((fwdP 1 0 1 0 9 ([(⟨(⟨0, 1, []⟩ : DBatch), 3⟩ : DEntry), (⟨(⟨0, 2, []⟩ : DBatch), 5⟩ : DEntry)]) 2).n), .int .i64 ((fwdP 1 0 1 0 9 ([(⟨(⟨0, 1, []⟩ : DBatch), 3⟩ : DEntry), (⟨(⟨0, 2, []⟩ : DBatch), 5⟩ : DEntry)]) 2).m), .int .i64 ((fwdP 1 0 1 0 9 ([(⟨(⟨0, 1, []⟩ : DBatch), 3⟩ : DEntry), (⟨(⟨0, 2, []⟩ : DBatch), 5⟩ : DEntry)]) 2).p), .int .i64 ((fwdP 1 0 1 0 9 ([(⟨(⟨0, 1, []⟩ : DBatch), 3⟩ : DEntry), (⟨(⟨0, 2, []⟩ : DBatch), 5⟩ : DEntry)]) 2).e), .string ((fwdP 1 0 1 0 9 ([(⟨(⟨0, 1, []⟩ : DBatch), 3⟩ : DEntry), (⟨(⟨0, 2, []⟩ : DBatch), 5⟩ : DEntry)]) 2).key), .string ((fwdP 1 0 1 0 9 ([(⟨(⟨0, 1, []⟩ : DBatch), 3⟩ : DEntry), (⟨(⟨0, 2, []⟩ : DBatch), 5⟩ : DEntry)]) 2).to_), .int .i64 ((fwdP 1 0 1 0 9 ([(⟨(⟨0, 1, []⟩ : DBatch), 3⟩ : DEntry), (⟨(⟨0, 2, []⟩ : DBatch), 5⟩ : DEntry)]) 2).conf.epoch), .slice ao_q6 (((fwdP 1 0 1 0 9 ([(⟨(⟨0, 1, []⟩ : DBatch), 3⟩ : DEntry), (⟨(⟨0, 2, []⟩ : DBatch), 5⟩ : DEntry)]) 2).conf.members).length) cap_q6, .int .u64 ((fwdP 1 0 1 0 9 ([(⟨(⟨0, 1, []⟩ : DBatch), 3⟩ : DEntry), (⟨(⟨0, 2, []⟩ : DBatch), 5⟩ : DEntry)]) 2).conf.floor : Int), .int .i64 ((fwdP 1 0 1 0 9 ([(⟨(⟨0, 1, []⟩ : DBatch), 3⟩ : DEntry), (⟨(⟨0, 2, []⟩ : DBatch), 5⟩ : DEntry)]) 2).batch.client), .int .i64 ((fwdP 1 0 1 0 9 ([(⟨(⟨0, 1, []⟩ : DBatch), 3⟩ : DEntry), (⟨(⟨0, 2, []⟩ : DBatch), 5⟩ : DEntry)]) 2).batch.req), .slice ao_q7 (((fwdP 1 0 1 0 9 ([(⟨(⟨0, 1, []⟩ : DBatch), 3⟩ : DEntry), (⟨(⟨0, 2, []⟩ : DBatch), 5⟩ : DEntry)]) 2).batch.ops).length) cap_q7, .slice ao_q8 (((fwdP 1 0 1 0 9 ([(⟨(⟨0, 1, []⟩ : DBatch), 3⟩ : DEntry), (⟨(⟨0, 2, []⟩ : DBatch), 5⟩ : DEntry)]) 2).entries).length) cap_q8, .slice ao_q9 (((fwdP 1 0 1 0 9 ([(⟨(⟨0, 1, []⟩ : DBatch), 3⟩ : DEntry), (⟨(⟨0, 2, []⟩ : DBatch), 5⟩ : DEntry)]) 2).stamps).length) cap_q9, .slice ao_q10 (((fwdP 1 0 1 0 9 ([(⟨(⟨0, 1, []⟩ : DBatch), 3⟩ : DEntry), (⟨(⟨0, 2, []⟩ : DBatch), 5⟩ : DEntry)]) 2).pairs).length) cap_q10]) rfl rfl rfl rfl rfl rfl rfl rfl rfl (ones_all rfl) (Nat.le_of_ble_eq_true rfl) (putCells_all rfl) ?_; clear H; intro w7 H
  dsimp only [List.eraseIdx] at H
  refine s_end hok [0, 1, 2, 3] rfl ?_; clear hok; intro hok
  refine p_then ?_
  refine wp_seq ?_
  refine f_region hok ?_; clear hok; intro hok
  refine s_runk TB_Relay4 hok 1 rfl rfl ?_; clear hok a; intro a hok
  refine s_ob hok (v := .int .i64 ((ackP 1 2 2 1 ([(⟨(⟨0, 1, []⟩ : DBatch), 3⟩ : DEntry), (⟨(⟨0, 2, []⟩ : DBatch), 5⟩ : DEntry)])).k)) rfl rfl (by decide) rfl (Ob_load TB_Relay4 rfl rfl rfl ((H.bx 6 rfl).cell 0 rfl)) ?_; clear hok a; intro a hok
  refine s_runk TB_Relay4 hok 2 rfl rfl ?_; clear hok a; intro a hok
  refine g_ob hok (p := (((ackP 1 2 2 1 ([(⟨(⟨0, 1, []⟩ : DBatch), 3⟩ : DEntry), (⟨(⟨0, 2, []⟩ : DBatch), 5⟩ : DEntry)])).k) == 4)) (v := .pointer (some ⟨b2, 20, none⟩)) (S' := [(2, .pointer (some ⟨b2, 0, none⟩))]) rfl rfl rfl (wantB_t _) rfl (by decide) (fun hp hS => hS.sub (ts := [2]) rfl) (fun _ => Ob_c TB_Relay4 rfl) ?_; clear hok a; intro a hok
  refine g_ob hok (p := (((ackP 1 2 2 1 ([(⟨(⟨0, 1, []⟩ : DBatch), 3⟩ : DEntry), (⟨(⟨0, 2, []⟩ : DBatch), 5⟩ : DEntry)])).k) == 4)) (v := .slice ao_q4 (((ackP 1 2 2 1 ([(⟨(⟨0, 1, []⟩ : DBatch), 3⟩ : DEntry), (⟨(⟨0, 2, []⟩ : DBatch), 5⟩ : DEntry)])).stamps).length) cap_q4) (S' := [(17, .pointer (some ⟨b2, 20, none⟩))]) rfl rfl rfl (wantB_t _) rfl (by decide) (fun hp hS => (hS.conv (t := 17) rfl (cond_t hp)).sub (ts := [17]) rfl) (fun hp => ?_) ?_
  · have hg1 := eq_of_beq hp
    exact Ob_load TB_Relay4 rfl rfl rfl ((H.bx 6 rfl).cell 20 rfl)
  clear hok a; intro a hok
  refine g_ob hok (p := (((ackP 1 2 2 1 ([(⟨(⟨0, 1, []⟩ : DBatch), 3⟩ : DEntry), (⟨(⟨0, 2, []⟩ : DBatch), 5⟩ : DEntry)])).k) == 4)) (v := .int .i64 ((((ackP 1 2 2 1 ([(⟨(⟨0, 1, []⟩ : DBatch), 3⟩ : DEntry), (⟨(⟨0, 2, []⟩ : DBatch), 5⟩ : DEntry)])).stamps).length : Nat) : Int)) (S' := [(18, .slice ao_q4 (((ackP 1 2 2 1 ([(⟨(⟨0, 1, []⟩ : DBatch), 3⟩ : DEntry), (⟨(⟨0, 2, []⟩ : DBatch), 5⟩ : DEntry)])).stamps).length) cap_q4)]) rfl rfl rfl (wantB_t _) rfl (by decide) (fun hp hS => (hS.conv (t := 18) rfl (cond_t hp)).sub (ts := [18]) rfl) (fun _ => Ob_c TB_Relay4 rfl) ?_; clear hok a; intro a hok
  refine g_ob hok (p := (((ackP 1 2 2 1 ([(⟨(⟨0, 1, []⟩ : DBatch), 3⟩ : DEntry), (⟨(⟨0, 2, []⟩ : DBatch), 5⟩ : DEntry)])).k) == 4)) (v := .bool (((((ackP 1 2 2 1 ([(⟨(⟨0, 1, []⟩ : DBatch), 3⟩ : DEntry), (⟨(⟨0, 2, []⟩ : DBatch), 5⟩ : DEntry)])).stamps).length : Nat) : Int) == 1)) (S' := [(19, .int .i64 ((((ackP 1 2 2 1 ([(⟨(⟨0, 1, []⟩ : DBatch), 3⟩ : DEntry), (⟨(⟨0, 2, []⟩ : DBatch), 5⟩ : DEntry)])).stamps).length : Nat) : Int))]) rfl rfl rfl (wantB_t _) rfl (by decide) (fun hp hS => (hS.conv (t := 19) rfl (cond_t hp)).sub (ts := [19]) rfl) (fun _ => Ob_c TB_Relay4 rfl) ?_; clear hok a; intro a hok
  refine s_ob hok (v := .bool ((((ackP 1 2 2 1 ([(⟨(⟨0, 1, []⟩ : DBatch), 3⟩ : DEntry), (⟨(⟨0, 2, []⟩ : DBatch), 5⟩ : DEntry)])).k) == 4) && (((((ackP 1 2 2 1 ([(⟨(⟨0, 1, []⟩ : DBatch), 3⟩ : DEntry), (⟨(⟨0, 2, []⟩ : DBatch), 5⟩ : DEntry)])).stamps).length : Nat) : Int) == 1))) rfl rfl (by decide) rfl (Ob_pick rfl rfl rfl rfl (pick_and _ _)) ?_; clear hok a; intro a hok
  refine s_runk TB_Relay4 hok 1 rfl rfl ?_; clear hok a; intro a hok
  refine g_ob hok (p := ((((ackP 1 2 2 1 ([(⟨(⟨0, 1, []⟩ : DBatch), 3⟩ : DEntry), (⟨(⟨0, 2, []⟩ : DBatch), 5⟩ : DEntry)])).k) == 4) && (((((ackP 1 2 2 1 ([(⟨(⟨0, 1, []⟩ : DBatch), 3⟩ : DEntry), (⟨(⟨0, 2, []⟩ : DBatch), 5⟩ : DEntry)])).stamps).length : Nat) : Int) == 1))) (v := .pointer (some ⟨b2, 20, none⟩)) (S' := [(2, .pointer (some ⟨b2, 0, none⟩))]) rfl rfl rfl (wantB_t _) rfl (by decide) (fun hp hS => hS.sub (ts := [2]) rfl) (fun _ => Ob_c TB_Relay4 rfl) ?_; clear hok a; intro a hok
  refine g_ob hok (p := ((((ackP 1 2 2 1 ([(⟨(⟨0, 1, []⟩ : DBatch), 3⟩ : DEntry), (⟨(⟨0, 2, []⟩ : DBatch), 5⟩ : DEntry)])).k) == 4) && (((((ackP 1 2 2 1 ([(⟨(⟨0, 1, []⟩ : DBatch), 3⟩ : DEntry), (⟨(⟨0, 2, []⟩ : DBatch), 5⟩ : DEntry)])).stamps).length : Nat) : Int) == 1))) (v := .slice ao_q4 (((ackP 1 2 2 1 ([(⟨(⟨0, 1, []⟩ : DBatch), 3⟩ : DEntry), (⟨(⟨0, 2, []⟩ : DBatch), 5⟩ : DEntry)])).stamps).length) cap_q4) (S' := [(23, .pointer (some ⟨b2, 20, none⟩))]) rfl rfl rfl (wantB_t _) rfl (by decide) (fun hp hS => (hS.conv (t := 23) rfl (cond_t hp)).sub (ts := [23]) rfl) (fun hp => ?_) ?_
  · have hg2 := And.intro (eq_of_beq (andT1 hp)) (eq_of_beq (andT2 hp))
    exact Ob_load TB_Relay4 rfl rfl rfl ((H.bx 6 rfl).cell 20 rfl)
  clear hok a; intro a hok
  refine g_ob hok (p := ((((ackP 1 2 2 1 ([(⟨(⟨0, 1, []⟩ : DBatch), 3⟩ : DEntry), (⟨(⟨0, 2, []⟩ : DBatch), 5⟩ : DEntry)])).k) == 4) && (((((ackP 1 2 2 1 ([(⟨(⟨0, 1, []⟩ : DBatch), 3⟩ : DEntry), (⟨(⟨0, 2, []⟩ : DBatch), 5⟩ : DEntry)])).stamps).length : Nat) : Int) == 1))) (v := .pointer (some ⟨bOf ao_q4, oOf ao_q4 + 0 * 1, none⟩)) (S' := [(24, .slice ao_q4 (((ackP 1 2 2 1 ([(⟨(⟨0, 1, []⟩ : DBatch), 3⟩ : DEntry), (⟨(⟨0, 2, []⟩ : DBatch), 5⟩ : DEntry)])).stamps).length) cap_q4)]) rfl rfl rfl (wantB_t _) rfl (by decide) (fun hp hS => (hS.conv (t := 24) rfl (cond_t hp)).sub (ts := [24]) rfl) (fun hp => ?_) ?_
  · have hg3 := And.intro (eq_of_beq (andT1 hp)) (eq_of_beq (andT2 hp))
    have hi1 : 0 < ((ackP 1 2 2 1 ([(⟨(⟨0, 1, []⟩ : DBatch), 3⟩ : DEntry), (⟨(⟨0, 2, []⟩ : DBatch), 5⟩ : DEntry)])).stamps).length := by omega
    have he1 := elt (H.sl 8 rfl) (0) (slRep.lt (H.sl 8 rfl) hi1)
    exact Ob_idx TB_Relay4 (0) rfl rfl he1.1 rfl rfl rfl hi1
  clear hok a; intro a hok
  refine g_ob hok (p := ((((ackP 1 2 2 1 ([(⟨(⟨0, 1, []⟩ : DBatch), 3⟩ : DEntry), (⟨(⟨0, 2, []⟩ : DBatch), 5⟩ : DEntry)])).k) == 4) && (((((ackP 1 2 2 1 ([(⟨(⟨0, 1, []⟩ : DBatch), 3⟩ : DEntry), (⟨(⟨0, 2, []⟩ : DBatch), 5⟩ : DEntry)])).stamps).length : Nat) : Int) == 1))) (v := .int .u64 ((((ackP 1 2 2 1 ([(⟨(⟨0, 1, []⟩ : DBatch), 3⟩ : DEntry), (⟨(⟨0, 2, []⟩ : DBatch), 5⟩ : DEntry)])).stamps).getD 0 default) : Int)) (S' := [(25, .pointer (some ⟨bOf ao_q4, oOf ao_q4 + 0 * 1, none⟩))]) rfl rfl rfl (wantB_t _) rfl (by decide) (fun hp hS => (hS.conv (t := 25) rfl (cond_t hp)).sub (ts := [25]) rfl) (fun hp => ?_) ?_
  · have hg4 := And.intro (eq_of_beq (andT1 hp)) (eq_of_beq (andT2 hp))
    have hi2 : 0 < ((ackP 1 2 2 1 ([(⟨(⟨0, 1, []⟩ : DBatch), 3⟩ : DEntry), (⟨(⟨0, 2, []⟩ : DBatch), 5⟩ : DEntry)])).stamps).length := by omega
    have he2 := elt (H.sl 8 rfl) (0) (slRep.lt (H.sl 8 rfl) hi2)
    obtain ⟨_, _, _, ⟨rfl, hok_e1⟩, hat1⟩ := id he2
    exact Ob_load TB_Relay4 rfl rfl rfl (hat1 0 _ rfl)
  clear hok a; intro a hok
  refine g_ob hok (p := ((((ackP 1 2 2 1 ([(⟨(⟨0, 1, []⟩ : DBatch), 3⟩ : DEntry), (⟨(⟨0, 2, []⟩ : DBatch), 5⟩ : DEntry)])).k) == 4) && (((((ackP 1 2 2 1 ([(⟨(⟨0, 1, []⟩ : DBatch), 3⟩ : DEntry), (⟨(⟨0, 2, []⟩ : DBatch), 5⟩ : DEntry)])).stamps).length : Nat) : Int) == 1))) (v := .bool (((((ackP 1 2 2 1 ([(⟨(⟨0, 1, []⟩ : DBatch), 3⟩ : DEntry), (⟨(⟨0, 2, []⟩ : DBatch), 5⟩ : DEntry)])).stamps).getD 0 default) : Int) == 5)) (S' := [(26, .int .u64 ((((ackP 1 2 2 1 ([(⟨(⟨0, 1, []⟩ : DBatch), 3⟩ : DEntry), (⟨(⟨0, 2, []⟩ : DBatch), 5⟩ : DEntry)])).stamps).getD 0 default) : Int))]) rfl rfl rfl (wantB_t _) rfl (by decide) (fun hp hS => (hS.conv (t := 26) rfl (cond_t hp)).sub (ts := [26]) rfl) (fun _ => Ob_c TB_Relay4 rfl) ?_; clear hok a; intro a hok
  refine s_ob hok (v := .bool (((((ackP 1 2 2 1 ([(⟨(⟨0, 1, []⟩ : DBatch), 3⟩ : DEntry), (⟨(⟨0, 2, []⟩ : DBatch), 5⟩ : DEntry)])).k) == 4) && (((((ackP 1 2 2 1 ([(⟨(⟨0, 1, []⟩ : DBatch), 3⟩ : DEntry), (⟨(⟨0, 2, []⟩ : DBatch), 5⟩ : DEntry)])).stamps).length : Nat) : Int) == 1)) && (((((ackP 1 2 2 1 ([(⟨(⟨0, 1, []⟩ : DBatch), 3⟩ : DEntry), (⟨(⟨0, 2, []⟩ : DBatch), 5⟩ : DEntry)])).stamps).getD 0 default) : Int) == 5))) rfl rfl (by decide) rfl (Ob_pick rfl rfl rfl rfl (pick_and _ _)) ?_; clear hok a; intro a hok
  refine s_runk TB_Relay4 hok 1 rfl rfl ?_; clear hok a; intro a hok
  refine g_ob hok (p := (((((ackP 1 2 2 1 ([(⟨(⟨0, 1, []⟩ : DBatch), 3⟩ : DEntry), (⟨(⟨0, 2, []⟩ : DBatch), 5⟩ : DEntry)])).k) == 4) && (((((ackP 1 2 2 1 ([(⟨(⟨0, 1, []⟩ : DBatch), 3⟩ : DEntry), (⟨(⟨0, 2, []⟩ : DBatch), 5⟩ : DEntry)])).stamps).length : Nat) : Int) == 1)) && (((((ackP 1 2 2 1 ([(⟨(⟨0, 1, []⟩ : DBatch), 3⟩ : DEntry), (⟨(⟨0, 2, []⟩ : DBatch), 5⟩ : DEntry)])).stamps).getD 0 default) : Int) == 5))) (v := .pointer (some ⟨b3, 19, none⟩)) (S' := [(3, .pointer (some ⟨b3, 0, none⟩))]) rfl rfl rfl (wantB_t _) rfl (by decide) (fun hp hS => hS.sub (ts := [3]) rfl) (fun _ => Ob_c TB_Relay4 rfl) ?_; clear hok a; intro a hok
  refine g_ob hok (p := (((((ackP 1 2 2 1 ([(⟨(⟨0, 1, []⟩ : DBatch), 3⟩ : DEntry), (⟨(⟨0, 2, []⟩ : DBatch), 5⟩ : DEntry)])).k) == 4) && (((((ackP 1 2 2 1 ([(⟨(⟨0, 1, []⟩ : DBatch), 3⟩ : DEntry), (⟨(⟨0, 2, []⟩ : DBatch), 5⟩ : DEntry)])).stamps).length : Nat) : Int) == 1)) && (((((ackP 1 2 2 1 ([(⟨(⟨0, 1, []⟩ : DBatch), 3⟩ : DEntry), (⟨(⟨0, 2, []⟩ : DBatch), 5⟩ : DEntry)])).stamps).getD 0 default) : Int) == 5))) (v := .slice ao_q8 (((fwdP 1 0 1 0 9 ([(⟨(⟨0, 1, []⟩ : DBatch), 3⟩ : DEntry), (⟨(⟨0, 2, []⟩ : DBatch), 5⟩ : DEntry)]) 2).entries).length) cap_q8) (S' := [(30, .pointer (some ⟨b3, 19, none⟩))]) rfl rfl rfl (wantB_t _) rfl (by decide) (fun hp hS => (hS.conv (t := 30) rfl (cond_t hp)).sub (ts := [30]) rfl) (fun hp => ?_) ?_
  · have hg5 := And.intro (And.intro (eq_of_beq (andT1 (andT1 hp))) (eq_of_beq (andT2 (andT1 hp)))) (eq_of_beq (andT2 hp))
    exact Ob_load TB_Relay4 rfl rfl rfl ((H.bx 0 rfl).cell 19 rfl)
  clear hok a; intro a hok
  refine g_ob hok (p := (((((ackP 1 2 2 1 ([(⟨(⟨0, 1, []⟩ : DBatch), 3⟩ : DEntry), (⟨(⟨0, 2, []⟩ : DBatch), 5⟩ : DEntry)])).k) == 4) && (((((ackP 1 2 2 1 ([(⟨(⟨0, 1, []⟩ : DBatch), 3⟩ : DEntry), (⟨(⟨0, 2, []⟩ : DBatch), 5⟩ : DEntry)])).stamps).length : Nat) : Int) == 1)) && (((((ackP 1 2 2 1 ([(⟨(⟨0, 1, []⟩ : DBatch), 3⟩ : DEntry), (⟨(⟨0, 2, []⟩ : DBatch), 5⟩ : DEntry)])).stamps).getD 0 default) : Int) == 5))) (v := .int .i64 ((((fwdP 1 0 1 0 9 ([(⟨(⟨0, 1, []⟩ : DBatch), 3⟩ : DEntry), (⟨(⟨0, 2, []⟩ : DBatch), 5⟩ : DEntry)]) 2).entries).length : Nat) : Int)) (S' := [(31, .slice ao_q8 (((fwdP 1 0 1 0 9 ([(⟨(⟨0, 1, []⟩ : DBatch), 3⟩ : DEntry), (⟨(⟨0, 2, []⟩ : DBatch), 5⟩ : DEntry)]) 2).entries).length) cap_q8)]) rfl rfl rfl (wantB_t _) rfl (by decide) (fun hp hS => (hS.conv (t := 31) rfl (cond_t hp)).sub (ts := [31]) rfl) (fun _ => Ob_c TB_Relay4 rfl) ?_; clear hok a; intro a hok
  refine g_ob hok (p := (((((ackP 1 2 2 1 ([(⟨(⟨0, 1, []⟩ : DBatch), 3⟩ : DEntry), (⟨(⟨0, 2, []⟩ : DBatch), 5⟩ : DEntry)])).k) == 4) && (((((ackP 1 2 2 1 ([(⟨(⟨0, 1, []⟩ : DBatch), 3⟩ : DEntry), (⟨(⟨0, 2, []⟩ : DBatch), 5⟩ : DEntry)])).stamps).length : Nat) : Int) == 1)) && (((((ackP 1 2 2 1 ([(⟨(⟨0, 1, []⟩ : DBatch), 3⟩ : DEntry), (⟨(⟨0, 2, []⟩ : DBatch), 5⟩ : DEntry)])).stamps).getD 0 default) : Int) == 5))) (v := .bool (((((fwdP 1 0 1 0 9 ([(⟨(⟨0, 1, []⟩ : DBatch), 3⟩ : DEntry), (⟨(⟨0, 2, []⟩ : DBatch), 5⟩ : DEntry)]) 2).entries).length : Nat) : Int) == 1)) (S' := [(32, .int .i64 ((((fwdP 1 0 1 0 9 ([(⟨(⟨0, 1, []⟩ : DBatch), 3⟩ : DEntry), (⟨(⟨0, 2, []⟩ : DBatch), 5⟩ : DEntry)]) 2).entries).length : Nat) : Int))]) rfl rfl rfl (wantB_t _) rfl (by decide) (fun hp hS => (hS.conv (t := 32) rfl (cond_t hp)).sub (ts := [32]) rfl) (fun _ => Ob_c TB_Relay4 rfl) ?_; clear hok a; intro a hok
  refine s_ob hok (v := .bool ((((((ackP 1 2 2 1 ([(⟨(⟨0, 1, []⟩ : DBatch), 3⟩ : DEntry), (⟨(⟨0, 2, []⟩ : DBatch), 5⟩ : DEntry)])).k) == 4) && (((((ackP 1 2 2 1 ([(⟨(⟨0, 1, []⟩ : DBatch), 3⟩ : DEntry), (⟨(⟨0, 2, []⟩ : DBatch), 5⟩ : DEntry)])).stamps).length : Nat) : Int) == 1)) && (((((ackP 1 2 2 1 ([(⟨(⟨0, 1, []⟩ : DBatch), 3⟩ : DEntry), (⟨(⟨0, 2, []⟩ : DBatch), 5⟩ : DEntry)])).stamps).getD 0 default) : Int) == 5)) && (((((fwdP 1 0 1 0 9 ([(⟨(⟨0, 1, []⟩ : DBatch), 3⟩ : DEntry), (⟨(⟨0, 2, []⟩ : DBatch), 5⟩ : DEntry)]) 2).entries).length : Nat) : Int) == 1))) rfl rfl (by decide) rfl (Ob_pick rfl rfl rfl rfl (pick_and _ _)) ?_; clear hok a; intro a hok
  refine s_runk TB_Relay4 hok 1 rfl rfl ?_; clear hok a; intro a hok
  refine g_ob hok (p := ((((((ackP 1 2 2 1 ([(⟨(⟨0, 1, []⟩ : DBatch), 3⟩ : DEntry), (⟨(⟨0, 2, []⟩ : DBatch), 5⟩ : DEntry)])).k) == 4) && (((((ackP 1 2 2 1 ([(⟨(⟨0, 1, []⟩ : DBatch), 3⟩ : DEntry), (⟨(⟨0, 2, []⟩ : DBatch), 5⟩ : DEntry)])).stamps).length : Nat) : Int) == 1)) && (((((ackP 1 2 2 1 ([(⟨(⟨0, 1, []⟩ : DBatch), 3⟩ : DEntry), (⟨(⟨0, 2, []⟩ : DBatch), 5⟩ : DEntry)])).stamps).getD 0 default) : Int) == 5)) && (((((fwdP 1 0 1 0 9 ([(⟨(⟨0, 1, []⟩ : DBatch), 3⟩ : DEntry), (⟨(⟨0, 2, []⟩ : DBatch), 5⟩ : DEntry)]) 2).entries).length : Nat) : Int) == 1))) (v := .pointer (some ⟨b3, 9, none⟩)) (S' := [(3, .pointer (some ⟨b3, 0, none⟩))]) rfl rfl rfl (wantB_t _) rfl (by decide) (fun hp hS => hS.sub (ts := [3]) rfl) (fun _ => Ob_c TB_Relay4 rfl) ?_; clear hok a; intro a hok
  refine g_ob hok (p := ((((((ackP 1 2 2 1 ([(⟨(⟨0, 1, []⟩ : DBatch), 3⟩ : DEntry), (⟨(⟨0, 2, []⟩ : DBatch), 5⟩ : DEntry)])).k) == 4) && (((((ackP 1 2 2 1 ([(⟨(⟨0, 1, []⟩ : DBatch), 3⟩ : DEntry), (⟨(⟨0, 2, []⟩ : DBatch), 5⟩ : DEntry)])).stamps).length : Nat) : Int) == 1)) && (((((ackP 1 2 2 1 ([(⟨(⟨0, 1, []⟩ : DBatch), 3⟩ : DEntry), (⟨(⟨0, 2, []⟩ : DBatch), 5⟩ : DEntry)])).stamps).getD 0 default) : Int) == 5)) && (((((fwdP 1 0 1 0 9 ([(⟨(⟨0, 1, []⟩ : DBatch), 3⟩ : DEntry), (⟨(⟨0, 2, []⟩ : DBatch), 5⟩ : DEntry)]) 2).entries).length : Nat) : Int) == 1))) (v := .int .i64 ((fwdP 1 0 1 0 9 ([(⟨(⟨0, 1, []⟩ : DBatch), 3⟩ : DEntry), (⟨(⟨0, 2, []⟩ : DBatch), 5⟩ : DEntry)]) 2).p)) (S' := [(36, .pointer (some ⟨b3, 9, none⟩))]) rfl rfl rfl (wantB_t _) rfl (by decide) (fun hp hS => (hS.conv (t := 36) rfl (cond_t hp)).sub (ts := [36]) rfl) (fun hp => ?_) ?_
  · have hg6 := And.intro (And.intro (And.intro (eq_of_beq (andT1 (andT1 (andT1 hp)))) (eq_of_beq (andT2 (andT1 (andT1 hp))))) (eq_of_beq (andT2 (andT1 hp)))) (eq_of_beq (andT2 hp))
    exact Ob_load TB_Relay4 rfl rfl rfl ((H.bx 0 rfl).cell 9 rfl)
  clear hok a; intro a hok
  refine g_ob hok (p := ((((((ackP 1 2 2 1 ([(⟨(⟨0, 1, []⟩ : DBatch), 3⟩ : DEntry), (⟨(⟨0, 2, []⟩ : DBatch), 5⟩ : DEntry)])).k) == 4) && (((((ackP 1 2 2 1 ([(⟨(⟨0, 1, []⟩ : DBatch), 3⟩ : DEntry), (⟨(⟨0, 2, []⟩ : DBatch), 5⟩ : DEntry)])).stamps).length : Nat) : Int) == 1)) && (((((ackP 1 2 2 1 ([(⟨(⟨0, 1, []⟩ : DBatch), 3⟩ : DEntry), (⟨(⟨0, 2, []⟩ : DBatch), 5⟩ : DEntry)])).stamps).getD 0 default) : Int) == 5)) && (((((fwdP 1 0 1 0 9 ([(⟨(⟨0, 1, []⟩ : DBatch), 3⟩ : DEntry), (⟨(⟨0, 2, []⟩ : DBatch), 5⟩ : DEntry)]) 2).entries).length : Nat) : Int) == 1))) (v := .bool (((fwdP 1 0 1 0 9 ([(⟨(⟨0, 1, []⟩ : DBatch), 3⟩ : DEntry), (⟨(⟨0, 2, []⟩ : DBatch), 5⟩ : DEntry)]) 2).p) == 2)) (S' := [(37, .int .i64 ((fwdP 1 0 1 0 9 ([(⟨(⟨0, 1, []⟩ : DBatch), 3⟩ : DEntry), (⟨(⟨0, 2, []⟩ : DBatch), 5⟩ : DEntry)]) 2).p))]) rfl rfl rfl (wantB_t _) rfl (by decide) (fun hp hS => (hS.conv (t := 37) rfl (cond_t hp)).sub (ts := [37]) rfl) (fun _ => Ob_c TB_Relay4 rfl) ?_; clear hok a; intro a hok
  refine s_ob hok (v := .bool (((((((ackP 1 2 2 1 ([(⟨(⟨0, 1, []⟩ : DBatch), 3⟩ : DEntry), (⟨(⟨0, 2, []⟩ : DBatch), 5⟩ : DEntry)])).k) == 4) && (((((ackP 1 2 2 1 ([(⟨(⟨0, 1, []⟩ : DBatch), 3⟩ : DEntry), (⟨(⟨0, 2, []⟩ : DBatch), 5⟩ : DEntry)])).stamps).length : Nat) : Int) == 1)) && (((((ackP 1 2 2 1 ([(⟨(⟨0, 1, []⟩ : DBatch), 3⟩ : DEntry), (⟨(⟨0, 2, []⟩ : DBatch), 5⟩ : DEntry)])).stamps).getD 0 default) : Int) == 5)) && (((((fwdP 1 0 1 0 9 ([(⟨(⟨0, 1, []⟩ : DBatch), 3⟩ : DEntry), (⟨(⟨0, 2, []⟩ : DBatch), 5⟩ : DEntry)]) 2).entries).length : Nat) : Int) == 1)) && (((fwdP 1 0 1 0 9 ([(⟨(⟨0, 1, []⟩ : DBatch), 3⟩ : DEntry), (⟨(⟨0, 2, []⟩ : DBatch), 5⟩ : DEntry)]) 2).p) == 2))) rfl rfl (by decide) rfl (Ob_pick rfl rfl rfl rfl (pick_and _ _)) ?_; clear hok a; intro a hok
  refine s_runk TB_Relay4 hok 1 rfl rfl ?_; clear hok a; intro a hok
  refine g_ob hok (p := (((((((ackP 1 2 2 1 ([(⟨(⟨0, 1, []⟩ : DBatch), 3⟩ : DEntry), (⟨(⟨0, 2, []⟩ : DBatch), 5⟩ : DEntry)])).k) == 4) && (((((ackP 1 2 2 1 ([(⟨(⟨0, 1, []⟩ : DBatch), 3⟩ : DEntry), (⟨(⟨0, 2, []⟩ : DBatch), 5⟩ : DEntry)])).stamps).length : Nat) : Int) == 1)) && (((((ackP 1 2 2 1 ([(⟨(⟨0, 1, []⟩ : DBatch), 3⟩ : DEntry), (⟨(⟨0, 2, []⟩ : DBatch), 5⟩ : DEntry)])).stamps).getD 0 default) : Int) == 5)) && (((((fwdP 1 0 1 0 9 ([(⟨(⟨0, 1, []⟩ : DBatch), 3⟩ : DEntry), (⟨(⟨0, 2, []⟩ : DBatch), 5⟩ : DEntry)]) 2).entries).length : Nat) : Int) == 1)) && (((fwdP 1 0 1 0 9 ([(⟨(⟨0, 1, []⟩ : DBatch), 3⟩ : DEntry), (⟨(⟨0, 2, []⟩ : DBatch), 5⟩ : DEntry)]) 2).p) == 2))) (v := .pointer (some ⟨b3, 5, none⟩)) (S' := [(3, .pointer (some ⟨b3, 0, none⟩))]) rfl rfl rfl (wantB_t _) rfl (by decide) (fun hp hS => hS.sub (ts := [3]) rfl) (fun _ => Ob_c TB_Relay4 rfl) ?_; clear hok a; intro a hok
  refine g_ob hok (p := (((((((ackP 1 2 2 1 ([(⟨(⟨0, 1, []⟩ : DBatch), 3⟩ : DEntry), (⟨(⟨0, 2, []⟩ : DBatch), 5⟩ : DEntry)])).k) == 4) && (((((ackP 1 2 2 1 ([(⟨(⟨0, 1, []⟩ : DBatch), 3⟩ : DEntry), (⟨(⟨0, 2, []⟩ : DBatch), 5⟩ : DEntry)])).stamps).length : Nat) : Int) == 1)) && (((((ackP 1 2 2 1 ([(⟨(⟨0, 1, []⟩ : DBatch), 3⟩ : DEntry), (⟨(⟨0, 2, []⟩ : DBatch), 5⟩ : DEntry)])).stamps).getD 0 default) : Int) == 5)) && (((((fwdP 1 0 1 0 9 ([(⟨(⟨0, 1, []⟩ : DBatch), 3⟩ : DEntry), (⟨(⟨0, 2, []⟩ : DBatch), 5⟩ : DEntry)]) 2).entries).length : Nat) : Int) == 1)) && (((fwdP 1 0 1 0 9 ([(⟨(⟨0, 1, []⟩ : DBatch), 3⟩ : DEntry), (⟨(⟨0, 2, []⟩ : DBatch), 5⟩ : DEntry)]) 2).p) == 2))) (v := .int .u64 ((fwdP 1 0 1 0 9 ([(⟨(⟨0, 1, []⟩ : DBatch), 3⟩ : DEntry), (⟨(⟨0, 2, []⟩ : DBatch), 5⟩ : DEntry)]) 2).at_ : Int)) (S' := [(41, .pointer (some ⟨b3, 5, none⟩))]) rfl rfl rfl (wantB_t _) rfl (by decide) (fun hp hS => (hS.conv (t := 41) rfl (cond_t hp)).sub (ts := [41]) rfl) (fun hp => ?_) ?_
  · have hg7 := And.intro (And.intro (And.intro (And.intro (eq_of_beq (andT1 (andT1 (andT1 (andT1 hp))))) (eq_of_beq (andT2 (andT1 (andT1 (andT1 hp)))))) (eq_of_beq (andT2 (andT1 (andT1 hp))))) (eq_of_beq (andT2 (andT1 hp)))) (eq_of_beq (andT2 hp))
    exact Ob_load TB_Relay4 rfl rfl rfl ((H.bx 0 rfl).cell 5 rfl)
  clear hok a; intro a hok
  refine g_ob hok (p := (((((((ackP 1 2 2 1 ([(⟨(⟨0, 1, []⟩ : DBatch), 3⟩ : DEntry), (⟨(⟨0, 2, []⟩ : DBatch), 5⟩ : DEntry)])).k) == 4) && (((((ackP 1 2 2 1 ([(⟨(⟨0, 1, []⟩ : DBatch), 3⟩ : DEntry), (⟨(⟨0, 2, []⟩ : DBatch), 5⟩ : DEntry)])).stamps).length : Nat) : Int) == 1)) && (((((ackP 1 2 2 1 ([(⟨(⟨0, 1, []⟩ : DBatch), 3⟩ : DEntry), (⟨(⟨0, 2, []⟩ : DBatch), 5⟩ : DEntry)])).stamps).getD 0 default) : Int) == 5)) && (((((fwdP 1 0 1 0 9 ([(⟨(⟨0, 1, []⟩ : DBatch), 3⟩ : DEntry), (⟨(⟨0, 2, []⟩ : DBatch), 5⟩ : DEntry)]) 2).entries).length : Nat) : Int) == 1)) && (((fwdP 1 0 1 0 9 ([(⟨(⟨0, 1, []⟩ : DBatch), 3⟩ : DEntry), (⟨(⟨0, 2, []⟩ : DBatch), 5⟩ : DEntry)]) 2).p) == 2))) (v := .bool (((fwdP 1 0 1 0 9 ([(⟨(⟨0, 1, []⟩ : DBatch), 3⟩ : DEntry), (⟨(⟨0, 2, []⟩ : DBatch), 5⟩ : DEntry)]) 2).at_ : Int) == 9)) (S' := [(42, .int .u64 ((fwdP 1 0 1 0 9 ([(⟨(⟨0, 1, []⟩ : DBatch), 3⟩ : DEntry), (⟨(⟨0, 2, []⟩ : DBatch), 5⟩ : DEntry)]) 2).at_ : Int))]) rfl rfl rfl (wantB_t _) rfl (by decide) (fun hp hS => (hS.conv (t := 42) rfl (cond_t hp)).sub (ts := [42]) rfl) (fun _ => Ob_c TB_Relay4 rfl) ?_; clear hok a; intro a hok
  refine s_ob hok (v := .bool ((((((((ackP 1 2 2 1 ([(⟨(⟨0, 1, []⟩ : DBatch), 3⟩ : DEntry), (⟨(⟨0, 2, []⟩ : DBatch), 5⟩ : DEntry)])).k) == 4) && (((((ackP 1 2 2 1 ([(⟨(⟨0, 1, []⟩ : DBatch), 3⟩ : DEntry), (⟨(⟨0, 2, []⟩ : DBatch), 5⟩ : DEntry)])).stamps).length : Nat) : Int) == 1)) && (((((ackP 1 2 2 1 ([(⟨(⟨0, 1, []⟩ : DBatch), 3⟩ : DEntry), (⟨(⟨0, 2, []⟩ : DBatch), 5⟩ : DEntry)])).stamps).getD 0 default) : Int) == 5)) && (((((fwdP 1 0 1 0 9 ([(⟨(⟨0, 1, []⟩ : DBatch), 3⟩ : DEntry), (⟨(⟨0, 2, []⟩ : DBatch), 5⟩ : DEntry)]) 2).entries).length : Nat) : Int) == 1)) && (((fwdP 1 0 1 0 9 ([(⟨(⟨0, 1, []⟩ : DBatch), 3⟩ : DEntry), (⟨(⟨0, 2, []⟩ : DBatch), 5⟩ : DEntry)]) 2).p) == 2)) && (((fwdP 1 0 1 0 9 ([(⟨(⟨0, 1, []⟩ : DBatch), 3⟩ : DEntry), (⟨(⟨0, 2, []⟩ : DBatch), 5⟩ : DEntry)]) 2).at_ : Int) == 9))) rfl rfl (by decide) rfl (Ob_pick rfl rfl rfl rfl (pick_and _ _)) ?_; clear hok a; intro a hok
  refine s_runk TB_Relay4 hok 1 rfl rfl ?_; clear hok a; intro a hok
  refine s_end hok [0, 1, 2, 3] rfl ?_; clear hok; intro hok
  refine p_then ?_
  refine wp_ret ?_
  refine f_ret hok (run_results1 rfl hok rfl) ?_
  refine ⟨?_, H.below fun _ h => h⟩
  · clear hok H
    exact congrArg Value.bool (by decide)

end Go.Proofs.Ytmdoimpeacndaaa
