/- The laws of 'relay': whether a list is right, whether what goes along the chain may be written. -/
import Derived.Test.YtmdoimpeacndaaaRelay3
namespace Go.Proofs.Ytmdoimpeacndaaa
open Go.RowKit

def TB_Relay4L : TabL := ⟨[(33794, 2), (37888, 0), (37893, 5), (37897, 9), (37903, 19), (37904, 20), (58368, 0), (58369, 3)], [], [], [(22, (57, 4)), (31, (116, 3)), (34, (24, 1)), (45, (82, 18))], [(3, (1, false)), (5, (1, false)), (22, (1, false)), (24, (1, false)), (31, (1, false)), (34, (1, false)), (37, (22, true)), (57, (4, true)), (82, (18, true))]⟩
def TB_Relay4 : Tab Try.prog := ⟨TB_Relay4L, by kernel_rfl⟩
theorem fn_6_Relay4 : IsFn Try.prog 6 := ⟨_, Try.func6, by kernel_rfl, by kernel_rfl⟩
theorem fn_7_Relay4 : IsFn Try.prog 7 := ⟨_, Try.func7, by kernel_rfl, by kernel_rfl⟩
theorem fn_8_Relay4 : IsFn Try.prog 8 := ⟨_, Try.func8, by kernel_rfl, by kernel_rfl⟩
theorem fn_9_Relay4 : IsFn Try.prog 9 := ⟨_, Try.func9, by kernel_rfl, by kernel_rfl⟩
theorem fn_10_Relay4 : IsFn Try.prog 10 := ⟨_, Try.func10, by kernel_rfl, by kernel_rfl⟩
theorem fn_11_Relay4 : IsFn Try.prog 11 := ⟨_, Try.func11, by kernel_rfl, by kernel_rfl⟩
theorem fn_26_Relay4 : IsFn Try.prog 26 := ⟨_, Try.func26, by kernel_rfl, by kernel_rfl⟩
theorem fn_28_Relay4 : IsFn Try.prog 28 := ⟨_, Try.func28, by kernel_rfl, by kernel_rfl⟩
theorem fn_45_Relay4 : IsFn Try.prog 45 := ⟨_, Try.func45, by kernel_rfl, by kernel_rfl⟩


/-- how many operations entries have together, of the first so many, as the machine counts -/
def muchI (l : List DEntry) : Nat → Int
  | 0 => l.length
  | n + 1 => IntKind.i64.wrap (muchI l n + ((l.getD n default).batch.ops.length : Int))

set_option maxHeartbeats 1000000 in
theorem c_Much {A0 : Nat → Prop} (v_l : Value) (l : List DEntry) (w : World) (L_v_l : slRep RDEntry A0 w v_l l) :
    Calls Try.prog 6 #[v_l] w (Ret fun r w' => r = .int .i64 (muchI l (min l.length 200)) ∧ Below w.heap.size w w') := by
  obtain ⟨ao_v_l, cap_v_l, rfl, hc_v_l, hm_v_l⟩ := L_v_l.shape
  unfold maxLen at hm_v_l
  obtain ⟨I, hI, H⟩ : ∃ I : Dm, (∀ k, I k ↔ ((A0 k) ∧ k < w.heap.size)) ∧ Hf I NoD w I w [] := ⟨_, fun _ => Iff.rfl, (St.none _ _ fun _ h => h.2).hf⟩
  replace H := H.addsl (L_v_l.bound.mono (fun k h => (hI k).2 ⟨h.1, h.2⟩) (Keep.refl _ _))
  refine f_enter 27 Try.func6 rfl rfl (Nat.le_of_ble_eq_true rfl) fun a hok => ?_
  replace hok := hok.sub (ts := [0]) rfl
  refine wp_seq ?_
  refine f_region hok ?_; clear hok; intro hok
  refine s_runk TB_Relay4 hok 1 rfl rfl ?_; clear hok a; intro a hok
  refine s_end hok [0, 2] rfl ?_; clear hok; intro hok
  refine p_then ?_
  refine wp_seq ?_
  refine f_region hok ?_; clear hok; intro hok
  refine s_runk TB_Relay4 hok 3 rfl rfl ?_; clear hok a; intro a hok
  refine s_end hok [0, 2, 3] rfl ?_; clear hok; intro hok
  refine p_then ?_
  refine wp_seq ?_
  refine wp_seq ?_
  refine f_region hok ?_; clear hok; intro hok
  refine s_runk TB_Relay4 hok 1 rfl rfl ?_; clear hok a; intro a hok
  refine s_end hok [0, 2, 3, 4] rfl ?_; clear hok; intro hok
  refine p_then ?_
  refine wp_block ?_
  refine f_loop (σ := Nat) (fun k a w' => Sl 27 [(0, .slice ao_v_l l.length cap_v_l), (2, .int .i64 0), (3, .int .i64 (muchI l k)), (4, .int .i64 (k : Int))] a ∧ (k ≤ l.length ∧ k ≤ 200) ∧ ∃ I2, Hf I NoD w I2 w' [SlC RDEntry (.slice ao_v_l l.length cap_v_l) l]) (fun k => l.length - k) 0 ⟨hok.sub (ts := [0, 2, 3, 4]) rfl, by omega, I, H⟩ ?_
  clear hok H
  rintro k a w1 ⟨hok, hinv0_0, I1, H⟩
  refine wp_seq ?_
  refine wp_seq ?_
  refine f_region hok ?_; clear hok; intro hok
  refine s_runk TB_Relay4 hok 5 rfl rfl ?_; clear hok a; intro a hok
  refine g_ob hok (p := (decide ((k : Int) < (l.length : Int)))) (v := .int .i64 (k : Int)) (S' := [(4, .int .i64 (k : Int))]) rfl rfl rfl (wantB_t _) rfl (by decide) (fun hp hS => hS.sub (ts := [4]) rfl) (fun _ => Ob_c TB_Relay4 rfl) ?_; clear hok a; intro a hok
  refine g_ob hok (p := (decide ((k : Int) < (l.length : Int)))) (v := .bool (decide ((k : Int) < 200))) (S' := [(12, .int .i64 (k : Int))]) rfl rfl rfl (wantB_t _) rfl (by decide) (fun hp hS => (hS.conv (t := 12) rfl (cond_t hp)).sub (ts := [12]) rfl) (fun _ => Ob_c TB_Relay4 rfl) ?_; clear hok a; intro a hok
  refine s_ob hok (v := .bool ((decide ((k : Int) < (l.length : Int))) && (decide ((k : Int) < 200)))) rfl rfl (by decide) rfl (Ob_pick rfl rfl rfl rfl (pick_and _ _)) ?_; clear hok a; intro a hok
  refine s_end hok [0, 2, 3, 4, 14] rfl ?_; clear hok; intro hok
  refine p_then ?_
  refine f_cond hok rfl (fun hc1 => ?_) (fun hc1 => ?_)
  · replace hc1 := And.intro (of_decide_eq_true (andT1 hc1)) (of_decide_eq_true (andT2 hc1))
    refine wp_skip ?_
    refine p_then ?_
    refine wp_seq ?_
    refine wp_block ?_
    refine f_region hok ?_; clear hok; intro hok
    refine s_runk TB_Relay4 hok 3 rfl rfl ?_; clear hok a; intro a hok
    have hi1 : k < l.length := by omega
    have he1 := elt (H.sl 0 rfl) (k) (slRep.lt (H.sl 0 rfl) hi1)
    refine s_ob hok (v := .pointer (some ⟨bOf ao_v_l, oOf ao_v_l + k * 4, none⟩)) rfl rfl (by decide) rfl (Ob_idx TB_Relay4 (k) rfl rfl he1.1 rfl rfl rfl hi1) ?_; clear hok a; intro a hok
    refine s_runk TB_Relay4 hok 2 rfl rfl ?_; clear hok a; intro a hok
    obtain ⟨_, _, _, ⟨u1, rfl, L1, hok_e1⟩, hat1⟩ := id he1
    obtain ⟨ao_u1, cap_u1, rfl, hc_u1, hm_u1⟩ := L1.shape
    unfold maxLen at hm_u1
    replace H := H.addsl L1
    refine s_ob hok (v := .slice ao_u1 ((l.getD k default).batch.ops.length) cap_u1) rfl rfl (by decide) rfl (Ob_load TB_Relay4 rfl rfl rfl (hat1 2 _ rfl)) ?_; clear hok a; intro a hok
    refine s_runk TB_Relay4 hok 1 rfl rfl ?_; clear hok a; intro a hok
    refine s_ob hok (v := .int .i64 (IntKind.i64.wrap (muchI l k + (((l.getD k default).batch.ops.length : Nat) : Int)))) rfl rfl (by decide) rfl (Ob_add rfl rfl rfl rfl) ?_; clear hok a; intro a hok
    refine s_runk TB_Relay4 hok 1 rfl rfl ?_; clear hok a; intro a hok
    refine s_end hok [0, 2, 3, 4, 14] rfl ?_; clear hok; intro hok
    refine p_blk ?_
    refine p_then ?_
    refine f_region hok ?_; clear hok; intro hok
    refine s_runk TB_Relay4 hok 1 rfl rfl ?_; clear hok a; intro a hok
    refine s_ob hok (v := .int .i64 ((k : Int) + 1)) rfl rfl (by decide) rfl (Ob_add rfl rfl rfl (IntWalk.i64_in _ (by omega))) ?_; clear hok a; intro a hok
    refine s_runk TB_Relay4 hok 1 rfl rfl ?_; clear hok a; intro a hok
    refine s_end hok [0, 2, 3, 4, 14] rfl ?_; clear hok; intro hok
    refine p_then ?_
    refine ⟨k + 1, ⟨hok.sub (ts := [0, 2, 3, 4]) rfl, ?_, I1, H.sub [(1, true)] rfl⟩, by omega⟩
    · clear hok H he1 hat1
      omega
  · replace hc1 := andF hc1 (fun h => of_decide_eq_false h) (fun h => of_decide_eq_false h)
    refine wp_exit ?_
    refine p_then_x ?_
    refine p_then_x ?_
    refine f_exit_here ?_
    refine p_then ?_
    refine wp_seq ?_
    refine f_region hok ?_; clear hok; intro hok
    refine s_runk TB_Relay4 hok 2 rfl rfl ?_; clear hok a; intro a hok
    refine s_end hok [0, 2, 3, 4, 14] rfl ?_; clear hok; intro hok
    refine p_then ?_
    refine wp_ret ?_
    refine f_ret hok (run_results1 rfl hok rfl) ?_
    refine ⟨?_, H.below fun _ h => h⟩
    · clear hok H
      have e : min l.length 200 = k := (by omega); rw [e]


/-- the first place at which something is wrong -/
def badIdx (f : Nat → Int) : Nat → Nat → Int
  | _, 0 => 0
  | k, n + 1 => if f k ≠ 0 then f k else badIdx f (k + 1) n
/-- what is wrong with a list at a place -/
def rightAt (l : List DEntry) (k : Nat) : Int :=
  if checkB (l.getD k default).batch ≠ 0 then checkB (l.getD k default).batch
  else if (List.range k).any (fun j => twinsE (l.getD j default) (l.getD k default)) then 18
  else if 0 < k ∧ (l.getD k default).ts ≠ 0 ∧ ((l.getD (k - 1) default).ts = 0 ∨ (l.getD (k - 1) default).ts ≥ (l.getD k default).ts) then 18 else 0
def rightL (l : List DEntry) : Int := badIdx (rightAt l) 0 l.length

theorem badIdx_stop {f : Nat → Int} {k n : Nat} {r v : Int} (h : r = badIdx f k n) (hn : 0 < n) (hv : f k = v) (h0 : v ≠ 0) : Value.int .i64 v = .int .i64 r := by
  obtain ⟨m, rfl⟩ : ∃ m, n = m + 1 := ⟨n - 1, by omega⟩
  rw [h, badIdx, hv, if_pos h0]
theorem badIdx_on {f : Nat → Int} {k n : Nat} {r : Int} (h : r = badIdx f k n) (hn : 0 < n) (hv : f k = 0) : r = badIdx f (k + 1) (n - 1) := by
  obtain ⟨m, rfl⟩ : ∃ m, n = m + 1 := ⟨n - 1, by omega⟩
  rw [h, badIdx, if_neg (fun x => x hv)]; rfl
theorem badIdx_zero {f : Nat → Int} : ∀ {n k : Nat}, badIdx f k n = 0 → ∀ j, k ≤ j → j < k + n → f j = 0
  | 0, k, _, j, h1, h2 => by omega
  | n + 1, k, h, j, h1, h2 => by
    unfold badIdx at h
    split at h
    · rename_i h3; exact absurd h h3
    · rename_i h3
      by_cases hj : j = k
      · subst hj; exact Decidable.not_not.1 h3
      · exact badIdx_zero h j (by omega) (by omega)

theorem any_no {k : Nat} {p : Nat → Bool} (h : ∀ q, q < k → p q = false) : ¬ (List.range k).any p = true := by
  rw [List.any_eq_true]
  rintro ⟨q, hq, hp⟩
  rw [h q (List.mem_range.1 hq)] at hp; cases hp
theorem any_yes {k q : Nat} {p : Nat → Bool} (h : q < k) (hp : p q = true) : (List.range k).any p = true := List.any_eq_true.2 ⟨q, List.mem_range.2 h, hp⟩
theorem rightAt_ok {l : List DEntry} {k : Nat} (h1 : checkB (l.getD k default).batch = 0) (h2 : ∀ q, q < k → twinsE (l.getD q default) (l.getD k default) = false) (h3 : ¬ (0 < k ∧ (l.getD k default).ts ≠ 0 ∧ ((l.getD (k - 1) default).ts = 0 ∨ (l.getD (k - 1) default).ts ≥ (l.getD k default).ts))) : rightAt l k = 0 := by
  unfold rightAt
  rw [if_neg (fun h => h h1), if_neg (any_no h2), if_neg h3]
theorem rightAt_twin {l : List DEntry} {k j : Nat} (h1 : checkB (l.getD k default).batch = 0) (hj : j < k) (h2 : twinsE (l.getD j default) (l.getD k default) = true) : rightAt l k = 18 := by
  unfold rightAt
  rw [if_neg (fun h => h h1), if_pos (any_yes hj h2)]
theorem rightAt_ts {l : List DEntry} {k : Nat} (h1 : checkB (l.getD k default).batch = 0) (h2 : ∀ q, q < k → twinsE (l.getD q default) (l.getD k default) = false) (h3 : 0 < k ∧ (l.getD k default).ts ≠ 0 ∧ ((l.getD (k - 1) default).ts = 0 ∨ (l.getD (k - 1) default).ts ≥ (l.getD k default).ts)) : rightAt l k = 18 := by
  unfold rightAt
  rw [if_neg (fun h => h h1), if_neg (any_no h2), if_pos h3]

set_option maxHeartbeats 1000000 in
theorem c_ref08_Right {A0 : Nat → Prop} (v_l : Value) (l : List DEntry) (w : World) (L_v_l : slRep RDEntry A0 w v_l l) :
    Calls Try.prog 7 #[v_l] w (Ret fun r w' => r = .int .i64 (rightL l) ∧ Below w.heap.size w w') := by
  obtain ⟨ao_v_l, cap_v_l, rfl, hc_v_l, hm_v_l⟩ := L_v_l.shape
  unfold maxLen at hm_v_l
  obtain ⟨I, hI, H⟩ : ∃ I : Dm, (∀ k, I k ↔ ((A0 k) ∧ k < w.heap.size)) ∧ Hf I NoD w I w [] := ⟨_, fun _ => Iff.rfl, (St.none _ _ fun _ h => h.2).hf⟩
  replace H := H.addsl (L_v_l.bound.mono (fun k h => (hI k).2 ⟨h.1, h.2⟩) (Keep.refl _ _))
  refine f_enter 67 Try.func7 rfl rfl (Nat.le_of_ble_eq_true rfl) fun a hok => ?_
  replace hok := hok.sub (ts := [0]) rfl
  refine wp_seq ?_
  refine f_region hok ?_; clear hok; intro hok
  refine s_runk TB_Relay4 hok 1 rfl rfl ?_; clear hok a; intro a hok
  refine s_end hok [0, 2] rfl ?_; clear hok; intro hok
  refine p_then ?_
  refine wp_seq ?_
  refine wp_seq ?_
  refine f_region hok ?_; clear hok; intro hok
  refine s_runk TB_Relay4 hok 1 rfl rfl ?_; clear hok a; intro a hok
  refine s_end hok [0, 2, 3] rfl ?_; clear hok; intro hok
  refine p_then ?_
  refine wp_block ?_
  refine f_loop (σ := Nat) (fun k a w' => Sl 67 [(0, .slice ao_v_l l.length cap_v_l), (3, .int .i64 (k : Int))] a ∧ (k ≤ l.length) ∧ (rightL l = badIdx (rightAt l) k (l.length - k)) ∧ ∃ I2, Hf I NoD w I2 w' [SlC RDEntry (.slice ao_v_l l.length cap_v_l) l]) (fun k => l.length - k) 0 ⟨hok.sub (ts := [0, 3]) rfl, by omega, by rfl, I, H⟩ ?_
  clear hok H
  rintro k a w1 ⟨hok, hinv0_0, hinv0_1, I1, H⟩
  refine wp_seq ?_
  refine wp_seq ?_
  refine f_region hok ?_; clear hok; intro hok
  refine s_runk TB_Relay4 hok 4 rfl rfl ?_; clear hok a; intro a hok
  refine s_end hok [0, 3, 9] rfl ?_; clear hok; intro hok
  refine p_then ?_
  refine f_cond hok rfl (fun hc1 => ?_) (fun hc1 => ?_)
  · replace hc1 := of_decide_eq_true hc1
    refine wp_skip ?_
    refine p_then ?_
    refine wp_seq ?_
    refine wp_block ?_
    refine wp_seq ?_
    refine wp_seq ?_
    refine f_region hok ?_; clear hok; intro hok
    refine s_runk TB_Relay4 hok 2 rfl rfl ?_; clear hok a; intro a hok
    have hi1 : k < l.length := by omega
    have he1 := elt (H.sl 0 rfl) (k) (slRep.lt (H.sl 0 rfl) hi1)
    refine s_ob hok (v := .pointer (some ⟨bOf ao_v_l, oOf ao_v_l + k * 4, none⟩)) rfl rfl (by decide) rfl (Ob_idx TB_Relay4 (k) rfl rfl he1.1 rfl rfl rfl hi1) ?_; clear hok a; intro a hok
    obtain ⟨_, _, _, ⟨u1, rfl, L1, hok_e1⟩, hat1⟩ := id he1
    obtain ⟨ao_u1, cap_u1, rfl, hc_u1, hm_u1⟩ := L1.shape
    unfold maxLen at hm_u1
    replace H := H.addsl L1
    refine s_ob hok (v := .agg #[.int .i64 ((l.getD k default).batch.client), .int .i64 ((l.getD k default).batch.req), .slice ao_u1 ((l.getD k default).batch.ops.length) cap_u1, .int .u64 ((l.getD k default).ts : Int)]) rfl rfl (by decide) rfl (Ob_loads TB_Relay4 rfl rfl rfl hat1) ?_; clear hok a; intro a hok
    refine s_call hok fn_28_Relay4 (caps := #[]) rfl rfl rfl rfl rfl (by decide) rfl rfl (c_ref08_Check (l.getD k default) _ _ (H.sl 0 rfl) hok_e1) ?_; clear hok a; intro _ a w2 hr hok
    obtain ⟨rfl, hb⟩ := hr
    replace H := H.blw hb
    clear hb
    clear he1 hat1
    refine s_runk TB_Relay4 hok 1 rfl rfl ?_; clear hok a; intro a hok
    refine s_end hok [0, 3, 9, 4] rfl ?_; clear hok; intro hok
    refine p_then ?_
    refine wp_seq ?_
    refine f_region hok ?_; clear hok; intro hok
    refine s_runk TB_Relay4 hok 2 rfl rfl ?_; clear hok a; intro a hok
    refine s_end hok [0, 3, 9, 4, 18] rfl ?_; clear hok; intro hok
    refine p_then ?_
    refine f_cond hok rfl (fun hc2 => ?_) (fun hc2 => ?_)
    · replace hc2 := bne_iff_ne.1 hc2
      refine wp_seq ?_
      refine f_region hok ?_; clear hok; intro hok
      refine s_runk TB_Relay4 hok 2 rfl rfl ?_; clear hok a; intro a hok
      refine s_end hok [0, 3, 9, 4, 18, 2] rfl ?_; clear hok; intro hok
      refine p_then ?_
      refine wp_ret ?_
      refine p_then_r ?_
      refine p_blk_r ?_
      refine p_then_r ?_
      refine p_then_r ?_
      refine p_blk_r ?_
      refine p_then_r ?_
      refine f_ret hok (run_results1 rfl hok rfl) ?_
      refine ⟨?_, H.below fun _ h => h⟩
      · clear hok H
        exact badIdx_stop hinv0_1 (by omega) (by unfold rightAt; rw [if_pos (by assumption)]) (by assumption)
    · replace hc2 := bne_eq_false_iff_eq.1 hc2
      refine wp_skip ?_
      refine p_then ?_
      refine wp_seq ?_
      refine wp_seq ?_
      refine f_region hok ?_; clear hok; intro hok
      refine s_runk TB_Relay4 hok 1 rfl rfl ?_; clear hok a; intro a hok
      refine s_end hok [0, 3, 9, 4, 18, 5] rfl ?_; clear hok; intro hok
      refine p_then ?_
      refine wp_block ?_
      refine f_loop (σ := Nat) (fun j a w' => Sl 67 [(0, .slice ao_v_l l.length cap_v_l), (3, .int .i64 (k : Int)), (9, .bool (decide ((k : Int) < (l.length : Int)))), (4, .int .i64 (checkB (l.getD k default).batch)), (18, .bool ((checkB (l.getD k default).batch) != 0)), (5, .int .i64 (j : Int))] a ∧ (j ≤ k) ∧ (∀ q, q < j → twinsE (l.getD q default) (l.getD k default) = false) ∧ ∃ I2, Hf I NoD w I2 w' [SlC RDOp (.slice ao_u1 ((l.getD k default).batch.ops.length) cap_u1) ((l.getD k default).batch.ops), SlC RDEntry (.slice ao_v_l l.length cap_v_l) l]) (fun j => k - j) 0 ⟨hok.sub (ts := [0, 3, 9, 4, 18, 5]) rfl, by omega, by intro q hq; omega, I1, H⟩ ?_
      clear hok H
      rintro j a w3 ⟨hok, hinv1_0, hinv1_1, I2, H⟩
      refine wp_seq ?_
      refine wp_seq ?_
      refine f_region hok ?_; clear hok; intro hok
      refine s_runk TB_Relay4 hok 3 rfl rfl ?_; clear hok a; intro a hok
      refine s_end hok [0, 3, 9, 4, 18, 5, 22] rfl ?_; clear hok; intro hok
      refine p_then ?_
      refine f_cond hok rfl (fun hc3 => ?_) (fun hc3 => ?_)
      · replace hc3 := of_decide_eq_true hc3
        refine wp_skip ?_
        refine p_then ?_
        refine wp_seq ?_
        refine wp_block ?_
        refine wp_seq ?_
        refine f_quietd (by kernel_rfl) (by kernel_rfl) hok ?_; clear hok; intro hok
        refine q_runk TB_Relay4 hok 2 rfl rfl ?_; clear hok a; intro a hok
        have hi2 : j < l.length := by omega
        have he2 := elt (H.sl 1 rfl) (j) (slRep.lt (H.sl 1 rfl) hi2)
        refine q_ob hok (v := .pointer (some ⟨bOf ao_v_l, oOf ao_v_l + j * 4, none⟩)) rfl rfl (by decide) rfl (fun _ hw => Ob_idx TB_Relay4 (j) rfl rfl he2.1 rfl rfl rfl hi2) ?_; clear hok a; intro a hok
        obtain ⟨_, _, _, ⟨u2, rfl, L2, hok_e2⟩, hat2⟩ := id he2
        obtain ⟨ao_u2, cap_u2, rfl, hc_u2, hm_u2⟩ := L2.shape
        unfold maxLen at hm_u2
        replace H := H.addsl L2
        refine q_ob hok (v := .agg #[.int .i64 ((l.getD j default).batch.client), .int .i64 ((l.getD j default).batch.req), .slice ao_u2 ((l.getD j default).batch.ops.length) cap_u2, .int .u64 ((l.getD j default).ts : Int)]) rfl rfl (by decide) rfl (fun _ hw => Ob_loads TB_Relay4 rfl rfl rfl (hat2.below hw he2.2.1.2)) ?_; clear hok a; intro a hok
        refine q_runk TB_Relay4 hok 2 rfl rfl ?_; clear hok a; intro a hok
        have hi3 : k < l.length := by omega
        have he3 := elt (H.sl 2 rfl) (k) (slRep.lt (H.sl 2 rfl) hi3)
        refine q_ob hok (v := .pointer (some ⟨bOf ao_v_l, oOf ao_v_l + k * 4, none⟩)) rfl rfl (by decide) rfl (fun _ hw => Ob_idx TB_Relay4 (k) rfl rfl he3.1 rfl rfl rfl hi3) ?_; clear hok a; intro a hok
        obtain ⟨_, _, _, ⟨u3, rfl, L3, hok_e3⟩, hat3⟩ := id he3
        obtain ⟨ao_u3, cap_u3, rfl, hc_u3, hm_u3⟩ := L3.shape
        unfold maxLen at hm_u3
        replace H := H.addsl L3
        refine q_ob hok (v := .agg #[.int .i64 ((l.getD k default).batch.client), .int .i64 ((l.getD k default).batch.req), .slice ao_u3 ((l.getD k default).batch.ops.length) cap_u3, .int .u64 ((l.getD k default).ts : Int)]) rfl rfl (by decide) rfl (fun _ hw => Ob_loads TB_Relay4 rfl rfl rfl (hat3.below hw he3.2.1.2)) ?_; clear hok a; intro a hok
        refine q_call hok (caps := #[]) (v := .bool (twinsE (l.getD j default) (l.getD k default))) fn_26_Relay4 rfl rfl rfl rfl rfl (by decide) rfl rfl (fun _ hw => c_ref08_Twins (l.getD j default) _ (l.getD k default) _ _ ((H.blw hw).sl 1 rfl) hok_e2 ((H.blw hw).sl 0 rfl) hok_e3) ?_; clear hok a; intro a hok
        refine q_end hok [0, 3, 9, 4, 18, 5, 22, 33] rfl ?_; clear hok; intro w4 hb hok
        replace H := H.blw hb
        clear hb
        clear he2 hat2 he3 hat3
        refine p_then ?_
        refine f_cond hok rfl (fun hc4 => ?_) (fun hc4 => ?_)
        · skip
          refine wp_seq ?_
          refine f_region hok ?_; clear hok; intro hok
          refine s_runk TB_Relay4 hok 1 rfl rfl ?_; clear hok a; intro a hok
          refine s_end hok [0, 3, 9, 4, 18, 5, 22, 33, 2] rfl ?_; clear hok; intro hok
          refine p_then ?_
          refine wp_ret ?_
          refine p_blk_r ?_
          refine p_then_r ?_
          refine p_then_r ?_
          refine p_blk_r ?_
          refine p_then_r ?_
          refine p_blk_r ?_
          refine p_then_r ?_
          refine p_then_r ?_
          refine p_blk_r ?_
          refine p_then_r ?_
          refine f_ret hok (run_results1 rfl hok rfl) ?_
          refine ⟨?_, H.below fun _ h => h⟩
          · clear hok H
            exact badIdx_stop hinv0_1 (by omega) (rightAt_twin (by assumption) (j := j) (by omega) (by assumption)) (by decide)
        · skip
          refine wp_skip ?_
          refine p_blk ?_
          refine p_then ?_
          refine f_region hok ?_; clear hok; intro hok
          refine s_runk TB_Relay4 hok 1 rfl rfl ?_; clear hok a; intro a hok
          refine s_ob hok (v := .int .i64 ((j : Int) + 1)) rfl rfl (by decide) rfl (Ob_add rfl rfl rfl (IntWalk.i64_in _ (by omega))) ?_; clear hok a; intro a hok
          refine s_runk TB_Relay4 hok 1 rfl rfl ?_; clear hok a; intro a hok
          refine s_end hok [0, 3, 9, 4, 18, 5, 22, 33] rfl ?_; clear hok; intro hok
          refine p_then ?_
          refine ⟨j + 1, ⟨hok.sub (ts := [0, 3, 9, 4, 18, 5]) rfl, ?_, ?_, I2, H.sub [(2, true), (3, true)] rfl⟩, by omega⟩
          · clear hok H
            omega
          · clear hok H
            intro q hq; by_cases e : q = j; (rw [e]; assumption); exact hinv1_1 q (by omega)
      · replace hc3 := of_decide_eq_false hc3
        refine wp_exit ?_
        refine p_then_x ?_
        refine p_then_x ?_
        refine f_exit_here ?_
        refine p_then ?_
        refine wp_seq ?_
        refine f_quietd (by kernel_rfl) (by kernel_rfl) hok ?_; clear hok; intro hok
        refine q_runk TB_Relay4 hok 3 rfl rfl ?_; clear hok a; intro a hok
        refine gq_ob hok (p := (decide ((k : Int) > 0))) (v := .slice ao_v_l l.length cap_v_l) (S' := [(0, .slice ao_v_l l.length cap_v_l)]) rfl rfl rfl (wantB_t _) rfl (by decide) (fun hp hS => hS.sub (ts := [0]) rfl) (fun _ => fun _ _ => Ob_c TB_Relay4 rfl) ?_; clear hok a; intro a hok
        refine gq_ob hok (p := (decide ((k : Int) > 0))) (v := .int .i64 (k : Int)) (S' := [(3, .int .i64 (k : Int))]) rfl rfl rfl (wantB_t _) rfl (by decide) (fun hp hS => hS.sub (ts := [3]) rfl) (fun _ => fun _ _ => Ob_c TB_Relay4 rfl) ?_; clear hok a; intro a hok
        refine gq_ob hok (p := (decide ((k : Int) > 0))) (v := .pointer (some ⟨bOf ao_v_l, oOf ao_v_l + k * 4, none⟩)) (S' := [(37, .slice ao_v_l l.length cap_v_l), (38, .int .i64 (k : Int))]) rfl rfl rfl (wantB_t _) rfl (by decide) (fun hp hS => ((hS.conv (t := 37) rfl (cond_t hp)).conv (t := 38) rfl (cond_t hp)).sub (ts := [37, 38]) rfl) (fun hp => ?_) ?_
        · have hg1 := of_decide_eq_true hp
          have hi4 : k < l.length := by omega
          have he4 := elt (H.sl 1 rfl) (k) (slRep.lt (H.sl 1 rfl) hi4)
          exact fun _ hw => Ob_idx TB_Relay4 (k) rfl rfl he4.1 rfl rfl rfl hi4
        clear hok a; intro a hok
        refine gq_ob hok (p := (decide ((k : Int) > 0))) (v := .pointer (some ⟨bOf ao_v_l, oOf ao_v_l + k * 4 + 3, none⟩)) (S' := [(39, .pointer (some ⟨bOf ao_v_l, oOf ao_v_l + k * 4, none⟩))]) rfl rfl rfl (wantB_t _) rfl (by decide) (fun hp hS => (hS.conv (t := 39) rfl (cond_t hp)).sub (ts := [39]) rfl) (fun _ => fun _ _ => Ob_c TB_Relay4 rfl) ?_; clear hok a; intro a hok
        refine gq_ob hok (p := (decide ((k : Int) > 0))) (v := .int .u64 ((l.getD k default).ts : Int)) (S' := [(40, .pointer (some ⟨bOf ao_v_l, oOf ao_v_l + k * 4 + 3, none⟩))]) rfl rfl rfl (wantB_t _) rfl (by decide) (fun hp hS => (hS.conv (t := 40) rfl (cond_t hp)).sub (ts := [40]) rfl) (fun hp => ?_) ?_
        · have hg2 := of_decide_eq_true hp
          have hi5 : k < l.length := by omega
          have he5 := elt (H.sl 1 rfl) (k) (slRep.lt (H.sl 1 rfl) hi5)
          obtain ⟨_, _, _, ⟨u4, rfl, L4, hok_e4⟩, hat4⟩ := id he5
          obtain ⟨ao_u4, cap_u4, rfl, hc_u4, hm_u4⟩ := L4.shape
          unfold maxLen at hm_u4
          replace H := H.addsl L4
          exact fun _ hw => Ob_load TB_Relay4 rfl rfl rfl ((hat4.below hw he5.2.1.2) 3 _ rfl)
        clear hok a; intro a hok
        refine gq_ob hok (p := (decide ((k : Int) > 0))) (v := .bool (((l.getD k default).ts : Int) != 0)) (S' := [(41, .int .u64 ((l.getD k default).ts : Int))]) rfl rfl rfl (wantB_t _) rfl (by decide) (fun hp hS => (hS.conv (t := 41) rfl (cond_t hp)).sub (ts := [41]) rfl) (fun _ => fun _ _ => Ob_c TB_Relay4 rfl) ?_; clear hok a; intro a hok
        refine q_ob hok (v := .bool ((decide ((k : Int) > 0)) && (((l.getD k default).ts : Int) != 0))) rfl rfl (by decide) rfl (fun _ _ => Ob_pick rfl rfl rfl rfl (pick_and _ _)) ?_; clear hok a; intro a hok
        refine q_runk TB_Relay4 hok 1 rfl rfl ?_; clear hok a; intro a hok
        refine gq_ob hok (p := ((decide ((k : Int) > 0)) && (((l.getD k default).ts : Int) != 0))) (v := .slice ao_v_l l.length cap_v_l) (S' := [(0, .slice ao_v_l l.length cap_v_l)]) rfl rfl rfl (wantB_t _) rfl (by decide) (fun hp hS => hS.sub (ts := [0]) rfl) (fun _ => fun _ _ => Ob_c TB_Relay4 rfl) ?_; clear hok a; intro a hok
        refine gq_ob hok (p := ((decide ((k : Int) > 0)) && (((l.getD k default).ts : Int) != 0))) (v := .int .i64 (k : Int)) (S' := [(3, .int .i64 (k : Int))]) rfl rfl rfl (wantB_t _) rfl (by decide) (fun hp hS => hS.sub (ts := [3]) rfl) (fun _ => fun _ _ => Ob_c TB_Relay4 rfl) ?_; clear hok a; intro a hok
        refine gq_ob hok (p := ((decide ((k : Int) > 0)) && (((l.getD k default).ts : Int) != 0))) (v := .int .i64 ((k - 1 : Nat) : Int)) (S' := [(46, .int .i64 (k : Int))]) rfl rfl rfl (wantB_t _) rfl (by decide) (fun hp hS => (hS.conv (t := 46) rfl (cond_t hp)).sub (ts := [46]) rfl) (fun hp => ?_) ?_
        · have hg3 := And.intro (of_decide_eq_true (andT1 hp)) (bne_iff_ne.1 (andT2 hp))
          exact fun _ hw => Ob_sub rfl rfl rfl ((IntWalk.i64_in _ (by omega)).trans (by omega))
        clear hok a; intro a hok
        refine gq_ob hok (p := ((decide ((k : Int) > 0)) && (((l.getD k default).ts : Int) != 0))) (v := .pointer (some ⟨bOf ao_v_l, oOf ao_v_l + (k - 1) * 4, none⟩)) (S' := [(45, .slice ao_v_l l.length cap_v_l), (47, .int .i64 ((k - 1 : Nat) : Int))]) rfl rfl rfl (wantB_t _) rfl (by decide) (fun hp hS => ((hS.conv (t := 45) rfl (cond_t hp)).conv (t := 47) rfl (cond_t hp)).sub (ts := [45, 47]) rfl) (fun hp => ?_) ?_
        · have hg4 := And.intro (of_decide_eq_true (andT1 hp)) (bne_iff_ne.1 (andT2 hp))
          have hi6 : (k - 1) < l.length := by omega
          have he6 := elt (H.sl 1 rfl) ((k - 1)) (slRep.lt (H.sl 1 rfl) hi6)
          exact fun _ hw => Ob_idx TB_Relay4 ((k - 1)) rfl rfl he6.1 rfl rfl rfl hi6
        clear hok a; intro a hok
        refine gq_ob hok (p := ((decide ((k : Int) > 0)) && (((l.getD k default).ts : Int) != 0))) (v := .pointer (some ⟨bOf ao_v_l, oOf ao_v_l + (k - 1) * 4 + 3, none⟩)) (S' := [(48, .pointer (some ⟨bOf ao_v_l, oOf ao_v_l + (k - 1) * 4, none⟩))]) rfl rfl rfl (wantB_t _) rfl (by decide) (fun hp hS => (hS.conv (t := 48) rfl (cond_t hp)).sub (ts := [48]) rfl) (fun _ => fun _ _ => Ob_c TB_Relay4 rfl) ?_; clear hok a; intro a hok
        refine gq_ob hok (p := ((decide ((k : Int) > 0)) && (((l.getD k default).ts : Int) != 0))) (v := .int .u64 ((l.getD (k - 1) default).ts : Int)) (S' := [(49, .pointer (some ⟨bOf ao_v_l, oOf ao_v_l + (k - 1) * 4 + 3, none⟩))]) rfl rfl rfl (wantB_t _) rfl (by decide) (fun hp hS => (hS.conv (t := 49) rfl (cond_t hp)).sub (ts := [49]) rfl) (fun hp => ?_) ?_
        · have hg5 := And.intro (of_decide_eq_true (andT1 hp)) (bne_iff_ne.1 (andT2 hp))
          have hi7 : (k - 1) < l.length := by omega
          have he7 := elt (H.sl 1 rfl) ((k - 1)) (slRep.lt (H.sl 1 rfl) hi7)
          obtain ⟨_, _, _, ⟨u5, rfl, L5, hok_e5⟩, hat5⟩ := id he7
          obtain ⟨ao_u5, cap_u5, rfl, hc_u5, hm_u5⟩ := L5.shape
          unfold maxLen at hm_u5
          replace H := H.addsl L5
          exact fun _ hw => Ob_load TB_Relay4 rfl rfl rfl ((hat5.below hw he7.2.1.2) 3 _ rfl)
        clear hok a; intro a hok
        refine gq_ob hok (p := ((decide ((k : Int) > 0)) && (((l.getD k default).ts : Int) != 0))) (v := .bool (((l.getD (k - 1) default).ts : Int) == 0)) (S' := [(50, .int .u64 ((l.getD (k - 1) default).ts : Int))]) rfl rfl rfl (wantB_t _) rfl (by decide) (fun hp hS => (hS.conv (t := 50) rfl (cond_t hp)).sub (ts := [50]) rfl) (fun _ => fun _ _ => Ob_c TB_Relay4 rfl) ?_; clear hok a; intro a hok
        refine gq_ob hok (p := ((decide ((k : Int) > 0)) && (((l.getD k default).ts : Int) != 0))) (v := .bool (((l.getD (k - 1) default).ts : Int) == 0)) (S' := [(51, .bool (((l.getD (k - 1) default).ts : Int) == 0))]) rfl rfl rfl (wantB_t _) rfl (by decide) (fun hp hS => (hS.conv (t := 51) rfl (cond_t hp)).sub (ts := [51]) rfl) (fun _ => fun _ _ => Ob_c TB_Relay4 rfl) ?_; clear hok a; intro a hok
        refine gq_ob hok (p := (((decide ((k : Int) > 0)) && (((l.getD k default).ts : Int) != 0)) && (!(((l.getD (k - 1) default).ts : Int) == 0)))) (v := .slice ao_v_l l.length cap_v_l) (S' := [(0, .slice ao_v_l l.length cap_v_l)]) rfl rfl rfl (wantB_cf _ _) rfl (by decide) (fun hp hS => hS.sub (ts := [0]) rfl) (fun _ => fun _ _ => Ob_c TB_Relay4 rfl) ?_; clear hok a; intro a hok
        refine gq_ob hok (p := (((decide ((k : Int) > 0)) && (((l.getD k default).ts : Int) != 0)) && (!(((l.getD (k - 1) default).ts : Int) == 0)))) (v := .int .i64 (k : Int)) (S' := [(3, .int .i64 (k : Int))]) rfl rfl rfl (wantB_cf _ _) rfl (by decide) (fun hp hS => hS.sub (ts := [3]) rfl) (fun _ => fun _ _ => Ob_c TB_Relay4 rfl) ?_; clear hok a; intro a hok
        refine gq_ob hok (p := (((decide ((k : Int) > 0)) && (((l.getD k default).ts : Int) != 0)) && (!(((l.getD (k - 1) default).ts : Int) == 0)))) (v := .int .i64 ((k - 1 : Nat) : Int)) (S' := [(54, .int .i64 (k : Int))]) rfl rfl rfl (wantB_cf _ _) rfl (by decide) (fun hp hS => (hS.conv (t := 54) rfl (cond_t hp)).sub (ts := [54]) rfl) (fun hp => ?_) ?_
        · have hg6 := And.intro (of_decide_eq_true (andT1 (andT1 hp))) (bne_iff_ne.1 (andT2 (andT1 hp)))
          have hg7 := ne_of_beq_false (notT (andT2 hp))
          exact fun _ hw => Ob_sub rfl rfl rfl ((IntWalk.i64_in _ (by omega)).trans (by omega))
        clear hok a; intro a hok
        refine gq_ob hok (p := (((decide ((k : Int) > 0)) && (((l.getD k default).ts : Int) != 0)) && (!(((l.getD (k - 1) default).ts : Int) == 0)))) (v := .pointer (some ⟨bOf ao_v_l, oOf ao_v_l + (k - 1) * 4, none⟩)) (S' := [(53, .slice ao_v_l l.length cap_v_l), (55, .int .i64 ((k - 1 : Nat) : Int))]) rfl rfl rfl (wantB_cf _ _) rfl (by decide) (fun hp hS => ((hS.conv (t := 53) rfl (cond_t hp)).conv (t := 55) rfl (cond_t hp)).sub (ts := [53, 55]) rfl) (fun hp => ?_) ?_
        · have hg8 := And.intro (of_decide_eq_true (andT1 (andT1 hp))) (bne_iff_ne.1 (andT2 (andT1 hp)))
          have hg9 := ne_of_beq_false (notT (andT2 hp))
          have hi8 : (k - 1) < l.length := by omega
          have he8 := elt (H.sl 1 rfl) ((k - 1)) (slRep.lt (H.sl 1 rfl) hi8)
          exact fun _ hw => Ob_idx TB_Relay4 ((k - 1)) rfl rfl he8.1 rfl rfl rfl hi8
        clear hok a; intro a hok
        refine gq_ob hok (p := (((decide ((k : Int) > 0)) && (((l.getD k default).ts : Int) != 0)) && (!(((l.getD (k - 1) default).ts : Int) == 0)))) (v := .pointer (some ⟨bOf ao_v_l, oOf ao_v_l + (k - 1) * 4 + 3, none⟩)) (S' := [(56, .pointer (some ⟨bOf ao_v_l, oOf ao_v_l + (k - 1) * 4, none⟩))]) rfl rfl rfl (wantB_cf _ _) rfl (by decide) (fun hp hS => (hS.conv (t := 56) rfl (cond_t hp)).sub (ts := [56]) rfl) (fun _ => fun _ _ => Ob_c TB_Relay4 rfl) ?_; clear hok a; intro a hok
        refine gq_ob hok (p := (((decide ((k : Int) > 0)) && (((l.getD k default).ts : Int) != 0)) && (!(((l.getD (k - 1) default).ts : Int) == 0)))) (v := .int .u64 ((l.getD (k - 1) default).ts : Int)) (S' := [(57, .pointer (some ⟨bOf ao_v_l, oOf ao_v_l + (k - 1) * 4 + 3, none⟩))]) rfl rfl rfl (wantB_cf _ _) rfl (by decide) (fun hp hS => (hS.conv (t := 57) rfl (cond_t hp)).sub (ts := [57]) rfl) (fun hp => ?_) ?_
        · have hg10 := And.intro (of_decide_eq_true (andT1 (andT1 hp))) (bne_iff_ne.1 (andT2 (andT1 hp)))
          have hg11 := ne_of_beq_false (notT (andT2 hp))
          have hi9 : (k - 1) < l.length := by omega
          have he9 := elt (H.sl 1 rfl) ((k - 1)) (slRep.lt (H.sl 1 rfl) hi9)
          obtain ⟨_, _, _, ⟨u6, rfl, L6, hok_e6⟩, hat6⟩ := id he9
          obtain ⟨ao_u6, cap_u6, rfl, hc_u6, hm_u6⟩ := L6.shape
          unfold maxLen at hm_u6
          replace H := H.addsl L6
          exact fun _ hw => Ob_load TB_Relay4 rfl rfl rfl ((hat6.below hw he9.2.1.2) 3 _ rfl)
        clear hok a; intro a hok
        refine gq_ob hok (p := (((decide ((k : Int) > 0)) && (((l.getD k default).ts : Int) != 0)) && (!(((l.getD (k - 1) default).ts : Int) == 0)))) (v := .slice ao_v_l l.length cap_v_l) (S' := [(0, .slice ao_v_l l.length cap_v_l)]) rfl rfl rfl (wantB_cf _ _) rfl (by decide) (fun hp hS => hS.sub (ts := [0]) rfl) (fun _ => fun _ _ => Ob_c TB_Relay4 rfl) ?_; clear hok a; intro a hok
        refine gq_ob hok (p := (((decide ((k : Int) > 0)) && (((l.getD k default).ts : Int) != 0)) && (!(((l.getD (k - 1) default).ts : Int) == 0)))) (v := .int .i64 (k : Int)) (S' := [(3, .int .i64 (k : Int))]) rfl rfl rfl (wantB_cf _ _) rfl (by decide) (fun hp hS => hS.sub (ts := [3]) rfl) (fun _ => fun _ _ => Ob_c TB_Relay4 rfl) ?_; clear hok a; intro a hok
        refine gq_ob hok (p := (((decide ((k : Int) > 0)) && (((l.getD k default).ts : Int) != 0)) && (!(((l.getD (k - 1) default).ts : Int) == 0)))) (v := .pointer (some ⟨bOf ao_v_l, oOf ao_v_l + k * 4, none⟩)) (S' := [(59, .slice ao_v_l l.length cap_v_l), (60, .int .i64 (k : Int))]) rfl rfl rfl (wantB_cf _ _) rfl (by decide) (fun hp hS => ((hS.conv (t := 59) rfl (cond_t hp)).conv (t := 60) rfl (cond_t hp)).sub (ts := [59, 60]) rfl) (fun hp => ?_) ?_
        · have hg12 := And.intro (of_decide_eq_true (andT1 (andT1 hp))) (bne_iff_ne.1 (andT2 (andT1 hp)))
          have hg13 := ne_of_beq_false (notT (andT2 hp))
          have hi10 : k < l.length := by omega
          have he10 := elt (H.sl 1 rfl) (k) (slRep.lt (H.sl 1 rfl) hi10)
          exact fun _ hw => Ob_idx TB_Relay4 (k) rfl rfl he10.1 rfl rfl rfl hi10
        clear hok a; intro a hok
        refine gq_ob hok (p := (((decide ((k : Int) > 0)) && (((l.getD k default).ts : Int) != 0)) && (!(((l.getD (k - 1) default).ts : Int) == 0)))) (v := .pointer (some ⟨bOf ao_v_l, oOf ao_v_l + k * 4 + 3, none⟩)) (S' := [(61, .pointer (some ⟨bOf ao_v_l, oOf ao_v_l + k * 4, none⟩))]) rfl rfl rfl (wantB_cf _ _) rfl (by decide) (fun hp hS => (hS.conv (t := 61) rfl (cond_t hp)).sub (ts := [61]) rfl) (fun _ => fun _ _ => Ob_c TB_Relay4 rfl) ?_; clear hok a; intro a hok
        refine gq_ob hok (p := (((decide ((k : Int) > 0)) && (((l.getD k default).ts : Int) != 0)) && (!(((l.getD (k - 1) default).ts : Int) == 0)))) (v := .int .u64 ((l.getD k default).ts : Int)) (S' := [(62, .pointer (some ⟨bOf ao_v_l, oOf ao_v_l + k * 4 + 3, none⟩))]) rfl rfl rfl (wantB_cf _ _) rfl (by decide) (fun hp hS => (hS.conv (t := 62) rfl (cond_t hp)).sub (ts := [62]) rfl) (fun hp => ?_) ?_
        · have hg14 := And.intro (of_decide_eq_true (andT1 (andT1 hp))) (bne_iff_ne.1 (andT2 (andT1 hp)))
          have hg15 := ne_of_beq_false (notT (andT2 hp))
          have hi11 : k < l.length := by omega
          have he11 := elt (H.sl 1 rfl) (k) (slRep.lt (H.sl 1 rfl) hi11)
          obtain ⟨_, _, _, ⟨u7, rfl, L7, hok_e7⟩, hat7⟩ := id he11
          obtain ⟨ao_u7, cap_u7, rfl, hc_u7, hm_u7⟩ := L7.shape
          unfold maxLen at hm_u7
          replace H := H.addsl L7
          exact fun _ hw => Ob_load TB_Relay4 rfl rfl rfl ((hat7.below hw he11.2.1.2) 3 _ rfl)
        clear hok a; intro a hok
        refine gq_ob hok (p := (((decide ((k : Int) > 0)) && (((l.getD k default).ts : Int) != 0)) && (!(((l.getD (k - 1) default).ts : Int) == 0)))) (v := .bool (decide (((l.getD (k - 1) default).ts : Int) ≥ ((l.getD k default).ts : Int)))) (S' := [(58, .int .u64 ((l.getD (k - 1) default).ts : Int)), (63, .int .u64 ((l.getD k default).ts : Int))]) rfl rfl rfl (wantB_cf _ _) rfl (by decide) (fun hp hS => ((hS.conv (t := 58) rfl (cond_t hp)).conv (t := 63) rfl (cond_t hp)).sub (ts := [58, 63]) rfl) (fun _ => fun _ _ => Ob_c TB_Relay4 rfl) ?_; clear hok a; intro a hok
        refine gq_ob hok (p := ((decide ((k : Int) > 0)) && (((l.getD k default).ts : Int) != 0))) (v := .bool ((((l.getD (k - 1) default).ts : Int) == 0) || (decide (((l.getD (k - 1) default).ts : Int) ≥ ((l.getD k default).ts : Int))))) (S' := [(52, .bool (((l.getD (k - 1) default).ts : Int) == 0)), (64, cond (((decide ((k : Int) > 0)) && (((l.getD k default).ts : Int) != 0)) && (!(((l.getD (k - 1) default).ts : Int) == 0))) (.bool (decide (((l.getD (k - 1) default).ts : Int) ≥ ((l.getD k default).ts : Int)))) undef)]) rfl rfl rfl (wantB_t _) rfl (by decide) (fun hp hS => (hS.conv (t := 52) rfl (cond_t hp)).sub (ts := [52, 64]) rfl) (fun hp => fun _ _ => Ob_pick rfl rfl rfl rfl (pick_orp _ _ hp)) ?_; clear hok a; intro a hok
        refine q_ob hok (v := .bool (((decide ((k : Int) > 0)) && (((l.getD k default).ts : Int) != 0)) && ((((l.getD (k - 1) default).ts : Int) == 0) || (decide (((l.getD (k - 1) default).ts : Int) ≥ ((l.getD k default).ts : Int)))))) rfl rfl (by decide) rfl (fun _ _ => Ob_pick rfl rfl rfl rfl (pick_and _ _)) ?_; clear hok a; intro a hok
        refine q_end hok [0, 3, 9, 4, 18, 5, 22, 66] rfl ?_; clear hok; intro w5 hb hok
        replace H := H.blw hb
        clear hb
        refine p_then ?_
        refine f_cond hok rfl (fun hc5 => ?_) (fun hc5 => ?_)
        · replace hc5 := And.intro (And.intro (of_decide_eq_true (andT1 (andT1 hc5))) (bne_iff_ne.1 (andT2 (andT1 hc5)))) (orT (andT2 hc5) (fun h => eq_of_beq h) (fun h => of_decide_eq_true h))
          refine wp_seq ?_
          refine f_region hok ?_; clear hok; intro hok
          refine s_runk TB_Relay4 hok 1 rfl rfl ?_; clear hok a; intro a hok
          refine s_end hok [0, 3, 9, 4, 18, 5, 22, 66, 2] rfl ?_; clear hok; intro hok
          refine p_then ?_
          refine wp_ret ?_
          refine p_blk_r ?_
          refine p_then_r ?_
          refine p_then_r ?_
          refine p_blk_r ?_
          refine p_then_r ?_
          refine f_ret hok (run_results1 rfl hok rfl) ?_
          refine ⟨?_, H.below fun _ h => h⟩
          · clear hok H
            exact badIdx_stop hinv0_1 (by omega) (rightAt_ts (by assumption) (fun q hq => hinv1_1 q (by omega)) (by omega)) (by decide)
        · replace hc5 := andF hc5 (fun h => andF h (fun h => of_decide_eq_false h) (fun h => bne_eq_false_iff_eq.1 h)) (fun h => And.intro (ne_of_beq_false (orF1 h)) (of_decide_eq_false (orF2 h)))
          refine wp_skip ?_
          refine p_blk ?_
          refine p_then ?_
          refine f_region hok ?_; clear hok; intro hok
          refine s_runk TB_Relay4 hok 1 rfl rfl ?_; clear hok a; intro a hok
          refine s_ob hok (v := .int .i64 ((k : Int) + 1)) rfl rfl (by decide) rfl (Ob_add rfl rfl rfl (IntWalk.i64_in _ (by omega))) ?_; clear hok a; intro a hok
          refine s_runk TB_Relay4 hok 1 rfl rfl ?_; clear hok a; intro a hok
          refine s_end hok [0, 3, 9, 4, 18, 5, 22, 66] rfl ?_; clear hok; intro hok
          refine p_then ?_
          refine ⟨k + 1, ⟨hok.sub (ts := [0, 3]) rfl, ?_, ?_, I2, H.sub [(1, true)] rfl⟩, by omega⟩
          · clear hok H
            omega
          · clear hok H
            rw [show l.length - (k + 1) = l.length - k - 1 by omega]; exact badIdx_on hinv0_1 (by omega) (rightAt_ok (by assumption) (fun q hq => hinv1_1 q (by omega)) (by omega))
  · replace hc1 := of_decide_eq_false hc1
    refine wp_exit ?_
    refine p_then_x ?_
    refine p_then_x ?_
    refine f_exit_here ?_
    refine p_then ?_
    refine wp_seq ?_
    refine f_region hok ?_; clear hok; intro hok
    refine s_runk TB_Relay4 hok 1 rfl rfl ?_; clear hok a; intro a hok
    refine s_end hok [0, 3, 9, 2] rfl ?_; clear hok; intro hok
    refine p_then ?_
    refine wp_ret ?_
    refine f_ret hok (run_results1 rfl hok rfl) ?_
    refine ⟨?_, H.below fun _ h => h⟩
    · clear hok H
      rw [hinv0_1, show l.length - k = 0 by omega]; rfl


set_option maxHeartbeats 1000000 in
theorem c_notes {A0 : Nat → Prop} {A1 : Nat → Prop} (v_a0 : Value) (a0 : List DNote) (v_b : Value) (b : List DNote) (w : World) (L_v_a0 : slRep RDNote A0 w v_a0 a0) (L_v_b : slRep RDNote A1 w v_b b) :
    Calls Try.prog 15 #[v_a0, v_b] w (Ret fun r w' => r = .bool (sameBy sameN a0 b) ∧ Below w.heap.size w w') := by
  obtain ⟨ao_v_a0, cap_v_a0, rfl, hc_v_a0, hm_v_a0⟩ := L_v_a0.shape
  unfold maxLen at hm_v_a0
  obtain ⟨ao_v_b, cap_v_b, rfl, hc_v_b, hm_v_b⟩ := L_v_b.shape
  unfold maxLen at hm_v_b
  obtain ⟨I, hI, H⟩ : ∃ I : Dm, (∀ k, I k ↔ ((A0 k ∨ A1 k) ∧ k < w.heap.size)) ∧ Hf I NoD w I w [] := ⟨_, fun _ => Iff.rfl, (St.none _ _ fun _ h => h.2).hf⟩
  replace H := H.addsl (L_v_a0.bound.mono (fun k h => (hI k).2 ⟨.inl h.1, h.2⟩) (Keep.refl _ _))
  replace H := H.addsl (L_v_b.bound.mono (fun k h => (hI k).2 ⟨.inr (h.1), h.2⟩) (Keep.refl _ _))
  refine f_enter 33 Try.func15 rfl rfl (Nat.le_of_ble_eq_true rfl) fun a hok => ?_
  replace hok := hok.sub (ts := [0, 1]) rfl
  refine wp_seq ?_
  refine f_region hok ?_; clear hok; intro hok
  refine s_runk TB_Relay4 hok 1 rfl rfl ?_; clear hok a; intro a hok
  refine s_end hok [0, 1, 4] rfl ?_; clear hok; intro hok
  refine p_then ?_
  refine wp_seq ?_
  refine wp_seq ?_
  refine f_region hok ?_; clear hok; intro hok
  refine s_runk TB_Relay4 hok 5 rfl rfl ?_; clear hok a; intro a hok
  refine s_end hok [0, 1, 4, 10] rfl ?_; clear hok; intro hok
  refine p_then ?_
  refine f_cond hok rfl (fun hc1 => ?_) (fun hc1 => ?_)
  · replace hc1 := bne_iff_ne.1 hc1
    refine wp_seq ?_
    refine f_region hok ?_; clear hok; intro hok
    refine s_runk TB_Relay4 hok 1 rfl rfl ?_; clear hok a; intro a hok
    refine s_end hok [0, 1, 4, 10] rfl ?_; clear hok; intro hok
    refine p_then ?_
    refine wp_ret ?_
    refine p_then_r ?_
    refine f_ret hok (run_results1 rfl hok rfl) ?_
    refine ⟨?_, H.below fun _ h => h⟩
    · clear hok H
      rw [sameBy_len (by omega)]
  · replace hc1 := bne_eq_false_iff_eq.1 hc1
    refine wp_skip ?_
    refine p_then ?_
    refine wp_seq ?_
    refine wp_seq ?_
    refine f_region hok ?_; clear hok; intro hok
    refine s_runk TB_Relay4 hok 1 rfl rfl ?_; clear hok a; intro a hok
    refine s_end hok [0, 1, 4, 10, 5] rfl ?_; clear hok; intro hok
    refine p_then ?_
    refine wp_block ?_
    refine f_loop (σ := Nat) (fun k a w' => Sl 33 [(0, .slice ao_v_a0 a0.length cap_v_a0), (1, .slice ao_v_b b.length cap_v_b), (10, .bool ((a0.length : Int) != (b.length : Int))), (5, .int .i64 (k : Int))] a ∧ (k ≤ a0.length ∧ a0.length = b.length) ∧ (sameBy sameN a0 b = sameBy sameN (a0.drop k) (b.drop k)) ∧ ∃ I2, Hf I NoD w I2 w' [SlC RDNote (.slice ao_v_b b.length cap_v_b) b, SlC RDNote (.slice ao_v_a0 a0.length cap_v_a0) a0]) (fun k => a0.length - k) 0 ⟨hok.sub (ts := [0, 1, 10, 5]) rfl, by omega, by rfl, I, H⟩ ?_
    clear hok H
    rintro k a w1 ⟨hok, hinv0_0, hinv0_1, I1, H⟩
    refine wp_seq ?_
    refine wp_seq ?_
    refine f_region hok ?_; clear hok; intro hok
    refine s_runk TB_Relay4 hok 5 rfl rfl ?_; clear hok a; intro a hok
    refine g_ob hok (p := (decide ((k : Int) < (a0.length : Int)))) (v := .int .i64 (k : Int)) (S' := [(5, .int .i64 (k : Int))]) rfl rfl rfl (wantB_t _) rfl (by decide) (fun hp hS => hS.sub (ts := [5]) rfl) (fun _ => Ob_c TB_Relay4 rfl) ?_; clear hok a; intro a hok
    refine g_ob hok (p := (decide ((k : Int) < (a0.length : Int)))) (v := .slice ao_v_b b.length cap_v_b) (S' := [(1, .slice ao_v_b b.length cap_v_b)]) rfl rfl rfl (wantB_t _) rfl (by decide) (fun hp hS => hS.sub (ts := [1]) rfl) (fun _ => Ob_c TB_Relay4 rfl) ?_; clear hok a; intro a hok
    refine g_ob hok (p := (decide ((k : Int) < (a0.length : Int)))) (v := .int .i64 (b.length : Int)) (S' := [(17, .slice ao_v_b b.length cap_v_b)]) rfl rfl rfl (wantB_t _) rfl (by decide) (fun hp hS => (hS.conv (t := 17) rfl (cond_t hp)).sub (ts := [17]) rfl) (fun _ => Ob_c TB_Relay4 rfl) ?_; clear hok a; intro a hok
    refine g_ob hok (p := (decide ((k : Int) < (a0.length : Int)))) (v := .bool (decide ((k : Int) < (b.length : Int)))) (S' := [(16, .int .i64 (k : Int)), (18, .int .i64 (b.length : Int))]) rfl rfl rfl (wantB_t _) rfl (by decide) (fun hp hS => ((hS.conv (t := 16) rfl (cond_t hp)).conv (t := 18) rfl (cond_t hp)).sub (ts := [16, 18]) rfl) (fun _ => Ob_c TB_Relay4 rfl) ?_; clear hok a; intro a hok
    refine s_ob hok (v := .bool ((decide ((k : Int) < (a0.length : Int))) && (decide ((k : Int) < (b.length : Int))))) rfl rfl (by decide) rfl (Ob_pick rfl rfl rfl rfl (pick_and _ _)) ?_; clear hok a; intro a hok
    refine s_end hok [0, 1, 10, 5, 20] rfl ?_; clear hok; intro hok
    refine p_then ?_
    refine f_cond hok rfl (fun hc2 => ?_) (fun hc2 => ?_)
    · replace hc2 := And.intro (of_decide_eq_true (andT1 hc2)) (of_decide_eq_true (andT2 hc2))
      refine wp_skip ?_
      refine p_then ?_
      refine wp_seq ?_
      refine wp_block ?_
      refine wp_seq ?_
      refine f_quietd (by kernel_rfl) (by kernel_rfl) hok ?_; clear hok; intro hok
      refine q_runk TB_Relay4 hok 2 rfl rfl ?_; clear hok a; intro a hok
      have hi1 : k < a0.length := by omega
      have he1 := elt (H.sl 1 rfl) (k) (slRep.lt (H.sl 1 rfl) hi1)
      refine q_ob hok (v := .pointer (some ⟨bOf ao_v_a0, oOf ao_v_a0 + k * 18, none⟩)) rfl rfl (by decide) rfl (fun _ hw => Ob_idx TB_Relay4 (k) rfl rfl he1.1 rfl rfl rfl hi1) ?_; clear hok a; intro a hok
      obtain ⟨_, _, _, ⟨u1, u2, u3, rfl, L1, L2, L3, hok_e1⟩, hat1⟩ := id he1
      obtain ⟨ao_u1, cap_u1, rfl, hc_u1, hm_u1⟩ := L1.shape
      unfold maxLen at hm_u1
      replace H := H.addsl L1
      obtain ⟨ao_u2, cap_u2, rfl, hc_u2, hm_u2⟩ := L2.shape
      unfold maxLen at hm_u2
      replace H := H.addsl L2
      obtain ⟨ao_u3, cap_u3, rfl, hc_u3, hm_u3⟩ := L3.shape
      unfold maxLen at hm_u3
      replace H := H.addsl L3
      refine q_ob hok (v := .agg #[.int .i64 ((a0.getD k default).k), .int .i64 ((a0.getD k default).n), .int .u64 ((a0.getD k default).at_ : Int), .int .i64 ((a0.getD k default).conf.epoch), .slice ao_u1 ((a0.getD k default).conf.members.length) cap_u1, .int .u64 ((a0.getD k default).conf.floor : Int), .slice ao_u2 ((a0.getD k default).legit.length) cap_u2, .int .i64 ((a0.getD k default).entry.batch.client), .int .i64 ((a0.getD k default).entry.batch.req), .slice ao_u3 ((a0.getD k default).entry.batch.ops.length) cap_u3, .int .u64 ((a0.getD k default).entry.ts : Int), .int .i64 ((a0.getD k default).pin.id), .int .u64 ((a0.getD k default).pin.at_ : Int), .int .i64 ((a0.getD k default).pin.left), .int .i64 ((a0.getD k default).said.client), .int .i64 ((a0.getD k default).said.req), .int .i64 ((a0.getD k default).said.e), .int .i64 ((a0.getD k default).said.pin)]) rfl rfl (by decide) rfl (fun _ hw => Ob_loads TB_Relay4 rfl rfl rfl (hat1.below hw he1.2.1.2)) ?_; clear hok a; intro a hok
      refine q_runk TB_Relay4 hok 2 rfl rfl ?_; clear hok a; intro a hok
      have hi2 : k < b.length := by omega
      have he2 := elt (H.sl 3 rfl) (k) (slRep.lt (H.sl 3 rfl) hi2)
      refine q_ob hok (v := .pointer (some ⟨bOf ao_v_b, oOf ao_v_b + k * 18, none⟩)) rfl rfl (by decide) rfl (fun _ hw => Ob_idx TB_Relay4 (k) rfl rfl he2.1 rfl rfl rfl hi2) ?_; clear hok a; intro a hok
      obtain ⟨_, _, _, ⟨u4, u5, u6, rfl, L4, L5, L6, hok_e2⟩, hat2⟩ := id he2
      obtain ⟨ao_u4, cap_u4, rfl, hc_u4, hm_u4⟩ := L4.shape
      unfold maxLen at hm_u4
      replace H := H.addsl L4
      obtain ⟨ao_u5, cap_u5, rfl, hc_u5, hm_u5⟩ := L5.shape
      unfold maxLen at hm_u5
      replace H := H.addsl L5
      obtain ⟨ao_u6, cap_u6, rfl, hc_u6, hm_u6⟩ := L6.shape
      unfold maxLen at hm_u6
      replace H := H.addsl L6
      refine q_ob hok (v := .agg #[.int .i64 ((b.getD k default).k), .int .i64 ((b.getD k default).n), .int .u64 ((b.getD k default).at_ : Int), .int .i64 ((b.getD k default).conf.epoch), .slice ao_u4 ((b.getD k default).conf.members.length) cap_u4, .int .u64 ((b.getD k default).conf.floor : Int), .slice ao_u5 ((b.getD k default).legit.length) cap_u5, .int .i64 ((b.getD k default).entry.batch.client), .int .i64 ((b.getD k default).entry.batch.req), .slice ao_u6 ((b.getD k default).entry.batch.ops.length) cap_u6, .int .u64 ((b.getD k default).entry.ts : Int), .int .i64 ((b.getD k default).pin.id), .int .u64 ((b.getD k default).pin.at_ : Int), .int .i64 ((b.getD k default).pin.left), .int .i64 ((b.getD k default).said.client), .int .i64 ((b.getD k default).said.req), .int .i64 ((b.getD k default).said.e), .int .i64 ((b.getD k default).said.pin)]) rfl rfl (by decide) rfl (fun _ hw => Ob_loads TB_Relay4 rfl rfl rfl (hat2.below hw he2.2.1.2)) ?_; clear hok a; intro a hok
      refine q_call hok (caps := #[]) (v := .bool (sameN (a0.getD k default) (b.getD k default))) fn_45_Relay4 rfl rfl rfl rfl rfl (by decide) rfl rfl (fun _ hw => c_ref10_Same (a0.getD k default) _ _ _ (b.getD k default) _ _ _ _ ((H.blw hw).sl 5 rfl) ((H.blw hw).sl 4 rfl) ((H.blw hw).sl 3 rfl) hok_e1 ((H.blw hw).sl 2 rfl) ((H.blw hw).sl 1 rfl) ((H.blw hw).sl 0 rfl) hok_e2) ?_; clear hok a; intro a hok
      refine q_runk TB_Relay4 hok 1 rfl rfl ?_; clear hok a; intro a hok
      refine q_end hok [0, 1, 10, 5, 20, 32] rfl ?_; clear hok; intro w2 hb hok
      replace H := H.blw hb
      clear hb
      clear he1 hat1 he2 hat2
      refine p_then ?_
      refine f_cond hok rfl (fun hc3 => ?_) (fun hc3 => ?_)
      · replace hc3 := (notT hc3)
        refine wp_seq ?_
        refine f_region hok ?_; clear hok; intro hok
        refine s_runk TB_Relay4 hok 1 rfl rfl ?_; clear hok a; intro a hok
        refine s_end hok [0, 1, 10, 5, 20, 32, 4] rfl ?_; clear hok; intro hok
        refine p_then ?_
        refine wp_ret ?_
        refine p_blk_r ?_
        refine p_then_r ?_
        refine p_then_r ?_
        refine p_blk_r ?_
        refine p_then_r ?_
        refine f_ret hok (run_results1 rfl hok rfl) ?_
        refine ⟨?_, H.below fun _ h => h⟩
        · clear hok H
          have hp : sameN (a0.getD k default) (b.getD k default) = false := (by first | exact decide_eq_false hc3 | exact decide_eq_false (by omega) | exact hc3); rw [hinv0_1, sameBy_step _ _ _ k (by omega) (by omega), hp, Bool.false_and]
      · replace hc3 := (notF hc3)
        refine wp_skip ?_
        refine p_blk ?_
        refine p_then ?_
        refine f_region hok ?_; clear hok; intro hok
        refine s_runk TB_Relay4 hok 1 rfl rfl ?_; clear hok a; intro a hok
        refine s_ob hok (v := .int .i64 ((k : Int) + 1)) rfl rfl (by decide) rfl (Ob_add rfl rfl rfl (IntWalk.i64_in _ (by omega))) ?_; clear hok a; intro a hok
        refine s_runk TB_Relay4 hok 1 rfl rfl ?_; clear hok a; intro a hok
        refine s_end hok [0, 1, 10, 5, 20, 32] rfl ?_; clear hok; intro hok
        refine p_then ?_
        refine ⟨k + 1, ⟨hok.sub (ts := [0, 1, 10, 5]) rfl, ?_, ?_, I1, H.sub [(6, true), (7, true)] rfl⟩, by omega⟩
        · clear hok H
          omega
        · clear hok H
          have hp : sameN (a0.getD k default) (b.getD k default) = true := (by first | exact decide_eq_true hc3 | exact decide_eq_true (by omega) | exact hc3); rw [hinv0_1, sameBy_step _ _ _ k (by omega) (by omega), hp, Bool.true_and]
    · replace hc2 := andF hc2 (fun h => of_decide_eq_false h) (fun h => of_decide_eq_false h)
      refine wp_exit ?_
      refine p_then_x ?_
      refine p_then_x ?_
      refine f_exit_here ?_
      refine p_then ?_
      refine wp_seq ?_
      refine f_region hok ?_; clear hok; intro hok
      refine s_runk TB_Relay4 hok 1 rfl rfl ?_; clear hok a; intro a hok
      refine s_end hok [0, 1, 10, 5, 20, 4] rfl ?_; clear hok; intro hok
      refine p_then ?_
      refine wp_ret ?_
      refine f_ret hok (run_results1 rfl hok rfl) ?_
      refine ⟨?_, H.below fun _ h => h⟩
      · clear hok H
        rw [hinv0_1, sameBy_end _ _ _ k (by omega) (by omega)]


set_option maxHeartbeats 1000000 in
theorem c_awake (w : World) :
    Calls Try.prog 8 #[] w (Ret fun r w' => r = .bool true ∧ Below w.heap.size w w') := by
  obtain ⟨I, hI, H⟩ : ∃ I : Dm, (∀ k, I k → False) ∧ Hf I NoD w I w [] := ⟨NoD, fun _ h => h, (St.none _ _ fun _ h => h.elim).hf⟩
  refine f_enter 45 Try.func8 rfl rfl (Nat.le_of_ble_eq_true rfl) fun a hok => ?_
  replace hok := hok.sub (ts := []) rfl
  refine wp_seq ?_
  refine f_region hok ?_; clear hok; intro hok
  refine s_runk TB_Relay4 hok 1 rfl rfl ?_; clear hok a; intro a hok
  refine s_end hok [0] rfl ?_; clear hok; intro hok
  refine p_then ?_
  refine wp_seq ?_
  refine f_region hok ?_; clear hok; intro hok
  refine s_ob hok (v := .agg #[.int .i64 0, .int .i64 1, .slice none 0 0]) rfl rfl (by decide) rfl (Ob_build (vs := [(1, .int .i64 1)]) rfl rfl (by go_simp <;> rfl)) ?_; clear hok a; intro a hok
  refine s_ob hok (v := .agg #[.int .i64 0, .int .i64 1, .slice none 0 0, .int .u64 3]) rfl rfl (by decide) rfl (Ob_build (vs := [(0, .agg #[.int .i64 0, .int .i64 1, .slice none 0 0]), (1, .int .u64 3)]) rfl rfl (by go_simp <;> rfl)) ?_; clear hok a; intro a hok
  refine s_ob hok (v := .agg #[.int .i64 0, .int .i64 2, .slice none 0 0]) rfl rfl (by decide) rfl (Ob_build (vs := [(1, .int .i64 2)]) rfl rfl (by go_simp <;> rfl)) ?_; clear hok a; intro a hok
  refine s_ob hok (v := .agg #[.int .i64 0, .int .i64 2, .slice none 0 0, .int .u64 5]) rfl rfl (by decide) rfl (Ob_build (vs := [(0, .agg #[.int .i64 0, .int .i64 2, .slice none 0 0]), (1, .int .u64 5)]) rfl rfl (by go_simp <;> rfl)) ?_; clear hok a; intro a hok
  refine h_bslice hok H (vs := [(0, .agg #[.int .i64 0, .int .i64 1, .slice none 0 0, .int .u64 3]), (1, .agg #[.int .i64 0, .int .i64 2, .slice none 0 0, .int .u64 5])]) (cl := [.int .i64 0, .int .i64 1, .slice none 0 0, .int .u64 3, .int .i64 0, .int .i64 2, .slice none 0 0, .int .u64 5]) (e := 57) rfl rfl rfl (by decide) rfl rfl (fun w => run_bslice (z := .agg #[.int .i64 0, .int .i64 0, .slice none 0 0, .int .u64 0]) (m := 4) Try.underlying22 (by kernel_rfl) rfl rfl (by decide) (by simp [Instr.fill, Value.cells]) w) ?_; clear hok a H; intro a w1 b1 H hok
  refine s_runk TB_Relay4 hok 1 rfl rfl ?_; clear hok a; intro a hok
  refine s_end hok [0, 1] rfl ?_; clear hok; intro hok
  refine p_then ?_
  refine wp_seq ?_
  refine f_region hok ?_; clear hok; intro hok
  refine s_runk TB_Relay4 hok 1 rfl rfl ?_; clear hok a; intro a hok
  obtain ⟨I1, hI1, H⟩ := H.frzlit 0 rfl (R := RDEntry) [[.int .i64 0, .int .i64 1, .slice none 0 0, .int .u64 3], [.int .i64 0, .int .i64 2, .slice none 0 0, .int .u64 5]] [(⟨(⟨0, 1, []⟩ : DBatch), 3⟩ : DEntry), (⟨(⟨0, 2, []⟩ : DBatch), 5⟩ : DEntry)] rfl rfl (fun i h1 h2 => by match i, h1, h2 with | 0, _, _ => exact ⟨_, rfl, (slRep.nil _ _ _ _ _ (Nat.zero_le _)), ⟨⟨(show i64ok 0 by unfold i64ok; omega), (show i64ok 1 by unfold i64ok; omega)⟩, (show 3 < 18446744073709551616 by omega)⟩⟩ | 1, _, _ => exact ⟨_, rfl, (slRep.nil _ _ _ _ _ (Nat.zero_le _)), ⟨⟨(show i64ok 0 by unfold i64ok; omega), (show i64ok 2 by unfold i64ok; omega)⟩, (show 5 < 18446744073709551616 by omega)⟩⟩) (by decide) (n := 2) rfl
  dsimp only [List.eraseIdx] at H
  refine s_call hok fn_10_Relay4 (caps := #[]) rfl rfl rfl rfl rfl (by decide) rfl rfl (c_relay_Ack 1 2 2 1 _ ([(⟨(⟨0, 1, []⟩ : DBatch), 3⟩ : DEntry), (⟨(⟨0, 2, []⟩ : DBatch), 5⟩ : DEntry)]) _ (show i64ok 1 by unfold i64ok; omega) (show i64ok 2 by unfold i64ok; omega) (show i64ok 2 by unfold i64ok; omega) (show i64ok 1 by unfold i64ok; omega) (H.sl 0 rfl) (by first | omega | rfl | (simp only [List.length_drop, List.length_take, List.length_append, List.length_cons, List.length_nil]; omega))) ?_; clear hok a; intro _ a w2 hr hok
  obtain ⟨q1, q2, q3, q4, q5, rfl, L1, L2, L3, L4, L5, hx1, hb⟩ := hr
  obtain ⟨ao_q1, cap_q1, rfl, hc_q1, hm_q1⟩ := L1.shape
  unfold maxLen at hm_q1
  obtain ⟨ao_q2, cap_q2, rfl, hc_q2, hm_q2⟩ := L2.shape
  unfold maxLen at hm_q2
  obtain ⟨ao_q3, cap_q3, rfl, hc_q3, hm_q3⟩ := L3.shape
  unfold maxLen at hm_q3
  obtain ⟨ao_q4, cap_q4, rfl, hc_q4, hm_q4⟩ := L4.shape
  unfold maxLen at hm_q4
  obtain ⟨ao_q5, cap_q5, rfl, hc_q5, hm_q5⟩ := L5.shape
  unfold maxLen at hm_q5
  obtain ⟨I2, hI2, H⟩ := H.fresh hb
  replace H := H.addsl (L1.inI hI2 (fun k h => by rcases h with h | h <;> first | exact .inl h | exact .inr h | exact h.elim))
  replace H := H.addsl (L2.inI hI2 (fun k h => by rcases h with h | h <;> first | exact .inl h | exact .inr h | exact h.elim))
  replace H := H.addsl (L3.inI hI2 (fun k h => by rcases h with h | h <;> first | exact .inl h | exact .inr h | exact h.elim))
  replace H := H.addsl (L4.inI hI2 (fun k h => by rcases h with h | h <;> first | exact .inl h | exact .inr h | exact h.elim))
  replace H := H.addsl (L5.inI hI2 (fun k h => by rcases h with h | h <;> first | exact .inl h | exact .inr h | exact h.elim))
  clear hb hI2
  refine h_alloc hok H (cl := [.int .i64 0, .int .i64 0, .int .i64 0, .int .i64 0, .bool false, .int .u64 0, .int .u64 0, .int .i64 0, .int .i64 0, .int .i64 0, .int .i64 0, .string ByteArray.empty, .string ByteArray.empty, .int .i64 0, .slice none 0 0, .int .u64 0, .int .i64 0, .int .i64 0, .slice none 0 0, .slice none 0 0, .slice none 0 0, .slice none 0 0]) (z := .agg #[.int .i64 0, .int .i64 0, .int .i64 0, .int .i64 0, .bool false, .int .u64 0, .int .u64 0, .int .i64 0, .int .i64 0, .int .i64 0, .int .i64 0, .string ByteArray.empty, .string ByteArray.empty, .int .i64 0, .slice none 0 0, .int .u64 0, .int .i64 0, .int .i64 0, .slice none 0 0, .slice none 0 0, .slice none 0 0, .slice none 0 0]) rfl rfl rfl (by decide) rfl (by kernel_rfl) rfl ?_; clear hok a H; intro a w3 b2 H hok
  refine h_store TB_Relay4 hok H 0 (us := [.int .i64 ((ackP 1 2 2 1 ([(⟨(⟨0, 1, []⟩ : DBatch), 3⟩ : DEntry), (⟨(⟨0, 2, []⟩ : DBatch), 5⟩ : DEntry)])).k), .int .i64 ((ackP 1 2 2 1 ([(⟨(⟨0, 1, []⟩ : DBatch), 3⟩ : DEntry), (⟨(⟨0, 2, []⟩ : DBatch), 5⟩ : DEntry)])).epoch), .int .i64 ((ackP 1 2 2 1 ([(⟨(⟨0, 1, []⟩ : DBatch), 3⟩ : DEntry), (⟨(⟨0, 2, []⟩ : DBatch), 5⟩ : DEntry)])).req), .int .i64 ((ackP 1 2 2 1 ([(⟨(⟨0, 1, []⟩ : DBatch), 3⟩ : DEntry), (⟨(⟨0, 2, []⟩ : DBatch), 5⟩ : DEntry)])).serial), .bool ((ackP 1 2 2 1 ([(⟨(⟨0, 1, []⟩ : DBatch), 3⟩ : DEntry), (⟨(⟨0, 2, []⟩ : DBatch), 5⟩ : DEntry)])).flag), .int .u64 ((ackP 1 2 2 1 ([(⟨(⟨0, 1, []⟩ : DBatch), 3⟩ : DEntry), (⟨(⟨0, 2, []⟩ : DBatch), 5⟩ : DEntry)])).at_ : Int), .int .u64 ((ackP 1 2 2 1 ([(⟨(⟨0, 1, []⟩ : DBatch), 3⟩ : DEntry), (⟨(⟨0, 2, []⟩ : DBatch), 5⟩ : DEntry)])).last : Int), .int .i64 ((ackP 1 2 2 1 ([(⟨(⟨0, 1, []⟩ : DBatch), 3⟩ : DEntry), (⟨(⟨0, 2, []⟩ : DBatch), 5⟩ : DEntry)])).n), .int .i64 ((ackP 1 2 2 1 ([(⟨(⟨0, 1, []⟩ : DBatch), 3⟩ : DEntry), (⟨(⟨0, 2, []⟩ : DBatch), 5⟩ : DEntry)])).m), .int .i64 ((ackP 1 2 2 1 ([(⟨(⟨0, 1, []⟩ : DBatch), 3⟩ : DEntry), (⟨(⟨0, 2, []⟩ : DBatch), 5⟩ : DEntry)])).p), .int .i64 ((ackP 1 2 2 1 ([(⟨(⟨0, 1, []⟩ : DBatch), 3⟩ : DEntry), (⟨(⟨0, 2, []⟩ : DBatch), 5⟩ : DEntry)])).e), .string ((ackP 1 2 2 1 ([(⟨(⟨0, 1, []⟩ : DBatch), 3⟩ : DEntry), (⟨(⟨0, 2, []⟩ : DBatch), 5⟩ : DEntry)])).key), .string ((ackP 1 2 2 1 ([(⟨(⟨0, 1, []⟩ : DBatch), 3⟩ : DEntry), (⟨(⟨0, 2, []⟩ : DBatch), 5⟩ : DEntry)])).to_), .int .i64 ((ackP 1 2 2 1 ([(⟨(⟨0, 1, []⟩ : DBatch), 3⟩ : DEntry), (⟨(⟨0, 2, []⟩ : DBatch), 5⟩ : DEntry)])).conf.epoch), .slice ao_q1 (((ackP 1 2 2 1 ([(⟨(⟨0, 1, []⟩ : DBatch), 3⟩ : DEntry), (⟨(⟨0, 2, []⟩ : DBatch), 5⟩ : DEntry)])).conf.members).length) cap_q1, .int .u64 ((ackP 1 2 2 1 ([(⟨(⟨0, 1, []⟩ : DBatch), 3⟩ : DEntry), (⟨(⟨0, 2, []⟩ : DBatch), 5⟩ : DEntry)])).conf.floor : Int), .int .i64 ((ackP 1 2 2 1 ([(⟨(⟨0, 1, []⟩ : DBatch), 3⟩ : DEntry), (⟨(⟨0, 2, []⟩ : DBatch), 5⟩ : DEntry)])).batch.client), .int .i64 ((ackP 1 2 2 1 ([(⟨(⟨0, 1, []⟩ : DBatch), 3⟩ : DEntry), (⟨(⟨0, 2, []⟩ : DBatch), 5⟩ : DEntry)])).batch.req), .slice ao_q2 (((ackP 1 2 2 1 ([(⟨(⟨0, 1, []⟩ : DBatch), 3⟩ : DEntry), (⟨(⟨0, 2, []⟩ : DBatch), 5⟩ : DEntry)])).batch.ops).length) cap_q2, .slice ao_q3 (((ackP 1 2 2 1 ([(⟨(⟨0, 1, []⟩ : DBatch), 3⟩ : DEntry), (⟨(⟨0, 2, []⟩ : DBatch), 5⟩ : DEntry)])).entries).length) cap_q3, .slice ao_q4 (((ackP 1 2 2 1 ([(⟨(⟨0, 1, []⟩ : DBatch), 3⟩ : DEntry), (⟨(⟨0, 2, []⟩ : DBatch), 5⟩ : DEntry)])).stamps).length) cap_q4, .slice ao_q5 (((ackP 1 2 2 1 ([(⟨(⟨0, 1, []⟩ : DBatch), 3⟩ : DEntry), (⟨(⟨0, 2, []⟩ : DBatch), 5⟩ : DEntry)])).pairs).length) cap_q5]) (cl' := [.int .i64 ((ackP 1 2 2 1 ([(⟨(⟨0, 1, []⟩ : DBatch), 3⟩ : DEntry), (⟨(⟨0, 2, []⟩ : DBatch), 5⟩ : DEntry)])).k), .int .i64 ((ackP 1 2 2 1 ([(⟨(⟨0, 1, []⟩ : DBatch), 3⟩ : DEntry), (⟨(⟨0, 2, []⟩ : DBatch), 5⟩ : DEntry)])).epoch), .int .i64 ((ackP 1 2 2 1 ([(⟨(⟨0, 1, []⟩ : DBatch), 3⟩ : DEntry), (⟨(⟨0, 2, []⟩ : DBatch), 5⟩ : DEntry)])).req), .int .i64 ((ackP 1 2 2 1 ([(⟨(⟨0, 1, []⟩ : DBatch), 3⟩ : DEntry), (⟨(⟨0, 2, []⟩ : DBatch), 5⟩ : DEntry)])).serial), .bool ((ackP 1 2 2 1 ([(⟨(⟨0, 1, []⟩ : DBatch), 3⟩ : DEntry), (⟨(⟨0, 2, []⟩ : DBatch), 5⟩ : DEntry)])).flag), .int .u64 ((ackP 1 2 2 1 ([(⟨(⟨0, 1, []⟩ : DBatch), 3⟩ : DEntry), (⟨(⟨0, 2, []⟩ : DBatch), 5⟩ : DEntry)])).at_ : Int), .int .u64 ((ackP 1 2 2 1 ([(⟨(⟨0, 1, []⟩ : DBatch), 3⟩ : DEntry), (⟨(⟨0, 2, []⟩ : DBatch), 5⟩ : DEntry)])).last : Int), .int .i64 ((ackP 1 2 2 1 ([(⟨(⟨0, 1, []⟩ : DBatch), 3⟩ : DEntry), (⟨(⟨0, 2, []⟩ : DBatch), 5⟩ : DEntry)])).n), .int .i64 ((ackP 1 2 2 1 ([(⟨(⟨0, 1, []⟩ : DBatch), 3⟩ : DEntry), (⟨(⟨0, 2, []⟩ : DBatch), 5⟩ : DEntry)])).m), .int .i64 ((ackP 1 2 2 1 ([(⟨(⟨0, 1, []⟩ : DBatch), 3⟩ : DEntry), (⟨(⟨0, 2, []⟩ : DBatch), 5⟩ : DEntry)])).p), .int .i64 ((ackP 1 2 2 1 ([(⟨(⟨0, 1, []⟩ : DBatch), 3⟩ : DEntry), (⟨(⟨0, 2, []⟩ : DBatch), 5⟩ : DEntry)])).e), .string ((ackP 1 2 2 1 ([(⟨(⟨0, 1, []⟩ : DBatch), 3⟩ : DEntry), (⟨(⟨0, 2, []⟩ : DBatch), 5⟩ : DEntry)])).key), .string ((ackP 1 2 2 1 ([(⟨(⟨0, 1, []⟩ : DBatch), 3⟩ : DEntry), (⟨(⟨0, 2, []⟩ : DBatch), 5⟩ : DEntry)])).to_), .int .i64 ((ackP 1 2 2 1 ([(⟨(⟨0, 1, []⟩ : DBatch), 3⟩ : DEntry), (⟨(⟨0, 2, []⟩ : DBatch), 5⟩ : DEntry)])).conf.epoch), .slice ao_q1 (((ackP 1 2 2 1 ([(⟨(⟨0, 1, []⟩ : DBatch), 3⟩ : DEntry), (⟨(⟨0, 2, []⟩ : DBatch), 5⟩ : DEntry)])).conf.members).length) cap_q1, .int .u64 ((ackP 1 2 2 1 ([(⟨(⟨0, 1, []⟩ : DBatch), 3⟩ : DEntry), (⟨(⟨0, 2, []⟩ : DBatch), 5⟩ : DEntry)])).conf.floor : Int), .int .i64 ((ackP 1 2 2 1 ([(⟨(⟨0, 1, []⟩ : DBatch), 3⟩ : DEntry), (⟨(⟨0, 2, []⟩ : DBatch), 5⟩ : DEntry)])).batch.client), .int .i64 ((ackP 1 2 2 1 ([(⟨(⟨0, 1, []⟩ : DBatch), 3⟩ : DEntry), (⟨(⟨0, 2, []⟩ : DBatch), 5⟩ : DEntry)])).batch.req), .slice ao_q2 (((ackP 1 2 2 1 ([(⟨(⟨0, 1, []⟩ : DBatch), 3⟩ : DEntry), (⟨(⟨0, 2, []⟩ : DBatch), 5⟩ : DEntry)])).batch.ops).length) cap_q2, .slice ao_q3 (((ackP 1 2 2 1 ([(⟨(⟨0, 1, []⟩ : DBatch), 3⟩ : DEntry), (⟨(⟨0, 2, []⟩ : DBatch), 5⟩ : DEntry)])).entries).length) cap_q3, .slice ao_q4 (((ackP 1 2 2 1 ([(⟨(⟨0, 1, []⟩ : DBatch), 3⟩ : DEntry), (⟨(⟨0, 2, []⟩ : DBatch), 5⟩ : DEntry)])).stamps).length) cap_q4, .slice ao_q5 (((ackP 1 2 2 1 ([(⟨(⟨0, 1, []⟩ : DBatch), 3⟩ : DEntry), (⟨(⟨0, 2, []⟩ : DBatch), 5⟩ : DEntry)])).pairs).length) cap_q5]) rfl rfl rfl rfl rfl rfl rfl rfl rfl (ones_all rfl) (Nat.le_of_ble_eq_true rfl) (putCells_all rfl) ?_; clear H; intro w4 H
  dsimp only [List.eraseIdx] at H
  refine s_end hok [0, 1, 2] rfl ?_; clear hok; intro hok
  refine p_then ?_
  refine wp_seq ?_
  refine f_region hok ?_; clear hok; intro hok
  refine s_runk TB_Relay4 hok 1 rfl rfl ?_; clear hok a; intro a hok
  refine s_call hok fn_9_Relay4 (caps := #[]) rfl rfl rfl rfl rfl (by decide) rfl rfl (c_relay_Fwd 1 0 1 0 9 _ ([(⟨(⟨0, 1, []⟩ : DBatch), 3⟩ : DEntry), (⟨(⟨0, 2, []⟩ : DBatch), 5⟩ : DEntry)]) 2 _ (show i64ok 1 by unfold i64ok; omega) (show i64ok 0 by unfold i64ok; omega) (show i64ok 1 by unfold i64ok; omega) (show i64ok 0 by unfold i64ok; omega) (show 9 < 18446744073709551616 by omega) (H.sl 6 rfl) (show i64ok 2 by unfold i64ok; omega) (by first | omega | rfl | (simp only [List.length_drop, List.length_take, List.length_append, List.length_cons, List.length_nil]; omega))) ?_; clear hok a; intro _ a w5 hr hok
  obtain ⟨q6, q7, q8, q9, q10, rfl, L6, L7, L8, L9, L10, hx2, hb⟩ := hr
  obtain ⟨ao_q6, cap_q6, rfl, hc_q6, hm_q6⟩ := L6.shape
  unfold maxLen at hm_q6
  obtain ⟨ao_q7, cap_q7, rfl, hc_q7, hm_q7⟩ := L7.shape
  unfold maxLen at hm_q7
  obtain ⟨ao_q8, cap_q8, rfl, hc_q8, hm_q8⟩ := L8.shape
  unfold maxLen at hm_q8
  obtain ⟨ao_q9, cap_q9, rfl, hc_q9, hm_q9⟩ := L9.shape
  unfold maxLen at hm_q9
  obtain ⟨ao_q10, cap_q10, rfl, hc_q10, hm_q10⟩ := L10.shape
  unfold maxLen at hm_q10
  obtain ⟨I3, hI3, H⟩ := H.fresh hb
  replace H := H.addsl (L6.inI hI3 (fun k h => by rcases h with h | h <;> first | exact .inl h | exact .inr h | exact h.elim))
  replace H := H.addsl (L7.inI hI3 (fun k h => by rcases h with h | h <;> first | exact .inl h | exact .inr h | exact h.elim))
  replace H := H.addsl (L8.inI hI3 (fun k h => by rcases h with h | h <;> first | exact .inl h | exact .inr h | exact h.elim))
  replace H := H.addsl (L9.inI hI3 (fun k h => by rcases h with h | h <;> first | exact .inl h | exact .inr h | exact h.elim))
  replace H := H.addsl (L10.inI hI3 (fun k h => by rcases h with h | h <;> first | exact .inl h | exact .inr h | exact h.elim))
  clear hb hI3
  refine h_alloc hok H (cl := [.int .i64 0, .int .i64 0, .int .i64 0, .int .i64 0, .bool false, .int .u64 0, .int .u64 0, .int .i64 0, .int .i64 0, .int .i64 0, .int .i64 0, .string ByteArray.empty, .string ByteArray.empty, .int .i64 0, .slice none 0 0, .int .u64 0, .int .i64 0, .int .i64 0, .slice none 0 0, .slice none 0 0, .slice none 0 0, .slice none 0 0]) (z := .agg #[.int .i64 0, .int .i64 0, .int .i64 0, .int .i64 0, .bool false, .int .u64 0, .int .u64 0, .int .i64 0, .int .i64 0, .int .i64 0, .int .i64 0, .string ByteArray.empty, .string ByteArray.empty, .int .i64 0, .slice none 0 0, .int .u64 0, .int .i64 0, .int .i64 0, .slice none 0 0, .slice none 0 0, .slice none 0 0, .slice none 0 0]) rfl rfl rfl (by decide) rfl (by kernel_rfl) rfl ?_; clear hok a H; intro a w6 b3 H hok
  refine h_store TB_Relay4 hok H 0 (us := [.int .i64 ((fwdP 1 0 1 0 9 ([(⟨(⟨0, 1, []⟩ : DBatch), 3⟩ : DEntry), (⟨(⟨0, 2, []⟩ : DBatch), 5⟩ : DEntry)]) 2).k), .int .i64 ((fwdP 1 0 1 0 9 ([(⟨(⟨0, 1, []⟩ : DBatch), 3⟩ : DEntry), (⟨(⟨0, 2, []⟩ : DBatch), 5⟩ : DEntry)]) 2).epoch), .int .i64 ((fwdP 1 0 1 0 9 ([(⟨(⟨0, 1, []⟩ : DBatch), 3⟩ : DEntry), (⟨(⟨0, 2, []⟩ : DBatch), 5⟩ : DEntry)]) 2).req), .int .i64 ((fwdP 1 0 1 0 9 ([(⟨(⟨0, 1, []⟩ : DBatch), 3⟩ : DEntry), (⟨(⟨0, 2, []⟩ : DBatch), 5⟩ : DEntry)]) 2).serial), .bool ((fwdP 1 0 1 0 9 ([(⟨(⟨0, 1, []⟩ : DBatch), 3⟩ : DEntry), (⟨(⟨0, 2, []⟩ : DBatch), 5⟩ : DEntry)]) 2).flag), .int .u64 ((fwdP 1 0 1 0 9 ([(⟨(⟨0, 1, []⟩ : DBatch), 3⟩ : DEntry), (⟨(⟨0, 2, []⟩ : DBatch), 5⟩ : DEntry)]) 2).at_ : Int), .int .u64 ((fwdP 1 0 1 0 9 ([(⟨(⟨0, 1, []⟩ : DBatch), 3⟩ : DEntry), (⟨(⟨0, 2, []⟩ : DBatch), 5⟩ : DEntry)]) 2).last : Int), .int .i64 ((fwdP 1 0 1 0 9 ([(⟨(⟨0, 1, []⟩ : DBatch), 3⟩ : DEntry), (⟨(⟨0, 2, []⟩ : DBatch), 5⟩ : DEntry)]) 2).n), .int .i64 ((fwdP 1 0 1 0 9 ([(⟨(⟨0, 1, []⟩ : DBatch), 3⟩ : DEntry), (⟨(⟨0, 2, []⟩ : DBatch), 5⟩ : DEntry)]) 2).m), .int .i64 ((fwdP 1 0 1 0 9 ([(⟨(⟨0, 1, []⟩ : DBatch), 3⟩ : DEntry), (⟨(⟨0, 2, []⟩ : DBatch), 5⟩ : DEntry)]) 2).p), .int .i64 ((fwdP 1 0 1 0 9 ([(⟨(⟨0, 1, []⟩ : DBatch), 3⟩ : DEntry), (⟨(⟨0, 2, []⟩ : DBatch), 5⟩ : DEntry)]) 2).e), .string ((fwdP 1 0 1 0 9 ([(⟨(⟨0, 1, []⟩ : DBatch), 3⟩ : DEntry), (⟨(⟨0, 2, []⟩ : DBatch), 5⟩ : DEntry)]) 2).key), .string ((fwdP 1 0 1 0 9 ([(⟨(⟨0, 1, []⟩ : DBatch), 3⟩ : DEntry), (⟨(⟨0, 2, []⟩ : DBatch), 5⟩ : DEntry)]) 2).to_), .int .i64 ((fwdP 1 0 1 0 9 ([(⟨(⟨0, 1, []⟩ : DBatch), 3⟩ : DEntry), (⟨(⟨0, 2, []⟩ : DBatch), 5⟩ : DEntry)]) 2).conf.epoch), .slice ao_q6 (((fwdP 1 0 1 0 9 ([(⟨(⟨0, 1, []⟩ : DBatch), 3⟩ : DEntry), (⟨(⟨0, 2, []⟩ : DBatch), 5⟩ : DEntry)]) 2).conf.members).length) cap_q6, .int .u64 ((fwdP 1 0 1 0 9 ([(⟨(⟨0, 1, []⟩ : DBatch), 3⟩ : DEntry), (⟨(⟨0, 2, []⟩ : DBatch), 5⟩ : DEntry)]) 2).conf.floor : Int), .int .i64 ((fwdP 1 0 1 0 9 ([(⟨(⟨0, 1, []⟩ : DBatch), 3⟩ : DEntry), (⟨(⟨0, 2, []⟩ : DBatch), 5⟩ : DEntry)]) 2).batch.client), .int .i64 ((fwdP 1 0 1 0 9 ([(⟨(⟨0, 1, []⟩ : DBatch), 3⟩ : DEntry), (⟨(⟨0, 2, []⟩ : DBatch), 5⟩ : DEntry)]) 2).batch.req), .slice ao_q7 (((fwdP 1 0 1 0 9 ([(⟨(⟨0, 1, []⟩ : DBatch), 3⟩ : DEntry), (⟨(⟨0, 2, []⟩ : DBatch), 5⟩ : DEntry)]) 2).batch.ops).length) cap_q7, .slice ao_q8 (((fwdP 1 0 1 0 9 ([(⟨(⟨0, 1, []⟩ : DBatch), 3⟩ : DEntry), (⟨(⟨0, 2, []⟩ : DBatch), 5⟩ : DEntry)]) 2).entries).length) cap_q8, .slice ao_q9 (((fwdP 1 0 1 0 9 ([(⟨(⟨0, 1, []⟩ : DBatch), 3⟩ : DEntry), (⟨(⟨0, 2, []⟩ : DBatch), 5⟩ : DEntry)]) 2).stamps).length) cap_q9, .slice ao_q10 (((fwdP 1 0 1 0 9 ([(⟨(⟨0, 1, []⟩ : DBatch), 3⟩ : DEntry), (⟨(⟨0, 2, []⟩ : DBatch), 5⟩ : DEntry)]) 2).pairs).length) cap_q10]) (cl' := [.int .i64 ((fwdP 1 0 1 0 9 ([(⟨(⟨0, 1, []⟩ : DBatch), 3⟩ : DEntry), (⟨(⟨0, 2, []⟩ : DBatch), 5⟩ : DEntry)]) 2).k), .int .i64 ((fwdP 1 0 1 0 9 ([(⟨(⟨0, 1, []⟩ : DBatch), 3⟩ : DEntry), (⟨(⟨0, 2, []⟩ : DBatch), 5⟩ : DEntry)]) 2).epoch), .int .i64 ((fwdP 1 0 1 0 9 ([(⟨(⟨0, 1, []⟩ : DBatch), 3⟩ : DEntry), (⟨(⟨0, 2, []⟩ : DBatch), 5⟩ : DEntry)]) 2).req), .int .i64 ((fwdP 1 0 1 0 9 ([(⟨(⟨0, 1, []⟩ : DBatch), 3⟩ : DEntry), (⟨(⟨0, 2, []⟩ : DBatch), 5⟩ : DEntry)]) 2).serial), .bool ((fwdP 1 0 1 0 9 ([(⟨(⟨0, 1, []⟩ : DBatch), 3⟩ : DEntry), (⟨(⟨0, 2, []⟩ : DBatch), 5⟩ : DEntry)]) 2).flag), .int .u64 ((fwdP 1 0 1 0 9 ([(⟨(⟨0, 1, []⟩ : DBatch), 3⟩ : DEntry), (⟨(⟨0, 2, []⟩ : DBatch), 5⟩ : DEntry)]) 2).at_ : Int), .int .u64 ((fwdP 1 0 1 0 9 ([(⟨(⟨0, 1, []⟩ : DBatch), 3⟩ : DEntry), (⟨(⟨0, 2, []⟩ : DBatch), 5⟩ : DEntry)]) 2).last : Int), .int .i64 ((fwdP 1 0 1 0 9 ([(⟨(⟨0, 1, []⟩ : DBatch), 3⟩ : DEntry), (⟨(⟨0, 2, []⟩ : DBatch), 5⟩ : DEntry)]) 2).n), .int .i64 ((fwdP 1 0 1 0 9 ([(⟨(⟨0, 1, []⟩ : DBatch), 3⟩ : DEntry), (⟨(⟨0, 2, []⟩ : DBatch), 5⟩ : DEntry)]) 2).m), .int .i64 ((fwdP 1 0 1 0 9 ([(⟨(⟨0, 1, []⟩ : DBatch), 3⟩ : DEntry), (⟨(⟨0, 2, []⟩ : DBatch), 5⟩ : DEntry)]) 2).p), .int .i64 ((fwdP 1 0 1 0 9 ([(⟨(⟨0, 1, []⟩ : DBatch), 3⟩ : DEntry), (⟨(⟨0, 2, []⟩ : DBatch), 5⟩ : DEntry)]) 2).e), .string ((fwdP 1 0 1 0 9 ([(⟨(⟨0, 1, []⟩ : DBatch), 3⟩ : DEntry), (⟨(⟨0, 2, []⟩ : DBatch), 5⟩ : DEntry)]) 2).key), .string ((fwdP 1 0 1 0 9 ([(⟨(⟨0, 1, []⟩ : DBatch), 3⟩ : DEntry), (⟨(⟨0, 2, []⟩ : DBatch), 5⟩ : DEntry)]) 2).to_), .int .i64 ((fwdP 1 0 1 0 9 ([(⟨(⟨0, 1, []⟩ : DBatch), 3⟩ : DEntry), (⟨(⟨0, 2, []⟩ : DBatch), 5⟩ : DEntry)]) 2).conf.epoch), .slice ao_q6 (((fwdP 1 0 1 0 9 ([(⟨(⟨0, 1, []⟩ : DBatch), 3⟩ : DEntry), (⟨(⟨0, 2, []⟩ : DBatch), 5⟩ : DEntry)]) 2).conf.members).length) cap_q6, .int .u64 ((fwdP 1 0 1 0 9 ([(⟨(⟨0, 1, []⟩ : DBatch), 3⟩ : DEntry), (⟨(⟨0, 2, []⟩ : DBatch), 5⟩ : DEntry)]) 2).conf.floor : Int), .int .i64 ((fwdP 1 0 1 0 9 ([(⟨(⟨0, 1, []⟩ : DBatch), 3⟩ : DEntry), (⟨(⟨0, 2, []⟩ : DBatch), 5⟩ : DEntry)]) 2).batch.client), .int .i64 ((fwdP 1 0 1 0 9 ([(⟨(⟨0, 1, []⟩ : DBatch), 3⟩ : DEntry), (⟨(⟨0, 2, []⟩ : DBatch), 5⟩ : DEntry)]) 2).batch.req), .slice ao_q7 (((fwdP 1 0 1 0 9 ([(⟨(⟨0, 1, []⟩ : DBatch), 3⟩ : DEntry), (⟨(⟨0, 2, []⟩ : DBatch), 5⟩ : DEntry)]) 2).batch.ops).length) cap_q7, .slice ao_q8 (((fwdP 1 0 1 0 9 ([(⟨(⟨0, 1, []⟩ : DBatch), 3⟩ : DEntry), (⟨(⟨0, 2, []⟩ : DBatch), 5⟩ : DEntry)]) 2).entries).length) cap_q8, .slice ao_q9 (((fwdP 1 0 1 0 9 ([(⟨(⟨0, 1, []⟩ : DBatch), 3⟩ : DEntry), (⟨(⟨0, 2, []⟩ : DBatch), 5⟩ : DEntry)]) 2).stamps).length) cap_q9, .slice ao_q10 (((fwdP 1 0 1 0 9 ([(⟨(⟨0, 1, []⟩ : DBatch), 3⟩ : DEntry), (⟨(⟨0, 2, []⟩ : DBatch), 5⟩ : DEntry)]) 2).pairs).length) cap_q10]) rfl rfl rfl rfl rfl rfl rfl rfl rfl (ones_all rfl) (Nat.le_of_ble_eq_true rfl) (putCells_all rfl) ?_; clear H; intro w7 H
  dsimp only [List.eraseIdx] at H
  refine s_end hok [0, 1, 2, 3] rfl ?_; clear hok; intro hok
  refine p_then ?_
  refine wp_seq ?_
  refine f_region hok ?_; clear hok; intro hok
  refine s_runk TB_Relay4 hok 1 rfl rfl ?_; clear hok a; intro a hok
  refine s_ob hok (v := .int .i64 ((ackP 1 2 2 1 ([(⟨(⟨0, 1, []⟩ : DBatch), 3⟩ : DEntry), (⟨(⟨0, 2, []⟩ : DBatch), 5⟩ : DEntry)])).k)) rfl rfl (by decide) rfl (Ob_load TB_Relay4 rfl rfl rfl ((H.bx 6 rfl).cell 0 rfl)) ?_; clear hok a; intro a hok
  refine s_runk TB_Relay4 hok 2 rfl rfl ?_; clear hok a; intro a hok
  refine g_ob hok (p := (((ackP 1 2 2 1 ([(⟨(⟨0, 1, []⟩ : DBatch), 3⟩ : DEntry), (⟨(⟨0, 2, []⟩ : DBatch), 5⟩ : DEntry)])).k) == 4)) (v := .pointer (some ⟨b2, 20, none⟩)) (S' := [(2, .pointer (some ⟨b2, 0, none⟩))]) rfl rfl rfl (wantB_t _) rfl (by decide) (fun hp hS => hS.sub (ts := [2]) rfl) (fun _ => Ob_c TB_Relay4 rfl) ?_; clear hok a; intro a hok
  refine g_ob hok (p := (((ackP 1 2 2 1 ([(⟨(⟨0, 1, []⟩ : DBatch), 3⟩ : DEntry), (⟨(⟨0, 2, []⟩ : DBatch), 5⟩ : DEntry)])).k) == 4)) (v := .slice ao_q4 (((ackP 1 2 2 1 ([(⟨(⟨0, 1, []⟩ : DBatch), 3⟩ : DEntry), (⟨(⟨0, 2, []⟩ : DBatch), 5⟩ : DEntry)])).stamps).length) cap_q4) (S' := [(17, .pointer (some ⟨b2, 20, none⟩))]) rfl rfl rfl (wantB_t _) rfl (by decide) (fun hp hS => (hS.conv (t := 17) rfl (cond_t hp)).sub (ts := [17]) rfl) (fun hp => ?_) ?_
  · have hg1 := eq_of_beq hp
    exact Ob_load TB_Relay4 rfl rfl rfl ((H.bx 6 rfl).cell 20 rfl)
  clear hok a; intro a hok
  refine g_ob hok (p := (((ackP 1 2 2 1 ([(⟨(⟨0, 1, []⟩ : DBatch), 3⟩ : DEntry), (⟨(⟨0, 2, []⟩ : DBatch), 5⟩ : DEntry)])).k) == 4)) (v := .int .i64 ((((ackP 1 2 2 1 ([(⟨(⟨0, 1, []⟩ : DBatch), 3⟩ : DEntry), (⟨(⟨0, 2, []⟩ : DBatch), 5⟩ : DEntry)])).stamps).length : Nat) : Int)) (S' := [(18, .slice ao_q4 (((ackP 1 2 2 1 ([(⟨(⟨0, 1, []⟩ : DBatch), 3⟩ : DEntry), (⟨(⟨0, 2, []⟩ : DBatch), 5⟩ : DEntry)])).stamps).length) cap_q4)]) rfl rfl rfl (wantB_t _) rfl (by decide) (fun hp hS => (hS.conv (t := 18) rfl (cond_t hp)).sub (ts := [18]) rfl) (fun _ => Ob_c TB_Relay4 rfl) ?_; clear hok a; intro a hok
  refine g_ob hok (p := (((ackP 1 2 2 1 ([(⟨(⟨0, 1, []⟩ : DBatch), 3⟩ : DEntry), (⟨(⟨0, 2, []⟩ : DBatch), 5⟩ : DEntry)])).k) == 4)) (v := .bool (((((ackP 1 2 2 1 ([(⟨(⟨0, 1, []⟩ : DBatch), 3⟩ : DEntry), (⟨(⟨0, 2, []⟩ : DBatch), 5⟩ : DEntry)])).stamps).length : Nat) : Int) == 1)) (S' := [(19, .int .i64 ((((ackP 1 2 2 1 ([(⟨(⟨0, 1, []⟩ : DBatch), 3⟩ : DEntry), (⟨(⟨0, 2, []⟩ : DBatch), 5⟩ : DEntry)])).stamps).length : Nat) : Int))]) rfl rfl rfl (wantB_t _) rfl (by decide) (fun hp hS => (hS.conv (t := 19) rfl (cond_t hp)).sub (ts := [19]) rfl) (fun _ => Ob_c TB_Relay4 rfl) ?_; clear hok a; intro a hok
  refine s_ob hok (v := .bool ((((ackP 1 2 2 1 ([(⟨(⟨0, 1, []⟩ : DBatch), 3⟩ : DEntry), (⟨(⟨0, 2, []⟩ : DBatch), 5⟩ : DEntry)])).k) == 4) && (((((ackP 1 2 2 1 ([(⟨(⟨0, 1, []⟩ : DBatch), 3⟩ : DEntry), (⟨(⟨0, 2, []⟩ : DBatch), 5⟩ : DEntry)])).stamps).length : Nat) : Int) == 1))) rfl rfl (by decide) rfl (Ob_pick rfl rfl rfl rfl (pick_and _ _)) ?_; clear hok a; intro a hok
  refine s_runk TB_Relay4 hok 1 rfl rfl ?_; clear hok a; intro a hok
  refine g_ob hok (p := ((((ackP 1 2 2 1 ([(⟨(⟨0, 1, []⟩ : DBatch), 3⟩ : DEntry), (⟨(⟨0, 2, []⟩ : DBatch), 5⟩ : DEntry)])).k) == 4) && (((((ackP 1 2 2 1 ([(⟨(⟨0, 1, []⟩ : DBatch), 3⟩ : DEntry), (⟨(⟨0, 2, []⟩ : DBatch), 5⟩ : DEntry)])).stamps).length : Nat) : Int) == 1))) (v := .pointer (some ⟨b2, 20, none⟩)) (S' := [(2, .pointer (some ⟨b2, 0, none⟩))]) rfl rfl rfl (wantB_t _) rfl (by decide) (fun hp hS => hS.sub (ts := [2]) rfl) (fun _ => Ob_c TB_Relay4 rfl) ?_; clear hok a; intro a hok
  refine g_ob hok (p := ((((ackP 1 2 2 1 ([(⟨(⟨0, 1, []⟩ : DBatch), 3⟩ : DEntry), (⟨(⟨0, 2, []⟩ : DBatch), 5⟩ : DEntry)])).k) == 4) && (((((ackP 1 2 2 1 ([(⟨(⟨0, 1, []⟩ : DBatch), 3⟩ : DEntry), (⟨(⟨0, 2, []⟩ : DBatch), 5⟩ : DEntry)])).stamps).length : Nat) : Int) == 1))) (v := .slice ao_q4 (((ackP 1 2 2 1 ([(⟨(⟨0, 1, []⟩ : DBatch), 3⟩ : DEntry), (⟨(⟨0, 2, []⟩ : DBatch), 5⟩ : DEntry)])).stamps).length) cap_q4) (S' := [(23, .pointer (some ⟨b2, 20, none⟩))]) rfl rfl rfl (wantB_t _) rfl (by decide) (fun hp hS => (hS.conv (t := 23) rfl (cond_t hp)).sub (ts := [23]) rfl) (fun hp => ?_) ?_
  · have hg2 := And.intro (eq_of_beq (andT1 hp)) (eq_of_beq (andT2 hp))
    exact Ob_load TB_Relay4 rfl rfl rfl ((H.bx 6 rfl).cell 20 rfl)
  clear hok a; intro a hok
  refine g_ob hok (p := ((((ackP 1 2 2 1 ([(⟨(⟨0, 1, []⟩ : DBatch), 3⟩ : DEntry), (⟨(⟨0, 2, []⟩ : DBatch), 5⟩ : DEntry)])).k) == 4) && (((((ackP 1 2 2 1 ([(⟨(⟨0, 1, []⟩ : DBatch), 3⟩ : DEntry), (⟨(⟨0, 2, []⟩ : DBatch), 5⟩ : DEntry)])).stamps).length : Nat) : Int) == 1))) (v := .pointer (some ⟨bOf ao_q4, oOf ao_q4 + 0 * 1, none⟩)) (S' := [(24, .slice ao_q4 (((ackP 1 2 2 1 ([(⟨(⟨0, 1, []⟩ : DBatch), 3⟩ : DEntry), (⟨(⟨0, 2, []⟩ : DBatch), 5⟩ : DEntry)])).stamps).length) cap_q4)]) rfl rfl rfl (wantB_t _) rfl (by decide) (fun hp hS => (hS.conv (t := 24) rfl (cond_t hp)).sub (ts := [24]) rfl) (fun hp => ?_) ?_
  · have hg3 := And.intro (eq_of_beq (andT1 hp)) (eq_of_beq (andT2 hp))
    have hi1 : 0 < ((ackP 1 2 2 1 ([(⟨(⟨0, 1, []⟩ : DBatch), 3⟩ : DEntry), (⟨(⟨0, 2, []⟩ : DBatch), 5⟩ : DEntry)])).stamps).length := by omega
    have he1 := elt (H.sl 8 rfl) (0) (slRep.lt (H.sl 8 rfl) hi1)
    exact Ob_idx TB_Relay4 (0) rfl rfl he1.1 rfl rfl rfl hi1
  clear hok a; intro a hok
  refine g_ob hok (p := ((((ackP 1 2 2 1 ([(⟨(⟨0, 1, []⟩ : DBatch), 3⟩ : DEntry), (⟨(⟨0, 2, []⟩ : DBatch), 5⟩ : DEntry)])).k) == 4) && (((((ackP 1 2 2 1 ([(⟨(⟨0, 1, []⟩ : DBatch), 3⟩ : DEntry), (⟨(⟨0, 2, []⟩ : DBatch), 5⟩ : DEntry)])).stamps).length : Nat) : Int) == 1))) (v := .int .u64 ((((ackP 1 2 2 1 ([(⟨(⟨0, 1, []⟩ : DBatch), 3⟩ : DEntry), (⟨(⟨0, 2, []⟩ : DBatch), 5⟩ : DEntry)])).stamps).getD 0 default) : Int)) (S' := [(25, .pointer (some ⟨bOf ao_q4, oOf ao_q4 + 0 * 1, none⟩))]) rfl rfl rfl (wantB_t _) rfl (by decide) (fun hp hS => (hS.conv (t := 25) rfl (cond_t hp)).sub (ts := [25]) rfl) (fun hp => ?_) ?_
  · have hg4 := And.intro (eq_of_beq (andT1 hp)) (eq_of_beq (andT2 hp))
    have hi2 : 0 < ((ackP 1 2 2 1 ([(⟨(⟨0, 1, []⟩ : DBatch), 3⟩ : DEntry), (⟨(⟨0, 2, []⟩ : DBatch), 5⟩ : DEntry)])).stamps).length := by omega
    have he2 := elt (H.sl 8 rfl) (0) (slRep.lt (H.sl 8 rfl) hi2)
    obtain ⟨_, _, _, ⟨rfl, hok_e1⟩, hat1⟩ := id he2
    exact Ob_load TB_Relay4 rfl rfl rfl (hat1 0 _ rfl)
  clear hok a; intro a hok
  refine g_ob hok (p := ((((ackP 1 2 2 1 ([(⟨(⟨0, 1, []⟩ : DBatch), 3⟩ : DEntry), (⟨(⟨0, 2, []⟩ : DBatch), 5⟩ : DEntry)])).k) == 4) && (((((ackP 1 2 2 1 ([(⟨(⟨0, 1, []⟩ : DBatch), 3⟩ : DEntry), (⟨(⟨0, 2, []⟩ : DBatch), 5⟩ : DEntry)])).stamps).length : Nat) : Int) == 1))) (v := .bool (((((ackP 1 2 2 1 ([(⟨(⟨0, 1, []⟩ : DBatch), 3⟩ : DEntry), (⟨(⟨0, 2, []⟩ : DBatch), 5⟩ : DEntry)])).stamps).getD 0 default) : Int) == 5)) (S' := [(26, .int .u64 ((((ackP 1 2 2 1 ([(⟨(⟨0, 1, []⟩ : DBatch), 3⟩ : DEntry), (⟨(⟨0, 2, []⟩ : DBatch), 5⟩ : DEntry)])).stamps).getD 0 default) : Int))]) rfl rfl rfl (wantB_t _) rfl (by decide) (fun hp hS => (hS.conv (t := 26) rfl (cond_t hp)).sub (ts := [26]) rfl) (fun _ => Ob_c TB_Relay4 rfl) ?_; clear hok a; intro a hok
  refine s_ob hok (v := .bool (((((ackP 1 2 2 1 ([(⟨(⟨0, 1, []⟩ : DBatch), 3⟩ : DEntry), (⟨(⟨0, 2, []⟩ : DBatch), 5⟩ : DEntry)])).k) == 4) && (((((ackP 1 2 2 1 ([(⟨(⟨0, 1, []⟩ : DBatch), 3⟩ : DEntry), (⟨(⟨0, 2, []⟩ : DBatch), 5⟩ : DEntry)])).stamps).length : Nat) : Int) == 1)) && (((((ackP 1 2 2 1 ([(⟨(⟨0, 1, []⟩ : DBatch), 3⟩ : DEntry), (⟨(⟨0, 2, []⟩ : DBatch), 5⟩ : DEntry)])).stamps).getD 0 default) : Int) == 5))) rfl rfl (by decide) rfl (Ob_pick rfl rfl rfl rfl (pick_and _ _)) ?_; clear hok a; intro a hok
  refine s_runk TB_Relay4 hok 1 rfl rfl ?_; clear hok a; intro a hok
  refine g_ob hok (p := (((((ackP 1 2 2 1 ([(⟨(⟨0, 1, []⟩ : DBatch), 3⟩ : DEntry), (⟨(⟨0, 2, []⟩ : DBatch), 5⟩ : DEntry)])).k) == 4) && (((((ackP 1 2 2 1 ([(⟨(⟨0, 1, []⟩ : DBatch), 3⟩ : DEntry), (⟨(⟨0, 2, []⟩ : DBatch), 5⟩ : DEntry)])).stamps).length : Nat) : Int) == 1)) && (((((ackP 1 2 2 1 ([(⟨(⟨0, 1, []⟩ : DBatch), 3⟩ : DEntry), (⟨(⟨0, 2, []⟩ : DBatch), 5⟩ : DEntry)])).stamps).getD 0 default) : Int) == 5))) (v := .pointer (some ⟨b3, 19, none⟩)) (S' := [(3, .pointer (some ⟨b3, 0, none⟩))]) rfl rfl rfl (wantB_t _) rfl (by decide) (fun hp hS => hS.sub (ts := [3]) rfl) (fun _ => Ob_c TB_Relay4 rfl) ?_; clear hok a; intro a hok
  refine g_ob hok (p := (((((ackP 1 2 2 1 ([(⟨(⟨0, 1, []⟩ : DBatch), 3⟩ : DEntry), (⟨(⟨0, 2, []⟩ : DBatch), 5⟩ : DEntry)])).k) == 4) && (((((ackP 1 2 2 1 ([(⟨(⟨0, 1, []⟩ : DBatch), 3⟩ : DEntry), (⟨(⟨0, 2, []⟩ : DBatch), 5⟩ : DEntry)])).stamps).length : Nat) : Int) == 1)) && (((((ackP 1 2 2 1 ([(⟨(⟨0, 1, []⟩ : DBatch), 3⟩ : DEntry), (⟨(⟨0, 2, []⟩ : DBatch), 5⟩ : DEntry)])).stamps).getD 0 default) : Int) == 5))) (v := .slice ao_q8 (((fwdP 1 0 1 0 9 ([(⟨(⟨0, 1, []⟩ : DBatch), 3⟩ : DEntry), (⟨(⟨0, 2, []⟩ : DBatch), 5⟩ : DEntry)]) 2).entries).length) cap_q8) (S' := [(30, .pointer (some ⟨b3, 19, none⟩))]) rfl rfl rfl (wantB_t _) rfl (by decide) (fun hp hS => (hS.conv (t := 30) rfl (cond_t hp)).sub (ts := [30]) rfl) (fun hp => ?_) ?_
  · have hg5 := And.intro (And.intro (eq_of_beq (andT1 (andT1 hp))) (eq_of_beq (andT2 (andT1 hp)))) (eq_of_beq (andT2 hp))
    exact Ob_load TB_Relay4 rfl rfl rfl ((H.bx 0 rfl).cell 19 rfl)
  clear hok a; intro a hok
  refine g_ob hok (p := (((((ackP 1 2 2 1 ([(⟨(⟨0, 1, []⟩ : DBatch), 3⟩ : DEntry), (⟨(⟨0, 2, []⟩ : DBatch), 5⟩ : DEntry)])).k) == 4) && (((((ackP 1 2 2 1 ([(⟨(⟨0, 1, []⟩ : DBatch), 3⟩ : DEntry), (⟨(⟨0, 2, []⟩ : DBatch), 5⟩ : DEntry)])).stamps).length : Nat) : Int) == 1)) && (((((ackP 1 2 2 1 ([(⟨(⟨0, 1, []⟩ : DBatch), 3⟩ : DEntry), (⟨(⟨0, 2, []⟩ : DBatch), 5⟩ : DEntry)])).stamps).getD 0 default) : Int) == 5))) (v := .int .i64 ((((fwdP 1 0 1 0 9 ([(⟨(⟨0, 1, []⟩ : DBatch), 3⟩ : DEntry), (⟨(⟨0, 2, []⟩ : DBatch), 5⟩ : DEntry)]) 2).entries).length : Nat) : Int)) (S' := [(31, .slice ao_q8 (((fwdP 1 0 1 0 9 ([(⟨(⟨0, 1, []⟩ : DBatch), 3⟩ : DEntry), (⟨(⟨0, 2, []⟩ : DBatch), 5⟩ : DEntry)]) 2).entries).length) cap_q8)]) rfl rfl rfl (wantB_t _) rfl (by decide) (fun hp hS => (hS.conv (t := 31) rfl (cond_t hp)).sub (ts := [31]) rfl) (fun _ => Ob_c TB_Relay4 rfl) ?_; clear hok a; intro a hok
  refine g_ob hok (p := (((((ackP 1 2 2 1 ([(⟨(⟨0, 1, []⟩ : DBatch), 3⟩ : DEntry), (⟨(⟨0, 2, []⟩ : DBatch), 5⟩ : DEntry)])).k) == 4) && (((((ackP 1 2 2 1 ([(⟨(⟨0, 1, []⟩ : DBatch), 3⟩ : DEntry), (⟨(⟨0, 2, []⟩ : DBatch), 5⟩ : DEntry)])).stamps).length : Nat) : Int) == 1)) && (((((ackP 1 2 2 1 ([(⟨(⟨0, 1, []⟩ : DBatch), 3⟩ : DEntry), (⟨(⟨0, 2, []⟩ : DBatch), 5⟩ : DEntry)])).stamps).getD 0 default) : Int) == 5))) (v := .bool (((((fwdP 1 0 1 0 9 ([(⟨(⟨0, 1, []⟩ : DBatch), 3⟩ : DEntry), (⟨(⟨0, 2, []⟩ : DBatch), 5⟩ : DEntry)]) 2).entries).length : Nat) : Int) == 1)) (S' := [(32, .int .i64 ((((fwdP 1 0 1 0 9 ([(⟨(⟨0, 1, []⟩ : DBatch), 3⟩ : DEntry), (⟨(⟨0, 2, []⟩ : DBatch), 5⟩ : DEntry)]) 2).entries).length : Nat) : Int))]) rfl rfl rfl (wantB_t _) rfl (by decide) (fun hp hS => (hS.conv (t := 32) rfl (cond_t hp)).sub (ts := [32]) rfl) (fun _ => Ob_c TB_Relay4 rfl) ?_; clear hok a; intro a hok
  refine s_ob hok (v := .bool ((((((ackP 1 2 2 1 ([(⟨(⟨0, 1, []⟩ : DBatch), 3⟩ : DEntry), (⟨(⟨0, 2, []⟩ : DBatch), 5⟩ : DEntry)])).k) == 4) && (((((ackP 1 2 2 1 ([(⟨(⟨0, 1, []⟩ : DBatch), 3⟩ : DEntry), (⟨(⟨0, 2, []⟩ : DBatch), 5⟩ : DEntry)])).stamps).length : Nat) : Int) == 1)) && (((((ackP 1 2 2 1 ([(⟨(⟨0, 1, []⟩ : DBatch), 3⟩ : DEntry), (⟨(⟨0, 2, []⟩ : DBatch), 5⟩ : DEntry)])).stamps).getD 0 default) : Int) == 5)) && (((((fwdP 1 0 1 0 9 ([(⟨(⟨0, 1, []⟩ : DBatch), 3⟩ : DEntry), (⟨(⟨0, 2, []⟩ : DBatch), 5⟩ : DEntry)]) 2).entries).length : Nat) : Int) == 1))) rfl rfl (by decide) rfl (Ob_pick rfl rfl rfl rfl (pick_and _ _)) ?_; clear hok a; intro a hok
  refine s_runk TB_Relay4 hok 1 rfl rfl ?_; clear hok a; intro a hok
  refine g_ob hok (p := ((((((ackP 1 2 2 1 ([(⟨(⟨0, 1, []⟩ : DBatch), 3⟩ : DEntry), (⟨(⟨0, 2, []⟩ : DBatch), 5⟩ : DEntry)])).k) == 4) && (((((ackP 1 2 2 1 ([(⟨(⟨0, 1, []⟩ : DBatch), 3⟩ : DEntry), (⟨(⟨0, 2, []⟩ : DBatch), 5⟩ : DEntry)])).stamps).length : Nat) : Int) == 1)) && (((((ackP 1 2 2 1 ([(⟨(⟨0, 1, []⟩ : DBatch), 3⟩ : DEntry), (⟨(⟨0, 2, []⟩ : DBatch), 5⟩ : DEntry)])).stamps).getD 0 default) : Int) == 5)) && (((((fwdP 1 0 1 0 9 ([(⟨(⟨0, 1, []⟩ : DBatch), 3⟩ : DEntry), (⟨(⟨0, 2, []⟩ : DBatch), 5⟩ : DEntry)]) 2).entries).length : Nat) : Int) == 1))) (v := .pointer (some ⟨b3, 9, none⟩)) (S' := [(3, .pointer (some ⟨b3, 0, none⟩))]) rfl rfl rfl (wantB_t _) rfl (by decide) (fun hp hS => hS.sub (ts := [3]) rfl) (fun _ => Ob_c TB_Relay4 rfl) ?_; clear hok a; intro a hok
  refine g_ob hok (p := ((((((ackP 1 2 2 1 ([(⟨(⟨0, 1, []⟩ : DBatch), 3⟩ : DEntry), (⟨(⟨0, 2, []⟩ : DBatch), 5⟩ : DEntry)])).k) == 4) && (((((ackP 1 2 2 1 ([(⟨(⟨0, 1, []⟩ : DBatch), 3⟩ : DEntry), (⟨(⟨0, 2, []⟩ : DBatch), 5⟩ : DEntry)])).stamps).length : Nat) : Int) == 1)) && (((((ackP 1 2 2 1 ([(⟨(⟨0, 1, []⟩ : DBatch), 3⟩ : DEntry), (⟨(⟨0, 2, []⟩ : DBatch), 5⟩ : DEntry)])).stamps).getD 0 default) : Int) == 5)) && (((((fwdP 1 0 1 0 9 ([(⟨(⟨0, 1, []⟩ : DBatch), 3⟩ : DEntry), (⟨(⟨0, 2, []⟩ : DBatch), 5⟩ : DEntry)]) 2).entries).length : Nat) : Int) == 1))) (v := .int .i64 ((fwdP 1 0 1 0 9 ([(⟨(⟨0, 1, []⟩ : DBatch), 3⟩ : DEntry), (⟨(⟨0, 2, []⟩ : DBatch), 5⟩ : DEntry)]) 2).p)) (S' := [(36, .pointer (some ⟨b3, 9, none⟩))]) rfl rfl rfl (wantB_t _) rfl (by decide) (fun hp hS => (hS.conv (t := 36) rfl (cond_t hp)).sub (ts := [36]) rfl) (fun hp => ?_) ?_
  · have hg6 := And.intro (And.intro (And.intro (eq_of_beq (andT1 (andT1 (andT1 hp)))) (eq_of_beq (andT2 (andT1 (andT1 hp))))) (eq_of_beq (andT2 (andT1 hp)))) (eq_of_beq (andT2 hp))
    exact Ob_load TB_Relay4 rfl rfl rfl ((H.bx 0 rfl).cell 9 rfl)
  clear hok a; intro a hok
  refine g_ob hok (p := ((((((ackP 1 2 2 1 ([(⟨(⟨0, 1, []⟩ : DBatch), 3⟩ : DEntry), (⟨(⟨0, 2, []⟩ : DBatch), 5⟩ : DEntry)])).k) == 4) && (((((ackP 1 2 2 1 ([(⟨(⟨0, 1, []⟩ : DBatch), 3⟩ : DEntry), (⟨(⟨0, 2, []⟩ : DBatch), 5⟩ : DEntry)])).stamps).length : Nat) : Int) == 1)) && (((((ackP 1 2 2 1 ([(⟨(⟨0, 1, []⟩ : DBatch), 3⟩ : DEntry), (⟨(⟨0, 2, []⟩ : DBatch), 5⟩ : DEntry)])).stamps).getD 0 default) : Int) == 5)) && (((((fwdP 1 0 1 0 9 ([(⟨(⟨0, 1, []⟩ : DBatch), 3⟩ : DEntry), (⟨(⟨0, 2, []⟩ : DBatch), 5⟩ : DEntry)]) 2).entries).length : Nat) : Int) == 1))) (v := .bool (((fwdP 1 0 1 0 9 ([(⟨(⟨0, 1, []⟩ : DBatch), 3⟩ : DEntry), (⟨(⟨0, 2, []⟩ : DBatch), 5⟩ : DEntry)]) 2).p) == 2)) (S' := [(37, .int .i64 ((fwdP 1 0 1 0 9 ([(⟨(⟨0, 1, []⟩ : DBatch), 3⟩ : DEntry), (⟨(⟨0, 2, []⟩ : DBatch), 5⟩ : DEntry)]) 2).p))]) rfl rfl rfl (wantB_t _) rfl (by decide) (fun hp hS => (hS.conv (t := 37) rfl (cond_t hp)).sub (ts := [37]) rfl) (fun _ => Ob_c TB_Relay4 rfl) ?_; clear hok a; intro a hok
  refine s_ob hok (v := .bool (((((((ackP 1 2 2 1 ([(⟨(⟨0, 1, []⟩ : DBatch), 3⟩ : DEntry), (⟨(⟨0, 2, []⟩ : DBatch), 5⟩ : DEntry)])).k) == 4) && (((((ackP 1 2 2 1 ([(⟨(⟨0, 1, []⟩ : DBatch), 3⟩ : DEntry), (⟨(⟨0, 2, []⟩ : DBatch), 5⟩ : DEntry)])).stamps).length : Nat) : Int) == 1)) && (((((ackP 1 2 2 1 ([(⟨(⟨0, 1, []⟩ : DBatch), 3⟩ : DEntry), (⟨(⟨0, 2, []⟩ : DBatch), 5⟩ : DEntry)])).stamps).getD 0 default) : Int) == 5)) && (((((fwdP 1 0 1 0 9 ([(⟨(⟨0, 1, []⟩ : DBatch), 3⟩ : DEntry), (⟨(⟨0, 2, []⟩ : DBatch), 5⟩ : DEntry)]) 2).entries).length : Nat) : Int) == 1)) && (((fwdP 1 0 1 0 9 ([(⟨(⟨0, 1, []⟩ : DBatch), 3⟩ : DEntry), (⟨(⟨0, 2, []⟩ : DBatch), 5⟩ : DEntry)]) 2).p) == 2))) rfl rfl (by decide) rfl (Ob_pick rfl rfl rfl rfl (pick_and _ _)) ?_; clear hok a; intro a hok
  refine s_runk TB_Relay4 hok 1 rfl rfl ?_; clear hok a; intro a hok
  refine g_ob hok (p := (((((((ackP 1 2 2 1 ([(⟨(⟨0, 1, []⟩ : DBatch), 3⟩ : DEntry), (⟨(⟨0, 2, []⟩ : DBatch), 5⟩ : DEntry)])).k) == 4) && (((((ackP 1 2 2 1 ([(⟨(⟨0, 1, []⟩ : DBatch), 3⟩ : DEntry), (⟨(⟨0, 2, []⟩ : DBatch), 5⟩ : DEntry)])).stamps).length : Nat) : Int) == 1)) && (((((ackP 1 2 2 1 ([(⟨(⟨0, 1, []⟩ : DBatch), 3⟩ : DEntry), (⟨(⟨0, 2, []⟩ : DBatch), 5⟩ : DEntry)])).stamps).getD 0 default) : Int) == 5)) && (((((fwdP 1 0 1 0 9 ([(⟨(⟨0, 1, []⟩ : DBatch), 3⟩ : DEntry), (⟨(⟨0, 2, []⟩ : DBatch), 5⟩ : DEntry)]) 2).entries).length : Nat) : Int) == 1)) && (((fwdP 1 0 1 0 9 ([(⟨(⟨0, 1, []⟩ : DBatch), 3⟩ : DEntry), (⟨(⟨0, 2, []⟩ : DBatch), 5⟩ : DEntry)]) 2).p) == 2))) (v := .pointer (some ⟨b3, 5, none⟩)) (S' := [(3, .pointer (some ⟨b3, 0, none⟩))]) rfl rfl rfl (wantB_t _) rfl (by decide) (fun hp hS => hS.sub (ts := [3]) rfl) (fun _ => Ob_c TB_Relay4 rfl) ?_; clear hok a; intro a hok
  refine g_ob hok (p := (((((((ackP 1 2 2 1 ([(⟨(⟨0, 1, []⟩ : DBatch), 3⟩ : DEntry), (⟨(⟨0, 2, []⟩ : DBatch), 5⟩ : DEntry)])).k) == 4) && (((((ackP 1 2 2 1 ([(⟨(⟨0, 1, []⟩ : DBatch), 3⟩ : DEntry), (⟨(⟨0, 2, []⟩ : DBatch), 5⟩ : DEntry)])).stamps).length : Nat) : Int) == 1)) && (((((ackP 1 2 2 1 ([(⟨(⟨0, 1, []⟩ : DBatch), 3⟩ : DEntry), (⟨(⟨0, 2, []⟩ : DBatch), 5⟩ : DEntry)])).stamps).getD 0 default) : Int) == 5)) && (((((fwdP 1 0 1 0 9 ([(⟨(⟨0, 1, []⟩ : DBatch), 3⟩ : DEntry), (⟨(⟨0, 2, []⟩ : DBatch), 5⟩ : DEntry)]) 2).entries).length : Nat) : Int) == 1)) && (((fwdP 1 0 1 0 9 ([(⟨(⟨0, 1, []⟩ : DBatch), 3⟩ : DEntry), (⟨(⟨0, 2, []⟩ : DBatch), 5⟩ : DEntry)]) 2).p) == 2))) (v := .int .u64 ((fwdP 1 0 1 0 9 ([(⟨(⟨0, 1, []⟩ : DBatch), 3⟩ : DEntry), (⟨(⟨0, 2, []⟩ : DBatch), 5⟩ : DEntry)]) 2).at_ : Int)) (S' := [(41, .pointer (some ⟨b3, 5, none⟩))]) rfl rfl rfl (wantB_t _) rfl (by decide) (fun hp hS => (hS.conv (t := 41) rfl (cond_t hp)).sub (ts := [41]) rfl) (fun hp => ?_) ?_
  · have hg7 := And.intro (And.intro (And.intro (And.intro (eq_of_beq (andT1 (andT1 (andT1 (andT1 hp))))) (eq_of_beq (andT2 (andT1 (andT1 (andT1 hp)))))) (eq_of_beq (andT2 (andT1 (andT1 hp))))) (eq_of_beq (andT2 (andT1 hp)))) (eq_of_beq (andT2 hp))
    exact Ob_load TB_Relay4 rfl rfl rfl ((H.bx 0 rfl).cell 5 rfl)
  clear hok a; intro a hok
  refine g_ob hok (p := (((((((ackP 1 2 2 1 ([(⟨(⟨0, 1, []⟩ : DBatch), 3⟩ : DEntry), (⟨(⟨0, 2, []⟩ : DBatch), 5⟩ : DEntry)])).k) == 4) && (((((ackP 1 2 2 1 ([(⟨(⟨0, 1, []⟩ : DBatch), 3⟩ : DEntry), (⟨(⟨0, 2, []⟩ : DBatch), 5⟩ : DEntry)])).stamps).length : Nat) : Int) == 1)) && (((((ackP 1 2 2 1 ([(⟨(⟨0, 1, []⟩ : DBatch), 3⟩ : DEntry), (⟨(⟨0, 2, []⟩ : DBatch), 5⟩ : DEntry)])).stamps).getD 0 default) : Int) == 5)) && (((((fwdP 1 0 1 0 9 ([(⟨(⟨0, 1, []⟩ : DBatch), 3⟩ : DEntry), (⟨(⟨0, 2, []⟩ : DBatch), 5⟩ : DEntry)]) 2).entries).length : Nat) : Int) == 1)) && (((fwdP 1 0 1 0 9 ([(⟨(⟨0, 1, []⟩ : DBatch), 3⟩ : DEntry), (⟨(⟨0, 2, []⟩ : DBatch), 5⟩ : DEntry)]) 2).p) == 2))) (v := .bool (((fwdP 1 0 1 0 9 ([(⟨(⟨0, 1, []⟩ : DBatch), 3⟩ : DEntry), (⟨(⟨0, 2, []⟩ : DBatch), 5⟩ : DEntry)]) 2).at_ : Int) == 9)) (S' := [(42, .int .u64 ((fwdP 1 0 1 0 9 ([(⟨(⟨0, 1, []⟩ : DBatch), 3⟩ : DEntry), (⟨(⟨0, 2, []⟩ : DBatch), 5⟩ : DEntry)]) 2).at_ : Int))]) rfl rfl rfl (wantB_t _) rfl (by decide) (fun hp hS => (hS.conv (t := 42) rfl (cond_t hp)).sub (ts := [42]) rfl) (fun _ => Ob_c TB_Relay4 rfl) ?_; clear hok a; intro a hok
  refine s_ob hok (v := .bool ((((((((ackP 1 2 2 1 ([(⟨(⟨0, 1, []⟩ : DBatch), 3⟩ : DEntry), (⟨(⟨0, 2, []⟩ : DBatch), 5⟩ : DEntry)])).k) == 4) && (((((ackP 1 2 2 1 ([(⟨(⟨0, 1, []⟩ : DBatch), 3⟩ : DEntry), (⟨(⟨0, 2, []⟩ : DBatch), 5⟩ : DEntry)])).stamps).length : Nat) : Int) == 1)) && (((((ackP 1 2 2 1 ([(⟨(⟨0, 1, []⟩ : DBatch), 3⟩ : DEntry), (⟨(⟨0, 2, []⟩ : DBatch), 5⟩ : DEntry)])).stamps).getD 0 default) : Int) == 5)) && (((((fwdP 1 0 1 0 9 ([(⟨(⟨0, 1, []⟩ : DBatch), 3⟩ : DEntry), (⟨(⟨0, 2, []⟩ : DBatch), 5⟩ : DEntry)]) 2).entries).length : Nat) : Int) == 1)) && (((fwdP 1 0 1 0 9 ([(⟨(⟨0, 1, []⟩ : DBatch), 3⟩ : DEntry), (⟨(⟨0, 2, []⟩ : DBatch), 5⟩ : DEntry)]) 2).p) == 2)) && (((fwdP 1 0 1 0 9 ([(⟨(⟨0, 1, []⟩ : DBatch), 3⟩ : DEntry), (⟨(⟨0, 2, []⟩ : DBatch), 5⟩ : DEntry)]) 2).at_ : Int) == 9))) rfl rfl (by decide) rfl (Ob_pick rfl rfl rfl rfl (pick_and _ _)) ?_; clear hok a; intro a hok
  refine s_runk TB_Relay4 hok 1 rfl rfl ?_; clear hok a; intro a hok
  refine s_end hok [0, 1, 2, 3] rfl ?_; clear hok; intro hok
  refine p_then ?_
  refine wp_ret ?_
  refine f_ret hok (run_results1 rfl hok rfl) ?_
  refine ⟨?_, H.below fun _ h => h⟩
  · clear hok H
    exact congrArg Value.bool (by decide)


theorem badPart_zero {m : DMsg} {p : ByteArray} : ∀ (n i : Nat), (∀ j, i ≤ j → j < i + n → wrongL m (byteAt p j) = 0) → badPart m p i n = 0
  | 0, _, _ => rfl
  | n + 1, i, h => by
    unfold badPart
    rw [if_neg (fun hh => hh (h i (Nat.le_refl _) (by omega)))]
    exact badPart_zero n (i + 1) fun j h1 h2 => h j (by omega) (by omega)

theorem right_at {l : List DEntry} (h : rightL l = 0) (k : Nat) (hk : k < l.length) : rightAt l k = 0 := badIdx_zero h k (Nat.zero_le _) (by omega)
theorem badIdx_all {f : Nat → Int} : ∀ (n k : Nat), (∀ j, k ≤ j → j < k + n → f j = 0) → badIdx f k n = 0
  | 0, _, _ => rfl
  | n + 1, k, h => by
    unfold badIdx
    rw [if_neg (fun hh => hh (h k (Nat.le_refl _) (by omega)))]
    exact badIdx_all n (k + 1) fun j h1 h2 => h j (by omega) (by omega)
theorem right_check {l : List DEntry} (h : rightL l = 0) (k : Nat) (hk : k < l.length) : checkB (l.getD k default).batch = 0 := by
  have h1 := right_at h k hk
  unfold rightAt at h1
  split at h1
  · rename_i h2; exact absurd h1 h2
  · rename_i h2; exact Decidable.not_not.1 h2

/-- a part of a list that is right is right -/
theorem right_part {l : List DEntry} (h : rightL l = 0) (i j : Nat) (hj : j ≤ l.length) : rightL ((l.take j).drop i) = 0 := by
  unfold rightL
  refine badIdx_all _ _ fun k _ hk => ?_
  have hk' : k < j - i := by simpa [hj] using hk
  have e : ∀ q, q < j - i → ((l.take j).drop i).getD q default = l.getD (i + q) default := fun q hq => sub_getD l i j q (by omega) hj
  have h1 := right_at h (i + k) (by omega)
  unfold rightAt at h1 ⊢
  rw [e k hk']
  split at h1
  · rename_i h2; exact absurd h1 h2
  · rename_i h2
    rw [if_neg h2]
    split at h1
    · cases h1
    · rename_i h3
      rw [if_neg]
      · split at h1
        · cases h1
        · rename_i h4
          rw [if_neg]
          intro ⟨h5, h6, h7⟩
          rw [e (k - 1) (by omega)] at h7
          exact h4 ⟨by omega, h6, by rw [show i + k - 1 = i + (k - 1) by omega]; exact h7⟩
      · rw [List.any_eq_true]
        rintro ⟨q, hq, hp⟩
        have hq' := List.mem_range.1 hq
        rw [e q (by omega)] at hp
        exact h3 (any_yes (q := i + q) (by omega) hp)

theorem entries_ok {es : List DEntry} (h1 : es.length ≤ 4) (h2 : ∀ k, k < es.length → checkB (es.getD k default).batch = 0) : entriesL es = 0 := by
  unfold entriesL
  rw [if_neg (by omega)]
  have key : ∀ l : List DEntry, (∀ x ∈ l, checkB x.batch = 0) → firstBad (fun x : DEntry => checkB x.batch) l = 0 := by
    intro l
    induction l with
    | nil => intro _; rfl
    | cons x l ih =>
      intro h
      unfold firstBad
      rw [if_neg (fun hh => hh (h x (by simp)))]
      exact ih fun y hy => h y (by simp [hy])
  refine key es fun x hx => ?_
  obtain ⟨k, hk, rfl⟩ := List.getElem_of_mem hx
  rw [← getD_get es k default hk]
  exact h2 k hk

theorem may_fwd {l : List DEntry} (h : rightL l = 0) (epoch base from_ stable : Nat) (horizon : Nat) (good : Nat) (h1 : epoch < 256) (h2 : base < 256) (h3 : from_ < 256) (h4 : stable < 256) (h5 : good < 256) : checkM (fwdP epoch base from_ stable horizon l good) = 0 := by
  have hlen : (min (max (good : Int) 0) (l.length : Int)) ≤ 255 := by omega
  have hsl := stamped_le l
  unfold checkM
  rw [if_neg (by show ¬ partsL 3 = _; decide)]
  refine badPart_zero _ _ fun j _ hj => ?_
  have hj' : j < 7 := by rw [Nat.zero_add] at hj; exact hj
  have hE : entriesL (fwdP epoch base from_ stable horizon l good).entries = 0 := by
    refine entries_ok ?_ fun k hk => ?_
    · show ((l.take _).drop _).length ≤ 4
      rw [List.length_drop, List.length_take]; omega
    · have hk' : k < ((l.take _).drop _).length := hk
      rw [List.length_drop, List.length_take] at hk'
      show checkB (((l.take _).drop _).getD k default).batch = 0
      rw [sub_getD _ _ _ _ (by omega) (by omega)]
      exact right_check h _ (by omega)
  match j, hj' with
  | 0, _ => show wrongL _ 101 = 0; unfold wrongL; rw [if_pos (by simp)]; exact if_neg (by show ¬ (max (epoch : Int) 0 < 0 ∨ 1073741824 < max (epoch : Int) 0); omega)
  | 1, _ => show wrongL _ 110 = 0; unfold wrongL; rw [if_pos (by simp)]; exact if_neg (by show ¬ (max (base : Int) 0 < 0 ∨ 1073741824 < max (base : Int) 0); omega)
  | 2, _ => show wrongL _ 109 = 0; unfold wrongL; rw [if_pos (by simp)]; exact if_neg (by show ¬ (max (min (max (from_ : Int) 0) (min (max (good : Int) 0) (l.length : Int))) 0 < 0 ∨ 1073741824 < max (min (max (from_ : Int) 0) (min (max (good : Int) 0) (l.length : Int))) 0); omega)
  | 3, _ => show wrongL _ 112 = 0; unfold wrongL; rw [if_pos (by simp)]; exact if_neg (by show ¬ (max (min (stampedL l : Int) (min (max (good : Int) 0) (l.length : Int))) 0 < 0 ∨ 1073741824 < max (min (stampedL l : Int) (min (max (good : Int) 0) (l.length : Int))) 0); omega)
  | 4, _ => show wrongL _ 114 = 0; unfold wrongL; rw [if_pos (by simp)]; exact if_neg (by show ¬ (max (stable : Int) 0 < 0 ∨ 1073741824 < max (stable : Int) 0); omega)
  | 5, _ => rfl
  | 6, _ => exact hE

theorem may_ack {l : List DEntry} (epoch good held from_ : Nat) (h1 : epoch < 256) (h2 : good < 256) (h3 : held < 256) (h4 : from_ < 256) : checkM (ackP epoch good held from_ l) = 0 := by
  unfold checkM
  rw [if_neg (by show ¬ partsL 4 = _; decide)]
  refine badPart_zero _ _ fun j _ hj => ?_
  have hj' : j < 5 := by rw [Nat.zero_add] at hj; exact hj
  have hS : (ackP epoch good held from_ l).stamps.length ≤ 8 := by
    show (stampsL l _ _).length ≤ 8
    unfold stampsL
    rw [List.length_map]
    refine Nat.le_trans (List.Sublist.length_le (List.takeWhile_sublist _)) ?_
    rw [List.length_drop, List.length_take]; omega
  match j, hj' with
  | 0, _ => show wrongL _ 101 = 0; unfold wrongL; rw [if_pos (by simp)]; exact if_neg (by show ¬ (max (epoch : Int) 0 < 0 ∨ 1073741824 < max (epoch : Int) 0); omega)
  | 1, _ => show wrongL _ 110 = 0; unfold wrongL; rw [if_pos (by simp)]; exact if_neg (by show ¬ (max (min (max (good : Int) 0) (l.length : Int)) 0 < 0 ∨ 1073741824 < max (min (max (good : Int) 0) (l.length : Int)) 0); omega)
  | 2, _ => show wrongL _ 109 = 0; unfold wrongL; rw [if_pos (by simp)]; exact if_neg (by show ¬ (max (held : Int) 0 < 0 ∨ 1073741824 < max (held : Int) 0); omega)
  | 3, _ => show wrongL _ 112 = 0; unfold wrongL; rw [if_pos (by simp)]; exact if_neg (by show ¬ (max (min (max (from_ : Int) 0) (min (max (good : Int) 0) (l.length : Int))) 0 < 0 ∨ 1073741824 < max (min (max (from_ : Int) 0) (min (max (good : Int) 0) (l.length : Int))) 0); omega)
  | 4, _ => exact if_neg (Nat.not_lt.2 hS)

theorem may_right {l : List DEntry} (h : rightL l = 0) (epoch base from_ stable : Int) (horizon : Nat) (good : Int) : rightL (fwdP epoch base from_ stable horizon l good).entries = 0 := right_part h _ _ (by omega)

set_option maxHeartbeats 1000000 in
theorem law_RelayMay {A0 : Nat → Prop} (v_l : Value) (l : List DEntry) (n00 : Nat) (n01 : Nat) (n02 : Nat) (n03 : Nat) (n04 : Nat) (horizon : Nat) (w : World) (L_v_l : slRep RDEntry A0 w v_l l) (h_n00 : n00 < 256) (h_n01 : n01 < 256) (h_n02 : n02 < 256) (h_n03 : n03 < 256) (h_n04 : n04 < 256) (h_horizon : horizon < 18446744073709551616) :
    Calls Try.prog 3 #[v_l, .agg #[.int .u8 (n00 : Int), .int .u8 (n01 : Int), .int .u8 (n02 : Int), .int .u8 (n03 : Int), .int .u8 (n04 : Int)], .int .u64 (horizon : Int)] w (Ret fun r w' => r = .bool true ∧ Below w.heap.size w w') := by
  obtain ⟨ao_v_l, cap_v_l, rfl, hc_v_l, hm_v_l⟩ := L_v_l.shape
  unfold maxLen at hm_v_l
  obtain ⟨I, hI, H⟩ : ∃ I : Dm, (∀ k, I k ↔ ((A0 k) ∧ k < w.heap.size)) ∧ Hf I NoD w I w [] := ⟨_, fun _ => Iff.rfl, (St.none _ _ fun _ h => h.2).hf⟩
  replace H := H.addsl (L_v_l.bound.mono (fun k h => (hI k).2 ⟨h.1, h.2⟩) (Keep.refl _ _))
  refine f_enter 67 Try.func3 rfl rfl (Nat.le_of_ble_eq_true rfl) fun a hok => ?_
  replace hok := hok.sub (ts := [0, 1, 2]) rfl
  refine wp_seq ?_
  refine f_region hok ?_; clear hok; intro hok
  refine h_boxv hok H (cl := [.int .u8 (n00 : Int), .int .u8 (n01 : Int), .int .u8 (n02 : Int), .int .u8 (n03 : Int), .int .u8 (n04 : Int)]) rfl rfl rfl (by decide) rfl rfl rfl ?_; clear hok a H; intro a w1 b1 H hok
  refine s_runk TB_Relay4 hok 1 rfl rfl ?_; clear hok a; intro a hok
  refine s_end hok [0, 1, 2, 4, 6] rfl ?_; clear hok; intro hok
  refine p_then ?_
  refine wp_seq ?_
  refine wp_seq ?_
  refine f_quiet hok ?_; clear hok; intro hok
  refine q_runk TB_Relay4 hok 1 rfl rfl ?_; clear hok a; intro a hok
  refine q_call hok (caps := #[]) (v := .int .i64 (muchI l (min l.length 200))) fn_6_Relay4 rfl rfl rfl rfl rfl (by decide) rfl rfl (fun _ hw => c_Much _ l _ ((H.blw hw).sl 1 rfl)) ?_; clear hok a; intro a hok
  refine q_runk TB_Relay4 hok 2 rfl rfl ?_; clear hok a; intro a hok
  refine gq_ob hok (p := (!(decide ((muchI l (min l.length 200)) > 80)))) (v := .slice ao_v_l l.length cap_v_l) (S' := [(0, .slice ao_v_l l.length cap_v_l)]) rfl rfl rfl (wantB_f _) rfl (by decide) (fun hp hS => hS.sub (ts := [0]) rfl) (fun _ => fun _ _ => Ob_c TB_Relay4 rfl) ?_; clear hok a; intro a hok
  refine gq_call hok (p := (!(decide ((muchI l (min l.length 200)) > 80)))) (v := .int .i64 (rightL l)) (S' := [(13, .slice ao_v_l l.length cap_v_l)]) (caps := #[]) fn_7_Relay4 rfl rfl rfl (wantB_f _) rfl (by decide) (fun hp hS => (hS.conv (t := 13) rfl (cond_t hp)).sub (ts := [13]) rfl) rfl rfl rfl rfl (fun hp => ?_) ?_
  · have hg1 := of_decide_eq_false (notT hp)
    exact fun _ hw => c_ref08_Right _ l _ ((H.blw hw).sl 1 rfl)
  clear hok a; intro a hok
  refine gq_ob hok (p := (!(decide ((muchI l (min l.length 200)) > 80)))) (v := .bool ((rightL l) != 0)) (S' := [(14, .int .i64 (rightL l))]) rfl rfl rfl (wantB_f _) rfl (by decide) (fun hp hS => (hS.conv (t := 14) rfl (cond_t hp)).sub (ts := [14]) rfl) (fun _ => fun _ _ => Ob_c TB_Relay4 rfl) ?_; clear hok a; intro a hok
  refine q_ob hok (v := .bool ((decide ((muchI l (min l.length 200)) > 80)) || ((rightL l) != 0))) rfl rfl (by decide) rfl (fun _ _ => Ob_pick rfl rfl rfl rfl (pick_or _ _)) ?_; clear hok a; intro a hok
  refine q_end hok [0, 1, 2, 4, 6, 16] rfl ?_; clear hok; intro w2 hb hok
  replace H := H.blw hb
  clear hb
  refine p_then ?_
  refine f_cond hok rfl (fun hc1 => ?_) (fun hc1 => ?_)
  · replace hc1 := orT hc1 (fun h => of_decide_eq_true h) (fun h => bne_iff_ne.1 h)
    refine wp_seq ?_
    refine f_region hok ?_; clear hok; intro hok
    refine s_call hok fn_8_Relay4 (caps := #[]) rfl rfl rfl rfl rfl (by decide) rfl rfl (c_awake  _ ) ?_; clear hok a; intro _ a w3 hr hok
    obtain ⟨rfl, hb⟩ := hr
    replace H := H.blw hb
    clear hb
    refine s_runk TB_Relay4 hok 1 rfl rfl ?_; clear hok a; intro a hok
    refine s_end hok [0, 1, 2, 4, 6, 16] rfl ?_; clear hok; intro hok
    refine p_then ?_
    refine wp_ret ?_
    refine p_then_r ?_
    refine f_ret hok (run_results1 rfl hok rfl) ?_
    refine ⟨?_, H.below fun _ h => h⟩
    · clear hok H
      rfl
  · replace hc1 := And.intro (of_decide_eq_false (orF1 hc1)) (bne_eq_false_iff_eq.1 (orF2 hc1))
    refine wp_skip ?_
    refine p_then ?_
    refine wp_seq ?_
    refine f_region hok ?_; clear hok; intro hok
    refine s_ob hok (v := .pointer (some ⟨b1, 0, none⟩)) rfl rfl (by decide) rfl (Ob_idxa (b := b1) (off := 0) (m := 1) Try.underlying23 (by kernel_rfl) (0) rfl rfl rfl rfl (show 0 < 5 from by decide)) ?_; clear hok a; intro a hok
    refine s_ob hok (v := .int .u8 (n00 : Int)) rfl rfl (by decide) rfl (Ob_load TB_Relay4 rfl rfl rfl ((H.bx 0 rfl).cell 0 rfl)) ?_; clear hok a; intro a hok
    have hcv1 : ∀ w : World, (convert 5 3 (.int .u8 (n00 : Int))).run Try.prog w = .ok (.int .i64 (n00 : Int)) w := fun w => run_convi Try.underlying5 Try.underlying3 _ _ (IntWalk.i64_in _ (by omega)) w
    refine s_ob hok (v := .int .i64 (n00 : Int)) rfl rfl (by decide) rfl (Ob_conv rfl rfl (hcv1 _)) ?_; clear hok a; intro a hok
    refine s_ob hok (v := .pointer (some ⟨b1, 1, none⟩)) rfl rfl (by decide) rfl (Ob_idxa (b := b1) (off := 0) (m := 1) Try.underlying23 (by kernel_rfl) (1) rfl rfl rfl rfl (show 1 < 5 from by decide)) ?_; clear hok a; intro a hok
    refine s_ob hok (v := .int .u8 (n01 : Int)) rfl rfl (by decide) rfl (Ob_load TB_Relay4 rfl rfl rfl ((H.bx 0 rfl).cell 1 rfl)) ?_; clear hok a; intro a hok
    have hcv2 : ∀ w : World, (convert 5 3 (.int .u8 (n01 : Int))).run Try.prog w = .ok (.int .i64 (n01 : Int)) w := fun w => run_convi Try.underlying5 Try.underlying3 _ _ (IntWalk.i64_in _ (by omega)) w
    refine s_ob hok (v := .int .i64 (n01 : Int)) rfl rfl (by decide) rfl (Ob_conv rfl rfl (hcv2 _)) ?_; clear hok a; intro a hok
    refine s_ob hok (v := .pointer (some ⟨b1, 2, none⟩)) rfl rfl (by decide) rfl (Ob_idxa (b := b1) (off := 0) (m := 1) Try.underlying23 (by kernel_rfl) (2) rfl rfl rfl rfl (show 2 < 5 from by decide)) ?_; clear hok a; intro a hok
    refine s_ob hok (v := .int .u8 (n02 : Int)) rfl rfl (by decide) rfl (Ob_load TB_Relay4 rfl rfl rfl ((H.bx 0 rfl).cell 2 rfl)) ?_; clear hok a; intro a hok
    have hcv3 : ∀ w : World, (convert 5 3 (.int .u8 (n02 : Int))).run Try.prog w = .ok (.int .i64 (n02 : Int)) w := fun w => run_convi Try.underlying5 Try.underlying3 _ _ (IntWalk.i64_in _ (by omega)) w
    refine s_ob hok (v := .int .i64 (n02 : Int)) rfl rfl (by decide) rfl (Ob_conv rfl rfl (hcv3 _)) ?_; clear hok a; intro a hok
    refine s_ob hok (v := .pointer (some ⟨b1, 3, none⟩)) rfl rfl (by decide) rfl (Ob_idxa (b := b1) (off := 0) (m := 1) Try.underlying23 (by kernel_rfl) (3) rfl rfl rfl rfl (show 3 < 5 from by decide)) ?_; clear hok a; intro a hok
    refine s_ob hok (v := .int .u8 (n03 : Int)) rfl rfl (by decide) rfl (Ob_load TB_Relay4 rfl rfl rfl ((H.bx 0 rfl).cell 3 rfl)) ?_; clear hok a; intro a hok
    have hcv4 : ∀ w : World, (convert 5 3 (.int .u8 (n03 : Int))).run Try.prog w = .ok (.int .i64 (n03 : Int)) w := fun w => run_convi Try.underlying5 Try.underlying3 _ _ (IntWalk.i64_in _ (by omega)) w
    refine s_ob hok (v := .int .i64 (n03 : Int)) rfl rfl (by decide) rfl (Ob_conv rfl rfl (hcv4 _)) ?_; clear hok a; intro a hok
    refine s_runk TB_Relay4 hok 2 rfl rfl ?_; clear hok a; intro a hok
    refine s_ob hok (v := .pointer (some ⟨b1, 4, none⟩)) rfl rfl (by decide) rfl (Ob_idxa (b := b1) (off := 0) (m := 1) Try.underlying23 (by kernel_rfl) (4) rfl rfl rfl rfl (show 4 < 5 from by decide)) ?_; clear hok a; intro a hok
    refine s_ob hok (v := .int .u8 (n04 : Int)) rfl rfl (by decide) rfl (Ob_load TB_Relay4 rfl rfl rfl ((H.bx 0 rfl).cell 4 rfl)) ?_; clear hok a; intro a hok
    have hcv5 : ∀ w : World, (convert 5 3 (.int .u8 (n04 : Int))).run Try.prog w = .ok (.int .i64 (n04 : Int)) w := fun w => run_convi Try.underlying5 Try.underlying3 _ _ (IntWalk.i64_in _ (by omega)) w
    refine s_ob hok (v := .int .i64 (n04 : Int)) rfl rfl (by decide) rfl (Ob_conv rfl rfl (hcv5 _)) ?_; clear hok a; intro a hok
    refine s_call hok fn_9_Relay4 (caps := #[]) rfl rfl rfl rfl rfl (by decide) rfl rfl (c_relay_Fwd (n00 : Int) (n01 : Int) (n02 : Int) (n03 : Int) horizon _ l (n04 : Int) _ (show i64ok (n00 : Int) by unfold i64ok; omega) (show i64ok (n01 : Int) by unfold i64ok; omega) (show i64ok (n02 : Int) by unfold i64ok; omega) (show i64ok (n03 : Int) by unfold i64ok; omega) h_horizon (H.sl 1 rfl) (show i64ok (n04 : Int) by unfold i64ok; omega) (by first | omega | rfl | (simp only [List.length_drop, List.length_take, List.length_append, List.length_cons, List.length_nil]; omega))) ?_; clear hok a; intro _ a w4 hr hok
    obtain ⟨q1, q2, q3, q4, q5, rfl, L1, L2, L3, L4, L5, hx1, hb⟩ := hr
    obtain ⟨ao_q1, cap_q1, rfl, hc_q1, hm_q1⟩ := L1.shape
    unfold maxLen at hm_q1
    obtain ⟨ao_q2, cap_q2, rfl, hc_q2, hm_q2⟩ := L2.shape
    unfold maxLen at hm_q2
    obtain ⟨ao_q3, cap_q3, rfl, hc_q3, hm_q3⟩ := L3.shape
    unfold maxLen at hm_q3
    obtain ⟨ao_q4, cap_q4, rfl, hc_q4, hm_q4⟩ := L4.shape
    unfold maxLen at hm_q4
    obtain ⟨ao_q5, cap_q5, rfl, hc_q5, hm_q5⟩ := L5.shape
    unfold maxLen at hm_q5
    obtain ⟨I1, hI1, H⟩ := H.fresh hb
    replace H := H.addsl (L1.inI hI1 (fun k h => by rcases h with h | h <;> first | exact .inl h | exact .inr h | exact h.elim))
    replace H := H.addsl (L2.inI hI1 (fun k h => by rcases h with h | h <;> first | exact .inl h | exact .inr h | exact h.elim))
    replace H := H.addsl (L3.inI hI1 (fun k h => by rcases h with h | h <;> first | exact .inl h | exact .inr h | exact h.elim))
    replace H := H.addsl (L4.inI hI1 (fun k h => by rcases h with h | h <;> first | exact .inl h | exact .inr h | exact h.elim))
    replace H := H.addsl (L5.inI hI1 (fun k h => by rcases h with h | h <;> first | exact .inl h | exact .inr h | exact h.elim))
    clear hb hI1
    refine h_alloc hok H (cl := [.int .i64 0, .int .i64 0, .int .i64 0, .int .i64 0, .bool false, .int .u64 0, .int .u64 0, .int .i64 0, .int .i64 0, .int .i64 0, .int .i64 0, .string ByteArray.empty, .string ByteArray.empty, .int .i64 0, .slice none 0 0, .int .u64 0, .int .i64 0, .int .i64 0, .slice none 0 0, .slice none 0 0, .slice none 0 0, .slice none 0 0]) (z := .agg #[.int .i64 0, .int .i64 0, .int .i64 0, .int .i64 0, .bool false, .int .u64 0, .int .u64 0, .int .i64 0, .int .i64 0, .int .i64 0, .int .i64 0, .string ByteArray.empty, .string ByteArray.empty, .int .i64 0, .slice none 0 0, .int .u64 0, .int .i64 0, .int .i64 0, .slice none 0 0, .slice none 0 0, .slice none 0 0, .slice none 0 0]) rfl rfl rfl (by decide) rfl (by kernel_rfl) rfl ?_; clear hok a H; intro a w5 b2 H hok
    refine h_store TB_Relay4 hok H 0 (us := [.int .i64 ((fwdP (n00 : Int) (n01 : Int) (n02 : Int) (n03 : Int) horizon l (n04 : Int)).k), .int .i64 ((fwdP (n00 : Int) (n01 : Int) (n02 : Int) (n03 : Int) horizon l (n04 : Int)).epoch), .int .i64 ((fwdP (n00 : Int) (n01 : Int) (n02 : Int) (n03 : Int) horizon l (n04 : Int)).req), .int .i64 ((fwdP (n00 : Int) (n01 : Int) (n02 : Int) (n03 : Int) horizon l (n04 : Int)).serial), .bool ((fwdP (n00 : Int) (n01 : Int) (n02 : Int) (n03 : Int) horizon l (n04 : Int)).flag), .int .u64 ((fwdP (n00 : Int) (n01 : Int) (n02 : Int) (n03 : Int) horizon l (n04 : Int)).at_ : Int), .int .u64 ((fwdP (n00 : Int) (n01 : Int) (n02 : Int) (n03 : Int) horizon l (n04 : Int)).last : Int), .int .i64 ((fwdP (n00 : Int) (n01 : Int) (n02 : Int) (n03 : Int) horizon l (n04 : Int)).n), .int .i64 ((fwdP (n00 : Int) (n01 : Int) (n02 : Int) (n03 : Int) horizon l (n04 : Int)).m), .int .i64 ((fwdP (n00 : Int) (n01 : Int) (n02 : Int) (n03 : Int) horizon l (n04 : Int)).p), .int .i64 ((fwdP (n00 : Int) (n01 : Int) (n02 : Int) (n03 : Int) horizon l (n04 : Int)).e), .string ((fwdP (n00 : Int) (n01 : Int) (n02 : Int) (n03 : Int) horizon l (n04 : Int)).key), .string ((fwdP (n00 : Int) (n01 : Int) (n02 : Int) (n03 : Int) horizon l (n04 : Int)).to_), .int .i64 ((fwdP (n00 : Int) (n01 : Int) (n02 : Int) (n03 : Int) horizon l (n04 : Int)).conf.epoch), .slice ao_q1 (((fwdP (n00 : Int) (n01 : Int) (n02 : Int) (n03 : Int) horizon l (n04 : Int)).conf.members).length) cap_q1, .int .u64 ((fwdP (n00 : Int) (n01 : Int) (n02 : Int) (n03 : Int) horizon l (n04 : Int)).conf.floor : Int), .int .i64 ((fwdP (n00 : Int) (n01 : Int) (n02 : Int) (n03 : Int) horizon l (n04 : Int)).batch.client), .int .i64 ((fwdP (n00 : Int) (n01 : Int) (n02 : Int) (n03 : Int) horizon l (n04 : Int)).batch.req), .slice ao_q2 (((fwdP (n00 : Int) (n01 : Int) (n02 : Int) (n03 : Int) horizon l (n04 : Int)).batch.ops).length) cap_q2, .slice ao_q3 (((fwdP (n00 : Int) (n01 : Int) (n02 : Int) (n03 : Int) horizon l (n04 : Int)).entries).length) cap_q3, .slice ao_q4 (((fwdP (n00 : Int) (n01 : Int) (n02 : Int) (n03 : Int) horizon l (n04 : Int)).stamps).length) cap_q4, .slice ao_q5 (((fwdP (n00 : Int) (n01 : Int) (n02 : Int) (n03 : Int) horizon l (n04 : Int)).pairs).length) cap_q5]) (cl' := [.int .i64 ((fwdP (n00 : Int) (n01 : Int) (n02 : Int) (n03 : Int) horizon l (n04 : Int)).k), .int .i64 ((fwdP (n00 : Int) (n01 : Int) (n02 : Int) (n03 : Int) horizon l (n04 : Int)).epoch), .int .i64 ((fwdP (n00 : Int) (n01 : Int) (n02 : Int) (n03 : Int) horizon l (n04 : Int)).req), .int .i64 ((fwdP (n00 : Int) (n01 : Int) (n02 : Int) (n03 : Int) horizon l (n04 : Int)).serial), .bool ((fwdP (n00 : Int) (n01 : Int) (n02 : Int) (n03 : Int) horizon l (n04 : Int)).flag), .int .u64 ((fwdP (n00 : Int) (n01 : Int) (n02 : Int) (n03 : Int) horizon l (n04 : Int)).at_ : Int), .int .u64 ((fwdP (n00 : Int) (n01 : Int) (n02 : Int) (n03 : Int) horizon l (n04 : Int)).last : Int), .int .i64 ((fwdP (n00 : Int) (n01 : Int) (n02 : Int) (n03 : Int) horizon l (n04 : Int)).n), .int .i64 ((fwdP (n00 : Int) (n01 : Int) (n02 : Int) (n03 : Int) horizon l (n04 : Int)).m), .int .i64 ((fwdP (n00 : Int) (n01 : Int) (n02 : Int) (n03 : Int) horizon l (n04 : Int)).p), .int .i64 ((fwdP (n00 : Int) (n01 : Int) (n02 : Int) (n03 : Int) horizon l (n04 : Int)).e), .string ((fwdP (n00 : Int) (n01 : Int) (n02 : Int) (n03 : Int) horizon l (n04 : Int)).key), .string ((fwdP (n00 : Int) (n01 : Int) (n02 : Int) (n03 : Int) horizon l (n04 : Int)).to_), .int .i64 ((fwdP (n00 : Int) (n01 : Int) (n02 : Int) (n03 : Int) horizon l (n04 : Int)).conf.epoch), .slice ao_q1 (((fwdP (n00 : Int) (n01 : Int) (n02 : Int) (n03 : Int) horizon l (n04 : Int)).conf.members).length) cap_q1, .int .u64 ((fwdP (n00 : Int) (n01 : Int) (n02 : Int) (n03 : Int) horizon l (n04 : Int)).conf.floor : Int), .int .i64 ((fwdP (n00 : Int) (n01 : Int) (n02 : Int) (n03 : Int) horizon l (n04 : Int)).batch.client), .int .i64 ((fwdP (n00 : Int) (n01 : Int) (n02 : Int) (n03 : Int) horizon l (n04 : Int)).batch.req), .slice ao_q2 (((fwdP (n00 : Int) (n01 : Int) (n02 : Int) (n03 : Int) horizon l (n04 : Int)).batch.ops).length) cap_q2, .slice ao_q3 (((fwdP (n00 : Int) (n01 : Int) (n02 : Int) (n03 : Int) horizon l (n04 : Int)).entries).length) cap_q3, .slice ao_q4 (((fwdP (n00 : Int) (n01 : Int) (n02 : Int) (n03 : Int) horizon l (n04 : Int)).stamps).length) cap_q4, .slice ao_q5 (((fwdP (n00 : Int) (n01 : Int) (n02 : Int) (n03 : Int) horizon l (n04 : Int)).pairs).length) cap_q5]) rfl rfl rfl rfl rfl rfl rfl rfl rfl (ones_all rfl) (Nat.le_of_ble_eq_true rfl) (putCells_all rfl) ?_; clear H; intro w6 H
    dsimp only [List.eraseIdx] at H
    refine s_end hok [0, 1, 2, 4, 6, 16, 7] rfl ?_; clear hok; intro hok
    refine p_then ?_
    refine wp_seq ?_
    refine f_region hok ?_; clear hok; intro hok
    refine s_ob hok (v := .pointer (some ⟨b1, 0, none⟩)) rfl rfl (by decide) rfl (Ob_idxa (b := b1) (off := 0) (m := 1) Try.underlying23 (by kernel_rfl) (0) rfl rfl rfl rfl (show 0 < 5 from by decide)) ?_; clear hok a; intro a hok
    refine s_ob hok (v := .int .u8 (n00 : Int)) rfl rfl (by decide) rfl (Ob_load TB_Relay4 rfl rfl rfl ((H.bx 6 rfl).cell 0 rfl)) ?_; clear hok a; intro a hok
    have hcv6 : ∀ w : World, (convert 5 3 (.int .u8 (n00 : Int))).run Try.prog w = .ok (.int .i64 (n00 : Int)) w := fun w => run_convi Try.underlying5 Try.underlying3 _ _ (IntWalk.i64_in _ (by omega)) w
    refine s_ob hok (v := .int .i64 (n00 : Int)) rfl rfl (by decide) rfl (Ob_conv rfl rfl (hcv6 _)) ?_; clear hok a; intro a hok
    refine s_ob hok (v := .pointer (some ⟨b1, 4, none⟩)) rfl rfl (by decide) rfl (Ob_idxa (b := b1) (off := 0) (m := 1) Try.underlying23 (by kernel_rfl) (4) rfl rfl rfl rfl (show 4 < 5 from by decide)) ?_; clear hok a; intro a hok
    refine s_ob hok (v := .int .u8 (n04 : Int)) rfl rfl (by decide) rfl (Ob_load TB_Relay4 rfl rfl rfl ((H.bx 6 rfl).cell 4 rfl)) ?_; clear hok a; intro a hok
    have hcv7 : ∀ w : World, (convert 5 3 (.int .u8 (n04 : Int))).run Try.prog w = .ok (.int .i64 (n04 : Int)) w := fun w => run_convi Try.underlying5 Try.underlying3 _ _ (IntWalk.i64_in _ (by omega)) w
    refine s_ob hok (v := .int .i64 (n04 : Int)) rfl rfl (by decide) rfl (Ob_conv rfl rfl (hcv7 _)) ?_; clear hok a; intro a hok
    refine s_ob hok (v := .pointer (some ⟨b1, 1, none⟩)) rfl rfl (by decide) rfl (Ob_idxa (b := b1) (off := 0) (m := 1) Try.underlying23 (by kernel_rfl) (1) rfl rfl rfl rfl (show 1 < 5 from by decide)) ?_; clear hok a; intro a hok
    refine s_ob hok (v := .int .u8 (n01 : Int)) rfl rfl (by decide) rfl (Ob_load TB_Relay4 rfl rfl rfl ((H.bx 6 rfl).cell 1 rfl)) ?_; clear hok a; intro a hok
    have hcv8 : ∀ w : World, (convert 5 3 (.int .u8 (n01 : Int))).run Try.prog w = .ok (.int .i64 (n01 : Int)) w := fun w => run_convi Try.underlying5 Try.underlying3 _ _ (IntWalk.i64_in _ (by omega)) w
    refine s_ob hok (v := .int .i64 (n01 : Int)) rfl rfl (by decide) rfl (Ob_conv rfl rfl (hcv8 _)) ?_; clear hok a; intro a hok
    refine s_ob hok (v := .pointer (some ⟨b1, 2, none⟩)) rfl rfl (by decide) rfl (Ob_idxa (b := b1) (off := 0) (m := 1) Try.underlying23 (by kernel_rfl) (2) rfl rfl rfl rfl (show 2 < 5 from by decide)) ?_; clear hok a; intro a hok
    refine s_ob hok (v := .int .u8 (n02 : Int)) rfl rfl (by decide) rfl (Ob_load TB_Relay4 rfl rfl rfl ((H.bx 6 rfl).cell 2 rfl)) ?_; clear hok a; intro a hok
    have hcv9 : ∀ w : World, (convert 5 3 (.int .u8 (n02 : Int))).run Try.prog w = .ok (.int .i64 (n02 : Int)) w := fun w => run_convi Try.underlying5 Try.underlying3 _ _ (IntWalk.i64_in _ (by omega)) w
    refine s_ob hok (v := .int .i64 (n02 : Int)) rfl rfl (by decide) rfl (Ob_conv rfl rfl (hcv9 _)) ?_; clear hok a; intro a hok
    refine s_runk TB_Relay4 hok 1 rfl rfl ?_; clear hok a; intro a hok
    refine s_call hok fn_10_Relay4 (caps := #[]) rfl rfl rfl rfl rfl (by decide) rfl rfl (c_relay_Ack (n00 : Int) (n04 : Int) (n01 : Int) (n02 : Int) _ l _ (show i64ok (n00 : Int) by unfold i64ok; omega) (show i64ok (n04 : Int) by unfold i64ok; omega) (show i64ok (n01 : Int) by unfold i64ok; omega) (show i64ok (n02 : Int) by unfold i64ok; omega) (H.sl 7 rfl) (by first | omega | rfl | (simp only [List.length_drop, List.length_take, List.length_append, List.length_cons, List.length_nil]; omega))) ?_; clear hok a; intro _ a w7 hr hok
    obtain ⟨q6, q7, q8, q9, q10, rfl, L6, L7, L8, L9, L10, hx2, hb⟩ := hr
    obtain ⟨ao_q6, cap_q6, rfl, hc_q6, hm_q6⟩ := L6.shape
    unfold maxLen at hm_q6
    obtain ⟨ao_q7, cap_q7, rfl, hc_q7, hm_q7⟩ := L7.shape
    unfold maxLen at hm_q7
    obtain ⟨ao_q8, cap_q8, rfl, hc_q8, hm_q8⟩ := L8.shape
    unfold maxLen at hm_q8
    obtain ⟨ao_q9, cap_q9, rfl, hc_q9, hm_q9⟩ := L9.shape
    unfold maxLen at hm_q9
    obtain ⟨ao_q10, cap_q10, rfl, hc_q10, hm_q10⟩ := L10.shape
    unfold maxLen at hm_q10
    obtain ⟨I2, hI2, H⟩ := H.fresh hb
    replace H := H.addsl (L6.inI hI2 (fun k h => by rcases h with h | h <;> first | exact .inl h | exact .inr h | exact h.elim))
    replace H := H.addsl (L7.inI hI2 (fun k h => by rcases h with h | h <;> first | exact .inl h | exact .inr h | exact h.elim))
    replace H := H.addsl (L8.inI hI2 (fun k h => by rcases h with h | h <;> first | exact .inl h | exact .inr h | exact h.elim))
    replace H := H.addsl (L9.inI hI2 (fun k h => by rcases h with h | h <;> first | exact .inl h | exact .inr h | exact h.elim))
    replace H := H.addsl (L10.inI hI2 (fun k h => by rcases h with h | h <;> first | exact .inl h | exact .inr h | exact h.elim))
    clear hb hI2
    refine h_alloc hok H (cl := [.int .i64 0, .int .i64 0, .int .i64 0, .int .i64 0, .bool false, .int .u64 0, .int .u64 0, .int .i64 0, .int .i64 0, .int .i64 0, .int .i64 0, .string ByteArray.empty, .string ByteArray.empty, .int .i64 0, .slice none 0 0, .int .u64 0, .int .i64 0, .int .i64 0, .slice none 0 0, .slice none 0 0, .slice none 0 0, .slice none 0 0]) (z := .agg #[.int .i64 0, .int .i64 0, .int .i64 0, .int .i64 0, .bool false, .int .u64 0, .int .u64 0, .int .i64 0, .int .i64 0, .int .i64 0, .int .i64 0, .string ByteArray.empty, .string ByteArray.empty, .int .i64 0, .slice none 0 0, .int .u64 0, .int .i64 0, .int .i64 0, .slice none 0 0, .slice none 0 0, .slice none 0 0, .slice none 0 0]) rfl rfl rfl (by decide) rfl (by kernel_rfl) rfl ?_; clear hok a H; intro a w8 b3 H hok
    refine h_store TB_Relay4 hok H 0 (us := [.int .i64 ((ackP (n00 : Int) (n04 : Int) (n01 : Int) (n02 : Int) l).k), .int .i64 ((ackP (n00 : Int) (n04 : Int) (n01 : Int) (n02 : Int) l).epoch), .int .i64 ((ackP (n00 : Int) (n04 : Int) (n01 : Int) (n02 : Int) l).req), .int .i64 ((ackP (n00 : Int) (n04 : Int) (n01 : Int) (n02 : Int) l).serial), .bool ((ackP (n00 : Int) (n04 : Int) (n01 : Int) (n02 : Int) l).flag), .int .u64 ((ackP (n00 : Int) (n04 : Int) (n01 : Int) (n02 : Int) l).at_ : Int), .int .u64 ((ackP (n00 : Int) (n04 : Int) (n01 : Int) (n02 : Int) l).last : Int), .int .i64 ((ackP (n00 : Int) (n04 : Int) (n01 : Int) (n02 : Int) l).n), .int .i64 ((ackP (n00 : Int) (n04 : Int) (n01 : Int) (n02 : Int) l).m), .int .i64 ((ackP (n00 : Int) (n04 : Int) (n01 : Int) (n02 : Int) l).p), .int .i64 ((ackP (n00 : Int) (n04 : Int) (n01 : Int) (n02 : Int) l).e), .string ((ackP (n00 : Int) (n04 : Int) (n01 : Int) (n02 : Int) l).key), .string ((ackP (n00 : Int) (n04 : Int) (n01 : Int) (n02 : Int) l).to_), .int .i64 ((ackP (n00 : Int) (n04 : Int) (n01 : Int) (n02 : Int) l).conf.epoch), .slice ao_q6 (((ackP (n00 : Int) (n04 : Int) (n01 : Int) (n02 : Int) l).conf.members).length) cap_q6, .int .u64 ((ackP (n00 : Int) (n04 : Int) (n01 : Int) (n02 : Int) l).conf.floor : Int), .int .i64 ((ackP (n00 : Int) (n04 : Int) (n01 : Int) (n02 : Int) l).batch.client), .int .i64 ((ackP (n00 : Int) (n04 : Int) (n01 : Int) (n02 : Int) l).batch.req), .slice ao_q7 (((ackP (n00 : Int) (n04 : Int) (n01 : Int) (n02 : Int) l).batch.ops).length) cap_q7, .slice ao_q8 (((ackP (n00 : Int) (n04 : Int) (n01 : Int) (n02 : Int) l).entries).length) cap_q8, .slice ao_q9 (((ackP (n00 : Int) (n04 : Int) (n01 : Int) (n02 : Int) l).stamps).length) cap_q9, .slice ao_q10 (((ackP (n00 : Int) (n04 : Int) (n01 : Int) (n02 : Int) l).pairs).length) cap_q10]) (cl' := [.int .i64 ((ackP (n00 : Int) (n04 : Int) (n01 : Int) (n02 : Int) l).k), .int .i64 ((ackP (n00 : Int) (n04 : Int) (n01 : Int) (n02 : Int) l).epoch), .int .i64 ((ackP (n00 : Int) (n04 : Int) (n01 : Int) (n02 : Int) l).req), .int .i64 ((ackP (n00 : Int) (n04 : Int) (n01 : Int) (n02 : Int) l).serial), .bool ((ackP (n00 : Int) (n04 : Int) (n01 : Int) (n02 : Int) l).flag), .int .u64 ((ackP (n00 : Int) (n04 : Int) (n01 : Int) (n02 : Int) l).at_ : Int), .int .u64 ((ackP (n00 : Int) (n04 : Int) (n01 : Int) (n02 : Int) l).last : Int), .int .i64 ((ackP (n00 : Int) (n04 : Int) (n01 : Int) (n02 : Int) l).n), .int .i64 ((ackP (n00 : Int) (n04 : Int) (n01 : Int) (n02 : Int) l).m), .int .i64 ((ackP (n00 : Int) (n04 : Int) (n01 : Int) (n02 : Int) l).p), .int .i64 ((ackP (n00 : Int) (n04 : Int) (n01 : Int) (n02 : Int) l).e), .string ((ackP (n00 : Int) (n04 : Int) (n01 : Int) (n02 : Int) l).key), .string ((ackP (n00 : Int) (n04 : Int) (n01 : Int) (n02 : Int) l).to_), .int .i64 ((ackP (n00 : Int) (n04 : Int) (n01 : Int) (n02 : Int) l).conf.epoch), .slice ao_q6 (((ackP (n00 : Int) (n04 : Int) (n01 : Int) (n02 : Int) l).conf.members).length) cap_q6, .int .u64 ((ackP (n00 : Int) (n04 : Int) (n01 : Int) (n02 : Int) l).conf.floor : Int), .int .i64 ((ackP (n00 : Int) (n04 : Int) (n01 : Int) (n02 : Int) l).batch.client), .int .i64 ((ackP (n00 : Int) (n04 : Int) (n01 : Int) (n02 : Int) l).batch.req), .slice ao_q7 (((ackP (n00 : Int) (n04 : Int) (n01 : Int) (n02 : Int) l).batch.ops).length) cap_q7, .slice ao_q8 (((ackP (n00 : Int) (n04 : Int) (n01 : Int) (n02 : Int) l).entries).length) cap_q8, .slice ao_q9 (((ackP (n00 : Int) (n04 : Int) (n01 : Int) (n02 : Int) l).stamps).length) cap_q9, .slice ao_q10 (((ackP (n00 : Int) (n04 : Int) (n01 : Int) (n02 : Int) l).pairs).length) cap_q10]) rfl rfl rfl rfl rfl rfl rfl rfl rfl (ones_all rfl) (Nat.le_of_ble_eq_true rfl) (putCells_all rfl) ?_; clear H; intro w9 H
    dsimp only [List.eraseIdx] at H
    refine s_end hok [0, 1, 2, 4, 6, 16, 7, 8] rfl ?_; clear hok; intro hok
    refine p_then ?_
    refine wp_seq ?_
    refine f_quiet hok ?_; clear hok; intro hok
    refine q_ob hok (v := .agg #[.int .i64 ((fwdP (n00 : Int) (n01 : Int) (n02 : Int) (n03 : Int) horizon l (n04 : Int)).k), .int .i64 ((fwdP (n00 : Int) (n01 : Int) (n02 : Int) (n03 : Int) horizon l (n04 : Int)).epoch), .int .i64 ((fwdP (n00 : Int) (n01 : Int) (n02 : Int) (n03 : Int) horizon l (n04 : Int)).req), .int .i64 ((fwdP (n00 : Int) (n01 : Int) (n02 : Int) (n03 : Int) horizon l (n04 : Int)).serial), .bool ((fwdP (n00 : Int) (n01 : Int) (n02 : Int) (n03 : Int) horizon l (n04 : Int)).flag), .int .u64 ((fwdP (n00 : Int) (n01 : Int) (n02 : Int) (n03 : Int) horizon l (n04 : Int)).at_ : Int), .int .u64 ((fwdP (n00 : Int) (n01 : Int) (n02 : Int) (n03 : Int) horizon l (n04 : Int)).last : Int), .int .i64 ((fwdP (n00 : Int) (n01 : Int) (n02 : Int) (n03 : Int) horizon l (n04 : Int)).n), .int .i64 ((fwdP (n00 : Int) (n01 : Int) (n02 : Int) (n03 : Int) horizon l (n04 : Int)).m), .int .i64 ((fwdP (n00 : Int) (n01 : Int) (n02 : Int) (n03 : Int) horizon l (n04 : Int)).p), .int .i64 ((fwdP (n00 : Int) (n01 : Int) (n02 : Int) (n03 : Int) horizon l (n04 : Int)).e), .string ((fwdP (n00 : Int) (n01 : Int) (n02 : Int) (n03 : Int) horizon l (n04 : Int)).key), .string ((fwdP (n00 : Int) (n01 : Int) (n02 : Int) (n03 : Int) horizon l (n04 : Int)).to_), .int .i64 ((fwdP (n00 : Int) (n01 : Int) (n02 : Int) (n03 : Int) horizon l (n04 : Int)).conf.epoch), .slice ao_q1 (((fwdP (n00 : Int) (n01 : Int) (n02 : Int) (n03 : Int) horizon l (n04 : Int)).conf.members).length) cap_q1, .int .u64 ((fwdP (n00 : Int) (n01 : Int) (n02 : Int) (n03 : Int) horizon l (n04 : Int)).conf.floor : Int), .int .i64 ((fwdP (n00 : Int) (n01 : Int) (n02 : Int) (n03 : Int) horizon l (n04 : Int)).batch.client), .int .i64 ((fwdP (n00 : Int) (n01 : Int) (n02 : Int) (n03 : Int) horizon l (n04 : Int)).batch.req), .slice ao_q2 (((fwdP (n00 : Int) (n01 : Int) (n02 : Int) (n03 : Int) horizon l (n04 : Int)).batch.ops).length) cap_q2, .slice ao_q3 (((fwdP (n00 : Int) (n01 : Int) (n02 : Int) (n03 : Int) horizon l (n04 : Int)).entries).length) cap_q3, .slice ao_q4 (((fwdP (n00 : Int) (n01 : Int) (n02 : Int) (n03 : Int) horizon l (n04 : Int)).stamps).length) cap_q4, .slice ao_q5 (((fwdP (n00 : Int) (n01 : Int) (n02 : Int) (n03 : Int) horizon l (n04 : Int)).pairs).length) cap_q5]) rfl rfl (by decide) rfl (fun _ hw => Ob_loads TB_Relay4 (cs := [.int .i64 ((fwdP (n00 : Int) (n01 : Int) (n02 : Int) (n03 : Int) horizon l (n04 : Int)).k), .int .i64 ((fwdP (n00 : Int) (n01 : Int) (n02 : Int) (n03 : Int) horizon l (n04 : Int)).epoch), .int .i64 ((fwdP (n00 : Int) (n01 : Int) (n02 : Int) (n03 : Int) horizon l (n04 : Int)).req), .int .i64 ((fwdP (n00 : Int) (n01 : Int) (n02 : Int) (n03 : Int) horizon l (n04 : Int)).serial), .bool ((fwdP (n00 : Int) (n01 : Int) (n02 : Int) (n03 : Int) horizon l (n04 : Int)).flag), .int .u64 ((fwdP (n00 : Int) (n01 : Int) (n02 : Int) (n03 : Int) horizon l (n04 : Int)).at_ : Int), .int .u64 ((fwdP (n00 : Int) (n01 : Int) (n02 : Int) (n03 : Int) horizon l (n04 : Int)).last : Int), .int .i64 ((fwdP (n00 : Int) (n01 : Int) (n02 : Int) (n03 : Int) horizon l (n04 : Int)).n), .int .i64 ((fwdP (n00 : Int) (n01 : Int) (n02 : Int) (n03 : Int) horizon l (n04 : Int)).m), .int .i64 ((fwdP (n00 : Int) (n01 : Int) (n02 : Int) (n03 : Int) horizon l (n04 : Int)).p), .int .i64 ((fwdP (n00 : Int) (n01 : Int) (n02 : Int) (n03 : Int) horizon l (n04 : Int)).e), .string ((fwdP (n00 : Int) (n01 : Int) (n02 : Int) (n03 : Int) horizon l (n04 : Int)).key), .string ((fwdP (n00 : Int) (n01 : Int) (n02 : Int) (n03 : Int) horizon l (n04 : Int)).to_), .int .i64 ((fwdP (n00 : Int) (n01 : Int) (n02 : Int) (n03 : Int) horizon l (n04 : Int)).conf.epoch), .slice ao_q1 (((fwdP (n00 : Int) (n01 : Int) (n02 : Int) (n03 : Int) horizon l (n04 : Int)).conf.members).length) cap_q1, .int .u64 ((fwdP (n00 : Int) (n01 : Int) (n02 : Int) (n03 : Int) horizon l (n04 : Int)).conf.floor : Int), .int .i64 ((fwdP (n00 : Int) (n01 : Int) (n02 : Int) (n03 : Int) horizon l (n04 : Int)).batch.client), .int .i64 ((fwdP (n00 : Int) (n01 : Int) (n02 : Int) (n03 : Int) horizon l (n04 : Int)).batch.req), .slice ao_q2 (((fwdP (n00 : Int) (n01 : Int) (n02 : Int) (n03 : Int) horizon l (n04 : Int)).batch.ops).length) cap_q2, .slice ao_q3 (((fwdP (n00 : Int) (n01 : Int) (n02 : Int) (n03 : Int) horizon l (n04 : Int)).entries).length) cap_q3, .slice ao_q4 (((fwdP (n00 : Int) (n01 : Int) (n02 : Int) (n03 : Int) horizon l (n04 : Int)).stamps).length) cap_q4, .slice ao_q5 (((fwdP (n00 : Int) (n01 : Int) (n02 : Int) (n03 : Int) horizon l (n04 : Int)).pairs).length) cap_q5]) rfl rfl rfl ((H.bx 6 rfl).below hw).at) ?_; clear hok a; intro a hok
    refine q_call hok (caps := #[]) (v := .int .i64 (checkM (fwdP (n00 : Int) (n01 : Int) (n02 : Int) (n03 : Int) horizon l (n04 : Int)))) fn_11_Relay4 rfl rfl rfl rfl rfl (by decide) rfl rfl (fun _ hw => c_ref09_Check (fwdP (n00 : Int) (n01 : Int) (n02 : Int) (n03 : Int) horizon l (n04 : Int)) _ _ _ _ _ _ ((H.blw hw).sl 11 rfl) ((H.blw hw).sl 10 rfl) ((H.blw hw).sl 9 rfl) ((H.blw hw).sl 8 rfl) ((H.blw hw).sl 7 rfl) hx1) ?_; clear hok a; intro a hok
    refine q_runk TB_Relay4 hok 2 rfl rfl ?_; clear hok a; intro a hok
    refine gq_ob hok (p := ((checkM (fwdP (n00 : Int) (n01 : Int) (n02 : Int) (n03 : Int) horizon l (n04 : Int))) == 0)) (v := .agg #[.int .i64 ((ackP (n00 : Int) (n04 : Int) (n01 : Int) (n02 : Int) l).k), .int .i64 ((ackP (n00 : Int) (n04 : Int) (n01 : Int) (n02 : Int) l).epoch), .int .i64 ((ackP (n00 : Int) (n04 : Int) (n01 : Int) (n02 : Int) l).req), .int .i64 ((ackP (n00 : Int) (n04 : Int) (n01 : Int) (n02 : Int) l).serial), .bool ((ackP (n00 : Int) (n04 : Int) (n01 : Int) (n02 : Int) l).flag), .int .u64 ((ackP (n00 : Int) (n04 : Int) (n01 : Int) (n02 : Int) l).at_ : Int), .int .u64 ((ackP (n00 : Int) (n04 : Int) (n01 : Int) (n02 : Int) l).last : Int), .int .i64 ((ackP (n00 : Int) (n04 : Int) (n01 : Int) (n02 : Int) l).n), .int .i64 ((ackP (n00 : Int) (n04 : Int) (n01 : Int) (n02 : Int) l).m), .int .i64 ((ackP (n00 : Int) (n04 : Int) (n01 : Int) (n02 : Int) l).p), .int .i64 ((ackP (n00 : Int) (n04 : Int) (n01 : Int) (n02 : Int) l).e), .string ((ackP (n00 : Int) (n04 : Int) (n01 : Int) (n02 : Int) l).key), .string ((ackP (n00 : Int) (n04 : Int) (n01 : Int) (n02 : Int) l).to_), .int .i64 ((ackP (n00 : Int) (n04 : Int) (n01 : Int) (n02 : Int) l).conf.epoch), .slice ao_q6 (((ackP (n00 : Int) (n04 : Int) (n01 : Int) (n02 : Int) l).conf.members).length) cap_q6, .int .u64 ((ackP (n00 : Int) (n04 : Int) (n01 : Int) (n02 : Int) l).conf.floor : Int), .int .i64 ((ackP (n00 : Int) (n04 : Int) (n01 : Int) (n02 : Int) l).batch.client), .int .i64 ((ackP (n00 : Int) (n04 : Int) (n01 : Int) (n02 : Int) l).batch.req), .slice ao_q7 (((ackP (n00 : Int) (n04 : Int) (n01 : Int) (n02 : Int) l).batch.ops).length) cap_q7, .slice ao_q8 (((ackP (n00 : Int) (n04 : Int) (n01 : Int) (n02 : Int) l).entries).length) cap_q8, .slice ao_q9 (((ackP (n00 : Int) (n04 : Int) (n01 : Int) (n02 : Int) l).stamps).length) cap_q9, .slice ao_q10 (((ackP (n00 : Int) (n04 : Int) (n01 : Int) (n02 : Int) l).pairs).length) cap_q10]) (S' := [(8, .pointer (some ⟨b3, 0, none⟩))]) rfl rfl rfl (wantB_t _) rfl (by decide) (fun hp hS => hS.sub (ts := [8]) rfl) (fun hp => ?_) ?_
    · have hg2 := eq_of_beq hp
      exact fun _ hw => Ob_loads TB_Relay4 (cs := [.int .i64 ((ackP (n00 : Int) (n04 : Int) (n01 : Int) (n02 : Int) l).k), .int .i64 ((ackP (n00 : Int) (n04 : Int) (n01 : Int) (n02 : Int) l).epoch), .int .i64 ((ackP (n00 : Int) (n04 : Int) (n01 : Int) (n02 : Int) l).req), .int .i64 ((ackP (n00 : Int) (n04 : Int) (n01 : Int) (n02 : Int) l).serial), .bool ((ackP (n00 : Int) (n04 : Int) (n01 : Int) (n02 : Int) l).flag), .int .u64 ((ackP (n00 : Int) (n04 : Int) (n01 : Int) (n02 : Int) l).at_ : Int), .int .u64 ((ackP (n00 : Int) (n04 : Int) (n01 : Int) (n02 : Int) l).last : Int), .int .i64 ((ackP (n00 : Int) (n04 : Int) (n01 : Int) (n02 : Int) l).n), .int .i64 ((ackP (n00 : Int) (n04 : Int) (n01 : Int) (n02 : Int) l).m), .int .i64 ((ackP (n00 : Int) (n04 : Int) (n01 : Int) (n02 : Int) l).p), .int .i64 ((ackP (n00 : Int) (n04 : Int) (n01 : Int) (n02 : Int) l).e), .string ((ackP (n00 : Int) (n04 : Int) (n01 : Int) (n02 : Int) l).key), .string ((ackP (n00 : Int) (n04 : Int) (n01 : Int) (n02 : Int) l).to_), .int .i64 ((ackP (n00 : Int) (n04 : Int) (n01 : Int) (n02 : Int) l).conf.epoch), .slice ao_q6 (((ackP (n00 : Int) (n04 : Int) (n01 : Int) (n02 : Int) l).conf.members).length) cap_q6, .int .u64 ((ackP (n00 : Int) (n04 : Int) (n01 : Int) (n02 : Int) l).conf.floor : Int), .int .i64 ((ackP (n00 : Int) (n04 : Int) (n01 : Int) (n02 : Int) l).batch.client), .int .i64 ((ackP (n00 : Int) (n04 : Int) (n01 : Int) (n02 : Int) l).batch.req), .slice ao_q7 (((ackP (n00 : Int) (n04 : Int) (n01 : Int) (n02 : Int) l).batch.ops).length) cap_q7, .slice ao_q8 (((ackP (n00 : Int) (n04 : Int) (n01 : Int) (n02 : Int) l).entries).length) cap_q8, .slice ao_q9 (((ackP (n00 : Int) (n04 : Int) (n01 : Int) (n02 : Int) l).stamps).length) cap_q9, .slice ao_q10 (((ackP (n00 : Int) (n04 : Int) (n01 : Int) (n02 : Int) l).pairs).length) cap_q10]) rfl rfl rfl ((H.bx 0 rfl).below hw).at
    clear hok a; intro a hok
    refine gq_call hok (p := ((checkM (fwdP (n00 : Int) (n01 : Int) (n02 : Int) (n03 : Int) horizon l (n04 : Int))) == 0)) (v := .int .i64 (checkM (ackP (n00 : Int) (n04 : Int) (n01 : Int) (n02 : Int) l))) (S' := [(54, .agg #[.int .i64 ((ackP (n00 : Int) (n04 : Int) (n01 : Int) (n02 : Int) l).k), .int .i64 ((ackP (n00 : Int) (n04 : Int) (n01 : Int) (n02 : Int) l).epoch), .int .i64 ((ackP (n00 : Int) (n04 : Int) (n01 : Int) (n02 : Int) l).req), .int .i64 ((ackP (n00 : Int) (n04 : Int) (n01 : Int) (n02 : Int) l).serial), .bool ((ackP (n00 : Int) (n04 : Int) (n01 : Int) (n02 : Int) l).flag), .int .u64 ((ackP (n00 : Int) (n04 : Int) (n01 : Int) (n02 : Int) l).at_ : Int), .int .u64 ((ackP (n00 : Int) (n04 : Int) (n01 : Int) (n02 : Int) l).last : Int), .int .i64 ((ackP (n00 : Int) (n04 : Int) (n01 : Int) (n02 : Int) l).n), .int .i64 ((ackP (n00 : Int) (n04 : Int) (n01 : Int) (n02 : Int) l).m), .int .i64 ((ackP (n00 : Int) (n04 : Int) (n01 : Int) (n02 : Int) l).p), .int .i64 ((ackP (n00 : Int) (n04 : Int) (n01 : Int) (n02 : Int) l).e), .string ((ackP (n00 : Int) (n04 : Int) (n01 : Int) (n02 : Int) l).key), .string ((ackP (n00 : Int) (n04 : Int) (n01 : Int) (n02 : Int) l).to_), .int .i64 ((ackP (n00 : Int) (n04 : Int) (n01 : Int) (n02 : Int) l).conf.epoch), .slice ao_q6 (((ackP (n00 : Int) (n04 : Int) (n01 : Int) (n02 : Int) l).conf.members).length) cap_q6, .int .u64 ((ackP (n00 : Int) (n04 : Int) (n01 : Int) (n02 : Int) l).conf.floor : Int), .int .i64 ((ackP (n00 : Int) (n04 : Int) (n01 : Int) (n02 : Int) l).batch.client), .int .i64 ((ackP (n00 : Int) (n04 : Int) (n01 : Int) (n02 : Int) l).batch.req), .slice ao_q7 (((ackP (n00 : Int) (n04 : Int) (n01 : Int) (n02 : Int) l).batch.ops).length) cap_q7, .slice ao_q8 (((ackP (n00 : Int) (n04 : Int) (n01 : Int) (n02 : Int) l).entries).length) cap_q8, .slice ao_q9 (((ackP (n00 : Int) (n04 : Int) (n01 : Int) (n02 : Int) l).stamps).length) cap_q9, .slice ao_q10 (((ackP (n00 : Int) (n04 : Int) (n01 : Int) (n02 : Int) l).pairs).length) cap_q10])]) (caps := #[]) fn_11_Relay4 rfl rfl rfl (wantB_t _) rfl (by decide) (fun hp hS => (hS.conv (t := 54) rfl (cond_t hp)).sub (ts := [54]) rfl) rfl rfl rfl rfl (fun hp => ?_) ?_
    · have hg3 := eq_of_beq hp
      exact fun _ hw => c_ref09_Check (ackP (n00 : Int) (n04 : Int) (n01 : Int) (n02 : Int) l) _ _ _ _ _ _ ((H.blw hw).sl 5 rfl) ((H.blw hw).sl 4 rfl) ((H.blw hw).sl 3 rfl) ((H.blw hw).sl 2 rfl) ((H.blw hw).sl 1 rfl) hx2
    clear hok a; intro a hok
    refine gq_ob hok (p := ((checkM (fwdP (n00 : Int) (n01 : Int) (n02 : Int) (n03 : Int) horizon l (n04 : Int))) == 0)) (v := .bool ((checkM (ackP (n00 : Int) (n04 : Int) (n01 : Int) (n02 : Int) l)) == 0)) (S' := [(55, .int .i64 (checkM (ackP (n00 : Int) (n04 : Int) (n01 : Int) (n02 : Int) l)))]) rfl rfl rfl (wantB_t _) rfl (by decide) (fun hp hS => (hS.conv (t := 55) rfl (cond_t hp)).sub (ts := [55]) rfl) (fun _ => fun _ _ => Ob_c TB_Relay4 rfl) ?_; clear hok a; intro a hok
    refine q_ob hok (v := .bool (((checkM (fwdP (n00 : Int) (n01 : Int) (n02 : Int) (n03 : Int) horizon l (n04 : Int))) == 0) && ((checkM (ackP (n00 : Int) (n04 : Int) (n01 : Int) (n02 : Int) l)) == 0))) rfl rfl (by decide) rfl (fun _ _ => Ob_pick rfl rfl rfl rfl (pick_and _ _)) ?_; clear hok a; intro a hok
    refine q_runk TB_Relay4 hok 1 rfl rfl ?_; clear hok a; intro a hok
    refine gq_ob hok (p := (((checkM (fwdP (n00 : Int) (n01 : Int) (n02 : Int) (n03 : Int) horizon l (n04 : Int))) == 0) && ((checkM (ackP (n00 : Int) (n04 : Int) (n01 : Int) (n02 : Int) l)) == 0))) (v := .pointer (some ⟨b2, 19, none⟩)) (S' := [(7, .pointer (some ⟨b2, 0, none⟩))]) rfl rfl rfl (wantB_t _) rfl (by decide) (fun hp hS => hS.sub (ts := [7]) rfl) (fun _ => fun _ _ => Ob_c TB_Relay4 rfl) ?_; clear hok a; intro a hok
    refine gq_ob hok (p := (((checkM (fwdP (n00 : Int) (n01 : Int) (n02 : Int) (n03 : Int) horizon l (n04 : Int))) == 0) && ((checkM (ackP (n00 : Int) (n04 : Int) (n01 : Int) (n02 : Int) l)) == 0))) (v := .slice ao_q3 (((fwdP (n00 : Int) (n01 : Int) (n02 : Int) (n03 : Int) horizon l (n04 : Int)).entries).length) cap_q3) (S' := [(59, .pointer (some ⟨b2, 19, none⟩))]) rfl rfl rfl (wantB_t _) rfl (by decide) (fun hp hS => (hS.conv (t := 59) rfl (cond_t hp)).sub (ts := [59]) rfl) (fun hp => ?_) ?_
    · have hg4 := And.intro (eq_of_beq (andT1 hp)) (eq_of_beq (andT2 hp))
      exact fun _ hw => Ob_load TB_Relay4 rfl rfl rfl (((H.bx 6 rfl).below hw).cell 19 rfl)
    clear hok a; intro a hok
    refine gq_call hok (p := (((checkM (fwdP (n00 : Int) (n01 : Int) (n02 : Int) (n03 : Int) horizon l (n04 : Int))) == 0) && ((checkM (ackP (n00 : Int) (n04 : Int) (n01 : Int) (n02 : Int) l)) == 0))) (v := .int .i64 (rightL ((fwdP (n00 : Int) (n01 : Int) (n02 : Int) (n03 : Int) horizon l (n04 : Int)).entries))) (S' := [(60, .slice ao_q3 (((fwdP (n00 : Int) (n01 : Int) (n02 : Int) (n03 : Int) horizon l (n04 : Int)).entries).length) cap_q3)]) (caps := #[]) fn_7_Relay4 rfl rfl rfl (wantB_t _) rfl (by decide) (fun hp hS => (hS.conv (t := 60) rfl (cond_t hp)).sub (ts := [60]) rfl) rfl rfl rfl rfl (fun hp => ?_) ?_
    · have hg5 := And.intro (eq_of_beq (andT1 hp)) (eq_of_beq (andT2 hp))
      exact fun _ hw => c_ref08_Right _ ((fwdP (n00 : Int) (n01 : Int) (n02 : Int) (n03 : Int) horizon l (n04 : Int)).entries) _ ((H.blw hw).sl 9 rfl)
    clear hok a; intro a hok
    refine gq_ob hok (p := (((checkM (fwdP (n00 : Int) (n01 : Int) (n02 : Int) (n03 : Int) horizon l (n04 : Int))) == 0) && ((checkM (ackP (n00 : Int) (n04 : Int) (n01 : Int) (n02 : Int) l)) == 0))) (v := .bool ((rightL ((fwdP (n00 : Int) (n01 : Int) (n02 : Int) (n03 : Int) horizon l (n04 : Int)).entries)) == 0)) (S' := [(61, .int .i64 (rightL ((fwdP (n00 : Int) (n01 : Int) (n02 : Int) (n03 : Int) horizon l (n04 : Int)).entries)))]) rfl rfl rfl (wantB_t _) rfl (by decide) (fun hp hS => (hS.conv (t := 61) rfl (cond_t hp)).sub (ts := [61]) rfl) (fun _ => fun _ _ => Ob_c TB_Relay4 rfl) ?_; clear hok a; intro a hok
    refine q_ob hok (v := .bool ((((checkM (fwdP (n00 : Int) (n01 : Int) (n02 : Int) (n03 : Int) horizon l (n04 : Int))) == 0) && ((checkM (ackP (n00 : Int) (n04 : Int) (n01 : Int) (n02 : Int) l)) == 0)) && ((rightL ((fwdP (n00 : Int) (n01 : Int) (n02 : Int) (n03 : Int) horizon l (n04 : Int)).entries)) == 0))) rfl rfl (by decide) rfl (fun _ _ => Ob_pick rfl rfl rfl rfl (pick_and _ _)) ?_; clear hok a; intro a hok
    refine q_runk TB_Relay4 hok 1 rfl rfl ?_; clear hok a; intro a hok
    refine gq_call hok (p := ((((checkM (fwdP (n00 : Int) (n01 : Int) (n02 : Int) (n03 : Int) horizon l (n04 : Int))) == 0) && ((checkM (ackP (n00 : Int) (n04 : Int) (n01 : Int) (n02 : Int) l)) == 0)) && ((rightL ((fwdP (n00 : Int) (n01 : Int) (n02 : Int) (n03 : Int) horizon l (n04 : Int)).entries)) == 0))) (v := .bool true) (S' := []) (caps := #[]) fn_8_Relay4 rfl rfl rfl (wantB_t _) rfl (by decide) (fun hp hS => hS.sub (ts := []) rfl) rfl rfl rfl rfl (fun hp => ?_) ?_
    · have hg6 := And.intro (And.intro (eq_of_beq (andT1 (andT1 hp))) (eq_of_beq (andT2 (andT1 hp)))) (eq_of_beq (andT2 hp))
      exact fun _ hw => c_awake  _ 
    clear hok a; intro a hok
    refine q_ob hok (v := .bool (((((checkM (fwdP (n00 : Int) (n01 : Int) (n02 : Int) (n03 : Int) horizon l (n04 : Int))) == 0) && ((checkM (ackP (n00 : Int) (n04 : Int) (n01 : Int) (n02 : Int) l)) == 0)) && ((rightL ((fwdP (n00 : Int) (n01 : Int) (n02 : Int) (n03 : Int) horizon l (n04 : Int)).entries)) == 0)) && true)) rfl rfl (by decide) rfl (fun _ _ => Ob_pick rfl rfl rfl rfl (pick_and _ _)) ?_; clear hok a; intro a hok
    refine q_runk TB_Relay4 hok 1 rfl rfl ?_; clear hok a; intro a hok
    refine q_end hok [0, 1, 2, 4, 6, 16, 7, 8] rfl ?_; clear hok; intro w10 hb hok
    replace H := H.blw hb
    clear hb
    refine p_then ?_
    refine wp_ret ?_
    refine f_ret hok (run_results1 rfl hok rfl) ?_
    refine ⟨?_, H.below fun _ h => h⟩
    · clear hok H
      have hr : rightL l = 0 := hc1.2; rw [may_fwd hr n00 n01 n02 n03 horizon n04 h_n00 h_n01 h_n02 h_n03 h_n04, may_ack n00 n04 n01 n02 h_n00 h_n04 h_n01 h_n02, may_right hr]; rfl


end Go.Proofs.Ytmdoimpeacndaaa
