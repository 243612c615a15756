/- The walks of the references that check: configurations, messages. -/
import Derived.Test.YtmdoimpeacndaaaRefs
namespace Go.Proofs.Ytmdoimpeacndaaa
open Go.RowKit

def TB_Refs2L : TabL := ⟨[(30720, 0), (30721, 1), (30722, 2), (37888, 0), (37889, 1), (37890, 2), (37891, 3), (37892, 4), (37893, 5), (37894, 6), (37895, 7), (37896, 8), (37897, 9), (37898, 10), (37899, 11), (37900, 12), (37901, 13), (37902, 16), (37903, 19), (37904, 20), (37905, 21), (83968, 0), (83969, 1), (83970, 2), (83971, 3), (83972, 6), (83973, 7), (83974, 11), (83975, 14), (103424, 0), (103425, 1), (106496, 0), (106497, 1)], [9], [4], [(22, (57, 4)), (28, (101, 2)), (34, (24, 1)), (35, (104, 2))], [(3, (1, false)), (4, (1, false)), (9, (1, false)), (22, (1, false)), (24, (1, false)), (27, (1, false)), (28, (1, false)), (30, (3, true)), (33, (3, true)), (34, (1, false)), (35, (1, false)), (37, (22, true)), (57, (4, true)), (76, (1, false)), (78, (3, true)), (80, (4, true)), (101, (2, true))]⟩
def TB_Refs2 : Tab Try.prog := ⟨TB_Refs2L, by kernel_rfl⟩
theorem fn_28_Refs2 : IsFn Try.prog 28 := ⟨_, Try.func28, by kernel_rfl, by kernel_rfl⟩
theorem fn_37_Refs2 : IsFn Try.prog 37 := ⟨_, Try.func37, by kernel_rfl, by kernel_rfl⟩
theorem fn_38_Refs2 : IsFn Try.prog 38 := ⟨_, Try.func38, by kernel_rfl, by kernel_rfl⟩
theorem fn_40_Refs2 : IsFn Try.prog 40 := ⟨_, Try.func40, by kernel_rfl, by kernel_rfl⟩
theorem fn_41_Refs2 : IsFn Try.prog 41 := ⟨_, Try.func41, by kernel_rfl, by kernel_rfl⟩
theorem fn_42_Refs2 : IsFn Try.prog 42 := ⟨_, Try.func42, by kernel_rfl, by kernel_rfl⟩
theorem fn_43_Refs2 : IsFn Try.prog 43 := ⟨_, Try.func43, by kernel_rfl, by kernel_rfl⟩
theorem fn_44_Refs2 : IsFn Try.prog 44 := ⟨_, Try.func44, by kernel_rfl, by kernel_rfl⟩
theorem fn_53_Refs2 : IsFn Try.prog 53 := ⟨_, Try.func53, by kernel_rfl, by kernel_rfl⟩
theorem fn_55_Refs2 : IsFn Try.prog 55 := ⟨_, Try.func55, by kernel_rfl, by kernel_rfl⟩
theorem fn_56_Refs2 : IsFn Try.prog 56 := ⟨_, Try.func56, by kernel_rfl, by kernel_rfl⟩
theorem fn_57_Refs2 : IsFn Try.prog 57 := ⟨_, Try.func57, by kernel_rfl, by kernel_rfl⟩
theorem fn_58_Refs2 : IsFn Try.prog 58 := ⟨_, Try.func58, by kernel_rfl, by kernel_rfl⟩
theorem fn_60_Refs2 : IsFn Try.prog 60 := ⟨_, Try.func60, by kernel_rfl, by kernel_rfl⟩
theorem fn_61_Refs2 : IsFn Try.prog 61 := ⟨_, Try.func61, by kernel_rfl, by kernel_rfl⟩
theorem fn_70_Refs2 : IsFn Try.prog 70 := ⟨_, Try.func70, by kernel_rfl, by kernel_rfl⟩

def memL (m : DMember) : Int := if m.id < 0 ∨ 4 ≤ m.id then 1 else if m.serial < 1 ∨ 1073741824 < m.serial then 5 else 0
def cmL : List Int → List DMember → Int
  | _, [] => 0
  | seen, m :: l => if memL m ≠ 0 then memL m else if m.id ∈ seen then 18 else cmL (seen ++ [m.id]) l
def checkC (c : DConf) : Int := if c.epoch < 1 ∨ 1073741824 < c.epoch then 5 else if c.members.length = 0 then 7 else if 4 < c.members.length then 6 else cmL [] c.members

def idsK (l : List DMember) (k : Nat) : List Int := (l.take k).map (·.id)
theorem idsK_step (l : List DMember) (k : Nat) (h : k < l.length) : idsK l (k + 1) = idsK l k ++ [(l.getD k default).id] := by
  unfold idsK; rw [take_getD l k h, List.map_append]; rfl
theorem cm_step (l : List DMember) (k : Nat) (h : k < l.length) : cmL (idsK l k) (l.drop k) = if memL (l.getD k default) ≠ 0 then memL (l.getD k default) else if (l.getD k default).id ∈ idsK l k then 18 else cmL (idsK l (k + 1)) (l.drop (k + 1)) := by
  rw [drop_getD l k h, idsK_step l k h]; rfl

theorem ids_mem {l : List DMember} {j k : Nat} (hj : j < k) (hk : k < l.length) (e : (l.getD j default).id = (l.getD k default).id) : (l.getD k default).id ∈ idsK l k := by
  unfold idsK
  rw [← e, List.mem_map]
  refine ⟨l.getD j default, ?_, rfl⟩
  rw [getD_get _ _ _ (show j < l.length by omega), List.mem_take_iff_getElem]
  exact ⟨j, by omega, rfl⟩

theorem chkC_stop {c : DConf} {k : Nat} {v : Int} (h : checkC c = cmL (idsK c.members k) (c.members.drop k)) (hk : k < c.members.length) (hv : memL (c.members.getD k default) = v) (h0 : v ≠ 0) : Value.int .i64 v = .int .i64 (checkC c) := by
  rw [h, cm_step _ k hk, hv, if_pos h0]

set_option maxHeartbeats 1000000 in
theorem c_ref07_Check {A0 : Nat → Prop} (c : DConf) (v0_c : Value) (w : World) (L0_c : slRep RDMember A0 w v0_c c.members) (h_c : okDConf c) :
    Calls Try.prog 56 #[.agg #[.int .i64 c.epoch, v0_c, .int .u64 (c.floor : Int)]] w (Ret fun r w' => r = .int .i64 (checkC c) ∧ Below w.heap.size w w') := by
  have B : Bt [] w w := Bt.refl _ _
  obtain ⟨ao_v0_c, cap_v0_c, rfl, hc_v0_c, hm_v0_c⟩ := L0_c.shape
  unfold maxLen at hm_v0_c
  obtain ⟨P1, ha_P1, ho_P1, L0_c⟩ : ∃ X : Nat → Prop, (∀ k, X k → k < w.heap.size) ∧ (∀ k, X k → A0 k ∨ w.heap.size ≤ k) ∧ slRep RDMember X w (.slice ao_v0_c c.members.length cap_v0_c) c.members := ⟨_, fun k h => h.2, fun k h => .inl h.1, L0_c.bound⟩
  refine f_enter 64 Try.func56 rfl rfl (Nat.le_of_ble_eq_true rfl) fun a hok => ?_
  replace hok := hok.sub (ts := [0]) rfl
  refine wp_seq ?_
  refine f_region hok ?_; clear hok; intro hok
  refine s_boxv hok (cs := [.int .i64 c.epoch, .slice ao_v0_c c.members.length cap_v0_c, .int .u64 (c.floor : Int)]) rfl rfl rfl (by decide) rfl rfl rfl ?_; clear hok a; intro a w1 b1 hb0_b1 hb1_b1 hb X1 hok
  have hge_b1 : w.heap.size ≤ b1 := by have := B.size; omega
  have hz_w1 : w.heap.size ≤ w1.heap.size := hb.size
  replace B := B.blw hb
  replace L0_c := L0_c.below hb
  clear hb
  refine s_runk TB_Refs2 hok 1 rfl rfl ?_; clear hok a; intro a hok
  refine s_end hok [0, 1, 2] rfl ?_; clear hok; intro hok
  refine p_then ?_
  refine wp_seq ?_
  refine wp_seq ?_
  refine f_region hok ?_; clear hok; intro hok
  refine s_runk TB_Refs2 hok 1 rfl rfl ?_; clear hok a; intro a hok
  refine s_ob hok (v := .int .i64 c.epoch) rfl rfl (by decide) rfl (Ob_load TB_Refs2 rfl rfl rfl (X1.cell 0 rfl)) ?_; clear hok a; intro a hok
  refine s_runk TB_Refs2 hok 2 rfl rfl ?_; clear hok a; intro a hok
  refine s_gob hok (c := decide (c.epoch < 1)) rfl rfl rfl rfl (by decide) rfl (by decide) rfl (fun _ => Ob_c TB_Refs2 rfl) ?_; clear hok a; intro a hok
  refine s_gob hok (c := decide (c.epoch < 1)) (v := .int .i64 c.epoch) rfl rfl rfl rfl (by decide) rfl (by decide) rfl (fun hg1 => ?_) ?_
  · replace hg1 := of_decide_eq_false hg1
    exact Ob_load TB_Refs2 rfl rfl rfl (X1.cell 0 rfl)
  clear hok a; intro a hok
  refine s_gob hok (c := decide (c.epoch < 1)) rfl rfl rfl rfl (by decide) rfl (by decide) rfl (fun _ => Ob_c TB_Refs2 rfl) ?_; clear hok a; intro a hok
  refine s_or hok (i := 3) rfl rfl rfl rfl rfl rfl rfl (by decide) rfl rfl ?_; clear hok a; intro a hok
  refine s_end hok [0, 1, 2, 13] rfl ?_; clear hok; intro hok
  refine p_then ?_
  refine f_cond hok rfl (fun hc1 => ?_) (fun hc1 => ?_)
  · replace hc1 := orT hc1 (fun h => of_decide_eq_true h) (fun h => of_decide_eq_true h)
    refine wp_seq ?_
    refine f_region hok ?_; clear hok; intro hok
    refine s_runk TB_Refs2 hok 1 rfl rfl ?_; clear hok a; intro a hok
    refine s_end hok [0, 1, 2, 13] rfl ?_; clear hok; intro hok
    refine p_then ?_
    refine wp_ret ?_
    refine p_then_r ?_
    refine f_ret hok (run_results1 rfl hok rfl) ?_
    refine ⟨?_, B.toBelow⟩
    · clear hok B L0_c X1 hc_v0_c hm_v0_c ha_P1 ho_P1 hb0_b1 hb1_b1 hge_b1 hz_w1
      (unfold checkC; (repeat' split) <;> first | rfl | (exfalso; omega) | grind)
  · replace hc1 := And.intro (of_decide_eq_false (orF1 hc1)) (of_decide_eq_false (orF2 hc1))
    refine wp_skip ?_
    refine p_then ?_
    refine wp_seq ?_
    refine wp_seq ?_
    refine f_region hok ?_; clear hok; intro hok
    refine s_runk TB_Refs2 hok 1 rfl rfl ?_; clear hok a; intro a hok
    refine s_ob hok (v := .slice ao_v0_c c.members.length cap_v0_c) rfl rfl (by decide) rfl (Ob_load TB_Refs2 rfl rfl rfl (X1.cell 1 rfl)) ?_; clear hok a; intro a hok
    refine s_runk TB_Refs2 hok 2 rfl rfl ?_; clear hok a; intro a hok
    refine s_end hok [0, 1, 2, 13, 17] rfl ?_; clear hok; intro hok
    refine p_then ?_
    refine f_cond hok rfl (fun hc2 => ?_) (fun hc2 => ?_)
    · replace hc2 := eq_of_beq hc2
      refine wp_seq ?_
      refine f_region hok ?_; clear hok; intro hok
      refine s_runk TB_Refs2 hok 1 rfl rfl ?_; clear hok a; intro a hok
      refine s_end hok [0, 1, 2, 13, 17] rfl ?_; clear hok; intro hok
      refine p_then ?_
      refine wp_ret ?_
      refine p_then_r ?_
      refine f_ret hok (run_results1 rfl hok rfl) ?_
      refine ⟨?_, B.toBelow⟩
      · clear hok B L0_c X1 hc_v0_c hm_v0_c ha_P1 ho_P1 hb0_b1 hb1_b1 hge_b1 hz_w1
        (unfold checkC; (repeat' split) <;> first | rfl | (exfalso; omega) | grind)
    · replace hc2 := ne_of_beq_false hc2
      refine wp_skip ?_
      refine p_then ?_
      refine wp_seq ?_
      refine wp_seq ?_
      refine f_region hok ?_; clear hok; intro hok
      refine s_runk TB_Refs2 hok 1 rfl rfl ?_; clear hok a; intro a hok
      refine s_ob hok (v := .slice ao_v0_c c.members.length cap_v0_c) rfl rfl (by decide) rfl (Ob_load TB_Refs2 rfl rfl rfl (X1.cell 1 rfl)) ?_; clear hok a; intro a hok
      refine s_runk TB_Refs2 hok 2 rfl rfl ?_; clear hok a; intro a hok
      refine s_end hok [0, 1, 2, 13, 17, 21] rfl ?_; clear hok; intro hok
      refine p_then ?_
      refine f_cond hok rfl (fun hc3 => ?_) (fun hc3 => ?_)
      · replace hc3 := of_decide_eq_true hc3
        refine wp_seq ?_
        refine f_region hok ?_; clear hok; intro hok
        refine s_runk TB_Refs2 hok 1 rfl rfl ?_; clear hok a; intro a hok
        refine s_end hok [0, 1, 2, 13, 17, 21] rfl ?_; clear hok; intro hok
        refine p_then ?_
        refine wp_ret ?_
        refine p_then_r ?_
        refine f_ret hok (run_results1 rfl hok rfl) ?_
        refine ⟨?_, B.toBelow⟩
        · clear hok B L0_c X1 hc_v0_c hm_v0_c ha_P1 ho_P1 hb0_b1 hb1_b1 hge_b1 hz_w1
          (unfold checkC; (repeat' split) <;> first | rfl | (exfalso; omega) | grind)
      · replace hc3 := of_decide_eq_false hc3
        refine wp_skip ?_
        refine p_then ?_
        refine wp_seq ?_
        refine wp_seq ?_
        refine f_region hok ?_; clear hok; intro hok
        refine s_runk TB_Refs2 hok 1 rfl rfl ?_; clear hok a; intro a hok
        refine s_end hok [0, 1, 2, 13, 17, 21, 3] rfl ?_; clear hok; intro hok
        refine p_then ?_
        refine wp_block ?_
        refine f_loop (σ := Nat) (fun k a w' => Sl 64 [(0, .agg #[.int .i64 c.epoch, .slice ao_v0_c c.members.length cap_v0_c, .int .u64 (c.floor : Int)]), (1, .pointer (some ⟨b1, 0, none⟩)), (13, .bool ((decide (c.epoch < 1)) || (decide (c.epoch > 1073741824)))), (17, .bool ((c.members.length : Int) == 0)), (21, .bool (decide ((c.members.length : Int) > 4))), (3, .int .i64 (k : Int))] a ∧ (k ≤ c.members.length) ∧ (checkC c = cmL (idsK c.members k) (c.members.drop k)) ∧ Bt [] w w' ∧ slRep RDMember P1 w' (.slice ao_v0_c c.members.length cap_v0_c) c.members ∧ Box w' b1 30 [.int .i64 c.epoch, .slice ao_v0_c c.members.length cap_v0_c, .int .u64 (c.floor : Int)]) (fun k => c.members.length - k) 0 ⟨hok.sub (ts := [0, 1, 13, 17, 21, 3]) rfl, by omega, by unfold checkC; rw [if_neg (by omega), if_neg (by omega), if_neg (by omega)]; rfl, B, L0_c, X1⟩ ?_
        clear hok B L0_c X1
        rintro k a w2 ⟨hok, hinv0_0, hinv0_1, B, L0_c, X1⟩
        refine wp_seq ?_
        refine wp_seq ?_
        refine f_region hok ?_; clear hok; intro hok
        refine s_runk TB_Refs2 hok 2 rfl rfl ?_; clear hok a; intro a hok
        refine s_ob hok (v := .slice ao_v0_c c.members.length cap_v0_c) rfl rfl (by decide) rfl (Ob_load TB_Refs2 rfl rfl rfl (X1.cell 1 rfl)) ?_; clear hok a; intro a hok
        refine s_runk TB_Refs2 hok 2 rfl rfl ?_; clear hok a; intro a hok
        refine s_end hok [0, 1, 13, 17, 21, 3, 26] rfl ?_; clear hok; intro hok
        refine p_then ?_
        refine f_cond hok rfl (fun hc4 => ?_) (fun hc4 => ?_)
        · replace hc4 := of_decide_eq_true hc4
          refine wp_skip ?_
          refine p_then ?_
          refine wp_seq ?_
          refine wp_block ?_
          refine wp_seq ?_
          refine f_region hok ?_; clear hok; intro hok
          refine s_runk TB_Refs2 hok 1 rfl rfl ?_; clear hok a; intro a hok
          refine s_ob hok (v := .slice ao_v0_c c.members.length cap_v0_c) rfl rfl (by decide) rfl (Ob_load TB_Refs2 rfl rfl rfl (X1.cell 1 rfl)) ?_; clear hok a; intro a hok
          refine s_runk TB_Refs2 hok 1 rfl rfl ?_; clear hok a; intro a hok
          have hi1 : k < c.members.length := by omega
          have he1 := elt L0_c (k) (slRep.lt L0_c hi1)
          refine s_ob hok (v := .pointer (some ⟨bOf ao_v0_c, oOf ao_v0_c + k * 2, none⟩)) rfl rfl (by decide) rfl (Ob_idx TB_Refs2 (k) rfl rfl he1.1 rfl rfl rfl hi1) ?_; clear hok a; intro a hok
          obtain ⟨_, _, _, ⟨rfl, hok_e1⟩, hat1⟩ := id he1
          refine s_ob hok (v := .agg #[.int .i64 ((c.members.getD k default).id), .int .i64 ((c.members.getD k default).serial)]) rfl rfl (by decide) rfl (Ob_loads TB_Refs2 rfl rfl rfl hat1) ?_; clear hok a; intro a hok
          refine s_alloc hok (cs := [.int .i64 0, .int .i64 0]) (z := .agg #[.int .i64 0, .int .i64 0]) rfl rfl rfl (by decide) rfl (by kernel_rfl) rfl ?_; clear hok a; intro a w3 b2 hb0_b2 hb1_b2 hb X2 hok
          have hge_b2 : w.heap.size ≤ b2 := by have := B.size; omega
          have hlt_b1_b2 : b1 < b2 := by have := X1.lt; omega
          have hz_w3 : w2.heap.size ≤ w3.heap.size := hb.size
          replace B := B.blw hb
          replace L0_c := L0_c.below hb
          replace X1 := X1.below hb
          clear hb
          refine s_store TB_Refs2 hok (us := [.int .i64 ((c.members.getD k default).id), .int .i64 ((c.members.getD k default).serial)]) (cs' := [.int .i64 ((c.members.getD k default).id), .int .i64 ((c.members.getD k default).serial)]) X2 rfl rfl rfl rfl rfl rfl rfl rfl (by simp only [List.mem_cons, List.not_mem_nil, or_false]; rintro u (rfl | rfl) <;> rfl) (Nat.le_of_ble_eq_true rfl) rfl fun w4 ht X3 => ?_
          clear X2
          have hz_w4 : w3.heap.size ≤ w4.heap.size := Nat.le_of_eq ht.size.symm
          replace B := B.trn ht (.inr hge_b2)
          replace L0_c := L0_c.turn ht (fun h => by have := ha_P1 _ h; omega)
          replace X1 := X1.turn ht (by omega)
          clear ht
          refine s_end hok [0, 1, 13, 17, 21, 3, 26, 4] rfl ?_; clear hok; intro hok
          refine p_then ?_
          refine wp_seq ?_
          refine wp_seq ?_
          refine f_region hok ?_; clear hok; intro hok
          refine s_runk TB_Refs2 hok 1 rfl rfl ?_; clear hok a; intro a hok
          refine s_ob hok (v := .int .i64 ((c.members.getD k default).id)) rfl rfl (by decide) rfl (Ob_load TB_Refs2 rfl rfl rfl (X3.cell 0 rfl)) ?_; clear hok a; intro a hok
          refine s_runk TB_Refs2 hok 2 rfl rfl ?_; clear hok a; intro a hok
          refine s_gob hok (c := decide (((c.members.getD k default).id) < 0)) rfl rfl rfl rfl (by decide) rfl (by decide) rfl (fun _ => Ob_c TB_Refs2 rfl) ?_; clear hok a; intro a hok
          refine s_gob hok (c := decide (((c.members.getD k default).id) < 0)) (v := .int .i64 ((c.members.getD k default).id)) rfl rfl rfl rfl (by decide) rfl (by decide) rfl (fun hg2 => ?_) ?_
          · replace hg2 := of_decide_eq_false hg2
            exact Ob_load TB_Refs2 rfl rfl rfl (X3.cell 0 rfl)
          clear hok a; intro a hok
          refine s_gob hok (c := decide (((c.members.getD k default).id) < 0)) rfl rfl rfl rfl (by decide) rfl (by decide) rfl (fun _ => Ob_c TB_Refs2 rfl) ?_; clear hok a; intro a hok
          refine s_or hok (i := 3) rfl rfl rfl rfl rfl rfl rfl (by decide) rfl rfl ?_; clear hok a; intro a hok
          refine s_end hok [0, 1, 13, 17, 21, 3, 26, 4, 41] rfl ?_; clear hok; intro hok
          refine p_then ?_
          refine f_cond hok rfl (fun hc5 => ?_) (fun hc5 => ?_)
          · replace hc5 := orT hc5 (fun h => of_decide_eq_true h) (fun h => of_decide_eq_true h)
            refine wp_seq ?_
            refine f_region hok ?_; clear hok; intro hok
            refine s_runk TB_Refs2 hok 1 rfl rfl ?_; clear hok a; intro a hok
            refine s_end hok [0, 1, 13, 17, 21, 3, 26, 4, 41, 2] rfl ?_; clear hok; intro hok
            refine p_then ?_
            refine wp_ret ?_
            refine p_then_r ?_
            refine p_blk_r ?_
            refine p_then_r ?_
            refine p_then_r ?_
            refine p_blk_r ?_
            refine p_then_r ?_
            refine f_ret hok (run_results1 rfl hok rfl) ?_
            refine ⟨?_, B.toBelow⟩
            · clear hok B L0_c X1 X3 hc_v0_c hm_v0_c ha_P1 ho_P1 hb0_b1 hb1_b1 hge_b1 hz_w1 he1 hat1 hb0_b2 hb1_b2 hge_b2 hlt_b1_b2 hz_w3 hz_w4
              exact chkC_stop hinv0_1 (by omega) (by (unfold memL; (repeat' split) <;> first | rfl | (exfalso; omega) | grind)) (by decide)
          · replace hc5 := And.intro (of_decide_eq_false (orF1 hc5)) (of_decide_eq_false (orF2 hc5))
            refine wp_skip ?_
            refine p_then ?_
            refine wp_seq ?_
            refine wp_seq ?_
            refine f_region hok ?_; clear hok; intro hok
            refine s_runk TB_Refs2 hok 1 rfl rfl ?_; clear hok a; intro a hok
            refine s_ob hok (v := .int .i64 ((c.members.getD k default).serial)) rfl rfl (by decide) rfl (Ob_load TB_Refs2 rfl rfl rfl (X3.cell 1 rfl)) ?_; clear hok a; intro a hok
            refine s_runk TB_Refs2 hok 2 rfl rfl ?_; clear hok a; intro a hok
            refine s_gob hok (c := decide (((c.members.getD k default).serial) < 1)) rfl rfl rfl rfl (by decide) rfl (by decide) rfl (fun _ => Ob_c TB_Refs2 rfl) ?_; clear hok a; intro a hok
            refine s_gob hok (c := decide (((c.members.getD k default).serial) < 1)) (v := .int .i64 ((c.members.getD k default).serial)) rfl rfl rfl rfl (by decide) rfl (by decide) rfl (fun hg3 => ?_) ?_
            · replace hg3 := of_decide_eq_false hg3
              exact Ob_load TB_Refs2 rfl rfl rfl (X3.cell 1 rfl)
            clear hok a; intro a hok
            refine s_gob hok (c := decide (((c.members.getD k default).serial) < 1)) rfl rfl rfl rfl (by decide) rfl (by decide) rfl (fun _ => Ob_c TB_Refs2 rfl) ?_; clear hok a; intro a hok
            refine s_or hok (i := 3) rfl rfl rfl rfl rfl rfl rfl (by decide) rfl rfl ?_; clear hok a; intro a hok
            refine s_end hok [0, 1, 13, 17, 21, 3, 26, 4, 41, 49] rfl ?_; clear hok; intro hok
            refine p_then ?_
            refine f_cond hok rfl (fun hc6 => ?_) (fun hc6 => ?_)
            · replace hc6 := orT hc6 (fun h => of_decide_eq_true h) (fun h => of_decide_eq_true h)
              refine wp_seq ?_
              refine f_region hok ?_; clear hok; intro hok
              refine s_runk TB_Refs2 hok 1 rfl rfl ?_; clear hok a; intro a hok
              refine s_end hok [0, 1, 13, 17, 21, 3, 26, 4, 41, 49, 2] rfl ?_; clear hok; intro hok
              refine p_then ?_
              refine wp_ret ?_
              refine p_then_r ?_
              refine p_blk_r ?_
              refine p_then_r ?_
              refine p_then_r ?_
              refine p_blk_r ?_
              refine p_then_r ?_
              refine f_ret hok (run_results1 rfl hok rfl) ?_
              refine ⟨?_, B.toBelow⟩
              · clear hok B L0_c X1 X3 hc_v0_c hm_v0_c ha_P1 ho_P1 hb0_b1 hb1_b1 hge_b1 hz_w1 he1 hat1 hb0_b2 hb1_b2 hge_b2 hlt_b1_b2 hz_w3 hz_w4
                exact chkC_stop hinv0_1 (by omega) (by (unfold memL; (repeat' split) <;> first | rfl | (exfalso; omega) | grind)) (by decide)
            · replace hc6 := And.intro (of_decide_eq_false (orF1 hc6)) (of_decide_eq_false (orF2 hc6))
              refine wp_skip ?_
              refine p_then ?_
              refine wp_seq ?_
              refine f_region hok ?_; clear hok; intro hok
              refine s_runk TB_Refs2 hok 1 rfl rfl ?_; clear hok a; intro a hok
              refine s_end hok [0, 1, 13, 17, 21, 3, 26, 4, 41, 49, 5] rfl ?_; clear hok; intro hok
              refine p_then ?_
              refine wp_block ?_
              refine f_loop (σ := Nat) (fun j a w' => Sl 64 [(0, .agg #[.int .i64 c.epoch, .slice ao_v0_c c.members.length cap_v0_c, .int .u64 (c.floor : Int)]), (1, .pointer (some ⟨b1, 0, none⟩)), (13, .bool ((decide (c.epoch < 1)) || (decide (c.epoch > 1073741824)))), (17, .bool ((c.members.length : Int) == 0)), (21, .bool (decide ((c.members.length : Int) > 4))), (3, .int .i64 (k : Int)), (26, .bool (decide ((k : Int) < (c.members.length : Int)))), (4, .pointer (some ⟨b2, 0, none⟩)), (41, .bool ((decide (((c.members.getD k default).id) < 0)) || (decide (((c.members.getD k default).id) ≥ 4)))), (49, .bool ((decide (((c.members.getD k default).serial) < 1)) || (decide (((c.members.getD k default).serial) > 1073741824)))), (5, .int .i64 (j : Int))] a ∧ (j ≤ k) ∧ ((c.members.getD k default).id ∉ idsK c.members j) ∧ Bt [] w w' ∧ slRep RDMember P1 w' (.slice ao_v0_c c.members.length cap_v0_c) c.members ∧ Box w' b1 30 [.int .i64 c.epoch, .slice ao_v0_c c.members.length cap_v0_c, .int .u64 (c.floor : Int)] ∧ Box w' b2 101 [.int .i64 ((c.members.getD k default).id), .int .i64 ((c.members.getD k default).serial)]) (fun j => k - j) 0 ⟨hok.sub (ts := [0, 1, 13, 17, 21, 3, 26, 4, 41, 49, 5]) rfl, by omega, by simp [idsK], B, L0_c, X1, X3⟩ ?_
              clear hok B L0_c X1 X3
              rintro j a w5 ⟨hok, hinv1_0, hinv1_1, B, L0_c, X1, X3⟩
              refine wp_seq ?_
              refine wp_seq ?_
              refine f_region hok ?_; clear hok; intro hok
              refine s_runk TB_Refs2 hok 3 rfl rfl ?_; clear hok a; intro a hok
              refine s_end hok [0, 1, 13, 17, 21, 3, 26, 4, 41, 49, 5, 52] rfl ?_; clear hok; intro hok
              refine p_then ?_
              refine f_cond hok rfl (fun hc7 => ?_) (fun hc7 => ?_)
              · replace hc7 := of_decide_eq_true hc7
                refine wp_skip ?_
                refine p_then ?_
                refine wp_seq ?_
                refine wp_block ?_
                refine wp_seq ?_
                refine f_quietd (by kernel_rfl) (by kernel_rfl) hok ?_; clear hok; intro hok
                refine q_runk TB_Refs2 hok 1 rfl rfl ?_; clear hok a; intro a hok
                refine q_ob hok (v := .slice ao_v0_c c.members.length cap_v0_c) rfl rfl (by decide) rfl (fun _ hw => Ob_load TB_Refs2 rfl rfl rfl ((X1.below hw).cell 1 rfl)) ?_; clear hok a; intro a hok
                refine q_runk TB_Refs2 hok 1 rfl rfl ?_; clear hok a; intro a hok
                have hi2 : j < c.members.length := by omega
                have he2 := elt L0_c (j) (slRep.lt L0_c hi2)
                refine q_ob hok (v := .pointer (some ⟨bOf ao_v0_c, oOf ao_v0_c + j * 2, none⟩)) rfl rfl (by decide) rfl (fun _ hw => Ob_idx TB_Refs2 (j) rfl rfl he2.1 rfl rfl rfl hi2) ?_; clear hok a; intro a hok
                refine q_runk TB_Refs2 hok 1 rfl rfl ?_; clear hok a; intro a hok
                obtain ⟨_, _, _, ⟨rfl, hok_e2⟩, hat2⟩ := id he2
                refine q_ob hok (v := .int .i64 ((c.members.getD j default).id)) rfl rfl (by decide) rfl (fun _ hw => Ob_load TB_Refs2 rfl rfl rfl ((hat2.below hw he2.2.1.2) 0 _ rfl)) ?_; clear hok a; intro a hok
                refine q_runk TB_Refs2 hok 1 rfl rfl ?_; clear hok a; intro a hok
                refine q_ob hok (v := .int .i64 ((c.members.getD k default).id)) rfl rfl (by decide) rfl (fun _ hw => Ob_load TB_Refs2 rfl rfl rfl ((X3.below hw).cell 0 rfl)) ?_; clear hok a; intro a hok
                refine q_runk TB_Refs2 hok 1 rfl rfl ?_; clear hok a; intro a hok
                refine q_end hok [0, 1, 13, 17, 21, 3, 26, 4, 41, 49, 5, 52, 63] rfl ?_; clear hok; intro w6 hb hok
                have hz_w6 : w5.heap.size ≤ w6.heap.size := hb.size
                replace B := B.blw hb
                replace L0_c := L0_c.below hb
                replace X1 := X1.below hb
                replace X3 := X3.below hb
                clear hb
                refine p_then ?_
                refine f_cond hok rfl (fun hc8 => ?_) (fun hc8 => ?_)
                · replace hc8 := eq_of_beq hc8
                  refine wp_seq ?_
                  refine f_region hok ?_; clear hok; intro hok
                  refine s_runk TB_Refs2 hok 1 rfl rfl ?_; clear hok a; intro a hok
                  refine s_end hok [0, 1, 13, 17, 21, 3, 26, 4, 41, 49, 5, 52, 63, 2] rfl ?_; clear hok; intro hok
                  refine p_then ?_
                  refine wp_ret ?_
                  refine p_blk_r ?_
                  refine p_then_r ?_
                  refine p_then_r ?_
                  refine p_blk_r ?_
                  refine p_blk_r ?_
                  refine p_then_r ?_
                  refine p_then_r ?_
                  refine p_blk_r ?_
                  refine p_then_r ?_
                  refine f_ret hok (run_results1 rfl hok rfl) ?_
                  refine ⟨?_, B.toBelow⟩
                  · clear hok B L0_c X1 X3 hc_v0_c hm_v0_c ha_P1 ho_P1 hb0_b1 hb1_b1 hge_b1 hz_w1 he1 hat1 hb0_b2 hb1_b2 hge_b2 hlt_b1_b2 hz_w3 hz_w4 he2 hat2 hz_w6
                    have hm : memL (c.members.getD k default) = 0 := (by unfold memL; rw [if_neg (by omega), if_neg (by omega)]); rw [hinv0_1, cm_step _ k (by omega), if_neg (by rw [hm]; decide), if_pos (ids_mem (j := j) (by omega) (by omega) hc8)]
                · replace hc8 := ne_of_beq_false hc8
                  refine wp_skip ?_
                  refine p_blk ?_
                  refine p_then ?_
                  refine f_region hok ?_; clear hok; intro hok
                  refine s_runk TB_Refs2 hok 1 rfl rfl ?_; clear hok a; intro a hok
                  refine s_ob hok (v := .int .i64 ((j : Int) + 1)) rfl rfl (by decide) rfl (Ob_add rfl rfl rfl (IntWalk.i64_in _ (by omega))) ?_; clear hok a; intro a hok
                  refine s_runk TB_Refs2 hok 1 rfl rfl ?_; clear hok a; intro a hok
                  refine s_end hok [0, 1, 13, 17, 21, 3, 26, 4, 41, 49, 5, 52, 63] rfl ?_; clear hok; intro hok
                  refine p_then ?_
                  refine ⟨j + 1, ⟨hok.sub (ts := [0, 1, 13, 17, 21, 3, 26, 4, 41, 49, 5]) rfl, ?_, ?_, B, L0_c, X1, X3⟩, by omega⟩
                  · clear hok B L0_c X1 X3 hc_v0_c hm_v0_c ha_P1 ho_P1 hb0_b1 hb1_b1 hge_b1 hz_w1 he1 hat1 hb0_b2 hb1_b2 hge_b2 hlt_b1_b2 hz_w3 hz_w4 he2 hat2 hz_w6
                    omega
                  · clear hok B L0_c X1 X3 hc_v0_c hm_v0_c ha_P1 ho_P1 hb0_b1 hb1_b1 hge_b1 hz_w1 he1 hat1 hb0_b2 hb1_b2 hge_b2 hlt_b1_b2 hz_w3 hz_w4 he2 hat2 hz_w6
                    rw [idsK_step _ j (by omega)]; simp only [List.mem_append, List.mem_singleton, not_or]; exact ⟨hinv1_1, fun e => by omega⟩
              · replace hc7 := of_decide_eq_false hc7
                refine wp_exit ?_
                refine p_then_x ?_
                refine p_then_x ?_
                refine f_exit_here ?_
                refine p_blk ?_
                refine p_then ?_
                refine f_region hok ?_; clear hok; intro hok
                refine s_runk TB_Refs2 hok 1 rfl rfl ?_; clear hok a; intro a hok
                refine s_ob hok (v := .int .i64 ((k : Int) + 1)) rfl rfl (by decide) rfl (Ob_add rfl rfl rfl (IntWalk.i64_in _ (by omega))) ?_; clear hok a; intro a hok
                refine s_runk TB_Refs2 hok 1 rfl rfl ?_; clear hok a; intro a hok
                refine s_end hok [0, 1, 13, 17, 21, 3, 26, 4, 41, 49, 5, 52] rfl ?_; clear hok; intro hok
                refine p_then ?_
                refine ⟨k + 1, ⟨hok.sub (ts := [0, 1, 13, 17, 21, 3]) rfl, ?_, ?_, B, L0_c, X1⟩, by omega⟩
                · clear hok B L0_c X1 X3 hc_v0_c hm_v0_c ha_P1 ho_P1 hb0_b1 hb1_b1 hge_b1 hz_w1 he1 hat1 hb0_b2 hb1_b2 hge_b2 hlt_b1_b2 hz_w3 hz_w4
                  omega
                · clear hok B L0_c X1 X3 hc_v0_c hm_v0_c ha_P1 ho_P1 hb0_b1 hb1_b1 hge_b1 hz_w1 he1 hat1 hb0_b2 hb1_b2 hge_b2 hlt_b1_b2 hz_w3 hz_w4
                  have hm : memL (c.members.getD k default) = 0 := (by unfold memL; rw [if_neg (by omega), if_neg (by omega)]); rw [hinv0_1, cm_step _ k (by omega), if_neg (by rw [hm]; decide), if_neg (by rw [show k = j from by omega] at hinv1_1 ⊢; exact hinv1_1)]
        · replace hc4 := of_decide_eq_false hc4
          refine wp_exit ?_
          refine p_then_x ?_
          refine p_then_x ?_
          refine f_exit_here ?_
          refine p_then ?_
          refine wp_seq ?_
          refine f_region hok ?_; clear hok; intro hok
          refine s_runk TB_Refs2 hok 1 rfl rfl ?_; clear hok a; intro a hok
          refine s_end hok [0, 1, 13, 17, 21, 3, 26, 2] rfl ?_; clear hok; intro hok
          refine p_then ?_
          refine wp_ret ?_
          refine f_ret hok (run_results1 rfl hok rfl) ?_
          refine ⟨?_, B.toBelow⟩
          · clear hok B L0_c X1 hc_v0_c hm_v0_c ha_P1 ho_P1 hb0_b1 hb1_b1 hge_b1 hz_w1
            rw [hinv0_1, List.drop_eq_nil_of_le (by omega)]; rfl


def sameC (a b : DConf) : Bool := decide (a.epoch = b.epoch) && decide (a.floor = b.floor) && sameBy eqD a.members b.members

theorem sameC_no {a b : DConf} (h : (¬ a.epoch = b.epoch ∨ ¬ a.floor = b.floor) ∨ a.members.length ≠ b.members.length) : sameC a b = false := by
  unfold sameC
  rcases h with (h | h) | h
  · simp [h]
  · simp [h]
  · rw [sameBy_len h, Bool.and_false]

set_option maxHeartbeats 1000000 in
theorem c_ref07_Same {A0 : Nat → Prop} {A1 : Nat → Prop} (a0 : DConf) (v0_a0 : Value) (b : DConf) (v0_b : Value) (w : World) (L0_a0 : slRep RDMember A0 w v0_a0 a0.members) (h_a0 : okDConf a0) (L0_b : slRep RDMember A1 w v0_b b.members) (h_b : okDConf b) :
    Calls Try.prog 40 #[.agg #[.int .i64 a0.epoch, v0_a0, .int .u64 (a0.floor : Int)], .agg #[.int .i64 b.epoch, v0_b, .int .u64 (b.floor : Int)]] w (Ret fun r w' => r = .bool (sameC a0 b) ∧ Below w.heap.size w w') := by
  have B : Bt [] w w := Bt.refl _ _
  obtain ⟨ao_v0_a0, cap_v0_a0, rfl, hc_v0_a0, hm_v0_a0⟩ := L0_a0.shape
  unfold maxLen at hm_v0_a0
  obtain ⟨P1, ha_P1, ho_P1, L0_a0⟩ : ∃ X : Nat → Prop, (∀ k, X k → k < w.heap.size) ∧ (∀ k, X k → A0 k ∨ A1 k ∨ w.heap.size ≤ k) ∧ slRep RDMember X w (.slice ao_v0_a0 a0.members.length cap_v0_a0) a0.members := ⟨_, fun k h => h.2, fun k h => .inl h.1, L0_a0.bound⟩
  obtain ⟨ao_v0_b, cap_v0_b, rfl, hc_v0_b, hm_v0_b⟩ := L0_b.shape
  unfold maxLen at hm_v0_b
  obtain ⟨P2, ha_P2, ho_P2, L0_b⟩ : ∃ X : Nat → Prop, (∀ k, X k → k < w.heap.size) ∧ (∀ k, X k → A0 k ∨ A1 k ∨ w.heap.size ≤ k) ∧ slRep RDMember X w (.slice ao_v0_b b.members.length cap_v0_b) b.members := ⟨_, fun k h => h.2, fun k h => .inr (.inl h.1), L0_b.bound⟩
  refine f_enter 52 Try.func40 rfl rfl (Nat.le_of_ble_eq_true rfl) fun a hok => ?_
  replace hok := hok.sub (ts := [0, 1]) rfl
  refine wp_seq ?_
  refine f_region hok ?_; clear hok; intro hok
  refine s_boxv hok (cs := [.int .i64 a0.epoch, .slice ao_v0_a0 a0.members.length cap_v0_a0, .int .u64 (a0.floor : Int)]) rfl rfl rfl (by decide) rfl rfl rfl ?_; clear hok a; intro a w1 b1 hb0_b1 hb1_b1 hb X1 hok
  have hge_b1 : w.heap.size ≤ b1 := by have := B.size; omega
  have hz_w1 : w.heap.size ≤ w1.heap.size := hb.size
  replace B := B.blw hb
  replace L0_a0 := L0_a0.below hb
  replace L0_b := L0_b.below hb
  clear hb
  refine s_boxv hok (cs := [.int .i64 b.epoch, .slice ao_v0_b b.members.length cap_v0_b, .int .u64 (b.floor : Int)]) rfl rfl rfl (by decide) rfl rfl rfl ?_; clear hok a; intro a w2 b2 hb0_b2 hb1_b2 hb X2 hok
  have hge_b2 : w.heap.size ≤ b2 := by have := B.size; omega
  have hlt_b1_b2 : b1 < b2 := by have := X1.lt; omega
  have hz_w2 : w1.heap.size ≤ w2.heap.size := hb.size
  replace B := B.blw hb
  replace L0_a0 := L0_a0.below hb
  replace L0_b := L0_b.below hb
  replace X1 := X1.below hb
  clear hb
  refine s_runk TB_Refs2 hok 1 rfl rfl ?_; clear hok a; intro a hok
  refine s_end hok [0, 1, 2, 3, 4] rfl ?_; clear hok; intro hok
  refine p_then ?_
  refine wp_seq ?_
  refine wp_seq ?_
  refine f_region hok ?_; clear hok; intro hok
  refine s_runk TB_Refs2 hok 1 rfl rfl ?_; clear hok a; intro a hok
  refine s_ob hok (v := .int .i64 a0.epoch) rfl rfl (by decide) rfl (Ob_load TB_Refs2 rfl rfl rfl (X1.cell 0 rfl)) ?_; clear hok a; intro a hok
  refine s_runk TB_Refs2 hok 1 rfl rfl ?_; clear hok a; intro a hok
  refine s_ob hok (v := .int .i64 b.epoch) rfl rfl (by decide) rfl (Ob_load TB_Refs2 rfl rfl rfl (X2.cell 0 rfl)) ?_; clear hok a; intro a hok
  refine s_runk TB_Refs2 hok 2 rfl rfl ?_; clear hok a; intro a hok
  refine s_gob hok (c := a0.epoch != b.epoch) rfl rfl rfl rfl (by decide) rfl (by decide) rfl (fun _ => Ob_c TB_Refs2 rfl) ?_; clear hok a; intro a hok
  refine s_gob hok (c := a0.epoch != b.epoch) (v := .int .u64 (a0.floor : Int)) rfl rfl rfl rfl (by decide) rfl (by decide) rfl (fun hg1 => ?_) ?_
  · replace hg1 := bne_eq_false_iff_eq.1 hg1
    exact Ob_load TB_Refs2 rfl rfl rfl (X1.cell 2 rfl)
  clear hok a; intro a hok
  refine s_gob hok (c := a0.epoch != b.epoch) rfl rfl rfl rfl (by decide) rfl (by decide) rfl (fun _ => Ob_c TB_Refs2 rfl) ?_; clear hok a; intro a hok
  refine s_gob hok (c := a0.epoch != b.epoch) (v := .int .u64 (b.floor : Int)) rfl rfl rfl rfl (by decide) rfl (by decide) rfl (fun hg2 => ?_) ?_
  · replace hg2 := bne_eq_false_iff_eq.1 hg2
    exact Ob_load TB_Refs2 rfl rfl rfl (X2.cell 2 rfl)
  clear hok a; intro a hok
  refine s_gob hok (c := a0.epoch != b.epoch) rfl rfl rfl rfl (by decide) rfl (by decide) rfl (fun _ => Ob_c TB_Refs2 rfl) ?_; clear hok a; intro a hok
  refine s_or hok (i := 5) rfl rfl rfl rfl rfl rfl rfl (by decide) rfl rfl ?_; clear hok a; intro a hok
  refine s_runk TB_Refs2 hok 1 rfl rfl ?_; clear hok a; intro a hok
  refine s_gob hok (c := (a0.epoch != b.epoch) || ((a0.floor : Int) != (b.floor : Int))) rfl rfl rfl rfl (by decide) rfl (by decide) rfl (fun _ => Ob_c TB_Refs2 rfl) ?_; clear hok a; intro a hok
  refine s_gob hok (c := (a0.epoch != b.epoch) || ((a0.floor : Int) != (b.floor : Int))) (v := .slice ao_v0_a0 a0.members.length cap_v0_a0) rfl rfl rfl rfl (by decide) rfl (by decide) rfl (fun hg3 => ?_) ?_
  · replace hg3 := And.intro (bne_eq_false_iff_eq.1 (orF1 hg3)) (bne_eq_false_iff_eq.1 (orF2 hg3))
    exact Ob_load TB_Refs2 rfl rfl rfl (X1.cell 1 rfl)
  clear hok a; intro a hok
  refine s_gob hok (c := (a0.epoch != b.epoch) || ((a0.floor : Int) != (b.floor : Int))) rfl rfl rfl rfl (by decide) rfl (by decide) rfl (fun _ => Ob_c TB_Refs2 rfl) ?_; clear hok a; intro a hok
  refine s_gob hok (c := (a0.epoch != b.epoch) || ((a0.floor : Int) != (b.floor : Int))) rfl rfl rfl rfl (by decide) rfl (by decide) rfl (fun _ => Ob_c TB_Refs2 rfl) ?_; clear hok a; intro a hok
  refine s_gob hok (c := (a0.epoch != b.epoch) || ((a0.floor : Int) != (b.floor : Int))) (v := .slice ao_v0_b b.members.length cap_v0_b) rfl rfl rfl rfl (by decide) rfl (by decide) rfl (fun hg4 => ?_) ?_
  · replace hg4 := And.intro (bne_eq_false_iff_eq.1 (orF1 hg4)) (bne_eq_false_iff_eq.1 (orF2 hg4))
    exact Ob_load TB_Refs2 rfl rfl rfl (X2.cell 1 rfl)
  clear hok a; intro a hok
  refine s_gob hok (c := (a0.epoch != b.epoch) || ((a0.floor : Int) != (b.floor : Int))) rfl rfl rfl rfl (by decide) rfl (by decide) rfl (fun _ => Ob_c TB_Refs2 rfl) ?_; clear hok a; intro a hok
  refine s_gob hok (c := (a0.epoch != b.epoch) || ((a0.floor : Int) != (b.floor : Int))) rfl rfl rfl rfl (by decide) rfl (by decide) rfl (fun _ => Ob_c TB_Refs2 rfl) ?_; clear hok a; intro a hok
  refine s_or hok (i := 12) rfl rfl rfl rfl rfl rfl rfl (by decide) rfl rfl ?_; clear hok a; intro a hok
  refine s_end hok [0, 1, 2, 3, 4, 26] rfl ?_; clear hok; intro hok
  refine p_then ?_
  refine f_cond hok rfl (fun hc1 => ?_) (fun hc1 => ?_)
  · replace hc1 := orT hc1 (fun h => orT h (fun h => bne_iff_ne.1 h) (fun h => bne_iff_ne.1 h)) (fun h => bne_iff_ne.1 h)
    refine wp_seq ?_
    refine f_region hok ?_; clear hok; intro hok
    refine s_runk TB_Refs2 hok 1 rfl rfl ?_; clear hok a; intro a hok
    refine s_end hok [0, 1, 2, 3, 4, 26] rfl ?_; clear hok; intro hok
    refine p_then ?_
    refine wp_ret ?_
    refine p_then_r ?_
    refine f_ret hok (run_results1 rfl hok rfl) ?_
    refine ⟨?_, B.toBelow⟩
    · clear hok B L0_a0 L0_b X1 X2 hc_v0_a0 hm_v0_a0 ha_P1 ho_P1 hc_v0_b hm_v0_b ha_P2 ho_P2 hb0_b1 hb1_b1 hge_b1 hz_w1 hb0_b2 hb1_b2 hge_b2 hlt_b1_b2 hz_w2
      rw [sameC_no (by omega)]
  · replace hc1 := And.intro (And.intro (bne_eq_false_iff_eq.1 (orF1 (orF1 hc1))) (bne_eq_false_iff_eq.1 (orF2 (orF1 hc1)))) (bne_eq_false_iff_eq.1 (orF2 hc1))
    refine wp_skip ?_
    refine p_then ?_
    refine wp_seq ?_
    refine wp_seq ?_
    refine f_region hok ?_; clear hok; intro hok
    refine s_runk TB_Refs2 hok 1 rfl rfl ?_; clear hok a; intro a hok
    refine s_end hok [0, 1, 2, 3, 4, 26, 5] rfl ?_; clear hok; intro hok
    refine p_then ?_
    refine wp_block ?_
    refine f_loop (σ := Nat) (fun k a w' => Sl 52 [(0, .agg #[.int .i64 a0.epoch, .slice ao_v0_a0 a0.members.length cap_v0_a0, .int .u64 (a0.floor : Int)]), (1, .agg #[.int .i64 b.epoch, .slice ao_v0_b b.members.length cap_v0_b, .int .u64 (b.floor : Int)]), (2, .pointer (some ⟨b1, 0, none⟩)), (3, .pointer (some ⟨b2, 0, none⟩)), (26, .bool (((a0.epoch != b.epoch) || ((a0.floor : Int) != (b.floor : Int))) || ((a0.members.length : Int) != (b.members.length : Int)))), (5, .int .i64 (k : Int))] a ∧ (k ≤ a0.members.length ∧ a0.members.length = b.members.length) ∧ (sameC a0 b = sameBy eqD (a0.members.drop k) (b.members.drop k)) ∧ Bt [] w w' ∧ slRep RDMember P1 w' (.slice ao_v0_a0 a0.members.length cap_v0_a0) a0.members ∧ slRep RDMember P2 w' (.slice ao_v0_b b.members.length cap_v0_b) b.members ∧ Box w' b1 30 [.int .i64 a0.epoch, .slice ao_v0_a0 a0.members.length cap_v0_a0, .int .u64 (a0.floor : Int)] ∧ Box w' b2 30 [.int .i64 b.epoch, .slice ao_v0_b b.members.length cap_v0_b, .int .u64 (b.floor : Int)]) (fun k => a0.members.length - k) 0 ⟨hok.sub (ts := [0, 1, 2, 3, 26, 5]) rfl, by omega, by unfold sameC; rw [decide_eq_true (by omega), decide_eq_true (by omega)]; rfl, B, L0_a0, L0_b, X1, X2⟩ ?_
    clear hok B L0_a0 L0_b X1 X2
    rintro k a w3 ⟨hok, hinv0_0, hinv0_1, B, L0_a0, L0_b, X1, X2⟩
    refine wp_seq ?_
    refine wp_seq ?_
    refine f_region hok ?_; clear hok; intro hok
    refine s_runk TB_Refs2 hok 2 rfl rfl ?_; clear hok a; intro a hok
    refine s_ob hok (v := .slice ao_v0_a0 a0.members.length cap_v0_a0) rfl rfl (by decide) rfl (Ob_load TB_Refs2 rfl rfl rfl (X1.cell 1 rfl)) ?_; clear hok a; intro a hok
    refine s_runk TB_Refs2 hok 3 rfl rfl ?_; clear hok a; intro a hok
    refine s_gob hok (c := decide ((k : Int) < (a0.members.length : Int))) rfl rfl rfl rfl (by decide) rfl (by decide) rfl (fun _ => Ob_c TB_Refs2 rfl) ?_; clear hok a; intro a hok
    refine s_gob hok (c := decide ((k : Int) < (a0.members.length : Int))) rfl rfl rfl rfl (by decide) rfl (by decide) rfl (fun _ => Ob_c TB_Refs2 rfl) ?_; clear hok a; intro a hok
    refine s_gob hok (c := decide ((k : Int) < (a0.members.length : Int))) (v := .slice ao_v0_b b.members.length cap_v0_b) rfl rfl rfl rfl (by decide) rfl (by decide) rfl (fun hg5 => ?_) ?_
    · replace hg5 := of_decide_eq_true hg5
      exact Ob_load TB_Refs2 rfl rfl rfl (X2.cell 1 rfl)
    clear hok a; intro a hok
    refine s_gob hok (c := decide ((k : Int) < (a0.members.length : Int))) rfl rfl rfl rfl (by decide) rfl (by decide) rfl (fun _ => Ob_c TB_Refs2 rfl) ?_; clear hok a; intro a hok
    refine s_gob hok (c := decide ((k : Int) < (a0.members.length : Int))) rfl rfl rfl rfl (by decide) rfl (by decide) rfl (fun _ => Ob_c TB_Refs2 rfl) ?_; clear hok a; intro a hok
    refine s_and hok (i := 5) rfl rfl rfl rfl rfl rfl rfl (by decide) rfl rfl ?_; clear hok a; intro a hok
    refine s_end hok [0, 1, 2, 3, 26, 5, 38] rfl ?_; clear hok; intro hok
    refine p_then ?_
    refine f_cond hok rfl (fun hc2 => ?_) (fun hc2 => ?_)
    · replace hc2 := And.intro (of_decide_eq_true (andT1 hc2)) (of_decide_eq_true (andT2 hc2))
      refine wp_skip ?_
      refine p_then ?_
      refine wp_seq ?_
      refine wp_block ?_
      refine wp_seq ?_
      refine f_quietd (by kernel_rfl) (by kernel_rfl) hok ?_; clear hok; intro hok
      refine q_runk TB_Refs2 hok 1 rfl rfl ?_; clear hok a; intro a hok
      refine q_ob hok (v := .slice ao_v0_a0 a0.members.length cap_v0_a0) rfl rfl (by decide) rfl (fun _ hw => Ob_load TB_Refs2 rfl rfl rfl ((X1.below hw).cell 1 rfl)) ?_; clear hok a; intro a hok
      refine q_runk TB_Refs2 hok 1 rfl rfl ?_; clear hok a; intro a hok
      have hi1 : k < a0.members.length := by omega
      have he1 := elt L0_a0 (k) (slRep.lt L0_a0 hi1)
      refine q_ob hok (v := .pointer (some ⟨bOf ao_v0_a0, oOf ao_v0_a0 + k * 2, none⟩)) rfl rfl (by decide) rfl (fun _ hw => Ob_idx TB_Refs2 (k) rfl rfl he1.1 rfl rfl rfl hi1) ?_; clear hok a; intro a hok
      obtain ⟨_, _, _, ⟨rfl, hok_e1⟩, hat1⟩ := id he1
      refine q_ob hok (v := .agg #[.int .i64 ((a0.members.getD k default).id), .int .i64 ((a0.members.getD k default).serial)]) rfl rfl (by decide) rfl (fun _ hw => Ob_loads TB_Refs2 rfl rfl rfl (hat1.below hw he1.2.1.2)) ?_; clear hok a; intro a hok
      refine q_runk TB_Refs2 hok 1 rfl rfl ?_; clear hok a; intro a hok
      refine q_ob hok (v := .slice ao_v0_b b.members.length cap_v0_b) rfl rfl (by decide) rfl (fun _ hw => Ob_load TB_Refs2 rfl rfl rfl ((X2.below hw).cell 1 rfl)) ?_; clear hok a; intro a hok
      refine q_runk TB_Refs2 hok 1 rfl rfl ?_; clear hok a; intro a hok
      have hi2 : k < b.members.length := by omega
      have he2 := elt L0_b (k) (slRep.lt L0_b hi2)
      refine q_ob hok (v := .pointer (some ⟨bOf ao_v0_b, oOf ao_v0_b + k * 2, none⟩)) rfl rfl (by decide) rfl (fun _ hw => Ob_idx TB_Refs2 (k) rfl rfl he2.1 rfl rfl rfl hi2) ?_; clear hok a; intro a hok
      obtain ⟨_, _, _, ⟨rfl, hok_e2⟩, hat2⟩ := id he2
      refine q_ob hok (v := .agg #[.int .i64 ((b.members.getD k default).id), .int .i64 ((b.members.getD k default).serial)]) rfl rfl (by decide) rfl (fun _ hw => Ob_loads TB_Refs2 rfl rfl rfl (hat2.below hw he2.2.1.2)) ?_; clear hok a; intro a hok
      refine q_ob hok (v := .bool (!decide ((a0.members.getD k default) = (b.members.getD k default)))) rfl rfl (by decide) rfl (fun _ hw => Ob_bin rfl rfl rfl (eqg_DMember _ _ _ _ _ _) (neq_DMember ((a0.members.getD k default)) ((b.members.getD k default)) _)) ?_; clear hok a; intro a hok
      refine q_end hok [0, 1, 2, 3, 26, 5, 38, 51] rfl ?_; clear hok; intro w4 hb hok
      have hz_w4 : w3.heap.size ≤ w4.heap.size := hb.size
      replace B := B.blw hb
      replace L0_a0 := L0_a0.below hb
      replace L0_b := L0_b.below hb
      replace X1 := X1.below hb
      replace X2 := X2.below hb
      clear hb
      refine p_then ?_
      refine f_cond hok rfl (fun hc3 => ?_) (fun hc3 => ?_)
      · replace hc3 := of_decide_eq_false (notT hc3)
        refine wp_seq ?_
        refine f_region hok ?_; clear hok; intro hok
        refine s_runk TB_Refs2 hok 1 rfl rfl ?_; clear hok a; intro a hok
        refine s_end hok [0, 1, 2, 3, 26, 5, 38, 51, 4] rfl ?_; clear hok; intro hok
        refine p_then ?_
        refine wp_ret ?_
        refine p_blk_r ?_
        refine p_then_r ?_
        refine p_then_r ?_
        refine p_blk_r ?_
        refine p_then_r ?_
        refine f_ret hok (run_results1 rfl hok rfl) ?_
        refine ⟨?_, B.toBelow⟩
        · clear hok B L0_a0 L0_b X1 X2 hc_v0_a0 hm_v0_a0 ha_P1 ho_P1 hc_v0_b hm_v0_b ha_P2 ho_P2 hb0_b1 hb1_b1 hge_b1 hz_w1 hb0_b2 hb1_b2 hge_b2 hlt_b1_b2 hz_w2 he1 hat1 he2 hat2 hz_w4
          rw [hinv0_1, sameBy_step _ _ _ k (by omega) (by omega), show eqD (a0.members.getD k default) (b.members.getD k default) = false from decide_eq_false hc3]; rfl
      · replace hc3 := of_decide_eq_true (notF hc3)
        refine wp_skip ?_
        refine p_blk ?_
        refine p_then ?_
        refine f_region hok ?_; clear hok; intro hok
        refine s_runk TB_Refs2 hok 1 rfl rfl ?_; clear hok a; intro a hok
        refine s_ob hok (v := .int .i64 ((k : Int) + 1)) rfl rfl (by decide) rfl (Ob_add rfl rfl rfl (IntWalk.i64_in _ (by omega))) ?_; clear hok a; intro a hok
        refine s_runk TB_Refs2 hok 1 rfl rfl ?_; clear hok a; intro a hok
        refine s_end hok [0, 1, 2, 3, 26, 5, 38, 51] rfl ?_; clear hok; intro hok
        refine p_then ?_
        refine ⟨k + 1, ⟨hok.sub (ts := [0, 1, 2, 3, 26, 5]) rfl, ?_, ?_, B, L0_a0, L0_b, X1, X2⟩, by omega⟩
        · clear hok B L0_a0 L0_b X1 X2 hc_v0_a0 hm_v0_a0 ha_P1 ho_P1 hc_v0_b hm_v0_b ha_P2 ho_P2 hb0_b1 hb1_b1 hge_b1 hz_w1 hb0_b2 hb1_b2 hge_b2 hlt_b1_b2 hz_w2 he1 hat1 he2 hat2 hz_w4
          omega
        · clear hok B L0_a0 L0_b X1 X2 hc_v0_a0 hm_v0_a0 ha_P1 ho_P1 hc_v0_b hm_v0_b ha_P2 ho_P2 hb0_b1 hb1_b1 hge_b1 hz_w1 hb0_b2 hb1_b2 hge_b2 hlt_b1_b2 hz_w2 he1 hat1 he2 hat2 hz_w4
          rw [hinv0_1, sameBy_step _ _ _ k (by omega) (by omega), show eqD (a0.members.getD k default) (b.members.getD k default) = true from decide_eq_true hc3, Bool.true_and]
    · replace hc2 := andF hc2 (fun h => of_decide_eq_false h) (fun h => of_decide_eq_false h)
      refine wp_exit ?_
      refine p_then_x ?_
      refine p_then_x ?_
      refine f_exit_here ?_
      refine p_then ?_
      refine wp_seq ?_
      refine f_region hok ?_; clear hok; intro hok
      refine s_runk TB_Refs2 hok 1 rfl rfl ?_; clear hok a; intro a hok
      refine s_end hok [0, 1, 2, 3, 26, 5, 38, 4] rfl ?_; clear hok; intro hok
      refine p_then ?_
      refine wp_ret ?_
      refine f_ret hok (run_results1 rfl hok rfl) ?_
      refine ⟨?_, B.toBelow⟩
      · clear hok B L0_a0 L0_b X1 X2 hc_v0_a0 hm_v0_a0 ha_P1 ho_P1 hc_v0_b hm_v0_b ha_P2 ho_P2 hb0_b1 hb1_b1 hge_b1 hz_w1 hb0_b2 hb1_b2 hge_b2 hlt_b1_b2 hz_w2
        rw [hinv0_1, sameBy_end _ _ _ k (by omega) (by omega)]


def partsL (k : Int) : ByteArray :=
  if k = 1 then ⟨#[67, 97]⟩ else if k = 2 then ⟨#[101, 115, 102, 97, 108]⟩ else if k = 3 then ⟨#[101, 110, 109, 112, 114, 97, 69]⟩ else if k = 4 then ⟨#[101, 110, 109, 112, 83]⟩
  else if k = 5 then ⟨#[101, 66]⟩ else if k = 6 ∨ k = 11 then ⟨#[114, 97]⟩ else if k = 7 then ⟨#[114, 120, 101, 110]⟩ else if k = 8 then ⟨#[114, 107, 97]⟩
  else if k = 9 then ⟨#[114, 107, 116, 97, 110]⟩ else if k = 10 then ⟨#[114, 107, 97, 102, 82]⟩ else if k = 12 ∨ k = 13 ∨ k = 14 then ⟨#[114, 110]⟩ else if k = 15 then ⟨#[]⟩ else ⟨#[63]⟩

set_option maxHeartbeats 1000000 in
theorem c_ref09_parts (k : Int) (w : World) (h_k : i64ok k) :
    Calls Try.prog 37 #[.int .i64 k] w (Ret fun r w' => r = .string (partsL k) ∧ Below w.heap.size w w') := by
  have B : Bt [] w w := Bt.refl _ _
  unfold i64ok at h_k
  refine f_enter 31 Try.func37 rfl rfl (Nat.le_of_ble_eq_true rfl) fun a hok => ?_
  replace hok := hok.sub (ts := [0]) rfl
  refine wp_seq ?_
  refine f_region hok ?_; clear hok; intro hok
  refine s_runk TB_Refs2 hok 1 rfl rfl ?_; clear hok a; intro a hok
  refine s_end hok [0, 2] rfl ?_; clear hok; intro hok
  refine p_then ?_
  refine wp_seq ?_
  refine wp_seq ?_
  refine f_region hok ?_; clear hok; intro hok
  refine s_runk TB_Refs2 hok 1 rfl rfl ?_; clear hok a; intro a hok
  refine s_end hok [0, 2, 3] rfl ?_; clear hok; intro hok
  refine p_then ?_
  refine wp_block ?_
  refine wp_seq ?_
  refine f_region hok ?_; clear hok; intro hok
  refine s_runk TB_Refs2 hok 2 rfl rfl ?_; clear hok a; intro a hok
  refine s_end hok [0, 2, 3, 4] rfl ?_; clear hok; intro hok
  refine p_then ?_
  refine f_cond hok rfl (fun hc1 => ?_) (fun hc1 => ?_)
  · replace hc1 := eq_of_beq hc1
    refine wp_seq ?_
    refine f_region hok ?_; clear hok; intro hok
    refine s_runk TB_Refs2 hok 1 rfl rfl ?_; clear hok a; intro a hok
    refine s_end hok [0, 2, 3, 4] rfl ?_; clear hok; intro hok
    refine p_then ?_
    refine wp_ret ?_
    refine p_blk_r ?_
    refine p_then_r ?_
    refine f_ret hok (run_results1 rfl hok rfl) ?_
    refine ⟨?_, B.toBelow⟩
    · clear hok B
      (unfold partsL; (repeat' split) <;> first | rfl | (exfalso; omega) | grind)
  · replace hc1 := ne_of_beq_false hc1
    refine wp_seq ?_
    refine f_region hok ?_; clear hok; intro hok
    refine s_runk TB_Refs2 hok 2 rfl rfl ?_; clear hok a; intro a hok
    refine s_end hok [0, 2, 3, 4, 6] rfl ?_; clear hok; intro hok
    refine p_then ?_
    refine f_cond hok rfl (fun hc2 => ?_) (fun hc2 => ?_)
    · replace hc2 := eq_of_beq hc2
      refine wp_seq ?_
      refine f_region hok ?_; clear hok; intro hok
      refine s_runk TB_Refs2 hok 1 rfl rfl ?_; clear hok a; intro a hok
      refine s_end hok [0, 2, 3, 4, 6] rfl ?_; clear hok; intro hok
      refine p_then ?_
      refine wp_ret ?_
      refine p_blk_r ?_
      refine p_then_r ?_
      refine f_ret hok (run_results1 rfl hok rfl) ?_
      refine ⟨?_, B.toBelow⟩
      · clear hok B
        (unfold partsL; (repeat' split) <;> first | rfl | (exfalso; omega) | grind)
    · replace hc2 := ne_of_beq_false hc2
      refine wp_seq ?_
      refine f_region hok ?_; clear hok; intro hok
      refine s_runk TB_Refs2 hok 2 rfl rfl ?_; clear hok a; intro a hok
      refine s_end hok [0, 2, 3, 4, 6, 8] rfl ?_; clear hok; intro hok
      refine p_then ?_
      refine f_cond hok rfl (fun hc3 => ?_) (fun hc3 => ?_)
      · replace hc3 := eq_of_beq hc3
        refine wp_seq ?_
        refine f_region hok ?_; clear hok; intro hok
        refine s_runk TB_Refs2 hok 1 rfl rfl ?_; clear hok a; intro a hok
        refine s_end hok [0, 2, 3, 4, 6, 8] rfl ?_; clear hok; intro hok
        refine p_then ?_
        refine wp_ret ?_
        refine p_blk_r ?_
        refine p_then_r ?_
        refine f_ret hok (run_results1 rfl hok rfl) ?_
        refine ⟨?_, B.toBelow⟩
        · clear hok B
          (unfold partsL; (repeat' split) <;> first | rfl | (exfalso; omega) | grind)
      · replace hc3 := ne_of_beq_false hc3
        refine wp_seq ?_
        refine f_region hok ?_; clear hok; intro hok
        refine s_runk TB_Refs2 hok 2 rfl rfl ?_; clear hok a; intro a hok
        refine s_end hok [0, 2, 3, 4, 6, 8, 10] rfl ?_; clear hok; intro hok
        refine p_then ?_
        refine f_cond hok rfl (fun hc4 => ?_) (fun hc4 => ?_)
        · replace hc4 := eq_of_beq hc4
          refine wp_seq ?_
          refine f_region hok ?_; clear hok; intro hok
          refine s_runk TB_Refs2 hok 1 rfl rfl ?_; clear hok a; intro a hok
          refine s_end hok [0, 2, 3, 4, 6, 8, 10] rfl ?_; clear hok; intro hok
          refine p_then ?_
          refine wp_ret ?_
          refine p_blk_r ?_
          refine p_then_r ?_
          refine f_ret hok (run_results1 rfl hok rfl) ?_
          refine ⟨?_, B.toBelow⟩
          · clear hok B
            (unfold partsL; (repeat' split) <;> first | rfl | (exfalso; omega) | grind)
        · replace hc4 := ne_of_beq_false hc4
          refine wp_seq ?_
          refine f_region hok ?_; clear hok; intro hok
          refine s_runk TB_Refs2 hok 2 rfl rfl ?_; clear hok a; intro a hok
          refine s_end hok [0, 2, 3, 4, 6, 8, 10, 12] rfl ?_; clear hok; intro hok
          refine p_then ?_
          refine f_cond hok rfl (fun hc5 => ?_) (fun hc5 => ?_)
          · replace hc5 := eq_of_beq hc5
            refine wp_seq ?_
            refine f_region hok ?_; clear hok; intro hok
            refine s_runk TB_Refs2 hok 1 rfl rfl ?_; clear hok a; intro a hok
            refine s_end hok [0, 2, 3, 4, 6, 8, 10, 12] rfl ?_; clear hok; intro hok
            refine p_then ?_
            refine wp_ret ?_
            refine p_blk_r ?_
            refine p_then_r ?_
            refine f_ret hok (run_results1 rfl hok rfl) ?_
            refine ⟨?_, B.toBelow⟩
            · clear hok B
              (unfold partsL; (repeat' split) <;> first | rfl | (exfalso; omega) | grind)
          · replace hc5 := ne_of_beq_false hc5
            refine wp_seq ?_
            refine wp_seq ?_
            refine f_region hok ?_; clear hok; intro hok
            refine s_runk TB_Refs2 hok 2 rfl rfl ?_; clear hok a; intro a hok
            refine s_end hok [0, 2, 3, 4, 6, 8, 10, 12, 14] rfl ?_; clear hok; intro hok
            refine p_then ?_
            refine f_or hok (r := k == 11) (ts := [0, 2, 3, 4, 6, 8, 10, 12]) rfl rfl ?_ ?_
            · refine f_region hok ?_; clear hok; intro hok
              refine s_runk TB_Refs2 hok 2 rfl rfl ?_; clear hok a; intro a hok
              refine s_end hok [0, 2, 3, 4, 6, 8, 10, 12, 14] rfl ?_; clear hok; intro hok
              exact ⟨rfl, rfl, hok.sub (ts := [14, 0, 2, 3, 4, 6, 8, 10, 12]) rfl⟩
            clear hok a; intro a hok
            refine p_then ?_
            refine f_cond hok rfl (fun hc6 => ?_) (fun hc6 => ?_)
            · replace hc6 := orT hc6 (fun h => eq_of_beq h) (fun h => eq_of_beq h)
              refine wp_seq ?_
              refine f_region hok ?_; clear hok; intro hok
              refine s_runk TB_Refs2 hok 1 rfl rfl ?_; clear hok a; intro a hok
              refine s_end hok [14, 0, 2, 3, 4, 6, 8, 10, 12] rfl ?_; clear hok; intro hok
              refine p_then ?_
              refine wp_ret ?_
              refine p_blk_r ?_
              refine p_then_r ?_
              refine f_ret hok (run_results1 rfl hok rfl) ?_
              refine ⟨?_, B.toBelow⟩
              · clear hok B
                (unfold partsL; (repeat' split) <;> first | rfl | (exfalso; omega) | grind)
            · replace hc6 := And.intro (ne_of_beq_false (orF1 hc6)) (ne_of_beq_false (orF2 hc6))
              refine wp_seq ?_
              refine f_region hok ?_; clear hok; intro hok
              refine s_runk TB_Refs2 hok 2 rfl rfl ?_; clear hok a; intro a hok
              refine s_end hok [14, 0, 2, 3, 4, 6, 8, 10, 12, 17] rfl ?_; clear hok; intro hok
              refine p_then ?_
              refine f_cond hok rfl (fun hc7 => ?_) (fun hc7 => ?_)
              · replace hc7 := eq_of_beq hc7
                refine wp_seq ?_
                refine f_region hok ?_; clear hok; intro hok
                refine s_runk TB_Refs2 hok 1 rfl rfl ?_; clear hok a; intro a hok
                refine s_end hok [14, 0, 2, 3, 4, 6, 8, 10, 12, 17] rfl ?_; clear hok; intro hok
                refine p_then ?_
                refine wp_ret ?_
                refine p_blk_r ?_
                refine p_then_r ?_
                refine f_ret hok (run_results1 rfl hok rfl) ?_
                refine ⟨?_, B.toBelow⟩
                · clear hok B
                  (unfold partsL; (repeat' split) <;> first | rfl | (exfalso; omega) | grind)
              · replace hc7 := ne_of_beq_false hc7
                refine wp_seq ?_
                refine f_region hok ?_; clear hok; intro hok
                refine s_runk TB_Refs2 hok 2 rfl rfl ?_; clear hok a; intro a hok
                refine s_end hok [14, 0, 2, 3, 4, 6, 8, 10, 12, 17, 19] rfl ?_; clear hok; intro hok
                refine p_then ?_
                refine f_cond hok rfl (fun hc8 => ?_) (fun hc8 => ?_)
                · replace hc8 := eq_of_beq hc8
                  refine wp_seq ?_
                  refine f_region hok ?_; clear hok; intro hok
                  refine s_runk TB_Refs2 hok 1 rfl rfl ?_; clear hok a; intro a hok
                  refine s_end hok [14, 0, 2, 3, 4, 6, 8, 10, 12, 17, 19] rfl ?_; clear hok; intro hok
                  refine p_then ?_
                  refine wp_ret ?_
                  refine p_blk_r ?_
                  refine p_then_r ?_
                  refine f_ret hok (run_results1 rfl hok rfl) ?_
                  refine ⟨?_, B.toBelow⟩
                  · clear hok B
                    (unfold partsL; (repeat' split) <;> first | rfl | (exfalso; omega) | grind)
                · replace hc8 := ne_of_beq_false hc8
                  refine wp_seq ?_
                  refine f_region hok ?_; clear hok; intro hok
                  refine s_runk TB_Refs2 hok 2 rfl rfl ?_; clear hok a; intro a hok
                  refine s_end hok [14, 0, 2, 3, 4, 6, 8, 10, 12, 17, 19, 21] rfl ?_; clear hok; intro hok
                  refine p_then ?_
                  refine f_cond hok rfl (fun hc9 => ?_) (fun hc9 => ?_)
                  · replace hc9 := eq_of_beq hc9
                    refine wp_seq ?_
                    refine f_region hok ?_; clear hok; intro hok
                    refine s_runk TB_Refs2 hok 1 rfl rfl ?_; clear hok a; intro a hok
                    refine s_end hok [14, 0, 2, 3, 4, 6, 8, 10, 12, 17, 19, 21] rfl ?_; clear hok; intro hok
                    refine p_then ?_
                    refine wp_ret ?_
                    refine p_blk_r ?_
                    refine p_then_r ?_
                    refine f_ret hok (run_results1 rfl hok rfl) ?_
                    refine ⟨?_, B.toBelow⟩
                    · clear hok B
                      (unfold partsL; (repeat' split) <;> first | rfl | (exfalso; omega) | grind)
                  · replace hc9 := ne_of_beq_false hc9
                    refine wp_seq ?_
                    refine f_region hok ?_; clear hok; intro hok
                    refine s_runk TB_Refs2 hok 2 rfl rfl ?_; clear hok a; intro a hok
                    refine s_end hok [14, 0, 2, 3, 4, 6, 8, 10, 12, 17, 19, 21, 23] rfl ?_; clear hok; intro hok
                    refine p_then ?_
                    refine f_cond hok rfl (fun hc10 => ?_) (fun hc10 => ?_)
                    · replace hc10 := eq_of_beq hc10
                      refine wp_seq ?_
                      refine f_region hok ?_; clear hok; intro hok
                      refine s_runk TB_Refs2 hok 1 rfl rfl ?_; clear hok a; intro a hok
                      refine s_end hok [14, 0, 2, 3, 4, 6, 8, 10, 12, 17, 19, 21, 23] rfl ?_; clear hok; intro hok
                      refine p_then ?_
                      refine wp_ret ?_
                      refine p_blk_r ?_
                      refine p_then_r ?_
                      refine f_ret hok (run_results1 rfl hok rfl) ?_
                      refine ⟨?_, B.toBelow⟩
                      · clear hok B
                        (unfold partsL; (repeat' split) <;> first | rfl | (exfalso; omega) | grind)
                    · replace hc10 := ne_of_beq_false hc10
                      refine wp_seq ?_
                      refine wp_seq ?_
                      refine f_region hok ?_; clear hok; intro hok
                      refine s_runk TB_Refs2 hok 2 rfl rfl ?_; clear hok a; intro a hok
                      refine s_end hok [14, 0, 2, 3, 4, 6, 8, 10, 12, 17, 19, 21, 23, 25] rfl ?_; clear hok; intro hok
                      refine p_then ?_
                      refine f_or hok (r := (k == 13) || (k == 14)) (ts := [14, 0, 2, 3, 4, 6, 8, 10, 12, 17, 19, 21, 23]) rfl rfl ?_ ?_
                      · refine wp_seq ?_
                        refine f_region hok ?_; clear hok; intro hok
                        refine s_runk TB_Refs2 hok 2 rfl rfl ?_; clear hok a; intro a hok
                        refine s_end hok [14, 0, 2, 3, 4, 6, 8, 10, 12, 17, 19, 21, 23, 25] rfl ?_; clear hok; intro hok
                        refine p_then ?_
                        refine f_or hok (r := k == 14) (ts := [14, 0, 2, 3, 4, 6, 8, 10, 12, 17, 19, 21, 23]) rfl rfl ?_ ?_
                        · refine f_region hok ?_; clear hok; intro hok
                          refine s_runk TB_Refs2 hok 2 rfl rfl ?_; clear hok a; intro a hok
                          refine s_end hok [14, 0, 2, 3, 4, 6, 8, 10, 12, 17, 19, 21, 23, 25] rfl ?_; clear hok; intro hok
                          exact ⟨rfl, rfl, hok.sub (ts := [25, 14, 0, 2, 3, 4, 6, 8, 10, 12, 17, 19, 21, 23]) rfl⟩
                        clear hok a; intro a hok
                        exact ⟨rfl, rfl, hok.sub (ts := [25, 14, 0, 2, 3, 4, 6, 8, 10, 12, 17, 19, 21, 23]) rfl⟩
                      clear hok a; intro a hok
                      refine p_then ?_
                      refine f_cond hok rfl (fun hc11 => ?_) (fun hc11 => ?_)
                      · replace hc11 := orT hc11 (fun h => eq_of_beq h) (fun h => orT h (fun h => eq_of_beq h) (fun h => eq_of_beq h))
                        refine wp_seq ?_
                        refine f_region hok ?_; clear hok; intro hok
                        refine s_runk TB_Refs2 hok 1 rfl rfl ?_; clear hok a; intro a hok
                        refine s_end hok [25, 14, 0, 2, 3, 4, 6, 8, 10, 12, 17, 19, 21, 23] rfl ?_; clear hok; intro hok
                        refine p_then ?_
                        refine wp_ret ?_
                        refine p_blk_r ?_
                        refine p_then_r ?_
                        refine f_ret hok (run_results1 rfl hok rfl) ?_
                        refine ⟨?_, B.toBelow⟩
                        · clear hok B
                          (unfold partsL; (repeat' split) <;> first | rfl | (exfalso; omega) | grind)
                      · replace hc11 := And.intro (ne_of_beq_false (orF1 hc11)) (And.intro (ne_of_beq_false (orF1 (orF2 hc11))) (ne_of_beq_false (orF2 (orF2 hc11))))
                        refine wp_seq ?_
                        refine f_region hok ?_; clear hok; intro hok
                        refine s_runk TB_Refs2 hok 2 rfl rfl ?_; clear hok a; intro a hok
                        refine s_end hok [25, 14, 0, 2, 3, 4, 6, 8, 10, 12, 17, 19, 21, 23, 29] rfl ?_; clear hok; intro hok
                        refine p_then ?_
                        refine f_cond hok rfl (fun hc12 => ?_) (fun hc12 => ?_)
                        · replace hc12 := eq_of_beq hc12
                          refine wp_seq ?_
                          refine f_region hok ?_; clear hok; intro hok
                          refine s_runk TB_Refs2 hok 1 rfl rfl ?_; clear hok a; intro a hok
                          refine s_end hok [25, 14, 0, 2, 3, 4, 6, 8, 10, 12, 17, 19, 21, 23, 29] rfl ?_; clear hok; intro hok
                          refine p_then ?_
                          refine wp_ret ?_
                          refine p_blk_r ?_
                          refine p_then_r ?_
                          refine f_ret hok (run_results1 rfl hok rfl) ?_
                          refine ⟨?_, B.toBelow⟩
                          · clear hok B
                            (unfold partsL; (repeat' split) <;> first | rfl | (exfalso; omega) | grind)
                        · replace hc12 := ne_of_beq_false hc12
                          refine wp_skip ?_
                          refine p_blk ?_
                          refine p_then ?_
                          refine wp_seq ?_
                          refine f_region hok ?_; clear hok; intro hok
                          refine s_runk TB_Refs2 hok 1 rfl rfl ?_; clear hok a; intro a hok
                          refine s_end hok [25, 14, 0, 2, 3, 4, 6, 8, 10, 12, 17, 19, 21, 23, 29] rfl ?_; clear hok; intro hok
                          refine p_then ?_
                          refine wp_ret ?_
                          refine f_ret hok (run_results1 rfl hok rfl) ?_
                          refine ⟨?_, B.toBelow⟩
                          · clear hok B
                            (unfold partsL; (repeat' split) <;> first | rfl | (exfalso; omega) | grind)


/-- a part that is a number -/
def numberL (m : DMsg) (c : Nat) : Int := if c = 101 then m.epoch else if c = 115 then m.serial else if c = 114 then m.req else if c = 110 then m.n else if c = 109 then m.m else m.p

set_option maxHeartbeats 1000000 in
theorem c_ref09_number {A0 : Nat → Prop} {A1 : Nat → Prop} {A2 : Nat → Prop} {A3 : Nat → Prop} {A4 : Nat → Prop} (m : DMsg) (v0_m : Value) (v1_m : Value) (v2_m : Value) (v3_m : Value) (v4_m : Value) (c : Nat) (w : World) (L0_m : slRep RDMember A0 w v0_m m.conf.members) (L1_m : slRep RDOp A1 w v1_m m.batch.ops) (L2_m : slRep RDEntry A2 w v2_m m.entries) (L3_m : slRep RU A3 w v3_m m.stamps) (L4_m : slRep RDPair A4 w v4_m m.pairs) (h_m : okDMsg m) (h_c : c < 256) :
    Calls Try.prog 55 #[.agg #[.int .i64 m.k, .int .i64 m.epoch, .int .i64 m.req, .int .i64 m.serial, .bool m.flag, .int .u64 (m.at_ : Int), .int .u64 (m.last : Int), .int .i64 m.n, .int .i64 m.m, .int .i64 m.p, .int .i64 m.e, .string m.key, .string m.to_, .int .i64 m.conf.epoch, v0_m, .int .u64 (m.conf.floor : Int), .int .i64 m.batch.client, .int .i64 m.batch.req, v1_m, v2_m, v3_m, v4_m], .int .u8 (c : Int)] w (Ret fun r w' => r = .int .i64 (numberL m c) ∧ Below w.heap.size w w') := by
  have B : Bt [] w w := Bt.refl _ _
  obtain ⟨ao_v0_m, cap_v0_m, rfl, hc_v0_m, hm_v0_m⟩ := L0_m.shape
  unfold maxLen at hm_v0_m
  obtain ⟨P1, ha_P1, ho_P1, L0_m⟩ : ∃ X : Nat → Prop, (∀ k, X k → k < w.heap.size) ∧ (∀ k, X k → A0 k ∨ A1 k ∨ A2 k ∨ A3 k ∨ A4 k ∨ w.heap.size ≤ k) ∧ slRep RDMember X w (.slice ao_v0_m m.conf.members.length cap_v0_m) m.conf.members := ⟨_, fun k h => h.2, fun k h => .inl h.1, L0_m.bound⟩
  obtain ⟨ao_v1_m, cap_v1_m, rfl, hc_v1_m, hm_v1_m⟩ := L1_m.shape
  unfold maxLen at hm_v1_m
  obtain ⟨P2, ha_P2, ho_P2, L1_m⟩ : ∃ X : Nat → Prop, (∀ k, X k → k < w.heap.size) ∧ (∀ k, X k → A0 k ∨ A1 k ∨ A2 k ∨ A3 k ∨ A4 k ∨ w.heap.size ≤ k) ∧ slRep RDOp X w (.slice ao_v1_m m.batch.ops.length cap_v1_m) m.batch.ops := ⟨_, fun k h => h.2, fun k h => .inr (.inl h.1), L1_m.bound⟩
  obtain ⟨ao_v2_m, cap_v2_m, rfl, hc_v2_m, hm_v2_m⟩ := L2_m.shape
  unfold maxLen at hm_v2_m
  obtain ⟨P3, ha_P3, ho_P3, L2_m⟩ : ∃ X : Nat → Prop, (∀ k, X k → k < w.heap.size) ∧ (∀ k, X k → A0 k ∨ A1 k ∨ A2 k ∨ A3 k ∨ A4 k ∨ w.heap.size ≤ k) ∧ slRep RDEntry X w (.slice ao_v2_m m.entries.length cap_v2_m) m.entries := ⟨_, fun k h => h.2, fun k h => .inr (.inr (.inl h.1)), L2_m.bound⟩
  obtain ⟨ao_v3_m, cap_v3_m, rfl, hc_v3_m, hm_v3_m⟩ := L3_m.shape
  unfold maxLen at hm_v3_m
  obtain ⟨P4, ha_P4, ho_P4, L3_m⟩ : ∃ X : Nat → Prop, (∀ k, X k → k < w.heap.size) ∧ (∀ k, X k → A0 k ∨ A1 k ∨ A2 k ∨ A3 k ∨ A4 k ∨ w.heap.size ≤ k) ∧ slRep RU X w (.slice ao_v3_m m.stamps.length cap_v3_m) m.stamps := ⟨_, fun k h => h.2, fun k h => .inr (.inr (.inr (.inl h.1))), L3_m.bound⟩
  obtain ⟨ao_v4_m, cap_v4_m, rfl, hc_v4_m, hm_v4_m⟩ := L4_m.shape
  unfold maxLen at hm_v4_m
  obtain ⟨P5, ha_P5, ho_P5, L4_m⟩ : ∃ X : Nat → Prop, (∀ k, X k → k < w.heap.size) ∧ (∀ k, X k → A0 k ∨ A1 k ∨ A2 k ∨ A3 k ∨ A4 k ∨ w.heap.size ≤ k) ∧ slRep RDPair X w (.slice ao_v4_m m.pairs.length cap_v4_m) m.pairs := ⟨_, fun k h => h.2, fun k h => .inr (.inr (.inr (.inr (.inl h.1)))), L4_m.bound⟩
  refine f_enter 28 Try.func55 rfl rfl (Nat.le_of_ble_eq_true rfl) fun a hok => ?_
  replace hok := hok.sub (ts := [0, 1]) rfl
  refine wp_seq ?_
  refine f_region hok ?_; clear hok; intro hok
  refine s_boxv hok (cs := [.int .i64 m.k, .int .i64 m.epoch, .int .i64 m.req, .int .i64 m.serial, .bool m.flag, .int .u64 (m.at_ : Int), .int .u64 (m.last : Int), .int .i64 m.n, .int .i64 m.m, .int .i64 m.p, .int .i64 m.e, .string m.key, .string m.to_, .int .i64 m.conf.epoch, .slice ao_v0_m m.conf.members.length cap_v0_m, .int .u64 (m.conf.floor : Int), .int .i64 m.batch.client, .int .i64 m.batch.req, .slice ao_v1_m m.batch.ops.length cap_v1_m, .slice ao_v2_m m.entries.length cap_v2_m, .slice ao_v3_m m.stamps.length cap_v3_m, .slice ao_v4_m m.pairs.length cap_v4_m]) rfl rfl rfl (by decide) rfl rfl rfl ?_; clear hok a; intro a w1 b1 hb0_b1 hb1_b1 hb X1 hok
  have hge_b1 : w.heap.size ≤ b1 := by have := B.size; omega
  have hz_w1 : w.heap.size ≤ w1.heap.size := hb.size
  replace B := B.blw hb
  replace L0_m := L0_m.below hb
  replace L1_m := L1_m.below hb
  replace L2_m := L2_m.below hb
  replace L3_m := L3_m.below hb
  replace L4_m := L4_m.below hb
  clear hb
  refine s_runk TB_Refs2 hok 1 rfl rfl ?_; clear hok a; intro a hok
  refine s_end hok [0, 1, 2, 4] rfl ?_; clear hok; intro hok
  refine p_then ?_
  refine wp_seq ?_
  refine wp_seq ?_
  refine f_region hok ?_; clear hok; intro hok
  refine s_runk TB_Refs2 hok 1 rfl rfl ?_; clear hok a; intro a hok
  refine s_end hok [0, 1, 2, 4, 5] rfl ?_; clear hok; intro hok
  refine p_then ?_
  refine wp_block ?_
  refine wp_seq ?_
  refine f_region hok ?_; clear hok; intro hok
  refine s_runk TB_Refs2 hok 2 rfl rfl ?_; clear hok a; intro a hok
  refine s_end hok [0, 1, 2, 4, 5, 6] rfl ?_; clear hok; intro hok
  refine p_then ?_
  refine f_cond hok rfl (fun hc1 => ?_) (fun hc1 => ?_)
  · replace hc1 := eq_of_beq hc1
    refine wp_seq ?_
    refine f_region hok ?_; clear hok; intro hok
    refine s_runk TB_Refs2 hok 1 rfl rfl ?_; clear hok a; intro a hok
    refine s_ob hok (v := .int .i64 m.epoch) rfl rfl (by decide) rfl (Ob_load TB_Refs2 rfl rfl rfl (X1.cell 1 rfl)) ?_; clear hok a; intro a hok
    refine s_runk TB_Refs2 hok 1 rfl rfl ?_; clear hok a; intro a hok
    refine s_end hok [0, 1, 2, 4, 5, 6] rfl ?_; clear hok; intro hok
    refine p_then ?_
    refine wp_ret ?_
    refine p_blk_r ?_
    refine p_then_r ?_
    refine f_ret hok (run_results1 rfl hok rfl) ?_
    refine ⟨?_, B.toBelow⟩
    · clear hok B L0_m L1_m L2_m L3_m L4_m X1 hc_v0_m hm_v0_m ha_P1 ho_P1 hc_v1_m hm_v1_m ha_P2 ho_P2 hc_v2_m hm_v2_m ha_P3 ho_P3 hc_v3_m hm_v3_m ha_P4 ho_P4 hc_v4_m hm_v4_m ha_P5 ho_P5 hb0_b1 hb1_b1 hge_b1 hz_w1
      (unfold numberL; (repeat' split) <;> first | rfl | (exfalso; omega) | grind)
  · replace hc1 := ne_of_beq_false hc1
    refine wp_seq ?_
    refine f_region hok ?_; clear hok; intro hok
    refine s_runk TB_Refs2 hok 2 rfl rfl ?_; clear hok a; intro a hok
    refine s_end hok [0, 1, 2, 4, 5, 6, 10] rfl ?_; clear hok; intro hok
    refine p_then ?_
    refine f_cond hok rfl (fun hc2 => ?_) (fun hc2 => ?_)
    · replace hc2 := eq_of_beq hc2
      refine wp_seq ?_
      refine f_region hok ?_; clear hok; intro hok
      refine s_runk TB_Refs2 hok 1 rfl rfl ?_; clear hok a; intro a hok
      refine s_ob hok (v := .int .i64 m.serial) rfl rfl (by decide) rfl (Ob_load TB_Refs2 rfl rfl rfl (X1.cell 3 rfl)) ?_; clear hok a; intro a hok
      refine s_runk TB_Refs2 hok 1 rfl rfl ?_; clear hok a; intro a hok
      refine s_end hok [0, 1, 2, 4, 5, 6, 10] rfl ?_; clear hok; intro hok
      refine p_then ?_
      refine wp_ret ?_
      refine p_blk_r ?_
      refine p_then_r ?_
      refine f_ret hok (run_results1 rfl hok rfl) ?_
      refine ⟨?_, B.toBelow⟩
      · clear hok B L0_m L1_m L2_m L3_m L4_m X1 hc_v0_m hm_v0_m ha_P1 ho_P1 hc_v1_m hm_v1_m ha_P2 ho_P2 hc_v2_m hm_v2_m ha_P3 ho_P3 hc_v3_m hm_v3_m ha_P4 ho_P4 hc_v4_m hm_v4_m ha_P5 ho_P5 hb0_b1 hb1_b1 hge_b1 hz_w1
        (unfold numberL; (repeat' split) <;> first | rfl | (exfalso; omega) | grind)
    · replace hc2 := ne_of_beq_false hc2
      refine wp_seq ?_
      refine f_region hok ?_; clear hok; intro hok
      refine s_runk TB_Refs2 hok 2 rfl rfl ?_; clear hok a; intro a hok
      refine s_end hok [0, 1, 2, 4, 5, 6, 10, 14] rfl ?_; clear hok; intro hok
      refine p_then ?_
      refine f_cond hok rfl (fun hc3 => ?_) (fun hc3 => ?_)
      · replace hc3 := eq_of_beq hc3
        refine wp_seq ?_
        refine f_region hok ?_; clear hok; intro hok
        refine s_runk TB_Refs2 hok 1 rfl rfl ?_; clear hok a; intro a hok
        refine s_ob hok (v := .int .i64 m.req) rfl rfl (by decide) rfl (Ob_load TB_Refs2 rfl rfl rfl (X1.cell 2 rfl)) ?_; clear hok a; intro a hok
        refine s_runk TB_Refs2 hok 1 rfl rfl ?_; clear hok a; intro a hok
        refine s_end hok [0, 1, 2, 4, 5, 6, 10, 14] rfl ?_; clear hok; intro hok
        refine p_then ?_
        refine wp_ret ?_
        refine p_blk_r ?_
        refine p_then_r ?_
        refine f_ret hok (run_results1 rfl hok rfl) ?_
        refine ⟨?_, B.toBelow⟩
        · clear hok B L0_m L1_m L2_m L3_m L4_m X1 hc_v0_m hm_v0_m ha_P1 ho_P1 hc_v1_m hm_v1_m ha_P2 ho_P2 hc_v2_m hm_v2_m ha_P3 ho_P3 hc_v3_m hm_v3_m ha_P4 ho_P4 hc_v4_m hm_v4_m ha_P5 ho_P5 hb0_b1 hb1_b1 hge_b1 hz_w1
          (unfold numberL; (repeat' split) <;> first | rfl | (exfalso; omega) | grind)
      · replace hc3 := ne_of_beq_false hc3
        refine wp_seq ?_
        refine f_region hok ?_; clear hok; intro hok
        refine s_runk TB_Refs2 hok 2 rfl rfl ?_; clear hok a; intro a hok
        refine s_end hok [0, 1, 2, 4, 5, 6, 10, 14, 18] rfl ?_; clear hok; intro hok
        refine p_then ?_
        refine f_cond hok rfl (fun hc4 => ?_) (fun hc4 => ?_)
        · replace hc4 := eq_of_beq hc4
          refine wp_seq ?_
          refine f_region hok ?_; clear hok; intro hok
          refine s_runk TB_Refs2 hok 1 rfl rfl ?_; clear hok a; intro a hok
          refine s_ob hok (v := .int .i64 m.n) rfl rfl (by decide) rfl (Ob_load TB_Refs2 rfl rfl rfl (X1.cell 7 rfl)) ?_; clear hok a; intro a hok
          refine s_runk TB_Refs2 hok 1 rfl rfl ?_; clear hok a; intro a hok
          refine s_end hok [0, 1, 2, 4, 5, 6, 10, 14, 18] rfl ?_; clear hok; intro hok
          refine p_then ?_
          refine wp_ret ?_
          refine p_blk_r ?_
          refine p_then_r ?_
          refine f_ret hok (run_results1 rfl hok rfl) ?_
          refine ⟨?_, B.toBelow⟩
          · clear hok B L0_m L1_m L2_m L3_m L4_m X1 hc_v0_m hm_v0_m ha_P1 ho_P1 hc_v1_m hm_v1_m ha_P2 ho_P2 hc_v2_m hm_v2_m ha_P3 ho_P3 hc_v3_m hm_v3_m ha_P4 ho_P4 hc_v4_m hm_v4_m ha_P5 ho_P5 hb0_b1 hb1_b1 hge_b1 hz_w1
            (unfold numberL; (repeat' split) <;> first | rfl | (exfalso; omega) | grind)
        · replace hc4 := ne_of_beq_false hc4
          refine wp_seq ?_
          refine f_region hok ?_; clear hok; intro hok
          refine s_runk TB_Refs2 hok 2 rfl rfl ?_; clear hok a; intro a hok
          refine s_end hok [0, 1, 2, 4, 5, 6, 10, 14, 18, 22] rfl ?_; clear hok; intro hok
          refine p_then ?_
          refine f_cond hok rfl (fun hc5 => ?_) (fun hc5 => ?_)
          · replace hc5 := eq_of_beq hc5
            refine wp_seq ?_
            refine f_region hok ?_; clear hok; intro hok
            refine s_runk TB_Refs2 hok 1 rfl rfl ?_; clear hok a; intro a hok
            refine s_ob hok (v := .int .i64 m.m) rfl rfl (by decide) rfl (Ob_load TB_Refs2 rfl rfl rfl (X1.cell 8 rfl)) ?_; clear hok a; intro a hok
            refine s_runk TB_Refs2 hok 1 rfl rfl ?_; clear hok a; intro a hok
            refine s_end hok [0, 1, 2, 4, 5, 6, 10, 14, 18, 22] rfl ?_; clear hok; intro hok
            refine p_then ?_
            refine wp_ret ?_
            refine p_blk_r ?_
            refine p_then_r ?_
            refine f_ret hok (run_results1 rfl hok rfl) ?_
            refine ⟨?_, B.toBelow⟩
            · clear hok B L0_m L1_m L2_m L3_m L4_m X1 hc_v0_m hm_v0_m ha_P1 ho_P1 hc_v1_m hm_v1_m ha_P2 ho_P2 hc_v2_m hm_v2_m ha_P3 ho_P3 hc_v3_m hm_v3_m ha_P4 ho_P4 hc_v4_m hm_v4_m ha_P5 ho_P5 hb0_b1 hb1_b1 hge_b1 hz_w1
              (unfold numberL; (repeat' split) <;> first | rfl | (exfalso; omega) | grind)
          · replace hc5 := ne_of_beq_false hc5
            refine wp_skip ?_
            refine p_blk ?_
            refine p_then ?_
            refine wp_seq ?_
            refine f_region hok ?_; clear hok; intro hok
            refine s_runk TB_Refs2 hok 1 rfl rfl ?_; clear hok a; intro a hok
            refine s_ob hok (v := .int .i64 m.p) rfl rfl (by decide) rfl (Ob_load TB_Refs2 rfl rfl rfl (X1.cell 9 rfl)) ?_; clear hok a; intro a hok
            refine s_runk TB_Refs2 hok 1 rfl rfl ?_; clear hok a; intro a hok
            refine s_end hok [0, 1, 2, 4, 5, 6, 10, 14, 18, 22] rfl ?_; clear hok; intro hok
            refine p_then ?_
            refine wp_ret ?_
            refine f_ret hok (run_results1 rfl hok rfl) ?_
            refine ⟨?_, B.toBelow⟩
            · clear hok B L0_m L1_m L2_m L3_m L4_m X1 hc_v0_m hm_v0_m ha_P1 ho_P1 hc_v1_m hm_v1_m ha_P2 ho_P2 hc_v2_m hm_v2_m ha_P3 ho_P3 hc_v3_m hm_v3_m ha_P4 ho_P4 hc_v4_m hm_v4_m ha_P5 ho_P5 hb0_b1 hb1_b1 hge_b1 hz_w1
              (unfold numberL; (repeat' split) <;> first | rfl | (exfalso; omega) | grind)


def pairL (x : DPair) : Int := if keyL x.key ≠ 0 then 10 else if 8 < x.val.size then 3 else 0
def firstBad {α : Type} (f : α → Int) : List α → Int
  | [] => 0
  | x :: l => if f x ≠ 0 then f x else firstBad f l
theorem firstBad_step {α : Type} [Inhabited α] (f : α → Int) (l : List α) (k : Nat) (h : k < l.length) : firstBad f (l.drop k) = if f (l.getD k default) ≠ 0 then f (l.getD k default) else firstBad f (l.drop (k + 1)) := by
  rw [drop_getD l k h]; rfl
theorem firstBad_stop {α : Type} [Inhabited α] {f : α → Int} {l : List α} {k : Nat} {v r : Int} (h : r = firstBad f (l.drop k)) (hk : k < l.length) (hv : f (l.getD k default) = v) (h0 : v ≠ 0) : Value.int .i64 v = .int .i64 r := by
  rw [h, firstBad_step f l k hk, hv, if_pos h0]
theorem firstBad_on {α : Type} [Inhabited α] {f : α → Int} {l : List α} {k : Nat} {r : Int} (h : r = firstBad f (l.drop k)) (hk : k < l.length) (hv : f (l.getD k default) = 0) : r = firstBad f (l.drop (k + 1)) := by
  rw [h, firstBad_step f l k hk, if_neg (fun x => x hv)]
theorem firstBad_end {α : Type} {f : α → Int} {l : List α} {k : Nat} {r : Int} (h : r = firstBad f (l.drop k)) (hk : l.length ≤ k) : r = 0 := by
  rw [h, List.drop_eq_nil_of_le hk]; rfl
def pairsL (l : List DPair) : Int := if 32 < l.length then 6 else firstBad pairL l
def entriesL (l : List DEntry) : Int := if 4 < l.length then 6 else firstBad (fun x : DEntry => checkB x.batch) l

set_option maxHeartbeats 1000000 in
theorem c_ref09_pairs {A0 : Nat → Prop} (v_l : Value) (l : List DPair) (w : World) (L_l : slRep RDPair A0 w v_l l) :
    Calls Try.prog 58 #[v_l] w (Ret fun r w' => r = .int .i64 (pairsL l) ∧ Below w.heap.size w w') := by
  have B : Bt [] w w := Bt.refl _ _
  obtain ⟨ao_v_l, cap_v_l, rfl, hc_v_l, hm_v_l⟩ := L_l.shape
  unfold maxLen at hm_v_l
  obtain ⟨P1, ha_P1, ho_P1, L_l⟩ : ∃ X : Nat → Prop, (∀ k, X k → k < w.heap.size) ∧ (∀ k, X k → A0 k ∨ w.heap.size ≤ k) ∧ slRep RDPair X w (.slice ao_v_l l.length cap_v_l) l := ⟨_, fun k h => h.2, fun k h => .inl h.1, L_l.bound⟩
  refine f_enter 27 Try.func58 rfl rfl (Nat.le_of_ble_eq_true rfl) fun a hok => ?_
  replace hok := hok.sub (ts := [0]) rfl
  refine wp_seq ?_
  refine f_region hok ?_; clear hok; intro hok
  refine s_runk TB_Refs2 hok 1 rfl rfl ?_; clear hok a; intro a hok
  refine s_end hok [0, 2] rfl ?_; clear hok; intro hok
  refine p_then ?_
  refine wp_seq ?_
  refine wp_seq ?_
  refine f_region hok ?_; clear hok; intro hok
  refine s_runk TB_Refs2 hok 3 rfl rfl ?_; clear hok a; intro a hok
  refine s_end hok [0, 2, 6] rfl ?_; clear hok; intro hok
  refine p_then ?_
  refine f_cond hok rfl (fun hc1 => ?_) (fun hc1 => ?_)
  · replace hc1 := of_decide_eq_true hc1
    refine wp_seq ?_
    refine f_region hok ?_; clear hok; intro hok
    refine s_runk TB_Refs2 hok 1 rfl rfl ?_; clear hok a; intro a hok
    refine s_end hok [0, 2, 6] rfl ?_; clear hok; intro hok
    refine p_then ?_
    refine wp_ret ?_
    refine p_then_r ?_
    refine f_ret hok (run_results1 rfl hok rfl) ?_
    refine ⟨?_, B.toBelow⟩
    · clear hok B L_l hc_v_l hm_v_l ha_P1 ho_P1
      rw [pairsL, if_pos (by omega)]
  · replace hc1 := of_decide_eq_false hc1
    refine wp_skip ?_
    refine p_then ?_
    refine wp_seq ?_
    refine wp_seq ?_
    refine f_region hok ?_; clear hok; intro hok
    refine s_runk TB_Refs2 hok 1 rfl rfl ?_; clear hok a; intro a hok
    refine s_end hok [0, 2, 6, 3] rfl ?_; clear hok; intro hok
    refine p_then ?_
    refine wp_block ?_
    refine f_loop (σ := Nat) (fun k a w' => Sl 27 [(0, .slice ao_v_l l.length cap_v_l), (6, .bool (decide ((l.length : Int) > 32))), (3, .int .i64 (k : Int))] a ∧ (k ≤ l.length) ∧ (pairsL l = firstBad pairL (l.drop k)) ∧ Bt [] w w' ∧ slRep RDPair P1 w' (.slice ao_v_l l.length cap_v_l) l) (fun k => l.length - k) 0 ⟨hok.sub (ts := [0, 6, 3]) rfl, by omega, by unfold pairsL; rw [if_neg (by omega)]; rfl, B, L_l⟩ ?_
    clear hok B L_l
    rintro k a w1 ⟨hok, hinv0_0, hinv0_1, B, L_l⟩
    refine wp_seq ?_
    refine wp_seq ?_
    refine f_region hok ?_; clear hok; intro hok
    refine s_runk TB_Refs2 hok 4 rfl rfl ?_; clear hok a; intro a hok
    refine s_end hok [0, 6, 3, 10] rfl ?_; clear hok; intro hok
    refine p_then ?_
    refine f_cond hok rfl (fun hc2 => ?_) (fun hc2 => ?_)
    · replace hc2 := of_decide_eq_true hc2
      refine wp_skip ?_
      refine p_then ?_
      refine wp_seq ?_
      refine wp_block ?_
      refine wp_seq ?_
      refine wp_seq ?_
      refine f_region hok ?_; clear hok; intro hok
      refine s_runk TB_Refs2 hok 2 rfl rfl ?_; clear hok a; intro a hok
      have hi1 : k < l.length := by omega
      have he1 := elt L_l (k) (slRep.lt L_l hi1)
      refine s_ob hok (v := .pointer (some ⟨bOf ao_v_l, oOf ao_v_l + k * 2, none⟩)) rfl rfl (by decide) rfl (Ob_idx TB_Refs2 (k) rfl rfl he1.1 rfl rfl rfl hi1) ?_; clear hok a; intro a hok
      refine s_runk TB_Refs2 hok 1 rfl rfl ?_; clear hok a; intro a hok
      obtain ⟨_, _, _, ⟨rfl, hok_e1⟩, hat1⟩ := id he1
      refine s_ob hok (v := .string ((l.getD k default).key)) rfl rfl (by decide) rfl (Ob_load TB_Refs2 rfl rfl rfl (hat1 0 _ rfl)) ?_; clear hok a; intro a hok
      refine s_call hok fn_70_Refs2 (caps := #[]) rfl rfl rfl rfl rfl (by decide) rfl rfl (c_ref05_Check ((l.getD k default).key) _ hok_e1.1) ?_; clear hok a; intro _ a w2 hr hok
      obtain ⟨rfl, hb⟩ := hr
      have hz_w2 : w1.heap.size ≤ w2.heap.size := hb.size
      replace B := B.blw hb
      replace L_l := L_l.below hb
      clear hb
      refine s_runk TB_Refs2 hok 1 rfl rfl ?_; clear hok a; intro a hok
      refine s_end hok [0, 6, 3, 10, 19] rfl ?_; clear hok; intro hok
      refine p_then ?_
      refine f_cond hok rfl (fun hc3 => ?_) (fun hc3 => ?_)
      · replace hc3 := bne_iff_ne.1 hc3
        refine wp_seq ?_
        refine f_region hok ?_; clear hok; intro hok
        refine s_runk TB_Refs2 hok 1 rfl rfl ?_; clear hok a; intro a hok
        refine s_end hok [0, 6, 3, 10, 19, 2] rfl ?_; clear hok; intro hok
        refine p_then ?_
        refine wp_ret ?_
        refine p_then_r ?_
        refine p_blk_r ?_
        refine p_then_r ?_
        refine p_then_r ?_
        refine p_blk_r ?_
        refine p_then_r ?_
        refine f_ret hok (run_results1 rfl hok rfl) ?_
        refine ⟨?_, B.toBelow⟩
        · clear hok B L_l hc_v_l hm_v_l ha_P1 ho_P1 he1 hat1 hz_w2
          exact firstBad_stop hinv0_1 (by omega) (by (unfold pairL; (repeat' split) <;> first | rfl | (exfalso; omega) | grind)) (by decide)
      · replace hc3 := bne_eq_false_iff_eq.1 hc3
        refine wp_skip ?_
        refine p_then ?_
        refine wp_seq ?_
        refine f_region hok ?_; clear hok; intro hok
        refine s_runk TB_Refs2 hok 2 rfl rfl ?_; clear hok a; intro a hok
        have hi2 : k < l.length := by omega
        have he2 := elt L_l (k) (slRep.lt L_l hi2)
        refine s_ob hok (v := .pointer (some ⟨bOf ao_v_l, oOf ao_v_l + k * 2, none⟩)) rfl rfl (by decide) rfl (Ob_idx TB_Refs2 (k) rfl rfl he2.1 rfl rfl rfl hi2) ?_; clear hok a; intro a hok
        refine s_runk TB_Refs2 hok 1 rfl rfl ?_; clear hok a; intro a hok
        obtain ⟨_, _, _, ⟨rfl, hok_e2⟩, hat2⟩ := id he2
        refine s_ob hok (v := .string ((l.getD k default).val)) rfl rfl (by decide) rfl (Ob_load TB_Refs2 rfl rfl rfl (hat2 1 _ rfl)) ?_; clear hok a; intro a hok
        refine s_runk TB_Refs2 hok 2 rfl rfl ?_; clear hok a; intro a hok
        refine s_end hok [0, 6, 3, 10, 19, 26] rfl ?_; clear hok; intro hok
        refine p_then ?_
        refine f_cond hok rfl (fun hc4 => ?_) (fun hc4 => ?_)
        · replace hc4 := of_decide_eq_true hc4
          refine wp_seq ?_
          refine f_region hok ?_; clear hok; intro hok
          refine s_runk TB_Refs2 hok 1 rfl rfl ?_; clear hok a; intro a hok
          refine s_end hok [0, 6, 3, 10, 19, 26, 2] rfl ?_; clear hok; intro hok
          refine p_then ?_
          refine wp_ret ?_
          refine p_blk_r ?_
          refine p_then_r ?_
          refine p_then_r ?_
          refine p_blk_r ?_
          refine p_then_r ?_
          refine f_ret hok (run_results1 rfl hok rfl) ?_
          refine ⟨?_, B.toBelow⟩
          · clear hok B L_l hc_v_l hm_v_l ha_P1 ho_P1 he1 hat1 hz_w2 he2 hat2
            exact firstBad_stop hinv0_1 (by omega) (by (unfold pairL; (repeat' split) <;> first | rfl | (exfalso; omega) | grind)) (by decide)
        · replace hc4 := of_decide_eq_false hc4
          refine wp_skip ?_
          refine p_blk ?_
          refine p_then ?_
          refine f_region hok ?_; clear hok; intro hok
          refine s_runk TB_Refs2 hok 1 rfl rfl ?_; clear hok a; intro a hok
          refine s_ob hok (v := .int .i64 ((k : Int) + 1)) rfl rfl (by decide) rfl (Ob_add rfl rfl rfl (IntWalk.i64_in _ (by omega))) ?_; clear hok a; intro a hok
          refine s_runk TB_Refs2 hok 1 rfl rfl ?_; clear hok a; intro a hok
          refine s_end hok [0, 6, 3, 10, 19, 26] rfl ?_; clear hok; intro hok
          refine p_then ?_
          refine ⟨k + 1, ⟨hok.sub (ts := [0, 6, 3]) rfl, ?_, ?_, B, L_l⟩, by omega⟩
          · clear hok B L_l hc_v_l hm_v_l ha_P1 ho_P1 he1 hat1 hz_w2 he2 hat2
            omega
          · clear hok B L_l hc_v_l hm_v_l ha_P1 ho_P1 he1 hat1 hz_w2 he2 hat2
            exact firstBad_on hinv0_1 (by omega) (by (unfold pairL; (repeat' split) <;> first | rfl | (exfalso; omega) | grind))
    · replace hc2 := of_decide_eq_false hc2
      refine wp_exit ?_
      refine p_then_x ?_
      refine p_then_x ?_
      refine f_exit_here ?_
      refine p_then ?_
      refine wp_seq ?_
      refine f_region hok ?_; clear hok; intro hok
      refine s_runk TB_Refs2 hok 1 rfl rfl ?_; clear hok a; intro a hok
      refine s_end hok [0, 6, 3, 10, 2] rfl ?_; clear hok; intro hok
      refine p_then ?_
      refine wp_ret ?_
      refine f_ret hok (run_results1 rfl hok rfl) ?_
      refine ⟨?_, B.toBelow⟩
      · clear hok B L_l hc_v_l hm_v_l ha_P1 ho_P1
        rw [firstBad_end hinv0_1 (by omega)]


set_option maxHeartbeats 1000000 in
theorem c_ref09_entries {A0 : Nat → Prop} (v_l : Value) (l : List DEntry) (w : World) (L_l : slRep RDEntry A0 w v_l l) :
    Calls Try.prog 57 #[v_l] w (Ret fun r w' => r = .int .i64 (entriesL l) ∧ Below w.heap.size w w') := by
  have B : Bt [] w w := Bt.refl _ _
  obtain ⟨ao_v_l, cap_v_l, rfl, hc_v_l, hm_v_l⟩ := L_l.shape
  unfold maxLen at hm_v_l
  obtain ⟨P1, ha_P1, ho_P1, L_l⟩ : ∃ X : Nat → Prop, (∀ k, X k → k < w.heap.size) ∧ (∀ k, X k → A0 k ∨ w.heap.size ≤ k) ∧ slRep RDEntry X w (.slice ao_v_l l.length cap_v_l) l := ⟨_, fun k h => h.2, fun k h => .inl h.1, L_l.bound⟩
  refine f_enter 22 Try.func57 rfl rfl (Nat.le_of_ble_eq_true rfl) fun a hok => ?_
  replace hok := hok.sub (ts := [0]) rfl
  refine wp_seq ?_
  refine f_region hok ?_; clear hok; intro hok
  refine s_runk TB_Refs2 hok 1 rfl rfl ?_; clear hok a; intro a hok
  refine s_end hok [0, 2] rfl ?_; clear hok; intro hok
  refine p_then ?_
  refine wp_seq ?_
  refine wp_seq ?_
  refine f_region hok ?_; clear hok; intro hok
  refine s_runk TB_Refs2 hok 3 rfl rfl ?_; clear hok a; intro a hok
  refine s_end hok [0, 2, 7] rfl ?_; clear hok; intro hok
  refine p_then ?_
  refine f_cond hok rfl (fun hc1 => ?_) (fun hc1 => ?_)
  · replace hc1 := of_decide_eq_true hc1
    refine wp_seq ?_
    refine f_region hok ?_; clear hok; intro hok
    refine s_runk TB_Refs2 hok 1 rfl rfl ?_; clear hok a; intro a hok
    refine s_end hok [0, 2, 7] rfl ?_; clear hok; intro hok
    refine p_then ?_
    refine wp_ret ?_
    refine p_then_r ?_
    refine f_ret hok (run_results1 rfl hok rfl) ?_
    refine ⟨?_, B.toBelow⟩
    · clear hok B L_l hc_v_l hm_v_l ha_P1 ho_P1
      rw [entriesL, if_pos (by omega)]
  · replace hc1 := of_decide_eq_false hc1
    refine wp_skip ?_
    refine p_then ?_
    refine wp_seq ?_
    refine wp_seq ?_
    refine f_region hok ?_; clear hok; intro hok
    refine s_runk TB_Refs2 hok 1 rfl rfl ?_; clear hok a; intro a hok
    refine s_end hok [0, 2, 7, 3] rfl ?_; clear hok; intro hok
    refine p_then ?_
    refine wp_block ?_
    refine f_loop (σ := Nat) (fun k a w' => Sl 22 [(0, .slice ao_v_l l.length cap_v_l), (7, .bool (decide ((l.length : Int) > 4))), (3, .int .i64 (k : Int))] a ∧ (k ≤ l.length) ∧ (entriesL l = firstBad (fun x : DEntry => checkB x.batch) (l.drop k)) ∧ Bt [] w w' ∧ slRep RDEntry P1 w' (.slice ao_v_l l.length cap_v_l) l) (fun k => l.length - k) 0 ⟨hok.sub (ts := [0, 7, 3]) rfl, by omega, by unfold entriesL; rw [if_neg (by omega)]; rfl, B, L_l⟩ ?_
    clear hok B L_l
    rintro k a w1 ⟨hok, hinv0_0, hinv0_1, B, L_l⟩
    refine wp_seq ?_
    refine wp_seq ?_
    refine f_region hok ?_; clear hok; intro hok
    refine s_runk TB_Refs2 hok 4 rfl rfl ?_; clear hok a; intro a hok
    refine s_end hok [0, 7, 3, 11] rfl ?_; clear hok; intro hok
    refine p_then ?_
    refine f_cond hok rfl (fun hc2 => ?_) (fun hc2 => ?_)
    · replace hc2 := of_decide_eq_true hc2
      refine wp_skip ?_
      refine p_then ?_
      refine wp_seq ?_
      refine wp_block ?_
      refine wp_seq ?_
      refine f_region hok ?_; clear hok; intro hok
      refine s_runk TB_Refs2 hok 2 rfl rfl ?_; clear hok a; intro a hok
      have hi1 : k < l.length := by omega
      have he1 := elt L_l (k) (slRep.lt L_l hi1)
      refine s_ob hok (v := .pointer (some ⟨bOf ao_v_l, oOf ao_v_l + k * 4, none⟩)) rfl rfl (by decide) rfl (Ob_idx TB_Refs2 (k) rfl rfl he1.1 rfl rfl rfl hi1) ?_; clear hok a; intro a hok
      obtain ⟨_, _, _, ⟨u1, rfl, L1, hok_e1⟩, hat1⟩ := id he1
      obtain ⟨ao_u1, cap_u1, rfl, hc_u1, hm_u1⟩ := L1.shape
      unfold maxLen at hm_u1
      refine s_ob hok (v := .agg #[.int .i64 ((l.getD k default).batch.client), .int .i64 ((l.getD k default).batch.req), .slice ao_u1 ((l.getD k default).batch.ops.length) cap_u1, .int .u64 ((l.getD k default).ts : Int)]) rfl rfl (by decide) rfl (Ob_loads TB_Refs2 rfl rfl rfl hat1) ?_; clear hok a; intro a hok
      refine s_call hok fn_28_Refs2 (caps := #[]) rfl rfl rfl rfl rfl (by decide) rfl rfl (c_ref08_Check (l.getD k default) _ _ L1 hok_e1) ?_; clear hok a; intro _ a w2 hr hok
      obtain ⟨rfl, hb⟩ := hr
      have hz_w2 : w1.heap.size ≤ w2.heap.size := hb.size
      replace B := B.blw hb
      replace L_l := L_l.below hb
      replace L1 := L1.below hb
      clear hb
      refine s_runk TB_Refs2 hok 1 rfl rfl ?_; clear hok a; intro a hok
      refine s_end hok [0, 7, 3, 11, 4] rfl ?_; clear hok; intro hok
      refine p_then ?_
      refine wp_seq ?_
      refine f_region hok ?_; clear hok; intro hok
      refine s_runk TB_Refs2 hok 2 rfl rfl ?_; clear hok a; intro a hok
      refine s_end hok [0, 7, 3, 11, 4, 20] rfl ?_; clear hok; intro hok
      refine p_then ?_
      refine f_cond hok rfl (fun hc3 => ?_) (fun hc3 => ?_)
      · replace hc3 := bne_iff_ne.1 hc3
        refine wp_seq ?_
        refine f_region hok ?_; clear hok; intro hok
        refine s_runk TB_Refs2 hok 2 rfl rfl ?_; clear hok a; intro a hok
        refine s_end hok [0, 7, 3, 11, 4, 20, 2] rfl ?_; clear hok; intro hok
        refine p_then ?_
        refine wp_ret ?_
        refine p_blk_r ?_
        refine p_then_r ?_
        refine p_then_r ?_
        refine p_blk_r ?_
        refine p_then_r ?_
        refine f_ret hok (run_results1 rfl hok rfl) ?_
        refine ⟨?_, B.toBelow⟩
        · clear hok B L_l L1 hc_v_l hm_v_l ha_P1 ho_P1 he1 hc_u1 hm_u1 hat1 hz_w2
          exact firstBad_stop (f := fun x : DEntry => checkB x.batch) hinv0_1 (by omega) rfl hc3
      · replace hc3 := bne_eq_false_iff_eq.1 hc3
        refine wp_skip ?_
        refine p_blk ?_
        refine p_then ?_
        refine f_region hok ?_; clear hok; intro hok
        refine s_runk TB_Refs2 hok 1 rfl rfl ?_; clear hok a; intro a hok
        refine s_ob hok (v := .int .i64 ((k : Int) + 1)) rfl rfl (by decide) rfl (Ob_add rfl rfl rfl (IntWalk.i64_in _ (by omega))) ?_; clear hok a; intro a hok
        refine s_runk TB_Refs2 hok 1 rfl rfl ?_; clear hok a; intro a hok
        refine s_end hok [0, 7, 3, 11, 4, 20] rfl ?_; clear hok; intro hok
        refine p_then ?_
        refine ⟨k + 1, ⟨hok.sub (ts := [0, 7, 3]) rfl, ?_, ?_, B, L_l⟩, by omega⟩
        · clear hok B L_l L1 hc_v_l hm_v_l ha_P1 ho_P1 he1 hc_u1 hm_u1 hat1 hz_w2
          omega
        · clear hok B L_l L1 hc_v_l hm_v_l ha_P1 ho_P1 he1 hc_u1 hm_u1 hat1 hz_w2
          exact firstBad_on hinv0_1 (by omega) hc3
    · replace hc2 := of_decide_eq_false hc2
      refine wp_exit ?_
      refine p_then_x ?_
      refine p_then_x ?_
      refine f_exit_here ?_
      refine p_then ?_
      refine wp_seq ?_
      refine f_region hok ?_; clear hok; intro hok
      refine s_runk TB_Refs2 hok 1 rfl rfl ?_; clear hok a; intro a hok
      refine s_end hok [0, 7, 3, 11, 2] rfl ?_; clear hok; intro hok
      refine p_then ?_
      refine wp_ret ?_
      refine f_ret hok (run_results1 rfl hok rfl) ?_
      refine ⟨?_, B.toBelow⟩
      · clear hok B L_l hc_v_l hm_v_l ha_P1 ho_P1
        rw [firstBad_end hinv0_1 (by omega)]


/-- what is wrong with a part -/
def wrongL (m : DMsg) (c : Nat) : Int :=
  if c = 101 ∨ c = 115 ∨ c = 114 ∨ c = 110 ∨ c = 109 ∨ c = 112 then (if numberL m c < 0 ∨ 1073741824 < numberL m c then 5 else 0)
  else if c = 120 then (if m.e < 0 ∨ 21 < m.e then 1 else 0) else if c = 107 then (if 8 < m.key.size then 3 else 0) else if c = 116 then (if 8 < m.to_.size then 3 else 0)
  else if c = 67 then checkC m.conf else if c = 66 then checkB m.batch else if c = 69 then entriesL m.entries else if c = 83 then (if 8 < m.stamps.length then 6 else 0) else if c = 82 then pairsL m.pairs else 0

set_option maxHeartbeats 8000000 in
theorem c_ref09_wrong {A0 : Nat → Prop} {A1 : Nat → Prop} {A2 : Nat → Prop} {A3 : Nat → Prop} {A4 : Nat → Prop} (m : DMsg) (v0_m : Value) (v1_m : Value) (v2_m : Value) (v3_m : Value) (v4_m : Value) (c : Nat) (w : World) (L0_m : slRep RDMember A0 w v0_m m.conf.members) (L1_m : slRep RDOp A1 w v1_m m.batch.ops) (L2_m : slRep RDEntry A2 w v2_m m.entries) (L3_m : slRep RU A3 w v3_m m.stamps) (L4_m : slRep RDPair A4 w v4_m m.pairs) (h_m : okDMsg m) (h_c : c < 256) :
    Calls Try.prog 38 #[.agg #[.int .i64 m.k, .int .i64 m.epoch, .int .i64 m.req, .int .i64 m.serial, .bool m.flag, .int .u64 (m.at_ : Int), .int .u64 (m.last : Int), .int .i64 m.n, .int .i64 m.m, .int .i64 m.p, .int .i64 m.e, .string m.key, .string m.to_, .int .i64 m.conf.epoch, v0_m, .int .u64 (m.conf.floor : Int), .int .i64 m.batch.client, .int .i64 m.batch.req, v1_m, v2_m, v3_m, v4_m], .int .u8 (c : Int)] w (Ret fun r w' => r = .int .i64 (wrongL m c) ∧ Below w.heap.size w w') := by
  have B : Bt [] w w := Bt.refl _ _
  obtain ⟨ao_v0_m, cap_v0_m, rfl, hc_v0_m, hm_v0_m⟩ := L0_m.shape
  unfold maxLen at hm_v0_m
  obtain ⟨P1, ha_P1, ho_P1, L0_m⟩ : ∃ X : Nat → Prop, (∀ k, X k → k < w.heap.size) ∧ (∀ k, X k → A0 k ∨ A1 k ∨ A2 k ∨ A3 k ∨ A4 k ∨ w.heap.size ≤ k) ∧ slRep RDMember X w (.slice ao_v0_m m.conf.members.length cap_v0_m) m.conf.members := ⟨_, fun k h => h.2, fun k h => .inl h.1, L0_m.bound⟩
  obtain ⟨ao_v1_m, cap_v1_m, rfl, hc_v1_m, hm_v1_m⟩ := L1_m.shape
  unfold maxLen at hm_v1_m
  obtain ⟨P2, ha_P2, ho_P2, L1_m⟩ : ∃ X : Nat → Prop, (∀ k, X k → k < w.heap.size) ∧ (∀ k, X k → A0 k ∨ A1 k ∨ A2 k ∨ A3 k ∨ A4 k ∨ w.heap.size ≤ k) ∧ slRep RDOp X w (.slice ao_v1_m m.batch.ops.length cap_v1_m) m.batch.ops := ⟨_, fun k h => h.2, fun k h => .inr (.inl h.1), L1_m.bound⟩
  obtain ⟨ao_v2_m, cap_v2_m, rfl, hc_v2_m, hm_v2_m⟩ := L2_m.shape
  unfold maxLen at hm_v2_m
  obtain ⟨P3, ha_P3, ho_P3, L2_m⟩ : ∃ X : Nat → Prop, (∀ k, X k → k < w.heap.size) ∧ (∀ k, X k → A0 k ∨ A1 k ∨ A2 k ∨ A3 k ∨ A4 k ∨ w.heap.size ≤ k) ∧ slRep RDEntry X w (.slice ao_v2_m m.entries.length cap_v2_m) m.entries := ⟨_, fun k h => h.2, fun k h => .inr (.inr (.inl h.1)), L2_m.bound⟩
  obtain ⟨ao_v3_m, cap_v3_m, rfl, hc_v3_m, hm_v3_m⟩ := L3_m.shape
  unfold maxLen at hm_v3_m
  obtain ⟨P4, ha_P4, ho_P4, L3_m⟩ : ∃ X : Nat → Prop, (∀ k, X k → k < w.heap.size) ∧ (∀ k, X k → A0 k ∨ A1 k ∨ A2 k ∨ A3 k ∨ A4 k ∨ w.heap.size ≤ k) ∧ slRep RU X w (.slice ao_v3_m m.stamps.length cap_v3_m) m.stamps := ⟨_, fun k h => h.2, fun k h => .inr (.inr (.inr (.inl h.1))), L3_m.bound⟩
  obtain ⟨ao_v4_m, cap_v4_m, rfl, hc_v4_m, hm_v4_m⟩ := L4_m.shape
  unfold maxLen at hm_v4_m
  obtain ⟨P5, ha_P5, ho_P5, L4_m⟩ : ∃ X : Nat → Prop, (∀ k, X k → k < w.heap.size) ∧ (∀ k, X k → A0 k ∨ A1 k ∨ A2 k ∨ A3 k ∨ A4 k ∨ w.heap.size ≤ k) ∧ slRep RDPair X w (.slice ao_v4_m m.pairs.length cap_v4_m) m.pairs := ⟨_, fun k h => h.2, fun k h => .inr (.inr (.inr (.inr (.inl h.1)))), L4_m.bound⟩
  refine f_enter 71 Try.func38 rfl rfl (Nat.le_of_ble_eq_true rfl) fun a hok => ?_
  replace hok := hok.sub (ts := [0, 1]) rfl
  refine wp_seq ?_
  refine f_region hok ?_; clear hok; intro hok
  refine s_boxv hok (cs := [.int .i64 m.k, .int .i64 m.epoch, .int .i64 m.req, .int .i64 m.serial, .bool m.flag, .int .u64 (m.at_ : Int), .int .u64 (m.last : Int), .int .i64 m.n, .int .i64 m.m, .int .i64 m.p, .int .i64 m.e, .string m.key, .string m.to_, .int .i64 m.conf.epoch, .slice ao_v0_m m.conf.members.length cap_v0_m, .int .u64 (m.conf.floor : Int), .int .i64 m.batch.client, .int .i64 m.batch.req, .slice ao_v1_m m.batch.ops.length cap_v1_m, .slice ao_v2_m m.entries.length cap_v2_m, .slice ao_v3_m m.stamps.length cap_v3_m, .slice ao_v4_m m.pairs.length cap_v4_m]) rfl rfl rfl (by decide) rfl rfl rfl ?_; clear hok a; intro a w1 b1 hb0_b1 hb1_b1 hb X1 hok
  have hge_b1 : w.heap.size ≤ b1 := by have := B.size; omega
  have hz_w1 : w.heap.size ≤ w1.heap.size := hb.size
  replace B := B.blw hb
  replace L0_m := L0_m.below hb
  replace L1_m := L1_m.below hb
  replace L2_m := L2_m.below hb
  replace L3_m := L3_m.below hb
  replace L4_m := L4_m.below hb
  clear hb
  refine s_runk TB_Refs2 hok 1 rfl rfl ?_; clear hok a; intro a hok
  refine s_end hok [0, 1, 2, 4] rfl ?_; clear hok; intro hok
  refine p_then ?_
  refine wp_seq ?_
  refine wp_seq ?_
  refine f_region hok ?_; clear hok; intro hok
  refine s_runk TB_Refs2 hok 1 rfl rfl ?_; clear hok a; intro a hok
  refine s_end hok [0, 1, 2, 4, 6] rfl ?_; clear hok; intro hok
  refine p_then ?_
  refine wp_block ?_
  refine wp_seq ?_
  refine wp_seq ?_
  refine f_region hok ?_; clear hok; intro hok
  refine s_runk TB_Refs2 hok 2 rfl rfl ?_; clear hok a; intro a hok
  refine s_end hok [0, 1, 2, 4, 6, 7] rfl ?_; clear hok; intro hok
  refine p_then ?_
  refine f_or hok (r := ((c : Int) == 115) || (((c : Int) == 114) || (((c : Int) == 110) || (((c : Int) == 109) || ((c : Int) == 112))))) (ts := [0, 1, 2, 4, 6]) rfl rfl ?_ ?_
  · refine wp_seq ?_
    refine f_region hok ?_; clear hok; intro hok
    refine s_runk TB_Refs2 hok 2 rfl rfl ?_; clear hok a; intro a hok
    refine s_end hok [0, 1, 2, 4, 6, 7] rfl ?_; clear hok; intro hok
    refine p_then ?_
    refine f_or hok (r := ((c : Int) == 114) || (((c : Int) == 110) || (((c : Int) == 109) || ((c : Int) == 112)))) (ts := [0, 1, 2, 4, 6]) rfl rfl ?_ ?_
    · refine wp_seq ?_
      refine f_region hok ?_; clear hok; intro hok
      refine s_runk TB_Refs2 hok 2 rfl rfl ?_; clear hok a; intro a hok
      refine s_end hok [0, 1, 2, 4, 6, 7] rfl ?_; clear hok; intro hok
      refine p_then ?_
      refine f_or hok (r := ((c : Int) == 110) || (((c : Int) == 109) || ((c : Int) == 112))) (ts := [0, 1, 2, 4, 6]) rfl rfl ?_ ?_
      · refine wp_seq ?_
        refine f_region hok ?_; clear hok; intro hok
        refine s_runk TB_Refs2 hok 2 rfl rfl ?_; clear hok a; intro a hok
        refine s_end hok [0, 1, 2, 4, 6, 7] rfl ?_; clear hok; intro hok
        refine p_then ?_
        refine f_or hok (r := ((c : Int) == 109) || ((c : Int) == 112)) (ts := [0, 1, 2, 4, 6]) rfl rfl ?_ ?_
        · refine wp_seq ?_
          refine f_region hok ?_; clear hok; intro hok
          refine s_runk TB_Refs2 hok 2 rfl rfl ?_; clear hok a; intro a hok
          refine s_end hok [0, 1, 2, 4, 6, 7] rfl ?_; clear hok; intro hok
          refine p_then ?_
          refine f_or hok (r := (c : Int) == 112) (ts := [0, 1, 2, 4, 6]) rfl rfl ?_ ?_
          · refine f_region hok ?_; clear hok; intro hok
            refine s_runk TB_Refs2 hok 2 rfl rfl ?_; clear hok a; intro a hok
            refine s_end hok [0, 1, 2, 4, 6, 7] rfl ?_; clear hok; intro hok
            exact ⟨rfl, rfl, hok.sub (ts := [7, 0, 1, 2, 4, 6]) rfl⟩
          clear hok a; intro a hok
          exact ⟨rfl, rfl, hok.sub (ts := [7, 0, 1, 2, 4, 6]) rfl⟩
        clear hok a; intro a hok
        exact ⟨rfl, rfl, hok.sub (ts := [7, 0, 1, 2, 4, 6]) rfl⟩
      clear hok a; intro a hok
      exact ⟨rfl, rfl, hok.sub (ts := [7, 0, 1, 2, 4, 6]) rfl⟩
    clear hok a; intro a hok
    exact ⟨rfl, rfl, hok.sub (ts := [7, 0, 1, 2, 4, 6]) rfl⟩
  clear hok a; intro a hok
  refine p_then ?_
  refine f_cond hok rfl (fun hc1 => ?_) (fun hc1 => ?_)
  · replace hc1 := orT hc1 (fun h => eq_of_beq h) (fun h => orT h (fun h => eq_of_beq h) (fun h => orT h (fun h => eq_of_beq h) (fun h => orT h (fun h => eq_of_beq h) (fun h => orT h (fun h => eq_of_beq h) (fun h => eq_of_beq h)))))
    refine wp_seq ?_
    refine f_region hok ?_; clear hok; intro hok
    refine s_ob hok (v := .agg #[.int .i64 m.k, .int .i64 m.epoch, .int .i64 m.req, .int .i64 m.serial, .bool m.flag, .int .u64 (m.at_ : Int), .int .u64 (m.last : Int), .int .i64 m.n, .int .i64 m.m, .int .i64 m.p, .int .i64 m.e, .string m.key, .string m.to_, .int .i64 m.conf.epoch, .slice ao_v0_m m.conf.members.length cap_v0_m, .int .u64 (m.conf.floor : Int), .int .i64 m.batch.client, .int .i64 m.batch.req, .slice ao_v1_m m.batch.ops.length cap_v1_m, .slice ao_v2_m m.entries.length cap_v2_m, .slice ao_v3_m m.stamps.length cap_v3_m, .slice ao_v4_m m.pairs.length cap_v4_m]) rfl rfl (by decide) rfl (Ob_loads TB_Refs2 (cs := [.int .i64 m.k, .int .i64 m.epoch, .int .i64 m.req, .int .i64 m.serial, .bool m.flag, .int .u64 (m.at_ : Int), .int .u64 (m.last : Int), .int .i64 m.n, .int .i64 m.m, .int .i64 m.p, .int .i64 m.e, .string m.key, .string m.to_, .int .i64 m.conf.epoch, .slice ao_v0_m m.conf.members.length cap_v0_m, .int .u64 (m.conf.floor : Int), .int .i64 m.batch.client, .int .i64 m.batch.req, .slice ao_v1_m m.batch.ops.length cap_v1_m, .slice ao_v2_m m.entries.length cap_v2_m, .slice ao_v3_m m.stamps.length cap_v3_m, .slice ao_v4_m m.pairs.length cap_v4_m]) rfl rfl rfl X1.at) ?_; clear hok a; intro a hok
    refine s_runk TB_Refs2 hok 1 rfl rfl ?_; clear hok a; intro a hok
    refine s_call hok fn_55_Refs2 (caps := #[]) rfl rfl rfl rfl rfl (by decide) rfl rfl (c_ref09_number m _ _ _ _ _ c _ L0_m L1_m L2_m L3_m L4_m h_m h_c) ?_; clear hok a; intro _ a w2 hr hok
    obtain ⟨rfl, hb⟩ := hr
    have hz_w2 : w1.heap.size ≤ w2.heap.size := hb.size
    replace B := B.blw hb
    replace L0_m := L0_m.below hb
    replace L1_m := L1_m.below hb
    replace L2_m := L2_m.below hb
    replace L3_m := L3_m.below hb
    replace L4_m := L4_m.below hb
    replace X1 := X1.below hb
    clear hb
    refine s_runk TB_Refs2 hok 1 rfl rfl ?_; clear hok a; intro a hok
    refine s_end hok [7, 0, 1, 2, 4, 6, 5] rfl ?_; clear hok; intro hok
    refine p_then ?_
    refine wp_seq ?_
    refine f_region hok ?_; clear hok; intro hok
    refine s_runk TB_Refs2 hok 3 rfl rfl ?_; clear hok a; intro a hok
    refine s_gob hok (c := decide ((numberL m c) < 0)) rfl rfl rfl rfl (by decide) rfl (by decide) rfl (fun _ => Ob_c TB_Refs2 rfl) ?_; clear hok a; intro a hok
    refine s_gob hok (c := decide ((numberL m c) < 0)) rfl rfl rfl rfl (by decide) rfl (by decide) rfl (fun _ => Ob_c TB_Refs2 rfl) ?_; clear hok a; intro a hok
    refine s_or hok (i := 2) rfl rfl rfl rfl rfl rfl rfl (by decide) rfl rfl ?_; clear hok a; intro a hok
    refine s_end hok [7, 0, 1, 2, 4, 6, 5, 22] rfl ?_; clear hok; intro hok
    refine p_then ?_
    refine f_cond hok rfl (fun hc2 => ?_) (fun hc2 => ?_)
    · replace hc2 := orT hc2 (fun h => of_decide_eq_true h) (fun h => of_decide_eq_true h)
      refine wp_seq ?_
      refine f_region hok ?_; clear hok; intro hok
      refine s_runk TB_Refs2 hok 1 rfl rfl ?_; clear hok a; intro a hok
      refine s_end hok [7, 0, 1, 2, 4, 6, 5, 22] rfl ?_; clear hok; intro hok
      refine p_then ?_
      refine wp_ret ?_
      refine p_blk_r ?_
      refine p_then_r ?_
      refine f_ret hok (run_results1 rfl hok rfl) ?_
      refine ⟨?_, B.toBelow⟩
      · clear hok B L0_m L1_m L2_m L3_m L4_m X1 hc_v0_m hm_v0_m ha_P1 ho_P1 hc_v1_m hm_v1_m ha_P2 ho_P2 hc_v2_m hm_v2_m ha_P3 ho_P3 hc_v3_m hm_v3_m ha_P4 ho_P4 hc_v4_m hm_v4_m ha_P5 ho_P5 hb0_b1 hb1_b1 hge_b1 hz_w1 hz_w2
        (unfold wrongL; (repeat (first | rw [if_pos (by omega)] | rw [if_neg (by omega)])); try rfl)
    · replace hc2 := And.intro (of_decide_eq_false (orF1 hc2)) (of_decide_eq_false (orF2 hc2))
      refine wp_skip ?_
      refine p_blk ?_
      refine p_then ?_
      refine wp_seq ?_
      refine f_region hok ?_; clear hok; intro hok
      refine s_runk TB_Refs2 hok 1 rfl rfl ?_; clear hok a; intro a hok
      refine s_end hok [7, 0, 1, 2, 4, 6, 5, 22] rfl ?_; clear hok; intro hok
      refine p_then ?_
      refine wp_ret ?_
      refine f_ret hok (run_results1 rfl hok rfl) ?_
      refine ⟨?_, B.toBelow⟩
      · clear hok B L0_m L1_m L2_m L3_m L4_m X1 hc_v0_m hm_v0_m ha_P1 ho_P1 hc_v1_m hm_v1_m ha_P2 ho_P2 hc_v2_m hm_v2_m ha_P3 ho_P3 hc_v3_m hm_v3_m ha_P4 ho_P4 hc_v4_m hm_v4_m ha_P5 ho_P5 hb0_b1 hb1_b1 hge_b1 hz_w1 hz_w2
        (unfold wrongL; (repeat (first | rw [if_pos (by omega)] | rw [if_neg (by omega)])); try rfl)
  · replace hc1 := And.intro (ne_of_beq_false (orF1 hc1)) (And.intro (ne_of_beq_false (orF1 (orF2 hc1))) (And.intro (ne_of_beq_false (orF1 (orF2 (orF2 hc1)))) (And.intro (ne_of_beq_false (orF1 (orF2 (orF2 (orF2 hc1))))) (And.intro (ne_of_beq_false (orF1 (orF2 (orF2 (orF2 (orF2 hc1)))))) (ne_of_beq_false (orF2 (orF2 (orF2 (orF2 (orF2 hc1))))))))))
    refine wp_seq ?_
    refine f_region hok ?_; clear hok; intro hok
    refine s_runk TB_Refs2 hok 2 rfl rfl ?_; clear hok a; intro a hok
    refine s_end hok [7, 0, 1, 2, 4, 6, 23] rfl ?_; clear hok; intro hok
    refine p_then ?_
    refine f_cond hok rfl (fun hc3 => ?_) (fun hc3 => ?_)
    · replace hc3 := eq_of_beq hc3
      refine wp_seq ?_
      refine f_region hok ?_; clear hok; intro hok
      refine s_runk TB_Refs2 hok 1 rfl rfl ?_; clear hok a; intro a hok
      refine s_ob hok (v := .int .i64 m.e) rfl rfl (by decide) rfl (Ob_load TB_Refs2 rfl rfl rfl (X1.cell 10 rfl)) ?_; clear hok a; intro a hok
      refine s_runk TB_Refs2 hok 2 rfl rfl ?_; clear hok a; intro a hok
      refine s_gob hok (c := decide (m.e < 0)) rfl rfl rfl rfl (by decide) rfl (by decide) rfl (fun _ => Ob_c TB_Refs2 rfl) ?_; clear hok a; intro a hok
      refine s_gob hok (c := decide (m.e < 0)) (v := .int .i64 m.e) rfl rfl rfl rfl (by decide) rfl (by decide) rfl (fun hg1 => ?_) ?_
      · replace hg1 := of_decide_eq_false hg1
        exact Ob_load TB_Refs2 rfl rfl rfl (X1.cell 10 rfl)
      clear hok a; intro a hok
      refine s_gob hok (c := decide (m.e < 0)) rfl rfl rfl rfl (by decide) rfl (by decide) rfl (fun _ => Ob_c TB_Refs2 rfl) ?_; clear hok a; intro a hok
      refine s_or hok (i := 3) rfl rfl rfl rfl rfl rfl rfl (by decide) rfl rfl ?_; clear hok a; intro a hok
      refine s_end hok [7, 0, 1, 2, 4, 6, 23, 32] rfl ?_; clear hok; intro hok
      refine p_then ?_
      refine f_cond hok rfl (fun hc4 => ?_) (fun hc4 => ?_)
      · replace hc4 := orT hc4 (fun h => of_decide_eq_true h) (fun h => of_decide_eq_true h)
        refine wp_seq ?_
        refine f_region hok ?_; clear hok; intro hok
        refine s_runk TB_Refs2 hok 1 rfl rfl ?_; clear hok a; intro a hok
        refine s_end hok [7, 0, 1, 2, 4, 6, 23, 32] rfl ?_; clear hok; intro hok
        refine p_then ?_
        refine wp_ret ?_
        refine p_blk_r ?_
        refine p_then_r ?_
        refine f_ret hok (run_results1 rfl hok rfl) ?_
        refine ⟨?_, B.toBelow⟩
        · clear hok B L0_m L1_m L2_m L3_m L4_m X1 hc_v0_m hm_v0_m ha_P1 ho_P1 hc_v1_m hm_v1_m ha_P2 ho_P2 hc_v2_m hm_v2_m ha_P3 ho_P3 hc_v3_m hm_v3_m ha_P4 ho_P4 hc_v4_m hm_v4_m ha_P5 ho_P5 hb0_b1 hb1_b1 hge_b1 hz_w1
          (unfold wrongL; (repeat (first | rw [if_pos (by omega)] | rw [if_neg (by omega)])); try rfl)
      · replace hc4 := And.intro (of_decide_eq_false (orF1 hc4)) (of_decide_eq_false (orF2 hc4))
        refine wp_skip ?_
        refine p_blk ?_
        refine p_then ?_
        refine wp_seq ?_
        refine f_region hok ?_; clear hok; intro hok
        refine s_runk TB_Refs2 hok 1 rfl rfl ?_; clear hok a; intro a hok
        refine s_end hok [7, 0, 1, 2, 4, 6, 23, 32] rfl ?_; clear hok; intro hok
        refine p_then ?_
        refine wp_ret ?_
        refine f_ret hok (run_results1 rfl hok rfl) ?_
        refine ⟨?_, B.toBelow⟩
        · clear hok B L0_m L1_m L2_m L3_m L4_m X1 hc_v0_m hm_v0_m ha_P1 ho_P1 hc_v1_m hm_v1_m ha_P2 ho_P2 hc_v2_m hm_v2_m ha_P3 ho_P3 hc_v3_m hm_v3_m ha_P4 ho_P4 hc_v4_m hm_v4_m ha_P5 ho_P5 hb0_b1 hb1_b1 hge_b1 hz_w1
          (unfold wrongL; (repeat (first | rw [if_pos (by omega)] | rw [if_neg (by omega)])); try rfl)
    · replace hc3 := ne_of_beq_false hc3
      refine wp_seq ?_
      refine f_region hok ?_; clear hok; intro hok
      refine s_runk TB_Refs2 hok 2 rfl rfl ?_; clear hok a; intro a hok
      refine s_end hok [7, 0, 1, 2, 4, 6, 23, 33] rfl ?_; clear hok; intro hok
      refine p_then ?_
      refine f_cond hok rfl (fun hc5 => ?_) (fun hc5 => ?_)
      · replace hc5 := eq_of_beq hc5
        refine wp_seq ?_
        refine f_region hok ?_; clear hok; intro hok
        refine s_runk TB_Refs2 hok 1 rfl rfl ?_; clear hok a; intro a hok
        refine s_ob hok (v := .string m.key) rfl rfl (by decide) rfl (Ob_load TB_Refs2 rfl rfl rfl (X1.cell 11 rfl)) ?_; clear hok a; intro a hok
        refine s_runk TB_Refs2 hok 2 rfl rfl ?_; clear hok a; intro a hok
        refine s_end hok [7, 0, 1, 2, 4, 6, 23, 33, 38] rfl ?_; clear hok; intro hok
        refine p_then ?_
        refine f_cond hok rfl (fun hc6 => ?_) (fun hc6 => ?_)
        · replace hc6 := of_decide_eq_true hc6
          refine wp_seq ?_
          refine f_region hok ?_; clear hok; intro hok
          refine s_runk TB_Refs2 hok 1 rfl rfl ?_; clear hok a; intro a hok
          refine s_end hok [7, 0, 1, 2, 4, 6, 23, 33, 38] rfl ?_; clear hok; intro hok
          refine p_then ?_
          refine wp_ret ?_
          refine p_blk_r ?_
          refine p_then_r ?_
          refine f_ret hok (run_results1 rfl hok rfl) ?_
          refine ⟨?_, B.toBelow⟩
          · clear hok B L0_m L1_m L2_m L3_m L4_m X1 hc_v0_m hm_v0_m ha_P1 ho_P1 hc_v1_m hm_v1_m ha_P2 ho_P2 hc_v2_m hm_v2_m ha_P3 ho_P3 hc_v3_m hm_v3_m ha_P4 ho_P4 hc_v4_m hm_v4_m ha_P5 ho_P5 hb0_b1 hb1_b1 hge_b1 hz_w1
            (unfold wrongL; (repeat (first | rw [if_pos (by omega)] | rw [if_neg (by omega)])); try rfl)
        · replace hc6 := of_decide_eq_false hc6
          refine wp_skip ?_
          refine p_blk ?_
          refine p_then ?_
          refine wp_seq ?_
          refine f_region hok ?_; clear hok; intro hok
          refine s_runk TB_Refs2 hok 1 rfl rfl ?_; clear hok a; intro a hok
          refine s_end hok [7, 0, 1, 2, 4, 6, 23, 33, 38] rfl ?_; clear hok; intro hok
          refine p_then ?_
          refine wp_ret ?_
          refine f_ret hok (run_results1 rfl hok rfl) ?_
          refine ⟨?_, B.toBelow⟩
          · clear hok B L0_m L1_m L2_m L3_m L4_m X1 hc_v0_m hm_v0_m ha_P1 ho_P1 hc_v1_m hm_v1_m ha_P2 ho_P2 hc_v2_m hm_v2_m ha_P3 ho_P3 hc_v3_m hm_v3_m ha_P4 ho_P4 hc_v4_m hm_v4_m ha_P5 ho_P5 hb0_b1 hb1_b1 hge_b1 hz_w1
            (unfold wrongL; (repeat (first | rw [if_pos (by omega)] | rw [if_neg (by omega)])); try rfl)
      · replace hc5 := ne_of_beq_false hc5
        refine wp_seq ?_
        refine f_region hok ?_; clear hok; intro hok
        refine s_runk TB_Refs2 hok 2 rfl rfl ?_; clear hok a; intro a hok
        refine s_end hok [7, 0, 1, 2, 4, 6, 23, 33, 39] rfl ?_; clear hok; intro hok
        refine p_then ?_
        refine f_cond hok rfl (fun hc7 => ?_) (fun hc7 => ?_)
        · replace hc7 := eq_of_beq hc7
          refine wp_seq ?_
          refine f_region hok ?_; clear hok; intro hok
          refine s_runk TB_Refs2 hok 1 rfl rfl ?_; clear hok a; intro a hok
          refine s_ob hok (v := .string m.to_) rfl rfl (by decide) rfl (Ob_load TB_Refs2 rfl rfl rfl (X1.cell 12 rfl)) ?_; clear hok a; intro a hok
          refine s_runk TB_Refs2 hok 2 rfl rfl ?_; clear hok a; intro a hok
          refine s_end hok [7, 0, 1, 2, 4, 6, 23, 33, 39, 44] rfl ?_; clear hok; intro hok
          refine p_then ?_
          refine f_cond hok rfl (fun hc8 => ?_) (fun hc8 => ?_)
          · replace hc8 := of_decide_eq_true hc8
            refine wp_seq ?_
            refine f_region hok ?_; clear hok; intro hok
            refine s_runk TB_Refs2 hok 1 rfl rfl ?_; clear hok a; intro a hok
            refine s_end hok [7, 0, 1, 2, 4, 6, 23, 33, 39, 44] rfl ?_; clear hok; intro hok
            refine p_then ?_
            refine wp_ret ?_
            refine p_blk_r ?_
            refine p_then_r ?_
            refine f_ret hok (run_results1 rfl hok rfl) ?_
            refine ⟨?_, B.toBelow⟩
            · clear hok B L0_m L1_m L2_m L3_m L4_m X1 hc_v0_m hm_v0_m ha_P1 ho_P1 hc_v1_m hm_v1_m ha_P2 ho_P2 hc_v2_m hm_v2_m ha_P3 ho_P3 hc_v3_m hm_v3_m ha_P4 ho_P4 hc_v4_m hm_v4_m ha_P5 ho_P5 hb0_b1 hb1_b1 hge_b1 hz_w1
              (unfold wrongL; (repeat (first | rw [if_pos (by omega)] | rw [if_neg (by omega)])); try rfl)
          · replace hc8 := of_decide_eq_false hc8
            refine wp_skip ?_
            refine p_blk ?_
            refine p_then ?_
            refine wp_seq ?_
            refine f_region hok ?_; clear hok; intro hok
            refine s_runk TB_Refs2 hok 1 rfl rfl ?_; clear hok a; intro a hok
            refine s_end hok [7, 0, 1, 2, 4, 6, 23, 33, 39, 44] rfl ?_; clear hok; intro hok
            refine p_then ?_
            refine wp_ret ?_
            refine f_ret hok (run_results1 rfl hok rfl) ?_
            refine ⟨?_, B.toBelow⟩
            · clear hok B L0_m L1_m L2_m L3_m L4_m X1 hc_v0_m hm_v0_m ha_P1 ho_P1 hc_v1_m hm_v1_m ha_P2 ho_P2 hc_v2_m hm_v2_m ha_P3 ho_P3 hc_v3_m hm_v3_m ha_P4 ho_P4 hc_v4_m hm_v4_m ha_P5 ho_P5 hb0_b1 hb1_b1 hge_b1 hz_w1
              (unfold wrongL; (repeat (first | rw [if_pos (by omega)] | rw [if_neg (by omega)])); try rfl)
        · replace hc7 := ne_of_beq_false hc7
          refine wp_seq ?_
          refine f_region hok ?_; clear hok; intro hok
          refine s_runk TB_Refs2 hok 2 rfl rfl ?_; clear hok a; intro a hok
          refine s_end hok [7, 0, 1, 2, 4, 6, 23, 33, 39, 45] rfl ?_; clear hok; intro hok
          refine p_then ?_
          refine f_cond hok rfl (fun hc9 => ?_) (fun hc9 => ?_)
          · replace hc9 := eq_of_beq hc9
            refine wp_seq ?_
            refine f_region hok ?_; clear hok; intro hok
            refine s_runk TB_Refs2 hok 1 rfl rfl ?_; clear hok a; intro a hok
            refine s_ob hok (v := .agg #[.int .i64 m.conf.epoch, .slice ao_v0_m m.conf.members.length cap_v0_m, .int .u64 (m.conf.floor : Int)]) rfl rfl (by decide) rfl (Ob_loads TB_Refs2 (cs := [.int .i64 m.conf.epoch, .slice ao_v0_m m.conf.members.length cap_v0_m, .int .u64 (m.conf.floor : Int)]) rfl rfl rfl (X1.part 13 rfl)) ?_; clear hok a; intro a hok
            refine s_call hok fn_56_Refs2 (caps := #[]) rfl rfl rfl rfl rfl (by decide) rfl rfl (c_ref07_Check (⟨m.conf.epoch, m.conf.members, m.conf.floor⟩ : DConf) _ _ L0_m ⟨h_m.2.2.2.2.2.2.2.2.2.2.2.2.1.1, h_m.2.2.2.2.2.2.2.2.2.2.2.2.1.2⟩) ?_; clear hok a; intro _ a w3 hr hok
            obtain ⟨rfl, hb⟩ := hr
            have hz_w3 : w1.heap.size ≤ w3.heap.size := hb.size
            replace B := B.blw hb
            replace L0_m := L0_m.below hb
            replace L1_m := L1_m.below hb
            replace L2_m := L2_m.below hb
            replace L3_m := L3_m.below hb
            replace L4_m := L4_m.below hb
            replace X1 := X1.below hb
            clear hb
            refine s_runk TB_Refs2 hok 1 rfl rfl ?_; clear hok a; intro a hok
            refine s_end hok [7, 0, 1, 2, 4, 6, 23, 33, 39, 45] rfl ?_; clear hok; intro hok
            refine p_then ?_
            refine wp_ret ?_
            refine p_blk_r ?_
            refine p_then_r ?_
            refine f_ret hok (run_results1 rfl hok rfl) ?_
            refine ⟨?_, B.toBelow⟩
            · clear hok B L0_m L1_m L2_m L3_m L4_m X1 hc_v0_m hm_v0_m ha_P1 ho_P1 hc_v1_m hm_v1_m ha_P2 ho_P2 hc_v2_m hm_v2_m ha_P3 ho_P3 hc_v3_m hm_v3_m ha_P4 ho_P4 hc_v4_m hm_v4_m ha_P5 ho_P5 hb0_b1 hb1_b1 hge_b1 hz_w1 hz_w3
              (unfold wrongL; (repeat (first | rw [if_pos (by omega)] | rw [if_neg (by omega)])); try rfl)
          · replace hc9 := ne_of_beq_false hc9
            refine wp_seq ?_
            refine f_region hok ?_; clear hok; intro hok
            refine s_runk TB_Refs2 hok 2 rfl rfl ?_; clear hok a; intro a hok
            refine s_end hok [7, 0, 1, 2, 4, 6, 23, 33, 39, 45, 50] rfl ?_; clear hok; intro hok
            refine p_then ?_
            refine f_cond hok rfl (fun hc10 => ?_) (fun hc10 => ?_)
            · replace hc10 := eq_of_beq hc10
              refine wp_seq ?_
              refine f_region hok ?_; clear hok; intro hok
              refine s_runk TB_Refs2 hok 1 rfl rfl ?_; clear hok a; intro a hok
              refine s_ob hok (v := .agg #[.int .i64 m.batch.client, .int .i64 m.batch.req, .slice ao_v1_m m.batch.ops.length cap_v1_m]) rfl rfl (by decide) rfl (Ob_loads TB_Refs2 (cs := [.int .i64 m.batch.client, .int .i64 m.batch.req, .slice ao_v1_m m.batch.ops.length cap_v1_m]) rfl rfl rfl (X1.part 16 rfl)) ?_; clear hok a; intro a hok
              refine s_call hok fn_53_Refs2 (caps := #[]) rfl rfl rfl rfl rfl (by decide) rfl rfl (c_ref06_Check (⟨m.batch.client, m.batch.req, m.batch.ops⟩ : DBatch) _ _ L1_m ⟨h_m.2.2.2.2.2.2.2.2.2.2.2.2.2.1, h_m.2.2.2.2.2.2.2.2.2.2.2.2.2.2⟩) ?_; clear hok a; intro _ a w4 hr hok
              obtain ⟨rfl, hb⟩ := hr
              have hz_w4 : w1.heap.size ≤ w4.heap.size := hb.size
              replace B := B.blw hb
              replace L0_m := L0_m.below hb
              replace L1_m := L1_m.below hb
              replace L2_m := L2_m.below hb
              replace L3_m := L3_m.below hb
              replace L4_m := L4_m.below hb
              replace X1 := X1.below hb
              clear hb
              refine s_runk TB_Refs2 hok 1 rfl rfl ?_; clear hok a; intro a hok
              refine s_end hok [7, 0, 1, 2, 4, 6, 23, 33, 39, 45, 50] rfl ?_; clear hok; intro hok
              refine p_then ?_
              refine wp_ret ?_
              refine p_blk_r ?_
              refine p_then_r ?_
              refine f_ret hok (run_results1 rfl hok rfl) ?_
              refine ⟨?_, B.toBelow⟩
              · clear hok B L0_m L1_m L2_m L3_m L4_m X1 hc_v0_m hm_v0_m ha_P1 ho_P1 hc_v1_m hm_v1_m ha_P2 ho_P2 hc_v2_m hm_v2_m ha_P3 ho_P3 hc_v3_m hm_v3_m ha_P4 ho_P4 hc_v4_m hm_v4_m ha_P5 ho_P5 hb0_b1 hb1_b1 hge_b1 hz_w1 hz_w4
                (unfold wrongL; (repeat (first | rw [if_pos (by omega)] | rw [if_neg (by omega)])); try rfl)
            · replace hc10 := ne_of_beq_false hc10
              refine wp_seq ?_
              refine f_region hok ?_; clear hok; intro hok
              refine s_runk TB_Refs2 hok 2 rfl rfl ?_; clear hok a; intro a hok
              refine s_end hok [7, 0, 1, 2, 4, 6, 23, 33, 39, 45, 50, 55] rfl ?_; clear hok; intro hok
              refine p_then ?_
              refine f_cond hok rfl (fun hc11 => ?_) (fun hc11 => ?_)
              · replace hc11 := eq_of_beq hc11
                refine wp_seq ?_
                refine f_region hok ?_; clear hok; intro hok
                refine s_runk TB_Refs2 hok 1 rfl rfl ?_; clear hok a; intro a hok
                refine s_ob hok (v := .slice ao_v2_m m.entries.length cap_v2_m) rfl rfl (by decide) rfl (Ob_load TB_Refs2 rfl rfl rfl (X1.cell 19 rfl)) ?_; clear hok a; intro a hok
                refine s_call hok fn_57_Refs2 (caps := #[]) rfl rfl rfl rfl rfl (by decide) rfl rfl (c_ref09_entries _ m.entries _ L2_m) ?_; clear hok a; intro _ a w5 hr hok
                obtain ⟨rfl, hb⟩ := hr
                have hz_w5 : w1.heap.size ≤ w5.heap.size := hb.size
                replace B := B.blw hb
                replace L0_m := L0_m.below hb
                replace L1_m := L1_m.below hb
                replace L2_m := L2_m.below hb
                replace L3_m := L3_m.below hb
                replace L4_m := L4_m.below hb
                replace X1 := X1.below hb
                clear hb
                refine s_runk TB_Refs2 hok 1 rfl rfl ?_; clear hok a; intro a hok
                refine s_end hok [7, 0, 1, 2, 4, 6, 23, 33, 39, 45, 50, 55] rfl ?_; clear hok; intro hok
                refine p_then ?_
                refine wp_ret ?_
                refine p_blk_r ?_
                refine p_then_r ?_
                refine f_ret hok (run_results1 rfl hok rfl) ?_
                refine ⟨?_, B.toBelow⟩
                · clear hok B L0_m L1_m L2_m L3_m L4_m X1 hc_v0_m hm_v0_m ha_P1 ho_P1 hc_v1_m hm_v1_m ha_P2 ho_P2 hc_v2_m hm_v2_m ha_P3 ho_P3 hc_v3_m hm_v3_m ha_P4 ho_P4 hc_v4_m hm_v4_m ha_P5 ho_P5 hb0_b1 hb1_b1 hge_b1 hz_w1 hz_w5
                  (unfold wrongL; (repeat (first | rw [if_pos (by omega)] | rw [if_neg (by omega)])); try rfl)
              · replace hc11 := ne_of_beq_false hc11
                refine wp_seq ?_
                refine f_region hok ?_; clear hok; intro hok
                refine s_runk TB_Refs2 hok 2 rfl rfl ?_; clear hok a; intro a hok
                refine s_end hok [7, 0, 1, 2, 4, 6, 23, 33, 39, 45, 50, 55, 60] rfl ?_; clear hok; intro hok
                refine p_then ?_
                refine f_cond hok rfl (fun hc12 => ?_) (fun hc12 => ?_)
                · replace hc12 := eq_of_beq hc12
                  refine wp_seq ?_
                  refine f_region hok ?_; clear hok; intro hok
                  refine s_runk TB_Refs2 hok 1 rfl rfl ?_; clear hok a; intro a hok
                  refine s_ob hok (v := .slice ao_v3_m m.stamps.length cap_v3_m) rfl rfl (by decide) rfl (Ob_load TB_Refs2 rfl rfl rfl (X1.cell 20 rfl)) ?_; clear hok a; intro a hok
                  refine s_runk TB_Refs2 hok 2 rfl rfl ?_; clear hok a; intro a hok
                  refine s_end hok [7, 0, 1, 2, 4, 6, 23, 33, 39, 45, 50, 55, 60, 65] rfl ?_; clear hok; intro hok
                  refine p_then ?_
                  refine f_cond hok rfl (fun hc13 => ?_) (fun hc13 => ?_)
                  · replace hc13 := of_decide_eq_true hc13
                    refine wp_seq ?_
                    refine f_region hok ?_; clear hok; intro hok
                    refine s_runk TB_Refs2 hok 1 rfl rfl ?_; clear hok a; intro a hok
                    refine s_end hok [7, 0, 1, 2, 4, 6, 23, 33, 39, 45, 50, 55, 60, 65] rfl ?_; clear hok; intro hok
                    refine p_then ?_
                    refine wp_ret ?_
                    refine p_blk_r ?_
                    refine p_then_r ?_
                    refine f_ret hok (run_results1 rfl hok rfl) ?_
                    refine ⟨?_, B.toBelow⟩
                    · clear hok B L0_m L1_m L2_m L3_m L4_m X1 hc_v0_m hm_v0_m ha_P1 ho_P1 hc_v1_m hm_v1_m ha_P2 ho_P2 hc_v2_m hm_v2_m ha_P3 ho_P3 hc_v3_m hm_v3_m ha_P4 ho_P4 hc_v4_m hm_v4_m ha_P5 ho_P5 hb0_b1 hb1_b1 hge_b1 hz_w1
                      (unfold wrongL; (repeat (first | rw [if_pos (by omega)] | rw [if_neg (by omega)])); try rfl)
                  · replace hc13 := of_decide_eq_false hc13
                    refine wp_skip ?_
                    refine p_blk ?_
                    refine p_then ?_
                    refine wp_seq ?_
                    refine f_region hok ?_; clear hok; intro hok
                    refine s_runk TB_Refs2 hok 1 rfl rfl ?_; clear hok a; intro a hok
                    refine s_end hok [7, 0, 1, 2, 4, 6, 23, 33, 39, 45, 50, 55, 60, 65] rfl ?_; clear hok; intro hok
                    refine p_then ?_
                    refine wp_ret ?_
                    refine f_ret hok (run_results1 rfl hok rfl) ?_
                    refine ⟨?_, B.toBelow⟩
                    · clear hok B L0_m L1_m L2_m L3_m L4_m X1 hc_v0_m hm_v0_m ha_P1 ho_P1 hc_v1_m hm_v1_m ha_P2 ho_P2 hc_v2_m hm_v2_m ha_P3 ho_P3 hc_v3_m hm_v3_m ha_P4 ho_P4 hc_v4_m hm_v4_m ha_P5 ho_P5 hb0_b1 hb1_b1 hge_b1 hz_w1
                      (unfold wrongL; (repeat (first | rw [if_pos (by omega)] | rw [if_neg (by omega)])); try rfl)
                · replace hc12 := ne_of_beq_false hc12
                  refine wp_seq ?_
                  refine f_region hok ?_; clear hok; intro hok
                  refine s_runk TB_Refs2 hok 2 rfl rfl ?_; clear hok a; intro a hok
                  refine s_end hok [7, 0, 1, 2, 4, 6, 23, 33, 39, 45, 50, 55, 60, 66] rfl ?_; clear hok; intro hok
                  refine p_then ?_
                  refine f_cond hok rfl (fun hc14 => ?_) (fun hc14 => ?_)
                  · replace hc14 := eq_of_beq hc14
                    refine wp_seq ?_
                    refine f_region hok ?_; clear hok; intro hok
                    refine s_runk TB_Refs2 hok 1 rfl rfl ?_; clear hok a; intro a hok
                    refine s_ob hok (v := .slice ao_v4_m m.pairs.length cap_v4_m) rfl rfl (by decide) rfl (Ob_load TB_Refs2 rfl rfl rfl (X1.cell 21 rfl)) ?_; clear hok a; intro a hok
                    refine s_call hok fn_58_Refs2 (caps := #[]) rfl rfl rfl rfl rfl (by decide) rfl rfl (c_ref09_pairs _ m.pairs _ L4_m) ?_; clear hok a; intro _ a w6 hr hok
                    obtain ⟨rfl, hb⟩ := hr
                    have hz_w6 : w1.heap.size ≤ w6.heap.size := hb.size
                    replace B := B.blw hb
                    replace L0_m := L0_m.below hb
                    replace L1_m := L1_m.below hb
                    replace L2_m := L2_m.below hb
                    replace L3_m := L3_m.below hb
                    replace L4_m := L4_m.below hb
                    replace X1 := X1.below hb
                    clear hb
                    refine s_runk TB_Refs2 hok 1 rfl rfl ?_; clear hok a; intro a hok
                    refine s_end hok [7, 0, 1, 2, 4, 6, 23, 33, 39, 45, 50, 55, 60, 66] rfl ?_; clear hok; intro hok
                    refine p_then ?_
                    refine wp_ret ?_
                    refine p_blk_r ?_
                    refine p_then_r ?_
                    refine f_ret hok (run_results1 rfl hok rfl) ?_
                    refine ⟨?_, B.toBelow⟩
                    · clear hok B L0_m L1_m L2_m L3_m L4_m X1 hc_v0_m hm_v0_m ha_P1 ho_P1 hc_v1_m hm_v1_m ha_P2 ho_P2 hc_v2_m hm_v2_m ha_P3 ho_P3 hc_v3_m hm_v3_m ha_P4 ho_P4 hc_v4_m hm_v4_m ha_P5 ho_P5 hb0_b1 hb1_b1 hge_b1 hz_w1 hz_w6
                      (unfold wrongL; (repeat (first | rw [if_pos (by omega)] | rw [if_neg (by omega)])); try rfl)
                  · replace hc14 := ne_of_beq_false hc14
                    refine wp_skip ?_
                    refine p_blk ?_
                    refine p_then ?_
                    refine wp_seq ?_
                    refine f_region hok ?_; clear hok; intro hok
                    refine s_runk TB_Refs2 hok 1 rfl rfl ?_; clear hok a; intro a hok
                    refine s_end hok [7, 0, 1, 2, 4, 6, 23, 33, 39, 45, 50, 55, 60, 66] rfl ?_; clear hok; intro hok
                    refine p_then ?_
                    refine wp_ret ?_
                    refine f_ret hok (run_results1 rfl hok rfl) ?_
                    refine ⟨?_, B.toBelow⟩
                    · clear hok B L0_m L1_m L2_m L3_m L4_m X1 hc_v0_m hm_v0_m ha_P1 ho_P1 hc_v1_m hm_v1_m ha_P2 ho_P2 hc_v2_m hm_v2_m ha_P3 ho_P3 hc_v3_m hm_v3_m ha_P4 ho_P4 hc_v4_m hm_v4_m ha_P5 ho_P5 hb0_b1 hb1_b1 hge_b1 hz_w1
                      (unfold wrongL; (repeat (first | rw [if_pos (by omega)] | rw [if_neg (by omega)])); try rfl)


def badPart (m : DMsg) (p : ByteArray) : Nat → Nat → Int
  | _, 0 => 0
  | i, n + 1 => if wrongL m (byteAt p i) ≠ 0 then wrongL m (byteAt p i) else badPart m p (i + 1) n
def checkM (m : DMsg) : Int := if partsL m.k = ⟨#[63]⟩ then 11 else badPart m (partsL m.k) 0 (partsL m.k).size

theorem ite_size {c : Prop} [Decidable c] {x y : ByteArray} {n : Nat} (h1 : x.size ≤ n) (h2 : y.size ≤ n) : (if c then x else y).size ≤ n := by split <;> assumption
theorem parts_size (k : Int) : (partsL k).size ≤ 7 := by
  unfold partsL
  repeat' apply ite_size
  all_goals decide

set_option maxHeartbeats 1000000 in
theorem c_ref09_Check {A0 : Nat → Prop} {A1 : Nat → Prop} {A2 : Nat → Prop} {A3 : Nat → Prop} {A4 : Nat → Prop} (m : DMsg) (v0_m : Value) (v1_m : Value) (v2_m : Value) (v3_m : Value) (v4_m : Value) (w : World) (L0_m : slRep RDMember A0 w v0_m m.conf.members) (L1_m : slRep RDOp A1 w v1_m m.batch.ops) (L2_m : slRep RDEntry A2 w v2_m m.entries) (L3_m : slRep RU A3 w v3_m m.stamps) (L4_m : slRep RDPair A4 w v4_m m.pairs) (h_m : okDMsg m) :
    Calls Try.prog 11 #[.agg #[.int .i64 m.k, .int .i64 m.epoch, .int .i64 m.req, .int .i64 m.serial, .bool m.flag, .int .u64 (m.at_ : Int), .int .u64 (m.last : Int), .int .i64 m.n, .int .i64 m.m, .int .i64 m.p, .int .i64 m.e, .string m.key, .string m.to_, .int .i64 m.conf.epoch, v0_m, .int .u64 (m.conf.floor : Int), .int .i64 m.batch.client, .int .i64 m.batch.req, v1_m, v2_m, v3_m, v4_m]] w (Ret fun r w' => r = .int .i64 (checkM m) ∧ Below w.heap.size w w') := by
  have B : Bt [] w w := Bt.refl _ _
  obtain ⟨ao_v0_m, cap_v0_m, rfl, hc_v0_m, hm_v0_m⟩ := L0_m.shape
  unfold maxLen at hm_v0_m
  obtain ⟨P1, ha_P1, ho_P1, L0_m⟩ : ∃ X : Nat → Prop, (∀ k, X k → k < w.heap.size) ∧ (∀ k, X k → A0 k ∨ A1 k ∨ A2 k ∨ A3 k ∨ A4 k ∨ w.heap.size ≤ k) ∧ slRep RDMember X w (.slice ao_v0_m m.conf.members.length cap_v0_m) m.conf.members := ⟨_, fun k h => h.2, fun k h => .inl h.1, L0_m.bound⟩
  obtain ⟨ao_v1_m, cap_v1_m, rfl, hc_v1_m, hm_v1_m⟩ := L1_m.shape
  unfold maxLen at hm_v1_m
  obtain ⟨P2, ha_P2, ho_P2, L1_m⟩ : ∃ X : Nat → Prop, (∀ k, X k → k < w.heap.size) ∧ (∀ k, X k → A0 k ∨ A1 k ∨ A2 k ∨ A3 k ∨ A4 k ∨ w.heap.size ≤ k) ∧ slRep RDOp X w (.slice ao_v1_m m.batch.ops.length cap_v1_m) m.batch.ops := ⟨_, fun k h => h.2, fun k h => .inr (.inl h.1), L1_m.bound⟩
  obtain ⟨ao_v2_m, cap_v2_m, rfl, hc_v2_m, hm_v2_m⟩ := L2_m.shape
  unfold maxLen at hm_v2_m
  obtain ⟨P3, ha_P3, ho_P3, L2_m⟩ : ∃ X : Nat → Prop, (∀ k, X k → k < w.heap.size) ∧ (∀ k, X k → A0 k ∨ A1 k ∨ A2 k ∨ A3 k ∨ A4 k ∨ w.heap.size ≤ k) ∧ slRep RDEntry X w (.slice ao_v2_m m.entries.length cap_v2_m) m.entries := ⟨_, fun k h => h.2, fun k h => .inr (.inr (.inl h.1)), L2_m.bound⟩
  obtain ⟨ao_v3_m, cap_v3_m, rfl, hc_v3_m, hm_v3_m⟩ := L3_m.shape
  unfold maxLen at hm_v3_m
  obtain ⟨P4, ha_P4, ho_P4, L3_m⟩ : ∃ X : Nat → Prop, (∀ k, X k → k < w.heap.size) ∧ (∀ k, X k → A0 k ∨ A1 k ∨ A2 k ∨ A3 k ∨ A4 k ∨ w.heap.size ≤ k) ∧ slRep RU X w (.slice ao_v3_m m.stamps.length cap_v3_m) m.stamps := ⟨_, fun k h => h.2, fun k h => .inr (.inr (.inr (.inl h.1))), L3_m.bound⟩
  obtain ⟨ao_v4_m, cap_v4_m, rfl, hc_v4_m, hm_v4_m⟩ := L4_m.shape
  unfold maxLen at hm_v4_m
  obtain ⟨P5, ha_P5, ho_P5, L4_m⟩ : ∃ X : Nat → Prop, (∀ k, X k → k < w.heap.size) ∧ (∀ k, X k → A0 k ∨ A1 k ∨ A2 k ∨ A3 k ∨ A4 k ∨ w.heap.size ≤ k) ∧ slRep RDPair X w (.slice ao_v4_m m.pairs.length cap_v4_m) m.pairs := ⟨_, fun k h => h.2, fun k h => .inr (.inr (.inr (.inr (.inl h.1)))), L4_m.bound⟩
  have hsz := parts_size m.k
  refine f_enter 25 Try.func11 rfl rfl (Nat.le_of_ble_eq_true rfl) fun a hok => ?_
  replace hok := hok.sub (ts := [0]) rfl
  refine wp_seq ?_
  refine f_region hok ?_; clear hok; intro hok
  refine s_boxv hok (cs := [.int .i64 m.k, .int .i64 m.epoch, .int .i64 m.req, .int .i64 m.serial, .bool m.flag, .int .u64 (m.at_ : Int), .int .u64 (m.last : Int), .int .i64 m.n, .int .i64 m.m, .int .i64 m.p, .int .i64 m.e, .string m.key, .string m.to_, .int .i64 m.conf.epoch, .slice ao_v0_m m.conf.members.length cap_v0_m, .int .u64 (m.conf.floor : Int), .int .i64 m.batch.client, .int .i64 m.batch.req, .slice ao_v1_m m.batch.ops.length cap_v1_m, .slice ao_v2_m m.entries.length cap_v2_m, .slice ao_v3_m m.stamps.length cap_v3_m, .slice ao_v4_m m.pairs.length cap_v4_m]) rfl rfl rfl (by decide) rfl rfl rfl ?_; clear hok a; intro a w1 b1 hb0_b1 hb1_b1 hb X1 hok
  have hge_b1 : w.heap.size ≤ b1 := by have := B.size; omega
  have hz_w1 : w.heap.size ≤ w1.heap.size := hb.size
  replace B := B.blw hb
  replace L0_m := L0_m.below hb
  replace L1_m := L1_m.below hb
  replace L2_m := L2_m.below hb
  replace L3_m := L3_m.below hb
  replace L4_m := L4_m.below hb
  clear hb
  refine s_runk TB_Refs2 hok 1 rfl rfl ?_; clear hok a; intro a hok
  refine s_end hok [0, 1, 2] rfl ?_; clear hok; intro hok
  refine p_then ?_
  refine wp_seq ?_
  refine f_region hok ?_; clear hok; intro hok
  refine s_runk TB_Refs2 hok 1 rfl rfl ?_; clear hok a; intro a hok
  refine s_ob hok (v := .int .i64 m.k) rfl rfl (by decide) rfl (Ob_load TB_Refs2 rfl rfl rfl (X1.cell 0 rfl)) ?_; clear hok a; intro a hok
  refine s_call hok fn_37_Refs2 (caps := #[]) rfl rfl rfl rfl rfl (by decide) rfl rfl (c_ref09_parts m.k _ h_m.1) ?_; clear hok a; intro _ a w2 hr hok
  obtain ⟨rfl, hb⟩ := hr
  have hz_w2 : w1.heap.size ≤ w2.heap.size := hb.size
  replace B := B.blw hb
  replace L0_m := L0_m.below hb
  replace L1_m := L1_m.below hb
  replace L2_m := L2_m.below hb
  replace L3_m := L3_m.below hb
  replace L4_m := L4_m.below hb
  replace X1 := X1.below hb
  clear hb
  refine s_runk TB_Refs2 hok 1 rfl rfl ?_; clear hok a; intro a hok
  refine s_end hok [0, 1, 2, 3] rfl ?_; clear hok; intro hok
  refine p_then ?_
  refine wp_seq ?_
  refine wp_seq ?_
  refine f_region hok ?_; clear hok; intro hok
  refine s_runk TB_Refs2 hok 2 rfl rfl ?_; clear hok a; intro a hok
  refine s_end hok [0, 1, 2, 3, 10] rfl ?_; clear hok; intro hok
  refine p_then ?_
  refine f_cond hok rfl (fun hc1 => ?_) (fun hc1 => ?_)
  · replace hc1 := seqB_iff.1 hc1
    refine wp_seq ?_
    refine f_region hok ?_; clear hok; intro hok
    refine s_runk TB_Refs2 hok 1 rfl rfl ?_; clear hok a; intro a hok
    refine s_end hok [0, 1, 2, 3, 10] rfl ?_; clear hok; intro hok
    refine p_then ?_
    refine wp_ret ?_
    refine p_then_r ?_
    refine f_ret hok (run_results1 rfl hok rfl) ?_
    refine ⟨?_, B.toBelow⟩
    · clear hok B L0_m L1_m L2_m L3_m L4_m X1 hc_v0_m hm_v0_m ha_P1 ho_P1 hc_v1_m hm_v1_m ha_P2 ho_P2 hc_v2_m hm_v2_m ha_P3 ho_P3 hc_v3_m hm_v3_m ha_P4 ho_P4 hc_v4_m hm_v4_m ha_P5 ho_P5 hb0_b1 hb1_b1 hge_b1 hz_w1 hz_w2
      rw [checkM, if_pos (by assumption)]
  · replace hc1 := seqB_false.1 hc1
    refine wp_skip ?_
    refine p_then ?_
    refine wp_seq ?_
    refine wp_seq ?_
    refine f_region hok ?_; clear hok; intro hok
    refine s_runk TB_Refs2 hok 1 rfl rfl ?_; clear hok a; intro a hok
    refine s_end hok [0, 1, 2, 3, 10, 4] rfl ?_; clear hok; intro hok
    refine p_then ?_
    refine wp_block ?_
    refine f_loop (σ := Nat) (fun k a w' => Sl 25 [(0, .agg #[.int .i64 m.k, .int .i64 m.epoch, .int .i64 m.req, .int .i64 m.serial, .bool m.flag, .int .u64 (m.at_ : Int), .int .u64 (m.last : Int), .int .i64 m.n, .int .i64 m.m, .int .i64 m.p, .int .i64 m.e, .string m.key, .string m.to_, .int .i64 m.conf.epoch, .slice ao_v0_m m.conf.members.length cap_v0_m, .int .u64 (m.conf.floor : Int), .int .i64 m.batch.client, .int .i64 m.batch.req, .slice ao_v1_m m.batch.ops.length cap_v1_m, .slice ao_v2_m m.entries.length cap_v2_m, .slice ao_v3_m m.stamps.length cap_v3_m, .slice ao_v4_m m.pairs.length cap_v4_m]), (1, .pointer (some ⟨b1, 0, none⟩)), (3, .string (partsL m.k)), (10, .bool (seqB (partsL m.k) (⟨#[63]⟩))), (4, .int .i64 (k : Int))] a ∧ (k ≤ (partsL m.k).size) ∧ (checkM m = badPart m (partsL m.k) k ((partsL m.k).size - k)) ∧ Bt [] w w' ∧ slRep RDMember P1 w' (.slice ao_v0_m m.conf.members.length cap_v0_m) m.conf.members ∧ slRep RDOp P2 w' (.slice ao_v1_m m.batch.ops.length cap_v1_m) m.batch.ops ∧ slRep RDEntry P3 w' (.slice ao_v2_m m.entries.length cap_v2_m) m.entries ∧ slRep RU P4 w' (.slice ao_v3_m m.stamps.length cap_v3_m) m.stamps ∧ slRep RDPair P5 w' (.slice ao_v4_m m.pairs.length cap_v4_m) m.pairs ∧ Box w' b1 37 [.int .i64 m.k, .int .i64 m.epoch, .int .i64 m.req, .int .i64 m.serial, .bool m.flag, .int .u64 (m.at_ : Int), .int .u64 (m.last : Int), .int .i64 m.n, .int .i64 m.m, .int .i64 m.p, .int .i64 m.e, .string m.key, .string m.to_, .int .i64 m.conf.epoch, .slice ao_v0_m m.conf.members.length cap_v0_m, .int .u64 (m.conf.floor : Int), .int .i64 m.batch.client, .int .i64 m.batch.req, .slice ao_v1_m m.batch.ops.length cap_v1_m, .slice ao_v2_m m.entries.length cap_v2_m, .slice ao_v3_m m.stamps.length cap_v3_m, .slice ao_v4_m m.pairs.length cap_v4_m]) (fun k => (partsL m.k).size - k) 0 ⟨hok.sub (ts := [0, 1, 3, 10, 4]) rfl, by omega, by unfold checkM; rw [if_neg (by assumption)]; rfl, B, L0_m, L1_m, L2_m, L3_m, L4_m, X1⟩ ?_
    clear hok B L0_m L1_m L2_m L3_m L4_m X1
    rintro k a w3 ⟨hok, hinv0_0, hinv0_1, B, L0_m, L1_m, L2_m, L3_m, L4_m, X1⟩
    have hb : ∀ q, q + 1 = (partsL m.k).size - k → badPart m (partsL m.k) k (q + 1) = if wrongL m (byteAt (partsL m.k) k) ≠ 0 then wrongL m (byteAt (partsL m.k) k) else badPart m (partsL m.k) (k + 1) q := fun _ _ => rfl
    refine wp_seq ?_
    refine wp_seq ?_
    refine f_region hok ?_; clear hok; intro hok
    refine s_runk TB_Refs2 hok 4 rfl rfl ?_; clear hok a; intro a hok
    refine s_end hok [0, 1, 3, 10, 4, 14] rfl ?_; clear hok; intro hok
    refine p_then ?_
    refine f_cond hok rfl (fun hc2 => ?_) (fun hc2 => ?_)
    · replace hc2 := of_decide_eq_true hc2
      refine wp_skip ?_
      refine p_then ?_
      refine wp_seq ?_
      refine wp_block ?_
      refine wp_seq ?_
      refine f_quietd (by kernel_rfl) (by kernel_rfl) hok ?_; clear hok; intro hok
      refine q_ob hok (v := .agg #[.int .i64 m.k, .int .i64 m.epoch, .int .i64 m.req, .int .i64 m.serial, .bool m.flag, .int .u64 (m.at_ : Int), .int .u64 (m.last : Int), .int .i64 m.n, .int .i64 m.m, .int .i64 m.p, .int .i64 m.e, .string m.key, .string m.to_, .int .i64 m.conf.epoch, .slice ao_v0_m m.conf.members.length cap_v0_m, .int .u64 (m.conf.floor : Int), .int .i64 m.batch.client, .int .i64 m.batch.req, .slice ao_v1_m m.batch.ops.length cap_v1_m, .slice ao_v2_m m.entries.length cap_v2_m, .slice ao_v3_m m.stamps.length cap_v3_m, .slice ao_v4_m m.pairs.length cap_v4_m]) rfl rfl (by decide) rfl (fun _ hw => Ob_loads TB_Refs2 (cs := [.int .i64 m.k, .int .i64 m.epoch, .int .i64 m.req, .int .i64 m.serial, .bool m.flag, .int .u64 (m.at_ : Int), .int .u64 (m.last : Int), .int .i64 m.n, .int .i64 m.m, .int .i64 m.p, .int .i64 m.e, .string m.key, .string m.to_, .int .i64 m.conf.epoch, .slice ao_v0_m m.conf.members.length cap_v0_m, .int .u64 (m.conf.floor : Int), .int .i64 m.batch.client, .int .i64 m.batch.req, .slice ao_v1_m m.batch.ops.length cap_v1_m, .slice ao_v2_m m.entries.length cap_v2_m, .slice ao_v3_m m.stamps.length cap_v3_m, .slice ao_v4_m m.pairs.length cap_v4_m]) rfl rfl rfl (X1.below hw).at) ?_; clear hok a; intro a hok
      refine q_runk TB_Refs2 hok 2 rfl rfl ?_; clear hok a; intro a hok
      have hi1 : k < (partsL m.k).size := by omega
      refine q_ob hok (v := .int .u8 (byteAt (partsL m.k) k : Int)) rfl rfl (by decide) rfl (fun _ hw => Ob_idxs TB_Refs2 (k) rfl rfl rfl rfl rfl hi1) ?_; clear hok a; intro a hok
      refine q_call hok (caps := #[]) (v := .int .i64 (wrongL m (byteAt (partsL m.k) k))) fn_38_Refs2 rfl rfl rfl rfl rfl (by decide) rfl rfl (fun _ hw => c_ref09_wrong m _ _ _ _ _ (byteAt (partsL m.k) k) _ (L0_m.below hw) (L1_m.below hw) (L2_m.below hw) (L3_m.below hw) (L4_m.below hw) h_m (byteAt_lt _ _)) ?_; clear hok a; intro a hok
      refine q_runk TB_Refs2 hok 1 rfl rfl ?_; clear hok a; intro a hok
      refine q_end hok [0, 1, 3, 10, 4, 14, 5] rfl ?_; clear hok; intro w4 hb hok
      have hz_w4 : w3.heap.size ≤ w4.heap.size := hb.size
      replace B := B.blw hb
      replace L0_m := L0_m.below hb
      replace L1_m := L1_m.below hb
      replace L2_m := L2_m.below hb
      replace L3_m := L3_m.below hb
      replace L4_m := L4_m.below hb
      replace X1 := X1.below hb
      clear hb
      refine p_then ?_
      refine wp_seq ?_
      refine f_region hok ?_; clear hok; intro hok
      refine s_runk TB_Refs2 hok 2 rfl rfl ?_; clear hok a; intro a hok
      refine s_end hok [0, 1, 3, 10, 4, 14, 5, 23] rfl ?_; clear hok; intro hok
      refine p_then ?_
      refine f_cond hok rfl (fun hc3 => ?_) (fun hc3 => ?_)
      · replace hc3 := bne_iff_ne.1 hc3
        refine wp_seq ?_
        refine f_region hok ?_; clear hok; intro hok
        refine s_runk TB_Refs2 hok 2 rfl rfl ?_; clear hok a; intro a hok
        refine s_end hok [0, 1, 3, 10, 4, 14, 5, 23, 2] rfl ?_; clear hok; intro hok
        refine p_then ?_
        refine wp_ret ?_
        refine p_blk_r ?_
        refine p_then_r ?_
        refine p_then_r ?_
        refine p_blk_r ?_
        refine p_then_r ?_
        refine f_ret hok (run_results1 rfl hok rfl) ?_
        refine ⟨?_, B.toBelow⟩
        · clear hok B L0_m L1_m L2_m L3_m L4_m X1 hc_v0_m hm_v0_m ha_P1 ho_P1 hc_v1_m hm_v1_m ha_P2 ho_P2 hc_v2_m hm_v2_m ha_P3 ho_P3 hc_v3_m hm_v3_m ha_P4 ho_P4 hc_v4_m hm_v4_m ha_P5 ho_P5 hb0_b1 hb1_b1 hge_b1 hz_w1 hz_w2 hz_w4
          rw [hinv0_1, show (partsL m.k).size - k = ((partsL m.k).size - (k + 1)) + 1 by omega, hb _ (by omega), if_pos hc3]
      · replace hc3 := bne_eq_false_iff_eq.1 hc3
        refine wp_skip ?_
        refine p_blk ?_
        refine p_then ?_
        refine f_region hok ?_; clear hok; intro hok
        refine s_runk TB_Refs2 hok 1 rfl rfl ?_; clear hok a; intro a hok
        refine s_ob hok (v := .int .i64 ((k : Int) + 1)) rfl rfl (by decide) rfl (Ob_add rfl rfl rfl (IntWalk.i64_in _ (by omega))) ?_; clear hok a; intro a hok
        refine s_runk TB_Refs2 hok 1 rfl rfl ?_; clear hok a; intro a hok
        refine s_end hok [0, 1, 3, 10, 4, 14, 5, 23] rfl ?_; clear hok; intro hok
        refine p_then ?_
        refine ⟨k + 1, ⟨hok.sub (ts := [0, 1, 3, 10, 4]) rfl, ?_, ?_, B, L0_m, L1_m, L2_m, L3_m, L4_m, X1⟩, by omega⟩
        · clear hok B L0_m L1_m L2_m L3_m L4_m X1 hc_v0_m hm_v0_m ha_P1 ho_P1 hc_v1_m hm_v1_m ha_P2 ho_P2 hc_v2_m hm_v2_m ha_P3 ho_P3 hc_v3_m hm_v3_m ha_P4 ho_P4 hc_v4_m hm_v4_m ha_P5 ho_P5 hb0_b1 hb1_b1 hge_b1 hz_w1 hz_w2 hz_w4
          omega
        · clear hok B L0_m L1_m L2_m L3_m L4_m X1 hc_v0_m hm_v0_m ha_P1 ho_P1 hc_v1_m hm_v1_m ha_P2 ho_P2 hc_v2_m hm_v2_m ha_P3 ho_P3 hc_v3_m hm_v3_m ha_P4 ho_P4 hc_v4_m hm_v4_m ha_P5 ho_P5 hb0_b1 hb1_b1 hge_b1 hz_w1 hz_w2 hz_w4
          rw [hinv0_1, show (partsL m.k).size - k = ((partsL m.k).size - (k + 1)) + 1 by omega, hb _ (by omega), if_neg (fun h => h hc3)]
    · replace hc2 := of_decide_eq_false hc2
      refine wp_exit ?_
      refine p_then_x ?_
      refine p_then_x ?_
      refine f_exit_here ?_
      refine p_then ?_
      refine wp_seq ?_
      refine f_region hok ?_; clear hok; intro hok
      refine s_runk TB_Refs2 hok 1 rfl rfl ?_; clear hok a; intro a hok
      refine s_end hok [0, 1, 3, 10, 4, 14, 2] rfl ?_; clear hok; intro hok
      refine p_then ?_
      refine wp_ret ?_
      refine f_ret hok (run_results1 rfl hok rfl) ?_
      refine ⟨?_, B.toBelow⟩
      · clear hok B L0_m L1_m L2_m L3_m L4_m X1 hc_v0_m hm_v0_m ha_P1 ho_P1 hc_v1_m hm_v1_m ha_P2 ho_P2 hc_v2_m hm_v2_m ha_P3 ho_P3 hc_v3_m hm_v3_m ha_P4 ho_P4 hc_v4_m hm_v4_m ha_P5 ho_P5 hb0_b1 hb1_b1 hge_b1 hz_w1 hz_w2
        rw [hinv0_1, show (partsL m.k).size - k = 0 by omega]; rfl


def sameM (a b : DMsg) : Bool :=
  a.k == b.k && a.epoch == b.epoch && a.req == b.req && a.serial == b.serial && a.flag == b.flag && a.at_ == b.at_ && a.last == b.last && a.n == b.n && a.m == b.m && a.p == b.p && a.e == b.e && seqB a.key b.key && seqB a.to_ b.to_ &&
  sameC a.conf b.conf && sameB a.batch b.batch && sameBy sameE a.entries b.entries && sameBy eqD a.stamps b.stamps && sameBy eqD a.pairs b.pairs

theorem beq_cast (a b : Nat) : (((a : Int) == (b : Int)) : Bool) = (a == b) := by rw [Bool.eq_iff_iff]; simp <;> omega

set_option maxHeartbeats 1000000 in
set_option maxRecDepth 100000 in
theorem c_ref09_Same {A0 : Nat → Prop} {A1 : Nat → Prop} {A2 : Nat → Prop} {A3 : Nat → Prop} {A4 : Nat → Prop} {A5 : Nat → Prop} {A6 : Nat → Prop} {A7 : Nat → Prop} {A8 : Nat → Prop} {A9 : Nat → Prop} (a0 : DMsg) (v0_a0 : Value) (v1_a0 : Value) (v2_a0 : Value) (v3_a0 : Value) (v4_a0 : Value) (b : DMsg) (v0_b : Value) (v1_b : Value) (v2_b : Value) (v3_b : Value) (v4_b : Value) (w : World) (L0_a0 : slRep RDMember A0 w v0_a0 a0.conf.members) (L1_a0 : slRep RDOp A1 w v1_a0 a0.batch.ops) (L2_a0 : slRep RDEntry A2 w v2_a0 a0.entries) (L3_a0 : slRep RU A3 w v3_a0 a0.stamps) (L4_a0 : slRep RDPair A4 w v4_a0 a0.pairs) (h_a0 : okDMsg a0) (L0_b : slRep RDMember A5 w v0_b b.conf.members) (L1_b : slRep RDOp A6 w v1_b b.batch.ops) (L2_b : slRep RDEntry A7 w v2_b b.entries) (L3_b : slRep RU A8 w v3_b b.stamps) (L4_b : slRep RDPair A9 w v4_b b.pairs) (h_b : okDMsg b) :
    Calls Try.prog 14 #[.agg #[.int .i64 a0.k, .int .i64 a0.epoch, .int .i64 a0.req, .int .i64 a0.serial, .bool a0.flag, .int .u64 (a0.at_ : Int), .int .u64 (a0.last : Int), .int .i64 a0.n, .int .i64 a0.m, .int .i64 a0.p, .int .i64 a0.e, .string a0.key, .string a0.to_, .int .i64 a0.conf.epoch, v0_a0, .int .u64 (a0.conf.floor : Int), .int .i64 a0.batch.client, .int .i64 a0.batch.req, v1_a0, v2_a0, v3_a0, v4_a0], .agg #[.int .i64 b.k, .int .i64 b.epoch, .int .i64 b.req, .int .i64 b.serial, .bool b.flag, .int .u64 (b.at_ : Int), .int .u64 (b.last : Int), .int .i64 b.n, .int .i64 b.m, .int .i64 b.p, .int .i64 b.e, .string b.key, .string b.to_, .int .i64 b.conf.epoch, v0_b, .int .u64 (b.conf.floor : Int), .int .i64 b.batch.client, .int .i64 b.batch.req, v1_b, v2_b, v3_b, v4_b]] w (Ret fun r w' => r = .bool (sameM a0 b) ∧ Below w.heap.size w w') := by
  have B : Bt [] w w := Bt.refl _ _
  obtain ⟨ao_v0_a0, cap_v0_a0, rfl, hc_v0_a0, hm_v0_a0⟩ := L0_a0.shape
  unfold maxLen at hm_v0_a0
  obtain ⟨P1, ha_P1, ho_P1, L0_a0⟩ : ∃ X : Nat → Prop, (∀ k, X k → k < w.heap.size) ∧ (∀ k, X k → A0 k ∨ A1 k ∨ A2 k ∨ A3 k ∨ A4 k ∨ A5 k ∨ A6 k ∨ A7 k ∨ A8 k ∨ A9 k ∨ w.heap.size ≤ k) ∧ slRep RDMember X w (.slice ao_v0_a0 a0.conf.members.length cap_v0_a0) a0.conf.members := ⟨_, fun k h => h.2, fun k h => .inl h.1, L0_a0.bound⟩
  obtain ⟨ao_v1_a0, cap_v1_a0, rfl, hc_v1_a0, hm_v1_a0⟩ := L1_a0.shape
  unfold maxLen at hm_v1_a0
  obtain ⟨P2, ha_P2, ho_P2, L1_a0⟩ : ∃ X : Nat → Prop, (∀ k, X k → k < w.heap.size) ∧ (∀ k, X k → A0 k ∨ A1 k ∨ A2 k ∨ A3 k ∨ A4 k ∨ A5 k ∨ A6 k ∨ A7 k ∨ A8 k ∨ A9 k ∨ w.heap.size ≤ k) ∧ slRep RDOp X w (.slice ao_v1_a0 a0.batch.ops.length cap_v1_a0) a0.batch.ops := ⟨_, fun k h => h.2, fun k h => .inr (.inl h.1), L1_a0.bound⟩
  obtain ⟨ao_v2_a0, cap_v2_a0, rfl, hc_v2_a0, hm_v2_a0⟩ := L2_a0.shape
  unfold maxLen at hm_v2_a0
  obtain ⟨P3, ha_P3, ho_P3, L2_a0⟩ : ∃ X : Nat → Prop, (∀ k, X k → k < w.heap.size) ∧ (∀ k, X k → A0 k ∨ A1 k ∨ A2 k ∨ A3 k ∨ A4 k ∨ A5 k ∨ A6 k ∨ A7 k ∨ A8 k ∨ A9 k ∨ w.heap.size ≤ k) ∧ slRep RDEntry X w (.slice ao_v2_a0 a0.entries.length cap_v2_a0) a0.entries := ⟨_, fun k h => h.2, fun k h => .inr (.inr (.inl h.1)), L2_a0.bound⟩
  obtain ⟨ao_v3_a0, cap_v3_a0, rfl, hc_v3_a0, hm_v3_a0⟩ := L3_a0.shape
  unfold maxLen at hm_v3_a0
  obtain ⟨P4, ha_P4, ho_P4, L3_a0⟩ : ∃ X : Nat → Prop, (∀ k, X k → k < w.heap.size) ∧ (∀ k, X k → A0 k ∨ A1 k ∨ A2 k ∨ A3 k ∨ A4 k ∨ A5 k ∨ A6 k ∨ A7 k ∨ A8 k ∨ A9 k ∨ w.heap.size ≤ k) ∧ slRep RU X w (.slice ao_v3_a0 a0.stamps.length cap_v3_a0) a0.stamps := ⟨_, fun k h => h.2, fun k h => .inr (.inr (.inr (.inl h.1))), L3_a0.bound⟩
  obtain ⟨ao_v4_a0, cap_v4_a0, rfl, hc_v4_a0, hm_v4_a0⟩ := L4_a0.shape
  unfold maxLen at hm_v4_a0
  obtain ⟨P5, ha_P5, ho_P5, L4_a0⟩ : ∃ X : Nat → Prop, (∀ k, X k → k < w.heap.size) ∧ (∀ k, X k → A0 k ∨ A1 k ∨ A2 k ∨ A3 k ∨ A4 k ∨ A5 k ∨ A6 k ∨ A7 k ∨ A8 k ∨ A9 k ∨ w.heap.size ≤ k) ∧ slRep RDPair X w (.slice ao_v4_a0 a0.pairs.length cap_v4_a0) a0.pairs := ⟨_, fun k h => h.2, fun k h => .inr (.inr (.inr (.inr (.inl h.1)))), L4_a0.bound⟩
  obtain ⟨ao_v0_b, cap_v0_b, rfl, hc_v0_b, hm_v0_b⟩ := L0_b.shape
  unfold maxLen at hm_v0_b
  obtain ⟨P6, ha_P6, ho_P6, L0_b⟩ : ∃ X : Nat → Prop, (∀ k, X k → k < w.heap.size) ∧ (∀ k, X k → A0 k ∨ A1 k ∨ A2 k ∨ A3 k ∨ A4 k ∨ A5 k ∨ A6 k ∨ A7 k ∨ A8 k ∨ A9 k ∨ w.heap.size ≤ k) ∧ slRep RDMember X w (.slice ao_v0_b b.conf.members.length cap_v0_b) b.conf.members := ⟨_, fun k h => h.2, fun k h => .inr (.inr (.inr (.inr (.inr (.inl h.1))))), L0_b.bound⟩
  obtain ⟨ao_v1_b, cap_v1_b, rfl, hc_v1_b, hm_v1_b⟩ := L1_b.shape
  unfold maxLen at hm_v1_b
  obtain ⟨P7, ha_P7, ho_P7, L1_b⟩ : ∃ X : Nat → Prop, (∀ k, X k → k < w.heap.size) ∧ (∀ k, X k → A0 k ∨ A1 k ∨ A2 k ∨ A3 k ∨ A4 k ∨ A5 k ∨ A6 k ∨ A7 k ∨ A8 k ∨ A9 k ∨ w.heap.size ≤ k) ∧ slRep RDOp X w (.slice ao_v1_b b.batch.ops.length cap_v1_b) b.batch.ops := ⟨_, fun k h => h.2, fun k h => .inr (.inr (.inr (.inr (.inr (.inr (.inl h.1)))))), L1_b.bound⟩
  obtain ⟨ao_v2_b, cap_v2_b, rfl, hc_v2_b, hm_v2_b⟩ := L2_b.shape
  unfold maxLen at hm_v2_b
  obtain ⟨P8, ha_P8, ho_P8, L2_b⟩ : ∃ X : Nat → Prop, (∀ k, X k → k < w.heap.size) ∧ (∀ k, X k → A0 k ∨ A1 k ∨ A2 k ∨ A3 k ∨ A4 k ∨ A5 k ∨ A6 k ∨ A7 k ∨ A8 k ∨ A9 k ∨ w.heap.size ≤ k) ∧ slRep RDEntry X w (.slice ao_v2_b b.entries.length cap_v2_b) b.entries := ⟨_, fun k h => h.2, fun k h => .inr (.inr (.inr (.inr (.inr (.inr (.inr (.inl h.1))))))), L2_b.bound⟩
  obtain ⟨ao_v3_b, cap_v3_b, rfl, hc_v3_b, hm_v3_b⟩ := L3_b.shape
  unfold maxLen at hm_v3_b
  obtain ⟨P9, ha_P9, ho_P9, L3_b⟩ : ∃ X : Nat → Prop, (∀ k, X k → k < w.heap.size) ∧ (∀ k, X k → A0 k ∨ A1 k ∨ A2 k ∨ A3 k ∨ A4 k ∨ A5 k ∨ A6 k ∨ A7 k ∨ A8 k ∨ A9 k ∨ w.heap.size ≤ k) ∧ slRep RU X w (.slice ao_v3_b b.stamps.length cap_v3_b) b.stamps := ⟨_, fun k h => h.2, fun k h => .inr (.inr (.inr (.inr (.inr (.inr (.inr (.inr (.inl h.1)))))))), L3_b.bound⟩
  obtain ⟨ao_v4_b, cap_v4_b, rfl, hc_v4_b, hm_v4_b⟩ := L4_b.shape
  unfold maxLen at hm_v4_b
  obtain ⟨P10, ha_P10, ho_P10, L4_b⟩ : ∃ X : Nat → Prop, (∀ k, X k → k < w.heap.size) ∧ (∀ k, X k → A0 k ∨ A1 k ∨ A2 k ∨ A3 k ∨ A4 k ∨ A5 k ∨ A6 k ∨ A7 k ∨ A8 k ∨ A9 k ∨ w.heap.size ≤ k) ∧ slRep RDPair X w (.slice ao_v4_b b.pairs.length cap_v4_b) b.pairs := ⟨_, fun k h => h.2, fun k h => .inr (.inr (.inr (.inr (.inr (.inr (.inr (.inr (.inr (.inl h.1))))))))), L4_b.bound⟩
  refine f_enter 129 Try.func14 rfl rfl (Nat.le_of_ble_eq_true rfl) fun a hok => ?_
  replace hok := hok.sub (ts := [0, 1]) rfl
  refine wp_seq ?_
  refine f_region hok ?_; clear hok; intro hok
  refine s_boxv hok (cs := [.int .i64 a0.k, .int .i64 a0.epoch, .int .i64 a0.req, .int .i64 a0.serial, .bool a0.flag, .int .u64 (a0.at_ : Int), .int .u64 (a0.last : Int), .int .i64 a0.n, .int .i64 a0.m, .int .i64 a0.p, .int .i64 a0.e, .string a0.key, .string a0.to_, .int .i64 a0.conf.epoch, .slice ao_v0_a0 a0.conf.members.length cap_v0_a0, .int .u64 (a0.conf.floor : Int), .int .i64 a0.batch.client, .int .i64 a0.batch.req, .slice ao_v1_a0 a0.batch.ops.length cap_v1_a0, .slice ao_v2_a0 a0.entries.length cap_v2_a0, .slice ao_v3_a0 a0.stamps.length cap_v3_a0, .slice ao_v4_a0 a0.pairs.length cap_v4_a0]) rfl rfl rfl (by decide) rfl rfl rfl ?_; clear hok a; intro a w1 b1 hb0_b1 hb1_b1 hb X1 hok
  have hge_b1 : w.heap.size ≤ b1 := by have := B.size; omega
  have hz_w1 : w.heap.size ≤ w1.heap.size := hb.size
  replace B := B.blw hb
  replace L0_a0 := L0_a0.below hb
  replace L1_a0 := L1_a0.below hb
  replace L2_a0 := L2_a0.below hb
  replace L3_a0 := L3_a0.below hb
  replace L4_a0 := L4_a0.below hb
  replace L0_b := L0_b.below hb
  replace L1_b := L1_b.below hb
  replace L2_b := L2_b.below hb
  replace L3_b := L3_b.below hb
  replace L4_b := L4_b.below hb
  clear hb
  refine s_boxv hok (cs := [.int .i64 b.k, .int .i64 b.epoch, .int .i64 b.req, .int .i64 b.serial, .bool b.flag, .int .u64 (b.at_ : Int), .int .u64 (b.last : Int), .int .i64 b.n, .int .i64 b.m, .int .i64 b.p, .int .i64 b.e, .string b.key, .string b.to_, .int .i64 b.conf.epoch, .slice ao_v0_b b.conf.members.length cap_v0_b, .int .u64 (b.conf.floor : Int), .int .i64 b.batch.client, .int .i64 b.batch.req, .slice ao_v1_b b.batch.ops.length cap_v1_b, .slice ao_v2_b b.entries.length cap_v2_b, .slice ao_v3_b b.stamps.length cap_v3_b, .slice ao_v4_b b.pairs.length cap_v4_b]) rfl rfl rfl (by decide) rfl rfl rfl ?_; clear hok a; intro a w2 b2 hb0_b2 hb1_b2 hb X2 hok
  have hge_b2 : w.heap.size ≤ b2 := by have := B.size; omega
  have hlt_b1_b2 : b1 < b2 := by have := X1.lt; omega
  have hz_w2 : w1.heap.size ≤ w2.heap.size := hb.size
  replace B := B.blw hb
  replace L0_a0 := L0_a0.below hb
  replace L1_a0 := L1_a0.below hb
  replace L2_a0 := L2_a0.below hb
  replace L3_a0 := L3_a0.below hb
  replace L4_a0 := L4_a0.below hb
  replace L0_b := L0_b.below hb
  replace L1_b := L1_b.below hb
  replace L2_b := L2_b.below hb
  replace L3_b := L3_b.below hb
  replace L4_b := L4_b.below hb
  replace X1 := X1.below hb
  clear hb
  refine s_runk TB_Refs2 hok 1 rfl rfl ?_; clear hok a; intro a hok
  refine s_end hok [0, 1, 2, 3, 4] rfl ?_; clear hok; intro hok
  refine p_then ?_
  refine wp_seq ?_
  refine f_quiet hok ?_; clear hok; intro hok
  refine q_runk TB_Refs2 hok 1 rfl rfl ?_; clear hok a; intro a hok
  refine q_ob hok (v := .int .i64 a0.k) rfl rfl (by decide) rfl (fun _ hw => Ob_load TB_Refs2 rfl rfl rfl ((X1.below hw).cell 0 rfl)) ?_; clear hok a; intro a hok
  refine q_runk TB_Refs2 hok 1 rfl rfl ?_; clear hok a; intro a hok
  refine q_ob hok (v := .int .i64 b.k) rfl rfl (by decide) rfl (fun _ hw => Ob_load TB_Refs2 rfl rfl rfl ((X2.below hw).cell 0 rfl)) ?_; clear hok a; intro a hok
  refine q_runk TB_Refs2 hok 2 rfl rfl ?_; clear hok a; intro a hok
  refine q_gob hok (c := a0.k == b.k) rfl rfl rfl rfl (by decide) rfl (by decide) rfl (fun _ => fun _ _ => Ob_c TB_Refs2 rfl) ?_; clear hok a; intro a hok
  refine q_gob hok (c := a0.k == b.k) (v := .int .i64 a0.epoch) rfl rfl rfl rfl (by decide) rfl (by decide) rfl (fun hg1 => ?_) ?_
  · replace hg1 := eq_of_beq hg1
    exact fun _ hw => Ob_load TB_Refs2 rfl rfl rfl ((X1.below hw).cell 1 rfl)
  clear hok a; intro a hok
  refine q_gob hok (c := a0.k == b.k) rfl rfl rfl rfl (by decide) rfl (by decide) rfl (fun _ => fun _ _ => Ob_c TB_Refs2 rfl) ?_; clear hok a; intro a hok
  refine q_gob hok (c := a0.k == b.k) (v := .int .i64 b.epoch) rfl rfl rfl rfl (by decide) rfl (by decide) rfl (fun hg2 => ?_) ?_
  · replace hg2 := eq_of_beq hg2
    exact fun _ hw => Ob_load TB_Refs2 rfl rfl rfl ((X2.below hw).cell 1 rfl)
  clear hok a; intro a hok
  refine q_gob hok (c := a0.k == b.k) rfl rfl rfl rfl (by decide) rfl (by decide) rfl (fun _ => fun _ _ => Ob_c TB_Refs2 rfl) ?_; clear hok a; intro a hok
  refine q_and hok (i := 5) rfl rfl rfl rfl rfl rfl rfl (by decide) rfl rfl ?_; clear hok a; intro a hok
  refine q_runk TB_Refs2 hok 1 rfl rfl ?_; clear hok a; intro a hok
  refine q_gob hok (c := (a0.k == b.k) && (a0.epoch == b.epoch)) rfl rfl rfl rfl (by decide) rfl (by decide) rfl (fun _ => fun _ _ => Ob_c TB_Refs2 rfl) ?_; clear hok a; intro a hok
  refine q_gob hok (c := (a0.k == b.k) && (a0.epoch == b.epoch)) (v := .int .i64 a0.req) rfl rfl rfl rfl (by decide) rfl (by decide) rfl (fun hg3 => ?_) ?_
  · replace hg3 := And.intro (eq_of_beq (andT1 hg3)) (eq_of_beq (andT2 hg3))
    exact fun _ hw => Ob_load TB_Refs2 rfl rfl rfl ((X1.below hw).cell 2 rfl)
  clear hok a; intro a hok
  refine q_gob hok (c := (a0.k == b.k) && (a0.epoch == b.epoch)) rfl rfl rfl rfl (by decide) rfl (by decide) rfl (fun _ => fun _ _ => Ob_c TB_Refs2 rfl) ?_; clear hok a; intro a hok
  refine q_gob hok (c := (a0.k == b.k) && (a0.epoch == b.epoch)) (v := .int .i64 b.req) rfl rfl rfl rfl (by decide) rfl (by decide) rfl (fun hg4 => ?_) ?_
  · replace hg4 := And.intro (eq_of_beq (andT1 hg4)) (eq_of_beq (andT2 hg4))
    exact fun _ hw => Ob_load TB_Refs2 rfl rfl rfl ((X2.below hw).cell 2 rfl)
  clear hok a; intro a hok
  refine q_gob hok (c := (a0.k == b.k) && (a0.epoch == b.epoch)) rfl rfl rfl rfl (by decide) rfl (by decide) rfl (fun _ => fun _ _ => Ob_c TB_Refs2 rfl) ?_; clear hok a; intro a hok
  refine q_and hok (i := 12) rfl rfl rfl rfl rfl rfl rfl (by decide) rfl rfl ?_; clear hok a; intro a hok
  refine q_runk TB_Refs2 hok 1 rfl rfl ?_; clear hok a; intro a hok
  refine q_gob hok (c := ((a0.k == b.k) && (a0.epoch == b.epoch)) && (a0.req == b.req)) rfl rfl rfl rfl (by decide) rfl (by decide) rfl (fun _ => fun _ _ => Ob_c TB_Refs2 rfl) ?_; clear hok a; intro a hok
  refine q_gob hok (c := ((a0.k == b.k) && (a0.epoch == b.epoch)) && (a0.req == b.req)) (v := .int .i64 a0.serial) rfl rfl rfl rfl (by decide) rfl (by decide) rfl (fun hg5 => ?_) ?_
  · replace hg5 := And.intro (And.intro (eq_of_beq (andT1 (andT1 hg5))) (eq_of_beq (andT2 (andT1 hg5)))) (eq_of_beq (andT2 hg5))
    exact fun _ hw => Ob_load TB_Refs2 rfl rfl rfl ((X1.below hw).cell 3 rfl)
  clear hok a; intro a hok
  refine q_gob hok (c := ((a0.k == b.k) && (a0.epoch == b.epoch)) && (a0.req == b.req)) rfl rfl rfl rfl (by decide) rfl (by decide) rfl (fun _ => fun _ _ => Ob_c TB_Refs2 rfl) ?_; clear hok a; intro a hok
  refine q_gob hok (c := ((a0.k == b.k) && (a0.epoch == b.epoch)) && (a0.req == b.req)) (v := .int .i64 b.serial) rfl rfl rfl rfl (by decide) rfl (by decide) rfl (fun hg6 => ?_) ?_
  · replace hg6 := And.intro (And.intro (eq_of_beq (andT1 (andT1 hg6))) (eq_of_beq (andT2 (andT1 hg6)))) (eq_of_beq (andT2 hg6))
    exact fun _ hw => Ob_load TB_Refs2 rfl rfl rfl ((X2.below hw).cell 3 rfl)
  clear hok a; intro a hok
  refine q_gob hok (c := ((a0.k == b.k) && (a0.epoch == b.epoch)) && (a0.req == b.req)) rfl rfl rfl rfl (by decide) rfl (by decide) rfl (fun _ => fun _ _ => Ob_c TB_Refs2 rfl) ?_; clear hok a; intro a hok
  refine q_and hok (i := 19) rfl rfl rfl rfl rfl rfl rfl (by decide) rfl rfl ?_; clear hok a; intro a hok
  refine q_runk TB_Refs2 hok 1 rfl rfl ?_; clear hok a; intro a hok
  refine q_gob hok (c := (((a0.k == b.k) && (a0.epoch == b.epoch)) && (a0.req == b.req)) && (a0.serial == b.serial)) rfl rfl rfl rfl (by decide) rfl (by decide) rfl (fun _ => fun _ _ => Ob_c TB_Refs2 rfl) ?_; clear hok a; intro a hok
  refine q_gob hok (c := (((a0.k == b.k) && (a0.epoch == b.epoch)) && (a0.req == b.req)) && (a0.serial == b.serial)) (v := .bool a0.flag) rfl rfl rfl rfl (by decide) rfl (by decide) rfl (fun hg7 => ?_) ?_
  · replace hg7 := And.intro (And.intro (And.intro (eq_of_beq (andT1 (andT1 (andT1 hg7)))) (eq_of_beq (andT2 (andT1 (andT1 hg7))))) (eq_of_beq (andT2 (andT1 hg7)))) (eq_of_beq (andT2 hg7))
    exact fun _ hw => Ob_load TB_Refs2 rfl rfl rfl ((X1.below hw).cell 4 rfl)
  clear hok a; intro a hok
  refine q_gob hok (c := (((a0.k == b.k) && (a0.epoch == b.epoch)) && (a0.req == b.req)) && (a0.serial == b.serial)) rfl rfl rfl rfl (by decide) rfl (by decide) rfl (fun _ => fun _ _ => Ob_c TB_Refs2 rfl) ?_; clear hok a; intro a hok
  refine q_gob hok (c := (((a0.k == b.k) && (a0.epoch == b.epoch)) && (a0.req == b.req)) && (a0.serial == b.serial)) (v := .bool b.flag) rfl rfl rfl rfl (by decide) rfl (by decide) rfl (fun hg8 => ?_) ?_
  · replace hg8 := And.intro (And.intro (And.intro (eq_of_beq (andT1 (andT1 (andT1 hg8)))) (eq_of_beq (andT2 (andT1 (andT1 hg8))))) (eq_of_beq (andT2 (andT1 hg8)))) (eq_of_beq (andT2 hg8))
    exact fun _ hw => Ob_load TB_Refs2 rfl rfl rfl ((X2.below hw).cell 4 rfl)
  clear hok a; intro a hok
  refine q_gob hok (c := (((a0.k == b.k) && (a0.epoch == b.epoch)) && (a0.req == b.req)) && (a0.serial == b.serial)) rfl rfl rfl rfl (by decide) rfl (by decide) rfl (fun _ => fun _ _ => Ob_c TB_Refs2 rfl) ?_; clear hok a; intro a hok
  refine q_and hok (i := 26) rfl rfl rfl rfl rfl rfl rfl (by decide) rfl rfl ?_; clear hok a; intro a hok
  refine q_runk TB_Refs2 hok 1 rfl rfl ?_; clear hok a; intro a hok
  refine q_gob hok (c := ((((a0.k == b.k) && (a0.epoch == b.epoch)) && (a0.req == b.req)) && (a0.serial == b.serial)) && (a0.flag == b.flag)) rfl rfl rfl rfl (by decide) rfl (by decide) rfl (fun _ => fun _ _ => Ob_c TB_Refs2 rfl) ?_; clear hok a; intro a hok
  refine q_gob hok (c := ((((a0.k == b.k) && (a0.epoch == b.epoch)) && (a0.req == b.req)) && (a0.serial == b.serial)) && (a0.flag == b.flag)) (v := .int .u64 (a0.at_ : Int)) rfl rfl rfl rfl (by decide) rfl (by decide) rfl (fun hg9 => ?_) ?_
  · replace hg9 := And.intro (And.intro (And.intro (And.intro (eq_of_beq (andT1 (andT1 (andT1 (andT1 hg9))))) (eq_of_beq (andT2 (andT1 (andT1 (andT1 hg9)))))) (eq_of_beq (andT2 (andT1 (andT1 hg9))))) (eq_of_beq (andT2 (andT1 hg9)))) ((andT2 hg9))
    exact fun _ hw => Ob_load TB_Refs2 rfl rfl rfl ((X1.below hw).cell 5 rfl)
  clear hok a; intro a hok
  refine q_gob hok (c := ((((a0.k == b.k) && (a0.epoch == b.epoch)) && (a0.req == b.req)) && (a0.serial == b.serial)) && (a0.flag == b.flag)) rfl rfl rfl rfl (by decide) rfl (by decide) rfl (fun _ => fun _ _ => Ob_c TB_Refs2 rfl) ?_; clear hok a; intro a hok
  refine q_gob hok (c := ((((a0.k == b.k) && (a0.epoch == b.epoch)) && (a0.req == b.req)) && (a0.serial == b.serial)) && (a0.flag == b.flag)) (v := .int .u64 (b.at_ : Int)) rfl rfl rfl rfl (by decide) rfl (by decide) rfl (fun hg10 => ?_) ?_
  · replace hg10 := And.intro (And.intro (And.intro (And.intro (eq_of_beq (andT1 (andT1 (andT1 (andT1 hg10))))) (eq_of_beq (andT2 (andT1 (andT1 (andT1 hg10)))))) (eq_of_beq (andT2 (andT1 (andT1 hg10))))) (eq_of_beq (andT2 (andT1 hg10)))) ((andT2 hg10))
    exact fun _ hw => Ob_load TB_Refs2 rfl rfl rfl ((X2.below hw).cell 5 rfl)
  clear hok a; intro a hok
  refine q_gob hok (c := ((((a0.k == b.k) && (a0.epoch == b.epoch)) && (a0.req == b.req)) && (a0.serial == b.serial)) && (a0.flag == b.flag)) rfl rfl rfl rfl (by decide) rfl (by decide) rfl (fun _ => fun _ _ => Ob_c TB_Refs2 rfl) ?_; clear hok a; intro a hok
  refine q_and hok (i := 33) rfl rfl rfl rfl rfl rfl rfl (by decide) rfl rfl ?_; clear hok a; intro a hok
  refine q_runk TB_Refs2 hok 1 rfl rfl ?_; clear hok a; intro a hok
  refine q_gob hok (c := (((((a0.k == b.k) && (a0.epoch == b.epoch)) && (a0.req == b.req)) && (a0.serial == b.serial)) && (a0.flag == b.flag)) && ((a0.at_ : Int) == (b.at_ : Int))) rfl rfl rfl rfl (by decide) rfl (by decide) rfl (fun _ => fun _ _ => Ob_c TB_Refs2 rfl) ?_; clear hok a; intro a hok
  refine q_gob hok (c := (((((a0.k == b.k) && (a0.epoch == b.epoch)) && (a0.req == b.req)) && (a0.serial == b.serial)) && (a0.flag == b.flag)) && ((a0.at_ : Int) == (b.at_ : Int))) (v := .int .u64 (a0.last : Int)) rfl rfl rfl rfl (by decide) rfl (by decide) rfl (fun hg11 => ?_) ?_
  · replace hg11 := And.intro (And.intro (And.intro (And.intro (And.intro (eq_of_beq (andT1 (andT1 (andT1 (andT1 (andT1 hg11)))))) (eq_of_beq (andT2 (andT1 (andT1 (andT1 (andT1 hg11))))))) (eq_of_beq (andT2 (andT1 (andT1 (andT1 hg11)))))) (eq_of_beq (andT2 (andT1 (andT1 hg11))))) ((andT2 (andT1 hg11)))) (eq_of_beq (andT2 hg11))
    exact fun _ hw => Ob_load TB_Refs2 rfl rfl rfl ((X1.below hw).cell 6 rfl)
  clear hok a; intro a hok
  refine q_gob hok (c := (((((a0.k == b.k) && (a0.epoch == b.epoch)) && (a0.req == b.req)) && (a0.serial == b.serial)) && (a0.flag == b.flag)) && ((a0.at_ : Int) == (b.at_ : Int))) rfl rfl rfl rfl (by decide) rfl (by decide) rfl (fun _ => fun _ _ => Ob_c TB_Refs2 rfl) ?_; clear hok a; intro a hok
  refine q_gob hok (c := (((((a0.k == b.k) && (a0.epoch == b.epoch)) && (a0.req == b.req)) && (a0.serial == b.serial)) && (a0.flag == b.flag)) && ((a0.at_ : Int) == (b.at_ : Int))) (v := .int .u64 (b.last : Int)) rfl rfl rfl rfl (by decide) rfl (by decide) rfl (fun hg12 => ?_) ?_
  · replace hg12 := And.intro (And.intro (And.intro (And.intro (And.intro (eq_of_beq (andT1 (andT1 (andT1 (andT1 (andT1 hg12)))))) (eq_of_beq (andT2 (andT1 (andT1 (andT1 (andT1 hg12))))))) (eq_of_beq (andT2 (andT1 (andT1 (andT1 hg12)))))) (eq_of_beq (andT2 (andT1 (andT1 hg12))))) ((andT2 (andT1 hg12)))) (eq_of_beq (andT2 hg12))
    exact fun _ hw => Ob_load TB_Refs2 rfl rfl rfl ((X2.below hw).cell 6 rfl)
  clear hok a; intro a hok
  refine q_gob hok (c := (((((a0.k == b.k) && (a0.epoch == b.epoch)) && (a0.req == b.req)) && (a0.serial == b.serial)) && (a0.flag == b.flag)) && ((a0.at_ : Int) == (b.at_ : Int))) rfl rfl rfl rfl (by decide) rfl (by decide) rfl (fun _ => fun _ _ => Ob_c TB_Refs2 rfl) ?_; clear hok a; intro a hok
  refine q_and hok (i := 40) rfl rfl rfl rfl rfl rfl rfl (by decide) rfl rfl ?_; clear hok a; intro a hok
  refine q_runk TB_Refs2 hok 1 rfl rfl ?_; clear hok a; intro a hok
  refine q_gob hok (c := ((((((a0.k == b.k) && (a0.epoch == b.epoch)) && (a0.req == b.req)) && (a0.serial == b.serial)) && (a0.flag == b.flag)) && ((a0.at_ : Int) == (b.at_ : Int))) && ((a0.last : Int) == (b.last : Int))) rfl rfl rfl rfl (by decide) rfl (by decide) rfl (fun _ => fun _ _ => Ob_c TB_Refs2 rfl) ?_; clear hok a; intro a hok
  refine q_gob hok (c := ((((((a0.k == b.k) && (a0.epoch == b.epoch)) && (a0.req == b.req)) && (a0.serial == b.serial)) && (a0.flag == b.flag)) && ((a0.at_ : Int) == (b.at_ : Int))) && ((a0.last : Int) == (b.last : Int))) (v := .int .i64 a0.n) rfl rfl rfl rfl (by decide) rfl (by decide) rfl (fun hg13 => ?_) ?_
  · replace hg13 := And.intro (And.intro (And.intro (And.intro (And.intro (And.intro (eq_of_beq (andT1 (andT1 (andT1 (andT1 (andT1 (andT1 hg13))))))) (eq_of_beq (andT2 (andT1 (andT1 (andT1 (andT1 (andT1 hg13)))))))) (eq_of_beq (andT2 (andT1 (andT1 (andT1 (andT1 hg13))))))) (eq_of_beq (andT2 (andT1 (andT1 (andT1 hg13)))))) ((andT2 (andT1 (andT1 hg13))))) (eq_of_beq (andT2 (andT1 hg13)))) (eq_of_beq (andT2 hg13))
    exact fun _ hw => Ob_load TB_Refs2 rfl rfl rfl ((X1.below hw).cell 7 rfl)
  clear hok a; intro a hok
  refine q_gob hok (c := ((((((a0.k == b.k) && (a0.epoch == b.epoch)) && (a0.req == b.req)) && (a0.serial == b.serial)) && (a0.flag == b.flag)) && ((a0.at_ : Int) == (b.at_ : Int))) && ((a0.last : Int) == (b.last : Int))) rfl rfl rfl rfl (by decide) rfl (by decide) rfl (fun _ => fun _ _ => Ob_c TB_Refs2 rfl) ?_; clear hok a; intro a hok
  refine q_gob hok (c := ((((((a0.k == b.k) && (a0.epoch == b.epoch)) && (a0.req == b.req)) && (a0.serial == b.serial)) && (a0.flag == b.flag)) && ((a0.at_ : Int) == (b.at_ : Int))) && ((a0.last : Int) == (b.last : Int))) (v := .int .i64 b.n) rfl rfl rfl rfl (by decide) rfl (by decide) rfl (fun hg14 => ?_) ?_
  · replace hg14 := And.intro (And.intro (And.intro (And.intro (And.intro (And.intro (eq_of_beq (andT1 (andT1 (andT1 (andT1 (andT1 (andT1 hg14))))))) (eq_of_beq (andT2 (andT1 (andT1 (andT1 (andT1 (andT1 hg14)))))))) (eq_of_beq (andT2 (andT1 (andT1 (andT1 (andT1 hg14))))))) (eq_of_beq (andT2 (andT1 (andT1 (andT1 hg14)))))) ((andT2 (andT1 (andT1 hg14))))) (eq_of_beq (andT2 (andT1 hg14)))) (eq_of_beq (andT2 hg14))
    exact fun _ hw => Ob_load TB_Refs2 rfl rfl rfl ((X2.below hw).cell 7 rfl)
  clear hok a; intro a hok
  refine q_gob hok (c := ((((((a0.k == b.k) && (a0.epoch == b.epoch)) && (a0.req == b.req)) && (a0.serial == b.serial)) && (a0.flag == b.flag)) && ((a0.at_ : Int) == (b.at_ : Int))) && ((a0.last : Int) == (b.last : Int))) rfl rfl rfl rfl (by decide) rfl (by decide) rfl (fun _ => fun _ _ => Ob_c TB_Refs2 rfl) ?_; clear hok a; intro a hok
  refine q_and hok (i := 47) rfl rfl rfl rfl rfl rfl rfl (by decide) rfl rfl ?_; clear hok a; intro a hok
  refine q_runk TB_Refs2 hok 1 rfl rfl ?_; clear hok a; intro a hok
  refine q_gob hok (c := (((((((a0.k == b.k) && (a0.epoch == b.epoch)) && (a0.req == b.req)) && (a0.serial == b.serial)) && (a0.flag == b.flag)) && ((a0.at_ : Int) == (b.at_ : Int))) && ((a0.last : Int) == (b.last : Int))) && (a0.n == b.n)) rfl rfl rfl rfl (by decide) rfl (by decide) rfl (fun _ => fun _ _ => Ob_c TB_Refs2 rfl) ?_; clear hok a; intro a hok
  refine q_gob hok (c := (((((((a0.k == b.k) && (a0.epoch == b.epoch)) && (a0.req == b.req)) && (a0.serial == b.serial)) && (a0.flag == b.flag)) && ((a0.at_ : Int) == (b.at_ : Int))) && ((a0.last : Int) == (b.last : Int))) && (a0.n == b.n)) (v := .int .i64 a0.m) rfl rfl rfl rfl (by decide) rfl (by decide) rfl (fun hg15 => ?_) ?_
  · replace hg15 := And.intro (And.intro (And.intro (And.intro (And.intro (And.intro (And.intro (eq_of_beq (andT1 (andT1 (andT1 (andT1 (andT1 (andT1 (andT1 hg15)))))))) (eq_of_beq (andT2 (andT1 (andT1 (andT1 (andT1 (andT1 (andT1 hg15))))))))) (eq_of_beq (andT2 (andT1 (andT1 (andT1 (andT1 (andT1 hg15)))))))) (eq_of_beq (andT2 (andT1 (andT1 (andT1 (andT1 hg15))))))) ((andT2 (andT1 (andT1 (andT1 hg15)))))) (eq_of_beq (andT2 (andT1 (andT1 hg15))))) (eq_of_beq (andT2 (andT1 hg15)))) (eq_of_beq (andT2 hg15))
    exact fun _ hw => Ob_load TB_Refs2 rfl rfl rfl ((X1.below hw).cell 8 rfl)
  clear hok a; intro a hok
  refine q_gob hok (c := (((((((a0.k == b.k) && (a0.epoch == b.epoch)) && (a0.req == b.req)) && (a0.serial == b.serial)) && (a0.flag == b.flag)) && ((a0.at_ : Int) == (b.at_ : Int))) && ((a0.last : Int) == (b.last : Int))) && (a0.n == b.n)) rfl rfl rfl rfl (by decide) rfl (by decide) rfl (fun _ => fun _ _ => Ob_c TB_Refs2 rfl) ?_; clear hok a; intro a hok
  refine q_gob hok (c := (((((((a0.k == b.k) && (a0.epoch == b.epoch)) && (a0.req == b.req)) && (a0.serial == b.serial)) && (a0.flag == b.flag)) && ((a0.at_ : Int) == (b.at_ : Int))) && ((a0.last : Int) == (b.last : Int))) && (a0.n == b.n)) (v := .int .i64 b.m) rfl rfl rfl rfl (by decide) rfl (by decide) rfl (fun hg16 => ?_) ?_
  · replace hg16 := And.intro (And.intro (And.intro (And.intro (And.intro (And.intro (And.intro (eq_of_beq (andT1 (andT1 (andT1 (andT1 (andT1 (andT1 (andT1 hg16)))))))) (eq_of_beq (andT2 (andT1 (andT1 (andT1 (andT1 (andT1 (andT1 hg16))))))))) (eq_of_beq (andT2 (andT1 (andT1 (andT1 (andT1 (andT1 hg16)))))))) (eq_of_beq (andT2 (andT1 (andT1 (andT1 (andT1 hg16))))))) ((andT2 (andT1 (andT1 (andT1 hg16)))))) (eq_of_beq (andT2 (andT1 (andT1 hg16))))) (eq_of_beq (andT2 (andT1 hg16)))) (eq_of_beq (andT2 hg16))
    exact fun _ hw => Ob_load TB_Refs2 rfl rfl rfl ((X2.below hw).cell 8 rfl)
  clear hok a; intro a hok
  refine q_gob hok (c := (((((((a0.k == b.k) && (a0.epoch == b.epoch)) && (a0.req == b.req)) && (a0.serial == b.serial)) && (a0.flag == b.flag)) && ((a0.at_ : Int) == (b.at_ : Int))) && ((a0.last : Int) == (b.last : Int))) && (a0.n == b.n)) rfl rfl rfl rfl (by decide) rfl (by decide) rfl (fun _ => fun _ _ => Ob_c TB_Refs2 rfl) ?_; clear hok a; intro a hok
  refine q_and hok (i := 54) rfl rfl rfl rfl rfl rfl rfl (by decide) rfl rfl ?_; clear hok a; intro a hok
  refine q_runk TB_Refs2 hok 1 rfl rfl ?_; clear hok a; intro a hok
  refine q_gob hok (c := ((((((((a0.k == b.k) && (a0.epoch == b.epoch)) && (a0.req == b.req)) && (a0.serial == b.serial)) && (a0.flag == b.flag)) && ((a0.at_ : Int) == (b.at_ : Int))) && ((a0.last : Int) == (b.last : Int))) && (a0.n == b.n)) && (a0.m == b.m)) rfl rfl rfl rfl (by decide) rfl (by decide) rfl (fun _ => fun _ _ => Ob_c TB_Refs2 rfl) ?_; clear hok a; intro a hok
  refine q_gob hok (c := ((((((((a0.k == b.k) && (a0.epoch == b.epoch)) && (a0.req == b.req)) && (a0.serial == b.serial)) && (a0.flag == b.flag)) && ((a0.at_ : Int) == (b.at_ : Int))) && ((a0.last : Int) == (b.last : Int))) && (a0.n == b.n)) && (a0.m == b.m)) (v := .int .i64 a0.p) rfl rfl rfl rfl (by decide) rfl (by decide) rfl (fun hg17 => ?_) ?_
  · replace hg17 := And.intro (And.intro (And.intro (And.intro (And.intro (And.intro (And.intro (And.intro (eq_of_beq (andT1 (andT1 (andT1 (andT1 (andT1 (andT1 (andT1 (andT1 hg17))))))))) (eq_of_beq (andT2 (andT1 (andT1 (andT1 (andT1 (andT1 (andT1 (andT1 hg17)))))))))) (eq_of_beq (andT2 (andT1 (andT1 (andT1 (andT1 (andT1 (andT1 hg17))))))))) (eq_of_beq (andT2 (andT1 (andT1 (andT1 (andT1 (andT1 hg17)))))))) ((andT2 (andT1 (andT1 (andT1 (andT1 hg17))))))) (eq_of_beq (andT2 (andT1 (andT1 (andT1 hg17)))))) (eq_of_beq (andT2 (andT1 (andT1 hg17))))) (eq_of_beq (andT2 (andT1 hg17)))) (eq_of_beq (andT2 hg17))
    exact fun _ hw => Ob_load TB_Refs2 rfl rfl rfl ((X1.below hw).cell 9 rfl)
  clear hok a; intro a hok
  refine q_gob hok (c := ((((((((a0.k == b.k) && (a0.epoch == b.epoch)) && (a0.req == b.req)) && (a0.serial == b.serial)) && (a0.flag == b.flag)) && ((a0.at_ : Int) == (b.at_ : Int))) && ((a0.last : Int) == (b.last : Int))) && (a0.n == b.n)) && (a0.m == b.m)) rfl rfl rfl rfl (by decide) rfl (by decide) rfl (fun _ => fun _ _ => Ob_c TB_Refs2 rfl) ?_; clear hok a; intro a hok
  refine q_gob hok (c := ((((((((a0.k == b.k) && (a0.epoch == b.epoch)) && (a0.req == b.req)) && (a0.serial == b.serial)) && (a0.flag == b.flag)) && ((a0.at_ : Int) == (b.at_ : Int))) && ((a0.last : Int) == (b.last : Int))) && (a0.n == b.n)) && (a0.m == b.m)) (v := .int .i64 b.p) rfl rfl rfl rfl (by decide) rfl (by decide) rfl (fun hg18 => ?_) ?_
  · replace hg18 := And.intro (And.intro (And.intro (And.intro (And.intro (And.intro (And.intro (And.intro (eq_of_beq (andT1 (andT1 (andT1 (andT1 (andT1 (andT1 (andT1 (andT1 hg18))))))))) (eq_of_beq (andT2 (andT1 (andT1 (andT1 (andT1 (andT1 (andT1 (andT1 hg18)))))))))) (eq_of_beq (andT2 (andT1 (andT1 (andT1 (andT1 (andT1 (andT1 hg18))))))))) (eq_of_beq (andT2 (andT1 (andT1 (andT1 (andT1 (andT1 hg18)))))))) ((andT2 (andT1 (andT1 (andT1 (andT1 hg18))))))) (eq_of_beq (andT2 (andT1 (andT1 (andT1 hg18)))))) (eq_of_beq (andT2 (andT1 (andT1 hg18))))) (eq_of_beq (andT2 (andT1 hg18)))) (eq_of_beq (andT2 hg18))
    exact fun _ hw => Ob_load TB_Refs2 rfl rfl rfl ((X2.below hw).cell 9 rfl)
  clear hok a; intro a hok
  refine q_gob hok (c := ((((((((a0.k == b.k) && (a0.epoch == b.epoch)) && (a0.req == b.req)) && (a0.serial == b.serial)) && (a0.flag == b.flag)) && ((a0.at_ : Int) == (b.at_ : Int))) && ((a0.last : Int) == (b.last : Int))) && (a0.n == b.n)) && (a0.m == b.m)) rfl rfl rfl rfl (by decide) rfl (by decide) rfl (fun _ => fun _ _ => Ob_c TB_Refs2 rfl) ?_; clear hok a; intro a hok
  refine q_and hok (i := 61) rfl rfl rfl rfl rfl rfl rfl (by decide) rfl rfl ?_; clear hok a; intro a hok
  refine q_runk TB_Refs2 hok 1 rfl rfl ?_; clear hok a; intro a hok
  refine q_gob hok (c := (((((((((a0.k == b.k) && (a0.epoch == b.epoch)) && (a0.req == b.req)) && (a0.serial == b.serial)) && (a0.flag == b.flag)) && ((a0.at_ : Int) == (b.at_ : Int))) && ((a0.last : Int) == (b.last : Int))) && (a0.n == b.n)) && (a0.m == b.m)) && (a0.p == b.p)) rfl rfl rfl rfl (by decide) rfl (by decide) rfl (fun _ => fun _ _ => Ob_c TB_Refs2 rfl) ?_; clear hok a; intro a hok
  refine q_gob hok (c := (((((((((a0.k == b.k) && (a0.epoch == b.epoch)) && (a0.req == b.req)) && (a0.serial == b.serial)) && (a0.flag == b.flag)) && ((a0.at_ : Int) == (b.at_ : Int))) && ((a0.last : Int) == (b.last : Int))) && (a0.n == b.n)) && (a0.m == b.m)) && (a0.p == b.p)) (v := .int .i64 a0.e) rfl rfl rfl rfl (by decide) rfl (by decide) rfl (fun hg19 => ?_) ?_
  · replace hg19 := And.intro (And.intro (And.intro (And.intro (And.intro (And.intro (And.intro (And.intro (And.intro (eq_of_beq (andT1 (andT1 (andT1 (andT1 (andT1 (andT1 (andT1 (andT1 (andT1 hg19)))))))))) (eq_of_beq (andT2 (andT1 (andT1 (andT1 (andT1 (andT1 (andT1 (andT1 (andT1 hg19))))))))))) (eq_of_beq (andT2 (andT1 (andT1 (andT1 (andT1 (andT1 (andT1 (andT1 hg19)))))))))) (eq_of_beq (andT2 (andT1 (andT1 (andT1 (andT1 (andT1 (andT1 hg19))))))))) ((andT2 (andT1 (andT1 (andT1 (andT1 (andT1 hg19)))))))) (eq_of_beq (andT2 (andT1 (andT1 (andT1 (andT1 hg19))))))) (eq_of_beq (andT2 (andT1 (andT1 (andT1 hg19)))))) (eq_of_beq (andT2 (andT1 (andT1 hg19))))) (eq_of_beq (andT2 (andT1 hg19)))) (eq_of_beq (andT2 hg19))
    exact fun _ hw => Ob_load TB_Refs2 rfl rfl rfl ((X1.below hw).cell 10 rfl)
  clear hok a; intro a hok
  refine q_gob hok (c := (((((((((a0.k == b.k) && (a0.epoch == b.epoch)) && (a0.req == b.req)) && (a0.serial == b.serial)) && (a0.flag == b.flag)) && ((a0.at_ : Int) == (b.at_ : Int))) && ((a0.last : Int) == (b.last : Int))) && (a0.n == b.n)) && (a0.m == b.m)) && (a0.p == b.p)) rfl rfl rfl rfl (by decide) rfl (by decide) rfl (fun _ => fun _ _ => Ob_c TB_Refs2 rfl) ?_; clear hok a; intro a hok
  refine q_gob hok (c := (((((((((a0.k == b.k) && (a0.epoch == b.epoch)) && (a0.req == b.req)) && (a0.serial == b.serial)) && (a0.flag == b.flag)) && ((a0.at_ : Int) == (b.at_ : Int))) && ((a0.last : Int) == (b.last : Int))) && (a0.n == b.n)) && (a0.m == b.m)) && (a0.p == b.p)) (v := .int .i64 b.e) rfl rfl rfl rfl (by decide) rfl (by decide) rfl (fun hg20 => ?_) ?_
  · replace hg20 := And.intro (And.intro (And.intro (And.intro (And.intro (And.intro (And.intro (And.intro (And.intro (eq_of_beq (andT1 (andT1 (andT1 (andT1 (andT1 (andT1 (andT1 (andT1 (andT1 hg20)))))))))) (eq_of_beq (andT2 (andT1 (andT1 (andT1 (andT1 (andT1 (andT1 (andT1 (andT1 hg20))))))))))) (eq_of_beq (andT2 (andT1 (andT1 (andT1 (andT1 (andT1 (andT1 (andT1 hg20)))))))))) (eq_of_beq (andT2 (andT1 (andT1 (andT1 (andT1 (andT1 (andT1 hg20))))))))) ((andT2 (andT1 (andT1 (andT1 (andT1 (andT1 hg20)))))))) (eq_of_beq (andT2 (andT1 (andT1 (andT1 (andT1 hg20))))))) (eq_of_beq (andT2 (andT1 (andT1 (andT1 hg20)))))) (eq_of_beq (andT2 (andT1 (andT1 hg20))))) (eq_of_beq (andT2 (andT1 hg20)))) (eq_of_beq (andT2 hg20))
    exact fun _ hw => Ob_load TB_Refs2 rfl rfl rfl ((X2.below hw).cell 10 rfl)
  clear hok a; intro a hok
  refine q_gob hok (c := (((((((((a0.k == b.k) && (a0.epoch == b.epoch)) && (a0.req == b.req)) && (a0.serial == b.serial)) && (a0.flag == b.flag)) && ((a0.at_ : Int) == (b.at_ : Int))) && ((a0.last : Int) == (b.last : Int))) && (a0.n == b.n)) && (a0.m == b.m)) && (a0.p == b.p)) rfl rfl rfl rfl (by decide) rfl (by decide) rfl (fun _ => fun _ _ => Ob_c TB_Refs2 rfl) ?_; clear hok a; intro a hok
  refine q_and hok (i := 68) rfl rfl rfl rfl rfl rfl rfl (by decide) rfl rfl ?_; clear hok a; intro a hok
  refine q_runk TB_Refs2 hok 1 rfl rfl ?_; clear hok a; intro a hok
  refine q_gob hok (c := ((((((((((a0.k == b.k) && (a0.epoch == b.epoch)) && (a0.req == b.req)) && (a0.serial == b.serial)) && (a0.flag == b.flag)) && ((a0.at_ : Int) == (b.at_ : Int))) && ((a0.last : Int) == (b.last : Int))) && (a0.n == b.n)) && (a0.m == b.m)) && (a0.p == b.p)) && (a0.e == b.e)) rfl rfl rfl rfl (by decide) rfl (by decide) rfl (fun _ => fun _ _ => Ob_c TB_Refs2 rfl) ?_; clear hok a; intro a hok
  refine q_gob hok (c := ((((((((((a0.k == b.k) && (a0.epoch == b.epoch)) && (a0.req == b.req)) && (a0.serial == b.serial)) && (a0.flag == b.flag)) && ((a0.at_ : Int) == (b.at_ : Int))) && ((a0.last : Int) == (b.last : Int))) && (a0.n == b.n)) && (a0.m == b.m)) && (a0.p == b.p)) && (a0.e == b.e)) (v := .string a0.key) rfl rfl rfl rfl (by decide) rfl (by decide) rfl (fun hg21 => ?_) ?_
  · replace hg21 := And.intro (And.intro (And.intro (And.intro (And.intro (And.intro (And.intro (And.intro (And.intro (And.intro (eq_of_beq (andT1 (andT1 (andT1 (andT1 (andT1 (andT1 (andT1 (andT1 (andT1 (andT1 hg21))))))))))) (eq_of_beq (andT2 (andT1 (andT1 (andT1 (andT1 (andT1 (andT1 (andT1 (andT1 (andT1 hg21)))))))))))) (eq_of_beq (andT2 (andT1 (andT1 (andT1 (andT1 (andT1 (andT1 (andT1 (andT1 hg21))))))))))) (eq_of_beq (andT2 (andT1 (andT1 (andT1 (andT1 (andT1 (andT1 (andT1 hg21)))))))))) ((andT2 (andT1 (andT1 (andT1 (andT1 (andT1 (andT1 hg21))))))))) (eq_of_beq (andT2 (andT1 (andT1 (andT1 (andT1 (andT1 hg21)))))))) (eq_of_beq (andT2 (andT1 (andT1 (andT1 (andT1 hg21))))))) (eq_of_beq (andT2 (andT1 (andT1 (andT1 hg21)))))) (eq_of_beq (andT2 (andT1 (andT1 hg21))))) (eq_of_beq (andT2 (andT1 hg21)))) (eq_of_beq (andT2 hg21))
    exact fun _ hw => Ob_load TB_Refs2 rfl rfl rfl ((X1.below hw).cell 11 rfl)
  clear hok a; intro a hok
  refine q_gob hok (c := ((((((((((a0.k == b.k) && (a0.epoch == b.epoch)) && (a0.req == b.req)) && (a0.serial == b.serial)) && (a0.flag == b.flag)) && ((a0.at_ : Int) == (b.at_ : Int))) && ((a0.last : Int) == (b.last : Int))) && (a0.n == b.n)) && (a0.m == b.m)) && (a0.p == b.p)) && (a0.e == b.e)) rfl rfl rfl rfl (by decide) rfl (by decide) rfl (fun _ => fun _ _ => Ob_c TB_Refs2 rfl) ?_; clear hok a; intro a hok
  refine q_gob hok (c := ((((((((((a0.k == b.k) && (a0.epoch == b.epoch)) && (a0.req == b.req)) && (a0.serial == b.serial)) && (a0.flag == b.flag)) && ((a0.at_ : Int) == (b.at_ : Int))) && ((a0.last : Int) == (b.last : Int))) && (a0.n == b.n)) && (a0.m == b.m)) && (a0.p == b.p)) && (a0.e == b.e)) (v := .string b.key) rfl rfl rfl rfl (by decide) rfl (by decide) rfl (fun hg22 => ?_) ?_
  · replace hg22 := And.intro (And.intro (And.intro (And.intro (And.intro (And.intro (And.intro (And.intro (And.intro (And.intro (eq_of_beq (andT1 (andT1 (andT1 (andT1 (andT1 (andT1 (andT1 (andT1 (andT1 (andT1 hg22))))))))))) (eq_of_beq (andT2 (andT1 (andT1 (andT1 (andT1 (andT1 (andT1 (andT1 (andT1 (andT1 hg22)))))))))))) (eq_of_beq (andT2 (andT1 (andT1 (andT1 (andT1 (andT1 (andT1 (andT1 (andT1 hg22))))))))))) (eq_of_beq (andT2 (andT1 (andT1 (andT1 (andT1 (andT1 (andT1 (andT1 hg22)))))))))) ((andT2 (andT1 (andT1 (andT1 (andT1 (andT1 (andT1 hg22))))))))) (eq_of_beq (andT2 (andT1 (andT1 (andT1 (andT1 (andT1 hg22)))))))) (eq_of_beq (andT2 (andT1 (andT1 (andT1 (andT1 hg22))))))) (eq_of_beq (andT2 (andT1 (andT1 (andT1 hg22)))))) (eq_of_beq (andT2 (andT1 (andT1 hg22))))) (eq_of_beq (andT2 (andT1 hg22)))) (eq_of_beq (andT2 hg22))
    exact fun _ hw => Ob_load TB_Refs2 rfl rfl rfl ((X2.below hw).cell 11 rfl)
  clear hok a; intro a hok
  refine q_gob hok (c := ((((((((((a0.k == b.k) && (a0.epoch == b.epoch)) && (a0.req == b.req)) && (a0.serial == b.serial)) && (a0.flag == b.flag)) && ((a0.at_ : Int) == (b.at_ : Int))) && ((a0.last : Int) == (b.last : Int))) && (a0.n == b.n)) && (a0.m == b.m)) && (a0.p == b.p)) && (a0.e == b.e)) rfl rfl rfl rfl (by decide) rfl (by decide) rfl (fun _ => fun _ _ => Ob_c TB_Refs2 rfl) ?_; clear hok a; intro a hok
  refine q_and hok (i := 75) rfl rfl rfl rfl rfl rfl rfl (by decide) rfl rfl ?_; clear hok a; intro a hok
  refine q_runk TB_Refs2 hok 1 rfl rfl ?_; clear hok a; intro a hok
  refine q_gob hok (c := (((((((((((a0.k == b.k) && (a0.epoch == b.epoch)) && (a0.req == b.req)) && (a0.serial == b.serial)) && (a0.flag == b.flag)) && ((a0.at_ : Int) == (b.at_ : Int))) && ((a0.last : Int) == (b.last : Int))) && (a0.n == b.n)) && (a0.m == b.m)) && (a0.p == b.p)) && (a0.e == b.e)) && (seqB a0.key b.key)) rfl rfl rfl rfl (by decide) rfl (by decide) rfl (fun _ => fun _ _ => Ob_c TB_Refs2 rfl) ?_; clear hok a; intro a hok
  refine q_gob hok (c := (((((((((((a0.k == b.k) && (a0.epoch == b.epoch)) && (a0.req == b.req)) && (a0.serial == b.serial)) && (a0.flag == b.flag)) && ((a0.at_ : Int) == (b.at_ : Int))) && ((a0.last : Int) == (b.last : Int))) && (a0.n == b.n)) && (a0.m == b.m)) && (a0.p == b.p)) && (a0.e == b.e)) && (seqB a0.key b.key)) (v := .string a0.to_) rfl rfl rfl rfl (by decide) rfl (by decide) rfl (fun hg23 => ?_) ?_
  · replace hg23 := And.intro (And.intro (And.intro (And.intro (And.intro (And.intro (And.intro (And.intro (And.intro (And.intro (And.intro (eq_of_beq (andT1 (andT1 (andT1 (andT1 (andT1 (andT1 (andT1 (andT1 (andT1 (andT1 (andT1 hg23)))))))))))) (eq_of_beq (andT2 (andT1 (andT1 (andT1 (andT1 (andT1 (andT1 (andT1 (andT1 (andT1 (andT1 hg23))))))))))))) (eq_of_beq (andT2 (andT1 (andT1 (andT1 (andT1 (andT1 (andT1 (andT1 (andT1 (andT1 hg23)))))))))))) (eq_of_beq (andT2 (andT1 (andT1 (andT1 (andT1 (andT1 (andT1 (andT1 (andT1 hg23))))))))))) ((andT2 (andT1 (andT1 (andT1 (andT1 (andT1 (andT1 (andT1 hg23)))))))))) (eq_of_beq (andT2 (andT1 (andT1 (andT1 (andT1 (andT1 (andT1 hg23))))))))) (eq_of_beq (andT2 (andT1 (andT1 (andT1 (andT1 (andT1 hg23)))))))) (eq_of_beq (andT2 (andT1 (andT1 (andT1 (andT1 hg23))))))) (eq_of_beq (andT2 (andT1 (andT1 (andT1 hg23)))))) (eq_of_beq (andT2 (andT1 (andT1 hg23))))) (eq_of_beq (andT2 (andT1 hg23)))) (seqB_iff.1 (andT2 hg23))
    exact fun _ hw => Ob_load TB_Refs2 rfl rfl rfl ((X1.below hw).cell 12 rfl)
  clear hok a; intro a hok
  refine q_gob hok (c := (((((((((((a0.k == b.k) && (a0.epoch == b.epoch)) && (a0.req == b.req)) && (a0.serial == b.serial)) && (a0.flag == b.flag)) && ((a0.at_ : Int) == (b.at_ : Int))) && ((a0.last : Int) == (b.last : Int))) && (a0.n == b.n)) && (a0.m == b.m)) && (a0.p == b.p)) && (a0.e == b.e)) && (seqB a0.key b.key)) rfl rfl rfl rfl (by decide) rfl (by decide) rfl (fun _ => fun _ _ => Ob_c TB_Refs2 rfl) ?_; clear hok a; intro a hok
  refine q_gob hok (c := (((((((((((a0.k == b.k) && (a0.epoch == b.epoch)) && (a0.req == b.req)) && (a0.serial == b.serial)) && (a0.flag == b.flag)) && ((a0.at_ : Int) == (b.at_ : Int))) && ((a0.last : Int) == (b.last : Int))) && (a0.n == b.n)) && (a0.m == b.m)) && (a0.p == b.p)) && (a0.e == b.e)) && (seqB a0.key b.key)) (v := .string b.to_) rfl rfl rfl rfl (by decide) rfl (by decide) rfl (fun hg24 => ?_) ?_
  · replace hg24 := And.intro (And.intro (And.intro (And.intro (And.intro (And.intro (And.intro (And.intro (And.intro (And.intro (And.intro (eq_of_beq (andT1 (andT1 (andT1 (andT1 (andT1 (andT1 (andT1 (andT1 (andT1 (andT1 (andT1 hg24)))))))))))) (eq_of_beq (andT2 (andT1 (andT1 (andT1 (andT1 (andT1 (andT1 (andT1 (andT1 (andT1 (andT1 hg24))))))))))))) (eq_of_beq (andT2 (andT1 (andT1 (andT1 (andT1 (andT1 (andT1 (andT1 (andT1 (andT1 hg24)))))))))))) (eq_of_beq (andT2 (andT1 (andT1 (andT1 (andT1 (andT1 (andT1 (andT1 (andT1 hg24))))))))))) ((andT2 (andT1 (andT1 (andT1 (andT1 (andT1 (andT1 (andT1 hg24)))))))))) (eq_of_beq (andT2 (andT1 (andT1 (andT1 (andT1 (andT1 (andT1 hg24))))))))) (eq_of_beq (andT2 (andT1 (andT1 (andT1 (andT1 (andT1 hg24)))))))) (eq_of_beq (andT2 (andT1 (andT1 (andT1 (andT1 hg24))))))) (eq_of_beq (andT2 (andT1 (andT1 (andT1 hg24)))))) (eq_of_beq (andT2 (andT1 (andT1 hg24))))) (eq_of_beq (andT2 (andT1 hg24)))) (seqB_iff.1 (andT2 hg24))
    exact fun _ hw => Ob_load TB_Refs2 rfl rfl rfl ((X2.below hw).cell 12 rfl)
  clear hok a; intro a hok
  refine q_gob hok (c := (((((((((((a0.k == b.k) && (a0.epoch == b.epoch)) && (a0.req == b.req)) && (a0.serial == b.serial)) && (a0.flag == b.flag)) && ((a0.at_ : Int) == (b.at_ : Int))) && ((a0.last : Int) == (b.last : Int))) && (a0.n == b.n)) && (a0.m == b.m)) && (a0.p == b.p)) && (a0.e == b.e)) && (seqB a0.key b.key)) rfl rfl rfl rfl (by decide) rfl (by decide) rfl (fun _ => fun _ _ => Ob_c TB_Refs2 rfl) ?_; clear hok a; intro a hok
  refine q_and hok (i := 82) rfl rfl rfl rfl rfl rfl rfl (by decide) rfl rfl ?_; clear hok a; intro a hok
  refine q_runk TB_Refs2 hok 1 rfl rfl ?_; clear hok a; intro a hok
  refine q_gob hok (c := ((((((((((((a0.k == b.k) && (a0.epoch == b.epoch)) && (a0.req == b.req)) && (a0.serial == b.serial)) && (a0.flag == b.flag)) && ((a0.at_ : Int) == (b.at_ : Int))) && ((a0.last : Int) == (b.last : Int))) && (a0.n == b.n)) && (a0.m == b.m)) && (a0.p == b.p)) && (a0.e == b.e)) && (seqB a0.key b.key)) && (seqB a0.to_ b.to_)) rfl rfl rfl rfl (by decide) rfl (by decide) rfl (fun _ => fun _ _ => Ob_c TB_Refs2 rfl) ?_; clear hok a; intro a hok
  refine q_gob hok (c := ((((((((((((a0.k == b.k) && (a0.epoch == b.epoch)) && (a0.req == b.req)) && (a0.serial == b.serial)) && (a0.flag == b.flag)) && ((a0.at_ : Int) == (b.at_ : Int))) && ((a0.last : Int) == (b.last : Int))) && (a0.n == b.n)) && (a0.m == b.m)) && (a0.p == b.p)) && (a0.e == b.e)) && (seqB a0.key b.key)) && (seqB a0.to_ b.to_)) (v := .agg #[.int .i64 a0.conf.epoch, .slice ao_v0_a0 a0.conf.members.length cap_v0_a0, .int .u64 (a0.conf.floor : Int)]) rfl rfl rfl rfl (by decide) rfl (by decide) rfl (fun hg25 => ?_) ?_
  · replace hg25 := And.intro (And.intro (And.intro (And.intro (And.intro (And.intro (And.intro (And.intro (And.intro (And.intro (And.intro (And.intro (eq_of_beq (andT1 (andT1 (andT1 (andT1 (andT1 (andT1 (andT1 (andT1 (andT1 (andT1 (andT1 (andT1 hg25))))))))))))) (eq_of_beq (andT2 (andT1 (andT1 (andT1 (andT1 (andT1 (andT1 (andT1 (andT1 (andT1 (andT1 (andT1 hg25)))))))))))))) (eq_of_beq (andT2 (andT1 (andT1 (andT1 (andT1 (andT1 (andT1 (andT1 (andT1 (andT1 (andT1 hg25))))))))))))) (eq_of_beq (andT2 (andT1 (andT1 (andT1 (andT1 (andT1 (andT1 (andT1 (andT1 (andT1 hg25)))))))))))) ((andT2 (andT1 (andT1 (andT1 (andT1 (andT1 (andT1 (andT1 (andT1 hg25))))))))))) (eq_of_beq (andT2 (andT1 (andT1 (andT1 (andT1 (andT1 (andT1 (andT1 hg25)))))))))) (eq_of_beq (andT2 (andT1 (andT1 (andT1 (andT1 (andT1 (andT1 hg25))))))))) (eq_of_beq (andT2 (andT1 (andT1 (andT1 (andT1 (andT1 hg25)))))))) (eq_of_beq (andT2 (andT1 (andT1 (andT1 (andT1 hg25))))))) (eq_of_beq (andT2 (andT1 (andT1 (andT1 hg25)))))) (eq_of_beq (andT2 (andT1 (andT1 hg25))))) (seqB_iff.1 (andT2 (andT1 hg25)))) (seqB_iff.1 (andT2 hg25))
    exact fun _ hw => Ob_loads TB_Refs2 (cs := [.int .i64 a0.conf.epoch, .slice ao_v0_a0 a0.conf.members.length cap_v0_a0, .int .u64 (a0.conf.floor : Int)]) rfl rfl rfl ((X1.below hw).part 13 rfl)
  clear hok a; intro a hok
  refine q_gob hok (c := ((((((((((((a0.k == b.k) && (a0.epoch == b.epoch)) && (a0.req == b.req)) && (a0.serial == b.serial)) && (a0.flag == b.flag)) && ((a0.at_ : Int) == (b.at_ : Int))) && ((a0.last : Int) == (b.last : Int))) && (a0.n == b.n)) && (a0.m == b.m)) && (a0.p == b.p)) && (a0.e == b.e)) && (seqB a0.key b.key)) && (seqB a0.to_ b.to_)) rfl rfl rfl rfl (by decide) rfl (by decide) rfl (fun _ => fun _ _ => Ob_c TB_Refs2 rfl) ?_; clear hok a; intro a hok
  refine q_gob hok (c := ((((((((((((a0.k == b.k) && (a0.epoch == b.epoch)) && (a0.req == b.req)) && (a0.serial == b.serial)) && (a0.flag == b.flag)) && ((a0.at_ : Int) == (b.at_ : Int))) && ((a0.last : Int) == (b.last : Int))) && (a0.n == b.n)) && (a0.m == b.m)) && (a0.p == b.p)) && (a0.e == b.e)) && (seqB a0.key b.key)) && (seqB a0.to_ b.to_)) (v := .agg #[.int .i64 b.conf.epoch, .slice ao_v0_b b.conf.members.length cap_v0_b, .int .u64 (b.conf.floor : Int)]) rfl rfl rfl rfl (by decide) rfl (by decide) rfl (fun hg26 => ?_) ?_
  · replace hg26 := And.intro (And.intro (And.intro (And.intro (And.intro (And.intro (And.intro (And.intro (And.intro (And.intro (And.intro (And.intro (eq_of_beq (andT1 (andT1 (andT1 (andT1 (andT1 (andT1 (andT1 (andT1 (andT1 (andT1 (andT1 (andT1 hg26))))))))))))) (eq_of_beq (andT2 (andT1 (andT1 (andT1 (andT1 (andT1 (andT1 (andT1 (andT1 (andT1 (andT1 (andT1 hg26)))))))))))))) (eq_of_beq (andT2 (andT1 (andT1 (andT1 (andT1 (andT1 (andT1 (andT1 (andT1 (andT1 (andT1 hg26))))))))))))) (eq_of_beq (andT2 (andT1 (andT1 (andT1 (andT1 (andT1 (andT1 (andT1 (andT1 (andT1 hg26)))))))))))) ((andT2 (andT1 (andT1 (andT1 (andT1 (andT1 (andT1 (andT1 (andT1 hg26))))))))))) (eq_of_beq (andT2 (andT1 (andT1 (andT1 (andT1 (andT1 (andT1 (andT1 hg26)))))))))) (eq_of_beq (andT2 (andT1 (andT1 (andT1 (andT1 (andT1 (andT1 hg26))))))))) (eq_of_beq (andT2 (andT1 (andT1 (andT1 (andT1 (andT1 hg26)))))))) (eq_of_beq (andT2 (andT1 (andT1 (andT1 (andT1 hg26))))))) (eq_of_beq (andT2 (andT1 (andT1 (andT1 hg26)))))) (eq_of_beq (andT2 (andT1 (andT1 hg26))))) (seqB_iff.1 (andT2 (andT1 hg26)))) (seqB_iff.1 (andT2 hg26))
    exact fun _ hw => Ob_loads TB_Refs2 (cs := [.int .i64 b.conf.epoch, .slice ao_v0_b b.conf.members.length cap_v0_b, .int .u64 (b.conf.floor : Int)]) rfl rfl rfl ((X2.below hw).part 13 rfl)
  clear hok a; intro a hok
  refine q_gcall hok (caps := #[]) (b := ((((((((((((a0.k == b.k) && (a0.epoch == b.epoch)) && (a0.req == b.req)) && (a0.serial == b.serial)) && (a0.flag == b.flag)) && ((a0.at_ : Int) == (b.at_ : Int))) && ((a0.last : Int) == (b.last : Int))) && (a0.n == b.n)) && (a0.m == b.m)) && (a0.p == b.p)) && (a0.e == b.e)) && (seqB a0.key b.key)) && (seqB a0.to_ b.to_)) (v := .bool (sameC (⟨a0.conf.epoch, a0.conf.members, a0.conf.floor⟩ : DConf) (⟨b.conf.epoch, b.conf.members, b.conf.floor⟩ : DConf))) fn_40_Refs2 rfl rfl rfl rfl rfl rfl rfl (by decide) rfl (by decide) rfl rfl (fun hg27 => ?_) ?_
  · replace hg27 := And.intro (And.intro (And.intro (And.intro (And.intro (And.intro (And.intro (And.intro (And.intro (And.intro (And.intro (And.intro (eq_of_beq (andT1 (andT1 (andT1 (andT1 (andT1 (andT1 (andT1 (andT1 (andT1 (andT1 (andT1 (andT1 hg27))))))))))))) (eq_of_beq (andT2 (andT1 (andT1 (andT1 (andT1 (andT1 (andT1 (andT1 (andT1 (andT1 (andT1 (andT1 hg27)))))))))))))) (eq_of_beq (andT2 (andT1 (andT1 (andT1 (andT1 (andT1 (andT1 (andT1 (andT1 (andT1 (andT1 hg27))))))))))))) (eq_of_beq (andT2 (andT1 (andT1 (andT1 (andT1 (andT1 (andT1 (andT1 (andT1 (andT1 hg27)))))))))))) ((andT2 (andT1 (andT1 (andT1 (andT1 (andT1 (andT1 (andT1 (andT1 hg27))))))))))) (eq_of_beq (andT2 (andT1 (andT1 (andT1 (andT1 (andT1 (andT1 (andT1 hg27)))))))))) (eq_of_beq (andT2 (andT1 (andT1 (andT1 (andT1 (andT1 (andT1 hg27))))))))) (eq_of_beq (andT2 (andT1 (andT1 (andT1 (andT1 (andT1 hg27)))))))) (eq_of_beq (andT2 (andT1 (andT1 (andT1 (andT1 hg27))))))) (eq_of_beq (andT2 (andT1 (andT1 (andT1 hg27)))))) (eq_of_beq (andT2 (andT1 (andT1 hg27))))) (seqB_iff.1 (andT2 (andT1 hg27)))) (seqB_iff.1 (andT2 hg27))
    exact fun _ hw => c_ref07_Same (⟨a0.conf.epoch, a0.conf.members, a0.conf.floor⟩ : DConf) _ (⟨b.conf.epoch, b.conf.members, b.conf.floor⟩ : DConf) _ _ (L0_a0.below hw) ⟨h_a0.2.2.2.2.2.2.2.2.2.2.2.2.1.1, h_a0.2.2.2.2.2.2.2.2.2.2.2.2.1.2⟩ (L0_b.below hw) ⟨h_b.2.2.2.2.2.2.2.2.2.2.2.2.1.1, h_b.2.2.2.2.2.2.2.2.2.2.2.2.1.2⟩
  clear hok a; intro a hok
  refine q_and hok (i := 89) rfl rfl rfl rfl rfl rfl rfl (by decide) rfl rfl ?_; clear hok a; intro a hok
  refine q_runk TB_Refs2 hok 1 rfl rfl ?_; clear hok a; intro a hok
  refine q_gob hok (c := (((((((((((((a0.k == b.k) && (a0.epoch == b.epoch)) && (a0.req == b.req)) && (a0.serial == b.serial)) && (a0.flag == b.flag)) && ((a0.at_ : Int) == (b.at_ : Int))) && ((a0.last : Int) == (b.last : Int))) && (a0.n == b.n)) && (a0.m == b.m)) && (a0.p == b.p)) && (a0.e == b.e)) && (seqB a0.key b.key)) && (seqB a0.to_ b.to_)) && (sameC (⟨a0.conf.epoch, a0.conf.members, a0.conf.floor⟩ : DConf) (⟨b.conf.epoch, b.conf.members, b.conf.floor⟩ : DConf))) rfl rfl rfl rfl (by decide) rfl (by decide) rfl (fun _ => fun _ _ => Ob_c TB_Refs2 rfl) ?_; clear hok a; intro a hok
  refine q_gob hok (c := (((((((((((((a0.k == b.k) && (a0.epoch == b.epoch)) && (a0.req == b.req)) && (a0.serial == b.serial)) && (a0.flag == b.flag)) && ((a0.at_ : Int) == (b.at_ : Int))) && ((a0.last : Int) == (b.last : Int))) && (a0.n == b.n)) && (a0.m == b.m)) && (a0.p == b.p)) && (a0.e == b.e)) && (seqB a0.key b.key)) && (seqB a0.to_ b.to_)) && (sameC (⟨a0.conf.epoch, a0.conf.members, a0.conf.floor⟩ : DConf) (⟨b.conf.epoch, b.conf.members, b.conf.floor⟩ : DConf))) (v := .agg #[.int .i64 a0.batch.client, .int .i64 a0.batch.req, .slice ao_v1_a0 a0.batch.ops.length cap_v1_a0]) rfl rfl rfl rfl (by decide) rfl (by decide) rfl (fun hg28 => ?_) ?_
  · replace hg28 := And.intro (And.intro (And.intro (And.intro (And.intro (And.intro (And.intro (And.intro (And.intro (And.intro (And.intro (And.intro (And.intro (eq_of_beq (andT1 (andT1 (andT1 (andT1 (andT1 (andT1 (andT1 (andT1 (andT1 (andT1 (andT1 (andT1 (andT1 hg28)))))))))))))) (eq_of_beq (andT2 (andT1 (andT1 (andT1 (andT1 (andT1 (andT1 (andT1 (andT1 (andT1 (andT1 (andT1 (andT1 hg28))))))))))))))) (eq_of_beq (andT2 (andT1 (andT1 (andT1 (andT1 (andT1 (andT1 (andT1 (andT1 (andT1 (andT1 (andT1 hg28)))))))))))))) (eq_of_beq (andT2 (andT1 (andT1 (andT1 (andT1 (andT1 (andT1 (andT1 (andT1 (andT1 (andT1 hg28))))))))))))) ((andT2 (andT1 (andT1 (andT1 (andT1 (andT1 (andT1 (andT1 (andT1 (andT1 hg28)))))))))))) (eq_of_beq (andT2 (andT1 (andT1 (andT1 (andT1 (andT1 (andT1 (andT1 (andT1 hg28))))))))))) (eq_of_beq (andT2 (andT1 (andT1 (andT1 (andT1 (andT1 (andT1 (andT1 hg28)))))))))) (eq_of_beq (andT2 (andT1 (andT1 (andT1 (andT1 (andT1 (andT1 hg28))))))))) (eq_of_beq (andT2 (andT1 (andT1 (andT1 (andT1 (andT1 hg28)))))))) (eq_of_beq (andT2 (andT1 (andT1 (andT1 (andT1 hg28))))))) (eq_of_beq (andT2 (andT1 (andT1 (andT1 hg28)))))) (seqB_iff.1 (andT2 (andT1 (andT1 hg28))))) (seqB_iff.1 (andT2 (andT1 hg28)))) ((andT2 hg28))
    exact fun _ hw => Ob_loads TB_Refs2 (cs := [.int .i64 a0.batch.client, .int .i64 a0.batch.req, .slice ao_v1_a0 a0.batch.ops.length cap_v1_a0]) rfl rfl rfl ((X1.below hw).part 16 rfl)
  clear hok a; intro a hok
  refine q_gob hok (c := (((((((((((((a0.k == b.k) && (a0.epoch == b.epoch)) && (a0.req == b.req)) && (a0.serial == b.serial)) && (a0.flag == b.flag)) && ((a0.at_ : Int) == (b.at_ : Int))) && ((a0.last : Int) == (b.last : Int))) && (a0.n == b.n)) && (a0.m == b.m)) && (a0.p == b.p)) && (a0.e == b.e)) && (seqB a0.key b.key)) && (seqB a0.to_ b.to_)) && (sameC (⟨a0.conf.epoch, a0.conf.members, a0.conf.floor⟩ : DConf) (⟨b.conf.epoch, b.conf.members, b.conf.floor⟩ : DConf))) rfl rfl rfl rfl (by decide) rfl (by decide) rfl (fun _ => fun _ _ => Ob_c TB_Refs2 rfl) ?_; clear hok a; intro a hok
  refine q_gob hok (c := (((((((((((((a0.k == b.k) && (a0.epoch == b.epoch)) && (a0.req == b.req)) && (a0.serial == b.serial)) && (a0.flag == b.flag)) && ((a0.at_ : Int) == (b.at_ : Int))) && ((a0.last : Int) == (b.last : Int))) && (a0.n == b.n)) && (a0.m == b.m)) && (a0.p == b.p)) && (a0.e == b.e)) && (seqB a0.key b.key)) && (seqB a0.to_ b.to_)) && (sameC (⟨a0.conf.epoch, a0.conf.members, a0.conf.floor⟩ : DConf) (⟨b.conf.epoch, b.conf.members, b.conf.floor⟩ : DConf))) (v := .agg #[.int .i64 b.batch.client, .int .i64 b.batch.req, .slice ao_v1_b b.batch.ops.length cap_v1_b]) rfl rfl rfl rfl (by decide) rfl (by decide) rfl (fun hg29 => ?_) ?_
  · replace hg29 := And.intro (And.intro (And.intro (And.intro (And.intro (And.intro (And.intro (And.intro (And.intro (And.intro (And.intro (And.intro (And.intro (eq_of_beq (andT1 (andT1 (andT1 (andT1 (andT1 (andT1 (andT1 (andT1 (andT1 (andT1 (andT1 (andT1 (andT1 hg29)))))))))))))) (eq_of_beq (andT2 (andT1 (andT1 (andT1 (andT1 (andT1 (andT1 (andT1 (andT1 (andT1 (andT1 (andT1 (andT1 hg29))))))))))))))) (eq_of_beq (andT2 (andT1 (andT1 (andT1 (andT1 (andT1 (andT1 (andT1 (andT1 (andT1 (andT1 (andT1 hg29)))))))))))))) (eq_of_beq (andT2 (andT1 (andT1 (andT1 (andT1 (andT1 (andT1 (andT1 (andT1 (andT1 (andT1 hg29))))))))))))) ((andT2 (andT1 (andT1 (andT1 (andT1 (andT1 (andT1 (andT1 (andT1 (andT1 hg29)))))))))))) (eq_of_beq (andT2 (andT1 (andT1 (andT1 (andT1 (andT1 (andT1 (andT1 (andT1 hg29))))))))))) (eq_of_beq (andT2 (andT1 (andT1 (andT1 (andT1 (andT1 (andT1 (andT1 hg29)))))))))) (eq_of_beq (andT2 (andT1 (andT1 (andT1 (andT1 (andT1 (andT1 hg29))))))))) (eq_of_beq (andT2 (andT1 (andT1 (andT1 (andT1 (andT1 hg29)))))))) (eq_of_beq (andT2 (andT1 (andT1 (andT1 (andT1 hg29))))))) (eq_of_beq (andT2 (andT1 (andT1 (andT1 hg29)))))) (seqB_iff.1 (andT2 (andT1 (andT1 hg29))))) (seqB_iff.1 (andT2 (andT1 hg29)))) ((andT2 hg29))
    exact fun _ hw => Ob_loads TB_Refs2 (cs := [.int .i64 b.batch.client, .int .i64 b.batch.req, .slice ao_v1_b b.batch.ops.length cap_v1_b]) rfl rfl rfl ((X2.below hw).part 16 rfl)
  clear hok a; intro a hok
  refine q_gcall hok (caps := #[]) (b := (((((((((((((a0.k == b.k) && (a0.epoch == b.epoch)) && (a0.req == b.req)) && (a0.serial == b.serial)) && (a0.flag == b.flag)) && ((a0.at_ : Int) == (b.at_ : Int))) && ((a0.last : Int) == (b.last : Int))) && (a0.n == b.n)) && (a0.m == b.m)) && (a0.p == b.p)) && (a0.e == b.e)) && (seqB a0.key b.key)) && (seqB a0.to_ b.to_)) && (sameC (⟨a0.conf.epoch, a0.conf.members, a0.conf.floor⟩ : DConf) (⟨b.conf.epoch, b.conf.members, b.conf.floor⟩ : DConf))) (v := .bool (sameB (⟨a0.batch.client, a0.batch.req, a0.batch.ops⟩ : DBatch) (⟨b.batch.client, b.batch.req, b.batch.ops⟩ : DBatch))) fn_41_Refs2 rfl rfl rfl rfl rfl rfl rfl (by decide) rfl (by decide) rfl rfl (fun hg30 => ?_) ?_
  · replace hg30 := And.intro (And.intro (And.intro (And.intro (And.intro (And.intro (And.intro (And.intro (And.intro (And.intro (And.intro (And.intro (And.intro (eq_of_beq (andT1 (andT1 (andT1 (andT1 (andT1 (andT1 (andT1 (andT1 (andT1 (andT1 (andT1 (andT1 (andT1 hg30)))))))))))))) (eq_of_beq (andT2 (andT1 (andT1 (andT1 (andT1 (andT1 (andT1 (andT1 (andT1 (andT1 (andT1 (andT1 (andT1 hg30))))))))))))))) (eq_of_beq (andT2 (andT1 (andT1 (andT1 (andT1 (andT1 (andT1 (andT1 (andT1 (andT1 (andT1 (andT1 hg30)))))))))))))) (eq_of_beq (andT2 (andT1 (andT1 (andT1 (andT1 (andT1 (andT1 (andT1 (andT1 (andT1 (andT1 hg30))))))))))))) ((andT2 (andT1 (andT1 (andT1 (andT1 (andT1 (andT1 (andT1 (andT1 (andT1 hg30)))))))))))) (eq_of_beq (andT2 (andT1 (andT1 (andT1 (andT1 (andT1 (andT1 (andT1 (andT1 hg30))))))))))) (eq_of_beq (andT2 (andT1 (andT1 (andT1 (andT1 (andT1 (andT1 (andT1 hg30)))))))))) (eq_of_beq (andT2 (andT1 (andT1 (andT1 (andT1 (andT1 (andT1 hg30))))))))) (eq_of_beq (andT2 (andT1 (andT1 (andT1 (andT1 (andT1 hg30)))))))) (eq_of_beq (andT2 (andT1 (andT1 (andT1 (andT1 hg30))))))) (eq_of_beq (andT2 (andT1 (andT1 (andT1 hg30)))))) (seqB_iff.1 (andT2 (andT1 (andT1 hg30))))) (seqB_iff.1 (andT2 (andT1 hg30)))) ((andT2 hg30))
    exact fun _ hw => c_ref06_Same (⟨a0.batch.client, a0.batch.req, a0.batch.ops⟩ : DBatch) _ (⟨b.batch.client, b.batch.req, b.batch.ops⟩ : DBatch) _ _ (L1_a0.below hw) ⟨h_a0.2.2.2.2.2.2.2.2.2.2.2.2.2.1, h_a0.2.2.2.2.2.2.2.2.2.2.2.2.2.2⟩ (L1_b.below hw) ⟨h_b.2.2.2.2.2.2.2.2.2.2.2.2.2.1, h_b.2.2.2.2.2.2.2.2.2.2.2.2.2.2⟩
  clear hok a; intro a hok
  refine q_and hok (i := 96) rfl rfl rfl rfl rfl rfl rfl (by decide) rfl rfl ?_; clear hok a; intro a hok
  refine q_runk TB_Refs2 hok 1 rfl rfl ?_; clear hok a; intro a hok
  refine q_gob hok (c := ((((((((((((((a0.k == b.k) && (a0.epoch == b.epoch)) && (a0.req == b.req)) && (a0.serial == b.serial)) && (a0.flag == b.flag)) && ((a0.at_ : Int) == (b.at_ : Int))) && ((a0.last : Int) == (b.last : Int))) && (a0.n == b.n)) && (a0.m == b.m)) && (a0.p == b.p)) && (a0.e == b.e)) && (seqB a0.key b.key)) && (seqB a0.to_ b.to_)) && (sameC (⟨a0.conf.epoch, a0.conf.members, a0.conf.floor⟩ : DConf) (⟨b.conf.epoch, b.conf.members, b.conf.floor⟩ : DConf))) && (sameB (⟨a0.batch.client, a0.batch.req, a0.batch.ops⟩ : DBatch) (⟨b.batch.client, b.batch.req, b.batch.ops⟩ : DBatch))) rfl rfl rfl rfl (by decide) rfl (by decide) rfl (fun _ => fun _ _ => Ob_c TB_Refs2 rfl) ?_; clear hok a; intro a hok
  refine q_gob hok (c := ((((((((((((((a0.k == b.k) && (a0.epoch == b.epoch)) && (a0.req == b.req)) && (a0.serial == b.serial)) && (a0.flag == b.flag)) && ((a0.at_ : Int) == (b.at_ : Int))) && ((a0.last : Int) == (b.last : Int))) && (a0.n == b.n)) && (a0.m == b.m)) && (a0.p == b.p)) && (a0.e == b.e)) && (seqB a0.key b.key)) && (seqB a0.to_ b.to_)) && (sameC (⟨a0.conf.epoch, a0.conf.members, a0.conf.floor⟩ : DConf) (⟨b.conf.epoch, b.conf.members, b.conf.floor⟩ : DConf))) && (sameB (⟨a0.batch.client, a0.batch.req, a0.batch.ops⟩ : DBatch) (⟨b.batch.client, b.batch.req, b.batch.ops⟩ : DBatch))) (v := .slice ao_v2_a0 a0.entries.length cap_v2_a0) rfl rfl rfl rfl (by decide) rfl (by decide) rfl (fun hg31 => ?_) ?_
  · replace hg31 := And.intro (And.intro (And.intro (And.intro (And.intro (And.intro (And.intro (And.intro (And.intro (And.intro (And.intro (And.intro (And.intro (And.intro (eq_of_beq (andT1 (andT1 (andT1 (andT1 (andT1 (andT1 (andT1 (andT1 (andT1 (andT1 (andT1 (andT1 (andT1 (andT1 hg31))))))))))))))) (eq_of_beq (andT2 (andT1 (andT1 (andT1 (andT1 (andT1 (andT1 (andT1 (andT1 (andT1 (andT1 (andT1 (andT1 (andT1 hg31)))))))))))))))) (eq_of_beq (andT2 (andT1 (andT1 (andT1 (andT1 (andT1 (andT1 (andT1 (andT1 (andT1 (andT1 (andT1 (andT1 hg31))))))))))))))) (eq_of_beq (andT2 (andT1 (andT1 (andT1 (andT1 (andT1 (andT1 (andT1 (andT1 (andT1 (andT1 (andT1 hg31)))))))))))))) ((andT2 (andT1 (andT1 (andT1 (andT1 (andT1 (andT1 (andT1 (andT1 (andT1 (andT1 hg31))))))))))))) (eq_of_beq (andT2 (andT1 (andT1 (andT1 (andT1 (andT1 (andT1 (andT1 (andT1 (andT1 hg31)))))))))))) (eq_of_beq (andT2 (andT1 (andT1 (andT1 (andT1 (andT1 (andT1 (andT1 (andT1 hg31))))))))))) (eq_of_beq (andT2 (andT1 (andT1 (andT1 (andT1 (andT1 (andT1 (andT1 hg31)))))))))) (eq_of_beq (andT2 (andT1 (andT1 (andT1 (andT1 (andT1 (andT1 hg31))))))))) (eq_of_beq (andT2 (andT1 (andT1 (andT1 (andT1 (andT1 hg31)))))))) (eq_of_beq (andT2 (andT1 (andT1 (andT1 (andT1 hg31))))))) (seqB_iff.1 (andT2 (andT1 (andT1 (andT1 hg31)))))) (seqB_iff.1 (andT2 (andT1 (andT1 hg31))))) ((andT2 (andT1 hg31)))) ((andT2 hg31))
    exact fun _ hw => Ob_load TB_Refs2 rfl rfl rfl ((X1.below hw).cell 19 rfl)
  clear hok a; intro a hok
  refine q_gob hok (c := ((((((((((((((a0.k == b.k) && (a0.epoch == b.epoch)) && (a0.req == b.req)) && (a0.serial == b.serial)) && (a0.flag == b.flag)) && ((a0.at_ : Int) == (b.at_ : Int))) && ((a0.last : Int) == (b.last : Int))) && (a0.n == b.n)) && (a0.m == b.m)) && (a0.p == b.p)) && (a0.e == b.e)) && (seqB a0.key b.key)) && (seqB a0.to_ b.to_)) && (sameC (⟨a0.conf.epoch, a0.conf.members, a0.conf.floor⟩ : DConf) (⟨b.conf.epoch, b.conf.members, b.conf.floor⟩ : DConf))) && (sameB (⟨a0.batch.client, a0.batch.req, a0.batch.ops⟩ : DBatch) (⟨b.batch.client, b.batch.req, b.batch.ops⟩ : DBatch))) rfl rfl rfl rfl (by decide) rfl (by decide) rfl (fun _ => fun _ _ => Ob_c TB_Refs2 rfl) ?_; clear hok a; intro a hok
  refine q_gob hok (c := ((((((((((((((a0.k == b.k) && (a0.epoch == b.epoch)) && (a0.req == b.req)) && (a0.serial == b.serial)) && (a0.flag == b.flag)) && ((a0.at_ : Int) == (b.at_ : Int))) && ((a0.last : Int) == (b.last : Int))) && (a0.n == b.n)) && (a0.m == b.m)) && (a0.p == b.p)) && (a0.e == b.e)) && (seqB a0.key b.key)) && (seqB a0.to_ b.to_)) && (sameC (⟨a0.conf.epoch, a0.conf.members, a0.conf.floor⟩ : DConf) (⟨b.conf.epoch, b.conf.members, b.conf.floor⟩ : DConf))) && (sameB (⟨a0.batch.client, a0.batch.req, a0.batch.ops⟩ : DBatch) (⟨b.batch.client, b.batch.req, b.batch.ops⟩ : DBatch))) (v := .slice ao_v2_b b.entries.length cap_v2_b) rfl rfl rfl rfl (by decide) rfl (by decide) rfl (fun hg32 => ?_) ?_
  · replace hg32 := And.intro (And.intro (And.intro (And.intro (And.intro (And.intro (And.intro (And.intro (And.intro (And.intro (And.intro (And.intro (And.intro (And.intro (eq_of_beq (andT1 (andT1 (andT1 (andT1 (andT1 (andT1 (andT1 (andT1 (andT1 (andT1 (andT1 (andT1 (andT1 (andT1 hg32))))))))))))))) (eq_of_beq (andT2 (andT1 (andT1 (andT1 (andT1 (andT1 (andT1 (andT1 (andT1 (andT1 (andT1 (andT1 (andT1 (andT1 hg32)))))))))))))))) (eq_of_beq (andT2 (andT1 (andT1 (andT1 (andT1 (andT1 (andT1 (andT1 (andT1 (andT1 (andT1 (andT1 (andT1 hg32))))))))))))))) (eq_of_beq (andT2 (andT1 (andT1 (andT1 (andT1 (andT1 (andT1 (andT1 (andT1 (andT1 (andT1 (andT1 hg32)))))))))))))) ((andT2 (andT1 (andT1 (andT1 (andT1 (andT1 (andT1 (andT1 (andT1 (andT1 (andT1 hg32))))))))))))) (eq_of_beq (andT2 (andT1 (andT1 (andT1 (andT1 (andT1 (andT1 (andT1 (andT1 (andT1 hg32)))))))))))) (eq_of_beq (andT2 (andT1 (andT1 (andT1 (andT1 (andT1 (andT1 (andT1 (andT1 hg32))))))))))) (eq_of_beq (andT2 (andT1 (andT1 (andT1 (andT1 (andT1 (andT1 (andT1 hg32)))))))))) (eq_of_beq (andT2 (andT1 (andT1 (andT1 (andT1 (andT1 (andT1 hg32))))))))) (eq_of_beq (andT2 (andT1 (andT1 (andT1 (andT1 (andT1 hg32)))))))) (eq_of_beq (andT2 (andT1 (andT1 (andT1 (andT1 hg32))))))) (seqB_iff.1 (andT2 (andT1 (andT1 (andT1 hg32)))))) (seqB_iff.1 (andT2 (andT1 (andT1 hg32))))) ((andT2 (andT1 hg32)))) ((andT2 hg32))
    exact fun _ hw => Ob_load TB_Refs2 rfl rfl rfl ((X2.below hw).cell 19 rfl)
  clear hok a; intro a hok
  refine q_gcall hok (caps := #[]) (b := ((((((((((((((a0.k == b.k) && (a0.epoch == b.epoch)) && (a0.req == b.req)) && (a0.serial == b.serial)) && (a0.flag == b.flag)) && ((a0.at_ : Int) == (b.at_ : Int))) && ((a0.last : Int) == (b.last : Int))) && (a0.n == b.n)) && (a0.m == b.m)) && (a0.p == b.p)) && (a0.e == b.e)) && (seqB a0.key b.key)) && (seqB a0.to_ b.to_)) && (sameC (⟨a0.conf.epoch, a0.conf.members, a0.conf.floor⟩ : DConf) (⟨b.conf.epoch, b.conf.members, b.conf.floor⟩ : DConf))) && (sameB (⟨a0.batch.client, a0.batch.req, a0.batch.ops⟩ : DBatch) (⟨b.batch.client, b.batch.req, b.batch.ops⟩ : DBatch))) (v := .bool (sameBy sameE a0.entries b.entries)) fn_42_Refs2 rfl rfl rfl rfl rfl rfl rfl (by decide) rfl (by decide) rfl rfl (fun hg33 => ?_) ?_
  · replace hg33 := And.intro (And.intro (And.intro (And.intro (And.intro (And.intro (And.intro (And.intro (And.intro (And.intro (And.intro (And.intro (And.intro (And.intro (eq_of_beq (andT1 (andT1 (andT1 (andT1 (andT1 (andT1 (andT1 (andT1 (andT1 (andT1 (andT1 (andT1 (andT1 (andT1 hg33))))))))))))))) (eq_of_beq (andT2 (andT1 (andT1 (andT1 (andT1 (andT1 (andT1 (andT1 (andT1 (andT1 (andT1 (andT1 (andT1 (andT1 hg33)))))))))))))))) (eq_of_beq (andT2 (andT1 (andT1 (andT1 (andT1 (andT1 (andT1 (andT1 (andT1 (andT1 (andT1 (andT1 (andT1 hg33))))))))))))))) (eq_of_beq (andT2 (andT1 (andT1 (andT1 (andT1 (andT1 (andT1 (andT1 (andT1 (andT1 (andT1 (andT1 hg33)))))))))))))) ((andT2 (andT1 (andT1 (andT1 (andT1 (andT1 (andT1 (andT1 (andT1 (andT1 (andT1 hg33))))))))))))) (eq_of_beq (andT2 (andT1 (andT1 (andT1 (andT1 (andT1 (andT1 (andT1 (andT1 (andT1 hg33)))))))))))) (eq_of_beq (andT2 (andT1 (andT1 (andT1 (andT1 (andT1 (andT1 (andT1 (andT1 hg33))))))))))) (eq_of_beq (andT2 (andT1 (andT1 (andT1 (andT1 (andT1 (andT1 (andT1 hg33)))))))))) (eq_of_beq (andT2 (andT1 (andT1 (andT1 (andT1 (andT1 (andT1 hg33))))))))) (eq_of_beq (andT2 (andT1 (andT1 (andT1 (andT1 (andT1 hg33)))))))) (eq_of_beq (andT2 (andT1 (andT1 (andT1 (andT1 hg33))))))) (seqB_iff.1 (andT2 (andT1 (andT1 (andT1 hg33)))))) (seqB_iff.1 (andT2 (andT1 (andT1 hg33))))) ((andT2 (andT1 hg33)))) ((andT2 hg33))
    exact fun _ hw => c_ref08_SameAll _ a0.entries _ b.entries _ (L2_a0.below hw) (L2_b.below hw)
  clear hok a; intro a hok
  refine q_and hok (i := 103) rfl rfl rfl rfl rfl rfl rfl (by decide) rfl rfl ?_; clear hok a; intro a hok
  refine q_runk TB_Refs2 hok 1 rfl rfl ?_; clear hok a; intro a hok
  refine q_gob hok (c := (((((((((((((((a0.k == b.k) && (a0.epoch == b.epoch)) && (a0.req == b.req)) && (a0.serial == b.serial)) && (a0.flag == b.flag)) && ((a0.at_ : Int) == (b.at_ : Int))) && ((a0.last : Int) == (b.last : Int))) && (a0.n == b.n)) && (a0.m == b.m)) && (a0.p == b.p)) && (a0.e == b.e)) && (seqB a0.key b.key)) && (seqB a0.to_ b.to_)) && (sameC (⟨a0.conf.epoch, a0.conf.members, a0.conf.floor⟩ : DConf) (⟨b.conf.epoch, b.conf.members, b.conf.floor⟩ : DConf))) && (sameB (⟨a0.batch.client, a0.batch.req, a0.batch.ops⟩ : DBatch) (⟨b.batch.client, b.batch.req, b.batch.ops⟩ : DBatch))) && (sameBy sameE a0.entries b.entries)) rfl rfl rfl rfl (by decide) rfl (by decide) rfl (fun _ => fun _ _ => Ob_c TB_Refs2 rfl) ?_; clear hok a; intro a hok
  refine q_gob hok (c := (((((((((((((((a0.k == b.k) && (a0.epoch == b.epoch)) && (a0.req == b.req)) && (a0.serial == b.serial)) && (a0.flag == b.flag)) && ((a0.at_ : Int) == (b.at_ : Int))) && ((a0.last : Int) == (b.last : Int))) && (a0.n == b.n)) && (a0.m == b.m)) && (a0.p == b.p)) && (a0.e == b.e)) && (seqB a0.key b.key)) && (seqB a0.to_ b.to_)) && (sameC (⟨a0.conf.epoch, a0.conf.members, a0.conf.floor⟩ : DConf) (⟨b.conf.epoch, b.conf.members, b.conf.floor⟩ : DConf))) && (sameB (⟨a0.batch.client, a0.batch.req, a0.batch.ops⟩ : DBatch) (⟨b.batch.client, b.batch.req, b.batch.ops⟩ : DBatch))) && (sameBy sameE a0.entries b.entries)) (v := .slice ao_v3_a0 a0.stamps.length cap_v3_a0) rfl rfl rfl rfl (by decide) rfl (by decide) rfl (fun hg34 => ?_) ?_
  · replace hg34 := And.intro (And.intro (And.intro (And.intro (And.intro (And.intro (And.intro (And.intro (And.intro (And.intro (And.intro (And.intro (And.intro (And.intro (And.intro (eq_of_beq (andT1 (andT1 (andT1 (andT1 (andT1 (andT1 (andT1 (andT1 (andT1 (andT1 (andT1 (andT1 (andT1 (andT1 (andT1 hg34)))))))))))))))) (eq_of_beq (andT2 (andT1 (andT1 (andT1 (andT1 (andT1 (andT1 (andT1 (andT1 (andT1 (andT1 (andT1 (andT1 (andT1 (andT1 hg34))))))))))))))))) (eq_of_beq (andT2 (andT1 (andT1 (andT1 (andT1 (andT1 (andT1 (andT1 (andT1 (andT1 (andT1 (andT1 (andT1 (andT1 hg34)))))))))))))))) (eq_of_beq (andT2 (andT1 (andT1 (andT1 (andT1 (andT1 (andT1 (andT1 (andT1 (andT1 (andT1 (andT1 (andT1 hg34))))))))))))))) ((andT2 (andT1 (andT1 (andT1 (andT1 (andT1 (andT1 (andT1 (andT1 (andT1 (andT1 (andT1 hg34)))))))))))))) (eq_of_beq (andT2 (andT1 (andT1 (andT1 (andT1 (andT1 (andT1 (andT1 (andT1 (andT1 (andT1 hg34))))))))))))) (eq_of_beq (andT2 (andT1 (andT1 (andT1 (andT1 (andT1 (andT1 (andT1 (andT1 (andT1 hg34)))))))))))) (eq_of_beq (andT2 (andT1 (andT1 (andT1 (andT1 (andT1 (andT1 (andT1 (andT1 hg34))))))))))) (eq_of_beq (andT2 (andT1 (andT1 (andT1 (andT1 (andT1 (andT1 (andT1 hg34)))))))))) (eq_of_beq (andT2 (andT1 (andT1 (andT1 (andT1 (andT1 (andT1 hg34))))))))) (eq_of_beq (andT2 (andT1 (andT1 (andT1 (andT1 (andT1 hg34)))))))) (seqB_iff.1 (andT2 (andT1 (andT1 (andT1 (andT1 hg34))))))) (seqB_iff.1 (andT2 (andT1 (andT1 (andT1 hg34)))))) ((andT2 (andT1 (andT1 hg34))))) ((andT2 (andT1 hg34)))) ((andT2 hg34))
    exact fun _ hw => Ob_load TB_Refs2 rfl rfl rfl ((X1.below hw).cell 20 rfl)
  clear hok a; intro a hok
  refine q_gob hok (c := (((((((((((((((a0.k == b.k) && (a0.epoch == b.epoch)) && (a0.req == b.req)) && (a0.serial == b.serial)) && (a0.flag == b.flag)) && ((a0.at_ : Int) == (b.at_ : Int))) && ((a0.last : Int) == (b.last : Int))) && (a0.n == b.n)) && (a0.m == b.m)) && (a0.p == b.p)) && (a0.e == b.e)) && (seqB a0.key b.key)) && (seqB a0.to_ b.to_)) && (sameC (⟨a0.conf.epoch, a0.conf.members, a0.conf.floor⟩ : DConf) (⟨b.conf.epoch, b.conf.members, b.conf.floor⟩ : DConf))) && (sameB (⟨a0.batch.client, a0.batch.req, a0.batch.ops⟩ : DBatch) (⟨b.batch.client, b.batch.req, b.batch.ops⟩ : DBatch))) && (sameBy sameE a0.entries b.entries)) rfl rfl rfl rfl (by decide) rfl (by decide) rfl (fun _ => fun _ _ => Ob_c TB_Refs2 rfl) ?_; clear hok a; intro a hok
  refine q_gob hok (c := (((((((((((((((a0.k == b.k) && (a0.epoch == b.epoch)) && (a0.req == b.req)) && (a0.serial == b.serial)) && (a0.flag == b.flag)) && ((a0.at_ : Int) == (b.at_ : Int))) && ((a0.last : Int) == (b.last : Int))) && (a0.n == b.n)) && (a0.m == b.m)) && (a0.p == b.p)) && (a0.e == b.e)) && (seqB a0.key b.key)) && (seqB a0.to_ b.to_)) && (sameC (⟨a0.conf.epoch, a0.conf.members, a0.conf.floor⟩ : DConf) (⟨b.conf.epoch, b.conf.members, b.conf.floor⟩ : DConf))) && (sameB (⟨a0.batch.client, a0.batch.req, a0.batch.ops⟩ : DBatch) (⟨b.batch.client, b.batch.req, b.batch.ops⟩ : DBatch))) && (sameBy sameE a0.entries b.entries)) (v := .slice ao_v3_b b.stamps.length cap_v3_b) rfl rfl rfl rfl (by decide) rfl (by decide) rfl (fun hg35 => ?_) ?_
  · replace hg35 := And.intro (And.intro (And.intro (And.intro (And.intro (And.intro (And.intro (And.intro (And.intro (And.intro (And.intro (And.intro (And.intro (And.intro (And.intro (eq_of_beq (andT1 (andT1 (andT1 (andT1 (andT1 (andT1 (andT1 (andT1 (andT1 (andT1 (andT1 (andT1 (andT1 (andT1 (andT1 hg35)))))))))))))))) (eq_of_beq (andT2 (andT1 (andT1 (andT1 (andT1 (andT1 (andT1 (andT1 (andT1 (andT1 (andT1 (andT1 (andT1 (andT1 (andT1 hg35))))))))))))))))) (eq_of_beq (andT2 (andT1 (andT1 (andT1 (andT1 (andT1 (andT1 (andT1 (andT1 (andT1 (andT1 (andT1 (andT1 (andT1 hg35)))))))))))))))) (eq_of_beq (andT2 (andT1 (andT1 (andT1 (andT1 (andT1 (andT1 (andT1 (andT1 (andT1 (andT1 (andT1 (andT1 hg35))))))))))))))) ((andT2 (andT1 (andT1 (andT1 (andT1 (andT1 (andT1 (andT1 (andT1 (andT1 (andT1 (andT1 hg35)))))))))))))) (eq_of_beq (andT2 (andT1 (andT1 (andT1 (andT1 (andT1 (andT1 (andT1 (andT1 (andT1 (andT1 hg35))))))))))))) (eq_of_beq (andT2 (andT1 (andT1 (andT1 (andT1 (andT1 (andT1 (andT1 (andT1 (andT1 hg35)))))))))))) (eq_of_beq (andT2 (andT1 (andT1 (andT1 (andT1 (andT1 (andT1 (andT1 (andT1 hg35))))))))))) (eq_of_beq (andT2 (andT1 (andT1 (andT1 (andT1 (andT1 (andT1 (andT1 hg35)))))))))) (eq_of_beq (andT2 (andT1 (andT1 (andT1 (andT1 (andT1 (andT1 hg35))))))))) (eq_of_beq (andT2 (andT1 (andT1 (andT1 (andT1 (andT1 hg35)))))))) (seqB_iff.1 (andT2 (andT1 (andT1 (andT1 (andT1 hg35))))))) (seqB_iff.1 (andT2 (andT1 (andT1 (andT1 hg35)))))) ((andT2 (andT1 (andT1 hg35))))) ((andT2 (andT1 hg35)))) ((andT2 hg35))
    exact fun _ hw => Ob_load TB_Refs2 rfl rfl rfl ((X2.below hw).cell 20 rfl)
  clear hok a; intro a hok
  refine q_gcall hok (caps := #[]) (b := (((((((((((((((a0.k == b.k) && (a0.epoch == b.epoch)) && (a0.req == b.req)) && (a0.serial == b.serial)) && (a0.flag == b.flag)) && ((a0.at_ : Int) == (b.at_ : Int))) && ((a0.last : Int) == (b.last : Int))) && (a0.n == b.n)) && (a0.m == b.m)) && (a0.p == b.p)) && (a0.e == b.e)) && (seqB a0.key b.key)) && (seqB a0.to_ b.to_)) && (sameC (⟨a0.conf.epoch, a0.conf.members, a0.conf.floor⟩ : DConf) (⟨b.conf.epoch, b.conf.members, b.conf.floor⟩ : DConf))) && (sameB (⟨a0.batch.client, a0.batch.req, a0.batch.ops⟩ : DBatch) (⟨b.batch.client, b.batch.req, b.batch.ops⟩ : DBatch))) && (sameBy sameE a0.entries b.entries)) (v := .bool (sameBy eqD a0.stamps b.stamps)) fn_43_Refs2 rfl rfl rfl rfl rfl rfl rfl (by decide) rfl (by decide) rfl rfl (fun hg36 => ?_) ?_
  · replace hg36 := And.intro (And.intro (And.intro (And.intro (And.intro (And.intro (And.intro (And.intro (And.intro (And.intro (And.intro (And.intro (And.intro (And.intro (And.intro (eq_of_beq (andT1 (andT1 (andT1 (andT1 (andT1 (andT1 (andT1 (andT1 (andT1 (andT1 (andT1 (andT1 (andT1 (andT1 (andT1 hg36)))))))))))))))) (eq_of_beq (andT2 (andT1 (andT1 (andT1 (andT1 (andT1 (andT1 (andT1 (andT1 (andT1 (andT1 (andT1 (andT1 (andT1 (andT1 hg36))))))))))))))))) (eq_of_beq (andT2 (andT1 (andT1 (andT1 (andT1 (andT1 (andT1 (andT1 (andT1 (andT1 (andT1 (andT1 (andT1 (andT1 hg36)))))))))))))))) (eq_of_beq (andT2 (andT1 (andT1 (andT1 (andT1 (andT1 (andT1 (andT1 (andT1 (andT1 (andT1 (andT1 (andT1 hg36))))))))))))))) ((andT2 (andT1 (andT1 (andT1 (andT1 (andT1 (andT1 (andT1 (andT1 (andT1 (andT1 (andT1 hg36)))))))))))))) (eq_of_beq (andT2 (andT1 (andT1 (andT1 (andT1 (andT1 (andT1 (andT1 (andT1 (andT1 (andT1 hg36))))))))))))) (eq_of_beq (andT2 (andT1 (andT1 (andT1 (andT1 (andT1 (andT1 (andT1 (andT1 (andT1 hg36)))))))))))) (eq_of_beq (andT2 (andT1 (andT1 (andT1 (andT1 (andT1 (andT1 (andT1 (andT1 hg36))))))))))) (eq_of_beq (andT2 (andT1 (andT1 (andT1 (andT1 (andT1 (andT1 (andT1 hg36)))))))))) (eq_of_beq (andT2 (andT1 (andT1 (andT1 (andT1 (andT1 (andT1 hg36))))))))) (eq_of_beq (andT2 (andT1 (andT1 (andT1 (andT1 (andT1 hg36)))))))) (seqB_iff.1 (andT2 (andT1 (andT1 (andT1 (andT1 hg36))))))) (seqB_iff.1 (andT2 (andT1 (andT1 (andT1 hg36)))))) ((andT2 (andT1 (andT1 hg36))))) ((andT2 (andT1 hg36)))) ((andT2 hg36))
    exact fun _ hw => c_ref09_sameStamps _ a0.stamps _ b.stamps _ (L3_a0.below hw) (L3_b.below hw)
  clear hok a; intro a hok
  refine q_and hok (i := 110) rfl rfl rfl rfl rfl rfl rfl (by decide) rfl rfl ?_; clear hok a; intro a hok
  refine q_runk TB_Refs2 hok 1 rfl rfl ?_; clear hok a; intro a hok
  refine q_gob hok (c := ((((((((((((((((a0.k == b.k) && (a0.epoch == b.epoch)) && (a0.req == b.req)) && (a0.serial == b.serial)) && (a0.flag == b.flag)) && ((a0.at_ : Int) == (b.at_ : Int))) && ((a0.last : Int) == (b.last : Int))) && (a0.n == b.n)) && (a0.m == b.m)) && (a0.p == b.p)) && (a0.e == b.e)) && (seqB a0.key b.key)) && (seqB a0.to_ b.to_)) && (sameC (⟨a0.conf.epoch, a0.conf.members, a0.conf.floor⟩ : DConf) (⟨b.conf.epoch, b.conf.members, b.conf.floor⟩ : DConf))) && (sameB (⟨a0.batch.client, a0.batch.req, a0.batch.ops⟩ : DBatch) (⟨b.batch.client, b.batch.req, b.batch.ops⟩ : DBatch))) && (sameBy sameE a0.entries b.entries)) && (sameBy eqD a0.stamps b.stamps)) rfl rfl rfl rfl (by decide) rfl (by decide) rfl (fun _ => fun _ _ => Ob_c TB_Refs2 rfl) ?_; clear hok a; intro a hok
  refine q_gob hok (c := ((((((((((((((((a0.k == b.k) && (a0.epoch == b.epoch)) && (a0.req == b.req)) && (a0.serial == b.serial)) && (a0.flag == b.flag)) && ((a0.at_ : Int) == (b.at_ : Int))) && ((a0.last : Int) == (b.last : Int))) && (a0.n == b.n)) && (a0.m == b.m)) && (a0.p == b.p)) && (a0.e == b.e)) && (seqB a0.key b.key)) && (seqB a0.to_ b.to_)) && (sameC (⟨a0.conf.epoch, a0.conf.members, a0.conf.floor⟩ : DConf) (⟨b.conf.epoch, b.conf.members, b.conf.floor⟩ : DConf))) && (sameB (⟨a0.batch.client, a0.batch.req, a0.batch.ops⟩ : DBatch) (⟨b.batch.client, b.batch.req, b.batch.ops⟩ : DBatch))) && (sameBy sameE a0.entries b.entries)) && (sameBy eqD a0.stamps b.stamps)) (v := .slice ao_v4_a0 a0.pairs.length cap_v4_a0) rfl rfl rfl rfl (by decide) rfl (by decide) rfl (fun hg37 => ?_) ?_
  · replace hg37 := And.intro (And.intro (And.intro (And.intro (And.intro (And.intro (And.intro (And.intro (And.intro (And.intro (And.intro (And.intro (And.intro (And.intro (And.intro (And.intro (eq_of_beq (andT1 (andT1 (andT1 (andT1 (andT1 (andT1 (andT1 (andT1 (andT1 (andT1 (andT1 (andT1 (andT1 (andT1 (andT1 (andT1 hg37))))))))))))))))) (eq_of_beq (andT2 (andT1 (andT1 (andT1 (andT1 (andT1 (andT1 (andT1 (andT1 (andT1 (andT1 (andT1 (andT1 (andT1 (andT1 (andT1 hg37)))))))))))))))))) (eq_of_beq (andT2 (andT1 (andT1 (andT1 (andT1 (andT1 (andT1 (andT1 (andT1 (andT1 (andT1 (andT1 (andT1 (andT1 (andT1 hg37))))))))))))))))) (eq_of_beq (andT2 (andT1 (andT1 (andT1 (andT1 (andT1 (andT1 (andT1 (andT1 (andT1 (andT1 (andT1 (andT1 (andT1 hg37)))))))))))))))) ((andT2 (andT1 (andT1 (andT1 (andT1 (andT1 (andT1 (andT1 (andT1 (andT1 (andT1 (andT1 (andT1 hg37))))))))))))))) (eq_of_beq (andT2 (andT1 (andT1 (andT1 (andT1 (andT1 (andT1 (andT1 (andT1 (andT1 (andT1 (andT1 hg37)))))))))))))) (eq_of_beq (andT2 (andT1 (andT1 (andT1 (andT1 (andT1 (andT1 (andT1 (andT1 (andT1 (andT1 hg37))))))))))))) (eq_of_beq (andT2 (andT1 (andT1 (andT1 (andT1 (andT1 (andT1 (andT1 (andT1 (andT1 hg37)))))))))))) (eq_of_beq (andT2 (andT1 (andT1 (andT1 (andT1 (andT1 (andT1 (andT1 (andT1 hg37))))))))))) (eq_of_beq (andT2 (andT1 (andT1 (andT1 (andT1 (andT1 (andT1 (andT1 hg37)))))))))) (eq_of_beq (andT2 (andT1 (andT1 (andT1 (andT1 (andT1 (andT1 hg37))))))))) (seqB_iff.1 (andT2 (andT1 (andT1 (andT1 (andT1 (andT1 hg37)))))))) (seqB_iff.1 (andT2 (andT1 (andT1 (andT1 (andT1 hg37))))))) ((andT2 (andT1 (andT1 (andT1 hg37)))))) ((andT2 (andT1 (andT1 hg37))))) ((andT2 (andT1 hg37)))) ((andT2 hg37))
    exact fun _ hw => Ob_load TB_Refs2 rfl rfl rfl ((X1.below hw).cell 21 rfl)
  clear hok a; intro a hok
  refine q_gob hok (c := ((((((((((((((((a0.k == b.k) && (a0.epoch == b.epoch)) && (a0.req == b.req)) && (a0.serial == b.serial)) && (a0.flag == b.flag)) && ((a0.at_ : Int) == (b.at_ : Int))) && ((a0.last : Int) == (b.last : Int))) && (a0.n == b.n)) && (a0.m == b.m)) && (a0.p == b.p)) && (a0.e == b.e)) && (seqB a0.key b.key)) && (seqB a0.to_ b.to_)) && (sameC (⟨a0.conf.epoch, a0.conf.members, a0.conf.floor⟩ : DConf) (⟨b.conf.epoch, b.conf.members, b.conf.floor⟩ : DConf))) && (sameB (⟨a0.batch.client, a0.batch.req, a0.batch.ops⟩ : DBatch) (⟨b.batch.client, b.batch.req, b.batch.ops⟩ : DBatch))) && (sameBy sameE a0.entries b.entries)) && (sameBy eqD a0.stamps b.stamps)) rfl rfl rfl rfl (by decide) rfl (by decide) rfl (fun _ => fun _ _ => Ob_c TB_Refs2 rfl) ?_; clear hok a; intro a hok
  refine q_gob hok (c := ((((((((((((((((a0.k == b.k) && (a0.epoch == b.epoch)) && (a0.req == b.req)) && (a0.serial == b.serial)) && (a0.flag == b.flag)) && ((a0.at_ : Int) == (b.at_ : Int))) && ((a0.last : Int) == (b.last : Int))) && (a0.n == b.n)) && (a0.m == b.m)) && (a0.p == b.p)) && (a0.e == b.e)) && (seqB a0.key b.key)) && (seqB a0.to_ b.to_)) && (sameC (⟨a0.conf.epoch, a0.conf.members, a0.conf.floor⟩ : DConf) (⟨b.conf.epoch, b.conf.members, b.conf.floor⟩ : DConf))) && (sameB (⟨a0.batch.client, a0.batch.req, a0.batch.ops⟩ : DBatch) (⟨b.batch.client, b.batch.req, b.batch.ops⟩ : DBatch))) && (sameBy sameE a0.entries b.entries)) && (sameBy eqD a0.stamps b.stamps)) (v := .slice ao_v4_b b.pairs.length cap_v4_b) rfl rfl rfl rfl (by decide) rfl (by decide) rfl (fun hg38 => ?_) ?_
  · replace hg38 := And.intro (And.intro (And.intro (And.intro (And.intro (And.intro (And.intro (And.intro (And.intro (And.intro (And.intro (And.intro (And.intro (And.intro (And.intro (And.intro (eq_of_beq (andT1 (andT1 (andT1 (andT1 (andT1 (andT1 (andT1 (andT1 (andT1 (andT1 (andT1 (andT1 (andT1 (andT1 (andT1 (andT1 hg38))))))))))))))))) (eq_of_beq (andT2 (andT1 (andT1 (andT1 (andT1 (andT1 (andT1 (andT1 (andT1 (andT1 (andT1 (andT1 (andT1 (andT1 (andT1 (andT1 hg38)))))))))))))))))) (eq_of_beq (andT2 (andT1 (andT1 (andT1 (andT1 (andT1 (andT1 (andT1 (andT1 (andT1 (andT1 (andT1 (andT1 (andT1 (andT1 hg38))))))))))))))))) (eq_of_beq (andT2 (andT1 (andT1 (andT1 (andT1 (andT1 (andT1 (andT1 (andT1 (andT1 (andT1 (andT1 (andT1 (andT1 hg38)))))))))))))))) ((andT2 (andT1 (andT1 (andT1 (andT1 (andT1 (andT1 (andT1 (andT1 (andT1 (andT1 (andT1 (andT1 hg38))))))))))))))) (eq_of_beq (andT2 (andT1 (andT1 (andT1 (andT1 (andT1 (andT1 (andT1 (andT1 (andT1 (andT1 (andT1 hg38)))))))))))))) (eq_of_beq (andT2 (andT1 (andT1 (andT1 (andT1 (andT1 (andT1 (andT1 (andT1 (andT1 (andT1 hg38))))))))))))) (eq_of_beq (andT2 (andT1 (andT1 (andT1 (andT1 (andT1 (andT1 (andT1 (andT1 (andT1 hg38)))))))))))) (eq_of_beq (andT2 (andT1 (andT1 (andT1 (andT1 (andT1 (andT1 (andT1 (andT1 hg38))))))))))) (eq_of_beq (andT2 (andT1 (andT1 (andT1 (andT1 (andT1 (andT1 (andT1 hg38)))))))))) (eq_of_beq (andT2 (andT1 (andT1 (andT1 (andT1 (andT1 (andT1 hg38))))))))) (seqB_iff.1 (andT2 (andT1 (andT1 (andT1 (andT1 (andT1 hg38)))))))) (seqB_iff.1 (andT2 (andT1 (andT1 (andT1 (andT1 hg38))))))) ((andT2 (andT1 (andT1 (andT1 hg38)))))) ((andT2 (andT1 (andT1 hg38))))) ((andT2 (andT1 hg38)))) ((andT2 hg38))
    exact fun _ hw => Ob_load TB_Refs2 rfl rfl rfl ((X2.below hw).cell 21 rfl)
  clear hok a; intro a hok
  refine q_gcall hok (caps := #[]) (b := ((((((((((((((((a0.k == b.k) && (a0.epoch == b.epoch)) && (a0.req == b.req)) && (a0.serial == b.serial)) && (a0.flag == b.flag)) && ((a0.at_ : Int) == (b.at_ : Int))) && ((a0.last : Int) == (b.last : Int))) && (a0.n == b.n)) && (a0.m == b.m)) && (a0.p == b.p)) && (a0.e == b.e)) && (seqB a0.key b.key)) && (seqB a0.to_ b.to_)) && (sameC (⟨a0.conf.epoch, a0.conf.members, a0.conf.floor⟩ : DConf) (⟨b.conf.epoch, b.conf.members, b.conf.floor⟩ : DConf))) && (sameB (⟨a0.batch.client, a0.batch.req, a0.batch.ops⟩ : DBatch) (⟨b.batch.client, b.batch.req, b.batch.ops⟩ : DBatch))) && (sameBy sameE a0.entries b.entries)) && (sameBy eqD a0.stamps b.stamps)) (v := .bool (sameBy eqD a0.pairs b.pairs)) fn_44_Refs2 rfl rfl rfl rfl rfl rfl rfl (by decide) rfl (by decide) rfl rfl (fun hg39 => ?_) ?_
  · replace hg39 := And.intro (And.intro (And.intro (And.intro (And.intro (And.intro (And.intro (And.intro (And.intro (And.intro (And.intro (And.intro (And.intro (And.intro (And.intro (And.intro (eq_of_beq (andT1 (andT1 (andT1 (andT1 (andT1 (andT1 (andT1 (andT1 (andT1 (andT1 (andT1 (andT1 (andT1 (andT1 (andT1 (andT1 hg39))))))))))))))))) (eq_of_beq (andT2 (andT1 (andT1 (andT1 (andT1 (andT1 (andT1 (andT1 (andT1 (andT1 (andT1 (andT1 (andT1 (andT1 (andT1 (andT1 hg39)))))))))))))))))) (eq_of_beq (andT2 (andT1 (andT1 (andT1 (andT1 (andT1 (andT1 (andT1 (andT1 (andT1 (andT1 (andT1 (andT1 (andT1 (andT1 hg39))))))))))))))))) (eq_of_beq (andT2 (andT1 (andT1 (andT1 (andT1 (andT1 (andT1 (andT1 (andT1 (andT1 (andT1 (andT1 (andT1 (andT1 hg39)))))))))))))))) ((andT2 (andT1 (andT1 (andT1 (andT1 (andT1 (andT1 (andT1 (andT1 (andT1 (andT1 (andT1 (andT1 hg39))))))))))))))) (eq_of_beq (andT2 (andT1 (andT1 (andT1 (andT1 (andT1 (andT1 (andT1 (andT1 (andT1 (andT1 (andT1 hg39)))))))))))))) (eq_of_beq (andT2 (andT1 (andT1 (andT1 (andT1 (andT1 (andT1 (andT1 (andT1 (andT1 (andT1 hg39))))))))))))) (eq_of_beq (andT2 (andT1 (andT1 (andT1 (andT1 (andT1 (andT1 (andT1 (andT1 (andT1 hg39)))))))))))) (eq_of_beq (andT2 (andT1 (andT1 (andT1 (andT1 (andT1 (andT1 (andT1 (andT1 hg39))))))))))) (eq_of_beq (andT2 (andT1 (andT1 (andT1 (andT1 (andT1 (andT1 (andT1 hg39)))))))))) (eq_of_beq (andT2 (andT1 (andT1 (andT1 (andT1 (andT1 (andT1 hg39))))))))) (seqB_iff.1 (andT2 (andT1 (andT1 (andT1 (andT1 (andT1 hg39)))))))) (seqB_iff.1 (andT2 (andT1 (andT1 (andT1 (andT1 hg39))))))) ((andT2 (andT1 (andT1 (andT1 hg39)))))) ((andT2 (andT1 (andT1 hg39))))) ((andT2 (andT1 hg39)))) ((andT2 hg39))
    exact fun _ hw => c_ref06_SamePairs _ a0.pairs _ b.pairs _ (L4_a0.below hw) (L4_b.below hw)
  clear hok a; intro a hok
  refine q_and hok (i := 117) rfl rfl rfl rfl rfl rfl rfl (by decide) rfl rfl ?_; clear hok a; intro a hok
  refine q_runk TB_Refs2 hok 1 rfl rfl ?_; clear hok a; intro a hok
  refine q_end hok [0, 1, 2, 3, 4] rfl ?_; clear hok; intro w3 hb hok
  have hz_w3 : w2.heap.size ≤ w3.heap.size := hb.size
  replace B := B.blw hb
  replace L0_a0 := L0_a0.below hb
  replace L1_a0 := L1_a0.below hb
  replace L2_a0 := L2_a0.below hb
  replace L3_a0 := L3_a0.below hb
  replace L4_a0 := L4_a0.below hb
  replace L0_b := L0_b.below hb
  replace L1_b := L1_b.below hb
  replace L2_b := L2_b.below hb
  replace L3_b := L3_b.below hb
  replace L4_b := L4_b.below hb
  replace X1 := X1.below hb
  replace X2 := X2.below hb
  clear hb
  refine p_then ?_
  refine wp_ret ?_
  refine f_ret hok (run_results1 rfl hok rfl) ?_
  refine ⟨?_, B.toBelow⟩
  · clear hok B L0_a0 L1_a0 L2_a0 L3_a0 L4_a0 L0_b L1_b L2_b L3_b L4_b X1 X2 hc_v0_a0 hm_v0_a0 ha_P1 ho_P1 hc_v1_a0 hm_v1_a0 ha_P2 ho_P2 hc_v2_a0 hm_v2_a0 ha_P3 ho_P3 hc_v3_a0 hm_v3_a0 ha_P4 ho_P4 hc_v4_a0 hm_v4_a0 ha_P5 ho_P5 hc_v0_b hm_v0_b ha_P6 ho_P6 hc_v1_b hm_v1_b ha_P7 ho_P7 hc_v2_b hm_v2_b ha_P8 ho_P8 hc_v3_b hm_v3_b ha_P9 ho_P9 hc_v4_b hm_v4_b ha_P10 ho_P10 hb0_b1 hb1_b1 hge_b1 hz_w1 hb0_b2 hb1_b2 hge_b2 hlt_b1_b2 hz_w2 hz_w3
    simp only [beq_cast]; rfl


def sameN (a b : DNote) : Bool := a.k == b.k && a.n == b.n && a.at_ == b.at_ && sameC a.conf b.conf && sameBy eqD a.legit b.legit && sameE a.entry b.entry && decide (a.pin = b.pin) && decide (a.said = b.said)

set_option maxHeartbeats 1000000 in
set_option maxRecDepth 100000 in
theorem c_ref10_Same {A0 : Nat → Prop} {A1 : Nat → Prop} {A2 : Nat → Prop} {A3 : Nat → Prop} {A4 : Nat → Prop} {A5 : Nat → Prop} (a0 : DNote) (v0_a0 : Value) (v1_a0 : Value) (v2_a0 : Value) (b : DNote) (v0_b : Value) (v1_b : Value) (v2_b : Value) (w : World) (L0_a0 : slRep RDMember A0 w v0_a0 a0.conf.members) (L1_a0 : slRep RI A1 w v1_a0 a0.legit) (L2_a0 : slRep RDOp A2 w v2_a0 a0.entry.batch.ops) (h_a0 : okDNote a0) (L0_b : slRep RDMember A3 w v0_b b.conf.members) (L1_b : slRep RI A4 w v1_b b.legit) (L2_b : slRep RDOp A5 w v2_b b.entry.batch.ops) (h_b : okDNote b) :
    Calls Try.prog 45 #[.agg #[.int .i64 a0.k, .int .i64 a0.n, .int .u64 (a0.at_ : Int), .int .i64 a0.conf.epoch, v0_a0, .int .u64 (a0.conf.floor : Int), v1_a0, .int .i64 a0.entry.batch.client, .int .i64 a0.entry.batch.req, v2_a0, .int .u64 (a0.entry.ts : Int), .int .i64 a0.pin.id, .int .u64 (a0.pin.at_ : Int), .int .i64 a0.pin.left, .int .i64 a0.said.client, .int .i64 a0.said.req, .int .i64 a0.said.e, .int .i64 a0.said.pin], .agg #[.int .i64 b.k, .int .i64 b.n, .int .u64 (b.at_ : Int), .int .i64 b.conf.epoch, v0_b, .int .u64 (b.conf.floor : Int), v1_b, .int .i64 b.entry.batch.client, .int .i64 b.entry.batch.req, v2_b, .int .u64 (b.entry.ts : Int), .int .i64 b.pin.id, .int .u64 (b.pin.at_ : Int), .int .i64 b.pin.left, .int .i64 b.said.client, .int .i64 b.said.req, .int .i64 b.said.e, .int .i64 b.said.pin]] w (Ret fun r w' => r = .bool (sameN a0 b) ∧ Below w.heap.size w w') := by
  have B : Bt [] w w := Bt.refl _ _
  obtain ⟨ao_v0_a0, cap_v0_a0, rfl, hc_v0_a0, hm_v0_a0⟩ := L0_a0.shape
  unfold maxLen at hm_v0_a0
  obtain ⟨P1, ha_P1, ho_P1, L0_a0⟩ : ∃ X : Nat → Prop, (∀ k, X k → k < w.heap.size) ∧ (∀ k, X k → A0 k ∨ A1 k ∨ A2 k ∨ A3 k ∨ A4 k ∨ A5 k ∨ w.heap.size ≤ k) ∧ slRep RDMember X w (.slice ao_v0_a0 a0.conf.members.length cap_v0_a0) a0.conf.members := ⟨_, fun k h => h.2, fun k h => .inl h.1, L0_a0.bound⟩
  obtain ⟨ao_v1_a0, cap_v1_a0, rfl, hc_v1_a0, hm_v1_a0⟩ := L1_a0.shape
  unfold maxLen at hm_v1_a0
  obtain ⟨P2, ha_P2, ho_P2, L1_a0⟩ : ∃ X : Nat → Prop, (∀ k, X k → k < w.heap.size) ∧ (∀ k, X k → A0 k ∨ A1 k ∨ A2 k ∨ A3 k ∨ A4 k ∨ A5 k ∨ w.heap.size ≤ k) ∧ slRep RI X w (.slice ao_v1_a0 a0.legit.length cap_v1_a0) a0.legit := ⟨_, fun k h => h.2, fun k h => .inr (.inl h.1), L1_a0.bound⟩
  obtain ⟨ao_v2_a0, cap_v2_a0, rfl, hc_v2_a0, hm_v2_a0⟩ := L2_a0.shape
  unfold maxLen at hm_v2_a0
  obtain ⟨P3, ha_P3, ho_P3, L2_a0⟩ : ∃ X : Nat → Prop, (∀ k, X k → k < w.heap.size) ∧ (∀ k, X k → A0 k ∨ A1 k ∨ A2 k ∨ A3 k ∨ A4 k ∨ A5 k ∨ w.heap.size ≤ k) ∧ slRep RDOp X w (.slice ao_v2_a0 a0.entry.batch.ops.length cap_v2_a0) a0.entry.batch.ops := ⟨_, fun k h => h.2, fun k h => .inr (.inr (.inl h.1)), L2_a0.bound⟩
  obtain ⟨ao_v0_b, cap_v0_b, rfl, hc_v0_b, hm_v0_b⟩ := L0_b.shape
  unfold maxLen at hm_v0_b
  obtain ⟨P4, ha_P4, ho_P4, L0_b⟩ : ∃ X : Nat → Prop, (∀ k, X k → k < w.heap.size) ∧ (∀ k, X k → A0 k ∨ A1 k ∨ A2 k ∨ A3 k ∨ A4 k ∨ A5 k ∨ w.heap.size ≤ k) ∧ slRep RDMember X w (.slice ao_v0_b b.conf.members.length cap_v0_b) b.conf.members := ⟨_, fun k h => h.2, fun k h => .inr (.inr (.inr (.inl h.1))), L0_b.bound⟩
  obtain ⟨ao_v1_b, cap_v1_b, rfl, hc_v1_b, hm_v1_b⟩ := L1_b.shape
  unfold maxLen at hm_v1_b
  obtain ⟨P5, ha_P5, ho_P5, L1_b⟩ : ∃ X : Nat → Prop, (∀ k, X k → k < w.heap.size) ∧ (∀ k, X k → A0 k ∨ A1 k ∨ A2 k ∨ A3 k ∨ A4 k ∨ A5 k ∨ w.heap.size ≤ k) ∧ slRep RI X w (.slice ao_v1_b b.legit.length cap_v1_b) b.legit := ⟨_, fun k h => h.2, fun k h => .inr (.inr (.inr (.inr (.inl h.1)))), L1_b.bound⟩
  obtain ⟨ao_v2_b, cap_v2_b, rfl, hc_v2_b, hm_v2_b⟩ := L2_b.shape
  unfold maxLen at hm_v2_b
  obtain ⟨P6, ha_P6, ho_P6, L2_b⟩ : ∃ X : Nat → Prop, (∀ k, X k → k < w.heap.size) ∧ (∀ k, X k → A0 k ∨ A1 k ∨ A2 k ∨ A3 k ∨ A4 k ∨ A5 k ∨ w.heap.size ≤ k) ∧ slRep RDOp X w (.slice ao_v2_b b.entry.batch.ops.length cap_v2_b) b.entry.batch.ops := ⟨_, fun k h => h.2, fun k h => .inr (.inr (.inr (.inr (.inr (.inl h.1))))), L2_b.bound⟩
  refine f_enter 59 Try.func45 rfl rfl (Nat.le_of_ble_eq_true rfl) fun a hok => ?_
  replace hok := hok.sub (ts := [0, 1]) rfl
  refine wp_seq ?_
  refine f_region hok ?_; clear hok; intro hok
  refine s_boxv hok (cs := [.int .i64 a0.k, .int .i64 a0.n, .int .u64 (a0.at_ : Int), .int .i64 a0.conf.epoch, .slice ao_v0_a0 a0.conf.members.length cap_v0_a0, .int .u64 (a0.conf.floor : Int), .slice ao_v1_a0 a0.legit.length cap_v1_a0, .int .i64 a0.entry.batch.client, .int .i64 a0.entry.batch.req, .slice ao_v2_a0 a0.entry.batch.ops.length cap_v2_a0, .int .u64 (a0.entry.ts : Int), .int .i64 a0.pin.id, .int .u64 (a0.pin.at_ : Int), .int .i64 a0.pin.left, .int .i64 a0.said.client, .int .i64 a0.said.req, .int .i64 a0.said.e, .int .i64 a0.said.pin]) rfl rfl rfl (by decide) rfl rfl rfl ?_; clear hok a; intro a w1 b1 hb0_b1 hb1_b1 hb X1 hok
  have hge_b1 : w.heap.size ≤ b1 := by have := B.size; omega
  have hz_w1 : w.heap.size ≤ w1.heap.size := hb.size
  replace B := B.blw hb
  replace L0_a0 := L0_a0.below hb
  replace L1_a0 := L1_a0.below hb
  replace L2_a0 := L2_a0.below hb
  replace L0_b := L0_b.below hb
  replace L1_b := L1_b.below hb
  replace L2_b := L2_b.below hb
  clear hb
  refine s_boxv hok (cs := [.int .i64 b.k, .int .i64 b.n, .int .u64 (b.at_ : Int), .int .i64 b.conf.epoch, .slice ao_v0_b b.conf.members.length cap_v0_b, .int .u64 (b.conf.floor : Int), .slice ao_v1_b b.legit.length cap_v1_b, .int .i64 b.entry.batch.client, .int .i64 b.entry.batch.req, .slice ao_v2_b b.entry.batch.ops.length cap_v2_b, .int .u64 (b.entry.ts : Int), .int .i64 b.pin.id, .int .u64 (b.pin.at_ : Int), .int .i64 b.pin.left, .int .i64 b.said.client, .int .i64 b.said.req, .int .i64 b.said.e, .int .i64 b.said.pin]) rfl rfl rfl (by decide) rfl rfl rfl ?_; clear hok a; intro a w2 b2 hb0_b2 hb1_b2 hb X2 hok
  have hge_b2 : w.heap.size ≤ b2 := by have := B.size; omega
  have hlt_b1_b2 : b1 < b2 := by have := X1.lt; omega
  have hz_w2 : w1.heap.size ≤ w2.heap.size := hb.size
  replace B := B.blw hb
  replace L0_a0 := L0_a0.below hb
  replace L1_a0 := L1_a0.below hb
  replace L2_a0 := L2_a0.below hb
  replace L0_b := L0_b.below hb
  replace L1_b := L1_b.below hb
  replace L2_b := L2_b.below hb
  replace X1 := X1.below hb
  clear hb
  refine s_runk TB_Refs2 hok 1 rfl rfl ?_; clear hok a; intro a hok
  refine s_end hok [0, 1, 2, 3, 4] rfl ?_; clear hok; intro hok
  refine p_then ?_
  refine wp_seq ?_
  refine f_quiet hok ?_; clear hok; intro hok
  refine q_runk TB_Refs2 hok 1 rfl rfl ?_; clear hok a; intro a hok
  refine q_ob hok (v := .int .i64 a0.k) rfl rfl (by decide) rfl (fun _ hw => Ob_load TB_Refs2 rfl rfl rfl ((X1.below hw).cell 0 rfl)) ?_; clear hok a; intro a hok
  refine q_runk TB_Refs2 hok 1 rfl rfl ?_; clear hok a; intro a hok
  refine q_ob hok (v := .int .i64 b.k) rfl rfl (by decide) rfl (fun _ hw => Ob_load TB_Refs2 rfl rfl rfl ((X2.below hw).cell 0 rfl)) ?_; clear hok a; intro a hok
  refine q_runk TB_Refs2 hok 2 rfl rfl ?_; clear hok a; intro a hok
  refine q_gob hok (c := a0.k == b.k) rfl rfl rfl rfl (by decide) rfl (by decide) rfl (fun _ => fun _ _ => Ob_c TB_Refs2 rfl) ?_; clear hok a; intro a hok
  refine q_gob hok (c := a0.k == b.k) (v := .int .i64 a0.n) rfl rfl rfl rfl (by decide) rfl (by decide) rfl (fun hg1 => ?_) ?_
  · replace hg1 := eq_of_beq hg1
    exact fun _ hw => Ob_load TB_Refs2 rfl rfl rfl ((X1.below hw).cell 1 rfl)
  clear hok a; intro a hok
  refine q_gob hok (c := a0.k == b.k) rfl rfl rfl rfl (by decide) rfl (by decide) rfl (fun _ => fun _ _ => Ob_c TB_Refs2 rfl) ?_; clear hok a; intro a hok
  refine q_gob hok (c := a0.k == b.k) (v := .int .i64 b.n) rfl rfl rfl rfl (by decide) rfl (by decide) rfl (fun hg2 => ?_) ?_
  · replace hg2 := eq_of_beq hg2
    exact fun _ hw => Ob_load TB_Refs2 rfl rfl rfl ((X2.below hw).cell 1 rfl)
  clear hok a; intro a hok
  refine q_gob hok (c := a0.k == b.k) rfl rfl rfl rfl (by decide) rfl (by decide) rfl (fun _ => fun _ _ => Ob_c TB_Refs2 rfl) ?_; clear hok a; intro a hok
  refine q_and hok (i := 5) rfl rfl rfl rfl rfl rfl rfl (by decide) rfl rfl ?_; clear hok a; intro a hok
  refine q_runk TB_Refs2 hok 1 rfl rfl ?_; clear hok a; intro a hok
  refine q_gob hok (c := (a0.k == b.k) && (a0.n == b.n)) rfl rfl rfl rfl (by decide) rfl (by decide) rfl (fun _ => fun _ _ => Ob_c TB_Refs2 rfl) ?_; clear hok a; intro a hok
  refine q_gob hok (c := (a0.k == b.k) && (a0.n == b.n)) (v := .int .u64 (a0.at_ : Int)) rfl rfl rfl rfl (by decide) rfl (by decide) rfl (fun hg3 => ?_) ?_
  · replace hg3 := And.intro (eq_of_beq (andT1 hg3)) (eq_of_beq (andT2 hg3))
    exact fun _ hw => Ob_load TB_Refs2 rfl rfl rfl ((X1.below hw).cell 2 rfl)
  clear hok a; intro a hok
  refine q_gob hok (c := (a0.k == b.k) && (a0.n == b.n)) rfl rfl rfl rfl (by decide) rfl (by decide) rfl (fun _ => fun _ _ => Ob_c TB_Refs2 rfl) ?_; clear hok a; intro a hok
  refine q_gob hok (c := (a0.k == b.k) && (a0.n == b.n)) (v := .int .u64 (b.at_ : Int)) rfl rfl rfl rfl (by decide) rfl (by decide) rfl (fun hg4 => ?_) ?_
  · replace hg4 := And.intro (eq_of_beq (andT1 hg4)) (eq_of_beq (andT2 hg4))
    exact fun _ hw => Ob_load TB_Refs2 rfl rfl rfl ((X2.below hw).cell 2 rfl)
  clear hok a; intro a hok
  refine q_gob hok (c := (a0.k == b.k) && (a0.n == b.n)) rfl rfl rfl rfl (by decide) rfl (by decide) rfl (fun _ => fun _ _ => Ob_c TB_Refs2 rfl) ?_; clear hok a; intro a hok
  refine q_and hok (i := 12) rfl rfl rfl rfl rfl rfl rfl (by decide) rfl rfl ?_; clear hok a; intro a hok
  refine q_runk TB_Refs2 hok 1 rfl rfl ?_; clear hok a; intro a hok
  refine q_gob hok (c := ((a0.k == b.k) && (a0.n == b.n)) && ((a0.at_ : Int) == (b.at_ : Int))) rfl rfl rfl rfl (by decide) rfl (by decide) rfl (fun _ => fun _ _ => Ob_c TB_Refs2 rfl) ?_; clear hok a; intro a hok
  refine q_gob hok (c := ((a0.k == b.k) && (a0.n == b.n)) && ((a0.at_ : Int) == (b.at_ : Int))) (v := .agg #[.int .i64 a0.conf.epoch, .slice ao_v0_a0 a0.conf.members.length cap_v0_a0, .int .u64 (a0.conf.floor : Int)]) rfl rfl rfl rfl (by decide) rfl (by decide) rfl (fun hg5 => ?_) ?_
  · replace hg5 := And.intro (And.intro (eq_of_beq (andT1 (andT1 hg5))) (eq_of_beq (andT2 (andT1 hg5)))) (eq_of_beq (andT2 hg5))
    exact fun _ hw => Ob_loads TB_Refs2 (cs := [.int .i64 a0.conf.epoch, .slice ao_v0_a0 a0.conf.members.length cap_v0_a0, .int .u64 (a0.conf.floor : Int)]) rfl rfl rfl ((X1.below hw).part 3 rfl)
  clear hok a; intro a hok
  refine q_gob hok (c := ((a0.k == b.k) && (a0.n == b.n)) && ((a0.at_ : Int) == (b.at_ : Int))) rfl rfl rfl rfl (by decide) rfl (by decide) rfl (fun _ => fun _ _ => Ob_c TB_Refs2 rfl) ?_; clear hok a; intro a hok
  refine q_gob hok (c := ((a0.k == b.k) && (a0.n == b.n)) && ((a0.at_ : Int) == (b.at_ : Int))) (v := .agg #[.int .i64 b.conf.epoch, .slice ao_v0_b b.conf.members.length cap_v0_b, .int .u64 (b.conf.floor : Int)]) rfl rfl rfl rfl (by decide) rfl (by decide) rfl (fun hg6 => ?_) ?_
  · replace hg6 := And.intro (And.intro (eq_of_beq (andT1 (andT1 hg6))) (eq_of_beq (andT2 (andT1 hg6)))) (eq_of_beq (andT2 hg6))
    exact fun _ hw => Ob_loads TB_Refs2 (cs := [.int .i64 b.conf.epoch, .slice ao_v0_b b.conf.members.length cap_v0_b, .int .u64 (b.conf.floor : Int)]) rfl rfl rfl ((X2.below hw).part 3 rfl)
  clear hok a; intro a hok
  refine q_gcall hok (caps := #[]) (b := ((a0.k == b.k) && (a0.n == b.n)) && ((a0.at_ : Int) == (b.at_ : Int))) (v := .bool (sameC (⟨a0.conf.epoch, a0.conf.members, a0.conf.floor⟩ : DConf) (⟨b.conf.epoch, b.conf.members, b.conf.floor⟩ : DConf))) fn_40_Refs2 rfl rfl rfl rfl rfl rfl rfl (by decide) rfl (by decide) rfl rfl (fun hg7 => ?_) ?_
  · replace hg7 := And.intro (And.intro (eq_of_beq (andT1 (andT1 hg7))) (eq_of_beq (andT2 (andT1 hg7)))) (eq_of_beq (andT2 hg7))
    exact fun _ hw => c_ref07_Same (⟨a0.conf.epoch, a0.conf.members, a0.conf.floor⟩ : DConf) _ (⟨b.conf.epoch, b.conf.members, b.conf.floor⟩ : DConf) _ _ (L0_a0.below hw) ⟨h_a0.2.2.2.1.1, h_a0.2.2.2.1.2⟩ (L0_b.below hw) ⟨h_b.2.2.2.1.1, h_b.2.2.2.1.2⟩
  clear hok a; intro a hok
  refine q_and hok (i := 19) rfl rfl rfl rfl rfl rfl rfl (by decide) rfl rfl ?_; clear hok a; intro a hok
  refine q_runk TB_Refs2 hok 1 rfl rfl ?_; clear hok a; intro a hok
  refine q_gob hok (c := (((a0.k == b.k) && (a0.n == b.n)) && ((a0.at_ : Int) == (b.at_ : Int))) && (sameC (⟨a0.conf.epoch, a0.conf.members, a0.conf.floor⟩ : DConf) (⟨b.conf.epoch, b.conf.members, b.conf.floor⟩ : DConf))) rfl rfl rfl rfl (by decide) rfl (by decide) rfl (fun _ => fun _ _ => Ob_c TB_Refs2 rfl) ?_; clear hok a; intro a hok
  refine q_gob hok (c := (((a0.k == b.k) && (a0.n == b.n)) && ((a0.at_ : Int) == (b.at_ : Int))) && (sameC (⟨a0.conf.epoch, a0.conf.members, a0.conf.floor⟩ : DConf) (⟨b.conf.epoch, b.conf.members, b.conf.floor⟩ : DConf))) (v := .slice ao_v1_a0 a0.legit.length cap_v1_a0) rfl rfl rfl rfl (by decide) rfl (by decide) rfl (fun hg8 => ?_) ?_
  · replace hg8 := And.intro (And.intro (And.intro (eq_of_beq (andT1 (andT1 (andT1 hg8)))) (eq_of_beq (andT2 (andT1 (andT1 hg8))))) (eq_of_beq (andT2 (andT1 hg8)))) ((andT2 hg8))
    exact fun _ hw => Ob_load TB_Refs2 rfl rfl rfl ((X1.below hw).cell 6 rfl)
  clear hok a; intro a hok
  refine q_gob hok (c := (((a0.k == b.k) && (a0.n == b.n)) && ((a0.at_ : Int) == (b.at_ : Int))) && (sameC (⟨a0.conf.epoch, a0.conf.members, a0.conf.floor⟩ : DConf) (⟨b.conf.epoch, b.conf.members, b.conf.floor⟩ : DConf))) rfl rfl rfl rfl (by decide) rfl (by decide) rfl (fun _ => fun _ _ => Ob_c TB_Refs2 rfl) ?_; clear hok a; intro a hok
  refine q_gob hok (c := (((a0.k == b.k) && (a0.n == b.n)) && ((a0.at_ : Int) == (b.at_ : Int))) && (sameC (⟨a0.conf.epoch, a0.conf.members, a0.conf.floor⟩ : DConf) (⟨b.conf.epoch, b.conf.members, b.conf.floor⟩ : DConf))) (v := .slice ao_v1_b b.legit.length cap_v1_b) rfl rfl rfl rfl (by decide) rfl (by decide) rfl (fun hg9 => ?_) ?_
  · replace hg9 := And.intro (And.intro (And.intro (eq_of_beq (andT1 (andT1 (andT1 hg9)))) (eq_of_beq (andT2 (andT1 (andT1 hg9))))) (eq_of_beq (andT2 (andT1 hg9)))) ((andT2 hg9))
    exact fun _ hw => Ob_load TB_Refs2 rfl rfl rfl ((X2.below hw).cell 6 rfl)
  clear hok a; intro a hok
  refine q_gcall hok (caps := #[]) (b := (((a0.k == b.k) && (a0.n == b.n)) && ((a0.at_ : Int) == (b.at_ : Int))) && (sameC (⟨a0.conf.epoch, a0.conf.members, a0.conf.floor⟩ : DConf) (⟨b.conf.epoch, b.conf.members, b.conf.floor⟩ : DConf))) (v := .bool (sameBy eqD a0.legit b.legit)) fn_61_Refs2 rfl rfl rfl rfl rfl rfl rfl (by decide) rfl (by decide) rfl rfl (fun hg10 => ?_) ?_
  · replace hg10 := And.intro (And.intro (And.intro (eq_of_beq (andT1 (andT1 (andT1 hg10)))) (eq_of_beq (andT2 (andT1 (andT1 hg10))))) (eq_of_beq (andT2 (andT1 hg10)))) ((andT2 hg10))
    exact fun _ hw => c_ref10_SameInts _ a0.legit _ b.legit _ (L1_a0.below hw) (L1_b.below hw)
  clear hok a; intro a hok
  refine q_and hok (i := 26) rfl rfl rfl rfl rfl rfl rfl (by decide) rfl rfl ?_; clear hok a; intro a hok
  refine q_runk TB_Refs2 hok 1 rfl rfl ?_; clear hok a; intro a hok
  refine q_gob hok (c := ((((a0.k == b.k) && (a0.n == b.n)) && ((a0.at_ : Int) == (b.at_ : Int))) && (sameC (⟨a0.conf.epoch, a0.conf.members, a0.conf.floor⟩ : DConf) (⟨b.conf.epoch, b.conf.members, b.conf.floor⟩ : DConf))) && (sameBy eqD a0.legit b.legit)) rfl rfl rfl rfl (by decide) rfl (by decide) rfl (fun _ => fun _ _ => Ob_c TB_Refs2 rfl) ?_; clear hok a; intro a hok
  refine q_gob hok (c := ((((a0.k == b.k) && (a0.n == b.n)) && ((a0.at_ : Int) == (b.at_ : Int))) && (sameC (⟨a0.conf.epoch, a0.conf.members, a0.conf.floor⟩ : DConf) (⟨b.conf.epoch, b.conf.members, b.conf.floor⟩ : DConf))) && (sameBy eqD a0.legit b.legit)) (v := .agg #[.int .i64 a0.entry.batch.client, .int .i64 a0.entry.batch.req, .slice ao_v2_a0 a0.entry.batch.ops.length cap_v2_a0, .int .u64 (a0.entry.ts : Int)]) rfl rfl rfl rfl (by decide) rfl (by decide) rfl (fun hg11 => ?_) ?_
  · replace hg11 := And.intro (And.intro (And.intro (And.intro (eq_of_beq (andT1 (andT1 (andT1 (andT1 hg11))))) (eq_of_beq (andT2 (andT1 (andT1 (andT1 hg11)))))) (eq_of_beq (andT2 (andT1 (andT1 hg11))))) ((andT2 (andT1 hg11)))) ((andT2 hg11))
    exact fun _ hw => Ob_loads TB_Refs2 (cs := [.int .i64 a0.entry.batch.client, .int .i64 a0.entry.batch.req, .slice ao_v2_a0 a0.entry.batch.ops.length cap_v2_a0, .int .u64 (a0.entry.ts : Int)]) rfl rfl rfl ((X1.below hw).part 7 rfl)
  clear hok a; intro a hok
  refine q_gob hok (c := ((((a0.k == b.k) && (a0.n == b.n)) && ((a0.at_ : Int) == (b.at_ : Int))) && (sameC (⟨a0.conf.epoch, a0.conf.members, a0.conf.floor⟩ : DConf) (⟨b.conf.epoch, b.conf.members, b.conf.floor⟩ : DConf))) && (sameBy eqD a0.legit b.legit)) rfl rfl rfl rfl (by decide) rfl (by decide) rfl (fun _ => fun _ _ => Ob_c TB_Refs2 rfl) ?_; clear hok a; intro a hok
  refine q_gob hok (c := ((((a0.k == b.k) && (a0.n == b.n)) && ((a0.at_ : Int) == (b.at_ : Int))) && (sameC (⟨a0.conf.epoch, a0.conf.members, a0.conf.floor⟩ : DConf) (⟨b.conf.epoch, b.conf.members, b.conf.floor⟩ : DConf))) && (sameBy eqD a0.legit b.legit)) (v := .agg #[.int .i64 b.entry.batch.client, .int .i64 b.entry.batch.req, .slice ao_v2_b b.entry.batch.ops.length cap_v2_b, .int .u64 (b.entry.ts : Int)]) rfl rfl rfl rfl (by decide) rfl (by decide) rfl (fun hg12 => ?_) ?_
  · replace hg12 := And.intro (And.intro (And.intro (And.intro (eq_of_beq (andT1 (andT1 (andT1 (andT1 hg12))))) (eq_of_beq (andT2 (andT1 (andT1 (andT1 hg12)))))) (eq_of_beq (andT2 (andT1 (andT1 hg12))))) ((andT2 (andT1 hg12)))) ((andT2 hg12))
    exact fun _ hw => Ob_loads TB_Refs2 (cs := [.int .i64 b.entry.batch.client, .int .i64 b.entry.batch.req, .slice ao_v2_b b.entry.batch.ops.length cap_v2_b, .int .u64 (b.entry.ts : Int)]) rfl rfl rfl ((X2.below hw).part 7 rfl)
  clear hok a; intro a hok
  refine q_gcall hok (caps := #[]) (b := ((((a0.k == b.k) && (a0.n == b.n)) && ((a0.at_ : Int) == (b.at_ : Int))) && (sameC (⟨a0.conf.epoch, a0.conf.members, a0.conf.floor⟩ : DConf) (⟨b.conf.epoch, b.conf.members, b.conf.floor⟩ : DConf))) && (sameBy eqD a0.legit b.legit)) (v := .bool (sameE (⟨(⟨a0.entry.batch.client, a0.entry.batch.req, a0.entry.batch.ops⟩ : DBatch), a0.entry.ts⟩ : DEntry) (⟨(⟨b.entry.batch.client, b.entry.batch.req, b.entry.batch.ops⟩ : DBatch), b.entry.ts⟩ : DEntry))) fn_60_Refs2 rfl rfl rfl rfl rfl rfl rfl (by decide) rfl (by decide) rfl rfl (fun hg13 => ?_) ?_
  · replace hg13 := And.intro (And.intro (And.intro (And.intro (eq_of_beq (andT1 (andT1 (andT1 (andT1 hg13))))) (eq_of_beq (andT2 (andT1 (andT1 (andT1 hg13)))))) (eq_of_beq (andT2 (andT1 (andT1 hg13))))) ((andT2 (andT1 hg13)))) ((andT2 hg13))
    exact fun _ hw => c_ref08_Same (⟨(⟨a0.entry.batch.client, a0.entry.batch.req, a0.entry.batch.ops⟩ : DBatch), a0.entry.ts⟩ : DEntry) _ (⟨(⟨b.entry.batch.client, b.entry.batch.req, b.entry.batch.ops⟩ : DBatch), b.entry.ts⟩ : DEntry) _ _ (L2_a0.below hw) ⟨⟨h_a0.2.2.2.2.1.1.1, h_a0.2.2.2.2.1.1.2⟩, h_a0.2.2.2.2.1.2⟩ (L2_b.below hw) ⟨⟨h_b.2.2.2.2.1.1.1, h_b.2.2.2.2.1.1.2⟩, h_b.2.2.2.2.1.2⟩
  clear hok a; intro a hok
  refine q_and hok (i := 33) rfl rfl rfl rfl rfl rfl rfl (by decide) rfl rfl ?_; clear hok a; intro a hok
  refine q_runk TB_Refs2 hok 1 rfl rfl ?_; clear hok a; intro a hok
  refine q_gob hok (c := (((((a0.k == b.k) && (a0.n == b.n)) && ((a0.at_ : Int) == (b.at_ : Int))) && (sameC (⟨a0.conf.epoch, a0.conf.members, a0.conf.floor⟩ : DConf) (⟨b.conf.epoch, b.conf.members, b.conf.floor⟩ : DConf))) && (sameBy eqD a0.legit b.legit)) && (sameE (⟨(⟨a0.entry.batch.client, a0.entry.batch.req, a0.entry.batch.ops⟩ : DBatch), a0.entry.ts⟩ : DEntry) (⟨(⟨b.entry.batch.client, b.entry.batch.req, b.entry.batch.ops⟩ : DBatch), b.entry.ts⟩ : DEntry))) rfl rfl rfl rfl (by decide) rfl (by decide) rfl (fun _ => fun _ _ => Ob_c TB_Refs2 rfl) ?_; clear hok a; intro a hok
  refine q_gob hok (c := (((((a0.k == b.k) && (a0.n == b.n)) && ((a0.at_ : Int) == (b.at_ : Int))) && (sameC (⟨a0.conf.epoch, a0.conf.members, a0.conf.floor⟩ : DConf) (⟨b.conf.epoch, b.conf.members, b.conf.floor⟩ : DConf))) && (sameBy eqD a0.legit b.legit)) && (sameE (⟨(⟨a0.entry.batch.client, a0.entry.batch.req, a0.entry.batch.ops⟩ : DBatch), a0.entry.ts⟩ : DEntry) (⟨(⟨b.entry.batch.client, b.entry.batch.req, b.entry.batch.ops⟩ : DBatch), b.entry.ts⟩ : DEntry))) (v := .agg #[.int .i64 a0.pin.id, .int .u64 (a0.pin.at_ : Int), .int .i64 a0.pin.left]) rfl rfl rfl rfl (by decide) rfl (by decide) rfl (fun hg14 => ?_) ?_
  · replace hg14 := And.intro (And.intro (And.intro (And.intro (And.intro (eq_of_beq (andT1 (andT1 (andT1 (andT1 (andT1 hg14)))))) (eq_of_beq (andT2 (andT1 (andT1 (andT1 (andT1 hg14))))))) (eq_of_beq (andT2 (andT1 (andT1 (andT1 hg14)))))) ((andT2 (andT1 (andT1 hg14))))) ((andT2 (andT1 hg14)))) ((andT2 hg14))
    exact fun _ hw => Ob_loads TB_Refs2 (cs := [.int .i64 a0.pin.id, .int .u64 (a0.pin.at_ : Int), .int .i64 a0.pin.left]) rfl rfl rfl ((X1.below hw).part 11 rfl)
  clear hok a; intro a hok
  refine q_gob hok (c := (((((a0.k == b.k) && (a0.n == b.n)) && ((a0.at_ : Int) == (b.at_ : Int))) && (sameC (⟨a0.conf.epoch, a0.conf.members, a0.conf.floor⟩ : DConf) (⟨b.conf.epoch, b.conf.members, b.conf.floor⟩ : DConf))) && (sameBy eqD a0.legit b.legit)) && (sameE (⟨(⟨a0.entry.batch.client, a0.entry.batch.req, a0.entry.batch.ops⟩ : DBatch), a0.entry.ts⟩ : DEntry) (⟨(⟨b.entry.batch.client, b.entry.batch.req, b.entry.batch.ops⟩ : DBatch), b.entry.ts⟩ : DEntry))) rfl rfl rfl rfl (by decide) rfl (by decide) rfl (fun _ => fun _ _ => Ob_c TB_Refs2 rfl) ?_; clear hok a; intro a hok
  refine q_gob hok (c := (((((a0.k == b.k) && (a0.n == b.n)) && ((a0.at_ : Int) == (b.at_ : Int))) && (sameC (⟨a0.conf.epoch, a0.conf.members, a0.conf.floor⟩ : DConf) (⟨b.conf.epoch, b.conf.members, b.conf.floor⟩ : DConf))) && (sameBy eqD a0.legit b.legit)) && (sameE (⟨(⟨a0.entry.batch.client, a0.entry.batch.req, a0.entry.batch.ops⟩ : DBatch), a0.entry.ts⟩ : DEntry) (⟨(⟨b.entry.batch.client, b.entry.batch.req, b.entry.batch.ops⟩ : DBatch), b.entry.ts⟩ : DEntry))) (v := .agg #[.int .i64 b.pin.id, .int .u64 (b.pin.at_ : Int), .int .i64 b.pin.left]) rfl rfl rfl rfl (by decide) rfl (by decide) rfl (fun hg15 => ?_) ?_
  · replace hg15 := And.intro (And.intro (And.intro (And.intro (And.intro (eq_of_beq (andT1 (andT1 (andT1 (andT1 (andT1 hg15)))))) (eq_of_beq (andT2 (andT1 (andT1 (andT1 (andT1 hg15))))))) (eq_of_beq (andT2 (andT1 (andT1 (andT1 hg15)))))) ((andT2 (andT1 (andT1 hg15))))) ((andT2 (andT1 hg15)))) ((andT2 hg15))
    exact fun _ hw => Ob_loads TB_Refs2 (cs := [.int .i64 b.pin.id, .int .u64 (b.pin.at_ : Int), .int .i64 b.pin.left]) rfl rfl rfl ((X2.below hw).part 11 rfl)
  clear hok a; intro a hok
  refine q_gob hok (c := (((((a0.k == b.k) && (a0.n == b.n)) && ((a0.at_ : Int) == (b.at_ : Int))) && (sameC (⟨a0.conf.epoch, a0.conf.members, a0.conf.floor⟩ : DConf) (⟨b.conf.epoch, b.conf.members, b.conf.floor⟩ : DConf))) && (sameBy eqD a0.legit b.legit)) && (sameE (⟨(⟨a0.entry.batch.client, a0.entry.batch.req, a0.entry.batch.ops⟩ : DBatch), a0.entry.ts⟩ : DEntry) (⟨(⟨b.entry.batch.client, b.entry.batch.req, b.entry.batch.ops⟩ : DBatch), b.entry.ts⟩ : DEntry))) (v := .bool (decide ((⟨a0.pin.id, a0.pin.at_, a0.pin.left⟩ : DPin) = (⟨b.pin.id, b.pin.at_, b.pin.left⟩ : DPin)))) rfl rfl rfl rfl (by decide) rfl (by decide) rfl (fun hg16 => ?_) ?_
  · replace hg16 := And.intro (And.intro (And.intro (And.intro (And.intro (eq_of_beq (andT1 (andT1 (andT1 (andT1 (andT1 hg16)))))) (eq_of_beq (andT2 (andT1 (andT1 (andT1 (andT1 hg16))))))) (eq_of_beq (andT2 (andT1 (andT1 (andT1 hg16)))))) ((andT2 (andT1 (andT1 hg16))))) ((andT2 (andT1 hg16)))) ((andT2 hg16))
    exact fun _ hw => Ob_bin rfl rfl rfl (eqg_DPin _ _ _ _ _ _) (eql_DPin ((⟨a0.pin.id, a0.pin.at_, a0.pin.left⟩ : DPin)) ((⟨b.pin.id, b.pin.at_, b.pin.left⟩ : DPin)) _)
  clear hok a; intro a hok
  refine q_and hok (i := 40) rfl rfl rfl rfl rfl rfl rfl (by decide) rfl rfl ?_; clear hok a; intro a hok
  refine q_runk TB_Refs2 hok 1 rfl rfl ?_; clear hok a; intro a hok
  refine q_gob hok (c := ((((((a0.k == b.k) && (a0.n == b.n)) && ((a0.at_ : Int) == (b.at_ : Int))) && (sameC (⟨a0.conf.epoch, a0.conf.members, a0.conf.floor⟩ : DConf) (⟨b.conf.epoch, b.conf.members, b.conf.floor⟩ : DConf))) && (sameBy eqD a0.legit b.legit)) && (sameE (⟨(⟨a0.entry.batch.client, a0.entry.batch.req, a0.entry.batch.ops⟩ : DBatch), a0.entry.ts⟩ : DEntry) (⟨(⟨b.entry.batch.client, b.entry.batch.req, b.entry.batch.ops⟩ : DBatch), b.entry.ts⟩ : DEntry))) && (decide ((⟨a0.pin.id, a0.pin.at_, a0.pin.left⟩ : DPin) = (⟨b.pin.id, b.pin.at_, b.pin.left⟩ : DPin)))) rfl rfl rfl rfl (by decide) rfl (by decide) rfl (fun _ => fun _ _ => Ob_c TB_Refs2 rfl) ?_; clear hok a; intro a hok
  refine q_gob hok (c := ((((((a0.k == b.k) && (a0.n == b.n)) && ((a0.at_ : Int) == (b.at_ : Int))) && (sameC (⟨a0.conf.epoch, a0.conf.members, a0.conf.floor⟩ : DConf) (⟨b.conf.epoch, b.conf.members, b.conf.floor⟩ : DConf))) && (sameBy eqD a0.legit b.legit)) && (sameE (⟨(⟨a0.entry.batch.client, a0.entry.batch.req, a0.entry.batch.ops⟩ : DBatch), a0.entry.ts⟩ : DEntry) (⟨(⟨b.entry.batch.client, b.entry.batch.req, b.entry.batch.ops⟩ : DBatch), b.entry.ts⟩ : DEntry))) && (decide ((⟨a0.pin.id, a0.pin.at_, a0.pin.left⟩ : DPin) = (⟨b.pin.id, b.pin.at_, b.pin.left⟩ : DPin)))) (v := .agg #[.int .i64 a0.said.client, .int .i64 a0.said.req, .int .i64 a0.said.e, .int .i64 a0.said.pin]) rfl rfl rfl rfl (by decide) rfl (by decide) rfl (fun hg17 => ?_) ?_
  · replace hg17 := And.intro (And.intro (And.intro (And.intro (And.intro (And.intro (eq_of_beq (andT1 (andT1 (andT1 (andT1 (andT1 (andT1 hg17))))))) (eq_of_beq (andT2 (andT1 (andT1 (andT1 (andT1 (andT1 hg17)))))))) (eq_of_beq (andT2 (andT1 (andT1 (andT1 (andT1 hg17))))))) ((andT2 (andT1 (andT1 (andT1 hg17)))))) ((andT2 (andT1 (andT1 hg17))))) ((andT2 (andT1 hg17)))) (of_decide_eq_true (andT2 hg17))
    exact fun _ hw => Ob_loads TB_Refs2 (cs := [.int .i64 a0.said.client, .int .i64 a0.said.req, .int .i64 a0.said.e, .int .i64 a0.said.pin]) rfl rfl rfl ((X1.below hw).part 14 rfl)
  clear hok a; intro a hok
  refine q_gob hok (c := ((((((a0.k == b.k) && (a0.n == b.n)) && ((a0.at_ : Int) == (b.at_ : Int))) && (sameC (⟨a0.conf.epoch, a0.conf.members, a0.conf.floor⟩ : DConf) (⟨b.conf.epoch, b.conf.members, b.conf.floor⟩ : DConf))) && (sameBy eqD a0.legit b.legit)) && (sameE (⟨(⟨a0.entry.batch.client, a0.entry.batch.req, a0.entry.batch.ops⟩ : DBatch), a0.entry.ts⟩ : DEntry) (⟨(⟨b.entry.batch.client, b.entry.batch.req, b.entry.batch.ops⟩ : DBatch), b.entry.ts⟩ : DEntry))) && (decide ((⟨a0.pin.id, a0.pin.at_, a0.pin.left⟩ : DPin) = (⟨b.pin.id, b.pin.at_, b.pin.left⟩ : DPin)))) rfl rfl rfl rfl (by decide) rfl (by decide) rfl (fun _ => fun _ _ => Ob_c TB_Refs2 rfl) ?_; clear hok a; intro a hok
  refine q_gob hok (c := ((((((a0.k == b.k) && (a0.n == b.n)) && ((a0.at_ : Int) == (b.at_ : Int))) && (sameC (⟨a0.conf.epoch, a0.conf.members, a0.conf.floor⟩ : DConf) (⟨b.conf.epoch, b.conf.members, b.conf.floor⟩ : DConf))) && (sameBy eqD a0.legit b.legit)) && (sameE (⟨(⟨a0.entry.batch.client, a0.entry.batch.req, a0.entry.batch.ops⟩ : DBatch), a0.entry.ts⟩ : DEntry) (⟨(⟨b.entry.batch.client, b.entry.batch.req, b.entry.batch.ops⟩ : DBatch), b.entry.ts⟩ : DEntry))) && (decide ((⟨a0.pin.id, a0.pin.at_, a0.pin.left⟩ : DPin) = (⟨b.pin.id, b.pin.at_, b.pin.left⟩ : DPin)))) (v := .agg #[.int .i64 b.said.client, .int .i64 b.said.req, .int .i64 b.said.e, .int .i64 b.said.pin]) rfl rfl rfl rfl (by decide) rfl (by decide) rfl (fun hg18 => ?_) ?_
  · replace hg18 := And.intro (And.intro (And.intro (And.intro (And.intro (And.intro (eq_of_beq (andT1 (andT1 (andT1 (andT1 (andT1 (andT1 hg18))))))) (eq_of_beq (andT2 (andT1 (andT1 (andT1 (andT1 (andT1 hg18)))))))) (eq_of_beq (andT2 (andT1 (andT1 (andT1 (andT1 hg18))))))) ((andT2 (andT1 (andT1 (andT1 hg18)))))) ((andT2 (andT1 (andT1 hg18))))) ((andT2 (andT1 hg18)))) (of_decide_eq_true (andT2 hg18))
    exact fun _ hw => Ob_loads TB_Refs2 (cs := [.int .i64 b.said.client, .int .i64 b.said.req, .int .i64 b.said.e, .int .i64 b.said.pin]) rfl rfl rfl ((X2.below hw).part 14 rfl)
  clear hok a; intro a hok
  refine q_gob hok (c := ((((((a0.k == b.k) && (a0.n == b.n)) && ((a0.at_ : Int) == (b.at_ : Int))) && (sameC (⟨a0.conf.epoch, a0.conf.members, a0.conf.floor⟩ : DConf) (⟨b.conf.epoch, b.conf.members, b.conf.floor⟩ : DConf))) && (sameBy eqD a0.legit b.legit)) && (sameE (⟨(⟨a0.entry.batch.client, a0.entry.batch.req, a0.entry.batch.ops⟩ : DBatch), a0.entry.ts⟩ : DEntry) (⟨(⟨b.entry.batch.client, b.entry.batch.req, b.entry.batch.ops⟩ : DBatch), b.entry.ts⟩ : DEntry))) && (decide ((⟨a0.pin.id, a0.pin.at_, a0.pin.left⟩ : DPin) = (⟨b.pin.id, b.pin.at_, b.pin.left⟩ : DPin)))) (v := .bool (decide ((⟨a0.said.client, a0.said.req, a0.said.e, a0.said.pin⟩ : DAnswer) = (⟨b.said.client, b.said.req, b.said.e, b.said.pin⟩ : DAnswer)))) rfl rfl rfl rfl (by decide) rfl (by decide) rfl (fun hg19 => ?_) ?_
  · replace hg19 := And.intro (And.intro (And.intro (And.intro (And.intro (And.intro (eq_of_beq (andT1 (andT1 (andT1 (andT1 (andT1 (andT1 hg19))))))) (eq_of_beq (andT2 (andT1 (andT1 (andT1 (andT1 (andT1 hg19)))))))) (eq_of_beq (andT2 (andT1 (andT1 (andT1 (andT1 hg19))))))) ((andT2 (andT1 (andT1 (andT1 hg19)))))) ((andT2 (andT1 (andT1 hg19))))) ((andT2 (andT1 hg19)))) (of_decide_eq_true (andT2 hg19))
    exact fun _ hw => Ob_bin rfl rfl rfl (eqg_DAnswer _ _ _ _ _ _) (eql_DAnswer ((⟨a0.said.client, a0.said.req, a0.said.e, a0.said.pin⟩ : DAnswer)) ((⟨b.said.client, b.said.req, b.said.e, b.said.pin⟩ : DAnswer)) _)
  clear hok a; intro a hok
  refine q_and hok (i := 47) rfl rfl rfl rfl rfl rfl rfl (by decide) rfl rfl ?_; clear hok a; intro a hok
  refine q_runk TB_Refs2 hok 1 rfl rfl ?_; clear hok a; intro a hok
  refine q_end hok [0, 1, 2, 3, 4] rfl ?_; clear hok; intro w3 hb hok
  have hz_w3 : w2.heap.size ≤ w3.heap.size := hb.size
  replace B := B.blw hb
  replace L0_a0 := L0_a0.below hb
  replace L1_a0 := L1_a0.below hb
  replace L2_a0 := L2_a0.below hb
  replace L0_b := L0_b.below hb
  replace L1_b := L1_b.below hb
  replace L2_b := L2_b.below hb
  replace X1 := X1.below hb
  replace X2 := X2.below hb
  clear hb
  refine p_then ?_
  refine wp_ret ?_
  refine f_ret hok (run_results1 rfl hok rfl) ?_
  refine ⟨?_, B.toBelow⟩
  · clear hok B L0_a0 L1_a0 L2_a0 L0_b L1_b L2_b X1 X2 hc_v0_a0 hm_v0_a0 ha_P1 ho_P1 hc_v1_a0 hm_v1_a0 ha_P2 ho_P2 hc_v2_a0 hm_v2_a0 ha_P3 ho_P3 hc_v0_b hm_v0_b ha_P4 ho_P4 hc_v1_b hm_v1_b ha_P5 ho_P5 hc_v2_b hm_v2_b ha_P6 ho_P6 hb0_b1 hb1_b1 hge_b1 hz_w1 hb0_b2 hb1_b2 hge_b2 hlt_b1_b2 hz_w2 hz_w3
    simp only [beq_cast]; rfl


end Go.Proofs.Ytmdoimpeacndaaa
