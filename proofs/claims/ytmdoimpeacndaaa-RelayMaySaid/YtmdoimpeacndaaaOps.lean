/- The walks of 'ops' and its reference, as far as checking goes; keys. -/
import Derived.Test.YtmdoimpeacndaaaSt5
import Derived.Test.YtmdoimpeacndaaaData
import Derived.Test.YtmdoimpeacndaaaProg
namespace Go.Proofs.Ytmdoimpeacndaaa
open Go.RowKit

def TB_OpsL : TabL := ⟨[(33792, 0), (33793, 1), (33794, 2), (118784, 0), (118785, 1), (118786, 2)], [9], [], [(31, (116, 3))], [(3, (1, false)), (4, (1, false)), (9, (1, false)), (31, (1, false)), (116, (3, true))]⟩
def TB_Ops : Tab Try.prog := ⟨TB_OpsL, by kernel_rfl⟩
theorem fn_70_Ops : IsFn Try.prog 70 := ⟨_, Try.func70, by kernel_rfl, by kernel_rfl⟩
theorem fn_81_Ops : IsFn Try.prog 81 := ⟨_, Try.func81, by kernel_rfl, by kernel_rfl⟩
theorem fn_82_Ops : IsFn Try.prog 82 := ⟨_, Try.func82, by kernel_rfl, by kernel_rfl⟩

def keyL (k : ByteArray) : Int := if k.size < 1 ∨ 8 < k.size then 10 else 0

set_option maxHeartbeats 1000000 in
theorem c_ref05_Check (k : ByteArray) (w : World) (h_k : k.size ≤ maxLen) :
    Calls Try.prog 70 #[.string k] w (Ret fun r w' => r = .int .i64 (keyL k) ∧ Below w.heap.size w w') := by
  have B : Bt [] w w := Bt.refl _ _
  refine f_enter 11 Try.func70 rfl rfl (Nat.le_of_ble_eq_true rfl) fun a hok => ?_
  replace hok := hok.sub (ts := [0]) rfl
  refine wp_seq ?_
  refine f_region hok ?_; clear hok; intro hok
  refine s_runk TB_Ops hok 1 rfl rfl ?_; clear hok a; intro a hok
  refine s_end hok [0, 2] rfl ?_; clear hok; intro hok
  refine p_then ?_
  refine wp_seq ?_
  refine wp_seq ?_
  refine f_region hok ?_; clear hok; intro hok
  refine s_runk TB_Ops hok 4 rfl rfl ?_; clear hok a; intro a hok
  refine s_gob hok (c := decide ((k.size : Int) < 1)) rfl rfl rfl rfl (by decide) rfl (by decide) rfl (fun _ => Ob_c TB_Ops rfl) ?_; clear hok a; intro a hok
  refine s_gob hok (c := decide ((k.size : Int) < 1)) rfl rfl rfl rfl (by decide) rfl (by decide) rfl (fun _ => Ob_c TB_Ops rfl) ?_; clear hok a; intro a hok
  refine s_gob hok (c := decide ((k.size : Int) < 1)) rfl rfl rfl rfl (by decide) rfl (by decide) rfl (fun _ => Ob_c TB_Ops rfl) ?_; clear hok a; intro a hok
  refine s_or hok (i := 3) rfl rfl rfl rfl rfl rfl rfl (by decide) rfl rfl ?_; clear hok a; intro a hok
  refine s_end hok [0, 2, 10] rfl ?_; clear hok; intro hok
  refine p_then ?_
  refine f_cond hok rfl (fun hc1 => ?_) (fun hc1 => ?_)
  · replace hc1 := orT hc1 (fun h => of_decide_eq_true h) (fun h => of_decide_eq_true h)
    refine wp_seq ?_
    refine f_region hok ?_; clear hok; intro hok
    refine s_runk TB_Ops hok 1 rfl rfl ?_; clear hok a; intro a hok
    refine s_end hok [0, 2, 10] rfl ?_; clear hok; intro hok
    refine p_then ?_
    refine wp_ret ?_
    refine p_then_r ?_
    refine f_ret hok (run_results1 rfl hok rfl) ?_
    refine ⟨?_, B.toBelow⟩
    · clear hok B
      rw [keyL, if_pos (by omega)]
  · replace hc1 := And.intro (of_decide_eq_false (orF1 hc1)) (of_decide_eq_false (orF2 hc1))
    refine wp_skip ?_
    refine p_then ?_
    refine wp_seq ?_
    refine f_region hok ?_; clear hok; intro hok
    refine s_runk TB_Ops hok 1 rfl rfl ?_; clear hok a; intro a hok
    refine s_end hok [0, 2, 10] rfl ?_; clear hok; intro hok
    refine p_then ?_
    refine wp_ret ?_
    refine f_ret hok (run_results1 rfl hok rfl) ?_
    refine ⟨?_, B.toBelow⟩
    · clear hok B
      rw [keyL, if_neg (by omega)]


set_option maxHeartbeats 1000000 in
theorem c_keys_Check (k : ByteArray) (w : World) (h_k : k.size ≤ maxLen) :
    Calls Try.prog 82 #[.string k] w (Ret fun r w' => r = .int .i64 (keyL k) ∧ Below w.heap.size w w') := by
  have B : Bt [] w w := Bt.refl _ _
  refine f_enter 10 Try.func82 rfl rfl (Nat.le_of_ble_eq_true rfl) fun a hok => ?_
  replace hok := hok.sub (ts := [0]) rfl
  refine wp_seq ?_
  refine f_region hok ?_; clear hok; intro hok
  refine s_runk TB_Ops hok 1 rfl rfl ?_; clear hok a; intro a hok
  refine s_end hok [0, 2] rfl ?_; clear hok; intro hok
  refine p_then ?_
  refine wp_seq ?_
  refine wp_seq ?_
  refine f_region hok ?_; clear hok; intro hok
  refine s_runk TB_Ops hok 3 rfl rfl ?_; clear hok a; intro a hok
  refine s_gob hok (c := seqB k (⟨#[]⟩)) rfl rfl rfl rfl (by decide) rfl (by decide) rfl (fun _ => Ob_c TB_Ops rfl) ?_; clear hok a; intro a hok
  refine s_gob hok (c := seqB k (⟨#[]⟩)) rfl rfl rfl rfl (by decide) rfl (by decide) rfl (fun _ => Ob_c TB_Ops rfl) ?_; clear hok a; intro a hok
  refine s_gob hok (c := seqB k (⟨#[]⟩)) rfl rfl rfl rfl (by decide) rfl (by decide) rfl (fun _ => Ob_c TB_Ops rfl) ?_; clear hok a; intro a hok
  refine s_or hok (i := 2) rfl rfl rfl rfl rfl rfl rfl (by decide) rfl rfl ?_; clear hok a; intro a hok
  refine s_end hok [0, 2, 9] rfl ?_; clear hok; intro hok
  refine p_then ?_
  refine f_cond hok rfl (fun hc1 => ?_) (fun hc1 => ?_)
  · replace hc1 := orT hc1 (fun h => seqET h) (fun h => of_decide_eq_true h)
    refine wp_seq ?_
    refine f_region hok ?_; clear hok; intro hok
    refine s_runk TB_Ops hok 1 rfl rfl ?_; clear hok a; intro a hok
    refine s_end hok [0, 2, 9] rfl ?_; clear hok; intro hok
    refine p_then ?_
    refine wp_ret ?_
    refine p_then_r ?_
    refine f_ret hok (run_results1 rfl hok rfl) ?_
    refine ⟨?_, B.toBelow⟩
    · clear hok B
      rw [keyL, if_pos (by omega)]
  · replace hc1 := And.intro (seqEF (orF1 hc1)) (of_decide_eq_false (orF2 hc1))
    refine wp_skip ?_
    refine p_then ?_
    refine wp_seq ?_
    refine f_region hok ?_; clear hok; intro hok
    refine s_runk TB_Ops hok 1 rfl rfl ?_; clear hok a; intro a hok
    refine s_end hok [0, 2, 9] rfl ?_; clear hok; intro hok
    refine p_then ?_
    refine wp_ret ?_
    refine f_ret hok (run_results1 rfl hok rfl) ?_
    refine ⟨?_, B.toBelow⟩
    · clear hok B
      rw [keyL, if_neg (by omega)]


/-- what is wrong with an operation behind another one -/
def oneL (o : DOp) (ahead : ByteArray) (first : Bool) : Int :=
  if keyL o.key ≠ 0 then 10 else if 8 < o.val.size then 3 else if o.del = true ∧ o.val.size ≠ 0 then 4 else if first = false ∧ sltB ahead o.key = false then 18 else 0

def cksL : Bool → ByteArray → List DOp → Int
  | _, _, [] => 0
  | f, a, o :: l => if oneL o a f ≠ 0 then oneL o a f else cksL false o.key l

def checkB (b : DBatch) : Int :=
  if b.client < 0 ∨ 3 ≤ b.client then 1 else if b.req < 1 ∨ 1073741824 < b.req then 5 else if 4 < b.ops.length then 6 else cksL true ByteArray.empty b.ops

set_option maxHeartbeats 1000000 in
theorem c_ops_one (o : DOp) (ahead : ByteArray) (first : Bool) (w : World) (h_o : okDOp o) (h_ahead : ahead.size ≤ maxLen) :
    Calls Try.prog 81 #[.agg #[.string o.key, .string o.val, .bool o.del], .string ahead, .bool first] w (Ret fun r w' => r = .int .i64 (oneL o ahead first) ∧ Below w.heap.size w w') := by
  have B : Bt [] w w := Bt.refl _ _
  refine f_enter 34 Try.func81 rfl rfl (Nat.le_of_ble_eq_true rfl) fun a hok => ?_
  replace hok := hok.sub (ts := [0, 1, 2]) rfl
  refine wp_seq ?_
  refine f_region hok ?_; clear hok; intro hok
  refine s_boxv hok (cs := [.string o.key, .string o.val, .bool o.del]) rfl rfl rfl (by decide) rfl rfl rfl ?_; clear hok a; intro a w1 b1 hb0_b1 hb1_b1 hb X1 hok
  have hge_b1 : w.heap.size ≤ b1 := by have := B.size; omega
  have hz_w1 : w.heap.size ≤ w1.heap.size := hb.size
  replace B := B.blw hb
  clear hb
  refine s_runk TB_Ops hok 1 rfl rfl ?_; clear hok a; intro a hok
  refine s_end hok [0, 1, 2, 3, 6] rfl ?_; clear hok; intro hok
  refine p_then ?_
  refine wp_seq ?_
  refine wp_block ?_
  refine wp_seq ?_
  refine f_region hok ?_; clear hok; intro hok
  refine s_runk TB_Ops hok 1 rfl rfl ?_; clear hok a; intro a hok
  refine s_ob hok (v := .string o.key) rfl rfl (by decide) rfl (Ob_load TB_Ops rfl rfl rfl (X1.cell 0 rfl)) ?_; clear hok a; intro a hok
  refine s_call hok fn_82_Ops (caps := #[]) rfl rfl rfl rfl rfl (by decide) rfl rfl (c_keys_Check o.key _ h_o.1) ?_; clear hok a; intro _ a w2 hr hok
  obtain ⟨rfl, hb⟩ := hr
  have hz_w2 : w1.heap.size ≤ w2.heap.size := hb.size
  replace B := B.blw hb
  replace X1 := X1.below hb
  clear hb
  refine s_runk TB_Ops hok 2 rfl rfl ?_; clear hok a; intro a hok
  refine s_end hok [0, 1, 2, 3, 6, 7] rfl ?_; clear hok; intro hok
  refine p_then ?_
  refine f_cond hok rfl (fun hc1 => ?_) (fun hc1 => ?_)
  · replace hc1 := bne_iff_ne.1 hc1
    refine wp_seq ?_
    refine f_region hok ?_; clear hok; intro hok
    refine s_runk TB_Ops hok 1 rfl rfl ?_; clear hok a; intro a hok
    refine s_end hok [0, 1, 2, 3, 6, 7] rfl ?_; clear hok; intro hok
    refine p_then ?_
    refine wp_ret ?_
    refine p_blk_r ?_
    refine p_then_r ?_
    refine f_ret hok (run_results1 rfl hok rfl) ?_
    refine ⟨?_, B.toBelow⟩
    · clear hok B X1 hb0_b1 hb1_b1 hge_b1 hz_w1 hz_w2
      (unfold oneL; (repeat' split) <;> first | rfl | (exfalso; omega) | grind)
  · replace hc1 := bne_eq_false_iff_eq.1 hc1
    refine wp_seq ?_
    refine f_region hok ?_; clear hok; intro hok
    refine s_runk TB_Ops hok 1 rfl rfl ?_; clear hok a; intro a hok
    refine s_ob hok (v := .string o.val) rfl rfl (by decide) rfl (Ob_load TB_Ops rfl rfl rfl (X1.cell 1 rfl)) ?_; clear hok a; intro a hok
    refine s_runk TB_Ops hok 3 rfl rfl ?_; clear hok a; intro a hok
    refine s_end hok [0, 1, 2, 3, 6, 7, 12] rfl ?_; clear hok; intro hok
    refine p_then ?_
    refine f_cond hok rfl (fun hc2 => ?_) (fun hc2 => ?_)
    · replace hc2 := of_decide_eq_true hc2
      refine wp_seq ?_
      refine f_region hok ?_; clear hok; intro hok
      refine s_runk TB_Ops hok 1 rfl rfl ?_; clear hok a; intro a hok
      refine s_end hok [0, 1, 2, 3, 6, 7, 12] rfl ?_; clear hok; intro hok
      refine p_then ?_
      refine wp_ret ?_
      refine p_blk_r ?_
      refine p_then_r ?_
      refine f_ret hok (run_results1 rfl hok rfl) ?_
      refine ⟨?_, B.toBelow⟩
      · clear hok B X1 hb0_b1 hb1_b1 hge_b1 hz_w1 hz_w2
        (unfold oneL; (repeat' split) <;> first | rfl | (exfalso; omega) | grind)
    · replace hc2 := of_decide_eq_false hc2
      refine wp_seq ?_
      refine f_region hok ?_; clear hok; intro hok
      refine s_runk TB_Ops hok 1 rfl rfl ?_; clear hok a; intro a hok
      refine s_ob hok (v := .bool o.del) rfl rfl (by decide) rfl (Ob_load TB_Ops rfl rfl rfl (X1.cell 2 rfl)) ?_; clear hok a; intro a hok
      refine s_runk TB_Ops hok 1 rfl rfl ?_; clear hok a; intro a hok
      refine s_gob hok (c := o.del) rfl rfl rfl rfl (by decide) rfl (by decide) rfl (fun _ => Ob_c TB_Ops rfl) ?_; clear hok a; intro a hok
      refine s_gob hok (c := o.del) (v := .string o.val) rfl rfl rfl rfl (by decide) rfl (by decide) rfl (fun hg1 => ?_) ?_
      · skip
        exact Ob_load TB_Ops rfl rfl rfl (X1.cell 1 rfl)
      clear hok a; intro a hok
      refine s_gob hok (c := o.del) rfl rfl rfl rfl (by decide) rfl (by decide) rfl (fun _ => Ob_c TB_Ops rfl) ?_; clear hok a; intro a hok
      refine s_and hok (i := 2) rfl rfl rfl rfl rfl rfl rfl (by decide) rfl rfl ?_; clear hok a; intro a hok
      refine s_runk TB_Ops hok 1 rfl rfl ?_; clear hok a; intro a hok
      refine s_end hok [0, 1, 2, 3, 6, 7, 12, 17] rfl ?_; clear hok; intro hok
      refine p_then ?_
      refine f_cond hok rfl (fun hc3 => ?_) (fun hc3 => ?_)
      · replace hc3 := And.intro ((andT1 hc3)) (seqEF (notT (andT2 hc3)))
        refine wp_seq ?_
        refine f_region hok ?_; clear hok; intro hok
        refine s_runk TB_Ops hok 1 rfl rfl ?_; clear hok a; intro a hok
        refine s_end hok [0, 1, 2, 3, 6, 7, 12, 17] rfl ?_; clear hok; intro hok
        refine p_then ?_
        refine wp_ret ?_
        refine p_blk_r ?_
        refine p_then_r ?_
        refine f_ret hok (run_results1 rfl hok rfl) ?_
        refine ⟨?_, B.toBelow⟩
        · clear hok B X1 hb0_b1 hb1_b1 hge_b1 hz_w1 hz_w2
          (unfold oneL; (repeat' split) <;> first | rfl | (exfalso; omega) | grind)
      · replace hc3 := andF hc3 (fun h => h) (fun h => seqET (notF h))
        refine wp_seq ?_
        refine f_region hok ?_; clear hok; intro hok
        refine s_runk TB_Ops hok 3 rfl rfl ?_; clear hok a; intro a hok
        refine s_gob hok (c := !first) rfl rfl rfl rfl (by decide) rfl (by decide) rfl (fun _ => Ob_c TB_Ops rfl) ?_; clear hok a; intro a hok
        refine s_gob hok (c := !first) rfl rfl rfl rfl (by decide) rfl (by decide) rfl (fun _ => Ob_c TB_Ops rfl) ?_; clear hok a; intro a hok
        refine s_gob hok (c := !first) (v := .string o.key) rfl rfl rfl rfl (by decide) rfl (by decide) rfl (fun hg2 => ?_) ?_
        · replace hg2 := (notT hg2)
          exact Ob_load TB_Ops rfl rfl rfl (X1.cell 0 rfl)
        clear hok a; intro a hok
        refine s_gob hok (c := !first) rfl rfl rfl rfl (by decide) rfl (by decide) rfl (fun _ => Ob_c TB_Ops rfl) ?_; clear hok a; intro a hok
        refine s_and hok (i := 2) rfl rfl rfl rfl rfl rfl rfl (by decide) rfl rfl ?_; clear hok a; intro a hok
        refine s_runk TB_Ops hok 1 rfl rfl ?_; clear hok a; intro a hok
        refine s_end hok [0, 1, 2, 3, 6, 7, 12, 17, 25] rfl ?_; clear hok; intro hok
        refine p_then ?_
        refine f_cond hok rfl (fun hc4 => ?_) (fun hc4 => ?_)
        · replace hc4 := And.intro ((notT (andT1 hc4))) ((notT (andT2 hc4)))
          refine wp_seq ?_
          refine f_region hok ?_; clear hok; intro hok
          refine s_runk TB_Ops hok 1 rfl rfl ?_; clear hok a; intro a hok
          refine s_end hok [0, 1, 2, 3, 6, 7, 12, 17, 25] rfl ?_; clear hok; intro hok
          refine p_then ?_
          refine wp_ret ?_
          refine p_blk_r ?_
          refine p_then_r ?_
          refine f_ret hok (run_results1 rfl hok rfl) ?_
          refine ⟨?_, B.toBelow⟩
          · clear hok B X1 hb0_b1 hb1_b1 hge_b1 hz_w1 hz_w2
            (unfold oneL; (repeat' split) <;> first | rfl | (exfalso; omega) | grind)
        · replace hc4 := andF hc4 (fun h => (notF h)) (fun h => (notF h))
          refine wp_skip ?_
          refine p_blk ?_
          refine p_then ?_
          refine wp_seq ?_
          refine f_region hok ?_; clear hok; intro hok
          refine s_runk TB_Ops hok 1 rfl rfl ?_; clear hok a; intro a hok
          refine s_end hok [0, 1, 2, 3, 6, 7, 12, 17, 25] rfl ?_; clear hok; intro hok
          refine p_then ?_
          refine wp_ret ?_
          refine f_ret hok (run_results1 rfl hok rfl) ?_
          refine ⟨?_, B.toBelow⟩
          · clear hok B X1 hb0_b1 hb1_b1 hge_b1 hz_w1 hz_w2
            (unfold oneL; (repeat' split) <;> first | rfl | (exfalso; omega) | grind)


/-- the key ahead of place k -/
def aheadK (l : List DOp) (k : Nat) : ByteArray := if k = 0 then ByteArray.empty else (l.getD (k - 1) default).key

theorem cks_step (l : List DOp) (k : Nat) (h : k < l.length) : cksL (decide (k = 0)) (aheadK l k) (l.drop k) = if oneL (l.getD k default) (aheadK l k) (decide (k = 0)) ≠ 0 then oneL (l.getD k default) (aheadK l k) (decide (k = 0)) else cksL (decide (k + 1 = 0)) (aheadK l (k + 1)) (l.drop (k + 1)) := by
  rw [drop_getD l k h]
  simp [cksL, aheadK]

theorem aheadK_ok (l : List DOp) (k : Nat) (h : ∀ x ∈ l, okDOp x) (hk : k ≤ l.length) : (aheadK l k).size ≤ maxLen := by
  unfold aheadK
  split
  · exact Nat.zero_le _
  · rw [getD_get _ _ _ (show k - 1 < l.length by omega)]
    exact (h _ (List.getElem_mem _)).1

theorem chk_stop {b : DBatch} {k : Nat} {v : Int} (h : checkB b = cksL (decide (k = 0)) (aheadK b.ops k) (b.ops.drop k)) (hk : k < b.ops.length) (hv : oneL (b.ops.getD k default) (aheadK b.ops k) (decide (k = 0)) = v) (h0 : v ≠ 0) : Value.int .i64 v = .int .i64 (checkB b) := by
  rw [h, cks_step b.ops k hk, hv, if_pos h0]

set_option maxHeartbeats 1000000 in
theorem c_ops_Check {A0 : Nat → Prop} (b : DBatch) (v0_b : Value) (w : World) (L0_b : slRep RDOp A0 w v0_b b.ops) (h_b : okDBatch b) :
    Calls Try.prog 79 #[.agg #[.int .i64 b.client, .int .i64 b.req, v0_b]] w (Ret fun r w' => r = .int .i64 (checkB b) ∧ Below w.heap.size w w') := by
  have B : Bt [] w w := Bt.refl _ _
  obtain ⟨ao_v0_b, cap_v0_b, rfl, hc_v0_b, hm_v0_b⟩ := L0_b.shape
  unfold maxLen at hm_v0_b
  obtain ⟨P1, ha_P1, ho_P1, L0_b⟩ : ∃ X : Nat → Prop, (∀ k, X k → k < w.heap.size) ∧ (∀ k, X k → A0 k ∨ w.heap.size ≤ k) ∧ slRep RDOp X w (.slice ao_v0_b b.ops.length cap_v0_b) b.ops := ⟨_, fun k h => h.2, fun k h => .inl h.1, L0_b.bound⟩
  have hall := slRep.oks L0_b fun x cs A w h => h.2
  refine f_enter 49 Try.func79 rfl rfl (Nat.le_of_ble_eq_true rfl) fun a hok => ?_
  replace hok := hok.sub (ts := [0]) rfl
  refine wp_seq ?_
  refine f_region hok ?_; clear hok; intro hok
  refine s_boxv hok (cs := [.int .i64 b.client, .int .i64 b.req, .slice ao_v0_b b.ops.length cap_v0_b]) rfl rfl rfl (by decide) rfl rfl rfl ?_; clear hok a; intro a w1 b1 hb0_b1 hb1_b1 hb X1 hok
  have hge_b1 : w.heap.size ≤ b1 := by have := B.size; omega
  have hz_w1 : w.heap.size ≤ w1.heap.size := hb.size
  replace B := B.blw hb
  replace L0_b := L0_b.below hb
  clear hb
  refine s_runk TB_Ops hok 1 rfl rfl ?_; clear hok a; intro a hok
  refine s_end hok [0, 1, 2] rfl ?_; clear hok; intro hok
  refine p_then ?_
  refine wp_seq ?_
  refine wp_block ?_
  refine wp_seq ?_
  refine f_region hok ?_; clear hok; intro hok
  refine s_runk TB_Ops hok 1 rfl rfl ?_; clear hok a; intro a hok
  refine s_ob hok (v := .int .i64 b.client) rfl rfl (by decide) rfl (Ob_load TB_Ops rfl rfl rfl (X1.cell 0 rfl)) ?_; clear hok a; intro a hok
  refine s_runk TB_Ops hok 2 rfl rfl ?_; clear hok a; intro a hok
  refine s_gob hok (c := decide (b.client < 0)) rfl rfl rfl rfl (by decide) rfl (by decide) rfl (fun _ => Ob_c TB_Ops rfl) ?_; clear hok a; intro a hok
  refine s_gob hok (c := decide (b.client < 0)) (v := .int .i64 b.client) rfl rfl rfl rfl (by decide) rfl (by decide) rfl (fun hg1 => ?_) ?_
  · replace hg1 := of_decide_eq_false hg1
    exact Ob_load TB_Ops rfl rfl rfl (X1.cell 0 rfl)
  clear hok a; intro a hok
  refine s_gob hok (c := decide (b.client < 0)) rfl rfl rfl rfl (by decide) rfl (by decide) rfl (fun _ => Ob_c TB_Ops rfl) ?_; clear hok a; intro a hok
  refine s_or hok (i := 3) rfl rfl rfl rfl rfl rfl rfl (by decide) rfl rfl ?_; clear hok a; intro a hok
  refine s_runk TB_Ops hok 1 rfl rfl ?_; clear hok a; intro a hok
  refine s_end hok [0, 1, 2, 7] rfl ?_; clear hok; intro hok
  refine p_then ?_
  refine f_cond hok rfl (fun hc1 => ?_) (fun hc1 => ?_)
  · replace hc1 := orT hc1 (fun h => of_decide_eq_true h) (fun h => of_decide_eq_true h)
    refine wp_seq ?_
    refine f_region hok ?_; clear hok; intro hok
    refine s_runk TB_Ops hok 1 rfl rfl ?_; clear hok a; intro a hok
    refine s_end hok [0, 1, 2, 7] rfl ?_; clear hok; intro hok
    refine p_then ?_
    refine wp_ret ?_
    refine p_blk_r ?_
    refine p_then_r ?_
    refine f_ret hok (run_results1 rfl hok rfl) ?_
    refine ⟨?_, B.toBelow⟩
    · clear hok B L0_b X1 hc_v0_b hm_v0_b ha_P1 ho_P1 hb0_b1 hb1_b1 hge_b1 hz_w1
      (unfold checkB; (repeat' split) <;> first | rfl | (exfalso; omega) | grind)
  · replace hc1 := And.intro (of_decide_eq_false (orF1 hc1)) (of_decide_eq_false (orF2 hc1))
    refine wp_seq ?_
    refine f_region hok ?_; clear hok; intro hok
    refine s_runk TB_Ops hok 1 rfl rfl ?_; clear hok a; intro a hok
    refine s_ob hok (v := .int .i64 b.req) rfl rfl (by decide) rfl (Ob_load TB_Ops rfl rfl rfl (X1.cell 1 rfl)) ?_; clear hok a; intro a hok
    refine s_runk TB_Ops hok 2 rfl rfl ?_; clear hok a; intro a hok
    refine s_gob hok (c := decide (b.req < 1)) rfl rfl rfl rfl (by decide) rfl (by decide) rfl (fun _ => Ob_c TB_Ops rfl) ?_; clear hok a; intro a hok
    refine s_gob hok (c := decide (b.req < 1)) (v := .int .i64 b.req) rfl rfl rfl rfl (by decide) rfl (by decide) rfl (fun hg2 => ?_) ?_
    · replace hg2 := of_decide_eq_false hg2
      exact Ob_load TB_Ops rfl rfl rfl (X1.cell 1 rfl)
    clear hok a; intro a hok
    refine s_gob hok (c := decide (b.req < 1)) rfl rfl rfl rfl (by decide) rfl (by decide) rfl (fun _ => Ob_c TB_Ops rfl) ?_; clear hok a; intro a hok
    refine s_or hok (i := 3) rfl rfl rfl rfl rfl rfl rfl (by decide) rfl rfl ?_; clear hok a; intro a hok
    refine s_runk TB_Ops hok 1 rfl rfl ?_; clear hok a; intro a hok
    refine s_end hok [0, 1, 2, 7, 16] rfl ?_; clear hok; intro hok
    refine p_then ?_
    refine f_cond hok rfl (fun hc2 => ?_) (fun hc2 => ?_)
    · replace hc2 := orT hc2 (fun h => of_decide_eq_true h) (fun h => of_decide_eq_true h)
      refine wp_seq ?_
      refine f_region hok ?_; clear hok; intro hok
      refine s_runk TB_Ops hok 1 rfl rfl ?_; clear hok a; intro a hok
      refine s_end hok [0, 1, 2, 7, 16] rfl ?_; clear hok; intro hok
      refine p_then ?_
      refine wp_ret ?_
      refine p_blk_r ?_
      refine p_then_r ?_
      refine f_ret hok (run_results1 rfl hok rfl) ?_
      refine ⟨?_, B.toBelow⟩
      · clear hok B L0_b X1 hc_v0_b hm_v0_b ha_P1 ho_P1 hb0_b1 hb1_b1 hge_b1 hz_w1
        (unfold checkB; (repeat' split) <;> first | rfl | (exfalso; omega) | grind)
    · replace hc2 := And.intro (of_decide_eq_false (orF1 hc2)) (of_decide_eq_false (orF2 hc2))
      refine wp_seq ?_
      refine f_region hok ?_; clear hok; intro hok
      refine s_runk TB_Ops hok 1 rfl rfl ?_; clear hok a; intro a hok
      refine s_ob hok (v := .slice ao_v0_b b.ops.length cap_v0_b) rfl rfl (by decide) rfl (Ob_load TB_Ops rfl rfl rfl (X1.cell 2 rfl)) ?_; clear hok a; intro a hok
      refine s_runk TB_Ops hok 3 rfl rfl ?_; clear hok a; intro a hok
      refine s_end hok [0, 1, 2, 7, 16, 25] rfl ?_; clear hok; intro hok
      refine p_then ?_
      refine f_cond hok rfl (fun hc3 => ?_) (fun hc3 => ?_)
      · replace hc3 := of_decide_eq_true hc3
        refine wp_seq ?_
        refine f_region hok ?_; clear hok; intro hok
        refine s_runk TB_Ops hok 1 rfl rfl ?_; clear hok a; intro a hok
        refine s_end hok [0, 1, 2, 7, 16, 25] rfl ?_; clear hok; intro hok
        refine p_then ?_
        refine wp_ret ?_
        refine p_blk_r ?_
        refine p_then_r ?_
        refine f_ret hok (run_results1 rfl hok rfl) ?_
        refine ⟨?_, B.toBelow⟩
        · clear hok B L0_b X1 hc_v0_b hm_v0_b ha_P1 ho_P1 hb0_b1 hb1_b1 hge_b1 hz_w1
          (unfold checkB; (repeat' split) <;> first | rfl | (exfalso; omega) | grind)
      · replace hc3 := of_decide_eq_false hc3
        refine wp_skip ?_
        refine p_blk ?_
        refine p_then ?_
        refine wp_seq ?_
        refine f_region hok ?_; clear hok; intro hok
        refine s_runk TB_Ops hok 1 rfl rfl ?_; clear hok a; intro a hok
        refine s_end hok [0, 1, 2, 7, 16, 25, 3] rfl ?_; clear hok; intro hok
        refine p_then ?_
        refine wp_seq ?_
        refine wp_seq ?_
        refine f_region hok ?_; clear hok; intro hok
        refine s_runk TB_Ops hok 1 rfl rfl ?_; clear hok a; intro a hok
        refine s_ob hok (v := .slice ao_v0_b b.ops.length cap_v0_b) rfl rfl (by decide) rfl (Ob_load TB_Ops rfl rfl rfl (X1.cell 2 rfl)) ?_; clear hok a; intro a hok
        refine s_runk TB_Ops hok 2 rfl rfl ?_; clear hok a; intro a hok
        refine s_end hok [0, 1, 2, 7, 16, 25, 3, 31, 32, 33] rfl ?_; clear hok; intro hok
        refine p_then ?_
        refine wp_block ?_
        refine f_loop (σ := Nat) (fun k a w' => Sl 49 [(0, .agg #[.int .i64 b.client, .int .i64 b.req, .slice ao_v0_b b.ops.length cap_v0_b]), (1, .pointer (some ⟨b1, 0, none⟩)), (7, .bool ((decide (b.client < 0)) || (decide (b.client ≥ 3)))), (16, .bool ((decide (b.req < 1)) || (decide (b.req > 1073741824)))), (25, .bool (decide ((b.ops.length : Int) > 4))), (31, .slice ao_v0_b b.ops.length cap_v0_b), (32, .int .i64 (b.ops.length : Int)), (33, .int .i64 (k : Int)), (3, .string (aheadK b.ops k))] a ∧ (k ≤ b.ops.length) ∧ (checkB b = cksL (decide (k = 0)) (aheadK b.ops k) (b.ops.drop k)) ∧ Bt [] w w' ∧ slRep RDOp P1 w' (.slice ao_v0_b b.ops.length cap_v0_b) b.ops ∧ Box w' b1 33 [.int .i64 b.client, .int .i64 b.req, .slice ao_v0_b b.ops.length cap_v0_b]) (fun k => b.ops.length - k) 0 ⟨hok.sub (ts := [0, 1, 7, 16, 25, 31, 32, 33, 3]) rfl, by omega, by simp only [checkB]; rw [if_neg (by omega), if_neg (by omega), if_neg (by omega)]; rfl, B, L0_b, X1⟩ ?_
        clear hok B L0_b X1
        rintro k a w2 ⟨hok, hinv0_0, hinv0_1, B, L0_b, X1⟩
        have hahead := aheadK_ok b.ops k hall hinv0_0
        have hbe : ((k : Int) == 0) = decide (k = 0) := by rw [Bool.eq_iff_iff]; simp
        refine wp_seq ?_
        refine f_region hok ?_; clear hok; intro hok
        refine s_runk TB_Ops hok 1 rfl rfl ?_; clear hok a; intro a hok
        refine s_end hok [0, 1, 7, 16, 25, 31, 32, 33, 3, 34] rfl ?_; clear hok; intro hok
        refine p_then ?_
        refine wp_seq ?_
        refine f_cond hok rfl (fun hc4 => ?_) (fun hc4 => ?_)
        · replace hc4 := of_decide_eq_true hc4
          refine wp_skip ?_
          refine p_then ?_
          refine wp_seq ?_
          refine wp_block ?_
          refine wp_seq ?_
          refine f_region hok ?_; clear hok; intro hok
          refine s_runk TB_Ops hok 1 rfl rfl ?_; clear hok a; intro a hok
          have hi1 : k < b.ops.length := by omega
          have he1 := elt L0_b (k) (slRep.lt L0_b hi1)
          refine s_ob hok (v := .pointer (some ⟨bOf ao_v0_b, oOf ao_v0_b + k * 3, none⟩)) rfl rfl (by decide) rfl (Ob_idx TB_Ops (k) rfl rfl he1.1 rfl rfl rfl hi1) ?_; clear hok a; intro a hok
          obtain ⟨_, _, _, ⟨rfl, hok_e1⟩, hat1⟩ := id he1
          refine s_ob hok (v := .agg #[.string ((b.ops.getD k default).key), .string ((b.ops.getD k default).val), .bool ((b.ops.getD k default).del)]) rfl rfl (by decide) rfl (Ob_loads TB_Ops rfl rfl rfl hat1) ?_; clear hok a; intro a hok
          refine s_alloc hok (cs := [.string ByteArray.empty, .string ByteArray.empty, .bool false]) (z := .agg #[.string ByteArray.empty, .string ByteArray.empty, .bool false]) rfl rfl rfl (by decide) rfl (by kernel_rfl) rfl ?_; clear hok a; intro a w3 b2 hb0_b2 hb1_b2 hb X2 hok
          have hge_b2 : w.heap.size ≤ b2 := by have := B.size; omega
          have hlt_b1_b2 : b1 < b2 := by have := X1.lt; omega
          have hz_w3 : w2.heap.size ≤ w3.heap.size := hb.size
          replace B := B.blw hb
          replace L0_b := L0_b.below hb
          replace X1 := X1.below hb
          clear hb
          refine s_runk TB_Ops hok 1 rfl rfl ?_; clear hok a; intro a hok
          refine s_store TB_Ops hok (us := [.string ((b.ops.getD k default).key), .string ((b.ops.getD k default).val), .bool ((b.ops.getD k default).del)]) (cs' := [.string ((b.ops.getD k default).key), .string ((b.ops.getD k default).val), .bool ((b.ops.getD k default).del)]) X2 rfl rfl rfl rfl rfl rfl rfl rfl (by simp only [List.mem_cons, List.not_mem_nil, or_false]; rintro u (rfl | rfl | rfl) <;> rfl) (Nat.le_of_ble_eq_true rfl) rfl fun w4 ht X3 => ?_
          clear X2
          have hz_w4 : w3.heap.size ≤ w4.heap.size := Nat.le_of_eq ht.size.symm
          replace B := B.trn ht (.inr hge_b2)
          replace L0_b := L0_b.turn ht (fun h => by have := ha_P1 _ h; omega)
          replace X1 := X1.turn ht (by omega)
          clear ht
          refine s_end hok [0, 1, 7, 16, 25, 31, 32, 33, 3, 34, 5, 4] rfl ?_; clear hok; intro hok
          refine p_then ?_
          refine wp_seq ?_
          refine wp_seq ?_
          refine f_region hok ?_; clear hok; intro hok
          refine s_ob hok (v := .agg #[.string ((b.ops.getD k default).key), .string ((b.ops.getD k default).val), .bool ((b.ops.getD k default).del)]) rfl rfl (by decide) rfl (Ob_loads TB_Ops (cs := [.string ((b.ops.getD k default).key), .string ((b.ops.getD k default).val), .bool ((b.ops.getD k default).del)]) rfl rfl rfl X3.at) ?_; clear hok a; intro a hok
          refine s_runk TB_Ops hok 3 rfl rfl ?_; clear hok a; intro a hok
          refine s_call hok fn_81_Ops (caps := #[]) rfl rfl rfl rfl rfl (by decide) rfl rfl (c_ops_one (b.ops.getD k default) (aheadK b.ops k) ((k : Int) == 0) _ hok_e1 (by first | decide | assumption | (simp only [maxLen]; omega))) ?_; clear hok a; intro _ a w5 hr hok
          obtain ⟨rfl, hb⟩ := hr
          have hz_w5 : w4.heap.size ≤ w5.heap.size := hb.size
          replace B := B.blw hb
          replace L0_b := L0_b.below hb
          replace X1 := X1.below hb
          replace X3 := X3.below hb
          clear hb
          refine s_runk TB_Ops hok 1 rfl rfl ?_; clear hok a; intro a hok
          refine s_end hok [0, 1, 7, 16, 25, 31, 32, 33, 3, 34, 5, 4, 6] rfl ?_; clear hok; intro hok
          refine p_then ?_
          refine wp_seq ?_
          refine f_region hok ?_; clear hok; intro hok
          refine s_runk TB_Ops hok 2 rfl rfl ?_; clear hok a; intro a hok
          refine s_end hok [0, 1, 7, 16, 25, 31, 32, 33, 3, 34, 5, 4, 6, 44] rfl ?_; clear hok; intro hok
          refine p_then ?_
          refine f_cond hok rfl (fun hc5 => ?_) (fun hc5 => ?_)
          · replace hc5 := bne_iff_ne.1 hc5
            refine wp_seq ?_
            refine f_region hok ?_; clear hok; intro hok
            refine s_runk TB_Ops hok 2 rfl rfl ?_; clear hok a; intro a hok
            refine s_end hok [0, 1, 7, 16, 25, 31, 32, 33, 3, 34, 5, 4, 6, 44, 2] rfl ?_; clear hok; intro hok
            refine p_then ?_
            refine wp_ret ?_
            refine p_then_r ?_
            refine p_blk_r ?_
            refine p_then_r ?_
            refine p_then_r ?_
            refine p_blk_r ?_
            refine p_then_r ?_
            refine f_ret hok (run_results1 rfl hok rfl) ?_
            refine ⟨?_, B.toBelow⟩
            · clear hok B L0_b X1 X3 hc_v0_b hm_v0_b ha_P1 ho_P1 hb0_b1 hb1_b1 hge_b1 hz_w1 he1 hat1 hb0_b2 hb1_b2 hge_b2 hlt_b1_b2 hz_w3 hz_w4 hz_w5
              rw [hbe] at hc5; rw [hinv0_1, cks_step b.ops k (by omega), if_pos hc5, hbe]
          · replace hc5 := bne_eq_false_iff_eq.1 hc5
            refine wp_skip ?_
            refine p_then ?_
            refine f_region hok ?_; clear hok; intro hok
            refine s_runk TB_Ops hok 1 rfl rfl ?_; clear hok a; intro a hok
            refine s_ob hok (v := .string ((b.ops.getD k default).key)) rfl rfl (by decide) rfl (Ob_load TB_Ops rfl rfl rfl (X3.cell 0 rfl)) ?_; clear hok a; intro a hok
            refine s_runk TB_Ops hok 1 rfl rfl ?_; clear hok a; intro a hok
            refine s_end hok [0, 1, 7, 16, 25, 31, 32, 33, 3, 34, 5, 4, 6, 44] rfl ?_; clear hok; intro hok
            refine p_blk ?_
            refine p_then ?_
            refine f_region hok ?_; clear hok; intro hok
            refine s_ob hok (v := .int .i64 ((k : Int) + 1)) rfl rfl (by decide) rfl (Ob_add rfl rfl rfl (IntWalk.i64_in _ (by omega))) ?_; clear hok a; intro a hok
            refine s_runk TB_Ops hok 1 rfl rfl ?_; clear hok a; intro a hok
            refine s_end hok [0, 1, 7, 16, 25, 31, 32, 33, 3, 34, 5, 4, 6, 44] rfl ?_; clear hok; intro hok
            refine p_then ?_
            refine ⟨k + 1, ⟨hok.sub (ts := [0, 1, 7, 16, 25, 31, 32, 33, 3]) rfl, ?_, ?_, B, L0_b, X1⟩, by omega⟩
            · clear hok B L0_b X1 X3 hc_v0_b hm_v0_b ha_P1 ho_P1 hb0_b1 hb1_b1 hge_b1 hz_w1 he1 hat1 hb0_b2 hb1_b2 hge_b2 hlt_b1_b2 hz_w3 hz_w4 hz_w5
              omega
            · clear hok B L0_b X1 X3 hc_v0_b hm_v0_b ha_P1 ho_P1 hb0_b1 hb1_b1 hge_b1 hz_w1 he1 hat1 hb0_b2 hb1_b2 hge_b2 hlt_b1_b2 hz_w3 hz_w4 hz_w5
              rw [hbe] at hc5; rw [hinv0_1, cks_step b.ops k (by omega), if_neg (fun h => h hc5)]
        · replace hc4 := of_decide_eq_false hc4
          refine wp_exit ?_
          refine p_then_x ?_
          refine p_then_x ?_
          refine f_exit_here ?_
          refine p_then ?_
          refine wp_seq ?_
          refine f_region hok ?_; clear hok; intro hok
          refine s_runk TB_Ops hok 1 rfl rfl ?_; clear hok a; intro a hok
          refine s_end hok [0, 1, 7, 16, 25, 31, 32, 33, 3, 34, 2] rfl ?_; clear hok; intro hok
          refine p_then ?_
          refine wp_ret ?_
          refine f_ret hok (run_results1 rfl hok rfl) ?_
          refine ⟨?_, B.toBelow⟩
          · clear hok B L0_b X1 hc_v0_b hm_v0_b ha_P1 ho_P1 hb0_b1 hb1_b1 hge_b1 hz_w1
            rw [hinv0_1, List.drop_eq_nil_of_le (by omega)]; rfl


set_option maxHeartbeats 1000000 in
theorem c_ref06_Check {A0 : Nat → Prop} (b : DBatch) (v0_b : Value) (w : World) (L0_b : slRep RDOp A0 w v0_b b.ops) (h_b : okDBatch b) :
    Calls Try.prog 53 #[.agg #[.int .i64 b.client, .int .i64 b.req, v0_b]] w (Ret fun r w' => r = .int .i64 (checkB b) ∧ Below w.heap.size w w') := by
  have B : Bt [] w w := Bt.refl _ _
  obtain ⟨ao_v0_b, cap_v0_b, rfl, hc_v0_b, hm_v0_b⟩ := L0_b.shape
  unfold maxLen at hm_v0_b
  obtain ⟨P1, ha_P1, ho_P1, L0_b⟩ : ∃ X : Nat → Prop, (∀ k, X k → k < w.heap.size) ∧ (∀ k, X k → A0 k ∨ w.heap.size ≤ k) ∧ slRep RDOp X w (.slice ao_v0_b b.ops.length cap_v0_b) b.ops := ⟨_, fun k h => h.2, fun k h => .inl h.1, L0_b.bound⟩
  have hall := slRep.oks L0_b fun x cs A w h => h.2
  refine f_enter 66 Try.func53 rfl rfl (Nat.le_of_ble_eq_true rfl) fun a hok => ?_
  replace hok := hok.sub (ts := [0]) rfl
  refine wp_seq ?_
  refine f_region hok ?_; clear hok; intro hok
  refine s_boxv hok (cs := [.int .i64 b.client, .int .i64 b.req, .slice ao_v0_b b.ops.length cap_v0_b]) rfl rfl rfl (by decide) rfl rfl rfl ?_; clear hok a; intro a w1 b1 hb0_b1 hb1_b1 hb X1 hok
  have hge_b1 : w.heap.size ≤ b1 := by have := B.size; omega
  have hz_w1 : w.heap.size ≤ w1.heap.size := hb.size
  replace B := B.blw hb
  replace L0_b := L0_b.below hb
  clear hb
  refine s_runk TB_Ops hok 1 rfl rfl ?_; clear hok a; intro a hok
  refine s_end hok [0, 1, 2] rfl ?_; clear hok; intro hok
  refine p_then ?_
  refine wp_seq ?_
  refine wp_seq ?_
  refine f_region hok ?_; clear hok; intro hok
  refine s_runk TB_Ops hok 1 rfl rfl ?_; clear hok a; intro a hok
  refine s_ob hok (v := .int .i64 b.client) rfl rfl (by decide) rfl (Ob_load TB_Ops rfl rfl rfl (X1.cell 0 rfl)) ?_; clear hok a; intro a hok
  refine s_runk TB_Ops hok 2 rfl rfl ?_; clear hok a; intro a hok
  refine s_gob hok (c := decide (b.client < 0)) rfl rfl rfl rfl (by decide) rfl (by decide) rfl (fun _ => Ob_c TB_Ops rfl) ?_; clear hok a; intro a hok
  refine s_gob hok (c := decide (b.client < 0)) (v := .int .i64 b.client) rfl rfl rfl rfl (by decide) rfl (by decide) rfl (fun hg1 => ?_) ?_
  · replace hg1 := of_decide_eq_false hg1
    exact Ob_load TB_Ops rfl rfl rfl (X1.cell 0 rfl)
  clear hok a; intro a hok
  refine s_gob hok (c := decide (b.client < 0)) rfl rfl rfl rfl (by decide) rfl (by decide) rfl (fun _ => Ob_c TB_Ops rfl) ?_; clear hok a; intro a hok
  refine s_or hok (i := 3) rfl rfl rfl rfl rfl rfl rfl (by decide) rfl rfl ?_; clear hok a; intro a hok
  refine s_end hok [0, 1, 2, 12] rfl ?_; clear hok; intro hok
  refine p_then ?_
  refine f_cond hok rfl (fun hc1 => ?_) (fun hc1 => ?_)
  · replace hc1 := orT hc1 (fun h => of_decide_eq_true h) (fun h => of_decide_eq_true h)
    refine wp_seq ?_
    refine f_region hok ?_; clear hok; intro hok
    refine s_runk TB_Ops hok 1 rfl rfl ?_; clear hok a; intro a hok
    refine s_end hok [0, 1, 2, 12] rfl ?_; clear hok; intro hok
    refine p_then ?_
    refine wp_ret ?_
    refine p_then_r ?_
    refine f_ret hok (run_results1 rfl hok rfl) ?_
    refine ⟨?_, B.toBelow⟩
    · clear hok B L0_b X1 hc_v0_b hm_v0_b ha_P1 ho_P1 hb0_b1 hb1_b1 hge_b1 hz_w1
      (unfold checkB; (repeat' split) <;> first | rfl | (exfalso; omega) | grind)
  · replace hc1 := And.intro (of_decide_eq_false (orF1 hc1)) (of_decide_eq_false (orF2 hc1))
    refine wp_skip ?_
    refine p_then ?_
    refine wp_seq ?_
    refine wp_seq ?_
    refine f_region hok ?_; clear hok; intro hok
    refine s_runk TB_Ops hok 1 rfl rfl ?_; clear hok a; intro a hok
    refine s_ob hok (v := .int .i64 b.req) rfl rfl (by decide) rfl (Ob_load TB_Ops rfl rfl rfl (X1.cell 1 rfl)) ?_; clear hok a; intro a hok
    refine s_runk TB_Ops hok 2 rfl rfl ?_; clear hok a; intro a hok
    refine s_gob hok (c := decide (b.req < 1)) rfl rfl rfl rfl (by decide) rfl (by decide) rfl (fun _ => Ob_c TB_Ops rfl) ?_; clear hok a; intro a hok
    refine s_gob hok (c := decide (b.req < 1)) (v := .int .i64 b.req) rfl rfl rfl rfl (by decide) rfl (by decide) rfl (fun hg2 => ?_) ?_
    · replace hg2 := of_decide_eq_false hg2
      exact Ob_load TB_Ops rfl rfl rfl (X1.cell 1 rfl)
    clear hok a; intro a hok
    refine s_gob hok (c := decide (b.req < 1)) rfl rfl rfl rfl (by decide) rfl (by decide) rfl (fun _ => Ob_c TB_Ops rfl) ?_; clear hok a; intro a hok
    refine s_or hok (i := 3) rfl rfl rfl rfl rfl rfl rfl (by decide) rfl rfl ?_; clear hok a; intro a hok
    refine s_end hok [0, 1, 2, 12, 20] rfl ?_; clear hok; intro hok
    refine p_then ?_
    refine f_cond hok rfl (fun hc2 => ?_) (fun hc2 => ?_)
    · replace hc2 := orT hc2 (fun h => of_decide_eq_true h) (fun h => of_decide_eq_true h)
      refine wp_seq ?_
      refine f_region hok ?_; clear hok; intro hok
      refine s_runk TB_Ops hok 1 rfl rfl ?_; clear hok a; intro a hok
      refine s_end hok [0, 1, 2, 12, 20] rfl ?_; clear hok; intro hok
      refine p_then ?_
      refine wp_ret ?_
      refine p_then_r ?_
      refine f_ret hok (run_results1 rfl hok rfl) ?_
      refine ⟨?_, B.toBelow⟩
      · clear hok B L0_b X1 hc_v0_b hm_v0_b ha_P1 ho_P1 hb0_b1 hb1_b1 hge_b1 hz_w1
        (unfold checkB; (repeat' split) <;> first | rfl | (exfalso; omega) | grind)
    · replace hc2 := And.intro (of_decide_eq_false (orF1 hc2)) (of_decide_eq_false (orF2 hc2))
      refine wp_skip ?_
      refine p_then ?_
      refine wp_seq ?_
      refine wp_seq ?_
      refine f_region hok ?_; clear hok; intro hok
      refine s_runk TB_Ops hok 1 rfl rfl ?_; clear hok a; intro a hok
      refine s_ob hok (v := .slice ao_v0_b b.ops.length cap_v0_b) rfl rfl (by decide) rfl (Ob_load TB_Ops rfl rfl rfl (X1.cell 2 rfl)) ?_; clear hok a; intro a hok
      refine s_runk TB_Ops hok 2 rfl rfl ?_; clear hok a; intro a hok
      refine s_end hok [0, 1, 2, 12, 20, 24] rfl ?_; clear hok; intro hok
      refine p_then ?_
      refine f_cond hok rfl (fun hc3 => ?_) (fun hc3 => ?_)
      · replace hc3 := of_decide_eq_true hc3
        refine wp_seq ?_
        refine f_region hok ?_; clear hok; intro hok
        refine s_runk TB_Ops hok 1 rfl rfl ?_; clear hok a; intro a hok
        refine s_end hok [0, 1, 2, 12, 20, 24] rfl ?_; clear hok; intro hok
        refine p_then ?_
        refine wp_ret ?_
        refine p_then_r ?_
        refine f_ret hok (run_results1 rfl hok rfl) ?_
        refine ⟨?_, B.toBelow⟩
        · clear hok B L0_b X1 hc_v0_b hm_v0_b ha_P1 ho_P1 hb0_b1 hb1_b1 hge_b1 hz_w1
          (unfold checkB; (repeat' split) <;> first | rfl | (exfalso; omega) | grind)
      · replace hc3 := of_decide_eq_false hc3
        refine wp_skip ?_
        refine p_then ?_
        refine wp_seq ?_
        refine wp_seq ?_
        refine f_region hok ?_; clear hok; intro hok
        refine s_runk TB_Ops hok 1 rfl rfl ?_; clear hok a; intro a hok
        refine s_end hok [0, 1, 2, 12, 20, 24, 3] rfl ?_; clear hok; intro hok
        refine p_then ?_
        refine wp_block ?_
        refine f_loop (σ := Nat) (fun k a w' => Sl 66 [(0, .agg #[.int .i64 b.client, .int .i64 b.req, .slice ao_v0_b b.ops.length cap_v0_b]), (1, .pointer (some ⟨b1, 0, none⟩)), (12, .bool ((decide (b.client < 0)) || (decide (b.client ≥ 3)))), (20, .bool ((decide (b.req < 1)) || (decide (b.req > 1073741824)))), (24, .bool (decide ((b.ops.length : Int) > 4))), (3, .int .i64 (k : Int))] a ∧ (k ≤ b.ops.length) ∧ (checkB b = cksL (decide (k = 0)) (aheadK b.ops k) (b.ops.drop k)) ∧ Bt [] w w' ∧ slRep RDOp P1 w' (.slice ao_v0_b b.ops.length cap_v0_b) b.ops ∧ Box w' b1 33 [.int .i64 b.client, .int .i64 b.req, .slice ao_v0_b b.ops.length cap_v0_b]) (fun k => b.ops.length - k) 0 ⟨hok.sub (ts := [0, 1, 12, 20, 24, 3]) rfl, by omega, by simp only [checkB]; rw [if_neg (by omega), if_neg (by omega), if_neg (by omega)]; rfl, B, L0_b, X1⟩ ?_
        clear hok B L0_b X1
        rintro k a w2 ⟨hok, hinv0_0, hinv0_1, B, L0_b, X1⟩
        refine wp_seq ?_
        refine wp_seq ?_
        refine f_region hok ?_; clear hok; intro hok
        refine s_runk TB_Ops hok 2 rfl rfl ?_; clear hok a; intro a hok
        refine s_ob hok (v := .slice ao_v0_b b.ops.length cap_v0_b) rfl rfl (by decide) rfl (Ob_load TB_Ops rfl rfl rfl (X1.cell 2 rfl)) ?_; clear hok a; intro a hok
        refine s_runk TB_Ops hok 2 rfl rfl ?_; clear hok a; intro a hok
        refine s_end hok [0, 1, 12, 20, 24, 3, 29] rfl ?_; clear hok; intro hok
        refine p_then ?_
        refine f_cond hok rfl (fun hc4 => ?_) (fun hc4 => ?_)
        · replace hc4 := of_decide_eq_true hc4
          refine wp_skip ?_
          refine p_then ?_
          refine wp_seq ?_
          refine wp_block ?_
          refine wp_seq ?_
          refine f_region hok ?_; clear hok; intro hok
          refine s_runk TB_Ops hok 1 rfl rfl ?_; clear hok a; intro a hok
          refine s_ob hok (v := .slice ao_v0_b b.ops.length cap_v0_b) rfl rfl (by decide) rfl (Ob_load TB_Ops rfl rfl rfl (X1.cell 2 rfl)) ?_; clear hok a; intro a hok
          refine s_runk TB_Ops hok 1 rfl rfl ?_; clear hok a; intro a hok
          have hi1 : k < b.ops.length := by omega
          have he1 := elt L0_b (k) (slRep.lt L0_b hi1)
          refine s_ob hok (v := .pointer (some ⟨bOf ao_v0_b, oOf ao_v0_b + k * 3, none⟩)) rfl rfl (by decide) rfl (Ob_idx TB_Ops (k) rfl rfl he1.1 rfl rfl rfl hi1) ?_; clear hok a; intro a hok
          obtain ⟨_, _, _, ⟨rfl, hok_e1⟩, hat1⟩ := id he1
          refine s_ob hok (v := .agg #[.string ((b.ops.getD k default).key), .string ((b.ops.getD k default).val), .bool ((b.ops.getD k default).del)]) rfl rfl (by decide) rfl (Ob_loads TB_Ops rfl rfl rfl hat1) ?_; clear hok a; intro a hok
          refine s_alloc hok (cs := [.string ByteArray.empty, .string ByteArray.empty, .bool false]) (z := .agg #[.string ByteArray.empty, .string ByteArray.empty, .bool false]) rfl rfl rfl (by decide) rfl (by kernel_rfl) rfl ?_; clear hok a; intro a w3 b2 hb0_b2 hb1_b2 hb X2 hok
          have hge_b2 : w.heap.size ≤ b2 := by have := B.size; omega
          have hlt_b1_b2 : b1 < b2 := by have := X1.lt; omega
          have hz_w3 : w2.heap.size ≤ w3.heap.size := hb.size
          replace B := B.blw hb
          replace L0_b := L0_b.below hb
          replace X1 := X1.below hb
          clear hb
          refine s_store TB_Ops hok (us := [.string ((b.ops.getD k default).key), .string ((b.ops.getD k default).val), .bool ((b.ops.getD k default).del)]) (cs' := [.string ((b.ops.getD k default).key), .string ((b.ops.getD k default).val), .bool ((b.ops.getD k default).del)]) X2 rfl rfl rfl rfl rfl rfl rfl rfl (by simp only [List.mem_cons, List.not_mem_nil, or_false]; rintro u (rfl | rfl | rfl) <;> rfl) (Nat.le_of_ble_eq_true rfl) rfl fun w4 ht X3 => ?_
          clear X2
          have hz_w4 : w3.heap.size ≤ w4.heap.size := Nat.le_of_eq ht.size.symm
          replace B := B.trn ht (.inr hge_b2)
          replace L0_b := L0_b.turn ht (fun h => by have := ha_P1 _ h; omega)
          replace X1 := X1.turn ht (by omega)
          clear ht
          refine s_end hok [0, 1, 12, 20, 24, 3, 29, 4] rfl ?_; clear hok; intro hok
          refine p_then ?_
          refine wp_seq ?_
          refine wp_seq ?_
          refine f_region hok ?_; clear hok; intro hok
          refine s_runk TB_Ops hok 1 rfl rfl ?_; clear hok a; intro a hok
          refine s_ob hok (v := .string ((b.ops.getD k default).key)) rfl rfl (by decide) rfl (Ob_load TB_Ops rfl rfl rfl (X3.cell 0 rfl)) ?_; clear hok a; intro a hok
          refine s_call hok fn_70_Ops (caps := #[]) rfl rfl rfl rfl rfl (by decide) rfl rfl (c_ref05_Check ((b.ops.getD k default).key) _ hok_e1.1) ?_; clear hok a; intro _ a w5 hr hok
          obtain ⟨rfl, hb⟩ := hr
          have hz_w5 : w4.heap.size ≤ w5.heap.size := hb.size
          replace B := B.blw hb
          replace L0_b := L0_b.below hb
          replace X1 := X1.below hb
          replace X3 := X3.below hb
          clear hb
          refine s_runk TB_Ops hok 1 rfl rfl ?_; clear hok a; intro a hok
          refine s_end hok [0, 1, 12, 20, 24, 3, 29, 4, 40] rfl ?_; clear hok; intro hok
          refine p_then ?_
          refine f_cond hok rfl (fun hc5 => ?_) (fun hc5 => ?_)
          · replace hc5 := bne_iff_ne.1 hc5
            refine wp_seq ?_
            refine f_region hok ?_; clear hok; intro hok
            refine s_runk TB_Ops hok 1 rfl rfl ?_; clear hok a; intro a hok
            refine s_end hok [0, 1, 12, 20, 24, 3, 29, 4, 40, 2] rfl ?_; clear hok; intro hok
            refine p_then ?_
            refine wp_ret ?_
            refine p_then_r ?_
            refine p_blk_r ?_
            refine p_then_r ?_
            refine p_then_r ?_
            refine p_blk_r ?_
            refine p_then_r ?_
            refine f_ret hok (run_results1 rfl hok rfl) ?_
            refine ⟨?_, B.toBelow⟩
            · clear hok B L0_b X1 X3 hc_v0_b hm_v0_b ha_P1 ho_P1 hb0_b1 hb1_b1 hge_b1 hz_w1 he1 hat1 hb0_b2 hb1_b2 hge_b2 hlt_b1_b2 hz_w3 hz_w4 hz_w5
              exact chk_stop hinv0_1 (by omega) (by clear hinv0_1; (unfold oneL; (repeat' split) <;> first | rfl | (exfalso; omega) | grind)) (by decide)
          · replace hc5 := bne_eq_false_iff_eq.1 hc5
            refine wp_skip ?_
            refine p_then ?_
            refine wp_seq ?_
            refine wp_seq ?_
            refine f_region hok ?_; clear hok; intro hok
            refine s_runk TB_Ops hok 1 rfl rfl ?_; clear hok a; intro a hok
            refine s_ob hok (v := .string ((b.ops.getD k default).val)) rfl rfl (by decide) rfl (Ob_load TB_Ops rfl rfl rfl (X3.cell 1 rfl)) ?_; clear hok a; intro a hok
            refine s_runk TB_Ops hok 2 rfl rfl ?_; clear hok a; intro a hok
            refine s_end hok [0, 1, 12, 20, 24, 3, 29, 4, 40, 44] rfl ?_; clear hok; intro hok
            refine p_then ?_
            refine f_cond hok rfl (fun hc6 => ?_) (fun hc6 => ?_)
            · replace hc6 := of_decide_eq_true hc6
              refine wp_seq ?_
              refine f_region hok ?_; clear hok; intro hok
              refine s_runk TB_Ops hok 1 rfl rfl ?_; clear hok a; intro a hok
              refine s_end hok [0, 1, 12, 20, 24, 3, 29, 4, 40, 44, 2] rfl ?_; clear hok; intro hok
              refine p_then ?_
              refine wp_ret ?_
              refine p_then_r ?_
              refine p_blk_r ?_
              refine p_then_r ?_
              refine p_then_r ?_
              refine p_blk_r ?_
              refine p_then_r ?_
              refine f_ret hok (run_results1 rfl hok rfl) ?_
              refine ⟨?_, B.toBelow⟩
              · clear hok B L0_b X1 X3 hc_v0_b hm_v0_b ha_P1 ho_P1 hb0_b1 hb1_b1 hge_b1 hz_w1 he1 hat1 hb0_b2 hb1_b2 hge_b2 hlt_b1_b2 hz_w3 hz_w4 hz_w5
                exact chk_stop hinv0_1 (by omega) (by clear hinv0_1; (unfold oneL; (repeat' split) <;> first | rfl | (exfalso; omega) | grind)) (by decide)
            · replace hc6 := of_decide_eq_false hc6
              refine wp_skip ?_
              refine p_then ?_
              refine wp_seq ?_
              refine wp_seq ?_
              refine f_region hok ?_; clear hok; intro hok
              refine s_runk TB_Ops hok 1 rfl rfl ?_; clear hok a; intro a hok
              refine s_ob hok (v := .bool ((b.ops.getD k default).del)) rfl rfl (by decide) rfl (Ob_load TB_Ops rfl rfl rfl (X3.cell 2 rfl)) ?_; clear hok a; intro a hok
              refine s_runk TB_Ops hok 1 rfl rfl ?_; clear hok a; intro a hok
              refine s_gob hok (c := (b.ops.getD k default).del) rfl rfl rfl rfl (by decide) rfl (by decide) rfl (fun _ => Ob_c TB_Ops rfl) ?_; clear hok a; intro a hok
              refine s_gob hok (c := (b.ops.getD k default).del) (v := .string ((b.ops.getD k default).val)) rfl rfl rfl rfl (by decide) rfl (by decide) rfl (fun hg3 => ?_) ?_
              · skip
                exact Ob_load TB_Ops rfl rfl rfl (X3.cell 1 rfl)
              clear hok a; intro a hok
              refine s_gob hok (c := (b.ops.getD k default).del) rfl rfl rfl rfl (by decide) rfl (by decide) rfl (fun _ => Ob_c TB_Ops rfl) ?_; clear hok a; intro a hok
              refine s_and hok (i := 2) rfl rfl rfl rfl rfl rfl rfl (by decide) rfl rfl ?_; clear hok a; intro a hok
              refine s_end hok [0, 1, 12, 20, 24, 3, 29, 4, 40, 44, 51] rfl ?_; clear hok; intro hok
              refine p_then ?_
              refine f_cond hok rfl (fun hc7 => ?_) (fun hc7 => ?_)
              · replace hc7 := And.intro ((andT1 hc7)) (seqEF (notT (andT2 hc7)))
                refine wp_seq ?_
                refine f_region hok ?_; clear hok; intro hok
                refine s_runk TB_Ops hok 1 rfl rfl ?_; clear hok a; intro a hok
                refine s_end hok [0, 1, 12, 20, 24, 3, 29, 4, 40, 44, 51, 2] rfl ?_; clear hok; intro hok
                refine p_then ?_
                refine wp_ret ?_
                refine p_then_r ?_
                refine p_blk_r ?_
                refine p_then_r ?_
                refine p_then_r ?_
                refine p_blk_r ?_
                refine p_then_r ?_
                refine f_ret hok (run_results1 rfl hok rfl) ?_
                refine ⟨?_, B.toBelow⟩
                · clear hok B L0_b X1 X3 hc_v0_b hm_v0_b ha_P1 ho_P1 hb0_b1 hb1_b1 hge_b1 hz_w1 he1 hat1 hb0_b2 hb1_b2 hge_b2 hlt_b1_b2 hz_w3 hz_w4 hz_w5
                  exact chk_stop hinv0_1 (by omega) (by clear hinv0_1; (unfold oneL; (repeat' split) <;> first | rfl | (exfalso; omega) | grind)) (by decide)
              · replace hc7 := andF hc7 (fun h => h) (fun h => seqET (notF h))
                refine wp_skip ?_
                refine p_then ?_
                refine wp_seq ?_
                refine f_quietd (by kernel_rfl) (by kernel_rfl) hok ?_; clear hok; intro hok
                refine q_runk TB_Ops hok 3 rfl rfl ?_; clear hok a; intro a hok
                refine q_gob hok (c := decide ((k : Int) > 0)) rfl rfl rfl rfl (by decide) rfl (by decide) rfl (fun _ => fun _ _ => Ob_c TB_Ops rfl) ?_; clear hok a; intro a hok
                refine q_gob hok (c := decide ((k : Int) > 0)) (v := .slice ao_v0_b b.ops.length cap_v0_b) rfl rfl rfl rfl (by decide) rfl (by decide) rfl (fun hg4 => ?_) ?_
                · replace hg4 := of_decide_eq_true hg4
                  exact fun _ hw => Ob_load TB_Ops rfl rfl rfl ((X1.below hw).cell 2 rfl)
                clear hok a; intro a hok
                refine q_gob hok (c := decide ((k : Int) > 0)) rfl rfl rfl rfl (by decide) rfl (by decide) rfl (fun _ => fun _ _ => Ob_c TB_Ops rfl) ?_; clear hok a; intro a hok
                refine q_gob hok (c := decide ((k : Int) > 0)) (v := .int .i64 ((k - 1 : Nat) : Int)) rfl rfl rfl rfl (by decide) rfl (by decide) rfl (fun hg5 => ?_) ?_
                · replace hg5 := of_decide_eq_true hg5
                  exact fun _ hw => Ob_sub rfl rfl rfl ((IntWalk.i64_in _ (by omega)).trans (by omega))
                clear hok a; intro a hok
                refine q_gob hok (c := decide ((k : Int) > 0)) (v := .pointer (some ⟨bOf ao_v0_b, oOf ao_v0_b + (k - 1) * 3, none⟩)) rfl rfl rfl rfl (by decide) rfl (by decide) rfl (fun hg6 => ?_) ?_
                · replace hg6 := of_decide_eq_true hg6
                  have hi2 : (k - 1) < b.ops.length := by omega
                  have he2 := elt L0_b ((k - 1)) (slRep.lt L0_b hi2)
                  exact fun _ hw => Ob_idx TB_Ops ((k - 1)) rfl rfl he2.1 rfl rfl rfl hi2
                clear hok a; intro a hok
                refine q_gob hok (c := decide ((k : Int) > 0)) rfl rfl rfl rfl (by decide) rfl (by decide) rfl (fun _ => fun _ _ => Ob_c TB_Ops rfl) ?_; clear hok a; intro a hok
                refine q_gob hok (c := decide ((k : Int) > 0)) (v := .string ((b.ops.getD (k - 1) default).key)) rfl rfl rfl rfl (by decide) rfl (by decide) rfl (fun hg7 => ?_) ?_
                · replace hg7 := of_decide_eq_true hg7
                  have hi3 : (k - 1) < b.ops.length := by omega
                  have he3 := elt L0_b ((k - 1)) (slRep.lt L0_b hi3)
                  obtain ⟨_, _, _, ⟨rfl, hok_e2⟩, hat2⟩ := id he3
                  exact fun _ hw => Ob_load TB_Ops rfl rfl rfl ((hat2.below hw he3.2.1.2) 0 _ rfl)
                clear hok a; intro a hok
                refine q_gob hok (c := decide ((k : Int) > 0)) rfl rfl rfl rfl (by decide) rfl (by decide) rfl (fun _ => fun _ _ => Ob_c TB_Ops rfl) ?_; clear hok a; intro a hok
                refine q_gob hok (c := decide ((k : Int) > 0)) (v := .string ((b.ops.getD k default).key)) rfl rfl rfl rfl (by decide) rfl (by decide) rfl (fun hg8 => ?_) ?_
                · replace hg8 := of_decide_eq_true hg8
                  exact fun _ hw => Ob_load TB_Ops rfl rfl rfl ((X3.below hw).cell 0 rfl)
                clear hok a; intro a hok
                refine q_gob hok (c := decide ((k : Int) > 0)) rfl rfl rfl rfl (by decide) rfl (by decide) rfl (fun _ => fun _ _ => Ob_c TB_Ops rfl) ?_; clear hok a; intro a hok
                refine q_and hok (i := 2) rfl rfl rfl rfl rfl rfl rfl (by decide) rfl rfl ?_; clear hok a; intro a hok
                refine q_end hok [0, 1, 12, 20, 24, 3, 29, 4, 40, 44, 51, 65] rfl ?_; clear hok; intro w6 hb hok
                have hz_w6 : w5.heap.size ≤ w6.heap.size := hb.size
                replace B := B.blw hb
                replace L0_b := L0_b.below hb
                replace X1 := X1.below hb
                replace X3 := X3.below hb
                clear hb
                refine p_then ?_
                refine f_cond hok rfl (fun hc8 => ?_) (fun hc8 => ?_)
                · replace hc8 := And.intro (of_decide_eq_true (andT1 hc8)) ((notT (andT2 hc8)))
                  refine wp_seq ?_
                  refine f_region hok ?_; clear hok; intro hok
                  refine s_runk TB_Ops hok 1 rfl rfl ?_; clear hok a; intro a hok
                  refine s_end hok [0, 1, 12, 20, 24, 3, 29, 4, 40, 44, 51, 65, 2] rfl ?_; clear hok; intro hok
                  refine p_then ?_
                  refine wp_ret ?_
                  refine p_blk_r ?_
                  refine p_then_r ?_
                  refine p_then_r ?_
                  refine p_blk_r ?_
                  refine p_then_r ?_
                  refine f_ret hok (run_results1 rfl hok rfl) ?_
                  refine ⟨?_, B.toBelow⟩
                  · clear hok B L0_b X1 X3 hc_v0_b hm_v0_b ha_P1 ho_P1 hb0_b1 hb1_b1 hge_b1 hz_w1 he1 hat1 hb0_b2 hb1_b2 hge_b2 hlt_b1_b2 hz_w3 hz_w4 hz_w5 hz_w6
                    exact chk_stop hinv0_1 (by omega) (by clear hinv0_1; unfold aheadK; (unfold oneL; (repeat' split) <;> first | rfl | (exfalso; omega) | grind)) (by decide)
                · replace hc8 := andF hc8 (fun h => of_decide_eq_false h) (fun h => (notF h))
                  refine wp_skip ?_
                  refine p_blk ?_
                  refine p_then ?_
                  refine f_region hok ?_; clear hok; intro hok
                  refine s_runk TB_Ops hok 1 rfl rfl ?_; clear hok a; intro a hok
                  refine s_ob hok (v := .int .i64 ((k : Int) + 1)) rfl rfl (by decide) rfl (Ob_add rfl rfl rfl (IntWalk.i64_in _ (by omega))) ?_; clear hok a; intro a hok
                  refine s_runk TB_Ops hok 1 rfl rfl ?_; clear hok a; intro a hok
                  refine s_end hok [0, 1, 12, 20, 24, 3, 29, 4, 40, 44, 51, 65] rfl ?_; clear hok; intro hok
                  refine p_then ?_
                  refine ⟨k + 1, ⟨hok.sub (ts := [0, 1, 12, 20, 24, 3]) rfl, ?_, ?_, B, L0_b, X1⟩, by omega⟩
                  · clear hok B L0_b X1 X3 hc_v0_b hm_v0_b ha_P1 ho_P1 hb0_b1 hb1_b1 hge_b1 hz_w1 he1 hat1 hb0_b2 hb1_b2 hge_b2 hlt_b1_b2 hz_w3 hz_w4 hz_w5 hz_w6
                    omega
                  · clear hok B L0_b X1 X3 hc_v0_b hm_v0_b ha_P1 ho_P1 hb0_b1 hb1_b1 hge_b1 hz_w1 he1 hat1 hb0_b2 hb1_b2 hge_b2 hlt_b1_b2 hz_w3 hz_w4 hz_w5 hz_w6
                    rw [hinv0_1, cks_step b.ops k (by omega), if_neg]; rw [Decidable.not_not]; clear hinv0_1; unfold aheadK; (unfold oneL; (repeat' split) <;> first | rfl | (exfalso; omega) | grind)
        · replace hc4 := of_decide_eq_false hc4
          refine wp_exit ?_
          refine p_then_x ?_
          refine p_then_x ?_
          refine f_exit_here ?_
          refine p_then ?_
          refine wp_seq ?_
          refine f_region hok ?_; clear hok; intro hok
          refine s_runk TB_Ops hok 1 rfl rfl ?_; clear hok a; intro a hok
          refine s_end hok [0, 1, 12, 20, 24, 3, 29, 2] rfl ?_; clear hok; intro hok
          refine p_then ?_
          refine wp_ret ?_
          refine f_ret hok (run_results1 rfl hok rfl) ?_
          refine ⟨?_, B.toBelow⟩
          · clear hok B L0_b X1 hc_v0_b hm_v0_b ha_P1 ho_P1 hb0_b1 hb1_b1 hge_b1 hz_w1
            rw [hinv0_1, List.drop_eq_nil_of_le (by omega)]; rfl


end Go.Proofs.Ytmdoimpeacndaaa
