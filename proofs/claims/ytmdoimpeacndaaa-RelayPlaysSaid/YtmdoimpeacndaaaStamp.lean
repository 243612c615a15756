/- The walks of 'stamp' and its reference. -/
import Derived.Test.YtmdoimpeacndaaaRefs2
import Derived.Test.YtmdoimpeacndaaaSt5
namespace Go.Proofs.Ytmdoimpeacndaaa
open Go.RowKit

def TB_StampL : TabL := ⟨[(37890, 2), (37893, 5), (37895, 7), (37896, 8), (37897, 9), (37903, 19)], [], [], [(22, (57, 4))], [(3, (1, false)), (22, (1, false)), (24, (1, false))]⟩

def TB_Stamp : Tab Try.prog := ⟨TB_StampL, by kernel_rfl⟩

theorem E_22_Stamp : Elem Try.prog 22 57 4 48 := ⟨Try.underlying22, by
  have h : (Try.prog.info? 57).map (fun i => (i.zero, i.size, i.bytes)) = some (some (.agg #[.int .i64 0, .int .i64 0, .slice none 0 0, .int .u64 0]), 4, 48) := by kernel_rfl
  obtain ⟨i, h1, h2, h3, h4⟩ := info_parts h
  exact ⟨i, _, h1, h2, h3, h4, rfl⟩, by decide⟩

set_option maxHeartbeats 1000000 in
theorem c_ref32_fit (n0 : Int) (most : Int) (w : World) (h_n0 : i64ok n0) (h_most : i64ok most) :
    Calls Try.prog 39 #[.int .i64 n0, .int .i64 most] w (Ret fun r w' => r = .int .i64 (min (max n0 0) most) ∧ Below w.heap.size w w') := by
  have B : Bt [] w w := Bt.refl _ _
  unfold i64ok at h_n0
  unfold i64ok at h_most
  refine f_enter 9 Try.func39 rfl rfl (Nat.le_of_ble_eq_true rfl) fun a hok => ?_
  replace hok := hok.sub (ts := [0, 1]) rfl
  refine wp_seq ?_
  refine f_region hok ?_; clear hok; intro hok
  refine s_runk TB_Stamp hok 1 rfl rfl ?_; clear hok a; intro a hok
  refine s_end hok [0, 1, 4] rfl ?_; clear hok; intro hok
  refine p_then ?_
  refine wp_seq ?_
  refine f_region hok ?_; clear hok; intro hok
  refine s_runk TB_Stamp hok 5 rfl rfl ?_; clear hok a; intro a hok
  refine s_end hok [0, 1, 4] rfl ?_; clear hok; intro hok
  refine p_then ?_
  refine wp_ret ?_
  refine f_ret hok (run_results1 rfl hok rfl) ?_
  refine ⟨?_, B.toBelow⟩
  · clear hok B
    rfl

set_option maxHeartbeats 1000000 in
theorem c_relay_fit (n0 : Int) (most : Int) (w : World) (h_n0 : i64ok n0) (h_most : i64ok most) :
    Calls Try.prog 29 #[.int .i64 n0, .int .i64 most] w (Ret fun r w' => r = .int .i64 (min (max n0 0) most) ∧ Below w.heap.size w w') := by
  have B : Bt [] w w := Bt.refl _ _
  unfold i64ok at h_n0
  unfold i64ok at h_most
  refine f_enter 9 Try.func29 rfl rfl (Nat.le_of_ble_eq_true rfl) fun a hok => ?_
  replace hok := hok.sub (ts := [0, 1]) rfl
  refine wp_seq ?_
  refine f_region hok ?_; clear hok; intro hok
  refine s_runk TB_Stamp hok 1 rfl rfl ?_; clear hok a; intro a hok
  refine s_end hok [0, 1, 4] rfl ?_; clear hok; intro hok
  refine p_then ?_
  refine wp_seq ?_
  refine f_region hok ?_; clear hok; intro hok
  refine s_runk TB_Stamp hok 5 rfl rfl ?_; clear hok a; intro a hok
  refine s_end hok [0, 1, 4] rfl ?_; clear hok; intro hok
  refine p_then ?_
  refine wp_ret ?_
  refine f_ret hok (run_results1 rfl hok rfl) ?_
  refine ⟨?_, B.toBelow⟩
  · clear hok B
    rfl

set_option maxHeartbeats 1000000 in
theorem c_Clone_Entry {A0 : Nat → Prop} (v_s : Value) (s : List DEntry) (w : World) (L_s : slRep RDEntry A0 w v_s s) (hb_s : s.length * 48 ≤ 140737488355328) :
    Calls Try.prog 31 #[v_s] w (Ret fun r w' => ∃ q0 : Value, r = q0 ∧ slRep RDEntry (fun k => A0 k ∨ w.heap.size ≤ k) w' q0 s ∧ Below w.heap.size w w') := by
  have B : Bt [] w w := Bt.refl _ _
  obtain ⟨ao_v_s, cap_v_s, rfl, hc_v_s, hm_v_s⟩ := L_s.shape
  unfold maxLen at hm_v_s
  obtain ⟨P1, ha_P1, ho_P1, L_s⟩ : ∃ X : Nat → Prop, (∀ k, X k → k < w.heap.size) ∧ (∀ k, X k → A0 k ∨ w.heap.size ≤ k) ∧ slRep RDEntry X w (.slice ao_v_s s.length cap_v_s) s := ⟨_, fun k h => h.2, fun k h => .inl h.1, L_s.bound⟩
  refine f_enter 8 Try.func31 rfl rfl (Nat.le_of_ble_eq_true rfl) fun a hok => ?_
  replace hok := hok.sub (ts := [0]) rfl
  refine wp_seq ?_
  refine f_region hok ?_; clear hok; intro hok
  refine s_runk TB_Stamp hok 1 rfl rfl ?_; clear hok a; intro a hok
  refine s_end hok [0, 2] rfl ?_; clear hok; intro hok
  refine p_then ?_
  refine wp_seq ?_
  refine wp_seq ?_
  refine f_region hok ?_; clear hok; intro hok
  refine s_runk TB_Stamp hok 1 rfl rfl ?_; clear hok a; intro a hok
  refine s_ob hok (v := .bool ao_v_s.isNone) rfl rfl (by decide) rfl (Ob_bin rfl rfl rfl (eqg_sl _ _ _ _ _ _ _ _ _ _ _) (run_eql_slice_nil' Try.underlying22 _ _ _ _)) ?_; clear hok a; intro a hok
  refine s_end hok [0, 2, 4] rfl ?_; clear hok; intro hok
  refine p_then ?_
  refine f_cond hok rfl (fun hc1 => ?_) (fun hc1 => ?_)
  · skip
    refine wp_seq ?_
    refine f_region hok ?_; clear hok; intro hok
    refine s_runk TB_Stamp hok 1 rfl rfl ?_; clear hok a; intro a hok
    refine s_end hok [0, 2, 4] rfl ?_; clear hok; intro hok
    refine p_then ?_
    refine wp_ret ?_
    refine p_then_r ?_
    refine f_ret hok (run_results1 rfl hok rfl) ?_
    refine ⟨.slice none 0 0, ?_, ?_, B.toBelow⟩
    · clear hok B L_s hc_v_s hm_v_s ha_P1 ho_P1
      rfl
    · have e := L_s.isNone hc1; subst e; exact slRep.nil _ _ _ _ _ (Nat.zero_le _)
  · skip
    refine wp_skip ?_
    refine p_then ?_
    refine wp_seq ?_
    refine f_region hok ?_; clear hok; intro hok
    refine s_bslice hok (vs := []) (cs := []) (e := 57) rfl rfl rfl (by decide) rfl rfl (fun w => run_bslice (z := .agg #[.int .i64 0, .int .i64 0, .slice none 0 0, .int .u64 0]) (m := 4) Try.underlying22 (by kernel_rfl) rfl rfl (by decide) (by simp [Instr.fill, Value.cells]) w) ?_; clear hok a; intro a w1 b1 hb0_b1 hb1_b1 hb X1 hok
    have hge_b1 : w.heap.size ≤ b1 := by have := B.size; omega
    have hz_w1 : w.heap.size ≤ w1.heap.size := hb.size
    replace B := B.blw hb
    replace L_s := L_s.below hb
    clear hb
    refine s_runk TB_Stamp hok 1 rfl rfl ?_; clear hok a; intro a hok
    have O1 : Ow RDEntry P1 w.heap.size 57 w1 (.slice (some ⟨b1, 0, none⟩) 0 0) [] := Ow.nil _ _ _ _ _ _
    have hg_O1 : ∀ k, (Value.slice (some ⟨b1, 0, none⟩) 0 0).ownBlock = some k → w.heap.size ≤ k ∧ k < w1.heap.size := fun k h => by simp [Value.ownBlock] at h; subst h; exact ⟨hge_b1, X1.lt⟩
    refine s_app2 hok RDEntry P1 w.heap.size E_22_Stamp rfl ([]) s AnyA _ rfl rfl rfl (by decide) rfl rfl rfl O1 L_s.two (fun cs y hr => RDEntry.mono (RDEntry.bound hr) (fun k hk => ⟨hk.1, fun e => by have h1 := (hg_O1 k e).1; have h2 := ha_P1 _ hk.1; omega⟩) (Keep.refl _ _)) (by simp only [maxLen, List.length_append, List.length_cons, List.length_nil]; omega) (by simp only [List.length_append, List.length_cons, List.length_nil]; omega) B.size hg_O1 ?_; clear hok a; intro ao1 cap1 a w2 O2 hc_O2 hm_O2 hb hblk hown hg_O2 hok
    have hz_w2 : w1.heap.size ≤ w2.heap.size := hb.size
    replace B := B.app hb
    replace L_s := L_s.mono (fun _ h => h) (keep_app hz_w2 hblk (fun k h e => by have h1 := ha_P1 _ h; have h2 := (hg_O1 k e).1; omega))
    clear hb hblk hown O1
    refine s_runk TB_Stamp hok 1 rfl rfl ?_; clear hok a; intro a hok
    refine s_end hok [0, 2, 4] rfl ?_; clear hok; intro hok
    refine p_then ?_
    refine wp_ret ?_
    refine f_ret hok (run_results1 rfl hok rfl) ?_
    refine ⟨.slice ao1 ((([]) ++ s).length) cap1, ?_, ?_, B.toBelow⟩
    · clear hok B L_s O2 hc_v_s hm_v_s ha_P1 ho_P1 hb0_b1 hb1_b1 hge_b1 hz_w1 hg_O1 hc_O2 hm_O2 hz_w2 hg_O2
      rfl
    · exact O2.sl (fun k h => ho_P1 _ h) (fun k h => (.inr h))

end Go.Proofs.Ytmdoimpeacndaaa
