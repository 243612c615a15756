/- The statements of layer 32 proved: whatever the input, the law returns true and the input reads as it did. No conditions. -/
import Derived.Test.YtmdoimpeacndaaaRows
import Derived.Test.YtmdoimpeacndaaaOpen2
import Derived.Test.YtmdoimpeacndaaaRelay4
namespace Go.Proofs.Ytmdoimpeacndaaa
open Go.ChangeShapes Go.WideShapes Go.ChangeAt Go.RowKit
open Go.ChangeMaps (open_string shut_string)

theorem own : ownKnob Try.prog.godebug = none := by kernel_rfl
theorem laidOut : laidOutB Try.prog = true := by kernel_rfl

theorem opens_t116 : Opens Try.prog 116 RDOp := by
  intro H enc w base spare held fuel cs x h
  obtain ⟨hlen, m, hf⟩ := struct_parts Try.underlying116 h
  obtain ⟨z0, t0⟩ := hf 0 _ rfl
  obtain ⟨y0, r0⟩ := (opens_string Try.underlying9) t0
  obtain ⟨e0, q0⟩ := r0
  obtain ⟨z1, t1⟩ := hf 1 _ rfl
  obtain ⟨y1, r1⟩ := (opens_string Try.underlying9) t1
  obtain ⟨e1, q1⟩ := r1
  obtain ⟨z2, t2⟩ := hf 2 _ rfl
  obtain ⟨y2, r2⟩ := (opens_bool Try.underlying4) t2
  obtain ⟨e2, q2⟩ := r2
  exact ⟨⟨y0, y1, y2⟩, (part_eq (p := 1) e0 rfl (part_eq (p := 2) e1 rfl (part_eq (p := 3) e2 rfl (part_end hlen (by kernel_rfl : Try.prog.cellsOf 116 = 3))))), ⟨q0, q1⟩⟩
theorem opens_t31 : Opens Try.prog 31 (RSl RDOp) := opens_slice Try.underlying31 (by kernel_rfl) (by decide) opens_t116
theorem opens_t33 : Opens Try.prog 33 RDBatch := by
  intro H enc w base spare held fuel cs x h
  obtain ⟨hlen, m, hf⟩ := struct_parts Try.underlying33 h
  obtain ⟨z0, t0⟩ := hf 0 _ rfl
  obtain ⟨y0, r0⟩ := (opens_i64 Try.underlying3) t0
  obtain ⟨e0, q0⟩ := r0
  obtain ⟨z1, t1⟩ := hf 1 _ rfl
  obtain ⟨y1, r1⟩ := (opens_i64 Try.underlying3) t1
  obtain ⟨e1, q1⟩ := r1
  obtain ⟨z2, t2⟩ := hf 2 _ rfl
  obtain ⟨y2, r2⟩ := opens_t31 t2
  obtain ⟨u2, e2, L2⟩ := r2
  exact ⟨⟨y0, y1, y2⟩, u2, (part_eq (p := 1) e0 rfl (part_eq (p := 2) e1 rfl (part_eq (p := 3) e2 rfl (part_end hlen (by kernel_rfl : Try.prog.cellsOf 33 = 3))))), L2, ⟨q0, q1⟩⟩
theorem opens_t57 : Opens Try.prog 57 RDEntry := by
  intro H enc w base spare held fuel cs x h
  obtain ⟨hlen, m, hf⟩ := struct_parts Try.underlying57 h
  obtain ⟨z0, t0⟩ := hf 0 _ rfl
  obtain ⟨y0, r0⟩ := opens_t33 t0
  obtain ⟨u0_0, e0, L0_0, q0⟩ := r0
  obtain ⟨z1, t1⟩ := hf 1 _ rfl
  obtain ⟨y1, r1⟩ := (opens_u64 Try.underlying24) t1
  obtain ⟨e1, q1⟩ := r1
  exact ⟨⟨y0, y1⟩, u0_0, (part_eq (p := 3) e0 rfl (part_eq (p := 4) e1 rfl (part_end hlen (by kernel_rfl : Try.prog.cellsOf 57 = 4)))), L0_0, ⟨q0, q1⟩⟩
theorem opens_t22 : Opens Try.prog 22 (RSl RDEntry) := opens_slice Try.underlying22 (by kernel_rfl) (by decide) opens_t57

set_option maxRecDepth 100000 in
theorem relayMay_lifted (os : Os) (started : os.Started) (H : Type) (enc : TypeId × Value → H) :
    ReturnsInHanded {} Try.checked os 3 .any (Rows.relayMaySpec.pre6 enc Try.prog Try.f3 Rows.relayMayRow.domain false) (Rows.relayMaySpec.post enc Try.prog Try.f3 false true false false) := by
  refine returnsInHanded_of_change (C := Try.checked) own started (by kernel_rfl) Try.func3
    (ChangeSpec.witness6 (enc := enc) (C := Try.checked) false ⟨#[], #[.slice none 0 0, .agg #[.int .u8 0, .int .u8 0, .int .u8 0, .int .u8 0, .int .u8 0], .int .u64 0], []⟩ 8 (by kernel_rfl) (by kernel_rfl) (by kernel_rfl) (by kernel_rfl)) ?_
  intro W base args ds gs before hval0 hW hcnd _
  have hval : ∀ (j : Nat) t v, Try.f3.params[j]? = some t → args[j]? = some v → Value.okWide Try.prog W .any base t v := hval0
  have hW' := hW
  obtain ⟨p, q, hA0, hV, rfl, hfz, hnd⟩ := hW
  have hA : DataW.TrodAll enc Try.prog W 0 (fun _ => true) true Try.f3.params.toList args.toList ds p := hA0
  rw [Try.params3] at hA hval
  obtain ⟨v0, vs0, d0, ds0, p0, q0, hargs, rfl, rfl, h0, r0⟩ := trodAll_cons hA
  obtain ⟨v1, vs1, d1, ds1, p1, q1, rfl, rfl, rfl, h1, r1⟩ := trodAll_cons r0
  obtain ⟨v2, vs2, d2, ds2, p2, q2, rfl, rfl, rfl, h2, r2⟩ := trodAll_cons r1
  obtain ⟨rfl, rfl, rfl⟩ := trodAll_nil r2
  obtain rfl : args = #[v0, v1, v2] := by cases args; simp_all
  obtain ⟨rfl, rfl⟩ := trodVars_none hV
  have k0 := h0
  have lt0 : ∀ x ∈ p0, x.block < W.heap.size := by obtain ⟨m, hm⟩ := k0; exact DataW.trod_lt m _ _ _ hm
  have k1 := h1
  have lt1 : ∀ x ∈ p1, x.block < W.heap.size := by obtain ⟨m, hm⟩ := k1; exact DataW.trod_lt m _ _ _ hm
  have k2 := h2
  have lt2 : ∀ x ∈ p2, x.block < W.heap.size := by obtain ⟨m, hm⟩ := k2; exact DataW.trod_lt m _ _ _ hm
  have y0 := hval 0 22 v0 rfl rfl
  have y1 := hval 1 23 v1 rfl rfl
  have y2 := hval 2 24 v2 rfl rfl
  clear hA0 hval0 hval
  obtain ⟨d_l, L_v_l⟩ := arg_slice Try.underlying22 opens_t22 y0 h0
  obtain ⟨cs_ar3, m_ar3, rfl, l_ar3, f_ar3⟩ := arg_array (k := 1) Try.underlying23 (by kernel_rfl) y1 h1
  obtain ⟨z_n00, t_n00⟩ := f_ar3 0 (by decide)
  obtain ⟨d_n00, e_n00, h_n00⟩ := (opens_u8 Try.underlying5) t_n00
  obtain ⟨z_n01, t_n01⟩ := f_ar3 1 (by decide)
  obtain ⟨d_n01, e_n01, h_n01⟩ := (opens_u8 Try.underlying5) t_n01
  obtain ⟨z_n02, t_n02⟩ := f_ar3 2 (by decide)
  obtain ⟨d_n02, e_n02, h_n02⟩ := (opens_u8 Try.underlying5) t_n02
  obtain ⟨z_n03, t_n03⟩ := f_ar3 3 (by decide)
  obtain ⟨d_n03, e_n03, h_n03⟩ := (opens_u8 Try.underlying5) t_n03
  obtain ⟨z_n04, t_n04⟩ := f_ar3 4 (by decide)
  obtain ⟨d_n04, e_n04, h_n04⟩ := (opens_u8 Try.underlying5) t_n04
  obtain rfl := arr_of (cs := cs_ar3) (part_eq (p := 1) e_n00 rfl (part_eq (p := 2) e_n01 rfl (part_eq (p := 3) e_n02 rfl (part_eq (p := 4) e_n03 rfl (part_eq (p := 5) e_n04 rfl (part_end l_ar3 (by kernel_rfl : Try.prog.cellsOf 23 = 5)))))))
  obtain ⟨d_horizon, rfl, h_horizon⟩ := arg_u64 Try.underlying24 y2 h2
  refine (Calls.row (law_RelayMay _ _ _ _ _ _ _ _ W L_v_l h_n00 h_n01 h_n02 h_n03 h_n04 h_horizon)).mono fun e W' ⟨he, bel⟩ => ?_
  subst he
  exact ⟨_, rfl, _, _, _, [], _, [], hW', trodAll_mk1 (shut_bool Try.underlying4 _), (trodAll_cons_mk (Below.trod laidOut (by kernel_rfl) (of_decide_eq_true (by kernel_rfl)) k0 bel lt0) (trodAll_cons_mk (Below.trod laidOut (by kernel_rfl) (of_decide_eq_true (by kernel_rfl)) k1 bel lt1) (trodAll_cons_mk (Below.trod laidOut (by kernel_rfl) (of_decide_eq_true (by kernel_rfl)) k2 bel lt2) trodAll_mk0))), rfl, bel.frame _, fun h => by cases h⟩

theorem relayMay_holds : Rows.RelayMaySaid :=
  OpenClaim.holds_of_wide 3 Try.f3 rfl rfl rfl rfl rfl rfl rfl ⟨rfl, rfl, rfl, rfl, rfl⟩ rfl rfl rfl rfl rfl (by kernel_rfl) Try.func3 (by kernel_rfl)
    (of_decide_eq_true (by kernel_rfl)) (by unfold Func.isWrapper; first | (rw [if_pos (by decide +kernel)]; kernel_rfl) | (rw [if_neg (by decide +kernel)]; exact ⟨rfl, rfl⟩))
    (fun os started H enc _ => relayMay_lifted os started H enc)

end Go.Proofs.Ytmdoimpeacndaaa
