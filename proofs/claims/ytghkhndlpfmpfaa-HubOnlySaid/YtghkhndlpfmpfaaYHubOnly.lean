/- The statement HubOnly of layer 23 proved: whatever the input, the law returns true and the input reads as it did. -/
import Derived.Test.YtghkhndlpfmpfaaRows
import Derived.Test.YtghkhndlpfmpfaaYO
import Derived.Test.YtghkhndlpfmpfaaYHp5
namespace Go.Proofs.Ytghkhndlpfmpfaa
open Go.ChangeShapes Go.WideShapes Go.ChangeAt Go.RowKit
open Go.ChangeMaps (open_string shut_string)

theorem own : ownKnob Try.prog.godebug = none := by kernel_rfl

theorem laidOut : laidOutB Try.prog = true := by kernel_rfl

theorem opensN_t33 : OpensB Try.prog 33 NElaw23_Act bdElaw23_Act := by
 intro H enc w base spare held fuel cs x h
 obtain ⟨hlen, m, hf⟩ := struct_parts Try.underlying33 h
 obtain ⟨z0, t0, w0⟩ := hf 0 _ rfl
 obtain ⟨y0, r0, b0⟩ := (opensN_i64 Try.underlying3) t0
 obtain ⟨e0, _⟩ := r0
 obtain ⟨z1, t1, w1⟩ := hf 1 _ rfl
 obtain ⟨y1, r1, b1⟩ := (opensN_i64 Try.underlying3) t1
 obtain ⟨e1, _⟩ := r1
 obtain ⟨z2, t2, w2⟩ := hf 2 _ rfl
 obtain ⟨y2, r2, b2⟩ := (opensN_string Try.underlying9) t2
 obtain ⟨e2, _⟩ := r2
 obtain ⟨z3, t3, w3⟩ := hf 3 _ rfl
 obtain ⟨y3, r3, b3⟩ := (opensN_bool Try.underlying4) t3
 obtain ⟨e3, _⟩ := r3
 exact ⟨⟨y0, y1, y2, y3⟩, ⟨(part_eq (p := 1) e0 rfl (part_eq (p := 2) e1 rfl (part_eq (p := 3) e2 rfl (part_eq (p := 4) e3 rfl (part_end hlen (by kernel_rfl : Try.prog.cellsOf 33 = 4)))))), trivial⟩, fun hw => ⟨b0 (w0 hw), b1 (w1 hw), b2 (w2 hw), b3 (w3 hw)⟩⟩

theorem opensN_t22 : OpensB Try.prog 22 (RSl NElaw23_Act) (bdSl bdElaw23_Act) := opens_sliceB Try.underlying22 (by kernel_rfl) (by decide) (of_decide_eq_true (by kernel_rfl)) opensN_t33

set_option maxRecDepth 100000 in
theorem hubOnly_lifted (os : Os) (started : os.Started) (H : Type) (enc : TypeId × Value → H) :
  ReturnsInHanded {} Try.checked os 3 .any (Rows.hubOnlySpec.pre6 enc Try.prog Try.f3 Rows.hubOnlyRow.domain false) (Rows.hubOnlySpec.post enc Try.prog Try.f3 false true false false) := by
 refine returnsInHanded_of_change_sized (C := Try.checked) own started (by kernel_rfl) Try.func3
  (ChangeSpec.witness6 (enc := enc) (C := Try.checked) false ⟨#[], #[.slice none 0 0], []⟩ 8 (by kernel_rfl) (by kernel_rfl) (by kernel_rfl) (by kernel_rfl)) ?_
 intro W base args ds gs before hval0 hW hcnd hsz _
 have hval : ∀ (j : Nat) t v, Try.f3.params[j]? = some t → args[j]? = some v → Value.okWide Try.prog W .any base t v := hval0
 have hW' := hW
 obtain ⟨p, q, hA0, hV, rfl, hfz, hnd⟩ := hW
 have hA : DataW.TrodAll enc Try.prog W 0 (fun _ => true) true Try.f3.params.toList args.toList ds p := hA0
 rw [Try.params3] at hA hval
 obtain ⟨v0, vs0, d0, ds0, p0, q0, hargs, rfl, rfl, h0, r0⟩ := trodAll_cons hA
 obtain ⟨rfl, rfl, rfl⟩ := trodAll_nil r0
 obtain rfl : args = #[v0] := by cases args; simp_all
 obtain ⟨rfl, rfl⟩ := trodVars_none hV
 have k0 := h0
 have lt0 : ∀ x ∈ p0, x.block < W.heap.size := by obtain ⟨m, hm⟩ := k0; exact DataW.trod_lt m _ _ _ hm
 have y0 := hval 0 22 v0 rfl rfl
 clear hA0 hval0 hval
 have bw0 := wb_of hsz (j := 0) (t := 22) (by kernel_rfl) rfl
 obtain ⟨d_p0, L_p0, bd_p0⟩ := arg_sliceB Try.underlying22 opensN_t22 y0 h0 bw0
 refine (Calls.row (plainC (c_law23_HubOnly (pure_HubOnly d_p0 bd_p0) (St.sl L_p0 (St.base W))))).mono fun e W' ⟨he, bel⟩ => ?_
 subst he
 exact ⟨_, rfl, _, _, _, [], _, [], hW', trodAll_mk1 (shut_bool Try.underlying4 _), (trodAll_cons_mk (Below.trod laidOut (by kernel_rfl) (of_decide_eq_true (by kernel_rfl)) k0 bel lt0) trodAll_mk0), rfl, bel.frame _, fun h => by cases h⟩

theorem hubOnly_holds : Rows.HubOnlySaid :=
 OpenClaim.holds_of_wide 3 Try.f3 rfl rfl rfl rfl rfl rfl rfl ⟨rfl, rfl, rfl, rfl, rfl⟩ rfl rfl rfl rfl rfl (by kernel_rfl) Try.func3 (by kernel_rfl)
  (of_decide_eq_true (by kernel_rfl)) (by unfold Func.isWrapper; first | (rw [if_pos (by decide +kernel)]; kernel_rfl) | (rw [if_neg (by decide +kernel)]; exact ⟨rfl, rfl⟩))
  (fun os started H enc _ => hubOnly_lifted os started H enc)

end Go.Proofs.Ytghkhndlpfmpfaa
