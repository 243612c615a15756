/- The statement LinkFair of layer 22 proved: whatever the input, the law returns true and the input reads as it did. -/
import Derived.Test.YthomnhhjgcabkaaRows
import Derived.Test.YthomnhhjgcabkaaYO
import Derived.Test.YthomnhhjgcabkaaYLf3
namespace Go.Proofs.Ythomnhhjgcabkaa
open Go.ChangeShapes Go.WideShapes Go.ChangeAt Go.RowKit
open Go.ChangeMaps (open_string shut_string)

theorem own : ownKnob Try.prog.godebug = none := by kernel_rfl

theorem laidOut : laidOutB Try.prog = true := by kernel_rfl

theorem opensN_t55 : OpensB Try.prog 55 NElaw22_Step bdElaw22_Step := by
 intro H enc w base spare held fuel cs x h
 obtain ⟨hlen, m, hf⟩ := struct_parts Try.underlying55 h
 obtain ⟨z0, t0, w0⟩ := hf 0 _ rfl
 obtain ⟨y0, r0, b0⟩ := (opensN_i64 Try.underlying3) t0
 obtain ⟨e0, _⟩ := r0
 obtain ⟨z1, t1, w1⟩ := hf 1 _ rfl
 obtain ⟨y1, r1, b1⟩ := (opensN_u8 Try.underlying5) t1
 obtain ⟨e1, _⟩ := r1
 obtain ⟨z2, t2, w2⟩ := hf 2 _ rfl
 obtain ⟨y2, r2, b2⟩ := (opensN_bool Try.underlying4) t2
 obtain ⟨e2, _⟩ := r2
 exact ⟨⟨y0, y1, y2⟩, ⟨(part_eq (p := 1) e0 rfl (part_eq (p := 2) e1 rfl (part_eq (p := 3) e2 rfl (part_end hlen (by kernel_rfl : Try.prog.cellsOf 55 = 3))))), trivial⟩, fun hw => ⟨b0 (w0 hw), b1 (w1 hw), b2 (w2 hw)⟩⟩

theorem opensN_t50 : OpensB Try.prog 50 (RSl NElaw22_Step) (bdSl bdElaw22_Step) := opens_sliceB Try.underlying50 (by kernel_rfl) (by decide) (of_decide_eq_true (by kernel_rfl)) opensN_t55

set_option maxRecDepth 100000 in
theorem linkFair_lifted (os : Os) (started : os.Started) (H : Type) (enc : TypeId × Value → H) :
  ReturnsInHanded {} Try.checked os 5 .any (Rows.linkFairSpec.pre6 enc Try.prog Try.f5 Rows.linkFairRow.domain false) (Rows.linkFairSpec.post enc Try.prog Try.f5 false true false false) := by
 refine returnsInHanded_of_change_sized (C := Try.checked) own started (by kernel_rfl) Try.func5
  (ChangeSpec.witness6 (enc := enc) (C := Try.checked) false ⟨#[], #[.slice none 0 0], []⟩ 8 (by kernel_rfl) (by kernel_rfl) (by kernel_rfl) (by kernel_rfl)) ?_
 intro W base args ds gs before hval0 hW hcnd hsz _
 have hval : ∀ (j : Nat) t v, Try.f5.params[j]? = some t → args[j]? = some v → Value.okWide Try.prog W .any base t v := hval0
 have hW' := hW
 obtain ⟨p, q, hA0, hV, rfl, hfz, hnd⟩ := hW
 have hA : DataW.TrodAll enc Try.prog W 0 (fun _ => true) true Try.f5.params.toList args.toList ds p := hA0
 rw [Try.params5] at hA hval
 obtain ⟨v0, vs0, d0, ds0, p0, q0, hargs, rfl, rfl, h0, r0⟩ := trodAll_cons hA
 obtain ⟨rfl, rfl, rfl⟩ := trodAll_nil r0
 obtain rfl : args = #[v0] := by cases args; simp_all
 obtain ⟨rfl, rfl⟩ := trodVars_none hV
 have k0 := h0
 have lt0 : ∀ x ∈ p0, x.block < W.heap.size := by obtain ⟨m, hm⟩ := k0; exact DataW.trod_lt m _ _ _ hm
 have y0 := hval 0 50 v0 rfl rfl
 clear hA0 hval0 hval
 have bw0 := wb_of hsz (j := 0) (t := 50) (by kernel_rfl) rfl
 obtain ⟨d_p0, L_p0, bd_p0⟩ := arg_sliceB Try.underlying50 opensN_t50 y0 h0 bw0
 refine (Calls.row (plainC (c_law22_LinkFair (pure_LinkFair d_p0 bd_p0) (St.sl L_p0 (St.base W))))).mono fun e W' ⟨he, bel⟩ => ?_
 subst he
 exact ⟨_, rfl, _, _, _, [], _, [], hW', trodAll_mk1 (shut_bool Try.underlying4 _), (trodAll_cons_mk (Below.trod laidOut (by kernel_rfl) (of_decide_eq_true (by kernel_rfl)) k0 bel lt0) trodAll_mk0), rfl, bel.frame _, fun h => by cases h⟩

theorem linkFair_holds : Rows.LinkFairSaid :=
 OpenClaim.holds_of_wide 5 Try.f5 rfl rfl rfl rfl rfl rfl rfl ⟨rfl, rfl, rfl, rfl, rfl⟩ rfl rfl rfl rfl rfl (by kernel_rfl) Try.func5 (by kernel_rfl)
  (of_decide_eq_true (by kernel_rfl)) (by unfold Func.isWrapper; first | (rw [if_pos (by decide +kernel)]; kernel_rfl) | (rw [if_neg (by decide +kernel)]; exact ⟨rfl, rfl⟩))
  (fun os started H enc _ => linkFair_lifted os started H enc)

end Go.Proofs.Ythomnhhjgcabkaa
