/- The statement LinkPlays of layer 22 proved: whatever the input, the law returns true and the input reads as it did. -/
import Derived.Test.YthomnhhjgcabkaaRows
import Derived.Test.YthomnhhjgcabkaaYO
import Derived.Test.YthomnhhjgcabkaaYLinkP2
namespace Go.Proofs.Ythomnhhjgcabkaa
open Go.ChangeShapes Go.WideShapes Go.ChangeAt Go.RowKit
open Go.ChangeMaps (open_string shut_string)

theorem own : ownKnob Try.prog.godebug = none := by kernel_rfl

theorem laidOut : laidOutB Try.prog = true := by kernel_rfl

theorem opensN_t31 : OpensB Try.prog 31 NESeg bdESeg := by
 intro H enc w base spare held fuel cs x h
 obtain ⟨hlen, m, hf⟩ := struct_parts Try.underlying31 h
 obtain ⟨z0, t0, w0⟩ := hf 0 _ rfl
 obtain ⟨y0, r0, b0⟩ := (opensN_i64 Try.underlying3) t0
 obtain ⟨e0, _⟩ := r0
 obtain ⟨z1, t1, w1⟩ := hf 1 _ rfl
 obtain ⟨y1, r1, b1⟩ := (opensN_i64 Try.underlying3) t1
 obtain ⟨e1, _⟩ := r1
 obtain ⟨z2, t2, w2⟩ := hf 2 _ rfl
 obtain ⟨y2, r2, b2⟩ := (opensN_i64 Try.underlying3) t2
 obtain ⟨e2, _⟩ := r2
 obtain ⟨z3, t3, w3⟩ := hf 3 _ rfl
 obtain ⟨y3, r3, b3⟩ := (opensN_i64 Try.underlying3) t3
 obtain ⟨e3, _⟩ := r3
 obtain ⟨z4, t4, w4⟩ := hf 4 _ rfl
 obtain ⟨y4, r4, b4⟩ := (opensN_i64 Try.underlying3) t4
 obtain ⟨e4, _⟩ := r4
 obtain ⟨z5, t5, w5⟩ := hf 5 _ rfl
 obtain ⟨y5, r5, b5⟩ := (opensN_i64 Try.underlying3) t5
 obtain ⟨e5, _⟩ := r5
 obtain ⟨z6, t6, w6⟩ := hf 6 _ rfl
 obtain ⟨y6, r6, b6⟩ := (opensN_bool Try.underlying4) t6
 obtain ⟨e6, _⟩ := r6
 obtain ⟨z7, t7, w7⟩ := hf 7 _ rfl
 obtain ⟨y7, r7, b7⟩ := (opensN_string Try.underlying9) t7
 obtain ⟨e7, _⟩ := r7
 exact ⟨⟨y0, y1, y2, y3, y4, y5, y6, y7⟩, ⟨(part_eq (p := 1) e0 rfl (part_eq (p := 2) e1 rfl (part_eq (p := 3) e2 rfl (part_eq (p := 4) e3 rfl (part_eq (p := 5) e4 rfl (part_eq (p := 6) e5 rfl (part_eq (p := 7) e6 rfl (part_eq (p := 8) e7 rfl (part_end hlen (by kernel_rfl : Try.prog.cellsOf 31 = 8)))))))))), trivial⟩, fun hw => ⟨b0 (w0 hw), b1 (w1 hw), b2 (w2 hw), b3 (w3 hw), b4 (w4 hw), b5 (w5 hw), b6 (w6 hw), b7 (w7 hw)⟩⟩

theorem opensN_t33 : OpensB Try.prog 33 NElaw22_Act bdElaw22_Act := by
 intro H enc w base spare held fuel cs x h
 obtain ⟨hlen, m, hf⟩ := struct_parts Try.underlying33 h
 obtain ⟨z0, t0, w0⟩ := hf 0 _ rfl
 obtain ⟨y0, r0, b0⟩ := (opensN_i64 Try.underlying3) t0
 obtain ⟨e0, _⟩ := r0
 obtain ⟨z1, t1, w1⟩ := hf 1 _ rfl
 obtain ⟨y1, r1, b1⟩ := (opensN_string Try.underlying9) t1
 obtain ⟨e1, _⟩ := r1
 obtain ⟨z2, t2, w2⟩ := hf 2 _ rfl
 obtain ⟨y2, r2, b2⟩ := (opensN_bool Try.underlying4) t2
 obtain ⟨e2, _⟩ := r2
 obtain ⟨z3, t3, w3⟩ := hf 3 _ rfl
 obtain ⟨y3, r3, b3⟩ := opensN_t31 t3
 obtain ⟨e3, _⟩ := r3
 exact ⟨⟨y0, y1, y2, y3⟩, ⟨(part_eq (p := 1) e0 rfl (part_eq (p := 2) e1 rfl (part_eq (p := 3) e2 rfl (part_eq (p := 11) e3 rfl (part_end hlen (by kernel_rfl : Try.prog.cellsOf 33 = 11)))))), trivial⟩, fun hw => ⟨b0 (w0 hw), b1 (w1 hw), b2 (w2 hw), b3 (w3 hw)⟩⟩

theorem opensN_t22 : OpensB Try.prog 22 (RSl NElaw22_Act) (bdSl bdElaw22_Act) := opens_sliceB Try.underlying22 (by kernel_rfl) (by decide) (of_decide_eq_true (by kernel_rfl)) opensN_t33

set_option maxRecDepth 100000 in
theorem linkPlays_lifted (os : Os) (started : os.Started) (H : Type) (enc : TypeId × Value → H) :
  ReturnsInHanded {} Try.checked os 3 .any (Rows.linkPlaysSpec.pre6 enc Try.prog Try.f3 Rows.linkPlaysRow.domain false) (Rows.linkPlaysSpec.post enc Try.prog Try.f3 false true false false) := by
 refine returnsInHanded_of_change_sized (C := Try.checked) own started (by kernel_rfl) Try.func3
  (ChangeSpec.witness6 (enc := enc) (C := Try.checked) false ⟨#[], #[.int .i64 0, .slice none 0 0], []⟩ 8 (by kernel_rfl) (by kernel_rfl) (by kernel_rfl) (by kernel_rfl)) ?_
 intro W base args ds gs before hval0 hW hcnd hsz _
 have hval : ∀ (j : Nat) t v, Try.f3.params[j]? = some t → args[j]? = some v → Value.okWide Try.prog W .any base t v := hval0
 have hW' := hW
 obtain ⟨p, q, hA0, hV, rfl, hfz, hnd⟩ := hW
 have hA : DataW.TrodAll enc Try.prog W 0 (fun _ => true) true Try.f3.params.toList args.toList ds p := hA0
 rw [Try.params3] at hA hval
 obtain ⟨v0, vs0, d0, ds0, p0, q0, hargs, rfl, rfl, h0, r0⟩ := trodAll_cons hA
 obtain ⟨v1, vs1, d1, ds1, p1, q1, rfl, rfl, rfl, h1, r1⟩ := trodAll_cons r0
 obtain ⟨rfl, rfl, rfl⟩ := trodAll_nil r1
 obtain rfl : args = #[v0, v1] := by cases args; simp_all
 obtain ⟨rfl, rfl⟩ := trodVars_none hV
 have k0 := h0
 have lt0 : ∀ x ∈ p0, x.block < W.heap.size := by obtain ⟨m, hm⟩ := k0; exact DataW.trod_lt m _ _ _ hm
 have k1 := h1
 have lt1 : ∀ x ∈ p1, x.block < W.heap.size := by obtain ⟨m, hm⟩ := k1; exact DataW.trod_lt m _ _ _ hm
 have y0 := hval 0 3 v0 rfl rfl
 have y1 := hval 1 22 v1 rfl rfl
 clear hA0 hval0 hval
 have bw0 := wb_of hsz (j := 0) (t := 3) (by kernel_rfl) rfl
 have bw1 := wb_of hsz (j := 1) (t := 22) (by kernel_rfl) rfl
 obtain ⟨d_p0, rfl, bd_p0⟩ := argN_i64 Try.underlying3 y0 h0
 obtain ⟨d_p1, L_p1, bd_p1⟩ := arg_sliceB Try.underlying22 opensN_t22 y1 h1 bw1
 refine (Calls.row (plainC (c_law22_LinkPlays (pure_LinkPlays d_p0 d_p1 bd_p0 bd_p1) (St.sl L_p1 (St.base W))))).mono fun e W' ⟨he, bel⟩ => ?_
 subst he
 exact ⟨_, rfl, _, _, _, [], _, [], hW', trodAll_mk1 (shut_bool Try.underlying4 _), (trodAll_cons_mk (Below.trod laidOut (by kernel_rfl) (of_decide_eq_true (by kernel_rfl)) k0 bel lt0) (trodAll_cons_mk (Below.trod laidOut (by kernel_rfl) (of_decide_eq_true (by kernel_rfl)) k1 bel lt1) trodAll_mk0)), rfl, bel.frame _, fun h => by cases h⟩

theorem linkPlays_holds : Rows.LinkPlaysSaid :=
 OpenClaim.holds_of_wide 3 Try.f3 rfl rfl rfl rfl rfl rfl rfl ⟨rfl, rfl, rfl, rfl, rfl⟩ rfl rfl rfl rfl rfl (by kernel_rfl) Try.func3 (by kernel_rfl)
  (of_decide_eq_true (by kernel_rfl)) (by unfold Func.isWrapper; first | (rw [if_pos (by decide +kernel)]; kernel_rfl) | (rw [if_neg (by decide +kernel)]; exact ⟨rfl, rfl⟩))
  (fun os started H enc _ => linkPlays_lifted os started H enc)

end Go.Proofs.Ythomnhhjgcabkaa
