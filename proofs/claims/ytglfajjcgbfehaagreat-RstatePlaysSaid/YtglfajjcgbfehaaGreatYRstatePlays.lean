/- The statement RstatePlays of layer 30 proved: whatever the input, the law returns true and the input reads as it did. -/
import Derived.Test.YtglfajjcgbfehaaGreatRows
import Derived.Test.YtglfajjcgbfehaaGreatYO
import Derived.Test.YtglfajjcgbfehaaGreatYRtP
namespace Go.Proofs.YtglfajjcgbfehaaGreat
open Go.ChangeShapes Go.WideShapes Go.ChangeAt Go.RowKit
open Go.ChangeMaps (open_string shut_string)

theorem own : ownKnob Tryz.prog.godebug = none := by kernel_rfl

theorem laidOut : laidOutB Tryz.prog = true := by kernel_rfl

theorem opensN_t109 : OpensB Tryz.prog 109 NEMember bdEMember := by
 intro H enc w base spare held fuel cs x h
 obtain ⟨hlen, m, hf⟩ := struct_parts Tryz.underlying109 h
 obtain ⟨z0, t0, w0⟩ := hf 0 _ rfl
 obtain ⟨y0, r0, b0⟩ := (opensN_i64 Tryz.underlying3) t0
 obtain ⟨e0, _⟩ := r0
 obtain ⟨z1, t1, w1⟩ := hf 1 _ rfl
 obtain ⟨y1, r1, b1⟩ := (opensN_i64 Tryz.underlying3) t1
 obtain ⟨e1, _⟩ := r1
 exact ⟨⟨y0, y1⟩, ⟨(part_eq (p := 1) e0 rfl (part_eq (p := 2) e1 rfl (part_end hlen (by kernel_rfl : Tryz.prog.cellsOf 109 = 2)))), trivial⟩, fun hw => ⟨b0 (w0 hw), b1 (w1 hw)⟩⟩

theorem opensN_t28 : OpensB Tryz.prog 28 (RSl NEMember) (bdSl bdEMember) := opens_sliceB Tryz.underlying28 (by kernel_rfl) (by decide) (of_decide_eq_true (by kernel_rfl)) opensN_t109

theorem opensN_t31 : OpensB Tryz.prog 31 NEConf bdEConf := by
 intro H enc w base spare held fuel cs x h
 obtain ⟨hlen, m, hf⟩ := struct_parts Tryz.underlying31 h
 obtain ⟨z0, t0, w0⟩ := hf 0 _ rfl
 obtain ⟨y0, r0, b0⟩ := (opensN_i64 Tryz.underlying3) t0
 obtain ⟨e0, _⟩ := r0
 obtain ⟨z1, t1, w1⟩ := hf 1 _ rfl
 obtain ⟨y1, r1, b1⟩ := opensN_t28 t1
 obtain ⟨u1, e1, L1⟩ := r1
 obtain ⟨z2, t2, w2⟩ := hf 2 _ rfl
 obtain ⟨y2, r2, b2⟩ := (opensN_u64 Tryz.underlying29) t2
 obtain ⟨e2, _⟩ := r2
 exact ⟨⟨y0, y1, y2⟩, ⟨u1, (part_eq (p := 1) e0 rfl (part_eq (p := 2) e1 rfl (part_eq (p := 3) e2 rfl (part_end hlen (by kernel_rfl : Tryz.prog.cellsOf 31 = 3))))), L1⟩, fun hw => ⟨b0 (w0 hw), b1 (w1 hw), b2 (w2 hw)⟩⟩

theorem opensN_t39 : OpensB Tryz.prog 39 (RSl Ni64) (bdSl inI) := opens_sliceB Tryz.underlying39 (by kernel_rfl) (by decide) (of_decide_eq_true (by kernel_rfl)) (opensN_i64 Tryz.underlying3)

theorem opensN_t58 : OpensB Tryz.prog 58 NEOp bdEOp := by
 intro H enc w base spare held fuel cs x h
 obtain ⟨hlen, m, hf⟩ := struct_parts Tryz.underlying58 h
 obtain ⟨z0, t0, w0⟩ := hf 0 _ rfl
 obtain ⟨y0, r0, b0⟩ := (opensN_string Tryz.underlying9) t0
 obtain ⟨e0, _⟩ := r0
 obtain ⟨z1, t1, w1⟩ := hf 1 _ rfl
 obtain ⟨y1, r1, b1⟩ := (opensN_string Tryz.underlying9) t1
 obtain ⟨e1, _⟩ := r1
 obtain ⟨z2, t2, w2⟩ := hf 2 _ rfl
 obtain ⟨y2, r2, b2⟩ := (opensN_bool Tryz.underlying4) t2
 obtain ⟨e2, _⟩ := r2
 exact ⟨⟨y0, y1, y2⟩, ⟨(part_eq (p := 1) e0 rfl (part_eq (p := 2) e1 rfl (part_eq (p := 3) e2 rfl (part_end hlen (by kernel_rfl : Tryz.prog.cellsOf 58 = 3))))), trivial⟩, fun hw => ⟨b0 (w0 hw), b1 (w1 hw), b2 (w2 hw)⟩⟩

theorem opensN_t40 : OpensB Tryz.prog 40 (RSl NEOp) (bdSl bdEOp) := opens_sliceB Tryz.underlying40 (by kernel_rfl) (by decide) (of_decide_eq_true (by kernel_rfl)) opensN_t58

theorem opensN_t42 : OpensB Tryz.prog 42 NEBatch bdEBatch := by
 intro H enc w base spare held fuel cs x h
 obtain ⟨hlen, m, hf⟩ := struct_parts Tryz.underlying42 h
 obtain ⟨z0, t0, w0⟩ := hf 0 _ rfl
 obtain ⟨y0, r0, b0⟩ := (opensN_i64 Tryz.underlying3) t0
 obtain ⟨e0, _⟩ := r0
 obtain ⟨z1, t1, w1⟩ := hf 1 _ rfl
 obtain ⟨y1, r1, b1⟩ := (opensN_i64 Tryz.underlying3) t1
 obtain ⟨e1, _⟩ := r1
 obtain ⟨z2, t2, w2⟩ := hf 2 _ rfl
 obtain ⟨y2, r2, b2⟩ := opensN_t40 t2
 obtain ⟨u2, e2, L2⟩ := r2
 exact ⟨⟨y0, y1, y2⟩, ⟨u2, (part_eq (p := 1) e0 rfl (part_eq (p := 2) e1 rfl (part_eq (p := 3) e2 rfl (part_end hlen (by kernel_rfl : Tryz.prog.cellsOf 42 = 3))))), L2⟩, fun hw => ⟨b0 (w0 hw), b1 (w1 hw), b2 (w2 hw)⟩⟩

theorem opensN_t44 : OpensB Tryz.prog 44 NEEntry bdEEntry := by
 intro H enc w base spare held fuel cs x h
 obtain ⟨hlen, m, hf⟩ := struct_parts Tryz.underlying44 h
 obtain ⟨z0, t0, w0⟩ := hf 0 _ rfl
 obtain ⟨y0, r0, b0⟩ := opensN_t42 t0
 obtain ⟨u0_0, e0, L0_0⟩ := r0
 obtain ⟨z1, t1, w1⟩ := hf 1 _ rfl
 obtain ⟨y1, r1, b1⟩ := (opensN_u64 Tryz.underlying29) t1
 obtain ⟨e1, _⟩ := r1
 exact ⟨⟨y0, y1⟩, ⟨u0_0, (part_eq (p := 3) e0 rfl (part_eq (p := 4) e1 rfl (part_end hlen (by kernel_rfl : Tryz.prog.cellsOf 44 = 4)))), L0_0⟩, fun hw => ⟨b0 (w0 hw), b1 (w1 hw)⟩⟩

theorem opensN_t46 : OpensB Tryz.prog 46 NEPin bdEPin := by
 intro H enc w base spare held fuel cs x h
 obtain ⟨hlen, m, hf⟩ := struct_parts Tryz.underlying46 h
 obtain ⟨z0, t0, w0⟩ := hf 0 _ rfl
 obtain ⟨y0, r0, b0⟩ := (opensN_i64 Tryz.underlying3) t0
 obtain ⟨e0, _⟩ := r0
 obtain ⟨z1, t1, w1⟩ := hf 1 _ rfl
 obtain ⟨y1, r1, b1⟩ := (opensN_u64 Tryz.underlying29) t1
 obtain ⟨e1, _⟩ := r1
 obtain ⟨z2, t2, w2⟩ := hf 2 _ rfl
 obtain ⟨y2, r2, b2⟩ := (opensN_i64 Tryz.underlying3) t2
 obtain ⟨e2, _⟩ := r2
 exact ⟨⟨y0, y1, y2⟩, ⟨(part_eq (p := 1) e0 rfl (part_eq (p := 2) e1 rfl (part_eq (p := 3) e2 rfl (part_end hlen (by kernel_rfl : Tryz.prog.cellsOf 46 = 3))))), trivial⟩, fun hw => ⟨b0 (w0 hw), b1 (w1 hw), b2 (w2 hw)⟩⟩

theorem opensN_t48 : OpensB Tryz.prog 48 NEAnswer bdEAnswer := by
 intro H enc w base spare held fuel cs x h
 obtain ⟨hlen, m, hf⟩ := struct_parts Tryz.underlying48 h
 obtain ⟨z0, t0, w0⟩ := hf 0 _ rfl
 obtain ⟨y0, r0, b0⟩ := (opensN_i64 Tryz.underlying3) t0
 obtain ⟨e0, _⟩ := r0
 obtain ⟨z1, t1, w1⟩ := hf 1 _ rfl
 obtain ⟨y1, r1, b1⟩ := (opensN_i64 Tryz.underlying3) t1
 obtain ⟨e1, _⟩ := r1
 obtain ⟨z2, t2, w2⟩ := hf 2 _ rfl
 obtain ⟨y2, r2, b2⟩ := (opensN_i64 Tryz.underlying37) t2
 obtain ⟨e2, _⟩ := r2
 obtain ⟨z3, t3, w3⟩ := hf 3 _ rfl
 obtain ⟨y3, r3, b3⟩ := (opensN_i64 Tryz.underlying3) t3
 obtain ⟨e3, _⟩ := r3
 exact ⟨⟨y0, y1, y2, y3⟩, ⟨(part_eq (p := 1) e0 rfl (part_eq (p := 2) e1 rfl (part_eq (p := 3) e2 rfl (part_eq (p := 4) e3 rfl (part_end hlen (by kernel_rfl : Tryz.prog.cellsOf 48 = 4)))))), trivial⟩, fun hw => ⟨b0 (w0 hw), b1 (w1 hw), b2 (w2 hw), b3 (w3 hw)⟩⟩

theorem opensN_t50 : OpensB Tryz.prog 50 NENote bdENote := by
 intro H enc w base spare held fuel cs x h
 obtain ⟨hlen, m, hf⟩ := struct_parts Tryz.underlying50 h
 obtain ⟨z0, t0, w0⟩ := hf 0 _ rfl
 obtain ⟨y0, r0, b0⟩ := (opensN_i64 Tryz.underlying3) t0
 obtain ⟨e0, _⟩ := r0
 obtain ⟨z1, t1, w1⟩ := hf 1 _ rfl
 obtain ⟨y1, r1, b1⟩ := (opensN_i64 Tryz.underlying3) t1
 obtain ⟨e1, _⟩ := r1
 obtain ⟨z2, t2, w2⟩ := hf 2 _ rfl
 obtain ⟨y2, r2, b2⟩ := (opensN_u64 Tryz.underlying29) t2
 obtain ⟨e2, _⟩ := r2
 obtain ⟨z3, t3, w3⟩ := hf 3 _ rfl
 obtain ⟨y3, r3, b3⟩ := opensN_t31 t3
 obtain ⟨u3_0, e3, L3_0⟩ := r3
 obtain ⟨z4, t4, w4⟩ := hf 4 _ rfl
 obtain ⟨y4, r4, b4⟩ := opensN_t39 t4
 obtain ⟨u4, e4, L4⟩ := r4
 obtain ⟨z5, t5, w5⟩ := hf 5 _ rfl
 obtain ⟨y5, r5, b5⟩ := opensN_t44 t5
 obtain ⟨u5_0, e5, L5_0⟩ := r5
 obtain ⟨z6, t6, w6⟩ := hf 6 _ rfl
 obtain ⟨y6, r6, b6⟩ := opensN_t46 t6
 obtain ⟨e6, _⟩ := r6
 obtain ⟨z7, t7, w7⟩ := hf 7 _ rfl
 obtain ⟨y7, r7, b7⟩ := opensN_t48 t7
 obtain ⟨e7, _⟩ := r7
 exact ⟨⟨y0, y1, y2, y3, y4, y5, y6, y7⟩, ⟨u3_0, u4, u5_0, (part_eq (p := 1) e0 rfl (part_eq (p := 2) e1 rfl (part_eq (p := 3) e2 rfl (part_eq (p := 6) e3 rfl (part_eq (p := 7) e4 rfl (part_eq (p := 11) e5 rfl (part_eq (p := 14) e6 rfl (part_eq (p := 18) e7 rfl (part_end hlen (by kernel_rfl : Tryz.prog.cellsOf 50 = 18)))))))))), L3_0, L4, L5_0⟩, fun hw => ⟨b0 (w0 hw), b1 (w1 hw), b2 (w2 hw), b3 (w3 hw), b4 (w4 hw), b5 (w5 hw), b6 (w6 hw), b7 (w7 hw)⟩⟩

theorem opensN_t22 : OpensB Tryz.prog 22 (RSl NENote) (bdSl bdENote) := opens_sliceB Tryz.underlying22 (by kernel_rfl) (by decide) (of_decide_eq_true (by kernel_rfl)) opensN_t50

set_option maxRecDepth 100000 in
theorem rstatePlays_lifted (os : Os) (started : os.Started) (H : Type) (enc : TypeId × Value → H) :
  ReturnsInHanded {} Tryz.checked os 3 .any (Rows.rstatePlaysSpec.pre6 enc Tryz.prog Tryz.f3 Rows.rstatePlaysRow.domain false) (Rows.rstatePlaysSpec.post enc Tryz.prog Tryz.f3 false true false false) := by
 refine returnsInHanded_of_change_sized (C := Tryz.checked) own started (by kernel_rfl) Tryz.func3
  (ChangeSpec.witness6 (enc := enc) (C := Tryz.checked) false ⟨#[], #[.slice none 0 0], []⟩ 8 (by kernel_rfl) (by kernel_rfl) (by kernel_rfl) (by kernel_rfl)) ?_
 intro W base args ds gs before hval0 hW hcnd hsz _
 have hval : ∀ (j : Nat) t v, Tryz.f3.params[j]? = some t → args[j]? = some v → Value.okWide Tryz.prog W .any base t v := hval0
 have hW' := hW
 obtain ⟨p, q, hA0, hV, rfl, hfz, hnd⟩ := hW
 have hA : DataW.TrodAll enc Tryz.prog W 0 (fun _ => true) true Tryz.f3.params.toList args.toList ds p := hA0
 rw [Tryz.params3] at hA hval
 obtain ⟨v0, vs0, d0, ds0, p0, q0, hargs, rfl, rfl, h0, r0⟩ := trodAll_cons hA
 obtain ⟨rfl, rfl, rfl⟩ := trodAll_nil r0
 obtain rfl : args = #[v0] := by cases args; simp_all
 obtain ⟨rfl, rfl⟩ := trodVars_none hV
 have k0 := h0
 have lt0 : ∀ x ∈ p0, x.block < W.heap.size := by obtain ⟨m, hm⟩ := k0; exact DataW.trod_lt m _ _ _ hm
 have y0 := hval 0 22 v0 rfl rfl
 clear hA0 hval0 hval
 have bw0 := wb_of hsz (j := 0) (t := 22) (by kernel_rfl) rfl
 obtain ⟨d_p0, L_p0, bd_p0⟩ := arg_sliceB Tryz.underlying22 opensN_t22 y0 h0 bw0
 refine (Calls.row (plainC (c_law30_RstatePlays (pure_RstatePlays d_p0 bd_p0) (St.sl L_p0 (St.base W))))).mono fun e W' ⟨he, bel⟩ => ?_
 subst he
 exact ⟨_, rfl, _, _, _, [], _, [], hW', trodAll_mk1 (shut_bool Tryz.underlying4 _), (trodAll_cons_mk (Below.trod laidOut (by kernel_rfl) (of_decide_eq_true (by kernel_rfl)) k0 bel lt0) trodAll_mk0), rfl, bel.frame _, fun h => by cases h⟩

theorem rstatePlays_holds : Rows.RstatePlaysSaid :=
 OpenClaim.holds_of_wide 3 Tryz.f3 rfl rfl rfl rfl rfl rfl rfl ⟨rfl, rfl, rfl, rfl, rfl⟩ rfl rfl rfl rfl rfl (by kernel_rfl) Tryz.func3 (by kernel_rfl)
  (of_decide_eq_true (by kernel_rfl)) (by unfold Func.isWrapper; first | (rw [if_pos (by decide +kernel)]; kernel_rfl) | (rw [if_neg (by decide +kernel)]; exact ⟨rfl, rfl⟩))
  (fun os started H enc _ => rstatePlays_lifted os started H enc)

end Go.Proofs.YtglfajjcgbfehaaGreat
