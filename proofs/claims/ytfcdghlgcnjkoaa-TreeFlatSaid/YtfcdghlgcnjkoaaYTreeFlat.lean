/- The statement TreeFlat of layer 15 proved: whatever the input, the law returns true and the input reads as it did. -/
import Derived.Test.YtfcdghlgcnjkoaaRows
import Derived.Test.YtfcdghlgcnjkoaaYO
import Derived.Test.YtfcdghlgcnjkoaaYTreeP5
namespace Go.Proofs.Ytfcdghlgcnjkoaa
open Go.RowKit Go.ChangeShapes Go.WideShapes Go.ChangeAt Go.Deep in
theorem argN_u16 {H : Type} {enc : TypeId × Value → H} {P : Program} {w : World} {base base0 : Nat} {spare : Nat → Bool} {held : Bool} {r : Reach} {v : Value} {d : DataW H} {p : List MemPlace} {t : TypeId} (ht : P.underlying t = some (.int .u16)) (hv : Value.okWide P w r base0 t v) (h : DataW.Trod enc P w base spare held t v d p) : ∃ x : Int, v = .int .u16 x ∧ inH x := by
 obtain ⟨x, rfl, _, _, wx⟩ := open_int ht hv h
 simp only [Lit.wf, Bool.and_eq_true, decide_eq_true_eq] at wx
 obtain ⟨h1, h2⟩ : (0 : Int) ≤ x ∧ x ≤ 65535 := ⟨wx.1, wx.2⟩
 exact ⟨x, rfl, h1, h2⟩

open Go.ChangeShapes Go.WideShapes Go.ChangeAt Go.RowKit
open Go.ChangeMaps (open_string shut_string)

theorem own : ownKnob Try.prog.godebug = none := by kernel_rfl

theorem laidOut : laidOutB Try.prog = true := by kernel_rfl

theorem opensN_t40 : OpensB Try.prog 40 NElaw15_Act bdElaw15_Act := by
 intro H enc w base spare held fuel cs x h
 obtain ⟨hlen, m, hf⟩ := struct_parts Try.underlying40 h
 obtain ⟨z0, t0, w0⟩ := hf 0 _ rfl
 obtain ⟨y0, r0, b0⟩ := (opensN_i64 Try.underlying3) t0
 obtain ⟨e0, _⟩ := r0
 obtain ⟨z1, t1, w1⟩ := hf 1 _ rfl
 obtain ⟨y1, r1, b1⟩ := (opensN_string Try.underlying9) t1
 obtain ⟨e1, _⟩ := r1
 obtain ⟨z2, t2, w2⟩ := hf 2 _ rfl
 obtain ⟨y2, r2, b2⟩ := (opensN_string Try.underlying9) t2
 obtain ⟨e2, _⟩ := r2
 obtain ⟨z3, t3, w3⟩ := hf 3 _ rfl
 obtain ⟨y3, r3, b3⟩ := (opensN_i64 Try.underlying3) t3
 obtain ⟨e3, _⟩ := r3
 exact ⟨⟨y0, y1, y2, y3⟩, ⟨(part_eq (p := 1) e0 rfl (part_eq (p := 2) e1 rfl (part_eq (p := 3) e2 rfl (part_eq (p := 4) e3 rfl (part_end hlen (by kernel_rfl : Try.prog.cellsOf 40 = 4)))))), trivial⟩, fun hw => ⟨b0 (w0 hw), b1 (w1 hw), b2 (w2 hw), b3 (w3 hw)⟩⟩

theorem opensN_t34 : OpensB Try.prog 34 (RSl NElaw15_Act) (bdSl bdElaw15_Act) := opens_sliceB Try.underlying34 (by kernel_rfl) (by decide) (of_decide_eq_true (by kernel_rfl)) opensN_t40

set_option maxRecDepth 100000 in
theorem treeFlat_lifted (os : Os) (started : os.Started) (H : Type) (enc : TypeId × Value → H) :
  ReturnsInHanded {} Try.checked os 5 .any (Rows.treeFlatSpec.pre6 enc Try.prog Try.f5 Rows.treeFlatRow.domain false) (Rows.treeFlatSpec.post enc Try.prog Try.f5 false true false false) := by
 refine returnsInHanded_of_change_sized (C := Try.checked) own started (by kernel_rfl) Try.func5
  (ChangeSpec.witness6 (enc := enc) (C := Try.checked) false ⟨#[], #[.slice none 0 0, .int .u16 0], []⟩ 8 (by kernel_rfl) (by kernel_rfl) (by kernel_rfl) (by kernel_rfl)) ?_
 intro W base args ds gs before hval0 hW hcnd hsz _
 have hval : ∀ (j : Nat) t v, Try.f5.params[j]? = some t → args[j]? = some v → Value.okWide Try.prog W .any base t v := hval0
 have hW' := hW
 obtain ⟨p, q, hA0, hV, rfl, hfz, hnd⟩ := hW
 have hA : DataW.TrodAll enc Try.prog W 0 (fun _ => true) true Try.f5.params.toList args.toList ds p := hA0
 rw [Try.params5] at hA hval
 obtain ⟨v0, vs0, d0, ds0, p0, q0, hargs, rfl, rfl, h0, r0⟩ := trodAll_cons hA
 obtain ⟨v1, vs1, d1, ds1, p1, q1, rfl, rfl, rfl, h1, r1⟩ := trodAll_cons r0
 obtain ⟨rfl, rfl, rfl⟩ := trodAll_nil r1
 obtain rfl : args = #[v0, v1] := by cases args; simp_all
 obtain ⟨rfl, rfl⟩ := trodVars_none hV
 have k0 := h0
 have lt0 : ∀ x ∈ p0, x.block < W.heap.size := by obtain ⟨m, hm⟩ := k0; exact DataW.trod_lt m _ _ _ hm
 have k1 := h1
 have lt1 : ∀ x ∈ p1, x.block < W.heap.size := by obtain ⟨m, hm⟩ := k1; exact DataW.trod_lt m _ _ _ hm
 have y0 := hval 0 34 v0 rfl rfl
 have y1 := hval 1 45 v1 rfl rfl
 clear hA0 hval0 hval
 have bw0 := wb_of hsz (j := 0) (t := 34) (by kernel_rfl) rfl
 have bw1 := wb_of hsz (j := 1) (t := 45) (by kernel_rfl) rfl
 obtain ⟨d_p0, L_p0, bd_p0⟩ := arg_sliceB Try.underlying34 opensN_t34 y0 h0 bw0
 obtain ⟨d_p1, rfl, bd_p1⟩ := argN_u16 Try.underlying45 y1 h1
 refine (Calls.row (plainC (c_law15_TreeFlat (pure_TreeFlat d_p0 d_p1 bd_p0 bd_p1) (St.sl L_p0 (St.base W))))).mono fun e W' ⟨he, bel⟩ => ?_
 subst he
 exact ⟨_, rfl, _, _, _, [], _, [], hW', trodAll_mk1 (shut_bool Try.underlying4 _), (trodAll_cons_mk (Below.trod laidOut (by kernel_rfl) (of_decide_eq_true (by kernel_rfl)) k0 bel lt0) (trodAll_cons_mk (Below.trod laidOut (by kernel_rfl) (of_decide_eq_true (by kernel_rfl)) k1 bel lt1) trodAll_mk0)), rfl, bel.frame _, fun h => by cases h⟩

theorem treeFlat_holds : Rows.TreeFlatSaid :=
 OpenClaim.holds_of_wide 5 Try.f5 rfl rfl rfl rfl rfl rfl rfl ⟨rfl, rfl, rfl, rfl, rfl⟩ rfl rfl rfl rfl rfl (by kernel_rfl) Try.func5 (by kernel_rfl)
  (of_decide_eq_true (by kernel_rfl)) (by unfold Func.isWrapper; first | (rw [if_pos (by decide +kernel)]; kernel_rfl) | (rw [if_neg (by decide +kernel)]; exact ⟨rfl, rfl⟩))
  (fun os started H enc _ => treeFlat_lifted os started H enc)

end Go.Proofs.Ytfcdghlgcnjkoaa
