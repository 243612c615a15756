/- The statement LinkBytes of layer 22 proved where what comes in is of bulk at most 1048576: whatever the input, the law returns true and the input reads as it did. -/
import Derived.Test.YthomnhhjgcabkaaRows
import Derived.Test.YthomnhhjgcabkaaYUp
import Derived.Test.YthomnhhjgcabkaaYLinkBy
namespace Go.Proofs.Ythomnhhjgcabkaa
open Go.ChangeShapes Go.WideShapes Go.ChangeAt Go.RowKit
open Go.ChangeMaps (open_string shut_string)

theorem own : ownKnob Try.prog.godebug = none := by kernel_rfl

theorem laidOut : laidOutB Try.prog = true := by kernel_rfl

section
variable {H : Type} {enc : TypeId × Value → H} {P : Program} {w : World} {base base0 : Nat} {spare : Nat → Bool} {held : Bool} {r : Reach} {v : Value} {d : DataW H} {p : List MemPlace}
theorem arg_structU {α : Type} {R : Rp α} {B : α → Prop} {wt : α → Nat} {t : TypeId} {fs : Array Field} (ht : P.underlying t = some (.struct fs)) (ho : OpensU P t R B wt) (hv : Value.okWide P w r base0 t v) (h : DataW.Trod enc P w base spare held t v d p) (hw : WB P t d) : ∃ cs x, v = .agg cs ∧ R.rep AnyA w cs.toList x ∧ B x ∧ wt x ≤ Rows.uptoBulk d := by
 obtain ⟨cs, rfl, _⟩ := okWide_struct ht hv
 obtain ⟨fuel, hf⟩ := h
 obtain ⟨y, h2, h3, h4⟩ := ho hf
 exact ⟨cs, y, rfl, by simpa [Value.cells] using h2, h3 hw, h4⟩

end
theorem opensU_seg : OpensU Try.prog 31 NESeg bdESeg (fun s => s.body.size) := by
 intro H enc w base spare held fuel cs x h
 obtain ⟨hlen, m, hf⟩ := struct_partsU Try.underlying31 h
 obtain ⟨z0, t0, w0, _⟩ := hf 0 _ rfl
 obtain ⟨y0, r0, b0⟩ := (opensN_i64 Try.underlying3) t0
 obtain ⟨e0, _⟩ := r0
 obtain ⟨z1, t1, w1, _⟩ := hf 1 _ rfl
 obtain ⟨y1, r1, b1⟩ := (opensN_i64 Try.underlying3) t1
 obtain ⟨e1, _⟩ := r1
 obtain ⟨z2, t2, w2, _⟩ := hf 2 _ rfl
 obtain ⟨y2, r2, b2⟩ := (opensN_i64 Try.underlying3) t2
 obtain ⟨e2, _⟩ := r2
 obtain ⟨z3, t3, w3, _⟩ := hf 3 _ rfl
 obtain ⟨y3, r3, b3⟩ := (opensN_i64 Try.underlying3) t3
 obtain ⟨e3, _⟩ := r3
 obtain ⟨z4, t4, w4, _⟩ := hf 4 _ rfl
 obtain ⟨y4, r4, b4⟩ := (opensN_i64 Try.underlying3) t4
 obtain ⟨e4, _⟩ := r4
 obtain ⟨z5, t5, w5, _⟩ := hf 5 _ rfl
 obtain ⟨y5, r5, b5⟩ := (opensN_i64 Try.underlying3) t5
 obtain ⟨e5, _⟩ := r5
 obtain ⟨z6, t6, w6, _⟩ := hf 6 _ rfl
 obtain ⟨y6, r6, b6⟩ := (opensN_bool Try.underlying4) t6
 obtain ⟨e6, _⟩ := r6
 obtain ⟨z7, t7, w7, u7⟩ := hf 7 _ rfl
 obtain ⟨y7, r7, b7, x7⟩ := (opensU_string Try.underlying9) t7
 obtain ⟨e7, _⟩ := r7
 exact ⟨⟨y0, y1, y2, y3, y4, y5, y6, y7⟩, ⟨(part_eq (p := 1) e0 rfl (part_eq (p := 2) e1 rfl (part_eq (p := 3) e2 rfl (part_eq (p := 4) e3 rfl (part_eq (p := 5) e4 rfl (part_eq (p := 6) e5 rfl (part_eq (p := 7) e6 rfl (part_eq (p := 8) e7 rfl (part_end hlen (by kernel_rfl : Try.prog.cellsOf 31 = 8)))))))))), trivial⟩, fun hw => ⟨b0 (w0 hw), b1 (w1 hw), b2 (w2 hw), b3 (w3 hw), b4 (w4 hw), b5 (w5 hw), b6 (w6 hw), b7 (w7 hw)⟩, Nat.le_trans x7 u7⟩

set_option maxRecDepth 100000 in
theorem linkBytesUpto_lifted (os : Os) (started : os.Started) (H : Type) (enc : TypeId × Value → H) (F : Stop.Interp) :
  ReturnsInHanded {} Try.checked os 7 .any ((Rows.OpenSpec.upto Rows.linkBytesSpec).pre6 enc Try.prog Try.f7 Rows.linkBytesUptoRow.domain false) (((Rows.OpenSpec.upto Rows.linkBytesSpec).at F).post enc Try.prog Try.f7 false true false false) := by
 refine returnsInHanded_of_cond_sized (C := Try.checked) (s := Rows.OpenSpec.upto Rows.linkBytesSpec) (k := Rows.uptoSmall) rfl own started (by kernel_rfl) Try.func7
  (OpenSpec.witness (enc := enc) (C := Try.checked) (s := Rows.OpenSpec.upto Rows.linkBytesSpec) (k := Rows.uptoSmall) rfl false ⟨#[], #[.agg #[.int .i64 0, .int .i64 0, .int .i64 0, .int .i64 0, .int .i64 0, .int .i64 0, .bool false, .string ByteArray.empty], .string ByteArray.empty], []⟩ 8 (by kernel_rfl) (by kernel_rfl) (by kernel_rfl)
   (x := ([.agg [.lit (.int .i64 0), .lit (.int .i64 0), .lit (.int .i64 0), .lit (.int .i64 0), .lit (.int .i64 0), .lit (.int .i64 0), .lit (.bool false), .lit (.string [])], .lit (.string [])], [], [])) (by kernel_rfl) rfl (by kernel_rfl)) ?_
 intro W base args ds gs before hval0 hW hcnd hk hsz _
 have hval : ∀ (j : Nat) t v, Try.f7.params[j]? = some t → args[j]? = some v → Value.okWide Try.prog W .any base t v := hval0
 have hW' := hW
 obtain ⟨p, q, hA0, hV, rfl, hfz, hnd⟩ := hW
 have hA : DataW.TrodAll enc Try.prog W 0 (fun _ => true) true Try.f7.params.toList args.toList ds p := hA0
 rw [Try.params7] at hA hval
 obtain ⟨v0, vs0, d0, ds0, p0, q0, hargs, rfl, rfl, h0, r0⟩ := trodAll_cons hA
 obtain ⟨v1, vs1, d1, ds1, p1, q1, rfl, rfl, rfl, h1, r1⟩ := trodAll_cons r0
 obtain ⟨rfl, rfl, rfl⟩ := trodAll_nil r1
 obtain rfl : args = #[v0, v1] := by cases args; simp_all
 obtain ⟨rfl, rfl⟩ := trodVars_none hV
 have k0 := h0
 have lt0 : ∀ x ∈ p0, x.block < W.heap.size := by obtain ⟨m, hm⟩ := k0; exact DataW.trod_lt m _ _ _ hm
 have k1 := h1
 have lt1 : ∀ x ∈ p1, x.block < W.heap.size := by obtain ⟨m, hm⟩ := k1; exact DataW.trod_lt m _ _ _ hm
 have y0 := hval 0 31 v0 rfl rfl
 have y1 := hval 1 9 v1 rfl rfl
 clear hA0 hval0 hval
 have bw0 := wb_of hsz (j := 0) (t := 31) (by kernel_rfl) rfl
 have bw1 := wb_of hsz (j := 1) (t := 9) (by kernel_rfl) rfl
 obtain ⟨cs_p0, d_p0, rfl, r_p0, bd_p0, u_p0⟩ := arg_structU Try.underlying31 opensU_seg y0 h0 bw0
 obtain ⟨e_p0, _⟩ := r_p0
 obtain rfl := arr_of e_p0
 obtain ⟨d_p1, rfl, _, bd_p1⟩ := arg_stringB Try.underlying9 y1 h1 bw1
 have hbk := bulk_small hk
 simp only [List.append_nil, List.cons_append, List.nil_append, Rows.uptoBulkAll] at hbk
 change d_p0.body.size ≤ _ at u_p0
 refine (Calls.row (plainC (c_law22_LinkBytes (pure_LinkBytes d_p0 d_p1 bd_p0 bd_p1 (by omega)) (St.base W)))).mono fun e W' ⟨he, bel⟩ => ?_
 subst he
 exact ⟨_, rfl, _, _, _, [], _, [], hW', trodAll_mk1 (shut_bool Try.underlying4 _), (trodAll_cons_mk (Below.trod laidOut (by kernel_rfl) (of_decide_eq_true (by kernel_rfl)) k0 bel lt0) (trodAll_cons_mk (Below.trod laidOut (by kernel_rfl) (of_decide_eq_true (by kernel_rfl)) k1 bel lt1) trodAll_mk0)), rfl, bel.frame _, fun h => by cases h⟩

theorem linkBytesUpto_holds : Rows.LinkBytesUptoSaid :=
 OpenClaim.holds_of_cond 7 Try.f7 rfl rfl rfl rfl rfl rfl rfl ⟨rfl, rfl, rfl, rfl, rfl⟩ rfl rfl rfl rfl rfl (by kernel_rfl) Try.func7 (by kernel_rfl)
  (of_decide_eq_true (by kernel_rfl)) (by unfold Func.isWrapper; first | (rw [if_pos (by decide +kernel)]; kernel_rfl) | (rw [if_neg (by decide +kernel)]; exact ⟨rfl, rfl⟩))
  (fun os started H enc _ F => linkBytesUpto_lifted os started H enc F)

end Go.Proofs.Ythomnhhjgcabkaa
