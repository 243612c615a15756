/- The statement WireBack of layer 2 proved where what comes in is of bulk at most 1048576: whatever the input, the law returns true and the input reads as it did. -/
import Derived.Test.YtlgejpompnbfoaaRows
import Derived.Test.YtlgejpompnbfoaaYUp
import Derived.Test.YtlgejpompnbfoaaYWireP2
namespace Go.Proofs.Ytlgejpompnbfoaa
open Go.ChangeShapes Go.WideShapes Go.ChangeAt Go.RowKit
open Go.ChangeMaps (open_string shut_string)

theorem own : ownKnob Try.prog.godebug = none := by kernel_rfl

theorem laidOut : laidOutB Try.prog = true := by kernel_rfl

theorem opensU_t30 : OpensU Try.prog 30 NElaw02_Part bdElaw02_Part wtPart := by
 intro H enc w base spare held fuel cs x h
 obtain ⟨hlen, m, hf⟩ := struct_partsU Try.underlying30 h
 obtain ⟨z0, t0, w0, _⟩ := hf 0 _ rfl
 obtain ⟨y0, r0, b0⟩ := (opensN_i64 Try.underlying3) t0
 obtain ⟨e0, _⟩ := r0
 obtain ⟨z1, t1, w1, _⟩ := hf 1 _ rfl
 obtain ⟨y1, r1, b1⟩ := (opensN_i64 Try.underlying3) t1
 obtain ⟨e1, _⟩ := r1
 obtain ⟨z2, t2, w2, _⟩ := hf 2 _ rfl
 obtain ⟨y2, r2, b2⟩ := (opensN_u64 Try.underlying28) t2
 obtain ⟨e2, _⟩ := r2
 obtain ⟨z3, t3, w3, u3⟩ := hf 3 _ rfl
 obtain ⟨y3, r3, b3, x3⟩ := (opensU_string Try.underlying9) t3
 obtain ⟨e3, _⟩ := r3
 obtain ⟨z4, t4, w4, _⟩ := hf 4 _ rfl
 obtain ⟨y4, r4, b4⟩ := (opensN_bool Try.underlying4) t4
 obtain ⟨e4, _⟩ := r4
 exact ⟨⟨y0, y1, y2, y3, y4⟩, ⟨(part_eq (p := 1) e0 rfl (part_eq (p := 2) e1 rfl (part_eq (p := 3) e2 rfl (part_eq (p := 4) e3 rfl (part_eq (p := 5) e4 rfl (part_end hlen (by kernel_rfl : Try.prog.cellsOf 30 = 5))))))), trivial⟩, fun hw => ⟨b0 (w0 hw), b1 (w1 hw), b2 (w2 hw), b3 (w3 hw), b4 (w4 hw)⟩, Nat.le_trans x3 u3⟩

theorem opensU_t22 : OpensU Try.prog 22 (RSl NElaw02_Part) (bdSl bdElaw02_Part) (fun l => (l.map wtPart).sum) := opensU_slice Try.underlying22 (by kernel_rfl) (by decide) (of_decide_eq_true (by kernel_rfl)) opensU_t30

set_option maxRecDepth 100000 in
theorem wireBackUpto_lifted (os : Os) (started : os.Started) (H : Type) (enc : TypeId × Value → H) (F : Stop.Interp) :
  ReturnsInHanded {} Try.checked os 5 .any ((Rows.OpenSpec.upto Rows.wireBackSpec).pre6 enc Try.prog Try.f5 Rows.wireBackUptoRow.domain false) (((Rows.OpenSpec.upto Rows.wireBackSpec).at F).post enc Try.prog Try.f5 false true false false) := by
 refine returnsInHanded_of_cond_sized (C := Try.checked) (s := Rows.OpenSpec.upto Rows.wireBackSpec) (k := Rows.uptoSmall) rfl own started (by kernel_rfl) Try.func5
  (OpenSpec.witness (enc := enc) (C := Try.checked) (s := Rows.OpenSpec.upto Rows.wireBackSpec) (k := Rows.uptoSmall) rfl false ⟨#[], #[.slice none 0 0, .string ByteArray.empty], []⟩ 8 (by kernel_rfl) (by kernel_rfl) (by kernel_rfl)
   (x := ([.nil, .lit (.string [])], [], [])) (by kernel_rfl) rfl (by kernel_rfl)) ?_
 intro W base args ds gs before hval0 hW hcnd hk hsz _
 have hval : ∀ (j : Nat) t v, Try.f5.params[j]? = some t → args[j]? = some v → Value.okWide Try.prog W .any base t v := hval0
 have hW' := hW
 obtain ⟨p, q, hA0, hV, rfl, hfz, hnd⟩ := hW
 have hA : DataW.TrodAll enc Try.prog W 0 (fun _ => true) true Try.f5.params.toList args.toList ds p := hA0
 rw [Try.params5] at hA hval
 obtain ⟨v0, vs0, d0, ds0, p0, q0, hargs, rfl, rfl, h0, r0⟩ := trodAll_cons hA
 obtain ⟨v1, vs1, d1, ds1, p1, q1, rfl, rfl, rfl, h1, r1⟩ := trodAll_cons r0
 obtain ⟨rfl, rfl, rfl⟩ := trodAll_nil r1
 obtain rfl : args = #[v0, v1] := by cases args; simp_all
 obtain ⟨rfl, rfl⟩ := trodVars_none hV
 have k0 := h0
 have lt0 : ∀ x ∈ p0, x.block < W.heap.size := by obtain ⟨m, hm⟩ := k0; exact DataW.trod_lt m _ _ _ hm
 have k1 := h1
 have lt1 : ∀ x ∈ p1, x.block < W.heap.size := by obtain ⟨m, hm⟩ := k1; exact DataW.trod_lt m _ _ _ hm
 have y0 := hval 0 22 v0 rfl rfl
 have y1 := hval 1 9 v1 rfl rfl
 clear hA0 hval0 hval
 have bw0 := wb_of hsz (j := 0) (t := 22) (by kernel_rfl) rfl
 have bw1 := wb_of hsz (j := 1) (t := 9) (by kernel_rfl) rfl
 obtain ⟨d_p0, L_p0, bd_p0, u_p0⟩ := arg_sliceU Try.underlying22 opensU_t22 y0 h0 bw0
 obtain ⟨d_p1, rfl, bd_p1, u_p1⟩ := arg_stringU Try.underlying9 y1 h1 bw1
 have hbk := bulk_small hk
 simp only [List.append_nil, List.cons_append, List.nil_append, Rows.uptoBulkAll] at hbk
 change wtParts d_p0 ≤ _ at u_p0
 refine (Calls.row (plainC (c_law02_WireBack (pure_WireBack d_p0 d_p1 bd_p0 bd_p1 (by omega)) (St.sl L_p0 (St.base W))))).mono fun e W' ⟨he, bel⟩ => ?_
 subst he
 exact ⟨_, rfl, _, _, _, [], _, [], hW', trodAll_mk1 (shut_bool Try.underlying4 _), (trodAll_cons_mk (Below.trod laidOut (by kernel_rfl) (of_decide_eq_true (by kernel_rfl)) k0 bel lt0) (trodAll_cons_mk (Below.trod laidOut (by kernel_rfl) (of_decide_eq_true (by kernel_rfl)) k1 bel lt1) trodAll_mk0)), rfl, bel.frame _, fun h => by cases h⟩

theorem wireBackUpto_holds : Rows.WireBackUptoSaid :=
 OpenClaim.holds_of_cond 5 Try.f5 rfl rfl rfl rfl rfl rfl rfl ⟨rfl, rfl, rfl, rfl, rfl⟩ rfl rfl rfl rfl rfl (by kernel_rfl) Try.func5 (by kernel_rfl)
  (of_decide_eq_true (by kernel_rfl)) (by unfold Func.isWrapper; first | (rw [if_pos (by decide +kernel)]; kernel_rfl) | (rw [if_neg (by decide +kernel)]; exact ⟨rfl, rfl⟩))
  (fun os started H enc _ F => wireBackUpto_lifted os started H enc F)

end Go.Proofs.Ytlgejpompnbfoaa
