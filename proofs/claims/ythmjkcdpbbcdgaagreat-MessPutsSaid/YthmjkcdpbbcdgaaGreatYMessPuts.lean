/- The statement MessPuts of layer 9 proved: whatever the input, the law returns true and the input reads as it did. -/
import Derived.Test.YthmjkcdpbbcdgaaGreatRows
import Derived.Test.YthmjkcdpbbcdgaaGreatYO
import Derived.Test.YthmjkcdpbbcdgaaGreatYMsS
namespace Go.Proofs.YthmjkcdpbbcdgaaGreat
open Go.ChangeShapes Go.WideShapes Go.ChangeAt Go.RowKit
open Go.ChangeMaps (open_string shut_string)

theorem own : ownKnob Tryz.prog.godebug = none := by kernel_rfl

theorem laidOut : laidOutB Tryz.prog = true := by kernel_rfl

theorem opensN_t111 : OpensB Tryz.prog 111 NEMember bdEMember := by
 intro H enc w base spare held fuel cs x h
 obtain ⟨hlen, m, hf⟩ := struct_parts Tryz.underlying111 h
 obtain ⟨z0, t0, w0⟩ := hf 0 _ rfl
 obtain ⟨y0, r0, b0⟩ := (opensN_i64 Tryz.underlying3) t0
 obtain ⟨e0, _⟩ := r0
 obtain ⟨z1, t1, w1⟩ := hf 1 _ rfl
 obtain ⟨y1, r1, b1⟩ := (opensN_i64 Tryz.underlying3) t1
 obtain ⟨e1, _⟩ := r1
 exact ⟨⟨y0, y1⟩, ⟨(part_eq (p := 1) e0 rfl (part_eq (p := 2) e1 rfl (part_end hlen (by kernel_rfl : Tryz.prog.cellsOf 111 = 2)))), trivial⟩, fun hw => ⟨b0 (w0 hw), b1 (w1 hw)⟩⟩

theorem opensN_t25 : OpensB Tryz.prog 25 (RSl NEMember) (bdSl bdEMember) := opens_sliceB Tryz.underlying25 (by kernel_rfl) (by decide) (of_decide_eq_true (by kernel_rfl)) opensN_t111

theorem opensN_t27 : OpensB Tryz.prog 27 NEConf bdEConf := by
 intro H enc w base spare held fuel cs x h
 obtain ⟨hlen, m, hf⟩ := struct_parts Tryz.underlying27 h
 obtain ⟨z0, t0, w0⟩ := hf 0 _ rfl
 obtain ⟨y0, r0, b0⟩ := (opensN_i64 Tryz.underlying3) t0
 obtain ⟨e0, _⟩ := r0
 obtain ⟨z1, t1, w1⟩ := hf 1 _ rfl
 obtain ⟨y1, r1, b1⟩ := opensN_t25 t1
 obtain ⟨u1, e1, L1⟩ := r1
 obtain ⟨z2, t2, w2⟩ := hf 2 _ rfl
 obtain ⟨y2, r2, b2⟩ := (opensN_u64 Tryz.underlying23) t2
 obtain ⟨e2, _⟩ := r2
 exact ⟨⟨y0, y1, y2⟩, ⟨u1, (part_eq (p := 1) e0 rfl (part_eq (p := 2) e1 rfl (part_eq (p := 3) e2 rfl (part_end hlen (by kernel_rfl : Tryz.prog.cellsOf 27 = 3))))), L1⟩, fun hw => ⟨b0 (w0 hw), b1 (w1 hw), b2 (w2 hw)⟩⟩

theorem opensN_t141 : OpensB Tryz.prog 141 NEOp bdEOp := by
 intro H enc w base spare held fuel cs x h
 obtain ⟨hlen, m, hf⟩ := struct_parts Tryz.underlying141 h
 obtain ⟨z0, t0, w0⟩ := hf 0 _ rfl
 obtain ⟨y0, r0, b0⟩ := (opensN_string Tryz.underlying9) t0
 obtain ⟨e0, _⟩ := r0
 obtain ⟨z1, t1, w1⟩ := hf 1 _ rfl
 obtain ⟨y1, r1, b1⟩ := (opensN_string Tryz.underlying9) t1
 obtain ⟨e1, _⟩ := r1
 obtain ⟨z2, t2, w2⟩ := hf 2 _ rfl
 obtain ⟨y2, r2, b2⟩ := (opensN_bool Tryz.underlying4) t2
 obtain ⟨e2, _⟩ := r2
 exact ⟨⟨y0, y1, y2⟩, ⟨(part_eq (p := 1) e0 rfl (part_eq (p := 2) e1 rfl (part_eq (p := 3) e2 rfl (part_end hlen (by kernel_rfl : Tryz.prog.cellsOf 141 = 3))))), trivial⟩, fun hw => ⟨b0 (w0 hw), b1 (w1 hw), b2 (w2 hw)⟩⟩

theorem opensN_t28 : OpensB Tryz.prog 28 (RSl NEOp) (bdSl bdEOp) := opens_sliceB Tryz.underlying28 (by kernel_rfl) (by decide) (of_decide_eq_true (by kernel_rfl)) opensN_t141

theorem opensN_t30 : OpensB Tryz.prog 30 NEBatch bdEBatch := by
 intro H enc w base spare held fuel cs x h
 obtain ⟨hlen, m, hf⟩ := struct_parts Tryz.underlying30 h
 obtain ⟨z0, t0, w0⟩ := hf 0 _ rfl
 obtain ⟨y0, r0, b0⟩ := (opensN_i64 Tryz.underlying3) t0
 obtain ⟨e0, _⟩ := r0
 obtain ⟨z1, t1, w1⟩ := hf 1 _ rfl
 obtain ⟨y1, r1, b1⟩ := (opensN_i64 Tryz.underlying3) t1
 obtain ⟨e1, _⟩ := r1
 obtain ⟨z2, t2, w2⟩ := hf 2 _ rfl
 obtain ⟨y2, r2, b2⟩ := opensN_t28 t2
 obtain ⟨u2, e2, L2⟩ := r2
 exact ⟨⟨y0, y1, y2⟩, ⟨u2, (part_eq (p := 1) e0 rfl (part_eq (p := 2) e1 rfl (part_eq (p := 3) e2 rfl (part_end hlen (by kernel_rfl : Tryz.prog.cellsOf 30 = 3))))), L2⟩, fun hw => ⟨b0 (w0 hw), b1 (w1 hw), b2 (w2 hw)⟩⟩

theorem opensN_t88 : OpensB Tryz.prog 88 NEEntry bdEEntry := by
 intro H enc w base spare held fuel cs x h
 obtain ⟨hlen, m, hf⟩ := struct_parts Tryz.underlying88 h
 obtain ⟨z0, t0, w0⟩ := hf 0 _ rfl
 obtain ⟨y0, r0, b0⟩ := opensN_t30 t0
 obtain ⟨u0_0, e0, L0_0⟩ := r0
 obtain ⟨z1, t1, w1⟩ := hf 1 _ rfl
 obtain ⟨y1, r1, b1⟩ := (opensN_u64 Tryz.underlying23) t1
 obtain ⟨e1, _⟩ := r1
 exact ⟨⟨y0, y1⟩, ⟨u0_0, (part_eq (p := 3) e0 rfl (part_eq (p := 4) e1 rfl (part_end hlen (by kernel_rfl : Tryz.prog.cellsOf 88 = 4)))), L0_0⟩, fun hw => ⟨b0 (w0 hw), b1 (w1 hw)⟩⟩

theorem opensN_t31 : OpensB Tryz.prog 31 (RSl NEEntry) (bdSl bdEEntry) := opens_sliceB Tryz.underlying31 (by kernel_rfl) (by decide) (of_decide_eq_true (by kernel_rfl)) opensN_t88

theorem opensN_t32 : OpensB Tryz.prog 32 (RSl Nu64) (bdSl inU) := opens_sliceB Tryz.underlying32 (by kernel_rfl) (by decide) (of_decide_eq_true (by kernel_rfl)) (opensN_u64 Tryz.underlying23)

theorem opensN_t91 : OpensB Tryz.prog 91 NEPair bdEPair := by
 intro H enc w base spare held fuel cs x h
 obtain ⟨hlen, m, hf⟩ := struct_parts Tryz.underlying91 h
 obtain ⟨z0, t0, w0⟩ := hf 0 _ rfl
 obtain ⟨y0, r0, b0⟩ := (opensN_string Tryz.underlying9) t0
 obtain ⟨e0, _⟩ := r0
 obtain ⟨z1, t1, w1⟩ := hf 1 _ rfl
 obtain ⟨y1, r1, b1⟩ := (opensN_string Tryz.underlying9) t1
 obtain ⟨e1, _⟩ := r1
 exact ⟨⟨y0, y1⟩, ⟨(part_eq (p := 1) e0 rfl (part_eq (p := 2) e1 rfl (part_end hlen (by kernel_rfl : Tryz.prog.cellsOf 91 = 2)))), trivial⟩, fun hw => ⟨b0 (w0 hw), b1 (w1 hw)⟩⟩

theorem opensN_t33 : OpensB Tryz.prog 33 (RSl NEPair) (bdSl bdEPair) := opens_sliceB Tryz.underlying33 (by kernel_rfl) (by decide) (of_decide_eq_true (by kernel_rfl)) opensN_t91

theorem opensN_t35 : OpensB Tryz.prog 35 NEMsg bdEMsg := by
 intro H enc w base spare held fuel cs x h
 obtain ⟨hlen, m, hf⟩ := struct_parts Tryz.underlying35 h
 obtain ⟨z0, t0, w0⟩ := hf 0 _ rfl
 obtain ⟨y0, r0, b0⟩ := (opensN_i64 Tryz.underlying3) t0
 obtain ⟨e0, _⟩ := r0
 obtain ⟨z1, t1, w1⟩ := hf 1 _ rfl
 obtain ⟨y1, r1, b1⟩ := (opensN_i64 Tryz.underlying3) t1
 obtain ⟨e1, _⟩ := r1
 obtain ⟨z2, t2, w2⟩ := hf 2 _ rfl
 obtain ⟨y2, r2, b2⟩ := (opensN_i64 Tryz.underlying3) t2
 obtain ⟨e2, _⟩ := r2
 obtain ⟨z3, t3, w3⟩ := hf 3 _ rfl
 obtain ⟨y3, r3, b3⟩ := (opensN_i64 Tryz.underlying3) t3
 obtain ⟨e3, _⟩ := r3
 obtain ⟨z4, t4, w4⟩ := hf 4 _ rfl
 obtain ⟨y4, r4, b4⟩ := (opensN_bool Tryz.underlying4) t4
 obtain ⟨e4, _⟩ := r4
 obtain ⟨z5, t5, w5⟩ := hf 5 _ rfl
 obtain ⟨y5, r5, b5⟩ := (opensN_u64 Tryz.underlying23) t5
 obtain ⟨e5, _⟩ := r5
 obtain ⟨z6, t6, w6⟩ := hf 6 _ rfl
 obtain ⟨y6, r6, b6⟩ := (opensN_u64 Tryz.underlying23) t6
 obtain ⟨e6, _⟩ := r6
 obtain ⟨z7, t7, w7⟩ := hf 7 _ rfl
 obtain ⟨y7, r7, b7⟩ := (opensN_i64 Tryz.underlying3) t7
 obtain ⟨e7, _⟩ := r7
 obtain ⟨z8, t8, w8⟩ := hf 8 _ rfl
 obtain ⟨y8, r8, b8⟩ := (opensN_i64 Tryz.underlying3) t8
 obtain ⟨e8, _⟩ := r8
 obtain ⟨z9, t9, w9⟩ := hf 9 _ rfl
 obtain ⟨y9, r9, b9⟩ := (opensN_i64 Tryz.underlying3) t9
 obtain ⟨e9, _⟩ := r9
 obtain ⟨z10, t10, w10⟩ := hf 10 _ rfl
 obtain ⟨y10, r10, b10⟩ := (opensN_i64 Tryz.underlying24) t10
 obtain ⟨e10, _⟩ := r10
 obtain ⟨z11, t11, w11⟩ := hf 11 _ rfl
 obtain ⟨y11, r11, b11⟩ := (opensN_string Tryz.underlying9) t11
 obtain ⟨e11, _⟩ := r11
 obtain ⟨z12, t12, w12⟩ := hf 12 _ rfl
 obtain ⟨y12, r12, b12⟩ := (opensN_string Tryz.underlying9) t12
 obtain ⟨e12, _⟩ := r12
 obtain ⟨z13, t13, w13⟩ := hf 13 _ rfl
 obtain ⟨y13, r13, b13⟩ := opensN_t27 t13
 obtain ⟨u13_0, e13, L13_0⟩ := r13
 obtain ⟨z14, t14, w14⟩ := hf 14 _ rfl
 obtain ⟨y14, r14, b14⟩ := opensN_t30 t14
 obtain ⟨u14_0, e14, L14_0⟩ := r14
 obtain ⟨z15, t15, w15⟩ := hf 15 _ rfl
 obtain ⟨y15, r15, b15⟩ := opensN_t31 t15
 obtain ⟨u15, e15, L15⟩ := r15
 obtain ⟨z16, t16, w16⟩ := hf 16 _ rfl
 obtain ⟨y16, r16, b16⟩ := opensN_t32 t16
 obtain ⟨u16, e16, L16⟩ := r16
 obtain ⟨z17, t17, w17⟩ := hf 17 _ rfl
 obtain ⟨y17, r17, b17⟩ := opensN_t33 t17
 obtain ⟨u17, e17, L17⟩ := r17
 exact ⟨⟨y0, y1, y2, y3, y4, y5, y6, y7, y8, y9, y10, y11, y12, y13, y14, y15, y16, y17⟩, ⟨u13_0, u14_0, u15, u16, u17, (part_eq (p := 1) e0 rfl (part_eq (p := 2) e1 rfl (part_eq (p := 3) e2 rfl (part_eq (p := 4) e3 rfl (part_eq (p := 5) e4 rfl (part_eq (p := 6) e5 rfl (part_eq (p := 7) e6 rfl (part_eq (p := 8) e7 rfl (part_eq (p := 9) e8 rfl (part_eq (p := 10) e9 rfl (part_eq (p := 11) e10 rfl (part_eq (p := 12) e11 rfl (part_eq (p := 13) e12 rfl (part_eq (p := 16) e13 rfl (part_eq (p := 19) e14 rfl (part_eq (p := 20) e15 rfl (part_eq (p := 21) e16 rfl (part_eq (p := 22) e17 rfl (part_end hlen (by kernel_rfl : Tryz.prog.cellsOf 35 = 22)))))))))))))))))))), L13_0, L14_0, L15, L16, L17⟩, fun hw => ⟨b0 (w0 hw), b1 (w1 hw), b2 (w2 hw), b3 (w3 hw), b4 (w4 hw), b5 (w5 hw), b6 (w6 hw), b7 (w7 hw), b8 (w8 hw), b9 (w9 hw), b10 (w10 hw), b11 (w11 hw), b12 (w12 hw), b13 (w13 hw), b14 (w14 hw), b15 (w15 hw), b16 (w16 hw), b17 (w17 hw)⟩⟩

set_option maxRecDepth 100000 in
theorem messPuts_lifted (os : Os) (started : os.Started) (H : Type) (enc : TypeId × Value → H) :
  ReturnsInHanded {} Tryz.checked os 4 .any (Rows.messPutsSpec.pre6 enc Tryz.prog Tryz.f4 Rows.messPutsRow.domain false) (Rows.messPutsSpec.post enc Tryz.prog Tryz.f4 false true false false) := by
 refine returnsInHanded_of_change_sized (C := Tryz.checked) own started (by kernel_rfl) Tryz.func4
  (ChangeSpec.witness6 (enc := enc) (C := Tryz.checked) false ⟨#[], #[.agg #[.int .i64 0, .int .i64 0, .int .i64 0, .int .i64 0, .bool false, .int .u64 0, .int .u64 0, .int .i64 0, .int .i64 0, .int .i64 0, .int .i64 0, .string ByteArray.empty, .string ByteArray.empty, .int .i64 0, .slice none 0 0, .int .u64 0, .int .i64 0, .int .i64 0, .slice none 0 0, .slice none 0 0, .slice none 0 0, .slice none 0 0], .agg #[.int .i64 0, .int .i64 0, .int .i64 0, .int .i64 0, .bool false, .int .u64 0, .int .u64 0, .int .i64 0, .int .i64 0, .int .i64 0, .int .i64 0, .string ByteArray.empty, .string ByteArray.empty, .int .i64 0, .slice none 0 0, .int .u64 0, .int .i64 0, .int .i64 0, .slice none 0 0, .slice none 0 0, .slice none 0 0, .slice none 0 0]], []⟩ 8 (by kernel_rfl) (by kernel_rfl) (by kernel_rfl) (by kernel_rfl)) ?_
 intro W base args ds gs before hval0 hW hcnd hsz _
 have hval : ∀ (j : Nat) t v, Tryz.f4.params[j]? = some t → args[j]? = some v → Value.okWide Tryz.prog W .any base t v := hval0
 have hW' := hW
 obtain ⟨p, q, hA0, hV, rfl, hfz, hnd⟩ := hW
 have hA : DataW.TrodAll enc Tryz.prog W 0 (fun _ => true) true Tryz.f4.params.toList args.toList ds p := hA0
 rw [Tryz.params4] at hA hval
 obtain ⟨v0, vs0, d0, ds0, p0, q0, hargs, rfl, rfl, h0, r0⟩ := trodAll_cons hA
 obtain ⟨v1, vs1, d1, ds1, p1, q1, rfl, rfl, rfl, h1, r1⟩ := trodAll_cons r0
 obtain ⟨rfl, rfl, rfl⟩ := trodAll_nil r1
 obtain rfl : args = #[v0, v1] := by cases args; simp_all
 obtain ⟨rfl, rfl⟩ := trodVars_none hV
 have k0 := h0
 have lt0 : ∀ x ∈ p0, x.block < W.heap.size := by obtain ⟨m, hm⟩ := k0; exact DataW.trod_lt m _ _ _ hm
 have k1 := h1
 have lt1 : ∀ x ∈ p1, x.block < W.heap.size := by obtain ⟨m, hm⟩ := k1; exact DataW.trod_lt m _ _ _ hm
 have y0 := hval 0 35 v0 rfl rfl
 have y1 := hval 1 35 v1 rfl rfl
 clear hA0 hval0 hval
 have bw0 := wb_of hsz (j := 0) (t := 35) (by kernel_rfl) rfl
 have bw1 := wb_of hsz (j := 1) (t := 35) (by kernel_rfl) rfl
 obtain ⟨cs_p0, d_p0, rfl, r_p0, bd_p0⟩ := arg_structB Tryz.underlying35 opensN_t35 y0 h0 bw0
 obtain ⟨v0_p0, v1_p0, v2_p0, v3_p0, v4_p0, e_p0, L0_p0, L1_p0, L2_p0, L3_p0, L4_p0⟩ := r_p0
 obtain rfl := arr_of e_p0
 obtain ⟨cs_p1, d_p1, rfl, r_p1, bd_p1⟩ := arg_structB Tryz.underlying35 opensN_t35 y1 h1 bw1
 obtain ⟨v0_p1, v1_p1, v2_p1, v3_p1, v4_p1, e_p1, L0_p1, L1_p1, L2_p1, L3_p1, L4_p1⟩ := r_p1
 obtain rfl := arr_of e_p1
 refine (Calls.row (plainC (c_law09_MessPuts (pure_MessPuts d_p0 d_p1 bd_p0 bd_p1) (St.sl L0_p0 (St.sl L1_p0 (St.sl L2_p0 (St.sl L3_p0 (St.sl L4_p0 (St.sl L0_p1 (St.sl L1_p1 (St.sl L2_p1 (St.sl L3_p1 (St.sl L4_p1 (St.base W)))))))))))))).mono fun e W' ⟨he, bel⟩ => ?_
 subst he
 exact ⟨_, rfl, _, _, _, [], _, [], hW', trodAll_mk1 (shut_bool Tryz.underlying4 _), (trodAll_cons_mk (Below.trod laidOut (by kernel_rfl) (of_decide_eq_true (by kernel_rfl)) k0 bel lt0) (trodAll_cons_mk (Below.trod laidOut (by kernel_rfl) (of_decide_eq_true (by kernel_rfl)) k1 bel lt1) trodAll_mk0)), rfl, bel.frame _, fun h => by cases h⟩

theorem messPuts_holds : Rows.MessPutsSaid :=
 OpenClaim.holds_of_wide 4 Tryz.f4 rfl rfl rfl rfl rfl rfl rfl ⟨rfl, rfl, rfl, rfl, rfl⟩ rfl rfl rfl rfl rfl (by kernel_rfl) Tryz.func4 (by kernel_rfl)
  (of_decide_eq_true (by kernel_rfl)) (by unfold Func.isWrapper; first | (rw [if_pos (by decide +kernel)]; kernel_rfl) | (rw [if_neg (by decide +kernel)]; exact ⟨rfl, rfl⟩))
  (fun os started H enc _ => messPuts_lifted os started H enc)

end Go.Proofs.YthmjkcdpbbcdgaaGreat
