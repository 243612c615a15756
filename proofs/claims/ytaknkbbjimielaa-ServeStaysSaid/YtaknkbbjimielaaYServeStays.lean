/- The statement ServeStays of layer 31 proved: whatever the input, the law returns true and the input reads as it did. -/
import Derived.Test.YtaknkbbjimielaaRows
import Derived.Test.YtaknkbbjimielaaYO
import Derived.Test.YtaknkbbjimielaaYSvL2
namespace Go.Proofs.Ytaknkbbjimielaa
open Go.ChangeShapes Go.WideShapes Go.ChangeAt Go.RowKit
open Go.ChangeMaps (open_string shut_string)

theorem own : ownKnob Try.prog.godebug = none := by kernel_rfl

theorem laidOut : laidOutB Try.prog = true := by kernel_rfl

theorem opensN_t69 : OpensB Try.prog 69 NEOp bdEOp := by
 intro H enc w base spare held fuel cs x h
 obtain ⟨hlen, m, hf⟩ := struct_parts Try.underlying69 h
 obtain ⟨z0, t0, w0⟩ := hf 0 _ rfl
 obtain ⟨y0, r0, b0⟩ := (opensN_string Try.underlying9) t0
 obtain ⟨e0, _⟩ := r0
 obtain ⟨z1, t1, w1⟩ := hf 1 _ rfl
 obtain ⟨y1, r1, b1⟩ := (opensN_string Try.underlying9) t1
 obtain ⟨e1, _⟩ := r1
 obtain ⟨z2, t2, w2⟩ := hf 2 _ rfl
 obtain ⟨y2, r2, b2⟩ := (opensN_bool Try.underlying4) t2
 obtain ⟨e2, _⟩ := r2
 exact ⟨⟨y0, y1, y2⟩, ⟨(part_eq (p := 1) e0 rfl (part_eq (p := 2) e1 rfl (part_eq (p := 3) e2 rfl (part_end hlen (by kernel_rfl : Try.prog.cellsOf 69 = 3))))), trivial⟩, fun hw => ⟨b0 (w0 hw), b1 (w1 hw), b2 (w2 hw)⟩⟩

theorem opensN_t30 : OpensB Try.prog 30 (RSl NEOp) (bdSl bdEOp) := opens_sliceB Try.underlying30 (by kernel_rfl) (by decide) (of_decide_eq_true (by kernel_rfl)) opensN_t69

theorem opensN_t62 : OpensB Try.prog 62 NElaw31_Put bdElaw31_Put := by
 intro H enc w base spare held fuel cs x h
 obtain ⟨hlen, m, hf⟩ := struct_parts Try.underlying62 h
 obtain ⟨z0, t0, w0⟩ := hf 0 _ rfl
 obtain ⟨y0, r0, b0⟩ := (opensN_u64 Try.underlying23) t0
 obtain ⟨e0, _⟩ := r0
 obtain ⟨z1, t1, w1⟩ := hf 1 _ rfl
 obtain ⟨y1, r1, b1⟩ := opensN_t30 t1
 obtain ⟨u1, e1, L1⟩ := r1
 exact ⟨⟨y0, y1⟩, ⟨u1, (part_eq (p := 1) e0 rfl (part_eq (p := 2) e1 rfl (part_end hlen (by kernel_rfl : Try.prog.cellsOf 62 = 2)))), L1⟩, fun hw => ⟨b0 (w0 hw), b1 (w1 hw)⟩⟩

theorem opensN_t22 : OpensB Try.prog 22 (RSl NElaw31_Put) (bdSl bdElaw31_Put) := opens_sliceB Try.underlying22 (by kernel_rfl) (by decide) (of_decide_eq_true (by kernel_rfl)) opensN_t62

theorem opensN_t25 : OpensB Try.prog 25 NElaw31_View bdElaw31_View := by
 intro H enc w base spare held fuel cs x h
 obtain ⟨hlen, m, hf⟩ := struct_parts Try.underlying25 h
 obtain ⟨z0, t0, w0⟩ := hf 0 _ rfl
 obtain ⟨y0, r0, b0⟩ := (opensN_u64 Try.underlying23) t0
 obtain ⟨e0, _⟩ := r0
 obtain ⟨z1, t1, w1⟩ := hf 1 _ rfl
 obtain ⟨y1, r1, b1⟩ := (opensN_u64 Try.underlying23) t1
 obtain ⟨e1, _⟩ := r1
 obtain ⟨z2, t2, w2⟩ := hf 2 _ rfl
 obtain ⟨y2, r2, b2⟩ := (opensN_i64 Try.underlying3) t2
 obtain ⟨e2, _⟩ := r2
 obtain ⟨z3, t3, w3⟩ := hf 3 _ rfl
 obtain ⟨y3, r3, b3⟩ := (opensN_i64 Try.underlying3) t3
 obtain ⟨e3, _⟩ := r3
 exact ⟨⟨y0, y1, y2, y3⟩, ⟨(part_eq (p := 1) e0 rfl (part_eq (p := 2) e1 rfl (part_eq (p := 3) e2 rfl (part_eq (p := 4) e3 rfl (part_end hlen (by kernel_rfl : Try.prog.cellsOf 25 = 4)))))), trivial⟩, fun hw => ⟨b0 (w0 hw), b1 (w1 hw), b2 (w2 hw), b3 (w3 hw)⟩⟩

theorem opensN_t110 : OpensB Try.prog 110 NEMember bdEMember := by
 intro H enc w base spare held fuel cs x h
 obtain ⟨hlen, m, hf⟩ := struct_parts Try.underlying110 h
 obtain ⟨z0, t0, w0⟩ := hf 0 _ rfl
 obtain ⟨y0, r0, b0⟩ := (opensN_i64 Try.underlying3) t0
 obtain ⟨e0, _⟩ := r0
 obtain ⟨z1, t1, w1⟩ := hf 1 _ rfl
 obtain ⟨y1, r1, b1⟩ := (opensN_i64 Try.underlying3) t1
 obtain ⟨e1, _⟩ := r1
 exact ⟨⟨y0, y1⟩, ⟨(part_eq (p := 1) e0 rfl (part_eq (p := 2) e1 rfl (part_end hlen (by kernel_rfl : Try.prog.cellsOf 110 = 2)))), trivial⟩, fun hw => ⟨b0 (w0 hw), b1 (w1 hw)⟩⟩

theorem opensN_t27 : OpensB Try.prog 27 (RSl NEMember) (bdSl bdEMember) := opens_sliceB Try.underlying27 (by kernel_rfl) (by decide) (of_decide_eq_true (by kernel_rfl)) opensN_t110

theorem opensN_t29 : OpensB Try.prog 29 NEConf bdEConf := by
 intro H enc w base spare held fuel cs x h
 obtain ⟨hlen, m, hf⟩ := struct_parts Try.underlying29 h
 obtain ⟨z0, t0, w0⟩ := hf 0 _ rfl
 obtain ⟨y0, r0, b0⟩ := (opensN_i64 Try.underlying3) t0
 obtain ⟨e0, _⟩ := r0
 obtain ⟨z1, t1, w1⟩ := hf 1 _ rfl
 obtain ⟨y1, r1, b1⟩ := opensN_t27 t1
 obtain ⟨u1, e1, L1⟩ := r1
 obtain ⟨z2, t2, w2⟩ := hf 2 _ rfl
 obtain ⟨y2, r2, b2⟩ := (opensN_u64 Try.underlying23) t2
 obtain ⟨e2, _⟩ := r2
 exact ⟨⟨y0, y1, y2⟩, ⟨u1, (part_eq (p := 1) e0 rfl (part_eq (p := 2) e1 rfl (part_eq (p := 3) e2 rfl (part_end hlen (by kernel_rfl : Try.prog.cellsOf 29 = 3))))), L1⟩, fun hw => ⟨b0 (w0 hw), b1 (w1 hw), b2 (w2 hw)⟩⟩

theorem opensN_t32 : OpensB Try.prog 32 NEBatch bdEBatch := by
 intro H enc w base spare held fuel cs x h
 obtain ⟨hlen, m, hf⟩ := struct_parts Try.underlying32 h
 obtain ⟨z0, t0, w0⟩ := hf 0 _ rfl
 obtain ⟨y0, r0, b0⟩ := (opensN_i64 Try.underlying3) t0
 obtain ⟨e0, _⟩ := r0
 obtain ⟨z1, t1, w1⟩ := hf 1 _ rfl
 obtain ⟨y1, r1, b1⟩ := (opensN_i64 Try.underlying3) t1
 obtain ⟨e1, _⟩ := r1
 obtain ⟨z2, t2, w2⟩ := hf 2 _ rfl
 obtain ⟨y2, r2, b2⟩ := opensN_t30 t2
 obtain ⟨u2, e2, L2⟩ := r2
 exact ⟨⟨y0, y1, y2⟩, ⟨u2, (part_eq (p := 1) e0 rfl (part_eq (p := 2) e1 rfl (part_eq (p := 3) e2 rfl (part_end hlen (by kernel_rfl : Try.prog.cellsOf 32 = 3))))), L2⟩, fun hw => ⟨b0 (w0 hw), b1 (w1 hw), b2 (w2 hw)⟩⟩

theorem opensN_t114 : OpensB Try.prog 114 NEEntry bdEEntry := by
 intro H enc w base spare held fuel cs x h
 obtain ⟨hlen, m, hf⟩ := struct_parts Try.underlying114 h
 obtain ⟨z0, t0, w0⟩ := hf 0 _ rfl
 obtain ⟨y0, r0, b0⟩ := opensN_t32 t0
 obtain ⟨u0_0, e0, L0_0⟩ := r0
 obtain ⟨z1, t1, w1⟩ := hf 1 _ rfl
 obtain ⟨y1, r1, b1⟩ := (opensN_u64 Try.underlying23) t1
 obtain ⟨e1, _⟩ := r1
 exact ⟨⟨y0, y1⟩, ⟨u0_0, (part_eq (p := 3) e0 rfl (part_eq (p := 4) e1 rfl (part_end hlen (by kernel_rfl : Try.prog.cellsOf 114 = 4)))), L0_0⟩, fun hw => ⟨b0 (w0 hw), b1 (w1 hw)⟩⟩

theorem opensN_t33 : OpensB Try.prog 33 (RSl NEEntry) (bdSl bdEEntry) := opens_sliceB Try.underlying33 (by kernel_rfl) (by decide) (of_decide_eq_true (by kernel_rfl)) opensN_t114

theorem opensN_t34 : OpensB Try.prog 34 (RSl Nu64) (bdSl inU) := opens_sliceB Try.underlying34 (by kernel_rfl) (by decide) (of_decide_eq_true (by kernel_rfl)) (opensN_u64 Try.underlying23)

theorem opensN_t81 : OpensB Try.prog 81 NEPair bdEPair := by
 intro H enc w base spare held fuel cs x h
 obtain ⟨hlen, m, hf⟩ := struct_parts Try.underlying81 h
 obtain ⟨z0, t0, w0⟩ := hf 0 _ rfl
 obtain ⟨y0, r0, b0⟩ := (opensN_string Try.underlying9) t0
 obtain ⟨e0, _⟩ := r0
 obtain ⟨z1, t1, w1⟩ := hf 1 _ rfl
 obtain ⟨y1, r1, b1⟩ := (opensN_string Try.underlying9) t1
 obtain ⟨e1, _⟩ := r1
 exact ⟨⟨y0, y1⟩, ⟨(part_eq (p := 1) e0 rfl (part_eq (p := 2) e1 rfl (part_end hlen (by kernel_rfl : Try.prog.cellsOf 81 = 2)))), trivial⟩, fun hw => ⟨b0 (w0 hw), b1 (w1 hw)⟩⟩

theorem opensN_t35 : OpensB Try.prog 35 (RSl NEPair) (bdSl bdEPair) := opens_sliceB Try.underlying35 (by kernel_rfl) (by decide) (of_decide_eq_true (by kernel_rfl)) opensN_t81

theorem opensN_t37 : OpensB Try.prog 37 NEMsg bdEMsg := by
 intro H enc w base spare held fuel cs x h
 obtain ⟨hlen, m, hf⟩ := struct_parts Try.underlying37 h
 obtain ⟨z0, t0, w0⟩ := hf 0 _ rfl
 obtain ⟨y0, r0, b0⟩ := (opensN_i64 Try.underlying3) t0
 obtain ⟨e0, _⟩ := r0
 obtain ⟨z1, t1, w1⟩ := hf 1 _ rfl
 obtain ⟨y1, r1, b1⟩ := (opensN_i64 Try.underlying3) t1
 obtain ⟨e1, _⟩ := r1
 obtain ⟨z2, t2, w2⟩ := hf 2 _ rfl
 obtain ⟨y2, r2, b2⟩ := (opensN_i64 Try.underlying3) t2
 obtain ⟨e2, _⟩ := r2
 obtain ⟨z3, t3, w3⟩ := hf 3 _ rfl
 obtain ⟨y3, r3, b3⟩ := (opensN_i64 Try.underlying3) t3
 obtain ⟨e3, _⟩ := r3
 obtain ⟨z4, t4, w4⟩ := hf 4 _ rfl
 obtain ⟨y4, r4, b4⟩ := (opensN_bool Try.underlying4) t4
 obtain ⟨e4, _⟩ := r4
 obtain ⟨z5, t5, w5⟩ := hf 5 _ rfl
 obtain ⟨y5, r5, b5⟩ := (opensN_u64 Try.underlying23) t5
 obtain ⟨e5, _⟩ := r5
 obtain ⟨z6, t6, w6⟩ := hf 6 _ rfl
 obtain ⟨y6, r6, b6⟩ := (opensN_u64 Try.underlying23) t6
 obtain ⟨e6, _⟩ := r6
 obtain ⟨z7, t7, w7⟩ := hf 7 _ rfl
 obtain ⟨y7, r7, b7⟩ := (opensN_i64 Try.underlying3) t7
 obtain ⟨e7, _⟩ := r7
 obtain ⟨z8, t8, w8⟩ := hf 8 _ rfl
 obtain ⟨y8, r8, b8⟩ := (opensN_i64 Try.underlying3) t8
 obtain ⟨e8, _⟩ := r8
 obtain ⟨z9, t9, w9⟩ := hf 9 _ rfl
 obtain ⟨y9, r9, b9⟩ := (opensN_i64 Try.underlying3) t9
 obtain ⟨e9, _⟩ := r9
 obtain ⟨z10, t10, w10⟩ := hf 10 _ rfl
 obtain ⟨y10, r10, b10⟩ := (opensN_i64 Try.underlying26) t10
 obtain ⟨e10, _⟩ := r10
 obtain ⟨z11, t11, w11⟩ := hf 11 _ rfl
 obtain ⟨y11, r11, b11⟩ := (opensN_string Try.underlying9) t11
 obtain ⟨e11, _⟩ := r11
 obtain ⟨z12, t12, w12⟩ := hf 12 _ rfl
 obtain ⟨y12, r12, b12⟩ := (opensN_string Try.underlying9) t12
 obtain ⟨e12, _⟩ := r12
 obtain ⟨z13, t13, w13⟩ := hf 13 _ rfl
 obtain ⟨y13, r13, b13⟩ := opensN_t29 t13
 obtain ⟨u13_0, e13, L13_0⟩ := r13
 obtain ⟨z14, t14, w14⟩ := hf 14 _ rfl
 obtain ⟨y14, r14, b14⟩ := opensN_t32 t14
 obtain ⟨u14_0, e14, L14_0⟩ := r14
 obtain ⟨z15, t15, w15⟩ := hf 15 _ rfl
 obtain ⟨y15, r15, b15⟩ := opensN_t33 t15
 obtain ⟨u15, e15, L15⟩ := r15
 obtain ⟨z16, t16, w16⟩ := hf 16 _ rfl
 obtain ⟨y16, r16, b16⟩ := opensN_t34 t16
 obtain ⟨u16, e16, L16⟩ := r16
 obtain ⟨z17, t17, w17⟩ := hf 17 _ rfl
 obtain ⟨y17, r17, b17⟩ := opensN_t35 t17
 obtain ⟨u17, e17, L17⟩ := r17
 exact ⟨⟨y0, y1, y2, y3, y4, y5, y6, y7, y8, y9, y10, y11, y12, y13, y14, y15, y16, y17⟩, ⟨u13_0, u14_0, u15, u16, u17, (part_eq (p := 1) e0 rfl (part_eq (p := 2) e1 rfl (part_eq (p := 3) e2 rfl (part_eq (p := 4) e3 rfl (part_eq (p := 5) e4 rfl (part_eq (p := 6) e5 rfl (part_eq (p := 7) e6 rfl (part_eq (p := 8) e7 rfl (part_eq (p := 9) e8 rfl (part_eq (p := 10) e9 rfl (part_eq (p := 11) e10 rfl (part_eq (p := 12) e11 rfl (part_eq (p := 13) e12 rfl (part_eq (p := 16) e13 rfl (part_eq (p := 19) e14 rfl (part_eq (p := 20) e15 rfl (part_eq (p := 21) e16 rfl (part_eq (p := 22) e17 rfl (part_end hlen (by kernel_rfl : Try.prog.cellsOf 37 = 22)))))))))))))))))))), L13_0, L14_0, L15, L16, L17⟩, fun hw => ⟨b0 (w0 hw), b1 (w1 hw), b2 (w2 hw), b3 (w3 hw), b4 (w4 hw), b5 (w5 hw), b6 (w6 hw), b7 (w7 hw), b8 (w8 hw), b9 (w9 hw), b10 (w10 hw), b11 (w11 hw), b12 (w12 hw), b13 (w13 hw), b14 (w14 hw), b15 (w15 hw), b16 (w16 hw), b17 (w17 hw)⟩⟩

set_option maxRecDepth 100000 in
theorem serveStays_lifted (os : Os) (started : os.Started) (H : Type) (enc : TypeId × Value → H) :
  ReturnsInHanded {} Try.checked os 4 .any (Rows.serveStaysSpec.pre6 enc Try.prog Try.f4 Rows.serveStaysRow.domain false) (Rows.serveStaysSpec.post enc Try.prog Try.f4 false true false false) := by
 refine returnsInHanded_of_change_sized (C := Try.checked) own started (by kernel_rfl) Try.func4
  (ChangeSpec.witness6 (enc := enc) (C := Try.checked) false ⟨#[], #[.slice none 0 0, .slice none 0 0, .agg #[.int .u64 0, .int .u64 0, .int .i64 0, .int .i64 0], .int .u64 0, .agg #[.int .i64 0, .int .i64 0, .int .i64 0, .int .i64 0, .bool false, .int .u64 0, .int .u64 0, .int .i64 0, .int .i64 0, .int .i64 0, .int .i64 0, .string ByteArray.empty, .string ByteArray.empty, .int .i64 0, .slice none 0 0, .int .u64 0, .int .i64 0, .int .i64 0, .slice none 0 0, .slice none 0 0, .slice none 0 0, .slice none 0 0]], []⟩ 8 (by kernel_rfl) (by kernel_rfl) (by kernel_rfl) (by kernel_rfl)) ?_
 intro W base args ds gs before hval0 hW hcnd hsz _
 have hval : ∀ (j : Nat) t v, Try.f4.params[j]? = some t → args[j]? = some v → Value.okWide Try.prog W .any base t v := hval0
 have hW' := hW
 obtain ⟨p, q, hA0, hV, rfl, hfz, hnd⟩ := hW
 have hA : DataW.TrodAll enc Try.prog W 0 (fun _ => true) true Try.f4.params.toList args.toList ds p := hA0
 rw [Try.params4] at hA hval
 obtain ⟨v0, vs0, d0, ds0, p0, q0, hargs, rfl, rfl, h0, r0⟩ := trodAll_cons hA
 obtain ⟨v1, vs1, d1, ds1, p1, q1, rfl, rfl, rfl, h1, r1⟩ := trodAll_cons r0
 obtain ⟨v2, vs2, d2, ds2, p2, q2, rfl, rfl, rfl, h2, r2⟩ := trodAll_cons r1
 obtain ⟨v3, vs3, d3, ds3, p3, q3, rfl, rfl, rfl, h3, r3⟩ := trodAll_cons r2
 obtain ⟨v4, vs4, d4, ds4, p4, q4, rfl, rfl, rfl, h4, r4⟩ := trodAll_cons r3
 obtain ⟨rfl, rfl, rfl⟩ := trodAll_nil r4
 obtain rfl : args = #[v0, v1, v2, v3, v4] := by cases args; simp_all
 obtain ⟨rfl, rfl⟩ := trodVars_none hV
 have k0 := h0
 have lt0 : ∀ x ∈ p0, x.block < W.heap.size := by obtain ⟨m, hm⟩ := k0; exact DataW.trod_lt m _ _ _ hm
 have k1 := h1
 have lt1 : ∀ x ∈ p1, x.block < W.heap.size := by obtain ⟨m, hm⟩ := k1; exact DataW.trod_lt m _ _ _ hm
 have k2 := h2
 have lt2 : ∀ x ∈ p2, x.block < W.heap.size := by obtain ⟨m, hm⟩ := k2; exact DataW.trod_lt m _ _ _ hm
 have k3 := h3
 have lt3 : ∀ x ∈ p3, x.block < W.heap.size := by obtain ⟨m, hm⟩ := k3; exact DataW.trod_lt m _ _ _ hm
 have k4 := h4
 have lt4 : ∀ x ∈ p4, x.block < W.heap.size := by obtain ⟨m, hm⟩ := k4; exact DataW.trod_lt m _ _ _ hm
 have y0 := hval 0 22 v0 rfl rfl
 have y1 := hval 1 22 v1 rfl rfl
 have y2 := hval 2 25 v2 rfl rfl
 have y3 := hval 3 23 v3 rfl rfl
 have y4 := hval 4 37 v4 rfl rfl
 clear hA0 hval0 hval
 have bw0 := wb_of hsz (j := 0) (t := 22) (by kernel_rfl) rfl
 have bw1 := wb_of hsz (j := 1) (t := 22) (by kernel_rfl) rfl
 have bw2 := wb_of hsz (j := 2) (t := 25) (by kernel_rfl) rfl
 have bw3 := wb_of hsz (j := 3) (t := 23) (by kernel_rfl) rfl
 have bw4 := wb_of hsz (j := 4) (t := 37) (by kernel_rfl) rfl
 obtain ⟨d_p0, L_p0, bd_p0⟩ := arg_sliceB Try.underlying22 opensN_t22 y0 h0 bw0
 obtain ⟨d_p1, L_p1, bd_p1⟩ := arg_sliceB Try.underlying22 opensN_t22 y1 h1 bw1
 obtain ⟨cs_p2, d_p2, rfl, r_p2, bd_p2⟩ := arg_structB Try.underlying25 opensN_t25 y2 h2 bw2
 obtain ⟨e_p2, _⟩ := r_p2
 obtain rfl := arr_of e_p2
 obtain ⟨d_p3, rfl, bd_p3⟩ := argN_u64 Try.underlying23 y3 h3
 obtain ⟨cs_p4, d_p4, rfl, r_p4, bd_p4⟩ := arg_structB Try.underlying37 opensN_t37 y4 h4 bw4
 obtain ⟨v0_p4, v1_p4, v2_p4, v3_p4, v4_p4, e_p4, L0_p4, L1_p4, L2_p4, L3_p4, L4_p4⟩ := r_p4
 obtain rfl := arr_of e_p4
 refine (Calls.row (plainC (c_law31_ServeStays (pure_ServeStays d_p0 d_p1 d_p2 d_p3 d_p4 bd_p0 bd_p1 bd_p2 bd_p3 bd_p4) (St.sl L_p0 (St.sl L_p1 (St.sl L0_p4 (St.sl L1_p4 (St.sl L2_p4 (St.sl L3_p4 (St.sl L4_p4 (St.base W))))))))))).mono fun e W' ⟨he, bel⟩ => ?_
 subst he
 exact ⟨_, rfl, _, _, _, [], _, [], hW', trodAll_mk1 (shut_bool Try.underlying4 _), (trodAll_cons_mk (Below.trod laidOut (by kernel_rfl) (of_decide_eq_true (by kernel_rfl)) k0 bel lt0) (trodAll_cons_mk (Below.trod laidOut (by kernel_rfl) (of_decide_eq_true (by kernel_rfl)) k1 bel lt1) (trodAll_cons_mk (Below.trod laidOut (by kernel_rfl) (of_decide_eq_true (by kernel_rfl)) k2 bel lt2) (trodAll_cons_mk (Below.trod laidOut (by kernel_rfl) (of_decide_eq_true (by kernel_rfl)) k3 bel lt3) (trodAll_cons_mk (Below.trod laidOut (by kernel_rfl) (of_decide_eq_true (by kernel_rfl)) k4 bel lt4) trodAll_mk0))))), rfl, bel.frame _, fun h => by cases h⟩

theorem serveStays_holds : Rows.ServeStaysSaid :=
 OpenClaim.holds_of_wide 4 Try.f4 rfl rfl rfl rfl rfl rfl rfl ⟨rfl, rfl, rfl, rfl, rfl⟩ rfl rfl rfl rfl rfl (by kernel_rfl) Try.func4 (by kernel_rfl)
  (of_decide_eq_true (by kernel_rfl)) (by unfold Func.isWrapper; first | (rw [if_pos (by decide +kernel)]; kernel_rfl) | (rw [if_neg (by decide +kernel)]; exact ⟨rfl, rfl⟩))
  (fun os started H enc _ => serveStays_lifted os started H enc)

end Go.Proofs.Ytaknkbbjimielaa
