/- The statement RelayPlays of layer 32 proved: whatever the input, the law returns true and the input reads as it did. No conditions. -/
import Derived.Test.YtmdoimpeacndaaaRows
import Derived.Test.YtmdoimpeacndaaaOpen3
import Derived.Test.YtmdoimpeacndaaaRelay5
namespace Go.Proofs.Ytmdoimpeacndaaa
open Go.ChangeShapes Go.WideShapes Go.ChangeAt Go.RowKit
open Go.ChangeMaps (open_string shut_string)

theorem own : ownKnob Try.prog.godebug = none := by kernel_rfl

theorem laidOut : laidOutB Try.prog = true := by kernel_rfl

theorem opens_t116 : OpensB Try.prog 116 RDOp bdDOp := by
  intro H enc w base spare held fuel cs x h
  obtain ⟨hlen, m, hf⟩ := struct_parts Try.underlying116 h
  obtain ⟨z0, t0, w0⟩ := hf 0 _ rfl
  obtain ⟨y0, r0, b0⟩ := (opens_string Try.underlying9) t0
  obtain ⟨e0, q0⟩ := r0
  obtain ⟨z1, t1, w1⟩ := hf 1 _ rfl
  obtain ⟨y1, r1, b1⟩ := (opens_string Try.underlying9) t1
  obtain ⟨e1, q1⟩ := r1
  obtain ⟨z2, t2, w2⟩ := hf 2 _ rfl
  obtain ⟨y2, r2, b2⟩ := (opens_bool Try.underlying4) t2
  obtain ⟨e2, q2⟩ := r2
  exact ⟨⟨y0, y1, y2⟩, ⟨(part_eq (p := 1) e0 rfl (part_eq (p := 2) e1 rfl (part_eq (p := 3) e2 rfl (part_end hlen (by kernel_rfl : Try.prog.cellsOf 116 = 3))))), ⟨q0, q1⟩⟩, fun hw => ⟨b0 (w0 hw), b1 (w1 hw)⟩⟩

theorem opens_t31 : OpensB Try.prog 31 (RSl RDOp) (bdSl bdDOp) := opens_sliceB Try.underlying31 (by kernel_rfl) (by decide) (of_decide_eq_true (by kernel_rfl)) opens_t116

theorem opens_t33 : OpensB Try.prog 33 RDBatch bdDBatch := by
  intro H enc w base spare held fuel cs x h
  obtain ⟨hlen, m, hf⟩ := struct_parts Try.underlying33 h
  obtain ⟨z0, t0, w0⟩ := hf 0 _ rfl
  obtain ⟨y0, r0, b0⟩ := (opens_i64 Try.underlying3) t0
  obtain ⟨e0, q0⟩ := r0
  obtain ⟨z1, t1, w1⟩ := hf 1 _ rfl
  obtain ⟨y1, r1, b1⟩ := (opens_i64 Try.underlying3) t1
  obtain ⟨e1, q1⟩ := r1
  obtain ⟨z2, t2, w2⟩ := hf 2 _ rfl
  obtain ⟨y2, r2, b2⟩ := opens_t31 t2
  obtain ⟨u2, e2, L2⟩ := r2
  exact ⟨⟨y0, y1, y2⟩, ⟨u2, (part_eq (p := 1) e0 rfl (part_eq (p := 2) e1 rfl (part_eq (p := 3) e2 rfl (part_end hlen (by kernel_rfl : Try.prog.cellsOf 33 = 3))))), L2, ⟨q0, q1⟩⟩, fun hw => b2 (w2 hw)⟩

theorem opens_t57 : OpensB Try.prog 57 RDEntry bdDEntry := by
  intro H enc w base spare held fuel cs x h
  obtain ⟨hlen, m, hf⟩ := struct_parts Try.underlying57 h
  obtain ⟨z0, t0, w0⟩ := hf 0 _ rfl
  obtain ⟨y0, r0, b0⟩ := opens_t33 t0
  obtain ⟨u0_0, e0, L0_0, q0⟩ := r0
  obtain ⟨z1, t1, w1⟩ := hf 1 _ rfl
  obtain ⟨y1, r1, b1⟩ := (opens_u64 Try.underlying24) t1
  obtain ⟨e1, q1⟩ := r1
  exact ⟨⟨y0, y1⟩, ⟨u0_0, (part_eq (p := 3) e0 rfl (part_eq (p := 4) e1 rfl (part_end hlen (by kernel_rfl : Try.prog.cellsOf 57 = 4)))), L0_0, ⟨q0, q1⟩⟩, fun hw => b0 (w0 hw)⟩

theorem opens_t22 : OpensB Try.prog 22 (RSl RDEntry) (bdSl bdDEntry) := opens_sliceB Try.underlying22 (by kernel_rfl) (by decide) (of_decide_eq_true (by kernel_rfl)) opens_t57

theorem opens_t101 : OpensB Try.prog 101 RDMember bdDMember := by
  intro H enc w base spare held fuel cs x h
  obtain ⟨hlen, m, hf⟩ := struct_parts Try.underlying101 h
  obtain ⟨z0, t0, w0⟩ := hf 0 _ rfl
  obtain ⟨y0, r0, b0⟩ := (opens_i64 Try.underlying3) t0
  obtain ⟨e0, q0⟩ := r0
  obtain ⟨z1, t1, w1⟩ := hf 1 _ rfl
  obtain ⟨y1, r1, b1⟩ := (opens_i64 Try.underlying3) t1
  obtain ⟨e1, q1⟩ := r1
  exact ⟨⟨y0, y1⟩, ⟨(part_eq (p := 1) e0 rfl (part_eq (p := 2) e1 rfl (part_end hlen (by kernel_rfl : Try.prog.cellsOf 101 = 2)))), ⟨q0, q1⟩⟩, fun _ => trivial⟩

theorem opens_t28 : OpensB Try.prog 28 (RSl RDMember) (bdSl bdDMember) := opens_sliceB Try.underlying28 (by kernel_rfl) (by decide) (of_decide_eq_true (by kernel_rfl)) opens_t101

theorem opens_t30 : OpensB Try.prog 30 RDConf bdDConf := by
  intro H enc w base spare held fuel cs x h
  obtain ⟨hlen, m, hf⟩ := struct_parts Try.underlying30 h
  obtain ⟨z0, t0, w0⟩ := hf 0 _ rfl
  obtain ⟨y0, r0, b0⟩ := (opens_i64 Try.underlying3) t0
  obtain ⟨e0, q0⟩ := r0
  obtain ⟨z1, t1, w1⟩ := hf 1 _ rfl
  obtain ⟨y1, r1, b1⟩ := opens_t28 t1
  obtain ⟨u1, e1, L1⟩ := r1
  obtain ⟨z2, t2, w2⟩ := hf 2 _ rfl
  obtain ⟨y2, r2, b2⟩ := (opens_u64 Try.underlying24) t2
  obtain ⟨e2, q2⟩ := r2
  exact ⟨⟨y0, y1, y2⟩, ⟨u1, (part_eq (p := 1) e0 rfl (part_eq (p := 2) e1 rfl (part_eq (p := 3) e2 rfl (part_end hlen (by kernel_rfl : Try.prog.cellsOf 30 = 3))))), L1, ⟨q0, q2⟩⟩, fun hw => b1 (w1 hw)⟩

theorem opens_t34 : OpensB Try.prog 34 (RSl RU) (bdSl bdT) := opens_sliceB Try.underlying34 (by kernel_rfl) (by decide) (of_decide_eq_true (by kernel_rfl)) (opens_u64 Try.underlying24)

theorem opens_t104 : OpensB Try.prog 104 RDPair bdDPair := by
  intro H enc w base spare held fuel cs x h
  obtain ⟨hlen, m, hf⟩ := struct_parts Try.underlying104 h
  obtain ⟨z0, t0, w0⟩ := hf 0 _ rfl
  obtain ⟨y0, r0, b0⟩ := (opens_string Try.underlying9) t0
  obtain ⟨e0, q0⟩ := r0
  obtain ⟨z1, t1, w1⟩ := hf 1 _ rfl
  obtain ⟨y1, r1, b1⟩ := (opens_string Try.underlying9) t1
  obtain ⟨e1, q1⟩ := r1
  exact ⟨⟨y0, y1⟩, ⟨(part_eq (p := 1) e0 rfl (part_eq (p := 2) e1 rfl (part_end hlen (by kernel_rfl : Try.prog.cellsOf 104 = 2)))), ⟨q0, q1⟩⟩, fun hw => ⟨b0 (w0 hw), b1 (w1 hw)⟩⟩

theorem opens_t35 : OpensB Try.prog 35 (RSl RDPair) (bdSl bdDPair) := opens_sliceB Try.underlying35 (by kernel_rfl) (by decide) (of_decide_eq_true (by kernel_rfl)) opens_t104

theorem opens_t37 : OpensB Try.prog 37 RDMsg bdDMsg := by
  intro H enc w base spare held fuel cs x h
  obtain ⟨hlen, m, hf⟩ := struct_parts Try.underlying37 h
  obtain ⟨z0, t0, w0⟩ := hf 0 _ rfl
  obtain ⟨y0, r0, b0⟩ := (opens_i64 Try.underlying3) t0
  obtain ⟨e0, q0⟩ := r0
  obtain ⟨z1, t1, w1⟩ := hf 1 _ rfl
  obtain ⟨y1, r1, b1⟩ := (opens_i64 Try.underlying3) t1
  obtain ⟨e1, q1⟩ := r1
  obtain ⟨z2, t2, w2⟩ := hf 2 _ rfl
  obtain ⟨y2, r2, b2⟩ := (opens_i64 Try.underlying3) t2
  obtain ⟨e2, q2⟩ := r2
  obtain ⟨z3, t3, w3⟩ := hf 3 _ rfl
  obtain ⟨y3, r3, b3⟩ := (opens_i64 Try.underlying3) t3
  obtain ⟨e3, q3⟩ := r3
  obtain ⟨z4, t4, w4⟩ := hf 4 _ rfl
  obtain ⟨y4, r4, b4⟩ := (opens_bool Try.underlying4) t4
  obtain ⟨e4, q4⟩ := r4
  obtain ⟨z5, t5, w5⟩ := hf 5 _ rfl
  obtain ⟨y5, r5, b5⟩ := (opens_u64 Try.underlying24) t5
  obtain ⟨e5, q5⟩ := r5
  obtain ⟨z6, t6, w6⟩ := hf 6 _ rfl
  obtain ⟨y6, r6, b6⟩ := (opens_u64 Try.underlying24) t6
  obtain ⟨e6, q6⟩ := r6
  obtain ⟨z7, t7, w7⟩ := hf 7 _ rfl
  obtain ⟨y7, r7, b7⟩ := (opens_i64 Try.underlying3) t7
  obtain ⟨e7, q7⟩ := r7
  obtain ⟨z8, t8, w8⟩ := hf 8 _ rfl
  obtain ⟨y8, r8, b8⟩ := (opens_i64 Try.underlying3) t8
  obtain ⟨e8, q8⟩ := r8
  obtain ⟨z9, t9, w9⟩ := hf 9 _ rfl
  obtain ⟨y9, r9, b9⟩ := (opens_i64 Try.underlying3) t9
  obtain ⟨e9, q9⟩ := r9
  obtain ⟨z10, t10, w10⟩ := hf 10 _ rfl
  obtain ⟨y10, r10, b10⟩ := (opens_i64 Try.underlying27) t10
  obtain ⟨e10, q10⟩ := r10
  obtain ⟨z11, t11, w11⟩ := hf 11 _ rfl
  obtain ⟨y11, r11, b11⟩ := (opens_string Try.underlying9) t11
  obtain ⟨e11, q11⟩ := r11
  obtain ⟨z12, t12, w12⟩ := hf 12 _ rfl
  obtain ⟨y12, r12, b12⟩ := (opens_string Try.underlying9) t12
  obtain ⟨e12, q12⟩ := r12
  obtain ⟨z13, t13, w13⟩ := hf 13 _ rfl
  obtain ⟨y13, r13, b13⟩ := opens_t30 t13
  obtain ⟨u13_0, e13, L13_0, q13⟩ := r13
  obtain ⟨z14, t14, w14⟩ := hf 14 _ rfl
  obtain ⟨y14, r14, b14⟩ := opens_t33 t14
  obtain ⟨u14_0, e14, L14_0, q14⟩ := r14
  obtain ⟨z15, t15, w15⟩ := hf 15 _ rfl
  obtain ⟨y15, r15, b15⟩ := opens_t22 t15
  obtain ⟨u15, e15, L15⟩ := r15
  obtain ⟨z16, t16, w16⟩ := hf 16 _ rfl
  obtain ⟨y16, r16, b16⟩ := opens_t34 t16
  obtain ⟨u16, e16, L16⟩ := r16
  obtain ⟨z17, t17, w17⟩ := hf 17 _ rfl
  obtain ⟨y17, r17, b17⟩ := opens_t35 t17
  obtain ⟨u17, e17, L17⟩ := r17
  exact ⟨⟨y0, y1, y2, y3, y4, y5, y6, y7, y8, y9, y10, y11, y12, y13, y14, y15, y16, y17⟩, ⟨u13_0, u14_0, u15, u16, u17, (part_eq (p := 1) e0 rfl (part_eq (p := 2) e1 rfl (part_eq (p := 3) e2 rfl (part_eq (p := 4) e3 rfl (part_eq (p := 5) e4 rfl (part_eq (p := 6) e5 rfl (part_eq (p := 7) e6 rfl (part_eq (p := 8) e7 rfl (part_eq (p := 9) e8 rfl (part_eq (p := 10) e9 rfl (part_eq (p := 11) e10 rfl (part_eq (p := 12) e11 rfl (part_eq (p := 13) e12 rfl (part_eq (p := 16) e13 rfl (part_eq (p := 19) e14 rfl (part_eq (p := 20) e15 rfl (part_eq (p := 21) e16 rfl (part_eq (p := 22) e17 rfl (part_end hlen (by kernel_rfl : Try.prog.cellsOf 37 = 22)))))))))))))))))))), L13_0, L14_0, L15, L16, L17, ⟨q0, q1, q2, q3, q5, q6, q7, q8, q9, q10, q11, q12, q13, q14⟩⟩, fun hw => ⟨b11 (w11 hw), b12 (w12 hw), b13 (w13 hw), b14 (w14 hw), b15 (w15 hw), b16 (w16 hw), b17 (w17 hw)⟩⟩

set_option maxRecDepth 100000 in
theorem relayPlays_lifted (os : Os) (started : os.Started) (H : Type) (enc : TypeId × Value → H) :
    ReturnsInHanded {} Try.checked os 4 .any (Rows.relayPlaysSpec.pre6 enc Try.prog Try.f4 Rows.relayPlaysRow.domain false) (Rows.relayPlaysSpec.post enc Try.prog Try.f4 false true false false) := by
  refine returnsInHanded_of_change_sized (C := Try.checked) own started (by kernel_rfl) Try.func4
    (ChangeSpec.witness6 (enc := enc) (C := Try.checked) false ⟨#[], #[.slice none 0 0, .agg #[.int .i64 0, .int .i64 0, .int .i64 0, .int .i64 0, .int .i64 0], .int .u64 0, .agg #[.int .i64 0, .int .i64 0, .int .i64 0, .int .i64 0, .bool false, .int .u64 0, .int .u64 0, .int .i64 0, .int .i64 0, .int .i64 0, .int .i64 0, .string ByteArray.empty, .string ByteArray.empty, .int .i64 0, .slice none 0 0, .int .u64 0, .int .i64 0, .int .i64 0, .slice none 0 0, .slice none 0 0, .slice none 0 0, .slice none 0 0], .bool false], []⟩ 8 (by kernel_rfl) (by kernel_rfl) (by kernel_rfl) (by kernel_rfl)) ?_
  intro W base args ds gs before hval0 hW hcnd hsz _
  have hval : ∀ (j : Nat) t v, Try.f4.params[j]? = some t → args[j]? = some v → Value.okWide Try.prog W .any base t v := hval0
  have hW' := hW
  obtain ⟨p, q, hA0, hV, rfl, hfz, hnd⟩ := hW
  have hA : DataW.TrodAll enc Try.prog W 0 (fun _ => true) true Try.f4.params.toList args.toList ds p := hA0
  rw [Try.params4] at hA hval
  obtain ⟨v0, vs0, d0, ds0, p0, q0, hargs, rfl, rfl, h0, r0⟩ := trodAll_cons hA
  obtain ⟨v1, vs1, d1, ds1, p1, q1, rfl, rfl, rfl, h1, r1⟩ := trodAll_cons r0
  obtain ⟨v2, vs2, d2, ds2, p2, q2, rfl, rfl, rfl, h2, r2⟩ := trodAll_cons r1
  obtain ⟨v3, vs3, d3, ds3, p3, q3, rfl, rfl, rfl, h3, r3⟩ := trodAll_cons r2
  obtain ⟨v4, vs4, d4, ds4, p4, q4, rfl, rfl, rfl, h4, r4⟩ := trodAll_cons r3
  obtain ⟨rfl, rfl, rfl⟩ := trodAll_nil r4
  obtain rfl : args = #[v0, v1, v2, v3, v4] := by cases args; simp_all
  obtain ⟨rfl, rfl⟩ := trodVars_none hV
  have k0 := h0
  have lt0 : ∀ x ∈ p0, x.block < W.heap.size := by obtain ⟨m, hm⟩ := k0; exact DataW.trod_lt m _ _ _ hm
  have k1 := h1
  have lt1 : ∀ x ∈ p1, x.block < W.heap.size := by obtain ⟨m, hm⟩ := k1; exact DataW.trod_lt m _ _ _ hm
  have k2 := h2
  have lt2 : ∀ x ∈ p2, x.block < W.heap.size := by obtain ⟨m, hm⟩ := k2; exact DataW.trod_lt m _ _ _ hm
  have k3 := h3
  have lt3 : ∀ x ∈ p3, x.block < W.heap.size := by obtain ⟨m, hm⟩ := k3; exact DataW.trod_lt m _ _ _ hm
  have k4 := h4
  have lt4 : ∀ x ∈ p4, x.block < W.heap.size := by obtain ⟨m, hm⟩ := k4; exact DataW.trod_lt m _ _ _ hm
  have y0 := hval 0 22 v0 rfl rfl
  have y1 := hval 1 42 v1 rfl rfl
  have y2 := hval 2 24 v2 rfl rfl
  have y3 := hval 3 37 v3 rfl rfl
  have y4 := hval 4 4 v4 rfl rfl
  clear hA0 hval0 hval
  have bw0 := wb_of hsz (j := 0) (t := 22) (by kernel_rfl) rfl
  have bw1 := wb_of hsz (j := 1) (t := 42) (by kernel_rfl) rfl
  have bw2 := wb_of hsz (j := 2) (t := 24) (by kernel_rfl) rfl
  have bw3 := wb_of hsz (j := 3) (t := 37) (by kernel_rfl) rfl
  have bw4 := wb_of hsz (j := 4) (t := 4) (by kernel_rfl) rfl
  obtain ⟨d_l, L_v_l, bd_l⟩ := arg_sliceB Try.underlying22 opens_t22 y0 h0 bw0
  obtain ⟨cs_ar3, m_ar3, rfl, l_ar3, f_ar3⟩ := arg_array (k := 1) Try.underlying42 (by kernel_rfl) y1 h1
  obtain ⟨z_n00, t_n00, _⟩ := f_ar3 0 (by decide)
  obtain ⟨d_n00, ⟨e_n00, h_n00⟩, _⟩ := (opens_i64 Try.underlying3) t_n00
  obtain ⟨z_n01, t_n01, _⟩ := f_ar3 1 (by decide)
  obtain ⟨d_n01, ⟨e_n01, h_n01⟩, _⟩ := (opens_i64 Try.underlying3) t_n01
  obtain ⟨z_n02, t_n02, _⟩ := f_ar3 2 (by decide)
  obtain ⟨d_n02, ⟨e_n02, h_n02⟩, _⟩ := (opens_i64 Try.underlying3) t_n02
  obtain ⟨z_n03, t_n03, _⟩ := f_ar3 3 (by decide)
  obtain ⟨d_n03, ⟨e_n03, h_n03⟩, _⟩ := (opens_i64 Try.underlying3) t_n03
  obtain ⟨z_n04, t_n04, _⟩ := f_ar3 4 (by decide)
  obtain ⟨d_n04, ⟨e_n04, h_n04⟩, _⟩ := (opens_i64 Try.underlying3) t_n04
  obtain rfl := arr_of (cs := cs_ar3) (part_eq (p := 1) e_n00 rfl (part_eq (p := 2) e_n01 rfl (part_eq (p := 3) e_n02 rfl (part_eq (p := 4) e_n03 rfl (part_eq (p := 5) e_n04 rfl (part_end l_ar3 (by kernel_rfl : Try.prog.cellsOf 42 = 5)))))))
  obtain ⟨d_horizon, rfl, h_horizon⟩ := arg_u64 Try.underlying24 y2 h2
  obtain ⟨cs_x, d_x, rfl, r_x, bd_x⟩ := arg_structB Try.underlying37 opens_t37 y3 h3 bw3
  obtain ⟨v0_x, v1_x, v2_x, v3_x, v4_x, e_x, L_v0_x, L_v1_x, L_v2_x, L_v3_x, L_v4_x, h_x⟩ := r_x
  obtain rfl := arr_of e_x
  obtain ⟨d_tail, rfl⟩ := arg_bool Try.underlying4 y4 h4
  refine (Calls.row (law_RelayPlays _ _ _ _ _ _ _ _ _ _ _ _ _ _ _ W L_v_l h_n00 h_n01 h_n02 h_n03 h_n04 h_horizon L_v0_x L_v1_x L_v2_x L_v3_x L_v4_x h_x bd_l)).mono fun e W' ⟨he, bel⟩ => ?_
  subst he
  exact ⟨_, rfl, _, _, _, [], _, [], hW', trodAll_mk1 (shut_bool Try.underlying4 _), (trodAll_cons_mk (Below.trod laidOut (by kernel_rfl) (of_decide_eq_true (by kernel_rfl)) k0 bel lt0) (trodAll_cons_mk (Below.trod laidOut (by kernel_rfl) (of_decide_eq_true (by kernel_rfl)) k1 bel lt1) (trodAll_cons_mk (Below.trod laidOut (by kernel_rfl) (of_decide_eq_true (by kernel_rfl)) k2 bel lt2) (trodAll_cons_mk (Below.trod laidOut (by kernel_rfl) (of_decide_eq_true (by kernel_rfl)) k3 bel lt3) (trodAll_cons_mk (Below.trod laidOut (by kernel_rfl) (of_decide_eq_true (by kernel_rfl)) k4 bel lt4) trodAll_mk0))))), rfl, bel.frame _, fun h => by cases h⟩

theorem relayPlays_holds : Rows.RelayPlaysSaid :=
  OpenClaim.holds_of_wide 4 Try.f4 rfl rfl rfl rfl rfl rfl rfl ⟨rfl, rfl, rfl, rfl, rfl⟩ rfl rfl rfl rfl rfl (by kernel_rfl) Try.func4 (by kernel_rfl)
    (of_decide_eq_true (by kernel_rfl)) (by unfold Func.isWrapper; first | (rw [if_pos (by decide +kernel)]; kernel_rfl) | (rw [if_neg (by decide +kernel)]; exact ⟨rfl, rfl⟩))
    (fun os started H enc _ => relayPlays_lifted os started H enc)

end Go.Proofs.Ytmdoimpeacndaaa
