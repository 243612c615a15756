/- Notes read out of bytes. -/
import Derived.Test.YtbfglbbbkcpgeaaYNote
namespace Go.Proofs.Ytbfglbbbkcpgeaa
open Go.RowKit
def OENote (b : Nat) (x : ENote) : Ch := ExC fun (p : Value × Value × Value) => [BxC b 39 (cENote x p.1 p.2.1 p.2.2), SlC NEMember p.1 x.conf.members, OwC Ni64 3 p.2.1 x.legit, SlC NEOp p.2.2 x.entry.batch.ops]

def RENote (b : Nat) (x : ENote) : Ch := ExC fun (p : Value × Value × Value) => [BxC b 39 (cENote x p.1 p.2.1 p.2.2), SlC NEMember p.1 x.conf.members, SlC Ni64 p.2.1 x.legit, SlC NEOp p.2.2 x.entry.batch.ops]

def tN1L : TabL := ⟨[(34816, 0), (34817, 1), (34818, 2), (37888, 0), (37889, 1), (37890, 2), (37891, 3), (39936, 0), (39937, 1), (39938, 2), (39939, 3), (39940, 6), (39941, 7), (39942, 11), (39943, 14), (64514, 2)], [], [], [(27, (3, 1))], [(3, (1, false)), (23, (1, false)), (26, (3, true)), (27, (1, false)), (32, (4, true)), (35, (1, false)), (39, (18, true)), (63, (3, true))]⟩

def tN1 : Tab Try.prog := ⟨tN1L, by kernel_rfl⟩

theorem fn_14_YNote1 : IsFn Try.prog 14 := ⟨_, Try.func14, by kernel_rfl, by kernel_rfl⟩

theorem fn_18_YNote1 : IsFn Try.prog 18 := ⟨_, Try.func18, by kernel_rfl, by kernel_rfl⟩

theorem fn_19_YNote1 : IsFn Try.prog 19 := ⟨_, Try.func19, by kernel_rfl, by kernel_rfl⟩

theorem fn_20_YNote1 : IsFn Try.prog 20 := ⟨_, Try.func20, by kernel_rfl, by kernel_rfl⟩

theorem fn_21_YNote1 : IsFn Try.prog 21 := ⟨_, Try.func21, by kernel_rfl, by kernel_rfl⟩

theorem fn_22_YNote1 : IsFn Try.prog 22 := ⟨_, Try.func22, by kernel_rfl, by kernel_rfl⟩

theorem fn_61_YNote1 : IsFn Try.prog 61 := ⟨_, Try.func61, by kernel_rfl, by kernel_rfl⟩

theorem fn_62_YNote1 : IsFn Try.prog 62 := ⟨_, Try.func62, by kernel_rfl, by kernel_rfl⟩

theorem fn_63_YNote1 : IsFn Try.prog 63 := ⟨_, Try.func63, by kernel_rfl, by kernel_rfl⟩

theorem fn_64_YNote1 : IsFn Try.prog 64 := ⟨_, Try.func64, by kernel_rfl, by kernel_rfl⟩

theorem fn_65_YNote1 : IsFn Try.prog 65 := ⟨_, Try.func65, by kernel_rfl, by kernel_rfl⟩

theorem fn_89_YNote1 : IsFn Try.prog 89 := ⟨_, Try.func89, by kernel_rfl, by kernel_rfl⟩

theorem E_27_YNote1 : Elem Try.prog 27 3 1 8 := ⟨Try.underlying27, by
 have h : (Try.prog.info? 3).map (fun i => (i.zero, i.size, i.bytes)) = some (some (.int .i64 0), 1, 8) := by kernel_rfl
 obtain ⟨i, hi, h1⟩ := Option.map_eq_some_iff.1 h
 simp only [Prod.mk.injEq] at h1
 exact ⟨i, _, hi, h1.1, h1.2.1, h1.2.2, by rfl⟩, by decide⟩

def F_note_inner_api_Conf__conf_Of (r0 : Ewire_Reader) (to_ : ENote) : Option (Int × Ewire_Reader × ENote) := (F_wire_Reader_Text r0 65536).bind fun t => ((F_wire_Reader_Err t.2).bind fun e => (if (e != 0) = true then (some (e, t.2, to_)) else ((F_conf_Of t.1).bind fun o => (some (o.2, t.2, ({ to_ with conf := o.1 } : ENote))))))

set_option maxHeartbeats 1000000 in
theorem c_note_inner_api_Conf__conf_Of {I D : Dm} {b_r0 : Nat} {r0 : Ewire_Reader} {b_to_ : Nat} {to_ : ENote} {w : World} {rr : Int × Ewire_Reader × ENote} (hF : F_note_inner_api_Conf__conf_Of r0 to_ = some rr) (H : St I D w [BxC b_r0 98 (cEwire_Reader r0), OENote b_to_ to_]) :
  Calls Try.prog 61 #[.pointer (some ⟨b_r0, 0, none⟩), .pointer (some ⟨b_to_, 3, none⟩), .func (.func 62) #[] #[]] w (Ret fun vv w' => vv = .int .i64 rr.1 ∧ ∃ I', Hf I D w I' w' [BxC b_r0 98 [.string rr.2.1.s, .int .i64 rr.2.1.at_, .int .i64 rr.2.1.e, .bool rr.2.1.made], OENote b_to_ rr.2.2]) := by
 replace H := H.hf
 unfold F_note_inner_api_Conf__conf_Of at hF
 refine f_enter 25 Try.func61 rfl rfl (Nat.le_of_ble_eq_true rfl) fun a Z => ?_
 replace Z := Z.sub (ts := [0, 1, 2]) rfl
 refine wp_seq (f_region Z ?_); clear Z; intro Z
 refine s_runk tN1 Z 1 rfl rfl ?_; clear Z a; intro a Z
 refine s_end Z [0, 1, 2, 6] rfl ?_; clear Z; intro Z
 refine p_then (wp_seq ?_)
 obtain ⟨t, hx1, hF⟩ := bnd_in hF
 refine f_region Z ?_; clear Z; intro Z
 refine s_runk tN1 Z 1 rfl rfl ?_; clear Z a; intro a Z
 refine h_call Z H (js := [(0, false)]) rfl (caps := #[]) fn_89_YNote1 rfl rfl rfl rfl rfl (by decide) rfl rfl (fun D1 hS => have hq := c_wire_Reader_Text hx1 hS; hq) ?_; clear Z a; intro vv a w1 D2 hr hF2 Z
 obtain ⟨rfl, I1, K⟩ := hr
 have H : Hf I D w I1 w1 [BxC b_r0 98 (cEwire_Reader t.2), OENote b_to_ to_] := hF2 K
 clear hF2 K
 refine s_runk tN1 Z 1 rfl rfl ?_; clear Z a; intro a Z
 refine s_end Z [0, 1, 2, 6, 7] rfl ?_; clear Z; intro Z
 refine p_then (wp_seq ?_)
 refine wp_seq ?_
 obtain ⟨e, hx2, hF⟩ := bnd_in hF
 refine f_region Z ?_; clear Z; intro Z
 refine s_runk tN1 Z 1 rfl rfl ?_; clear Z a; intro a Z
 refine h_call Z H (js := [(0, false)]) rfl (caps := #[]) fn_20_YNote1 rfl rfl rfl rfl rfl (by decide) rfl rfl (fun D1 hS => have hq := c_wire_Reader_Err hx2 hS; hq) ?_; clear Z a; intro vv a w2 D2 hr hF2 Z
 obtain ⟨rfl, I2, K⟩ := hr
 have H : Hf I D w I2 w2 [BxC b_r0 98 (cEwire_Reader t.2), OENote b_to_ to_] := hF2 K
 clear hF2 K
 refine s_runk tN1 Z 1 rfl rfl ?_; clear Z a; intro a Z
 refine s_end Z [1, 2, 6, 7, 8] rfl ?_; clear Z; intro Z
 refine p_then (wp_seq (f_region Z ?_)); clear Z; intro Z
 refine s_runk tN1 Z 2 rfl rfl ?_; clear Z a; intro a Z
 refine s_end Z [1, 2, 6, 7, 8, 14] rfl ?_; clear Z; intro Z
 refine p_then ?_
 refine f_cond Z rfl (fun hc1 => ?_) (fun hc1 => ?_)
 ·replace hF := ite_t hc1 hF
  refine wp_seq (f_region Z ?_); clear Z; intro Z
  refine s_runk tN1 Z 2 rfl rfl ?_; clear Z a; intro a Z
  refine s_end Z [1, 2, 6, 7] rfl ?_; clear Z; intro Z
  refine p_then (wp_ret ?_)
  refine p_then_r ?_
  obtain rfl := some_in hF
  exact f_ret Z (run_results1 rfl Z rfl) ⟨rfl, I2, (H.sub [(0, false), (0, false)] rfl).eq rfl⟩
 ·replace hF := ite_f hc1 hF
  refine wp_skip ?_
  refine p_then (wp_seq ?_)
  obtain ⟨o, hx3, hF⟩ := bnd_in hF
  refine f_region Z ?_; clear Z; intro Z
  refine s_runk tN1 Z 3 rfl rfl ?_; clear Z a; intro a Z
  refine h_call Z H (js := []) rfl (caps := #[]) fn_62_YNote1 rfl rfl rfl rfl rfl (by decide) rfl rfl (fun D1 hS => have hq := c_conf_Of hx3 hS; hq) ?_; clear Z a; intro vv a w3 D2 hr hF2 Z
  obtain ⟨q1, rfl, I3, K⟩ := hr
  have H : Hf I D w I3 w3 [SlC NEMember q1 o.1.members, BxC b_r0 98 (cEwire_Reader t.2), OENote b_to_ to_] := hF2 K
  clear hF2 K
  refine s_runk tN1 Z 4 rfl rfl ?_; clear Z a; intro a Z
  obtain ⟨⟨v1, v2, v3⟩, H⟩ := H.openX 2 rfl
  replace H : Hf I D w I3 w3 [BxC b_to_ 39 (cENote to_ v1 v2 v3), SlC NEMember v1 to_.conf.members, OwC Ni64 3 v2 to_.legit, SlC NEOp v3 to_.entry.batch.ops, SlC NEMember q1 o.1.members, BxC b_r0 98 (cEwire_Reader t.2)] := H
  refine h_store tN1 Z H 0 rfl rfl rfl rfl rfl rfl rfl rfl rfl (one_cons rfl (one_cons (slS.one (H.slshape 4 rfl)) (one_cons rfl one_nil))) (Nat.le_of_ble_eq_true rfl) rfl ?_; clear H; intro w4 H
  dsimp only [List.eraseIdx] at H
  refine s_runk tN1 Z 1 rfl rfl ?_; clear Z a; intro a Z
  refine s_end Z [6] rfl ?_; clear Z; intro Z
  refine p_then (wp_seq (f_region Z ?_)); clear Z; intro Z
  refine s_runk tN1 Z 2 rfl rfl ?_; clear Z a; intro a Z
  refine s_end Z [6] rfl ?_; clear Z; intro Z
  refine p_then (wp_ret ?_)
  replace H : Hf I D w I3 w4 [OENote b_to_ ({ to_ with conf := o.1 } : ENote), SlC NEMember v1 to_.conf.members, SlC NEOp v3 to_.entry.batch.ops, SlC NEMember q1 o.1.members, BxC b_r0 98 (cEwire_Reader t.2)] := H.shutX (q1, v2, v3) [(0, false), (3, true), (1, false), (1, true)] rfl
  obtain rfl := some_in hF
  exact f_ret Z (run_results1 rfl Z rfl) ⟨rfl, I3, (H.sub [(4, false), (0, false)] rfl).eq rfl⟩

def F_note_inner_api_Entry__item_Of (r0 : Ewire_Reader) (to_ : ENote) : Option (Int × Ewire_Reader × ENote) := (F_wire_Reader_Text r0 65536).bind fun t => ((F_wire_Reader_Err t.2).bind fun e => (if (e != 0) = true then (some (e, t.2, to_)) else ((F_item_Of t.1).bind fun o => (some (o.2, t.2, ({ to_ with entry := o.1 } : ENote))))))

set_option maxHeartbeats 1000000 in
theorem c_note_inner_api_Entry__item_Of {I D : Dm} {b_r0 : Nat} {r0 : Ewire_Reader} {b_to_ : Nat} {to_ : ENote} {w : World} {rr : Int × Ewire_Reader × ENote} (hF : F_note_inner_api_Entry__item_Of r0 to_ = some rr) (H : St I D w [BxC b_r0 98 (cEwire_Reader r0), OENote b_to_ to_]) :
  Calls Try.prog 63 #[.pointer (some ⟨b_r0, 0, none⟩), .pointer (some ⟨b_to_, 7, none⟩), .func (.func 64) #[] #[]] w (Ret fun vv w' => vv = .int .i64 rr.1 ∧ ∃ I', Hf I D w I' w' [BxC b_r0 98 [.string rr.2.1.s, .int .i64 rr.2.1.at_, .int .i64 rr.2.1.e, .bool rr.2.1.made], OENote b_to_ rr.2.2]) := by
 replace H := H.hf
 unfold F_note_inner_api_Entry__item_Of at hF
 refine f_enter 25 Try.func63 rfl rfl (Nat.le_of_ble_eq_true rfl) fun a Z => ?_
 replace Z := Z.sub (ts := [0, 1, 2]) rfl
 refine wp_seq (f_region Z ?_); clear Z; intro Z
 refine s_runk tN1 Z 1 rfl rfl ?_; clear Z a; intro a Z
 refine s_end Z [0, 1, 2, 6] rfl ?_; clear Z; intro Z
 refine p_then (wp_seq ?_)
 obtain ⟨t, hx1, hF⟩ := bnd_in hF
 refine f_region Z ?_; clear Z; intro Z
 refine s_runk tN1 Z 1 rfl rfl ?_; clear Z a; intro a Z
 refine h_call Z H (js := [(0, false)]) rfl (caps := #[]) fn_89_YNote1 rfl rfl rfl rfl rfl (by decide) rfl rfl (fun D1 hS => have hq := c_wire_Reader_Text hx1 hS; hq) ?_; clear Z a; intro vv a w1 D2 hr hF2 Z
 obtain ⟨rfl, I1, K⟩ := hr
 have H : Hf I D w I1 w1 [BxC b_r0 98 (cEwire_Reader t.2), OENote b_to_ to_] := hF2 K
 clear hF2 K
 refine s_runk tN1 Z 1 rfl rfl ?_; clear Z a; intro a Z
 refine s_end Z [0, 1, 2, 6, 7] rfl ?_; clear Z; intro Z
 refine p_then (wp_seq ?_)
 refine wp_seq ?_
 obtain ⟨e, hx2, hF⟩ := bnd_in hF
 refine f_region Z ?_; clear Z; intro Z
 refine s_runk tN1 Z 1 rfl rfl ?_; clear Z a; intro a Z
 refine h_call Z H (js := [(0, false)]) rfl (caps := #[]) fn_20_YNote1 rfl rfl rfl rfl rfl (by decide) rfl rfl (fun D1 hS => have hq := c_wire_Reader_Err hx2 hS; hq) ?_; clear Z a; intro vv a w2 D2 hr hF2 Z
 obtain ⟨rfl, I2, K⟩ := hr
 have H : Hf I D w I2 w2 [BxC b_r0 98 (cEwire_Reader t.2), OENote b_to_ to_] := hF2 K
 clear hF2 K
 refine s_runk tN1 Z 1 rfl rfl ?_; clear Z a; intro a Z
 refine s_end Z [1, 2, 6, 7, 8] rfl ?_; clear Z; intro Z
 refine p_then (wp_seq (f_region Z ?_)); clear Z; intro Z
 refine s_runk tN1 Z 2 rfl rfl ?_; clear Z a; intro a Z
 refine s_end Z [1, 2, 6, 7, 8, 14] rfl ?_; clear Z; intro Z
 refine p_then ?_
 refine f_cond Z rfl (fun hc1 => ?_) (fun hc1 => ?_)
 ·replace hF := ite_t hc1 hF
  refine wp_seq (f_region Z ?_); clear Z; intro Z
  refine s_runk tN1 Z 2 rfl rfl ?_; clear Z a; intro a Z
  refine s_end Z [1, 2, 6, 7] rfl ?_; clear Z; intro Z
  refine p_then (wp_ret ?_)
  refine p_then_r ?_
  obtain rfl := some_in hF
  exact f_ret Z (run_results1 rfl Z rfl) ⟨rfl, I2, (H.sub [(0, false), (0, false)] rfl).eq rfl⟩
 ·replace hF := ite_f hc1 hF
  refine wp_skip ?_
  refine p_then (wp_seq ?_)
  obtain ⟨o, hx3, hF⟩ := bnd_in hF
  refine f_region Z ?_; clear Z; intro Z
  refine s_runk tN1 Z 3 rfl rfl ?_; clear Z a; intro a Z
  refine h_call Z H (js := []) rfl (caps := #[]) fn_64_YNote1 rfl rfl rfl rfl rfl (by decide) rfl rfl (fun D1 hS => have hq := c_item_Of hx3 hS; hq) ?_; clear Z a; intro vv a w3 D2 hr hF2 Z
  obtain ⟨q1, rfl, I3, K⟩ := hr
  have H : Hf I D w I3 w3 [SlC NEOp q1 o.1.batch.ops, BxC b_r0 98 (cEwire_Reader t.2), OENote b_to_ to_] := hF2 K
  clear hF2 K
  refine s_runk tN1 Z 4 rfl rfl ?_; clear Z a; intro a Z
  obtain ⟨⟨v1, v2, v3⟩, H⟩ := H.openX 2 rfl
  replace H : Hf I D w I3 w3 [BxC b_to_ 39 (cENote to_ v1 v2 v3), SlC NEMember v1 to_.conf.members, OwC Ni64 3 v2 to_.legit, SlC NEOp v3 to_.entry.batch.ops, SlC NEOp q1 o.1.batch.ops, BxC b_r0 98 (cEwire_Reader t.2)] := H
  refine h_store tN1 Z H 0 rfl rfl rfl rfl rfl rfl rfl rfl rfl (one_cons rfl (one_cons rfl (one_cons (slS.one (H.slshape 4 rfl)) (one_cons rfl one_nil)))) (Nat.le_of_ble_eq_true rfl) rfl ?_; clear H; intro w4 H
  dsimp only [List.eraseIdx] at H
  refine s_runk tN1 Z 1 rfl rfl ?_; clear Z a; intro a Z
  refine s_end Z [6] rfl ?_; clear Z; intro Z
  refine p_then (wp_seq (f_region Z ?_)); clear Z; intro Z
  refine s_runk tN1 Z 2 rfl rfl ?_; clear Z a; intro a Z
  refine s_end Z [6] rfl ?_; clear Z; intro Z
  refine p_then (wp_ret ?_)
  replace H : Hf I D w I3 w4 [OENote b_to_ ({ to_ with entry := o.1 } : ENote), SlC NEMember v1 to_.conf.members, SlC NEOp v3 to_.entry.batch.ops, SlC NEOp q1 o.1.batch.ops, BxC b_r0 98 (cEwire_Reader t.2)] := H.shutX (v1, v2, q1) [(0, false), (0, true), (1, false), (2, true)] rfl
  obtain rfl := some_in hF
  exact f_ret Z (run_results1 rfl Z rfl) ⟨rfl, I3, (H.sub [(4, false), (0, false)] rfl).eq rfl⟩

def F_note_read_k1 (r_s : ByteArray) (r_at_ : Int) (r_e : Int) (r_made : Bool) (n0_2 : ENote) : Option (Int × Ewire_Reader × ENote) := (F_wire_Reader_Err ({ s := r_s, at_ := r_at_, e := r_e, made := r_made } : Ewire_Reader)).bind fun e => (some (e, ({ s := r_s, at_ := r_at_, e := r_e, made := r_made } : Ewire_Reader), n0_2))

def F_note_read_k2 (n0 : ENote) (r_s_2 : ByteArray) (r_at__2 : Int) (r_e_2 : Int) (r_made_2 : Bool) (n_at_ : Int) : Option (Int × Ewire_Reader × ENote) := (F_wire_Reader_Num ({ s := r_s_2, at_ := r_at__2, e := r_e_2, made := r_made_2 } : Ewire_Reader) 1073741824).bind fun n0_3 => (F_note_read_k1 n0_3.2.s n0_3.2.at_ n0_3.2.e n0_3.2.made ({ n0 with n := n0_3.1, at_ := n_at_ } : ENote))

def F_note_read_l3 (n0_4 : Int × Ewire_Reader) (rc : (Int × ByteArray × Int × Int × Bool × ENote) → Option (Int × Ewire_Reader × ENote)) (sg : Int × ByteArray × Int × Int × Bool × ENote) : Option (Int × Ewire_Reader × ENote) := match sg with | (x, r_s_3, r_at__3, r_e_3, r_made_3, n0_5) => if (decide (x < n0_4.1)) = true then ((F_wire_Reader_Num ({ s := r_s_3, at_ := r_at__3, e := r_e_3, made := r_made_3 } : Ewire_Reader) 3).bind fun n0_6 => (chk (((n0_5.legit.length + [n0_6.1].length : Nat) : Int) * 8 ≤ 140737488355328) (chk (inI (x + 1)) (rc (x + 1, n0_6.2.s, n0_6.2.at_, n0_6.2.e, n0_6.2.made, ({ n0_5 with legit := n0_5.legit ++ [n0_6.1] } : ENote)))))) else (F_note_read_k1 r_s_3 r_at__3 r_e_3 r_made_3 n0_5)

def F_note_read_k4 (r0 : Ewire_Reader) (n0 : ENote) (x_2 : Bool) : Option (Int × Ewire_Reader × ENote) := if (x_2) = true then (F_note_read_k2 n0 r0.s r0.at_ r0.e r0.made n0.at_) else (if (n0.k == 6) = true then ((F_wire_Reader_Num r0 1073741824).bind fun n0_9 => ((F_wire_Reader_Big n0_9.2).bind fun b_3 => ((F_wire_Reader_Num b_3.2 1073741824).bind fun n0_10 => (F_note_read_k1 n0_10.2.s n0_10.2.at_ n0_10.2.e n0_10.2.made ({ n0 with pin := ({ id := n0_9.1, at_ := b_3.1, left := n0_10.1 } : EPin) } : ENote))))) else (if (n0.k == 8) = true then ((F_wire_Reader_Num r0 2).bind fun n0_11 => ((F_wire_Reader_Num n0_11.2 1073741824).bind fun n0_12 => ((F_wire_Reader_Num n0_12.2 21).bind fun n0_13 => ((F_wire_Reader_Num n0_13.2 1073741824).bind fun n0_14 => (F_note_read_k1 n0_14.2.s n0_14.2.at_ n0_14.2.e n0_14.2.made ({ n0 with said := ({ client := n0_11.1, req := n0_12.1, e := n0_13.1, pin := n0_14.1 } : EAnswer) } : ENote)))))) else (F_note_read_k1 r0.s r0.at_ r0.e r0.made n0)))

def F_note_read (r0 : Ewire_Reader) (n0 : ENote) : Option (Int × Ewire_Reader × ENote) := if (n0.k == 1) = true then ((F_note_inner_api_Conf__conf_Of r0 n0).bind fun o => (if (o.1 != 0) = true then (some (o.1, o.2.1, o.2.2)) else ((F_wire_Reader_Num o.2.1 4).bind fun n0_4 => (iter (F_note_read_l3 n0_4) FU (0, n0_4.2.s, n0_4.2.at_, n0_4.2.e, n0_4.2.made, o.2.2))))) else (if (n0.k == 2) = true then ((F_wire_Reader_Num r0 1073741824).bind fun n0_7 => ((F_note_inner_api_Entry__item_Of n0_7.2 ({ n0 with n := n0_7.1 } : ENote)).bind fun o_2 => (some (o_2.1, o_2.2.1, o_2.2.2)))) else (if (n0.k == 3) = true then ((F_wire_Reader_Num r0 1073741824).bind fun n0_8 => ((F_wire_Reader_Big n0_8.2).bind fun b => (F_note_read_k1 b.2.s b.2.at_ b.2.e b.2.made ({ n0 with n := n0_8.1, at_ := b.1 } : ENote)))) else (if (n0.k == 4) = true then ((F_wire_Reader_Big r0).bind fun b_2 => (F_note_read_k2 n0 b_2.2.s b_2.2.at_ b_2.2.e b_2.2.made b_2.1)) else (if (n0.k == 5) = true then (F_note_read_k4 r0 n0 (n0.k == 5)) else (F_note_read_k4 r0 n0 (n0.k == 7))))))

set_option maxHeartbeats 1000000 in
theorem c_note_read {I D : Dm} {b_r0 : Nat} {r0 : Ewire_Reader} {b_n0 : Nat} {n0 : ENote} {w : World} {rr : Int × Ewire_Reader × ENote} (hF : F_note_read r0 n0 = some rr) (H : St I D w [BxC b_r0 98 (cEwire_Reader r0), OENote b_n0 n0]) :
  Calls Try.prog 21 #[.pointer (some ⟨b_r0, 0, none⟩), .pointer (some ⟨b_n0, 0, none⟩)] w (Ret fun vv w' => vv = .int .i64 rr.1 ∧ ∃ I', Hf I D w I' w' [BxC b_r0 98 [.string rr.2.1.s, .int .i64 rr.2.1.at_, .int .i64 rr.2.1.e, .bool rr.2.1.made], OENote b_n0 rr.2.2]) := by
 replace H := H.hf
 unfold F_note_read at hF
 refine f_enter 123 Try.func21 rfl rfl (Nat.le_of_ble_eq_true rfl) fun a Z => ?_
 replace Z := Z.sub (ts := [0, 1]) rfl
 refine wp_seq (f_region Z ?_); clear Z; intro Z
 refine s_runk tN1 Z 1 rfl rfl ?_; clear Z a; intro a Z
 refine s_end Z [0, 1, 4] rfl ?_; clear Z; intro Z
 refine p_then ?_
 refine f_cut (fun a' w' => ∃ (r_s : ByteArray) (r_at_ : Int) (r_e : Int) (r_made : Bool) (n0_2 : ENote), Sl 123 [(0, .pointer (some ⟨b_r0, 0, none⟩)), (4, .int .i64 0)] a' ∧ (∃ I2, Hf I D w I2 w' [BxC b_r0 98 [.string r_s, .int .i64 r_at_, .int .i64 r_e, .bool r_made], OENote b_n0 n0_2]) ∧ F_note_read_k1 r_s r_at_ r_e r_made n0_2 = some rr) ?_ ?_
 ·rintro a w1 ⟨r_s, r_at_, r_e, r_made, n0_2, Z, ⟨I1, H⟩, hF⟩
  unfold F_note_read_k1 at hF
  try dsimp only at hF
  refine wp_seq ?_
  obtain ⟨e, hx1, hF⟩ := bnd_in hF
  refine f_region Z ?_; clear Z; intro Z
  refine s_runk tN1 Z 1 rfl rfl ?_; clear Z a; intro a Z
  refine h_call Z H (js := [(0, false)]) rfl (caps := #[]) fn_20_YNote1 rfl rfl rfl rfl rfl (by decide) rfl rfl (fun D1 hS => have hq := c_wire_Reader_Err hx1 hS; hq) ?_; clear Z a; intro vv a w2 D2 hr hF2 Z
  obtain ⟨rfl, I2, K⟩ := hr
  have H : Hf I D w I2 w2 [BxC b_r0 98 [.string r_s, .int .i64 r_at_, .int .i64 r_e, .bool r_made], OENote b_n0 n0_2] := hF2 K
  clear hF2 K
  refine s_runk tN1 Z 1 rfl rfl ?_; clear Z a; intro a Z
  refine s_end Z [4] rfl ?_; clear Z; intro Z
  refine p_then (wp_ret ?_)
  obtain rfl := some_in hF
  exact f_ret Z (run_results1 rfl Z rfl) ⟨rfl, I2, (H.sub [(0, false), (0, false)] rfl).eq rfl⟩
 ·skip
  refine wp_seq (f_region Z ?_); clear Z; intro Z
  refine s_runk tN1 Z 3 rfl rfl ?_; clear Z a; intro a Z
  obtain ⟨⟨v1, v2, v3⟩, H⟩ := H.openX 1 rfl
  replace H : Hf I D w I w [BxC b_n0 39 (cENote n0 v1 v2 v3), SlC NEMember v1 n0.conf.members, OwC Ni64 3 v2 n0.legit, SlC NEOp v3 n0.entry.batch.ops, BxC b_r0 98 (cEwire_Reader r0)] := H
  refine s_ob Z (v := .int .i64 n0.k) rfl rfl (by decide) rfl (Ob_load tN1 rfl rfl rfl ((H.bx 0 rfl).cell 0 rfl)) ?_; clear Z a; intro a Z
  refine s_end Z [0, 1, 4, 9] rfl ?_; clear Z; intro Z
  refine p_then (wp_block ?_)
  refine wp_seq ?_
  refine wp_block ?_
  refine wp_seq ?_
  refine wp_block ?_
  refine f_cut (fun a' w' => ∃ (r_s_2 : ByteArray) (r_at__2 : Int) (r_e_2 : Int) (r_made_2 : Bool) (n_at_ : Int), Sl 123 [(0, .pointer (some ⟨b_r0, 0, none⟩)), (1, .pointer (some ⟨b_n0, 0, none⟩)), (4, .int .i64 0)] a' ∧ (∃ I2, Hf I D w I2 w' [BxC b_r0 98 [.string r_s_2, .int .i64 r_at__2, .int .i64 r_e_2, .bool r_made_2], BxC b_n0 39 [.int .i64 n0.k, .int .i64 n0.n, .int .u64 n_at_, .int .i64 n0.conf.epoch, v1, .int .u64 n0.conf.floor, v2, .int .i64 n0.entry.batch.client, .int .i64 n0.entry.batch.req, v3, .int .u64 n0.entry.ts, .int .i64 n0.pin.id, .int .u64 n0.pin.at_, .int .i64 n0.pin.left, .int .i64 n0.said.client, .int .i64 n0.said.req, .int .i64 n0.said.e, .int .i64 n0.said.pin], SlC NEMember v1 n0.conf.members, OwC Ni64 3 v2 n0.legit, SlC NEOp v3 n0.entry.batch.ops]) ∧ F_note_read_k2 n0 r_s_2 r_at__2 r_e_2 r_made_2 n_at_ = some rr) ?_ ?_
  ·rintro a w3 ⟨r_s_2, r_at__2, r_e_2, r_made_2, n_at_, Z, ⟨I3, H⟩, hF⟩
   unfold F_note_read_k2 at hF
   try dsimp only at hF
   refine wp_seq ?_
   obtain ⟨n0_3, hx2, hF⟩ := bnd_in hF
   refine f_region Z ?_; clear Z; intro Z
   refine s_runk tN1 Z 2 rfl rfl ?_; clear Z a; intro a Z
   refine h_call Z H (js := [(0, false)]) rfl (caps := #[]) fn_19_YNote1 rfl rfl rfl rfl rfl (by decide) rfl rfl (fun D1 hS => have hq := c_wire_Reader_Num hx2 hS; hq) ?_; clear Z a; intro vv a w4 D2 hr hF2 Z
   obtain ⟨rfl, I4, K⟩ := hr
   have H : Hf I D w I4 w4 [BxC b_r0 98 (cEwire_Reader n0_3.2), BxC b_n0 39 [.int .i64 n0.k, .int .i64 n0.n, .int .u64 n_at_, .int .i64 n0.conf.epoch, v1, .int .u64 n0.conf.floor, v2, .int .i64 n0.entry.batch.client, .int .i64 n0.entry.batch.req, v3, .int .u64 n0.entry.ts, .int .i64 n0.pin.id, .int .u64 n0.pin.at_, .int .i64 n0.pin.left, .int .i64 n0.said.client, .int .i64 n0.said.req, .int .i64 n0.said.e, .int .i64 n0.said.pin], SlC NEMember v1 n0.conf.members, OwC Ni64 3 v2 n0.legit, SlC NEOp v3 n0.entry.batch.ops] := hF2 K
   clear hF2 K
   refine s_runk tN1 Z 2 rfl rfl ?_; clear Z a; intro a Z
   refine h_store tN1 Z H 1 rfl rfl rfl rfl rfl rfl rfl rfl rfl (one_cons rfl one_nil) (Nat.le_of_ble_eq_true rfl) rfl ?_; clear H; intro w5 H
   dsimp only [List.eraseIdx] at H
   refine s_end Z [0, 1, 4] rfl ?_; clear Z; intro Z
   refine p_then ?_
   refine wp_exit ?_
   refine f_exit_out (by decide) ?_
   refine p_then_x ?_
   refine f_exit_out (by decide) ?_
   refine p_then_x ?_
   refine f_exit_here ?_
   refine p_then ?_
   replace H : Hf I D w I4 w5 [OENote b_n0 ({ n0 with n := n0_3.1, at_ := n_at_ } : ENote), BxC b_r0 98 (cEwire_Reader n0_3.2), SlC NEMember v1 n0.conf.members, SlC NEOp v3 n0.entry.batch.ops] := H.shutX (v1, v2, v3) [(0, false), (1, true), (2, false), (2, true)] rfl
   exact ⟨n0_3.2.s, n0_3.2.at_, n0_3.2.e, n0_3.2.made, ({ n0 with n := n0_3.1, at_ := n_at_ } : ENote), Z.sub (ts := [0, 4]) rfl, ⟨I4, (H.sub [(1, false), (0, false)] rfl).eq rfl⟩, hF⟩
  ·skip
   refine wp_block ?_
   refine wp_seq ?_
   refine wp_block ?_
   refine wp_seq ?_
   refine wp_block ?_
   refine wp_seq ?_
   refine wp_block ?_
   refine wp_seq ?_
   refine wp_block ?_
   refine wp_seq ?_
   refine wp_seq ?_
   refine wp_seq (f_region Z ?_); clear Z; intro Z
   refine s_runk tN1 Z 2 rfl rfl ?_; clear Z a; intro a Z
   refine s_end Z [0, 1, 4, 9, 10] rfl ?_; clear Z; intro Z
   refine p_then ?_
   refine f_cond Z rfl (fun hc1 => ?_) (fun hc1 => ?_)
   ·replace hF := ite_t hc1 hF
    refine wp_exit ?_
    refine p_then_x ?_
    refine p_then_x ?_
    refine f_exit_here ?_
    refine p_then (wp_seq ?_)
    refine wp_seq ?_
    refine wp_seq ?_
    obtain ⟨o, hx3, hF⟩ := bnd_in hF
    refine f_region Z ?_; clear Z; intro Z
    refine s_runk tN1 Z 4 rfl rfl ?_; clear Z a; intro a Z
    replace H : Hf I D w I w [OENote b_n0 n0, SlC NEMember v1 n0.conf.members, SlC NEOp v3 n0.entry.batch.ops, BxC b_r0 98 (cEwire_Reader r0)] := H.shutX (v1, v2, v3) [(0, false), (0, true), (1, false), (1, true)] rfl
    refine h_call Z H (js := [(3, false), (0, false)]) rfl (caps := #[]) fn_61_YNote1 rfl rfl rfl rfl rfl (by decide) rfl rfl (fun D1 hS => have hq := c_note_inner_api_Conf__conf_Of hx3 hS; hq) ?_; clear Z a; intro vv a w6 D2 hr hF2 Z
    obtain ⟨rfl, I5, K⟩ := hr
    have H : Hf I D w I5 w6 [BxC b_r0 98 (cEwire_Reader o.2.1), OENote b_n0 o.2.2, SlC NEMember v1 n0.conf.members, SlC NEOp v3 n0.entry.batch.ops] := hF2 K
    clear hF2 K
    refine s_runk tN1 Z 1 rfl rfl ?_; clear Z a; intro a Z
    refine s_end Z [0, 1, 4, 5] rfl ?_; clear Z; intro Z
    refine p_then (wp_seq (f_region Z ?_)); clear Z; intro Z
    refine s_runk tN1 Z 2 rfl rfl ?_; clear Z a; intro a Z
    refine s_end Z [0, 1, 4, 5, 31] rfl ?_; clear Z; intro Z
    refine p_then ?_
    refine f_cond Z rfl (fun hc2 => ?_) (fun hc2 => ?_)
    ·replace hF := ite_t hc2 hF
     refine wp_seq (f_region Z ?_); clear Z; intro Z
     refine s_runk tN1 Z 2 rfl rfl ?_; clear Z a; intro a Z
     refine s_end Z [0, 1, 4] rfl ?_; clear Z; intro Z
     refine p_then (wp_ret ?_)
     refine p_then_r ?_
     refine p_then_r ?_
     refine p_blk_r ?_
     refine p_then_r ?_
     refine p_blk_r ?_
     refine p_then_r ?_
     refine p_blk_r ?_
     refine p_then_r ?_
     refine p_blk_r ?_
     refine p_then_r ?_
     refine p_blk_r ?_
     refine p_then_r ?_
     refine p_blk_r ?_
     refine p_then_r ?_
     refine p_blk_r ?_
     refine p_then_r ?_
     obtain rfl := some_in hF
     exact f_ret Z (run_results1 rfl Z rfl) ⟨rfl, I5, (H.sub [(0, false), (0, false)] rfl).eq rfl⟩
    ·replace hF := ite_f hc2 hF
     refine wp_skip ?_
     refine p_then (wp_seq ?_)
     obtain ⟨n0_4, hx4, hF⟩ := bnd_in hF
     refine f_region Z ?_; clear Z; intro Z
     refine s_runk tN1 Z 1 rfl rfl ?_; clear Z a; intro a Z
     refine h_call Z H (js := [(0, false)]) rfl (caps := #[]) fn_19_YNote1 rfl rfl rfl rfl rfl (by decide) rfl rfl (fun D1 hS => have hq := c_wire_Reader_Num hx4 hS; hq) ?_; clear Z a; intro vv a w7 D2 hr hF2 Z
     obtain ⟨rfl, I6, K⟩ := hr
     have H : Hf I D w I6 w7 [BxC b_r0 98 (cEwire_Reader n0_4.2), OENote b_n0 o.2.2, SlC NEMember v1 n0.conf.members, SlC NEOp v3 n0.entry.batch.ops] := hF2 K
     clear hF2 K
     refine s_runk tN1 Z 1 rfl rfl ?_; clear Z a; intro a Z
     refine s_end Z [0, 1, 4, 34, 35] rfl ?_; clear Z; intro Z
     refine p_then (wp_block ?_)
     refine f_iter hF (fun sg a' w' => match sg with | (x, r_s_3, r_at__3, r_e_3, r_made_3, n0_5) => Sl 123 [(0, .pointer (some ⟨b_r0, 0, none⟩)), (1, .pointer (some ⟨b_n0, 0, none⟩)), (4, .int .i64 0), (34, .int .i64 n0_4.1), (35, .int .i64 x)] a' ∧ ∃ I2, Hf I D w I2 w' [BxC b_r0 98 [.string r_s_3, .int .i64 r_at__3, .int .i64 r_e_3, .bool r_made_3], OENote b_n0 n0_5]) ⟨Z.sub (ts := [0, 1, 4, 34, 35]) rfl, ⟨I6, (H.sub [(0, false), (0, false)] rfl).eq rfl⟩⟩ ?_
     clear Z H hF a
     rintro rc ⟨x, r_s_3, r_at__3, r_e_3, r_made_3, n0_5⟩ a w8 ⟨Z, I7, H⟩ hF
     unfold F_note_read_l3 at hF
     try dsimp only at hF
     refine wp_seq (f_region Z ?_); clear Z; intro Z
     refine s_runk tN1 Z 1 rfl rfl ?_; clear Z a; intro a Z
     refine s_end Z [0, 1, 4, 34, 35, 36] rfl ?_; clear Z; intro Z
     refine p_then (wp_seq ?_)
     refine f_cond Z rfl (fun hc3 => ?_) (fun hc3 => ?_)
     ·replace hF := ite_t hc3 hF
      refine wp_skip ?_
      refine p_then (wp_seq ?_)
      refine wp_block ?_
      obtain ⟨⟨v4, v5, v6⟩, H⟩ := H.openX 1 rfl
      replace H : Hf I D w I7 w8 [BxC b_n0 39 (cENote n0_5 v4 v5 v6), SlC NEMember v4 n0_5.conf.members, OwC Ni64 3 v5 n0_5.legit, SlC NEOp v6 n0_5.entry.batch.ops, BxC b_r0 98 [.string r_s_3, .int .i64 r_at__3, .int .i64 r_e_3, .bool r_made_3]] := H
      obtain ⟨n0_6, hx5, hF⟩ := bnd_in hF
      obtain ⟨hg1, hF⟩ := chk_in hF
      refine f_regionL Z (by kernel_rfl) (by kernel_rfl) (by decide) (by decide) [6, 7, 8, 11] [(0, 0, 3), (0, 0, 2), (2, 0, 2), (6, 0, 2), (14, 0, 2), (0, 0, 0), (32, 0, 0), (96, 1, 1), (254, 2, 2), (511, 3, 3), (1023, 3, 3), (2047, 3, 3)] (by kernel_rfl) (fun jj vv => match jj with | 0 => vv = .pointer (some ⟨b_n0, 0, none⟩) | 1 => vv = .pointer (some ⟨b_n0, 0, none⟩) | 2 => vv = .pointer (some ⟨b_n0, 0, none⟩) | 3 => vv = .pointer (some ⟨b_n0, 6, none⟩) | 4 => vv = v5 | 5 => vv = .pointer (some ⟨b_r0, 0, none⟩) | 6 => vv = .int .i64 n0_6.1 | 7 => vv = .slice (some ⟨blkOf vv, 0, none⟩) 1 1 | 8 => True | 9 => vv = .pointer (some ⟨b_n0, 0, none⟩) | 10 => vv = .pointer (some ⟨b_n0, 6, none⟩) | 11 => True | _ => True) (fun ss vals1 xw => match ss with | 0 => Gx I D w I7 w8 xw [BxC b_n0 39 (cENote n0_5 v4 v5 v6), SlC NEMember v4 n0_5.conf.members, OwC Ni64 3 v5 n0_5.legit, SlC NEOp v6 n0_5.entry.batch.ops, BxC b_r0 98 [.string r_s_3, .int .i64 r_at__3, .int .i64 r_e_3, .bool r_made_3]] | 1 => Gx I D w I7 w8 xw [BxC b_r0 98 (cEwire_Reader n0_6.2), BxC b_n0 39 (cENote n0_5 v4 v5 v6), SlC NEMember v4 n0_5.conf.members, OwC Ni64 3 v5 n0_5.legit, SlC NEOp v6 n0_5.entry.batch.ops] | 2 => Gx I D w I7 w8 xw [BxC (blkOf (vals1 7)) 3 [.int .i64 n0_6.1], BxC b_r0 98 (cEwire_Reader n0_6.2), BxC b_n0 39 (cENote n0_5 v4 v5 v6), SlC NEMember v4 n0_5.conf.members, OwC Ni64 3 v5 n0_5.legit, SlC NEOp v6 n0_5.entry.batch.ops] | 3 => Gx I D w I7 w8 xw [OwC Ni64 3 (vals1 8) (n0_5.legit ++ [n0_6.1]), BxC b_r0 98 (cEwire_Reader n0_6.2), BxC b_n0 39 (cENote n0_5 v4 v5 v6), SlC NEMember v4 n0_5.conf.members, SlC NEOp v6 n0_5.entry.batch.ops] | _ => Gx I D w I7 w8 xw [BxC b_n0 39 [.int .i64 n0_5.k, .int .i64 n0_5.n, .int .u64 n0_5.at_, .int .i64 n0_5.conf.epoch, v4, .int .u64 n0_5.conf.floor, (vals1 8), .int .i64 n0_5.entry.batch.client, .int .i64 n0_5.entry.batch.req, v6, .int .u64 n0_5.entry.ts, .int .i64 n0_5.pin.id, .int .u64 n0_5.pin.at_, .int .i64 n0_5.pin.left, .int .i64 n0_5.said.client, .int .i64 n0_5.said.req, .int .i64 n0_5.said.e, .int .i64 n0_5.said.pin], OwC Ni64 3 (vals1 8) (n0_5.legit ++ [n0_6.1]), BxC b_r0 98 (cEwire_Reader n0_6.2), SlC NEMember v4 n0_5.conf.members, SlC NEOp v6 n0_5.entry.batch.ops]) (fun _ => Gx.start H) ?_ ?_
      ·intro fr hfr hfe
       refine .cons (fun ss hlo hhi vals1 xw hG hV => ?_) ?_
       ·obtain rfl | rfl | rfl | rfl : ss = 0 ∨ ss = 1 ∨ ss = 2 ∨ ss = 3 := st3 hlo hhi
        all_goals
        ·rw [← hfe]
         have hS := (hfr vals1).sub (ts := [1]) (S' := [(1, .pointer (some ⟨b_n0, 0, none⟩))]) rfl
         exact L_val hS rfl (Ob_c tN1 rfl) ⟨rfl, hG⟩
       refine .cons (fun ss hlo hhi vals1 xw hG hV => ?_) ?_
       ·obtain rfl | rfl | rfl : ss = 0 ∨ ss = 1 ∨ ss = 2 := st2 hlo hhi
        all_goals
        ·rw [← hfe]
         have hS := (hfr vals1).sub (ts := [1]) (S' := [(1, .pointer (some ⟨b_n0, 0, none⟩))]) rfl
         exact L_val hS rfl (Ob_c tN1 rfl) ⟨rfl, hG⟩
       refine .cons (fun ss hlo hhi vals1 xw hG hV => ?_) ?_
       ·obtain rfl | rfl | rfl : ss = 0 ∨ ss = 1 ∨ ss = 2 := st2 hlo hhi
        all_goals
        ·rw [← hfe]
         have hS := (hfr vals1).sub (ts := [38]) (S' := [(38, vals1 1)]) rfl
         replace hS := hS.conv (t := 38) rfl (show (vals1 1) = .pointer (some ⟨b_n0, 0, none⟩) from hV 1 (by decide))
         exact L_val hS rfl (Ob_c tN1 rfl) ⟨rfl, hG⟩
       refine .cons (fun ss hlo hhi vals1 xw hG hV => ?_) ?_
       ·obtain rfl | rfl | rfl : ss = 0 ∨ ss = 1 ∨ ss = 2 := st2 hlo hhi
        all_goals
        ·rw [← hfe]
         have hS := (hfr vals1).sub (ts := [39]) (S' := [(39, vals1 2)]) rfl
         replace hS := hS.conv (t := 39) rfl (show (vals1 2) = .pointer (some ⟨b_n0, 0, none⟩) from hV 2 (by decide))
         exact L_val hS rfl (Ob_c tN1 rfl) ⟨rfl, hG⟩
       refine .cons (fun ss hlo hhi vals1 xw hG hV => ?_) ?_
       ·obtain rfl | rfl | rfl : ss = 0 ∨ ss = 1 ∨ ss = 2 := st2 hlo hhi
        ·rw [← hfe]
         have hS := (hfr vals1).sub (ts := [40]) (S' := [(40, vals1 3)]) rfl
         replace hS := hS.conv (t := 40) rfl (show (vals1 3) = .pointer (some ⟨b_n0, 6, none⟩) from hV 3 (by decide))
         obtain ⟨I2, hI2, H⟩ := Gx.ex hG
         exact L_val hS rfl (Ob_load tN1 rfl rfl rfl ((H.bx 0 rfl).cell 6 rfl)) ⟨rfl, hG⟩
        ·rw [← hfe]
         have hS := (hfr vals1).sub (ts := [40]) (S' := [(40, vals1 3)]) rfl
         replace hS := hS.conv (t := 40) rfl (show (vals1 3) = .pointer (some ⟨b_n0, 6, none⟩) from hV 3 (by decide))
         obtain ⟨I2, hI2, H⟩ := Gx.ex hG
         exact L_val hS rfl (Ob_load tN1 rfl rfl rfl ((H.bx 1 rfl).cell 6 rfl)) ⟨rfl, hG⟩
        ·rw [← hfe]
         have hS := (hfr vals1).sub (ts := [40]) (S' := [(40, vals1 3)]) rfl
         replace hS := hS.conv (t := 40) rfl (show (vals1 3) = .pointer (some ⟨b_n0, 6, none⟩) from hV 3 (by decide))
         obtain ⟨I2, hI2, H⟩ := Gx.ex hG
         exact L_val hS rfl (Ob_load tN1 rfl rfl rfl ((H.bx 2 rfl).cell 6 rfl)) ⟨rfl, hG⟩
       refine .cons (fun ss hlo hhi vals1 xw hG hV => ?_) ?_
       ·obtain rfl : ss = 0 := Nat.le_antisymm hhi hlo
        rw [← hfe]
        have hS := (hfr vals1).sub (ts := [0]) (S' := [(0, .pointer (some ⟨b_r0, 0, none⟩))]) rfl
        exact L_val hS rfl (Ob_c tN1 rfl) ⟨rfl, hG⟩
       refine .cons (fun ss hlo hhi vals1 xw hG hV => ?_) ?_
       ·obtain rfl : ss = 0 := Nat.le_antisymm hhi hlo
        rw [← hfe]
        have hS := (hfr vals1).sub (ts := [42]) (S' := [(42, vals1 5)]) rfl
        replace hS := hS.conv (t := 42) rfl (show (vals1 5) = .pointer (some ⟨b_r0, 0, none⟩) from hV 5 (by decide))
        obtain ⟨I2, hI2, H⟩ := Gx.ex hG
        refine L_hcall H (js := [(4, false)]) rfl (caps := #[]) hS fn_19_YNote1 rfl rfl rfl rfl rfl (fun D1 hS => have hq := c_wire_Reader_Num hx5 hS; hq) fun _ yw D1 hr hF2 => ?_
        obtain ⟨rfl, I3, K⟩ := hr
        obtain ⟨hK, H2⟩ := hF2 K
        exact ⟨rfl, Gx.go hG hI2 hK K.imm H2⟩
       refine .cons (fun ss hlo hhi vals1 xw hG hV => ?_) ?_
       ·obtain rfl : ss = 1 := Nat.le_antisymm hhi hlo
        rw [← hfe]
        have hS := (hfr vals1).sub (ts := [43]) (S' := [(43, vals1 6)]) rfl
        replace hS := hS.conv (t := 43) rfl (show (vals1 6) = .int .i64 n0_6.1 from hV 6 (by decide))
        obtain ⟨I2, hI2, H⟩ := Gx.ex hG
        exact L_bslice H (vs := [(0, .int .i64 n0_6.1)]) (cl := [.int .i64 n0_6.1]) (e := 3) hS rfl rfl rfl (fun w => run_bslice (z := .int .i64 0) (m := 1) Try.underlying27 (by kernel_rfl) rfl rfl (by decide) (by simp [Instr.fill, Value.cells]) w) fun yw b hK H => ⟨rfl, Gx.go hG hI2 hK (fun _ h => h) H⟩
       refine .cons (fun ss hlo hhi vals1 xw hG hV => ?_) ?_
       ·obtain rfl : ss = 2 := Nat.le_antisymm hhi hlo
        rw [← hfe]
        have hS := (hfr vals1).sub (ts := [41, 44]) (S' := [(41, vals1 4), (44, vals1 7)]) rfl
        replace hS := hS.conv (t := 41) rfl (show (vals1 4) = v5 from hV 4 (by decide))
        replace hS := hS.conv (t := 44) rfl (show (vals1 7) = .slice (some ⟨blkOf (vals1 7), 0, none⟩) 1 1 from hV 7 (by decide))
        obtain ⟨I2, hI2, H⟩ := Gx.ex hG
        exact L_appO H 4 E_27_YNote1 [n0_6.1] rfl rfl hS rfl rfl rfl rfl (slRep2.box1 (H.bx 0 rfl) ⟨rfl, trivial⟩) hg1 (by decide) fun v yw hK H => ⟨trivial, Gx.go hG hI2 hK (fun _ h => h) (H.sub [(0, false), (1, false), (1, false), (1, true), (2, true)] rfl)⟩
       refine .cons (fun ss hlo hhi vals1 xw hG hV => ?_) ?_
       ·obtain rfl : ss = 3 := Nat.le_antisymm hhi hlo
        rw [← hfe]
        have hS := (hfr vals1).sub (ts := [37]) (S' := [(37, vals1 0)]) rfl
        replace hS := hS.conv (t := 37) rfl (show (vals1 0) = .pointer (some ⟨b_n0, 0, none⟩) from hV 0 (by decide))
        exact L_val hS rfl (Ob_c tN1 rfl) ⟨rfl, hG⟩
       refine .cons (fun ss hlo hhi vals1 xw hG hV => ?_) ?_
       ·obtain rfl : ss = 3 := Nat.le_antisymm hhi hlo
        rw [← hfe]
        have hS := (hfr vals1).sub (ts := [46]) (S' := [(46, vals1 9)]) rfl
        replace hS := hS.conv (t := 46) rfl (show (vals1 9) = .pointer (some ⟨b_n0, 0, none⟩) from hV 9 (by decide))
        exact L_val hS rfl (Ob_c tN1 rfl) ⟨rfl, hG⟩
       refine .cons (fun ss hlo hhi vals1 xw hG hV => ?_) ?_
       ·obtain rfl : ss = 3 := Nat.le_antisymm hhi hlo
        rw [← hfe]
        have hS := (hfr vals1).sub (ts := [47, 45]) (S' := [(47, vals1 10), (45, vals1 8)]) rfl
        replace hS := hS.conv (t := 47) rfl (show (vals1 10) = .pointer (some ⟨b_n0, 6, none⟩) from hV 10 (by decide))
        obtain ⟨I2, hI2, H⟩ := Gx.ex hG
        exact L_store tN1 H 2 rfl hS rfl rfl rfl rfl rfl (slS.cells (H.owshape 0 rfl)) rfl rfl (one_cons (slS.one (H.owshape 0 rfl)) one_nil) (Nat.le_of_ble_eq_true rfl) rfl fun yw hK H => ⟨trivial, Gx.go hG hI2 hK (fun _ h => h) H⟩
       exact .nil
      ·intro vals1 a w9 Z hG hV
       replace Z := Z.sub (ts := [0, 1, 4, 34, 35, 36, 37, 38, 39, 40, 41, 42, 43, 44, 45, 46, 47]) (S' := [(0, .pointer (some ⟨b_r0, 0, none⟩)), (1, .pointer (some ⟨b_n0, 0, none⟩)), (4, .int .i64 0), (34, .int .i64 n0_4.1), (35, .int .i64 x), (36, .bool (decide (x < n0_4.1))), (37, vals1 0), (38, vals1 1), (39, vals1 2), (40, vals1 3), (41, vals1 4), (42, vals1 5), (43, vals1 6), (44, vals1 7), (45, vals1 8), (46, vals1 9), (47, vals1 10)]) rfl
       replace Z := Z.conv (t := 37) rfl (show (vals1 0) = .pointer (some ⟨b_n0, 0, none⟩) from hV 0 (by decide))
       replace Z := Z.conv (t := 38) rfl (show (vals1 1) = .pointer (some ⟨b_n0, 0, none⟩) from hV 1 (by decide))
       replace Z := Z.conv (t := 39) rfl (show (vals1 2) = .pointer (some ⟨b_n0, 0, none⟩) from hV 2 (by decide))
       replace Z := Z.conv (t := 40) rfl (show (vals1 3) = .pointer (some ⟨b_n0, 6, none⟩) from hV 3 (by decide))
       replace Z := Z.conv (t := 41) rfl (show (vals1 4) = v5 from hV 4 (by decide))
       replace Z := Z.conv (t := 42) rfl (show (vals1 5) = .pointer (some ⟨b_r0, 0, none⟩) from hV 5 (by decide))
       replace Z := Z.conv (t := 43) rfl (show (vals1 6) = .int .i64 n0_6.1 from hV 6 (by decide))
       replace Z := Z.conv (t := 44) rfl (show (vals1 7) = .slice (some ⟨blkOf (vals1 7), 0, none⟩) 1 1 from hV 7 (by decide))
       replace Z := Z.conv (t := 46) rfl (show (vals1 9) = .pointer (some ⟨b_n0, 0, none⟩) from hV 9 (by decide))
       replace Z := Z.conv (t := 47) rfl (show (vals1 10) = .pointer (some ⟨b_n0, 6, none⟩) from hV 10 (by decide))
       obtain ⟨I8, _, H⟩ := Gx.ex hG
       clear hG hV
       replace Z := Z.sub (ts := [0, 1, 4, 34, 35, 36, 37, 38, 39, 40, 41, 42, 43, 44, 45, 46, 47]) rfl
       replace H : Hf I D w I8 w9 [BxC b_n0 39 [.int .i64 n0_5.k, .int .i64 n0_5.n, .int .u64 n0_5.at_, .int .i64 n0_5.conf.epoch, v4, .int .u64 n0_5.conf.floor, (vals1 8), .int .i64 n0_5.entry.batch.client, .int .i64 n0_5.entry.batch.req, v6, .int .u64 n0_5.entry.ts, .int .i64 n0_5.pin.id, .int .u64 n0_5.pin.at_, .int .i64 n0_5.pin.left, .int .i64 n0_5.said.client, .int .i64 n0_5.said.req, .int .i64 n0_5.said.e, .int .i64 n0_5.said.pin], OwC Ni64 3 (vals1 8) (n0_5.legit ++ [n0_6.1]), BxC b_r0 98 (cEwire_Reader n0_6.2), SlC NEMember v4 n0_5.conf.members, SlC NEOp v6 n0_5.entry.batch.ops] := H
       refine p_blk ?_
       refine p_then ?_
       obtain ⟨hg2, hF⟩ := chk_in hF
       refine f_region Z ?_; clear Z; intro Z
       refine s_ob Z (v := .int .i64 (x + 1)) rfl rfl (by decide) rfl (Ob_add rfl rfl rfl (wrI hg2)) ?_; clear Z a; intro a Z
       refine s_runk tN1 Z 1 rfl rfl ?_; clear Z a; intro a Z
       refine s_end Z [0, 1, 4, 34, 35, 36, 37, 38, 39, 40, 41, 42, 43, 44, 45, 46, 47, 48] rfl ?_; clear Z; intro Z
       refine p_then ?_
       replace H : Hf I D w I8 w9 [OENote b_n0 ({ n0_5 with legit := n0_5.legit ++ [n0_6.1] } : ENote), BxC b_r0 98 (cEwire_Reader n0_6.2), SlC NEMember v4 n0_5.conf.members, SlC NEOp v6 n0_5.entry.batch.ops] := H.shutX (v4, (vals1 8), v6) [(0, false), (2, true), (0, false), (2, true)] rfl
       exact ⟨(x + 1, n0_6.2.s, n0_6.2.at_, n0_6.2.e, n0_6.2.made, ({ n0_5 with legit := n0_5.legit ++ [n0_6.1] } : ENote)), ⟨Z.sub (ts := [0, 1, 4, 34, 35]) rfl, ⟨I8, (H.sub [(1, false), (0, false)] rfl).eq rfl⟩⟩, hF⟩
     ·replace hF := ite_f hc3 hF
      refine wp_exit ?_
      refine p_then_x ?_
      refine p_then_x ?_
      refine f_exit_here ?_
      refine p_then ?_
      refine wp_exit ?_
      refine f_exit_out (by decide) ?_
      refine p_then_x ?_
      refine f_exit_out (by decide) ?_
      refine p_then_x ?_
      refine f_exit_out (by decide) ?_
      refine p_then_x ?_
      refine f_exit_out (by decide) ?_
      refine p_then_x ?_
      refine f_exit_out (by decide) ?_
      refine p_then_x ?_
      refine f_exit_out (by decide) ?_
      refine p_then_x ?_
      refine f_exit_here ?_
      refine p_then ?_
      exact ⟨r_s_3, r_at__3, r_e_3, r_made_3, n0_5, Z.sub (ts := [0, 4]) rfl, ⟨I7, (H.sub [(0, false), (0, false)] rfl).eq rfl⟩, hF⟩
   ·replace hF := ite_f hc1 hF
    refine wp_skip ?_
    refine p_then (wp_seq ?_)
    refine wp_seq (f_region Z ?_); clear Z; intro Z
    refine s_runk tN1 Z 2 rfl rfl ?_; clear Z a; intro a Z
    refine s_end Z [0, 1, 4, 9, 12] rfl ?_; clear Z; intro Z
    refine p_then ?_
    refine f_cond Z rfl (fun hc4 => ?_) (fun hc4 => ?_)
    ·replace hF := ite_t hc4 hF
     refine wp_exit ?_
     refine p_then_x ?_
     refine p_then_x ?_
     refine f_exit_out (by decide) ?_
     refine p_then_x ?_
     refine f_exit_here ?_
     refine p_then (wp_seq ?_)
     refine wp_seq ?_
     obtain ⟨n0_7, hx6, hF⟩ := bnd_in hF
     refine f_region Z ?_; clear Z; intro Z
     refine s_runk tN1 Z 2 rfl rfl ?_; clear Z a; intro a Z
     refine h_call Z H (js := [(4, false)]) rfl (caps := #[]) fn_19_YNote1 rfl rfl rfl rfl rfl (by decide) rfl rfl (fun D1 hS => have hq := c_wire_Reader_Num hx6 hS; hq) ?_; clear Z a; intro vv a w10 D2 hr hF2 Z
     obtain ⟨rfl, I9, K⟩ := hr
     have H : Hf I D w I9 w10 [BxC b_r0 98 (cEwire_Reader n0_7.2), BxC b_n0 39 (cENote n0 v1 v2 v3), SlC NEMember v1 n0.conf.members, OwC Ni64 3 v2 n0.legit, SlC NEOp v3 n0.entry.batch.ops] := hF2 K
     clear hF2 K
     refine s_runk tN1 Z 2 rfl rfl ?_; clear Z a; intro a Z
     refine h_store tN1 Z H 1 rfl rfl rfl rfl rfl rfl rfl rfl rfl (one_cons rfl one_nil) (Nat.le_of_ble_eq_true rfl) rfl ?_; clear H; intro w11 H
     dsimp only [List.eraseIdx] at H
     refine s_end Z [0, 1, 4] rfl ?_; clear Z; intro Z
     refine p_then (wp_seq ?_)
     obtain ⟨o_2, hx7, hF⟩ := bnd_in hF
     refine f_region Z ?_; clear Z; intro Z
     refine s_runk tN1 Z 4 rfl rfl ?_; clear Z a; intro a Z
     replace H : Hf I D w I9 w11 [OENote b_n0 ({ n0 with n := n0_7.1 } : ENote), BxC b_r0 98 (cEwire_Reader n0_7.2), SlC NEMember v1 n0.conf.members, SlC NEOp v3 n0.entry.batch.ops] := H.shutX (v1, v2, v3) [(0, false), (1, true), (2, false), (2, true)] rfl
     refine h_call Z H (js := [(1, false), (0, false)]) rfl (caps := #[]) fn_63_YNote1 rfl rfl rfl rfl rfl (by decide) rfl rfl (fun D1 hS => have hq := c_note_inner_api_Entry__item_Of hx7 hS; hq) ?_; clear Z a; intro vv a w12 D2 hr hF2 Z
     obtain ⟨rfl, I10, K⟩ := hr
     have H : Hf I D w I10 w12 [BxC b_r0 98 (cEwire_Reader o_2.2.1), OENote b_n0 o_2.2.2, SlC NEMember v1 n0.conf.members, SlC NEOp v3 n0.entry.batch.ops] := hF2 K
     clear hF2 K
     refine s_runk tN1 Z 1 rfl rfl ?_; clear Z a; intro a Z
     refine s_end Z [0, 1, 4] rfl ?_; clear Z; intro Z
     refine p_then (wp_ret ?_)
     refine p_then_r ?_
     refine p_blk_r ?_
     refine p_then_r ?_
     refine p_blk_r ?_
     refine p_then_r ?_
     refine p_blk_r ?_
     refine p_then_r ?_
     refine p_blk_r ?_
     refine p_then_r ?_
     refine p_blk_r ?_
     refine p_then_r ?_
     refine p_blk_r ?_
     refine p_then_r ?_
     obtain rfl := some_in hF
     exact f_ret Z (run_results1 rfl Z rfl) ⟨rfl, I10, (H.sub [(0, false), (0, false)] rfl).eq rfl⟩
    ·replace hF := ite_f hc4 hF
     refine wp_skip ?_
     refine p_then (wp_seq ?_)
     refine wp_seq (f_region Z ?_); clear Z; intro Z
     refine s_runk tN1 Z 2 rfl rfl ?_; clear Z a; intro a Z
     refine s_end Z [0, 1, 4, 9, 14] rfl ?_; clear Z; intro Z
     refine p_then ?_
     refine f_cond Z rfl (fun hc5 => ?_) (fun hc5 => ?_)
     ·replace hF := ite_t hc5 hF
      refine wp_exit ?_
      refine p_then_x ?_
      refine p_then_x ?_
      refine f_exit_out (by decide) ?_
      refine p_then_x ?_
      refine f_exit_out (by decide) ?_
      refine p_then_x ?_
      refine f_exit_here ?_
      refine p_then (wp_seq ?_)
      refine wp_seq ?_
      obtain ⟨n0_8, hx8, hF⟩ := bnd_in hF
      refine f_region Z ?_; clear Z; intro Z
      refine s_runk tN1 Z 2 rfl rfl ?_; clear Z a; intro a Z
      refine h_call Z H (js := [(4, false)]) rfl (caps := #[]) fn_19_YNote1 rfl rfl rfl rfl rfl (by decide) rfl rfl (fun D1 hS => have hq := c_wire_Reader_Num hx8 hS; hq) ?_; clear Z a; intro vv a w13 D2 hr hF2 Z
      obtain ⟨rfl, I11, K⟩ := hr
      have H : Hf I D w I11 w13 [BxC b_r0 98 (cEwire_Reader n0_8.2), BxC b_n0 39 (cENote n0 v1 v2 v3), SlC NEMember v1 n0.conf.members, OwC Ni64 3 v2 n0.legit, SlC NEOp v3 n0.entry.batch.ops] := hF2 K
      clear hF2 K
      refine s_runk tN1 Z 2 rfl rfl ?_; clear Z a; intro a Z
      refine h_store tN1 Z H 1 rfl rfl rfl rfl rfl rfl rfl rfl rfl (one_cons rfl one_nil) (Nat.le_of_ble_eq_true rfl) rfl ?_; clear H; intro w14 H
      dsimp only [List.eraseIdx] at H
      refine s_end Z [0, 1, 4] rfl ?_; clear Z; intro Z
      refine p_then ?_
      obtain ⟨b, hx9, hF⟩ := bnd_in hF
      refine f_region Z ?_; clear Z; intro Z
      refine s_runk tN1 Z 2 rfl rfl ?_; clear Z a; intro a Z
      refine h_call Z H (js := [(1, false)]) rfl (caps := #[]) fn_65_YNote1 rfl rfl rfl rfl rfl (by decide) rfl rfl (fun D1 hS => have hq := c_wire_Reader_Big hx9 hS; hq) ?_; clear Z a; intro vv a w15 D2 hr hF2 Z
      obtain ⟨rfl, I12, K⟩ := hr
      have H : Hf I D w I12 w15 [BxC b_r0 98 (cEwire_Reader b.2), BxC b_n0 39 [.int .i64 n0.k, .int .i64 n0_8.1, .int .u64 n0.at_, .int .i64 n0.conf.epoch, v1, .int .u64 n0.conf.floor, v2, .int .i64 n0.entry.batch.client, .int .i64 n0.entry.batch.req, v3, .int .u64 n0.entry.ts, .int .i64 n0.pin.id, .int .u64 n0.pin.at_, .int .i64 n0.pin.left, .int .i64 n0.said.client, .int .i64 n0.said.req, .int .i64 n0.said.e, .int .i64 n0.said.pin], SlC NEMember v1 n0.conf.members, OwC Ni64 3 v2 n0.legit, SlC NEOp v3 n0.entry.batch.ops] := hF2 K
      clear hF2 K
      refine s_runk tN1 Z 2 rfl rfl ?_; clear Z a; intro a Z
      refine h_store tN1 Z H 1 rfl rfl rfl rfl rfl rfl rfl rfl rfl (one_cons rfl one_nil) (Nat.le_of_ble_eq_true rfl) rfl ?_; clear H; intro w16 H
      dsimp only [List.eraseIdx] at H
      refine s_end Z [0, 1, 4] rfl ?_; clear Z; intro Z
      refine p_then ?_
      refine wp_exit ?_
      refine f_exit_out (by decide) ?_
      refine p_then_x ?_
      refine f_exit_out (by decide) ?_
      refine p_then_x ?_
      refine f_exit_out (by decide) ?_
      refine p_then_x ?_
      refine f_exit_out (by decide) ?_
      refine p_then_x ?_
      refine f_exit_here ?_
      refine p_then ?_
      replace H : Hf I D w I12 w16 [OENote b_n0 ({ n0 with n := n0_8.1, at_ := b.1 } : ENote), BxC b_r0 98 (cEwire_Reader b.2), SlC NEMember v1 n0.conf.members, SlC NEOp v3 n0.entry.batch.ops] := H.shutX (v1, v2, v3) [(0, false), (1, true), (2, false), (2, true)] rfl
      exact ⟨b.2.s, b.2.at_, b.2.e, b.2.made, ({ n0 with n := n0_8.1, at_ := b.1 } : ENote), Z.sub (ts := [0, 4]) rfl, ⟨I12, (H.sub [(1, false), (0, false)] rfl).eq rfl⟩, hF⟩
     ·replace hF := ite_f hc5 hF
      refine wp_skip ?_
      refine p_then (wp_seq ?_)
      refine wp_seq (f_region Z ?_); clear Z; intro Z
      refine s_runk tN1 Z 2 rfl rfl ?_; clear Z a; intro a Z
      refine s_end Z [0, 1, 4, 9, 16] rfl ?_; clear Z; intro Z
      refine p_then ?_
      refine f_cond Z rfl (fun hc6 => ?_) (fun hc6 => ?_)
      ·replace hF := ite_t hc6 hF
       refine wp_exit ?_
       refine p_then_x ?_
       refine p_then_x ?_
       refine f_exit_out (by decide) ?_
       refine p_then_x ?_
       refine f_exit_out (by decide) ?_
       refine p_then_x ?_
       refine f_exit_out (by decide) ?_
       refine p_then_x ?_
       refine f_exit_here ?_
       refine p_then ?_
       obtain ⟨b_2, hx10, hF⟩ := bnd_in hF
       refine f_region Z ?_; clear Z; intro Z
       refine s_runk tN1 Z 2 rfl rfl ?_; clear Z a; intro a Z
       refine h_call Z H (js := [(4, false)]) rfl (caps := #[]) fn_65_YNote1 rfl rfl rfl rfl rfl (by decide) rfl rfl (fun D1 hS => have hq := c_wire_Reader_Big hx10 hS; hq) ?_; clear Z a; intro vv a w17 D2 hr hF2 Z
       obtain ⟨rfl, I13, K⟩ := hr
       have H : Hf I D w I13 w17 [BxC b_r0 98 (cEwire_Reader b_2.2), BxC b_n0 39 (cENote n0 v1 v2 v3), SlC NEMember v1 n0.conf.members, OwC Ni64 3 v2 n0.legit, SlC NEOp v3 n0.entry.batch.ops] := hF2 K
       clear hF2 K
       refine s_runk tN1 Z 2 rfl rfl ?_; clear Z a; intro a Z
       refine h_store tN1 Z H 1 rfl rfl rfl rfl rfl rfl rfl rfl rfl (one_cons rfl one_nil) (Nat.le_of_ble_eq_true rfl) rfl ?_; clear H; intro w18 H
       dsimp only [List.eraseIdx] at H
       refine s_end Z [0, 1, 4] rfl ?_; clear Z; intro Z
       refine p_blk ?_
       refine p_then ?_
       exact ⟨b_2.2.s, b_2.2.at_, b_2.2.e, b_2.2.made, b_2.1, Z.sub (ts := [0, 1, 4]) rfl, ⟨I13, (H.sub [(1, false), (0, false), (0, true), (1, false), (1, true)] rfl).eq rfl⟩, hF⟩
      ·replace hF := ite_f hc6 hF
       refine wp_skip ?_
       refine p_then (wp_seq ?_)
       refine f_cut (fun a' w' => ∃ (x_2 : Bool), Sl 123 [(0, .pointer (some ⟨b_r0, 0, none⟩)), (1, .pointer (some ⟨b_n0, 0, none⟩)), (4, .int .i64 0), (9, .int .i64 n0.k), (18, .bool x_2)] a' ∧ (∃ I2, Hf I D w I2 w' [BxC b_r0 98 (cEwire_Reader r0), BxC b_n0 39 (cENote n0 v1 v2 v3), SlC NEMember v1 n0.conf.members, OwC Ni64 3 v2 n0.legit, SlC NEOp v3 n0.entry.batch.ops]) ∧ F_note_read_k4 r0 n0 x_2 = some rr) ?_ ?_
       ·rintro a w19 ⟨x_2, Z, ⟨I14, H⟩, hF⟩
        unfold F_note_read_k4 at hF
        try dsimp only at hF
        refine f_cond Z rfl (fun hc7 => ?_) (fun hc7 => ?_)
        ·replace hF := ite_t hc7 hF
         refine wp_exit ?_
         refine p_then_x ?_
         refine p_then_x ?_
         refine f_exit_out (by decide) ?_
         refine p_then_x ?_
         refine f_exit_out (by decide) ?_
         refine p_then_x ?_
         refine f_exit_out (by decide) ?_
         refine p_then_x ?_
         refine f_exit_out (by decide) ?_
         refine p_then_x ?_
         refine f_exit_here ?_
         refine p_then ?_
         exact ⟨r0.s, r0.at_, r0.e, r0.made, n0.at_, Z.sub (ts := [0, 1, 4]) rfl, ⟨I14, (H.sub [(0, false), (0, false), (0, true), (1, false), (1, true)] rfl).eq rfl⟩, hF⟩
        ·replace hF := ite_f hc7 hF
         refine wp_skip ?_
         refine p_then (wp_seq ?_)
         refine wp_seq (f_region Z ?_); clear Z; intro Z
         refine s_runk tN1 Z 2 rfl rfl ?_; clear Z a; intro a Z
         refine s_end Z [0, 1, 4, 9, 21] rfl ?_; clear Z; intro Z
         refine p_then ?_
         refine f_cond Z rfl (fun hc8 => ?_) (fun hc8 => ?_)
         ·replace hF := ite_t hc8 hF
          refine wp_exit ?_
          refine p_then_x ?_
          refine p_then_x ?_
          refine f_exit_out (by decide) ?_
          refine p_then_x ?_
          refine f_exit_out (by decide) ?_
          refine p_then_x ?_
          refine f_exit_out (by decide) ?_
          refine p_then_x ?_
          refine f_exit_out (by decide) ?_
          refine p_then_x ?_
          refine f_exit_out (by decide) ?_
          refine p_then_x ?_
          refine f_exit_here ?_
          refine p_then (wp_seq ?_)
          refine wp_seq ?_
          obtain ⟨n0_9, hx11, hF⟩ := bnd_in hF
          refine f_region Z ?_; clear Z; intro Z
          refine s_runk tN1 Z 2 rfl rfl ?_; clear Z a; intro a Z
          refine h_call Z H (js := [(0, false)]) rfl (caps := #[]) fn_19_YNote1 rfl rfl rfl rfl rfl (by decide) rfl rfl (fun D1 hS => have hq := c_wire_Reader_Num hx11 hS; hq) ?_; clear Z a; intro vv a w20 D2 hr hF2 Z
          obtain ⟨rfl, I15, K⟩ := hr
          have H : Hf I D w I15 w20 [BxC b_r0 98 (cEwire_Reader n0_9.2), BxC b_n0 39 (cENote n0 v1 v2 v3), SlC NEMember v1 n0.conf.members, OwC Ni64 3 v2 n0.legit, SlC NEOp v3 n0.entry.batch.ops] := hF2 K
          clear hF2 K
          refine s_runk tN1 Z 3 rfl rfl ?_; clear Z a; intro a Z
          refine h_store tN1 Z H 1 rfl rfl rfl rfl rfl rfl rfl rfl rfl (one_cons rfl one_nil) (Nat.le_of_ble_eq_true rfl) rfl ?_; clear H; intro w21 H
          dsimp only [List.eraseIdx] at H
          refine s_end Z [0, 1, 4] rfl ?_; clear Z; intro Z
          refine p_then (wp_seq ?_)
          obtain ⟨b_3, hx12, hF⟩ := bnd_in hF
          refine f_region Z ?_; clear Z; intro Z
          refine s_runk tN1 Z 2 rfl rfl ?_; clear Z a; intro a Z
          refine h_call Z H (js := [(1, false)]) rfl (caps := #[]) fn_65_YNote1 rfl rfl rfl rfl rfl (by decide) rfl rfl (fun D1 hS => have hq := c_wire_Reader_Big hx12 hS; hq) ?_; clear Z a; intro vv a w22 D2 hr hF2 Z
          obtain ⟨rfl, I16, K⟩ := hr
          have H : Hf I D w I16 w22 [BxC b_r0 98 (cEwire_Reader b_3.2), BxC b_n0 39 [.int .i64 n0.k, .int .i64 n0.n, .int .u64 n0.at_, .int .i64 n0.conf.epoch, v1, .int .u64 n0.conf.floor, v2, .int .i64 n0.entry.batch.client, .int .i64 n0.entry.batch.req, v3, .int .u64 n0.entry.ts, .int .i64 n0_9.1, .int .u64 n0.pin.at_, .int .i64 n0.pin.left, .int .i64 n0.said.client, .int .i64 n0.said.req, .int .i64 n0.said.e, .int .i64 n0.said.pin], SlC NEMember v1 n0.conf.members, OwC Ni64 3 v2 n0.legit, SlC NEOp v3 n0.entry.batch.ops] := hF2 K
          clear hF2 K
          refine s_runk tN1 Z 3 rfl rfl ?_; clear Z a; intro a Z
          refine h_store tN1 Z H 1 rfl rfl rfl rfl rfl rfl rfl rfl rfl (one_cons rfl one_nil) (Nat.le_of_ble_eq_true rfl) rfl ?_; clear H; intro w23 H
          dsimp only [List.eraseIdx] at H
          refine s_end Z [0, 1, 4] rfl ?_; clear Z; intro Z
          refine p_then ?_
          obtain ⟨n0_10, hx13, hF⟩ := bnd_in hF
          refine f_region Z ?_; clear Z; intro Z
          refine s_runk tN1 Z 2 rfl rfl ?_; clear Z a; intro a Z
          refine h_call Z H (js := [(1, false)]) rfl (caps := #[]) fn_19_YNote1 rfl rfl rfl rfl rfl (by decide) rfl rfl (fun D1 hS => have hq := c_wire_Reader_Num hx13 hS; hq) ?_; clear Z a; intro vv a w24 D2 hr hF2 Z
          obtain ⟨rfl, I17, K⟩ := hr
          have H : Hf I D w I17 w24 [BxC b_r0 98 (cEwire_Reader n0_10.2), BxC b_n0 39 [.int .i64 n0.k, .int .i64 n0.n, .int .u64 n0.at_, .int .i64 n0.conf.epoch, v1, .int .u64 n0.conf.floor, v2, .int .i64 n0.entry.batch.client, .int .i64 n0.entry.batch.req, v3, .int .u64 n0.entry.ts, .int .i64 n0_9.1, .int .u64 b_3.1, .int .i64 n0.pin.left, .int .i64 n0.said.client, .int .i64 n0.said.req, .int .i64 n0.said.e, .int .i64 n0.said.pin], SlC NEMember v1 n0.conf.members, OwC Ni64 3 v2 n0.legit, SlC NEOp v3 n0.entry.batch.ops] := hF2 K
          clear hF2 K
          refine s_runk tN1 Z 3 rfl rfl ?_; clear Z a; intro a Z
          refine h_store tN1 Z H 1 rfl rfl rfl rfl rfl rfl rfl rfl rfl (one_cons rfl one_nil) (Nat.le_of_ble_eq_true rfl) rfl ?_; clear H; intro w25 H
          dsimp only [List.eraseIdx] at H
          refine s_end Z [0, 1, 4] rfl ?_; clear Z; intro Z
          refine p_then ?_
          refine wp_exit ?_
          refine f_exit_out (by decide) ?_
          refine p_then_x ?_
          refine f_exit_here ?_
          refine p_then ?_
          replace H : Hf I D w I17 w25 [OENote b_n0 ({ n0 with pin := ({ id := n0_9.1, at_ := b_3.1, left := n0_10.1 } : EPin) } : ENote), BxC b_r0 98 (cEwire_Reader n0_10.2), SlC NEMember v1 n0.conf.members, SlC NEOp v3 n0.entry.batch.ops] := H.shutX (v1, v2, v3) [(0, false), (1, true), (2, false), (2, true)] rfl
          exact ⟨n0_10.2.s, n0_10.2.at_, n0_10.2.e, n0_10.2.made, ({ n0 with pin := ({ id := n0_9.1, at_ := b_3.1, left := n0_10.1 } : EPin) } : ENote), Z.sub (ts := [0, 4]) rfl, ⟨I17, (H.sub [(1, false), (0, false)] rfl).eq rfl⟩, hF⟩
         ·replace hF := ite_f hc8 hF
          refine wp_skip ?_
          refine p_then (wp_seq (f_region Z ?_)); clear Z; intro Z
          refine s_runk tN1 Z 2 rfl rfl ?_; clear Z a; intro a Z
          refine s_end Z [0, 1, 4, 23] rfl ?_; clear Z; intro Z
          refine p_then ?_
          refine f_cond Z rfl (fun hc9 => ?_) (fun hc9 => ?_)
          ·replace hF := ite_t hc9 hF
           refine wp_exit ?_
           refine p_then_x ?_
           refine f_exit_out (by decide) ?_
           refine p_then_x ?_
           refine f_exit_out (by decide) ?_
           refine p_then_x ?_
           refine f_exit_out (by decide) ?_
           refine p_then_x ?_
           refine f_exit_out (by decide) ?_
           refine p_then_x ?_
           refine f_exit_out (by decide) ?_
           refine p_then_x ?_
           refine f_exit_out (by decide) ?_
           refine p_then_x ?_
           refine f_exit_here ?_
           refine p_then (wp_seq ?_)
           refine wp_seq ?_
           obtain ⟨n0_11, hx14, hF⟩ := bnd_in hF
           refine f_region Z ?_; clear Z; intro Z
           refine s_runk tN1 Z 2 rfl rfl ?_; clear Z a; intro a Z
           refine h_call Z H (js := [(0, false)]) rfl (caps := #[]) fn_19_YNote1 rfl rfl rfl rfl rfl (by decide) rfl rfl (fun D1 hS => have hq := c_wire_Reader_Num hx14 hS; hq) ?_; clear Z a; intro vv a w26 D2 hr hF2 Z
           obtain ⟨rfl, I18, K⟩ := hr
           have H : Hf I D w I18 w26 [BxC b_r0 98 (cEwire_Reader n0_11.2), BxC b_n0 39 (cENote n0 v1 v2 v3), SlC NEMember v1 n0.conf.members, OwC Ni64 3 v2 n0.legit, SlC NEOp v3 n0.entry.batch.ops] := hF2 K
           clear hF2 K
           refine s_runk tN1 Z 3 rfl rfl ?_; clear Z a; intro a Z
           refine h_store tN1 Z H 1 rfl rfl rfl rfl rfl rfl rfl rfl rfl (one_cons rfl one_nil) (Nat.le_of_ble_eq_true rfl) rfl ?_; clear H; intro w27 H
           dsimp only [List.eraseIdx] at H
           refine s_end Z [0, 1, 4] rfl ?_; clear Z; intro Z
           refine p_then (wp_seq ?_)
           obtain ⟨n0_12, hx15, hF⟩ := bnd_in hF
           refine f_region Z ?_; clear Z; intro Z
           refine s_runk tN1 Z 2 rfl rfl ?_; clear Z a; intro a Z
           refine h_call Z H (js := [(1, false)]) rfl (caps := #[]) fn_19_YNote1 rfl rfl rfl rfl rfl (by decide) rfl rfl (fun D1 hS => have hq := c_wire_Reader_Num hx15 hS; hq) ?_; clear Z a; intro vv a w28 D2 hr hF2 Z
           obtain ⟨rfl, I19, K⟩ := hr
           have H : Hf I D w I19 w28 [BxC b_r0 98 (cEwire_Reader n0_12.2), BxC b_n0 39 [.int .i64 n0.k, .int .i64 n0.n, .int .u64 n0.at_, .int .i64 n0.conf.epoch, v1, .int .u64 n0.conf.floor, v2, .int .i64 n0.entry.batch.client, .int .i64 n0.entry.batch.req, v3, .int .u64 n0.entry.ts, .int .i64 n0.pin.id, .int .u64 n0.pin.at_, .int .i64 n0.pin.left, .int .i64 n0_11.1, .int .i64 n0.said.req, .int .i64 n0.said.e, .int .i64 n0.said.pin], SlC NEMember v1 n0.conf.members, OwC Ni64 3 v2 n0.legit, SlC NEOp v3 n0.entry.batch.ops] := hF2 K
           clear hF2 K
           refine s_runk tN1 Z 3 rfl rfl ?_; clear Z a; intro a Z
           refine h_store tN1 Z H 1 rfl rfl rfl rfl rfl rfl rfl rfl rfl (one_cons rfl one_nil) (Nat.le_of_ble_eq_true rfl) rfl ?_; clear H; intro w29 H
           dsimp only [List.eraseIdx] at H
           refine s_end Z [0, 1, 4] rfl ?_; clear Z; intro Z
           refine p_then (wp_seq ?_)
           obtain ⟨n0_13, hx16, hF⟩ := bnd_in hF
           refine f_region Z ?_; clear Z; intro Z
           refine s_runk tN1 Z 2 rfl rfl ?_; clear Z a; intro a Z
           refine h_call Z H (js := [(1, false)]) rfl (caps := #[]) fn_19_YNote1 rfl rfl rfl rfl rfl (by decide) rfl rfl (fun D1 hS => have hq := c_wire_Reader_Num hx16 hS; hq) ?_; clear Z a; intro vv a w30 D2 hr hF2 Z
           obtain ⟨rfl, I20, K⟩ := hr
           have H : Hf I D w I20 w30 [BxC b_r0 98 (cEwire_Reader n0_13.2), BxC b_n0 39 [.int .i64 n0.k, .int .i64 n0.n, .int .u64 n0.at_, .int .i64 n0.conf.epoch, v1, .int .u64 n0.conf.floor, v2, .int .i64 n0.entry.batch.client, .int .i64 n0.entry.batch.req, v3, .int .u64 n0.entry.ts, .int .i64 n0.pin.id, .int .u64 n0.pin.at_, .int .i64 n0.pin.left, .int .i64 n0_11.1, .int .i64 n0_12.1, .int .i64 n0.said.e, .int .i64 n0.said.pin], SlC NEMember v1 n0.conf.members, OwC Ni64 3 v2 n0.legit, SlC NEOp v3 n0.entry.batch.ops] := hF2 K
           clear hF2 K
           refine s_runk tN1 Z 3 rfl rfl ?_; clear Z a; intro a Z
           refine h_store tN1 Z H 1 rfl rfl rfl rfl rfl rfl rfl rfl rfl (one_cons rfl one_nil) (Nat.le_of_ble_eq_true rfl) rfl ?_; clear H; intro w31 H
           dsimp only [List.eraseIdx] at H
           refine s_end Z [0, 1, 4] rfl ?_; clear Z; intro Z
           refine p_then ?_
           obtain ⟨n0_14, hx17, hF⟩ := bnd_in hF
           refine f_region Z ?_; clear Z; intro Z
           refine s_runk tN1 Z 2 rfl rfl ?_; clear Z a; intro a Z
           refine h_call Z H (js := [(1, false)]) rfl (caps := #[]) fn_19_YNote1 rfl rfl rfl rfl rfl (by decide) rfl rfl (fun D1 hS => have hq := c_wire_Reader_Num hx17 hS; hq) ?_; clear Z a; intro vv a w32 D2 hr hF2 Z
           obtain ⟨rfl, I21, K⟩ := hr
           have H : Hf I D w I21 w32 [BxC b_r0 98 (cEwire_Reader n0_14.2), BxC b_n0 39 [.int .i64 n0.k, .int .i64 n0.n, .int .u64 n0.at_, .int .i64 n0.conf.epoch, v1, .int .u64 n0.conf.floor, v2, .int .i64 n0.entry.batch.client, .int .i64 n0.entry.batch.req, v3, .int .u64 n0.entry.ts, .int .i64 n0.pin.id, .int .u64 n0.pin.at_, .int .i64 n0.pin.left, .int .i64 n0_11.1, .int .i64 n0_12.1, .int .i64 n0_13.1, .int .i64 n0.said.pin], SlC NEMember v1 n0.conf.members, OwC Ni64 3 v2 n0.legit, SlC NEOp v3 n0.entry.batch.ops] := hF2 K
           clear hF2 K
           refine s_runk tN1 Z 3 rfl rfl ?_; clear Z a; intro a Z
           refine h_store tN1 Z H 1 rfl rfl rfl rfl rfl rfl rfl rfl rfl (one_cons rfl one_nil) (Nat.le_of_ble_eq_true rfl) rfl ?_; clear H; intro w33 H
           dsimp only [List.eraseIdx] at H
           refine s_end Z [0, 4] rfl ?_; clear Z; intro Z
           refine p_then ?_
           refine wp_exit ?_
           refine f_exit_here ?_
           refine p_then ?_
           replace H : Hf I D w I21 w33 [OENote b_n0 ({ n0 with said := ({ client := n0_11.1, req := n0_12.1, e := n0_13.1, pin := n0_14.1 } : EAnswer) } : ENote), BxC b_r0 98 (cEwire_Reader n0_14.2), SlC NEMember v1 n0.conf.members, SlC NEOp v3 n0.entry.batch.ops] := H.shutX (v1, v2, v3) [(0, false), (1, true), (2, false), (2, true)] rfl
           exact ⟨n0_14.2.s, n0_14.2.at_, n0_14.2.e, n0_14.2.made, ({ n0 with said := ({ client := n0_11.1, req := n0_12.1, e := n0_13.1, pin := n0_14.1 } : EAnswer) } : ENote), Z.sub (ts := [0, 4]) rfl, ⟨I21, (H.sub [(1, false), (0, false)] rfl).eq rfl⟩, hF⟩
          ·replace hF := ite_f hc9 hF
           refine wp_skip ?_
           refine p_then ?_
           refine wp_exit ?_
           refine f_exit_out (by decide) ?_
           refine p_then_x ?_
           refine f_exit_out (by decide) ?_
           refine p_then_x ?_
           refine f_exit_out (by decide) ?_
           refine p_then_x ?_
           refine f_exit_out (by decide) ?_
           refine p_then_x ?_
           refine f_exit_out (by decide) ?_
           refine p_then_x ?_
           refine f_exit_out (by decide) ?_
           refine p_then_x ?_
           refine f_exit_out (by decide) ?_
           refine p_then_x ?_
           refine f_exit_here ?_
           refine p_then ?_
           replace H : Hf I D w I14 w19 [OENote b_n0 n0, BxC b_r0 98 (cEwire_Reader r0), SlC NEMember v1 n0.conf.members, SlC NEOp v3 n0.entry.batch.ops] := H.shutX (v1, v2, v3) [(1, false), (1, true), (2, false), (2, true)] rfl
           exact ⟨r0.s, r0.at_, r0.e, r0.made, n0, Z.sub (ts := [0, 4]) rfl, ⟨I14, (H.sub [(1, false), (0, false)] rfl).eq rfl⟩, hF⟩
       ·skip
        refine wp_seq (f_region Z ?_); clear Z; intro Z
        refine s_runk tN1 Z 2 rfl rfl ?_; clear Z a; intro a Z
        refine s_end Z [0, 1, 4, 9, 18] rfl ?_; clear Z; intro Z
        refine p_then ?_
        refine f_cond Z rfl (fun hc10 => ?_) (fun hc10 => ?_)
        ·replace hF := ite_t hc10 hF
         refine wp_skip ?_
         refine p_then ?_
         exact ⟨n0.k == 5, Z.sub (ts := [0, 1, 4, 9, 18]) rfl, ⟨I, (H.sub [(4, false), (0, false), (0, true), (1, false), (1, true)] rfl).eq rfl⟩, hF⟩
        ·replace hF := ite_f hc10 hF
         refine f_region Z ?_; clear Z; intro Z
         refine s_runk tN1 Z 2 rfl rfl ?_; clear Z a; intro a Z
         refine s_end Z [0, 1, 4, 9, 18] rfl ?_; clear Z; intro Z
         refine p_then ?_
         exact ⟨n0.k == 7, Z.sub (ts := [0, 1, 4, 9, 18]) rfl, ⟨I, (H.sub [(4, false), (0, false), (0, true), (1, false), (1, true)] rfl).eq rfl⟩, hF⟩

def F_note_Of_k2 (r0 : Int × Ewire_Reader × ENote) (e_3 : Int) (n_conf_members : List EMember) (n_legit : List Int) (n_entry_batch_ops : List EOp) : Option (ENote × Int) := if (e_3 != 0) = true then (some ((default : ENote), e_3)) else (some (({ r0.2.2 with conf := ({ r0.2.2.conf with members := n_conf_members } : EConf), legit := n_legit, entry := ({ r0.2.2.entry with batch := ({ r0.2.2.entry.batch with ops := n_entry_batch_ops } : EBatch) } : EEntry) } : ENote), 0))

def F_note_Of_k1 (r0 : Int × Ewire_Reader × ENote) (e_2 : Int) : Option (ENote × Int) := if (e_2 == 0) = true then ((F_note_Check r0.2.2).bind fun c => (F_note_Of_k2 r0 c r0.2.2.conf.members r0.2.2.legit r0.2.2.entry.batch.ops)) else (F_note_Of_k2 r0 e_2 r0.2.2.conf.members r0.2.2.legit r0.2.2.entry.batch.ops)

def F_note_Of (s0 : ByteArray) : Option (ENote × Int) := (F_wire_Open s0).bind fun o => ((F_wire_Reader_Num o 8).bind fun n0 => ((F_wire_Reader_Err n0.2).bind fun e => (if ((e == 0) && (n0.1 == 0)) = true then (some ((default : ENote), 11)) else ((F_note_read n0.2 ({ (default : ENote) with k := n0.1 } : ENote)).bind fun r0 => (if (r0.1 == 0) = true then ((F_wire_Reader_End r0.2.1).bind fun e_4 => (F_note_Of_k1 r0 e_4)) else (F_note_Of_k1 r0 r0.1))))))

set_option maxHeartbeats 1000000 in
theorem c_note_Of {I D : Dm} {s0 : ByteArray} {w : World} {rr : ENote × Int} (hF : F_note_Of s0 = some rr) (H : St I D w []) :
  Calls Try.prog 7 #[.string s0] w (Ret fun vv w' => ∃ q1 q2 q3 : Value, vv = .tuple #[.agg #[.int .i64 rr.1.k, .int .i64 rr.1.n, .int .u64 rr.1.at_, .int .i64 rr.1.conf.epoch, q1, .int .u64 rr.1.conf.floor, q2, .int .i64 rr.1.entry.batch.client, .int .i64 rr.1.entry.batch.req, q3, .int .u64 rr.1.entry.ts, .int .i64 rr.1.pin.id, .int .u64 rr.1.pin.at_, .int .i64 rr.1.pin.left, .int .i64 rr.1.said.client, .int .i64 rr.1.said.req, .int .i64 rr.1.said.e, .int .i64 rr.1.said.pin], .int .i64 rr.2] ∧ ∃ I', Hf I D w I' w' [SlC NEMember q1 rr.1.conf.members, SlC Ni64 q2 rr.1.legit, SlC NEOp q3 rr.1.entry.batch.ops]) := by
 replace H := H.hf
 unfold F_note_Of at hF
 refine f_enter 36 Try.func7 rfl rfl (Nat.le_of_ble_eq_true rfl) fun a Z => ?_
 replace Z := Z.sub (ts := [0]) rfl
 refine wp_seq (f_region Z ?_); clear Z; intro Z
 refine h_alloc Z H (cl := [.int .i64 0, .int .i64 0, .int .u64 0, .int .i64 0, .slice none 0 0, .int .u64 0, .slice none 0 0, .int .i64 0, .int .i64 0, .slice none 0 0, .int .u64 0, .int .i64 0, .int .u64 0, .int .i64 0, .int .i64 0, .int .i64 0, .int .i64 0, .int .i64 0]) (z := .agg #[.int .i64 0, .int .i64 0, .int .u64 0, .int .i64 0, .slice none 0 0, .int .u64 0, .slice none 0 0, .int .i64 0, .int .i64 0, .slice none 0 0, .int .u64 0, .int .i64 0, .int .u64 0, .int .i64 0, .int .i64 0, .int .i64 0, .int .i64 0, .int .i64 0]) rfl rfl rfl (by decide) rfl (by kernel_rfl) rfl ?_; clear Z a H; intro a w1 b1 H Z
 refine s_runk tN1 Z 1 rfl rfl ?_; clear Z a; intro a Z
 refine s_end Z [0, 2, 3] rfl ?_; clear Z; intro Z
 refine p_then (wp_seq ?_)
 obtain ⟨o, hx1, hF⟩ := bnd_in hF
 refine f_region Z ?_; clear Z; intro Z
 refine s_runk tN1 Z 1 rfl rfl ?_; clear Z a; intro a Z
 refine h_call Z H (js := []) rfl (caps := #[]) fn_18_YNote1 rfl rfl rfl rfl rfl (by decide) rfl rfl (fun D1 hS => have hq := c_wire_Open hx1 hS; hq) ?_; clear Z a; intro vv a w2 D2 hr hF2 Z
 obtain ⟨g1, rfl, I1, K⟩ := hr
 have H : Hf I D w I1 w2 [BxC g1 98 [.string o.s, .int .i64 o.at_, .int .i64 o.e, .bool o.made], BxC b1 39 [.int .i64 0, .int .i64 0, .int .u64 0, .int .i64 0, .slice none 0 0, .int .u64 0, .slice none 0 0, .int .i64 0, .int .i64 0, .slice none 0 0, .int .u64 0, .int .i64 0, .int .u64 0, .int .i64 0, .int .i64 0, .int .i64 0, .int .i64 0, .int .i64 0]] := hF2 K
 clear hF2 K
 refine s_runk tN1 Z 1 rfl rfl ?_; clear Z a; intro a Z
 refine s_end Z [2, 3, 4] rfl ?_; clear Z; intro Z
 refine p_then (wp_seq ?_)
 obtain ⟨n0, hx2, hF⟩ := bnd_in hF
 refine f_region Z ?_; clear Z; intro Z
 refine s_runk tN1 Z 1 rfl rfl ?_; clear Z a; intro a Z
 refine h_call Z H (js := [(0, false)]) rfl (caps := #[]) fn_19_YNote1 rfl rfl rfl rfl rfl (by decide) rfl rfl (fun D1 hS => have hq := c_wire_Reader_Num hx2 hS; hq) ?_; clear Z a; intro vv a w3 D2 hr hF2 Z
 obtain ⟨rfl, I2, K⟩ := hr
 have H : Hf I D w I2 w3 [BxC g1 98 (cEwire_Reader n0.2), BxC b1 39 [.int .i64 0, .int .i64 0, .int .u64 0, .int .i64 0, .slice none 0 0, .int .u64 0, .slice none 0 0, .int .i64 0, .int .i64 0, .slice none 0 0, .int .u64 0, .int .i64 0, .int .u64 0, .int .i64 0, .int .i64 0, .int .i64 0, .int .i64 0, .int .i64 0]] := hF2 K
 clear hF2 K
 refine s_ob Z (v := .agg #[.int .i64 n0.1, .int .i64 0, .int .u64 0, .int .i64 0, .slice none 0 0, .int .u64 0, .slice none 0 0, .int .i64 0, .int .i64 0, .slice none 0 0, .int .u64 0, .int .i64 0, .int .u64 0, .int .i64 0, .int .i64 0, .int .i64 0, .int .i64 0, .int .i64 0]) rfl rfl (by decide) rfl (Ob_build (vs := [(0, .int .i64 n0.1)]) rfl rfl (by go_simp <;> rfl)) ?_; clear Z a; intro a Z
 refine h_alloc Z H (cl := [.int .i64 0, .int .i64 0, .int .u64 0, .int .i64 0, .slice none 0 0, .int .u64 0, .slice none 0 0, .int .i64 0, .int .i64 0, .slice none 0 0, .int .u64 0, .int .i64 0, .int .u64 0, .int .i64 0, .int .i64 0, .int .i64 0, .int .i64 0, .int .i64 0]) (z := .agg #[.int .i64 0, .int .i64 0, .int .u64 0, .int .i64 0, .slice none 0 0, .int .u64 0, .slice none 0 0, .int .i64 0, .int .i64 0, .slice none 0 0, .int .u64 0, .int .i64 0, .int .u64 0, .int .i64 0, .int .i64 0, .int .i64 0, .int .i64 0, .int .i64 0]) rfl rfl rfl (by decide) rfl (by kernel_rfl) rfl ?_; clear Z a H; intro a w4 b2 H Z
 refine h_store tN1 Z H 0 rfl rfl rfl rfl rfl rfl rfl rfl rfl (one_cons rfl (one_cons rfl (one_cons rfl (one_cons rfl (one_cons (slS.one slS.nil) (one_cons rfl (one_cons (slS.one slS.nil) (one_cons rfl (one_cons rfl (one_cons (slS.one slS.nil) (one_cons rfl (one_cons rfl (one_cons rfl (one_cons rfl (one_cons rfl (one_cons rfl (one_cons rfl (one_cons rfl one_nil)))))))))))))))))) (Nat.le_of_ble_eq_true rfl) (putCells_all rfl) ?_; clear H; intro w5 H
 dsimp only [List.eraseIdx] at H
 refine s_end Z [2, 3, 4, 5] rfl ?_; clear Z; intro Z
 refine p_then (wp_seq ?_)
 refine wp_seq ?_
 obtain ⟨e, hx3, hF⟩ := bnd_in hF
 refine f_region Z ?_; clear Z; intro Z
 refine s_runk tN1 Z 1 rfl rfl ?_; clear Z a; intro a Z
 refine h_call Z H (js := [(1, false)]) rfl (caps := #[]) fn_20_YNote1 rfl rfl rfl rfl rfl (by decide) rfl rfl (fun D1 hS => have hq := c_wire_Reader_Err hx3 hS; hq) ?_; clear Z a; intro vv a w6 D2 hr hF2 Z
 obtain ⟨rfl, I3, K⟩ := hr
 have H : Hf I D w I3 w6 [BxC g1 98 (cEwire_Reader n0.2), BxC b2 39 [.int .i64 n0.1, .int .i64 0, .int .u64 0, .int .i64 0, .slice none 0 0, .int .u64 0, .slice none 0 0, .int .i64 0, .int .i64 0, .slice none 0 0, .int .u64 0, .int .i64 0, .int .u64 0, .int .i64 0, .int .i64 0, .int .i64 0, .int .i64 0, .int .i64 0], BxC b1 39 [.int .i64 0, .int .i64 0, .int .u64 0, .int .i64 0, .slice none 0 0, .int .u64 0, .slice none 0 0, .int .i64 0, .int .i64 0, .slice none 0 0, .int .u64 0, .int .i64 0, .int .u64 0, .int .i64 0, .int .i64 0, .int .i64 0, .int .i64 0, .int .i64 0]] := hF2 K
 clear hF2 K
 refine s_runk tN1 Z 2 rfl rfl ?_; clear Z a; intro a Z
 refine g_ob Z (p := (e == 0)) (v := .pointer (some ⟨b2, 0, none⟩)) (S' := [(5, .pointer (some ⟨b2, 0, none⟩))]) rfl rfl rfl (wantB_t _) rfl (by decide) (fun hp hS => hS.sub (ts := [5]) rfl) (fun hp => Ob_c tN1 rfl) ?_; clear Z a; intro a Z
 refine g_ob Z (p := (e == 0)) (v := .int .i64 n0.1) (S' := [(16, .pointer (some ⟨b2, 0, none⟩))]) rfl rfl rfl (wantB_t _) rfl (by decide) (fun hp hS => (hS.conv (t := 16) rfl (cond_t hp)).sub (ts := [16]) rfl) (fun hp => Ob_load tN1 rfl rfl rfl ((H.bx 1 rfl).cell 0 rfl)) ?_; clear Z a; intro a Z
 refine g_ob Z (p := (e == 0)) (v := .bool (n0.1 == 0)) (S' := [(17, .int .i64 n0.1)]) rfl rfl rfl (wantB_t _) rfl (by decide) (fun hp hS => (hS.conv (t := 17) rfl (cond_t hp)).sub (ts := [17]) rfl) (fun hp => Ob_c tN1 rfl) ?_; clear Z a; intro a Z
 refine s_ob Z (v := .bool ((e == 0) && (n0.1 == 0))) rfl rfl (by decide) rfl (Ob_pick rfl rfl rfl rfl (pick_and _ _)) ?_; clear Z a; intro a Z
 refine s_end Z [2, 3, 4, 5, 19] rfl ?_; clear Z; intro Z
 refine p_then ?_
 refine f_cond Z rfl (fun hc1 => ?_) (fun hc1 => ?_)
 ·replace hF := ite_t hc1 hF
  refine wp_seq (f_region Z ?_); clear Z; intro Z
  refine s_ob Z (v := .agg #[.int .i64 0, .int .i64 0, .int .u64 0, .int .i64 0, .slice none 0 0, .int .u64 0, .slice none 0 0, .int .i64 0, .int .i64 0, .slice none 0 0, .int .u64 0, .int .i64 0, .int .u64 0, .int .i64 0, .int .i64 0, .int .i64 0, .int .i64 0, .int .i64 0]) rfl rfl (by decide) rfl (Ob_build (vs := []) rfl rfl (by go_simp <;> rfl)) ?_; clear Z a; intro a Z
  refine h_store tN1 Z H 2 rfl rfl rfl rfl rfl rfl rfl rfl rfl (one_cons rfl (one_cons rfl (one_cons rfl (one_cons rfl (one_cons (slS.one slS.nil) (one_cons rfl (one_cons (slS.one slS.nil) (one_cons rfl (one_cons rfl (one_cons (slS.one slS.nil) (one_cons rfl (one_cons rfl (one_cons rfl (one_cons rfl (one_cons rfl (one_cons rfl (one_cons rfl (one_cons rfl one_nil)))))))))))))))))) (Nat.le_of_ble_eq_true rfl) (putCells_all rfl) ?_; clear H; intro w7 H
  dsimp only [List.eraseIdx] at H
  refine s_runk tN1 Z 1 rfl rfl ?_; clear Z a; intro a Z
  refine s_end Z [2, 3, 4, 5] rfl ?_; clear Z; intro Z
  refine p_then (wp_ret ?_)
  refine p_then_r ?_
  replace H : Hf I D w I3 w7 [SlC NEMember (.slice none 0 0) ([] : List EMember), BxC b1 39 [.int .i64 0, .int .i64 0, .int .u64 0, .int .i64 0, .slice none 0 0, .int .u64 0, .slice none 0 0, .int .i64 0, .int .i64 0, .slice none 0 0, .int .u64 0, .int .i64 0, .int .u64 0, .int .i64 0, .int .i64 0, .int .i64 0, .int .i64 0, .int .i64 0], BxC g1 98 (cEwire_Reader n0.2), BxC b2 39 [.int .i64 n0.1, .int .i64 0, .int .u64 0, .int .i64 0, .slice none 0 0, .int .u64 0, .slice none 0 0, .int .i64 0, .int .i64 0, .slice none 0 0, .int .u64 0, .int .i64 0, .int .u64 0, .int .i64 0, .int .i64 0, .int .i64 0, .int .i64 0, .int .i64 0]] := H.slNil NEMember
  replace H : Hf I D w I3 w7 [SlC Ni64 (.slice none 0 0) ([] : List Int), SlC NEMember (.slice none 0 0) ([] : List EMember), BxC b1 39 [.int .i64 0, .int .i64 0, .int .u64 0, .int .i64 0, .slice none 0 0, .int .u64 0, .slice none 0 0, .int .i64 0, .int .i64 0, .slice none 0 0, .int .u64 0, .int .i64 0, .int .u64 0, .int .i64 0, .int .i64 0, .int .i64 0, .int .i64 0, .int .i64 0], BxC g1 98 (cEwire_Reader n0.2), BxC b2 39 [.int .i64 n0.1, .int .i64 0, .int .u64 0, .int .i64 0, .slice none 0 0, .int .u64 0, .slice none 0 0, .int .i64 0, .int .i64 0, .slice none 0 0, .int .u64 0, .int .i64 0, .int .u64 0, .int .i64 0, .int .i64 0, .int .i64 0, .int .i64 0, .int .i64 0]] := H.slNil Ni64
  replace H : Hf I D w I3 w7 [SlC NEOp (.slice none 0 0) ([] : List EOp), SlC Ni64 (.slice none 0 0) ([] : List Int), SlC NEMember (.slice none 0 0) ([] : List EMember), BxC b1 39 [.int .i64 0, .int .i64 0, .int .u64 0, .int .i64 0, .slice none 0 0, .int .u64 0, .slice none 0 0, .int .i64 0, .int .i64 0, .slice none 0 0, .int .u64 0, .int .i64 0, .int .u64 0, .int .i64 0, .int .i64 0, .int .i64 0, .int .i64 0, .int .i64 0], BxC g1 98 (cEwire_Reader n0.2), BxC b2 39 [.int .i64 n0.1, .int .i64 0, .int .u64 0, .int .i64 0, .slice none 0 0, .int .u64 0, .slice none 0 0, .int .i64 0, .int .i64 0, .slice none 0 0, .int .u64 0, .int .i64 0, .int .u64 0, .int .i64 0, .int .i64 0, .int .i64 0, .int .i64 0, .int .i64 0]] := H.slNil NEOp
  obtain rfl := some_in hF
  exact f_ret Z (run_resultsCT rfl Z rfl (run_loadVar_agg tN1 rfl (H.bx 3 rfl).at) rfl) ⟨.slice none 0 0, .slice none 0 0, .slice none 0 0, rfl, I3, (H.sub [(2, true), (1, true), (0, true)] rfl).eq rfl⟩
 ·replace hF := ite_f hc1 hF
  refine wp_skip ?_
  refine p_then (wp_seq ?_)
  obtain ⟨r0, hx4, hF⟩ := bnd_in hF
  refine f_region Z ?_; clear Z; intro Z
  refine s_runk tN1 Z 1 rfl rfl ?_; clear Z a; intro a Z
  replace H : Hf I D w I3 w6 [SlC NEMember (.slice none 0 0) ([] : List EMember), BxC g1 98 (cEwire_Reader n0.2), BxC b2 39 [.int .i64 n0.1, .int .i64 0, .int .u64 0, .int .i64 0, .slice none 0 0, .int .u64 0, .slice none 0 0, .int .i64 0, .int .i64 0, .slice none 0 0, .int .u64 0, .int .i64 0, .int .u64 0, .int .i64 0, .int .i64 0, .int .i64 0, .int .i64 0, .int .i64 0], BxC b1 39 [.int .i64 0, .int .i64 0, .int .u64 0, .int .i64 0, .slice none 0 0, .int .u64 0, .slice none 0 0, .int .i64 0, .int .i64 0, .slice none 0 0, .int .u64 0, .int .i64 0, .int .u64 0, .int .i64 0, .int .i64 0, .int .i64 0, .int .i64 0, .int .i64 0]] := H.slNil NEMember
  replace H : Hf I D w I3 w6 [OwC Ni64 3 (.slice none 0 0) ([] : List Int), SlC NEMember (.slice none 0 0) ([] : List EMember), BxC g1 98 (cEwire_Reader n0.2), BxC b2 39 [.int .i64 n0.1, .int .i64 0, .int .u64 0, .int .i64 0, .slice none 0 0, .int .u64 0, .slice none 0 0, .int .i64 0, .int .i64 0, .slice none 0 0, .int .u64 0, .int .i64 0, .int .u64 0, .int .i64 0, .int .i64 0, .int .i64 0, .int .i64 0, .int .i64 0], BxC b1 39 [.int .i64 0, .int .i64 0, .int .u64 0, .int .i64 0, .slice none 0 0, .int .u64 0, .slice none 0 0, .int .i64 0, .int .i64 0, .slice none 0 0, .int .u64 0, .int .i64 0, .int .u64 0, .int .i64 0, .int .i64 0, .int .i64 0, .int .i64 0, .int .i64 0]] := H.nilow Ni64 3
  replace H : Hf I D w I3 w6 [SlC NEOp (.slice none 0 0) ([] : List EOp), OwC Ni64 3 (.slice none 0 0) ([] : List Int), SlC NEMember (.slice none 0 0) ([] : List EMember), BxC g1 98 (cEwire_Reader n0.2), BxC b2 39 [.int .i64 n0.1, .int .i64 0, .int .u64 0, .int .i64 0, .slice none 0 0, .int .u64 0, .slice none 0 0, .int .i64 0, .int .i64 0, .slice none 0 0, .int .u64 0, .int .i64 0, .int .u64 0, .int .i64 0, .int .i64 0, .int .i64 0, .int .i64 0, .int .i64 0], BxC b1 39 [.int .i64 0, .int .i64 0, .int .u64 0, .int .i64 0, .slice none 0 0, .int .u64 0, .slice none 0 0, .int .i64 0, .int .i64 0, .slice none 0 0, .int .u64 0, .int .i64 0, .int .u64 0, .int .i64 0, .int .i64 0, .int .i64 0, .int .i64 0, .int .i64 0]] := H.slNil NEOp
  replace H : Hf I D w I3 w6 [OENote b2 ({ (default : ENote) with k := n0.1 } : ENote), SlC NEOp (.slice none 0 0) ([] : List EOp), SlC NEMember (.slice none 0 0) ([] : List EMember), BxC g1 98 (cEwire_Reader n0.2), BxC b1 39 [.int .i64 0, .int .i64 0, .int .u64 0, .int .i64 0, .slice none 0 0, .int .u64 0, .slice none 0 0, .int .i64 0, .int .i64 0, .slice none 0 0, .int .u64 0, .int .i64 0, .int .u64 0, .int .i64 0, .int .i64 0, .int .i64 0, .int .i64 0, .int .i64 0]] := H.shutX (.slice none 0 0, .slice none 0 0, .slice none 0 0) [(4, false), (2, true), (1, false), (0, true)] rfl
  refine h_call Z H (js := [(3, false), (0, false)]) rfl (caps := #[]) fn_21_YNote1 rfl rfl rfl rfl rfl (by decide) rfl rfl (fun D1 hS => have hq := c_note_read hx4 hS; hq) ?_; clear Z a; intro vv a w8 D2 hr hF2 Z
  obtain ⟨rfl, I4, K⟩ := hr
  have H : Hf I D w I4 w8 [BxC g1 98 (cEwire_Reader r0.2.1), OENote b2 r0.2.2, SlC NEOp (.slice none 0 0) ([] : List EOp), SlC NEMember (.slice none 0 0) ([] : List EMember), BxC b1 39 [.int .i64 0, .int .i64 0, .int .u64 0, .int .i64 0, .slice none 0 0, .int .u64 0, .slice none 0 0, .int .i64 0, .int .i64 0, .slice none 0 0, .int .u64 0, .int .i64 0, .int .u64 0, .int .i64 0, .int .i64 0, .int .i64 0, .int .i64 0, .int .i64 0]] := hF2 K
  clear hF2 K
  refine s_runk tN1 Z 1 rfl rfl ?_; clear Z a; intro a Z
  refine s_end Z [2, 3, 4, 5, 6] rfl ?_; clear Z; intro Z
  refine p_then ?_
  refine f_cut (fun a' w' => ∃ (e_2 : Int), Sl 36 [(2, .pointer (some ⟨b1, 0, none⟩)), (3, .int .i64 0), (5, .pointer (some ⟨b2, 0, none⟩)), (6, .int .i64 e_2)] a' ∧ (∃ I2, Hf I D w I2 w' [BxC b1 39 [.int .i64 0, .int .i64 0, .int .u64 0, .int .i64 0, .slice none 0 0, .int .u64 0, .slice none 0 0, .int .i64 0, .int .i64 0, .slice none 0 0, .int .u64 0, .int .i64 0, .int .u64 0, .int .i64 0, .int .i64 0, .int .i64 0, .int .i64 0, .int .i64 0], OENote b2 r0.2.2]) ∧ F_note_Of_k1 r0 e_2 = some rr) ?_ ?_
  ·rintro a w9 ⟨e_2, Z, ⟨I5, H⟩, hF⟩
   unfold F_note_Of_k1 at hF
   try dsimp only at hF
   refine f_cut (fun a' w' => ∃ (e_3 : Int) (n_conf_members : List EMember) (n_legit : List Int) (n_entry_batch_ops : List EOp), ∃ v4 v5 v6 : Value, Sl 36 [(2, .pointer (some ⟨b1, 0, none⟩)), (3, .int .i64 0), (5, .pointer (some ⟨b2, 0, none⟩)), (6, .int .i64 e_3)] a' ∧ (∃ I2, Hf I D w I2 w' [BxC b1 39 [.int .i64 0, .int .i64 0, .int .u64 0, .int .i64 0, .slice none 0 0, .int .u64 0, .slice none 0 0, .int .i64 0, .int .i64 0, .slice none 0 0, .int .u64 0, .int .i64 0, .int .u64 0, .int .i64 0, .int .i64 0, .int .i64 0, .int .i64 0, .int .i64 0], BxC b2 39 [.int .i64 r0.2.2.k, .int .i64 r0.2.2.n, .int .u64 r0.2.2.at_, .int .i64 r0.2.2.conf.epoch, v4, .int .u64 r0.2.2.conf.floor, v5, .int .i64 r0.2.2.entry.batch.client, .int .i64 r0.2.2.entry.batch.req, v6, .int .u64 r0.2.2.entry.ts, .int .i64 r0.2.2.pin.id, .int .u64 r0.2.2.pin.at_, .int .i64 r0.2.2.pin.left, .int .i64 r0.2.2.said.client, .int .i64 r0.2.2.said.req, .int .i64 r0.2.2.said.e, .int .i64 r0.2.2.said.pin], SlC NEMember v4 n_conf_members, SlC Ni64 v5 n_legit, SlC NEOp v6 n_entry_batch_ops]) ∧ F_note_Of_k2 r0 e_3 n_conf_members n_legit n_entry_batch_ops = some rr) ?_ ?_
   ·rintro a w10 ⟨e_3, n_conf_members, n_legit, n_entry_batch_ops, v4, v5, v6, Z, ⟨I6, H⟩, hF⟩
    unfold F_note_Of_k2 at hF
    try dsimp only at hF
    refine wp_seq ?_
    refine wp_seq (f_region Z ?_); clear Z; intro Z
    refine s_runk tN1 Z 2 rfl rfl ?_; clear Z a; intro a Z
    refine s_end Z [2, 3, 5, 6, 32] rfl ?_; clear Z; intro Z
    refine p_then ?_
    refine f_cond Z rfl (fun hc2 => ?_) (fun hc2 => ?_)
    ·replace hF := ite_t hc2 hF
     refine wp_seq (f_region Z ?_); clear Z; intro Z
     refine s_ob Z (v := .agg #[.int .i64 0, .int .i64 0, .int .u64 0, .int .i64 0, .slice none 0 0, .int .u64 0, .slice none 0 0, .int .i64 0, .int .i64 0, .slice none 0 0, .int .u64 0, .int .i64 0, .int .u64 0, .int .i64 0, .int .i64 0, .int .i64 0, .int .i64 0, .int .i64 0]) rfl rfl (by decide) rfl (Ob_build (vs := []) rfl rfl (by go_simp <;> rfl)) ?_; clear Z a; intro a Z
     refine s_runk tN1 Z 1 rfl rfl ?_; clear Z a; intro a Z
     refine h_store tN1 Z H 0 rfl rfl rfl rfl rfl rfl rfl rfl rfl (one_cons rfl (one_cons rfl (one_cons rfl (one_cons rfl (one_cons (slS.one slS.nil) (one_cons rfl (one_cons (slS.one slS.nil) (one_cons rfl (one_cons rfl (one_cons (slS.one slS.nil) (one_cons rfl (one_cons rfl (one_cons rfl (one_cons rfl (one_cons rfl (one_cons rfl (one_cons rfl (one_cons rfl one_nil)))))))))))))))))) (Nat.le_of_ble_eq_true rfl) (putCells_all rfl) ?_; clear H; intro w11 H
     dsimp only [List.eraseIdx] at H
     refine s_runk tN1 Z 1 rfl rfl ?_; clear Z a; intro a Z
     refine s_end Z [2, 3, 5] rfl ?_; clear Z; intro Z
     refine p_then (wp_ret ?_)
     refine p_then_r ?_
     replace H : Hf I D w I6 w11 [SlC NEMember (.slice none 0 0) ([] : List EMember), BxC b1 39 [.int .i64 0, .int .i64 0, .int .u64 0, .int .i64 0, .slice none 0 0, .int .u64 0, .slice none 0 0, .int .i64 0, .int .i64 0, .slice none 0 0, .int .u64 0, .int .i64 0, .int .u64 0, .int .i64 0, .int .i64 0, .int .i64 0, .int .i64 0, .int .i64 0], BxC b2 39 [.int .i64 r0.2.2.k, .int .i64 r0.2.2.n, .int .u64 r0.2.2.at_, .int .i64 r0.2.2.conf.epoch, v4, .int .u64 r0.2.2.conf.floor, v5, .int .i64 r0.2.2.entry.batch.client, .int .i64 r0.2.2.entry.batch.req, v6, .int .u64 r0.2.2.entry.ts, .int .i64 r0.2.2.pin.id, .int .u64 r0.2.2.pin.at_, .int .i64 r0.2.2.pin.left, .int .i64 r0.2.2.said.client, .int .i64 r0.2.2.said.req, .int .i64 r0.2.2.said.e, .int .i64 r0.2.2.said.pin], SlC NEMember v4 n_conf_members, SlC Ni64 v5 n_legit, SlC NEOp v6 n_entry_batch_ops] := H.slNil NEMember
     replace H : Hf I D w I6 w11 [SlC Ni64 (.slice none 0 0) ([] : List Int), SlC NEMember (.slice none 0 0) ([] : List EMember), BxC b1 39 [.int .i64 0, .int .i64 0, .int .u64 0, .int .i64 0, .slice none 0 0, .int .u64 0, .slice none 0 0, .int .i64 0, .int .i64 0, .slice none 0 0, .int .u64 0, .int .i64 0, .int .u64 0, .int .i64 0, .int .i64 0, .int .i64 0, .int .i64 0, .int .i64 0], BxC b2 39 [.int .i64 r0.2.2.k, .int .i64 r0.2.2.n, .int .u64 r0.2.2.at_, .int .i64 r0.2.2.conf.epoch, v4, .int .u64 r0.2.2.conf.floor, v5, .int .i64 r0.2.2.entry.batch.client, .int .i64 r0.2.2.entry.batch.req, v6, .int .u64 r0.2.2.entry.ts, .int .i64 r0.2.2.pin.id, .int .u64 r0.2.2.pin.at_, .int .i64 r0.2.2.pin.left, .int .i64 r0.2.2.said.client, .int .i64 r0.2.2.said.req, .int .i64 r0.2.2.said.e, .int .i64 r0.2.2.said.pin], SlC NEMember v4 n_conf_members, SlC Ni64 v5 n_legit, SlC NEOp v6 n_entry_batch_ops] := H.slNil Ni64
     replace H : Hf I D w I6 w11 [SlC NEOp (.slice none 0 0) ([] : List EOp), SlC Ni64 (.slice none 0 0) ([] : List Int), SlC NEMember (.slice none 0 0) ([] : List EMember), BxC b1 39 [.int .i64 0, .int .i64 0, .int .u64 0, .int .i64 0, .slice none 0 0, .int .u64 0, .slice none 0 0, .int .i64 0, .int .i64 0, .slice none 0 0, .int .u64 0, .int .i64 0, .int .u64 0, .int .i64 0, .int .i64 0, .int .i64 0, .int .i64 0, .int .i64 0], BxC b2 39 [.int .i64 r0.2.2.k, .int .i64 r0.2.2.n, .int .u64 r0.2.2.at_, .int .i64 r0.2.2.conf.epoch, v4, .int .u64 r0.2.2.conf.floor, v5, .int .i64 r0.2.2.entry.batch.client, .int .i64 r0.2.2.entry.batch.req, v6, .int .u64 r0.2.2.entry.ts, .int .i64 r0.2.2.pin.id, .int .u64 r0.2.2.pin.at_, .int .i64 r0.2.2.pin.left, .int .i64 r0.2.2.said.client, .int .i64 r0.2.2.said.req, .int .i64 r0.2.2.said.e, .int .i64 r0.2.2.said.pin], SlC NEMember v4 n_conf_members, SlC Ni64 v5 n_legit, SlC NEOp v6 n_entry_batch_ops] := H.slNil NEOp
     obtain rfl := some_in hF
     exact f_ret Z (run_resultsCT rfl Z rfl (run_loadVar_agg tN1 rfl (H.bx 3 rfl).at) rfl) ⟨.slice none 0 0, .slice none 0 0, .slice none 0 0, rfl, I6, (H.sub [(2, true), (1, true), (0, true)] rfl).eq rfl⟩
    ·replace hF := ite_f hc2 hF
     refine wp_skip ?_
     refine p_then (wp_seq (f_region Z ?_)); clear Z; intro Z
     refine s_ob Z (v := .agg #[.int .i64 r0.2.2.k, .int .i64 r0.2.2.n, .int .u64 r0.2.2.at_, .int .i64 r0.2.2.conf.epoch, v4, .int .u64 r0.2.2.conf.floor, v5, .int .i64 r0.2.2.entry.batch.client, .int .i64 r0.2.2.entry.batch.req, v6, .int .u64 r0.2.2.entry.ts, .int .i64 r0.2.2.pin.id, .int .u64 r0.2.2.pin.at_, .int .i64 r0.2.2.pin.left, .int .i64 r0.2.2.said.client, .int .i64 r0.2.2.said.req, .int .i64 r0.2.2.said.e, .int .i64 r0.2.2.said.pin]) rfl rfl (by decide) rfl (Ob_loads tN1 rfl rfl rfl ((H.bx 1 rfl).part 0 rfl)) ?_; clear Z a; intro a Z
     refine h_store tN1 Z H 0 rfl rfl rfl rfl rfl rfl rfl rfl rfl (one_cons rfl (one_cons rfl (one_cons rfl (one_cons rfl (one_cons (slS.one (H.slshape 2 rfl)) (one_cons rfl (one_cons (slS.one (H.slshape 3 rfl)) (one_cons rfl (one_cons rfl (one_cons (slS.one (H.slshape 4 rfl)) (one_cons rfl (one_cons rfl (one_cons rfl (one_cons rfl (one_cons rfl (one_cons rfl (one_cons rfl (one_cons rfl one_nil)))))))))))))))))) (Nat.le_of_ble_eq_true rfl) (putCells_all rfl) ?_; clear H; intro w12 H
     dsimp only [List.eraseIdx] at H
     refine s_runk tN1 Z 1 rfl rfl ?_; clear Z a; intro a Z
     refine s_end Z [2, 3] rfl ?_; clear Z; intro Z
     refine p_then (wp_ret ?_)
     obtain rfl := some_in hF
     exact f_ret Z (run_resultsCT rfl Z rfl (run_loadVar_agg tN1 rfl (H.bx 0 rfl).at) rfl) ⟨v4, v5, v6, rfl, I6, (H.sub [(2, true), (3, true), (4, true)] rfl).eq rfl⟩
   ·skip
    refine wp_seq (f_region Z ?_); clear Z; intro Z
    refine s_runk tN1 Z 2 rfl rfl ?_; clear Z a; intro a Z
    refine s_end Z [2, 3, 5, 6, 28] rfl ?_; clear Z; intro Z
    refine p_then ?_
    refine f_cond Z rfl (fun hc3 => ?_) (fun hc3 => ?_)
    ·replace hF := ite_t hc3 hF
     obtain ⟨c, hx5, hF⟩ := bnd_in hF
     refine f_region Z ?_; clear Z; intro Z
     obtain ⟨⟨v7, v8, v9⟩, H⟩ := H.openX 1 rfl
     replace H : Hf I D w I5 w9 [BxC b2 39 (cENote r0.2.2 v7 v8 v9), SlC NEMember v7 r0.2.2.conf.members, OwC Ni64 3 v8 r0.2.2.legit, SlC NEOp v9 r0.2.2.entry.batch.ops, BxC b1 39 [.int .i64 0, .int .i64 0, .int .u64 0, .int .i64 0, .slice none 0 0, .int .u64 0, .slice none 0 0, .int .i64 0, .int .i64 0, .slice none 0 0, .int .u64 0, .int .i64 0, .int .u64 0, .int .i64 0, .int .i64 0, .int .i64 0, .int .i64 0, .int .i64 0]] := H
     refine s_ob Z (v := .agg #[.int .i64 r0.2.2.k, .int .i64 r0.2.2.n, .int .u64 r0.2.2.at_, .int .i64 r0.2.2.conf.epoch, v7, .int .u64 r0.2.2.conf.floor, v8, .int .i64 r0.2.2.entry.batch.client, .int .i64 r0.2.2.entry.batch.req, v9, .int .u64 r0.2.2.entry.ts, .int .i64 r0.2.2.pin.id, .int .u64 r0.2.2.pin.at_, .int .i64 r0.2.2.pin.left, .int .i64 r0.2.2.said.client, .int .i64 r0.2.2.said.req, .int .i64 r0.2.2.said.e, .int .i64 r0.2.2.said.pin]) rfl rfl (by decide) rfl (Ob_loads tN1 rfl rfl rfl ((H.bx 0 rfl).part 0 rfl)) ?_; clear Z a; intro a Z
     obtain ⟨I7, _, H⟩ := H.frzow 2 rfl
     replace H : Hf I D w I7 w9 [SlC Ni64 v8 r0.2.2.legit, BxC b2 39 (cENote r0.2.2 v7 v8 v9), SlC NEMember v7 r0.2.2.conf.members, SlC NEOp v9 r0.2.2.entry.batch.ops, BxC b1 39 [.int .i64 0, .int .i64 0, .int .u64 0, .int .i64 0, .slice none 0 0, .int .u64 0, .slice none 0 0, .int .i64 0, .int .i64 0, .slice none 0 0, .int .u64 0, .int .i64 0, .int .u64 0, .int .i64 0, .int .i64 0, .int .i64 0, .int .i64 0, .int .i64 0]] := H
     refine h_call Z H (js := [(2, true), (0, true), (3, true)]) rfl (caps := #[]) fn_14_YNote1 rfl rfl rfl rfl rfl (by decide) rfl rfl (fun D1 hS => have hq := c_note_Check hx5 hS; hq) ?_; clear Z a; intro vv a w13 D2 hr hF2 Z
     obtain ⟨rfl, I8, K⟩ := hr
     have H : Hf I D w I8 w13 [SlC Ni64 v8 r0.2.2.legit, BxC b2 39 (cENote r0.2.2 v7 v8 v9), SlC NEMember v7 r0.2.2.conf.members, SlC NEOp v9 r0.2.2.entry.batch.ops, BxC b1 39 [.int .i64 0, .int .i64 0, .int .u64 0, .int .i64 0, .slice none 0 0, .int .u64 0, .slice none 0 0, .int .i64 0, .int .i64 0, .slice none 0 0, .int .u64 0, .int .i64 0, .int .u64 0, .int .i64 0, .int .i64 0, .int .i64 0, .int .i64 0, .int .i64 0]] := hF2 K
     clear hF2 K
     refine s_runk tN1 Z 1 rfl rfl ?_; clear Z a; intro a Z
     refine s_end Z [2, 3, 5, 6] rfl ?_; clear Z; intro Z
     refine p_then ?_
     exact ⟨c, r0.2.2.conf.members, r0.2.2.legit, r0.2.2.entry.batch.ops, v7, v8, v9, Z.sub (ts := [2, 3, 5, 6]) rfl, ⟨I8, (H.sub [(4, false), (1, false), (1, true), (0, true), (2, true)] rfl).eq rfl⟩, hF⟩
    ·replace hF := ite_f hc3 hF
     refine wp_skip ?_
     refine p_then ?_
     obtain ⟨⟨v10, v11, v12⟩, H⟩ := H.openX 1 rfl
     replace H : Hf I D w I5 w9 [BxC b2 39 (cENote r0.2.2 v10 v11 v12), SlC NEMember v10 r0.2.2.conf.members, OwC Ni64 3 v11 r0.2.2.legit, SlC NEOp v12 r0.2.2.entry.batch.ops, BxC b1 39 [.int .i64 0, .int .i64 0, .int .u64 0, .int .i64 0, .slice none 0 0, .int .u64 0, .slice none 0 0, .int .i64 0, .int .i64 0, .slice none 0 0, .int .u64 0, .int .i64 0, .int .u64 0, .int .i64 0, .int .i64 0, .int .i64 0, .int .i64 0, .int .i64 0]] := H
     obtain ⟨I9, _, H⟩ := H.frzow 2 rfl
     replace H : Hf I D w I9 w9 [SlC Ni64 v11 r0.2.2.legit, BxC b2 39 (cENote r0.2.2 v10 v11 v12), SlC NEMember v10 r0.2.2.conf.members, SlC NEOp v12 r0.2.2.entry.batch.ops, BxC b1 39 [.int .i64 0, .int .i64 0, .int .u64 0, .int .i64 0, .slice none 0 0, .int .u64 0, .slice none 0 0, .int .i64 0, .int .i64 0, .slice none 0 0, .int .u64 0, .int .i64 0, .int .u64 0, .int .i64 0, .int .i64 0, .int .i64 0, .int .i64 0, .int .i64 0]] := H
     exact ⟨e_2, r0.2.2.conf.members, r0.2.2.legit, r0.2.2.entry.batch.ops, v10, v11, v12, Z.sub (ts := [2, 3, 5, 6]) rfl, ⟨I9, (H.sub [(4, false), (1, false), (1, true), (0, true), (2, true)] rfl).eq rfl⟩, hF⟩
  ·skip
   refine wp_seq (f_region Z ?_); clear Z; intro Z
   refine s_runk tN1 Z 2 rfl rfl ?_; clear Z a; intro a Z
   refine s_end Z [2, 3, 4, 5, 6, 24] rfl ?_; clear Z; intro Z
   refine p_then ?_
   refine f_cond Z rfl (fun hc4 => ?_) (fun hc4 => ?_)
   ·replace hF := ite_t hc4 hF
    obtain ⟨e_4, hx6, hF⟩ := bnd_in hF
    refine f_region Z ?_; clear Z; intro Z
    refine s_runk tN1 Z 1 rfl rfl ?_; clear Z a; intro a Z
    refine h_call Z H (js := [(0, false)]) rfl (caps := #[]) fn_22_YNote1 rfl rfl rfl rfl rfl (by decide) rfl rfl (fun D1 hS => have hq := c_wire_Reader_End hx6 hS; hq) ?_; clear Z a; intro vv a w14 D2 hr hF2 Z
    obtain ⟨rfl, I10, K⟩ := hr
    have H : Hf I D w I10 w14 [BxC g1 98 (cEwire_Reader r0.2.1), OENote b2 r0.2.2, SlC NEOp (.slice none 0 0) ([] : List EOp), SlC NEMember (.slice none 0 0) ([] : List EMember), BxC b1 39 [.int .i64 0, .int .i64 0, .int .u64 0, .int .i64 0, .slice none 0 0, .int .u64 0, .slice none 0 0, .int .i64 0, .int .i64 0, .slice none 0 0, .int .u64 0, .int .i64 0, .int .u64 0, .int .i64 0, .int .i64 0, .int .i64 0, .int .i64 0, .int .i64 0]] := hF2 K
    clear hF2 K
    refine s_runk tN1 Z 1 rfl rfl ?_; clear Z a; intro a Z
    refine s_end Z [2, 3, 5, 6] rfl ?_; clear Z; intro Z
    refine p_then ?_
    exact ⟨e_4, Z.sub (ts := [2, 3, 5, 6]) rfl, ⟨I10, (H.sub [(4, false), (1, false)] rfl).eq rfl⟩, hF⟩
   ·replace hF := ite_f hc4 hF
    refine wp_skip ?_
    refine p_then ?_
    exact ⟨r0.1, Z.sub (ts := [2, 3, 5, 6]) rfl, ⟨I4, (H.sub [(4, false), (1, false)] rfl).eq rfl⟩, hF⟩

end Go.Proofs.Ytbfglbbbkcpgeaa
