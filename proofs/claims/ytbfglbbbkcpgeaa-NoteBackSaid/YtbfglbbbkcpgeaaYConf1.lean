/- Configurations: read out of bytes. -/
import Derived.Test.YtbfglbbbkcpgeaaYConf
namespace Go.Proofs.Ytbfglbbbkcpgeaa
open Go.RowKit
def tC1L : TabL := ⟨[(26624, 0), (26625, 1), (26626, 2), (117761, 1)], [], [], [(24, (115, 2))], [(3, (1, false)), (23, (1, false)), (24, (1, false)), (26, (3, true)), (115, (2, true))]⟩

def tC1 : Tab Try.prog := ⟨tC1L, by kernel_rfl⟩

theorem fn_18_YConf1 : IsFn Try.prog 18 := ⟨_, Try.func18, by kernel_rfl, by kernel_rfl⟩

theorem fn_19_YConf1 : IsFn Try.prog 19 := ⟨_, Try.func19, by kernel_rfl, by kernel_rfl⟩

theorem fn_22_YConf1 : IsFn Try.prog 22 := ⟨_, Try.func22, by kernel_rfl, by kernel_rfl⟩

theorem fn_43_YConf1 : IsFn Try.prog 43 := ⟨_, Try.func43, by kernel_rfl, by kernel_rfl⟩

theorem fn_65_YConf1 : IsFn Try.prog 65 := ⟨_, Try.func65, by kernel_rfl, by kernel_rfl⟩

theorem E_24_YConf1 : Elem Try.prog 24 115 2 16 := ⟨Try.underlying24, by
 have h : (Try.prog.info? 115).map (fun i => (i.zero, i.size, i.bytes)) = some (some (.agg #[.int .i64 0, .int .i64 0]), 2, 16) := by kernel_rfl
 obtain ⟨i, hi, h1⟩ := Option.map_eq_some_iff.1 h
 simp only [Prod.mk.injEq] at h1
 exact ⟨i, _, hi, h1.1, h1.2.1, h1.2.2, by rfl⟩, by decide⟩

theorem neq_EMember (x y : EMember) (w : World) : (binOp .neq 115 (.agg (cEMember x).toArray) (.agg (cEMember y).toArray)).run Try.prog w = .ok (.bool (!eqEMember x y)) w := by
 have h1 := run_equalIn_struct (P := Try.prog) w 9999 115 (cEMember x).toArray (cEMember y).toArray (by rw [fieldsOf_of Try.underlying115]; exact Try.underlying115) (by kernel_rfl)
 rw [run_neq_struct, h1, fieldsOf_of Try.underlying115]
 simp [Op.eqFields, part, isAgg, cEMember, beqS, eqEMember, seqB_eq, run_underlying Try.underlying3, run_equalIn_int w 9998 3 _ _ _ _ Try.underlying3]
 try ((repeat' split) <;> simp_all)

theorem eqg_EMember (op : BinOp) (x y : Operand) (a b : Array Value) (w : World) : (eqGuard op 115 x y (.agg a) (.agg b)).run Try.prog w = .ok () w := run_eqGuard_agg (by kernel_rfl) op x y a b w

def F_conf_Of_l1 (n0 : Int × Ewire_Reader) (n0_2 : Int × Ewire_Reader) (rc : (Int × ByteArray × Int × Int × Bool × (List EMember)) → Option (EConf × Int)) (sg : Int × ByteArray × Int × Int × Bool × (List EMember)) : Option (EConf × Int) := match sg with | (x, r_s, r_at_, r_e, r_made, c_members) => if (decide (x < n0_2.1)) = true then ((F_wire_Reader_Num ({ s := r_s, at_ := r_at_, e := r_e, made := r_made } : Ewire_Reader) 3).bind fun n0_3 => ((F_wire_Reader_Num n0_3.2 1073741824).bind fun n0_4 => (chk (((c_members.length + [({ id := n0_3.1, serial := n0_4.1 } : EMember)].length : Nat) : Int) * 16 ≤ 140737488355328) (chk (inI (x + 1)) (rc (x + 1, n0_4.2.s, n0_4.2.at_, n0_4.2.e, n0_4.2.made, c_members ++ [({ id := n0_3.1, serial := n0_4.1 } : EMember)])))))) else ((F_wire_Reader_Big ({ s := r_s, at_ := r_at_, e := r_e, made := r_made } : Ewire_Reader)).bind fun b => ((F_wire_Reader_End b.2).bind fun e => (if (e != 0) = true then (some ((default : EConf), e)) else ((F_conf_Check ({ epoch := n0.1, members := c_members, floor := b.1 } : EConf)).bind fun c => (if (c != 0) = true then (some ((default : EConf), c)) else (some (({ epoch := n0.1, members := c_members, floor := b.1 } : EConf), 0)))))))

def F_conf_Of (s0 : ByteArray) : Option (EConf × Int) := (F_wire_Open s0).bind fun o => ((F_wire_Reader_Num o 1073741824).bind fun n0 => ((F_wire_Reader_Num n0.2 4).bind fun n0_2 => (iter (F_conf_Of_l1 n0 n0_2) FU (0, n0_2.2.s, n0_2.2.at_, n0_2.2.e, n0_2.2.made, ([] : List EMember)))))

set_option maxHeartbeats 1000000 in
theorem c_conf_Of {I D : Dm} {s0 : ByteArray} {w : World} {rr : EConf × Int} (hF : F_conf_Of s0 = some rr) (H : St I D w []) :
  Calls Try.prog 62 #[.string s0] w (Ret fun vv w' => ∃ q1 : Value, vv = .tuple #[.agg #[.int .i64 rr.1.epoch, q1, .int .u64 rr.1.floor], .int .i64 rr.2] ∧ ∃ I', Hf I D w I' w' [SlC NEMember q1 rr.1.members]) := by
 replace H := H.hf
 unfold F_conf_Of at hF
 refine f_enter 47 Try.func62 rfl rfl (Nat.le_of_ble_eq_true rfl) fun a Z => ?_
 replace Z := Z.sub (ts := [0]) rfl
 refine wp_seq (f_region Z ?_); clear Z; intro Z
 refine h_alloc Z H (cl := [.int .i64 0, .slice none 0 0, .int .u64 0]) (z := .agg #[.int .i64 0, .slice none 0 0, .int .u64 0]) rfl rfl rfl (by decide) rfl (by kernel_rfl) rfl ?_; clear Z a H; intro a w1 b1 H Z
 refine s_runk tC1 Z 1 rfl rfl ?_; clear Z a; intro a Z
 refine s_end Z [0, 2, 3] rfl ?_; clear Z; intro Z
 refine p_then (wp_seq ?_)
 obtain ⟨o, hx1, hF⟩ := bnd_in hF
 refine f_region Z ?_; clear Z; intro Z
 refine s_runk tC1 Z 1 rfl rfl ?_; clear Z a; intro a Z
 refine h_call Z H (js := []) rfl (caps := #[]) fn_18_YConf1 rfl rfl rfl rfl rfl (by decide) rfl rfl (fun D1 hS => have hq := c_wire_Open hx1 hS; hq) ?_; clear Z a; intro vv a w2 D2 hr hF2 Z
 obtain ⟨g1, rfl, I1, K⟩ := hr
 have H : Hf I D w I1 w2 [BxC g1 98 [.string o.s, .int .i64 o.at_, .int .i64 o.e, .bool o.made], BxC b1 26 [.int .i64 0, .slice none 0 0, .int .u64 0]] := hF2 K
 clear hF2 K
 refine s_runk tC1 Z 1 rfl rfl ?_; clear Z a; intro a Z
 refine s_end Z [2, 3, 4] rfl ?_; clear Z; intro Z
 refine p_then (wp_seq ?_)
 obtain ⟨n0, hx2, hF⟩ := bnd_in hF
 refine f_region Z ?_; clear Z; intro Z
 refine s_runk tC1 Z 1 rfl rfl ?_; clear Z a; intro a Z
 refine h_call Z H (js := [(0, false)]) rfl (caps := #[]) fn_19_YConf1 rfl rfl rfl rfl rfl (by decide) rfl rfl (fun D1 hS => have hq := c_wire_Reader_Num hx2 hS; hq) ?_; clear Z a; intro vv a w3 D2 hr hF2 Z
 obtain ⟨rfl, I2, K⟩ := hr
 have H : Hf I D w I2 w3 [BxC g1 98 (cEwire_Reader n0.2), BxC b1 26 [.int .i64 0, .slice none 0 0, .int .u64 0]] := hF2 K
 clear hF2 K
 refine s_ob Z (v := .agg #[.int .i64 n0.1, .slice none 0 0, .int .u64 0]) rfl rfl (by decide) rfl (Ob_build (vs := [(0, .int .i64 n0.1)]) rfl rfl (by go_simp <;> rfl)) ?_; clear Z a; intro a Z
 refine h_alloc Z H (cl := [.int .i64 0, .slice none 0 0, .int .u64 0]) (z := .agg #[.int .i64 0, .slice none 0 0, .int .u64 0]) rfl rfl rfl (by decide) rfl (by kernel_rfl) rfl ?_; clear Z a H; intro a w4 b2 H Z
 refine h_store tC1 Z H 0 rfl rfl rfl rfl rfl rfl rfl rfl rfl (one_cons rfl (one_cons (slS.one slS.nil) (one_cons rfl one_nil))) (Nat.le_of_ble_eq_true rfl) rfl ?_; clear H; intro w5 H
 dsimp only [List.eraseIdx] at H
 refine s_end Z [2, 3, 4, 5] rfl ?_; clear Z; intro Z
 refine p_then (wp_seq ?_)
 refine wp_seq ?_
 obtain ⟨n0_2, hx3, hF⟩ := bnd_in hF
 refine f_region Z ?_; clear Z; intro Z
 refine s_runk tC1 Z 1 rfl rfl ?_; clear Z a; intro a Z
 refine h_call Z H (js := [(1, false)]) rfl (caps := #[]) fn_19_YConf1 rfl rfl rfl rfl rfl (by decide) rfl rfl (fun D1 hS => have hq := c_wire_Reader_Num hx3 hS; hq) ?_; clear Z a; intro vv a w6 D2 hr hF2 Z
 obtain ⟨rfl, I3, K⟩ := hr
 have H : Hf I D w I3 w6 [BxC g1 98 (cEwire_Reader n0_2.2), BxC b2 26 [.int .i64 n0.1, .slice none 0 0, .int .u64 0], BxC b1 26 [.int .i64 0, .slice none 0 0, .int .u64 0]] := hF2 K
 clear hF2 K
 refine s_runk tC1 Z 1 rfl rfl ?_; clear Z a; intro a Z
 refine s_end Z [2, 3, 4, 5, 15, 16] rfl ?_; clear Z; intro Z
 refine p_then (wp_block ?_)
 replace H : Hf I D w I3 w6 [OwC NEMember 115 (.slice none 0 0) ([] : List EMember), BxC g1 98 (cEwire_Reader n0_2.2), BxC b2 26 [.int .i64 n0.1, .slice none 0 0, .int .u64 0], BxC b1 26 [.int .i64 0, .slice none 0 0, .int .u64 0]] := H.nilow NEMember 115
 refine f_iter hF (fun sg a' w' => match sg with | (x, r_s, r_at_, r_e, r_made, c_members) => ∃ v1 : Value, Sl 47 [(2, .pointer (some ⟨b1, 0, none⟩)), (3, .int .i64 0), (4, .pointer (some ⟨g1, 0, none⟩)), (5, .pointer (some ⟨b2, 0, none⟩)), (15, .int .i64 n0_2.1), (16, .int .i64 x)] a' ∧ ∃ I2, Hf I D w I2 w' [BxC b1 26 [.int .i64 0, .slice none 0 0, .int .u64 0], BxC g1 98 [.string r_s, .int .i64 r_at_, .int .i64 r_e, .bool r_made], BxC b2 26 [.int .i64 n0.1, v1, .int .u64 0], OwC NEMember 115 v1 c_members]) ⟨.slice none 0 0, Z.sub (ts := [2, 3, 4, 5, 15, 16]) rfl, ⟨I3, (H.sub [(3, false), (1, false), (1, false), (0, false)] rfl).eq rfl⟩⟩ ?_
 clear Z H hF a
 rintro rc ⟨x, r_s, r_at_, r_e, r_made, c_members⟩ a w7 ⟨v1, Z, I4, H⟩ hF
 unfold F_conf_Of_l1 at hF
 try dsimp only at hF
 refine wp_seq (f_region Z ?_); clear Z; intro Z
 refine s_runk tC1 Z 1 rfl rfl ?_; clear Z a; intro a Z
 refine s_end Z [2, 3, 4, 5, 15, 16, 17] rfl ?_; clear Z; intro Z
 refine p_then (wp_seq ?_)
 refine f_cond Z rfl (fun hc1 => ?_) (fun hc1 => ?_)
 ·replace hF := ite_t hc1 hF
  refine wp_skip ?_
  refine p_then (wp_seq ?_)
  refine wp_block ?_
  refine wp_seq ?_
  obtain ⟨n0_3, hx4, hF⟩ := bnd_in hF
  refine f_region Z ?_; clear Z; intro Z
  refine s_runk tC1 Z 1 rfl rfl ?_; clear Z a; intro a Z
  refine h_call Z H (js := [(1, false)]) rfl (caps := #[]) fn_19_YConf1 rfl rfl rfl rfl rfl (by decide) rfl rfl (fun D1 hS => have hq := c_wire_Reader_Num hx4 hS; hq) ?_; clear Z a; intro vv a w8 D2 hr hF2 Z
  obtain ⟨rfl, I5, K⟩ := hr
  have H : Hf I D w I5 w8 [BxC g1 98 (cEwire_Reader n0_3.2), BxC b1 26 [.int .i64 0, .slice none 0 0, .int .u64 0], BxC b2 26 [.int .i64 n0.1, v1, .int .u64 0], OwC NEMember 115 v1 c_members] := hF2 K
  clear hF2 K
  refine s_ob Z (v := .agg #[.int .i64 n0_3.1, .int .i64 0]) rfl rfl (by decide) rfl (Ob_build (vs := [(0, .int .i64 n0_3.1)]) rfl rfl (by go_simp <;> rfl)) ?_; clear Z a; intro a Z
  refine h_alloc Z H (cl := [.int .i64 0, .int .i64 0]) (z := .agg #[.int .i64 0, .int .i64 0]) rfl rfl rfl (by decide) rfl (by kernel_rfl) rfl ?_; clear Z a H; intro a w9 b3 H Z
  refine h_store tC1 Z H 0 rfl rfl rfl rfl rfl rfl rfl rfl rfl (one_cons rfl (one_cons rfl one_nil)) (Nat.le_of_ble_eq_true rfl) rfl ?_; clear H; intro w10 H
  dsimp only [List.eraseIdx] at H
  refine s_end Z [2, 3, 4, 5, 15, 16, 17, 18, 19, 20, 6] rfl ?_; clear Z; intro Z
  refine p_then (wp_seq ?_)
  obtain ⟨n0_4, hx5, hF⟩ := bnd_in hF
  refine f_region Z ?_; clear Z; intro Z
  refine s_runk tC1 Z 1 rfl rfl ?_; clear Z a; intro a Z
  refine h_call Z H (js := [(1, false)]) rfl (caps := #[]) fn_19_YConf1 rfl rfl rfl rfl rfl (by decide) rfl rfl (fun D1 hS => have hq := c_wire_Reader_Num hx5 hS; hq) ?_; clear Z a; intro vv a w11 D2 hr hF2 Z
  obtain ⟨rfl, I6, K⟩ := hr
  have H : Hf I D w I6 w11 [BxC g1 98 (cEwire_Reader n0_4.2), BxC b3 115 [.int .i64 n0_3.1, .int .i64 0], BxC b1 26 [.int .i64 0, .slice none 0 0, .int .u64 0], BxC b2 26 [.int .i64 n0.1, v1, .int .u64 0], OwC NEMember 115 v1 c_members] := hF2 K
  clear hF2 K
  refine s_runk tC1 Z 1 rfl rfl ?_; clear Z a; intro a Z
  refine h_store tC1 Z H 1 rfl rfl rfl rfl rfl rfl rfl rfl rfl (one_cons rfl one_nil) (Nat.le_of_ble_eq_true rfl) rfl ?_; clear H; intro w12 H
  dsimp only [List.eraseIdx] at H
  refine s_end Z [2, 3, 4, 5, 15, 16, 17, 18, 19, 20, 6, 21, 22, 23] rfl ?_; clear Z; intro Z
  refine p_then ?_
  obtain ⟨hg1, hF⟩ := chk_in hF
  refine f_region Z ?_; clear Z; intro Z
  refine s_runk tC1 Z 1 rfl rfl ?_; clear Z a; intro a Z
  refine s_ob Z (v := v1) rfl rfl (by decide) rfl (Ob_load tC1 rfl rfl rfl ((H.bx 3 rfl).cell 1 rfl)) ?_; clear Z a; intro a Z
  refine s_ob Z (v := .agg #[.int .i64 n0_3.1, .int .i64 n0_4.1]) rfl rfl (by decide) rfl (Ob_loads tC1 rfl rfl rfl ((H.bx 0 rfl).part 0 rfl)) ?_; clear Z a; intro a Z
  refine h_bslice Z H (vs := [(0, .agg #[.int .i64 n0_3.1, .int .i64 n0_4.1])]) (cl := [.int .i64 n0_3.1, .int .i64 n0_4.1]) (e := 115) rfl rfl rfl (by decide) rfl rfl (fun w => run_bslice (z := .agg #[.int .i64 0, .int .i64 0]) (m := 2) Try.underlying24 (by kernel_rfl) rfl rfl (by decide) (by simp [Instr.fill, Value.cells]) w) ?_; clear Z a H; intro a w13 b4 H Z
  refine h_appO Z H 5 E_24_YConf1 [({ id := n0_3.1, serial := n0_4.1 } : EMember)] rfl rfl rfl rfl rfl (by decide) rfl rfl rfl (slRep2.box1 (H.bx 0 rfl) ⟨rfl, trivial⟩) hg1 (by decide) ?_; clear Z a H; intro v2 a w14 H Z
  dsimp only [List.eraseIdx] at H
  replace H : Hf I D w I6 w14 [OwC NEMember 115 v2 (c_members ++ [({ id := n0_3.1, serial := n0_4.1 } : EMember)]), BxC b3 115 [.int .i64 n0_3.1, .int .i64 n0_4.1], BxC g1 98 (cEwire_Reader n0_4.2), BxC b1 26 [.int .i64 0, .slice none 0 0, .int .u64 0], BxC b2 26 [.int .i64 n0.1, v1, .int .u64 0]] := H.sub [(0, false), (1, false), (1, false), (1, false), (1, false)] rfl
  refine s_runk tC1 Z 1 rfl rfl ?_; clear Z a; intro a Z
  refine h_store tC1 Z H 4 rfl rfl rfl rfl rfl rfl (slS.cells (H.owshape 0 rfl)) rfl rfl (one_cons (slS.one (H.owshape 0 rfl)) one_nil) (Nat.le_of_ble_eq_true rfl) rfl ?_; clear H; intro w15 H
  dsimp only [List.eraseIdx] at H
  refine s_end Z [2, 3, 4, 5, 15, 16, 17, 18, 19, 20, 6, 21, 22, 23, 24, 25, 26, 27, 28, 29] rfl ?_; clear Z; intro Z
  refine p_blk ?_
  refine p_then ?_
  obtain ⟨hg2, hF⟩ := chk_in hF
  refine f_region Z ?_; clear Z; intro Z
  refine s_ob Z (v := .int .i64 (x + 1)) rfl rfl (by decide) rfl (Ob_add rfl rfl rfl (wrI hg2)) ?_; clear Z a; intro a Z
  refine s_runk tC1 Z 1 rfl rfl ?_; clear Z a; intro a Z
  refine s_end Z [2, 3, 4, 5, 15, 16, 17, 18, 19, 20, 6, 21, 22, 23, 24, 25, 26, 27, 28, 29, 30] rfl ?_; clear Z; intro Z
  refine p_then ?_
  exact ⟨(x + 1, n0_4.2.s, n0_4.2.at_, n0_4.2.e, n0_4.2.made, c_members ++ [({ id := n0_3.1, serial := n0_4.1 } : EMember)]), ⟨v2, Z.sub (ts := [2, 3, 4, 5, 15, 16]) rfl, ⟨I6, (H.sub [(4, false), (3, false), (0, false), (0, false)] rfl).eq rfl⟩⟩, hF⟩
 ·replace hF := ite_f hc1 hF
  refine wp_exit ?_
  refine p_then_x ?_
  refine p_then_x ?_
  refine f_exit_here ?_
  refine p_then (wp_seq ?_)
  obtain ⟨b, hx6, hF⟩ := bnd_in hF
  refine f_region Z ?_; clear Z; intro Z
  refine s_runk tC1 Z 1 rfl rfl ?_; clear Z a; intro a Z
  refine h_call Z H (js := [(1, false)]) rfl (caps := #[]) fn_65_YConf1 rfl rfl rfl rfl rfl (by decide) rfl rfl (fun D1 hS => have hq := c_wire_Reader_Big hx6 hS; hq) ?_; clear Z a; intro vv a w16 D2 hr hF2 Z
  obtain ⟨rfl, I7, K⟩ := hr
  have H : Hf I D w I7 w16 [BxC g1 98 (cEwire_Reader b.2), BxC b1 26 [.int .i64 0, .slice none 0 0, .int .u64 0], BxC b2 26 [.int .i64 n0.1, v1, .int .u64 0], OwC NEMember 115 v1 c_members] := hF2 K
  clear hF2 K
  refine s_runk tC1 Z 1 rfl rfl ?_; clear Z a; intro a Z
  refine h_store tC1 Z H 2 rfl rfl rfl rfl rfl rfl rfl rfl rfl (one_cons rfl one_nil) (Nat.le_of_ble_eq_true rfl) rfl ?_; clear H; intro w17 H
  dsimp only [List.eraseIdx] at H
  refine s_end Z [2, 3, 4, 5] rfl ?_; clear Z; intro Z
  refine p_then (wp_seq ?_)
  refine wp_seq ?_
  obtain ⟨e, hx7, hF⟩ := bnd_in hF
  refine f_region Z ?_; clear Z; intro Z
  refine s_runk tC1 Z 1 rfl rfl ?_; clear Z a; intro a Z
  refine h_call Z H (js := [(1, false)]) rfl (caps := #[]) fn_22_YConf1 rfl rfl rfl rfl rfl (by decide) rfl rfl (fun D1 hS => have hq := c_wire_Reader_End hx7 hS; hq) ?_; clear Z a; intro vv a w18 D2 hr hF2 Z
  obtain ⟨rfl, I8, K⟩ := hr
  have H : Hf I D w I8 w18 [BxC g1 98 (cEwire_Reader b.2), BxC b2 26 [.int .i64 n0.1, v1, .int .u64 b.1], BxC b1 26 [.int .i64 0, .slice none 0 0, .int .u64 0], OwC NEMember 115 v1 c_members] := hF2 K
  clear hF2 K
  refine s_runk tC1 Z 1 rfl rfl ?_; clear Z a; intro a Z
  refine s_end Z [2, 3, 5, 7] rfl ?_; clear Z; intro Z
  refine p_then (wp_seq (f_region Z ?_)); clear Z; intro Z
  refine s_runk tC1 Z 2 rfl rfl ?_; clear Z a; intro a Z
  refine s_end Z [2, 3, 5, 7, 37] rfl ?_; clear Z; intro Z
  refine p_then ?_
  refine f_cond Z rfl (fun hc2 => ?_) (fun hc2 => ?_)
  ·replace hF := ite_t hc2 hF
   refine wp_seq (f_region Z ?_); clear Z; intro Z
   refine s_ob Z (v := .agg #[.int .i64 0, .slice none 0 0, .int .u64 0]) rfl rfl (by decide) rfl (Ob_build (vs := []) rfl rfl (by go_simp <;> rfl)) ?_; clear Z a; intro a Z
   refine s_runk tC1 Z 1 rfl rfl ?_; clear Z a; intro a Z
   refine h_store tC1 Z H 2 rfl rfl rfl rfl rfl rfl rfl rfl rfl (one_cons rfl (one_cons (slS.one slS.nil) (one_cons rfl one_nil))) (Nat.le_of_ble_eq_true rfl) rfl ?_; clear H; intro w19 H
   dsimp only [List.eraseIdx] at H
   refine s_runk tC1 Z 1 rfl rfl ?_; clear Z a; intro a Z
   refine s_end Z [2, 3, 5] rfl ?_; clear Z; intro Z
   refine p_then (wp_ret ?_)
   refine p_then_r ?_
   replace H : Hf I D w I8 w19 [SlC NEMember (.slice none 0 0) ([] : List EMember), BxC b1 26 [.int .i64 0, .slice none 0 0, .int .u64 0], BxC g1 98 (cEwire_Reader b.2), BxC b2 26 [.int .i64 n0.1, v1, .int .u64 b.1], OwC NEMember 115 v1 c_members] := H.slNil NEMember
   obtain rfl := some_in hF
   exact f_ret Z (run_resultsCT rfl Z rfl (run_loadVar_agg tC1 rfl (H.bx 1 rfl).at) rfl) ⟨.slice none 0 0, rfl, I8, (H.sub [(0, true)] rfl).eq rfl⟩
  ·replace hF := ite_f hc2 hF
   refine wp_skip ?_
   refine p_then (wp_seq ?_)
   refine wp_seq ?_
   obtain ⟨c, hx8, hF⟩ := bnd_in hF
   refine f_region Z ?_; clear Z; intro Z
   refine s_ob Z (v := .agg #[.int .i64 n0.1, v1, .int .u64 b.1]) rfl rfl (by decide) rfl (Ob_loads tC1 rfl rfl rfl ((H.bx 1 rfl).part 0 rfl)) ?_; clear Z a; intro a Z
   obtain ⟨I9, _, H⟩ := H.frzow 3 rfl
   replace H : Hf I D w I9 w18 [SlC NEMember v1 c_members, BxC g1 98 (cEwire_Reader b.2), BxC b2 26 [.int .i64 n0.1, v1, .int .u64 b.1], BxC b1 26 [.int .i64 0, .slice none 0 0, .int .u64 0]] := H
   refine h_call Z H (js := [(0, true)]) rfl (caps := #[]) fn_43_YConf1 rfl rfl rfl rfl rfl (by decide) rfl rfl (fun D1 hS => have hq := c_conf_Check hx8 hS; hq) ?_; clear Z a; intro vv a w20 D2 hr hF2 Z
   obtain ⟨rfl, I10, K⟩ := hr
   have H : Hf I D w I10 w20 [SlC NEMember v1 c_members, BxC g1 98 (cEwire_Reader b.2), BxC b2 26 [.int .i64 n0.1, v1, .int .u64 b.1], BxC b1 26 [.int .i64 0, .slice none 0 0, .int .u64 0]] := hF2 K
   clear hF2 K
   refine s_runk tC1 Z 1 rfl rfl ?_; clear Z a; intro a Z
   refine s_end Z [2, 3, 5, 8] rfl ?_; clear Z; intro Z
   refine p_then (wp_seq (f_region Z ?_)); clear Z; intro Z
   refine s_runk tC1 Z 2 rfl rfl ?_; clear Z a; intro a Z
   refine s_end Z [2, 3, 5, 8, 43] rfl ?_; clear Z; intro Z
   refine p_then ?_
   refine f_cond Z rfl (fun hc3 => ?_) (fun hc3 => ?_)
   ·replace hF := ite_t hc3 hF
    refine wp_seq (f_region Z ?_); clear Z; intro Z
    refine s_ob Z (v := .agg #[.int .i64 0, .slice none 0 0, .int .u64 0]) rfl rfl (by decide) rfl (Ob_build (vs := []) rfl rfl (by go_simp <;> rfl)) ?_; clear Z a; intro a Z
    refine s_runk tC1 Z 1 rfl rfl ?_; clear Z a; intro a Z
    refine h_store tC1 Z H 3 rfl rfl rfl rfl rfl rfl rfl rfl rfl (one_cons rfl (one_cons (slS.one slS.nil) (one_cons rfl one_nil))) (Nat.le_of_ble_eq_true rfl) rfl ?_; clear H; intro w21 H
    dsimp only [List.eraseIdx] at H
    refine s_runk tC1 Z 1 rfl rfl ?_; clear Z a; intro a Z
    refine s_end Z [2, 3, 5] rfl ?_; clear Z; intro Z
    refine p_then (wp_ret ?_)
    refine p_then_r ?_
    replace H : Hf I D w I10 w21 [SlC NEMember (.slice none 0 0) ([] : List EMember), BxC b1 26 [.int .i64 0, .slice none 0 0, .int .u64 0], SlC NEMember v1 c_members, BxC g1 98 (cEwire_Reader b.2), BxC b2 26 [.int .i64 n0.1, v1, .int .u64 b.1]] := H.slNil NEMember
    obtain rfl := some_in hF
    exact f_ret Z (run_resultsCT rfl Z rfl (run_loadVar_agg tC1 rfl (H.bx 1 rfl).at) rfl) ⟨.slice none 0 0, rfl, I10, (H.sub [(0, true)] rfl).eq rfl⟩
   ·replace hF := ite_f hc3 hF
    refine wp_skip ?_
    refine p_then (wp_seq (f_region Z ?_)); clear Z; intro Z
    refine s_ob Z (v := .agg #[.int .i64 n0.1, v1, .int .u64 b.1]) rfl rfl (by decide) rfl (Ob_loads tC1 rfl rfl rfl ((H.bx 2 rfl).part 0 rfl)) ?_; clear Z a; intro a Z
    refine h_store tC1 Z H 3 rfl rfl rfl rfl rfl rfl rfl rfl rfl (one_cons rfl (one_cons (slS.one (H.slshape 0 rfl)) (one_cons rfl one_nil))) (Nat.le_of_ble_eq_true rfl) rfl ?_; clear H; intro w22 H
    dsimp only [List.eraseIdx] at H
    refine s_runk tC1 Z 1 rfl rfl ?_; clear Z a; intro a Z
    refine s_end Z [2, 3] rfl ?_; clear Z; intro Z
    refine p_then (wp_ret ?_)
    obtain rfl := some_in hF
    exact f_ret Z (run_resultsCT rfl Z rfl (run_loadVar_agg tC1 rfl (H.bx 0 rfl).at) rfl) ⟨v1, rfl, I10, (H.sub [(1, true)] rfl).eq rfl⟩

def F_ref07_Same_l1 (a0 : EConf) (b : EConf) (rc : Int → Option Bool) (sg : Int) : Option Bool := match sg with | i => if ((decide (i < (a0.members.length : Int))) && (decide (i < (b.members.length : Int)))) = true then (chk ((0 : Int) ≤ i ∧ i < (a0.members.length : Int)) (chk ((0 : Int) ≤ i ∧ i < (b.members.length : Int)) (if (!eqEMember (a0.members.getD (i).toNat default) (b.members.getD (i).toNat default)) = true then (some false) else (chk (inI (i + 1)) (rc (i + 1)))))) else (some true)

def F_ref07_Same (a0 : EConf) (b : EConf) : Option Bool := if (((a0.epoch != b.epoch) || (a0.floor != b.floor)) || ((a0.members.length : Int) != (b.members.length : Int))) = true then (some false) else (iter (F_ref07_Same_l1 a0 b) FU 0)

set_option maxHeartbeats 1000000 in
theorem c_ref07_Same {I D : Dm} {a0 : EConf} {v1_a0 : Value} {b : EConf} {v2_b : Value} {w : World} {rr : Bool} (hF : F_ref07_Same a0 b = some rr) (H : St I D w [SlC NEMember v1_a0 a0.members, SlC NEMember v2_b b.members]) :
  Calls Try.prog 27 #[.agg #[.int .i64 a0.epoch, v1_a0, .int .u64 a0.floor], .agg #[.int .i64 b.epoch, v2_b, .int .u64 b.floor]] w (Ret fun vv w' => vv = .bool rr ∧ ∃ I', Hf I D w I' w' []) := by
 replace H := H.hf
 unfold F_ref07_Same at hF
 refine f_enter 52 Try.func27 rfl rfl (Nat.le_of_ble_eq_true rfl) fun a Z => ?_
 replace Z := Z.sub (ts := [0, 1]) rfl
 refine wp_seq (f_region Z ?_); clear Z; intro Z
 refine h_boxv Z H (cl := [.int .i64 a0.epoch, v1_a0, .int .u64 a0.floor]) rfl rfl rfl (by decide) rfl rfl rfl ?_; clear Z a H; intro a w1 b1 H Z
 refine h_boxv Z H (cl := [.int .i64 b.epoch, v2_b, .int .u64 b.floor]) rfl rfl rfl (by decide) rfl rfl rfl ?_; clear Z a H; intro a w2 b2 H Z
 refine s_runk tC1 Z 1 rfl rfl ?_; clear Z a; intro a Z
 refine s_end Z [2, 3, 4] rfl ?_; clear Z; intro Z
 refine p_then (wp_seq ?_)
 refine wp_seq (f_region Z ?_); clear Z; intro Z
 refine s_runk tC1 Z 1 rfl rfl ?_; clear Z a; intro a Z
 refine s_ob Z (v := .int .i64 a0.epoch) rfl rfl (by decide) rfl (Ob_load tC1 rfl rfl rfl ((H.bx 1 rfl).cell 0 rfl)) ?_; clear Z a; intro a Z
 refine s_runk tC1 Z 1 rfl rfl ?_; clear Z a; intro a Z
 refine s_ob Z (v := .int .i64 b.epoch) rfl rfl (by decide) rfl (Ob_load tC1 rfl rfl rfl ((H.bx 0 rfl).cell 0 rfl)) ?_; clear Z a; intro a Z
 refine s_runk tC1 Z 2 rfl rfl ?_; clear Z a; intro a Z
 refine g_ob Z (p := (!(a0.epoch != b.epoch))) (v := .pointer (some ⟨b1, 2, none⟩)) (S' := [(2, .pointer (some ⟨b1, 0, none⟩))]) rfl rfl rfl (wantB_f _) rfl (by decide) (fun hp hS => hS.sub (ts := [2]) rfl) (fun hp => Ob_c tC1 rfl) ?_; clear Z a; intro a Z
 refine g_ob Z (p := (!(a0.epoch != b.epoch))) (v := .int .u64 a0.floor) (S' := [(12, .pointer (some ⟨b1, 2, none⟩))]) rfl rfl rfl (wantB_f _) rfl (by decide) (fun hp hS => (hS.conv (t := 12) rfl (cond_t hp)).sub (ts := [12]) rfl) (fun hp => Ob_load tC1 rfl rfl rfl ((H.bx 1 rfl).cell 2 rfl)) ?_; clear Z a; intro a Z
 refine g_ob Z (p := (!(a0.epoch != b.epoch))) (v := .pointer (some ⟨b2, 2, none⟩)) (S' := [(3, .pointer (some ⟨b2, 0, none⟩))]) rfl rfl rfl (wantB_f _) rfl (by decide) (fun hp hS => hS.sub (ts := [3]) rfl) (fun hp => Ob_c tC1 rfl) ?_; clear Z a; intro a Z
 refine g_ob Z (p := (!(a0.epoch != b.epoch))) (v := .int .u64 b.floor) (S' := [(14, .pointer (some ⟨b2, 2, none⟩))]) rfl rfl rfl (wantB_f _) rfl (by decide) (fun hp hS => (hS.conv (t := 14) rfl (cond_t hp)).sub (ts := [14]) rfl) (fun hp => Ob_load tC1 rfl rfl rfl ((H.bx 0 rfl).cell 2 rfl)) ?_; clear Z a; intro a Z
 refine g_ob Z (p := (!(a0.epoch != b.epoch))) (v := .bool (a0.floor != b.floor)) (S' := [(13, .int .u64 a0.floor), (15, .int .u64 b.floor)]) rfl rfl rfl (wantB_f _) rfl (by decide) (fun hp hS => ((hS.conv (t := 13) rfl (cond_t hp)).conv (t := 15) rfl (cond_t hp)).sub (ts := [13, 15]) rfl) (fun hp => Ob_c tC1 rfl) ?_; clear Z a; intro a Z
 refine s_ob Z (v := .bool ((a0.epoch != b.epoch) || (a0.floor != b.floor))) rfl rfl (by decide) rfl (Ob_pick rfl rfl rfl rfl (pick_or _ _)) ?_; clear Z a; intro a Z
 refine s_runk tC1 Z 1 rfl rfl ?_; clear Z a; intro a Z
 refine g_ob Z (p := (!((a0.epoch != b.epoch) || (a0.floor != b.floor)))) (v := .pointer (some ⟨b1, 1, none⟩)) (S' := [(2, .pointer (some ⟨b1, 0, none⟩))]) rfl rfl rfl (wantB_f _) rfl (by decide) (fun hp hS => hS.sub (ts := [2]) rfl) (fun hp => Ob_c tC1 rfl) ?_; clear Z a; intro a Z
 refine g_ob Z (p := (!((a0.epoch != b.epoch) || (a0.floor != b.floor)))) (v := v1_a0) (S' := [(19, .pointer (some ⟨b1, 1, none⟩))]) rfl rfl rfl (wantB_f _) rfl (by decide) (fun hp hS => (hS.conv (t := 19) rfl (cond_t hp)).sub (ts := [19]) rfl) (fun hp => Ob_load tC1 rfl rfl rfl ((H.bx 1 rfl).cell 1 rfl)) ?_; clear Z a; intro a Z
 refine g_ob Z (p := (!((a0.epoch != b.epoch) || (a0.floor != b.floor)))) (v := .int .i64 (a0.members.length : Int)) (S' := [(20, v1_a0)]) rfl rfl rfl (wantB_f _) rfl (by decide) (fun hp hS => (hS.conv (t := 20) rfl (cond_t hp)).sub (ts := [20]) rfl) (fun hp => Ob_slen tC1 rfl rfl rfl (H.slshape 2 rfl)) ?_; clear Z a; intro a Z
 refine g_ob Z (p := (!((a0.epoch != b.epoch) || (a0.floor != b.floor)))) (v := .pointer (some ⟨b2, 1, none⟩)) (S' := [(3, .pointer (some ⟨b2, 0, none⟩))]) rfl rfl rfl (wantB_f _) rfl (by decide) (fun hp hS => hS.sub (ts := [3]) rfl) (fun hp => Ob_c tC1 rfl) ?_; clear Z a; intro a Z
 refine g_ob Z (p := (!((a0.epoch != b.epoch) || (a0.floor != b.floor)))) (v := v2_b) (S' := [(22, .pointer (some ⟨b2, 1, none⟩))]) rfl rfl rfl (wantB_f _) rfl (by decide) (fun hp hS => (hS.conv (t := 22) rfl (cond_t hp)).sub (ts := [22]) rfl) (fun hp => Ob_load tC1 rfl rfl rfl ((H.bx 0 rfl).cell 1 rfl)) ?_; clear Z a; intro a Z
 refine g_ob Z (p := (!((a0.epoch != b.epoch) || (a0.floor != b.floor)))) (v := .int .i64 (b.members.length : Int)) (S' := [(23, v2_b)]) rfl rfl rfl (wantB_f _) rfl (by decide) (fun hp hS => (hS.conv (t := 23) rfl (cond_t hp)).sub (ts := [23]) rfl) (fun hp => Ob_slen tC1 rfl rfl rfl (H.slshape 3 rfl)) ?_; clear Z a; intro a Z
 refine g_ob Z (p := (!((a0.epoch != b.epoch) || (a0.floor != b.floor)))) (v := .bool ((a0.members.length : Int) != (b.members.length : Int))) (S' := [(21, .int .i64 (a0.members.length : Int)), (24, .int .i64 (b.members.length : Int))]) rfl rfl rfl (wantB_f _) rfl (by decide) (fun hp hS => ((hS.conv (t := 21) rfl (cond_t hp)).conv (t := 24) rfl (cond_t hp)).sub (ts := [21, 24]) rfl) (fun hp => Ob_c tC1 rfl) ?_; clear Z a; intro a Z
 refine s_ob Z (v := .bool (((a0.epoch != b.epoch) || (a0.floor != b.floor)) || ((a0.members.length : Int) != (b.members.length : Int)))) rfl rfl (by decide) rfl (Ob_pick rfl rfl rfl rfl (pick_or _ _)) ?_; clear Z a; intro a Z
 refine s_end Z [2, 3, 4, 26] rfl ?_; clear Z; intro Z
 refine p_then ?_
 refine f_cond Z rfl (fun hc1 => ?_) (fun hc1 => ?_)
 ·replace hF := ite_t hc1 hF
  refine wp_seq (f_region Z ?_); clear Z; intro Z
  refine s_runk tC1 Z 1 rfl rfl ?_; clear Z a; intro a Z
  refine s_end Z [2, 3, 4] rfl ?_; clear Z; intro Z
  refine p_then (wp_ret ?_)
  refine p_then_r ?_
  obtain rfl := some_in hF
  exact f_ret Z (run_results1 rfl Z rfl) ⟨rfl, I, (H.sub [] rfl).eq rfl⟩
 ·replace hF := ite_f hc1 hF
  refine wp_skip ?_
  refine p_then (wp_seq ?_)
  refine wp_seq (f_region Z ?_); clear Z; intro Z
  refine s_runk tC1 Z 1 rfl rfl ?_; clear Z a; intro a Z
  refine s_end Z [2, 3, 4, 5] rfl ?_; clear Z; intro Z
  refine p_then (wp_block ?_)
  refine f_iter hF (fun sg a' w' => match sg with | i => Sl 52 [(2, .pointer (some ⟨b1, 0, none⟩)), (3, .pointer (some ⟨b2, 0, none⟩)), (4, .bool false), (5, .int .i64 i)] a' ∧ ∃ I2, Hf I D w I2 w' [BxC b1 26 [.int .i64 a0.epoch, v1_a0, .int .u64 a0.floor], BxC b2 26 [.int .i64 b.epoch, v2_b, .int .u64 b.floor], SlC NEMember v1_a0 a0.members, SlC NEMember v2_b b.members]) ⟨Z.sub (ts := [2, 3, 4, 5]) rfl, ⟨I, (H.sub [(1, false), (0, false), (0, true), (1, true)] rfl).eq rfl⟩⟩ ?_
  clear Z H hF a
  rintro rc i a w3 ⟨Z, I1, H⟩ hF
  unfold F_ref07_Same_l1 at hF
  try dsimp only at hF
  refine wp_seq ?_
  refine wp_seq (f_region Z ?_); clear Z; intro Z
  refine s_runk tC1 Z 2 rfl rfl ?_; clear Z a; intro a Z
  refine s_ob Z (v := v1_a0) rfl rfl (by decide) rfl (Ob_load tC1 rfl rfl rfl ((H.bx 0 rfl).cell 1 rfl)) ?_; clear Z a; intro a Z
  refine s_ob Z (v := .int .i64 (a0.members.length : Int)) rfl rfl (by decide) rfl (Ob_slen tC1 rfl rfl rfl (H.slshape 2 rfl)) ?_; clear Z a; intro a Z
  refine s_runk tC1 Z 2 rfl rfl ?_; clear Z a; intro a Z
  refine g_ob Z (p := (decide (i < (a0.members.length : Int)))) (v := .int .i64 i) (S' := [(5, .int .i64 i)]) rfl rfl rfl (wantB_t _) rfl (by decide) (fun hp hS => hS.sub (ts := [5]) rfl) (fun hp => Ob_c tC1 rfl) ?_; clear Z a; intro a Z
  refine g_ob Z (p := (decide (i < (a0.members.length : Int)))) (v := .pointer (some ⟨b2, 1, none⟩)) (S' := [(3, .pointer (some ⟨b2, 0, none⟩))]) rfl rfl rfl (wantB_t _) rfl (by decide) (fun hp hS => hS.sub (ts := [3]) rfl) (fun hp => Ob_c tC1 rfl) ?_; clear Z a; intro a Z
  refine g_ob Z (p := (decide (i < (a0.members.length : Int)))) (v := v2_b) (S' := [(34, .pointer (some ⟨b2, 1, none⟩))]) rfl rfl rfl (wantB_t _) rfl (by decide) (fun hp hS => (hS.conv (t := 34) rfl (cond_t hp)).sub (ts := [34]) rfl) (fun hp => Ob_load tC1 rfl rfl rfl ((H.bx 1 rfl).cell 1 rfl)) ?_; clear Z a; intro a Z
  refine g_ob Z (p := (decide (i < (a0.members.length : Int)))) (v := .int .i64 (b.members.length : Int)) (S' := [(35, v2_b)]) rfl rfl rfl (wantB_t _) rfl (by decide) (fun hp hS => (hS.conv (t := 35) rfl (cond_t hp)).sub (ts := [35]) rfl) (fun hp => Ob_slen tC1 rfl rfl rfl (H.slshape 3 rfl)) ?_; clear Z a; intro a Z
  refine g_ob Z (p := (decide (i < (a0.members.length : Int)))) (v := .bool (decide (i < (b.members.length : Int)))) (S' := [(33, .int .i64 i), (36, .int .i64 (b.members.length : Int))]) rfl rfl rfl (wantB_t _) rfl (by decide) (fun hp hS => ((hS.conv (t := 33) rfl (cond_t hp)).conv (t := 36) rfl (cond_t hp)).sub (ts := [33, 36]) rfl) (fun hp => Ob_c tC1 rfl) ?_; clear Z a; intro a Z
  refine s_ob Z (v := .bool ((decide (i < (a0.members.length : Int))) && (decide (i < (b.members.length : Int))))) rfl rfl (by decide) rfl (Ob_pick rfl rfl rfl rfl (pick_and _ _)) ?_; clear Z a; intro a Z
  refine s_end Z [2, 3, 4, 5, 27, 28, 29, 30, 31, 32, 38] rfl ?_; clear Z; intro Z
  refine p_then ?_
  refine f_cond Z rfl (fun hc2 => ?_) (fun hc2 => ?_)
  ·replace hF := ite_t hc2 hF
   refine wp_skip ?_
   refine p_then (wp_seq ?_)
   refine wp_block ?_
   refine wp_seq ?_
   obtain ⟨hg1, hF⟩ := chk_in hF
   obtain ⟨hg2, hF⟩ := chk_in hF
   refine f_quietd (by kernel_rfl) (by kernel_rfl) Z ?_; clear Z; intro Z
   refine q_runk tC1 Z 1 rfl rfl ?_; clear Z a; intro a Z
   refine q_ob Z (v := v1_a0) rfl rfl (by decide) rfl (fun _ hw => Ob_load tC1 rfl rfl rfl (((H.blw hw).bx 0 rfl).cell 1 rfl)) ?_; clear Z a; intro a Z
   refine q_runk tC1 Z 1 rfl rfl ?_; clear Z a; intro a Z
   refine q_ob Z (v := .pointer (some ⟨blkOf v1_a0, oofOf v1_a0 + (i).toNat * 2, none⟩)) rfl rfl (by decide) rfl (fun _ hw => Ob_sidx tC1 rfl rfl rfl rfl (slPl ((H.blw hw).sl 2 rfl) hg1) hg1) ?_; clear Z a; intro a Z
   refine q_ob Z (v := .agg #[.int .i64 ((a0.members.getD (i).toNat default).id), .int .i64 ((a0.members.getD (i).toNat default).serial)]) rfl rfl (by decide) rfl (fun _ hw => Ob_loads tC1 rfl rfl rfl ((slFl ((H.blw hw).sl 2 rfl) hg1).part 0 rfl)) ?_; clear Z a; intro a Z
   refine q_runk tC1 Z 1 rfl rfl ?_; clear Z a; intro a Z
   refine q_ob Z (v := v2_b) rfl rfl (by decide) rfl (fun _ hw => Ob_load tC1 rfl rfl rfl (((H.blw hw).bx 1 rfl).cell 1 rfl)) ?_; clear Z a; intro a Z
   refine q_runk tC1 Z 1 rfl rfl ?_; clear Z a; intro a Z
   refine q_ob Z (v := .pointer (some ⟨blkOf v2_b, oofOf v2_b + (i).toNat * 2, none⟩)) rfl rfl (by decide) rfl (fun _ hw => Ob_sidx tC1 rfl rfl rfl rfl (slPl ((H.blw hw).sl 3 rfl) hg2) hg2) ?_; clear Z a; intro a Z
   refine q_ob Z (v := .agg #[.int .i64 ((b.members.getD (i).toNat default).id), .int .i64 ((b.members.getD (i).toNat default).serial)]) rfl rfl (by decide) rfl (fun _ hw => Ob_loads tC1 rfl rfl rfl ((slFl ((H.blw hw).sl 3 rfl) hg2).part 0 rfl)) ?_; clear Z a; intro a Z
   refine q_ob Z (v := .bool (!eqEMember (a0.members.getD (i).toNat default) (b.members.getD (i).toNat default))) rfl rfl (by decide) rfl (fun _ hw => Ob_bin rfl rfl rfl (eqg_EMember _ _ _ _ _ _) (neq_EMember (a0.members.getD (i).toNat default) (b.members.getD (i).toNat default) _)) ?_; clear Z a; intro a Z
   refine q_end Z [2, 3, 4, 5, 27, 28, 29, 30, 31, 32, 38, 41, 42, 43, 44, 45, 46, 47, 48, 49, 50, 51] rfl ?_; clear Z; intro w4 hb Z
   replace H : Hf I D w I1 w4 [BxC b1 26 [.int .i64 a0.epoch, v1_a0, .int .u64 a0.floor], BxC b2 26 [.int .i64 b.epoch, v2_b, .int .u64 b.floor], SlC NEMember v1_a0 a0.members, SlC NEMember v2_b b.members] := H.blw hb
   clear hb
   refine p_then ?_
   refine f_cond Z rfl (fun hc3 => ?_) (fun hc3 => ?_)
   ·replace hF := ite_t hc3 hF
    refine wp_seq (f_region Z ?_); clear Z; intro Z
    refine s_runk tC1 Z 1 rfl rfl ?_; clear Z a; intro a Z
    refine s_end Z [2, 3, 4, 5, 27, 28, 29, 30, 31, 32, 38, 41, 42, 43, 44, 45, 46, 47, 48, 49, 50, 51] rfl ?_; clear Z; intro Z
    refine p_then (wp_ret ?_)
    refine p_blk_r ?_
    refine p_then_r ?_
    refine p_then_r ?_
    refine p_blk_r ?_
    refine p_then_r ?_
    obtain rfl := some_in hF
    exact f_ret Z (run_results1 rfl Z rfl) ⟨rfl, I1, (H.sub [] rfl).eq rfl⟩
   ·replace hF := ite_f hc3 hF
    refine wp_skip ?_
    refine p_blk ?_
    refine p_then ?_
    obtain ⟨hg3, hF⟩ := chk_in hF
    refine f_region Z ?_; clear Z; intro Z
    refine s_runk tC1 Z 1 rfl rfl ?_; clear Z a; intro a Z
    refine s_ob Z (v := .int .i64 (i + 1)) rfl rfl (by decide) rfl (Ob_add rfl rfl rfl (wrI hg3)) ?_; clear Z a; intro a Z
    refine s_runk tC1 Z 1 rfl rfl ?_; clear Z a; intro a Z
    refine s_end Z [2, 3, 4, 5, 27, 28, 29, 30, 31, 32, 38, 41, 42, 43, 44, 45, 46, 47, 48, 49, 50, 51, 39, 40] rfl ?_; clear Z; intro Z
    refine p_then ?_
    exact ⟨(i + 1), ⟨Z.sub (ts := [2, 3, 4, 5]) rfl, ⟨I1, (H.sub [(0, false), (0, false), (0, true), (1, true)] rfl).eq rfl⟩⟩, hF⟩
  ·replace hF := ite_f hc2 hF
   refine wp_exit ?_
   refine p_then_x ?_
   refine p_then_x ?_
   refine f_exit_here ?_
   refine p_then (wp_seq (f_region Z ?_)); clear Z; intro Z
   refine s_runk tC1 Z 1 rfl rfl ?_; clear Z a; intro a Z
   refine s_end Z [4] rfl ?_; clear Z; intro Z
   refine p_then (wp_ret ?_)
   obtain rfl := some_in hF
   exact f_ret Z (run_results1 rfl Z rfl) ⟨rfl, I1, (H.sub [] rfl).eq rfl⟩

end Go.Proofs.Ytbfglbbbkcpgeaa
