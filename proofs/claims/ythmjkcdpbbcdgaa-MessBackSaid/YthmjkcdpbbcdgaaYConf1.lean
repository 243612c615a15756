/- Configurations: read out of bytes. -/
import Derived.Test.YthmjkcdpbbcdgaaYConf
namespace Go.Proofs.Ythmjkcdpbbcdgaa
open Go.RowKit
def tC1L : TabL := ⟨[(26624, 0), (26625, 1), (26626, 2), (105473, 1)], [], [], [(24, (103, 2))], [(3, (1, false)), (22, (1, false)), (24, (1, false)), (26, (3, true)), (103, (2, true))]⟩

def tC1 : Tab Try.prog := ⟨tC1L, by kernel_rfl⟩

theorem fn_17_YConf1 : IsFn Try.prog 17 := ⟨_, Try.func17, by kernel_rfl, by kernel_rfl⟩

theorem fn_18_YConf1 : IsFn Try.prog 18 := ⟨_, Try.func18, by kernel_rfl, by kernel_rfl⟩

theorem fn_22_YConf1 : IsFn Try.prog 22 := ⟨_, Try.func22, by kernel_rfl, by kernel_rfl⟩

theorem fn_51_YConf1 : IsFn Try.prog 51 := ⟨_, Try.func51, by kernel_rfl, by kernel_rfl⟩

theorem fn_58_YConf1 : IsFn Try.prog 58 := ⟨_, Try.func58, by kernel_rfl, by kernel_rfl⟩

theorem E_24_YConf1 : Elem Try.prog 24 103 2 16 := ⟨Try.underlying24, by
 have h : (Try.prog.info? 103).map (fun i => (i.zero, i.size, i.bytes)) = some (some (.agg #[.int .i64 0, .int .i64 0]), 2, 16) := by kernel_rfl
 obtain ⟨i, hi, h1⟩ := Option.map_eq_some_iff.1 h
 simp only [Prod.mk.injEq] at h1
 exact ⟨i, _, hi, h1.1, h1.2.1, h1.2.2, by rfl⟩, by decide⟩

theorem neq_EMember (x y : EMember) (w : World) : (binOp .neq 103 (.agg (cEMember x).toArray) (.agg (cEMember y).toArray)).run Try.prog w = .ok (.bool (!eqEMember x y)) w := by
 have h1 := run_equalIn_struct (P := Try.prog) w 9999 103 (cEMember x).toArray (cEMember y).toArray (by rw [fieldsOf_of Try.underlying103]; exact Try.underlying103) (by kernel_rfl)
 rw [run_neq_struct, h1, fieldsOf_of Try.underlying103]
 simp [Op.eqFields, part, isAgg, cEMember, beqS, eqEMember, seqB_eq, run_underlying Try.underlying3, run_equalIn_int w 9998 3 _ _ _ _ Try.underlying3]
 try ((repeat' split) <;> simp_all)

theorem eqg_EMember (op : BinOp) (x y : Operand) (a b : Array Value) (w : World) : (eqGuard op 103 x y (.agg a) (.agg b)).run Try.prog w = .ok () w := run_eqGuard_agg (by kernel_rfl) op x y a b w

def F_conf_Of_l1 (n0 : Int × Ewire_Reader) (n0_2 : Int × Ewire_Reader) (rc : (Int × ByteArray × Int × Int × Bool × (List EMember)) → Option (EConf × Int)) (sg : Int × ByteArray × Int × Int × Bool × (List EMember)) : Option (EConf × Int) := match sg with | (x, r_s, r_at_, r_e, r_made, c_members) => if (decide (x < n0_2.1)) = true then ((F_wire_Reader_Num ({ s := r_s, at_ := r_at_, e := r_e, made := r_made } : Ewire_Reader) 3).bind fun n0_3 => ((F_wire_Reader_Num n0_3.2 1073741824).bind fun n0_4 => (chk (((c_members.length + [({ id := n0_3.1, serial := n0_4.1 } : EMember)].length : Nat) : Int) * 16 ≤ 140737488355328) (chk (inI (x + 1)) (rc (x + 1, n0_4.2.s, n0_4.2.at_, n0_4.2.e, n0_4.2.made, c_members ++ [({ id := n0_3.1, serial := n0_4.1 } : EMember)])))))) else ((F_wire_Reader_Big ({ s := r_s, at_ := r_at_, e := r_e, made := r_made } : Ewire_Reader)).bind fun b => ((F_wire_Reader_End b.2).bind fun e => (if (e != 0) = true then (some ((default : EConf), e)) else ((F_conf_Check ({ epoch := n0.1, members := c_members, floor := b.1 } : EConf)).bind fun c => (if (c != 0) = true then (some ((default : EConf), c)) else (some (({ epoch := n0.1, members := c_members, floor := b.1 } : EConf), 0)))))))

def F_conf_Of (s0 : ByteArray) : Option (EConf × Int) := (F_wire_Open s0).bind fun o => ((F_wire_Reader_Num o 1073741824).bind fun n0 => ((F_wire_Reader_Num n0.2 4).bind fun n0_2 => (iter (F_conf_Of_l1 n0 n0_2) FU (0, n0_2.2.s, n0_2.2.at_, n0_2.2.e, n0_2.2.made, ([] : List EMember)))))

set_option maxHeartbeats 1000000 in
theorem c_conf_Of {I D : Dm} {s0 : ByteArray} {w : World} {rr : EConf × Int} (hF : F_conf_Of s0 = some rr) (H : St I D w []) :
  Calls Try.prog 47 #[vS s0] w (Ret fun vv w' => ∃ q1 : Value, vv = .tuple #[.agg #[vI rr.1.epoch, q1, vU rr.1.floor], vI rr.2] ∧ ∃ I', Hf I D w I' w' [SlC NEMember q1 rr.1.members]) := by
 replace H := H.hf
 unfold F_conf_Of at hF
 refine f_enter 47 Try.func47 rfl rfl (Nat.le_of_ble_eq_true rfl) fun a Z => ?_
 replace Z := Z.sub (ts := [0]) rfl
 refine wp_seq (f_region Z ?_); clear Z; intro Z
 refine hA Z H [vI 0, nS, vU 0] rfl rfl (by kernel_rfl) fun a w1 b1 H Z => ?_
 refine s_runk tC1 Z 1 rfl rfl fun a Z => ?_
 refine s_end Z [0, 2, 3] rfl fun Z => ?_
 refine p_then (wp_seq ?_)
 obtain ⟨o, hx1, hF⟩ := bnd_in hF
 refine f_region Z fun Z => ?_
 refine s_runk tC1 Z 1 rfl rfl fun a Z => ?_
 refine hC Z H [] rfl #[] fn_17_YConf1 rfl rfl (fun D h => have q := c_wire_Open hx1 h; q) fun vv a w2 D2 hr hF2 Z => ?_
 obtain ⟨g1, rfl, I1, K⟩ := hr
 have H := (hF2 K).nf rfl
 refine s_runk tC1 Z 1 rfl rfl fun a Z => ?_
 refine s_end Z [2, 3, 4] rfl fun Z => ?_
 refine p_then (wp_seq ?_)
 obtain ⟨n0, hx2, hF⟩ := bnd_in hF
 refine f_region Z fun Z => ?_
 refine s_runk tC1 Z 1 rfl rfl fun a Z => ?_
 refine hC Z H [(0, false)] rfl #[] fn_18_YConf1 rfl rfl (fun D h => have q := c_wire_Reader_Num hx2 h; q) fun vv a w3 D2 hr hF2 Z => ?_
 obtain ⟨rfl, I2, K⟩ := hr
 have H := (hF2 K).nf rfl
 refine sO Z (.agg #[vI n0.1, nS, vU 0]) rfl (Ob_build (vs := [(0, vI n0.1)]) rfl rfl (by go_simp <;> rfl)) fun a Z => ?_
 refine hA Z H [vI 0, nS, vU 0] rfl rfl (by kernel_rfl) fun a w4 b2 H Z => ?_
 refine hT tC1 Z H 0 rfl rfl rfl rfl rfl (one_cons rfl (one_cons (slS.one slS.nil) (one_cons rfl one_nil))) (Nat.le_of_ble_eq_true rfl) rfl fun w5 H => ?_
 dsimp only [List.eraseIdx] at H
 refine s_end Z [2, 3, 4, 5] rfl fun Z => ?_
 refine p_then (wp_seq ?_)
 refine wp_seq ?_
 obtain ⟨n0_2, hx3, hF⟩ := bnd_in hF
 refine f_region Z fun Z => ?_
 refine s_runk tC1 Z 1 rfl rfl fun a Z => ?_
 refine hC Z H [(1, false)] rfl #[] fn_18_YConf1 rfl rfl (fun D h => have q := c_wire_Reader_Num hx3 h; q) fun vv a w6 D2 hr hF2 Z => ?_
 obtain ⟨rfl, I3, K⟩ := hr
 have H := (hF2 K).nf rfl
 refine s_runk tC1 Z 1 rfl rfl fun a Z => ?_
 refine s_end Z [2, 3, 4, 5, 15, 16] rfl fun Z => ?_
 refine p_then (wp_block ?_)
 replace H := H.nilow NEMember 103
 refine f_iter hF (fun sg a' w' => match sg with | (x, r_s, r_at_, r_e, r_made, c_members) => ∃ v1 : Value, Sl 47 [(2, pp b1 0), (3, vI 0), (4, pp g1 0), (5, pp b2 0), (15, vI n0_2.1), (16, vI x)] a' ∧ ∃ I2, Hf I D w I2 w' [BxC b1 26 [vI 0, nS, vU 0], BxC g1 85 [vS r_s, vI r_at_, vI r_e, vT r_made], BxC b2 26 [vI n0.1, v1, vU 0], OwC NEMember 103 v1 c_members]) ⟨nS, Z.sub (ts := [2, 3, 4, 5, 15, 16]) rfl, ⟨I3, (H.sub [(3, false), (1, false), (1, false), (0, false)] rfl).eq rfl⟩⟩ ?_
 rintro rc ⟨x, r_s, r_at_, r_e, r_made, c_members⟩ a w7 ⟨v1, Z, I4, H⟩ hF
 unfold F_conf_Of_l1 at hF
 try dsimp only at hF
 refine wp_seq (f_region Z ?_); clear Z; intro Z
 refine s_runk tC1 Z 1 rfl rfl fun a Z => ?_
 refine s_end Z [2, 3, 4, 5, 15, 16, 17] rfl fun Z => ?_
 refine p_then (wp_seq ?_)
 refine f_cond Z rfl (fun hc1 => ?_) (fun hc1 => ?_)
 ·replace hF := ite_t hc1 hF
  refine wp_skip ?_
  refine p_then (wp_seq ?_)
  refine wp_block ?_
  refine wp_seq ?_
  obtain ⟨n0_3, hx4, hF⟩ := bnd_in hF
  refine f_region Z fun Z => ?_
  refine s_runk tC1 Z 1 rfl rfl fun a Z => ?_
  refine hC Z H [(1, false)] rfl #[] fn_18_YConf1 rfl rfl (fun D h => have q := c_wire_Reader_Num hx4 h; q) fun vv a w8 D2 hr hF2 Z => ?_
  obtain ⟨rfl, I5, K⟩ := hr
  have H := (hF2 K).nf rfl
  refine sO Z (.agg #[vI n0_3.1, vI 0]) rfl (Ob_build (vs := [(0, vI n0_3.1)]) rfl rfl (by go_simp <;> rfl)) fun a Z => ?_
  refine hA Z H [vI 0, vI 0] rfl rfl (by kernel_rfl) fun a w9 b3 H Z => ?_
  refine hT tC1 Z H 0 rfl rfl rfl rfl rfl (onR 2 rfl one_nil) (Nat.le_of_ble_eq_true rfl) rfl fun w10 H => ?_
  dsimp only [List.eraseIdx] at H
  refine s_end Z [2, 3, 4, 5, 15, 16, 17, 18, 19, 20, 6] rfl fun Z => ?_
  refine p_then (wp_seq ?_)
  obtain ⟨n0_4, hx5, hF⟩ := bnd_in hF
  refine f_region Z fun Z => ?_
  refine s_runk tC1 Z 1 rfl rfl fun a Z => ?_
  refine hC Z H [(1, false)] rfl #[] fn_18_YConf1 rfl rfl (fun D h => have q := c_wire_Reader_Num hx5 h; q) fun vv a w11 D2 hr hF2 Z => ?_
  obtain ⟨rfl, I6, K⟩ := hr
  have H := (hF2 K).nf rfl
  refine s_runk tC1 Z 1 rfl rfl fun a Z => ?_
  refine hT tC1 Z H 1 rfl rfl rfl rfl rfl (one_cons rfl one_nil) (Nat.le_of_ble_eq_true rfl) rfl fun w12 H => ?_
  dsimp only [List.eraseIdx] at H
  refine s_end Z [2, 3, 4, 5, 15, 16, 17, 18, 19, 20, 6, 21, 22, 23] rfl fun Z => ?_
  refine p_then ?_
  obtain ⟨hg1, hF⟩ := chk_in hF
  refine f_region Z fun Z => ?_
  refine s_runk tC1 Z 1 rfl rfl fun a Z => ?_
  refine sO Z _ rfl (oL tC1 rfl rfl (H.bc 3 1 rfl rfl)) fun a Z => ?_
  refine sO Z (.agg #[vI n0_3.1, vI n0_4.1]) rfl (oA tC1 rfl rfl ((H.bx 0 rfl).part 0 rfl)) fun a Z => ?_
  refine h_bslice Z H (vs := [(0, .agg #[vI n0_3.1, vI n0_4.1])]) (cl := [vI n0_3.1, vI n0_4.1]) (e := 103) rfl rfl rfl (by decide) rfl rfl (fun w => run_bslice (z := .agg #[vI 0, vI 0]) (m := 2) Try.underlying24 (by kernel_rfl) rfl rfl (by decide) (by simp [Instr.fill, Value.cells]) w) fun a w13 b4 H Z => ?_
  refine h_appO Z H 5 E_24_YConf1 [({ id := n0_3.1, serial := n0_4.1 } : EMember)] rfl rfl rfl rfl rfl (by decide) rfl rfl rfl (slRep2.box1 (H.bx 0 rfl) ⟨rfl, trivial⟩) hg1 (by decide) fun v2 a w14 H Z => ?_
  dsimp only [List.eraseIdx] at H
  replace H := (H.sub [(0, false), (1, false), (1, false), (1, false), (1, false)] rfl).nf rfl
  refine s_runk tC1 Z 1 rfl rfl fun a Z => ?_
  refine hT tC1 Z H 4 rfl rfl (slS.cells (H.owshape 0 rfl)) rfl rfl (one_cons (slS.one (H.owshape 0 rfl)) one_nil) (Nat.le_of_ble_eq_true rfl) rfl fun w15 H => ?_
  dsimp only [List.eraseIdx] at H
  refine s_end Z [2, 3, 4, 5, 15, 16, 17, 18, 19, 20, 6, 21, 22, 23, 24, 25, 26, 27, 28, 29] rfl fun Z => ?_
  refine p_blk ?_
  refine p_then ?_
  obtain ⟨hg2, hF⟩ := chk_in hF
  refine f_region Z fun Z => ?_
  refine sO Z (vI (x + 1)) rfl (Ob_add rfl rfl rfl (wrI hg2)) fun a Z => ?_
  refine s_runk tC1 Z 1 rfl rfl fun a Z => ?_
  refine s_end Z [2, 3, 4, 5, 15, 16, 17, 18, 19, 20, 6, 21, 22, 23, 24, 25, 26, 27, 28, 29, 30] rfl fun Z => ?_
  refine p_then ?_
  exact ⟨(x + 1, n0_4.2.s, n0_4.2.at_, n0_4.2.e, n0_4.2.made, c_members ++ [({ id := n0_3.1, serial := n0_4.1 } : EMember)]), ⟨v2, Z.sub (ts := [2, 3, 4, 5, 15, 16]) rfl, ⟨I6, (H.sub [(4, false), (3, false), (0, false), (0, false)] rfl).eq rfl⟩⟩, hF⟩
 ·replace hF := ite_f hc1 hF
  refine wp_exit ?_
  refine p_then_x ?_
  refine p_then_x ?_
  refine f_exit_here ?_
  refine p_then (wp_seq ?_)
  obtain ⟨b, hx6, hF⟩ := bnd_in hF
  refine f_region Z fun Z => ?_
  refine s_runk tC1 Z 1 rfl rfl fun a Z => ?_
  refine hC Z H [(1, false)] rfl #[] fn_51_YConf1 rfl rfl (fun D h => have q := c_wire_Reader_Big hx6 h; q) fun vv a w16 D2 hr hF2 Z => ?_
  obtain ⟨rfl, I7, K⟩ := hr
  have H := (hF2 K).nf rfl
  refine s_runk tC1 Z 1 rfl rfl fun a Z => ?_
  refine hT tC1 Z H 2 rfl rfl rfl rfl rfl (one_cons rfl one_nil) (Nat.le_of_ble_eq_true rfl) rfl fun w17 H => ?_
  dsimp only [List.eraseIdx] at H
  refine s_end Z [2, 3, 4, 5] rfl fun Z => ?_
  refine p_then (wp_seq ?_)
  refine wp_seq ?_
  obtain ⟨e, hx7, hF⟩ := bnd_in hF
  refine f_region Z fun Z => ?_
  refine s_runk tC1 Z 1 rfl rfl fun a Z => ?_
  refine hC Z H [(1, false)] rfl #[] fn_22_YConf1 rfl rfl (fun D h => have q := c_wire_Reader_End hx7 h; q) fun vv a w18 D2 hr hF2 Z => ?_
  obtain ⟨rfl, I8, K⟩ := hr
  have H := (hF2 K).nf rfl
  refine s_runk tC1 Z 1 rfl rfl fun a Z => ?_
  refine s_end Z [2, 3, 5, 7] rfl fun Z => ?_
  refine p_then (wp_seq (f_region Z ?_)); clear Z; intro Z
  refine s_runk tC1 Z 2 rfl rfl fun a Z => ?_
  refine s_end Z [2, 3, 5, 7, 37] rfl fun Z => ?_
  refine p_then ?_
  refine f_cond Z rfl (fun hc2 => ?_) (fun hc2 => ?_)
  ·replace hF := ite_t hc2 hF
   refine wp_seq (f_region Z ?_); clear Z; intro Z
   refine sO Z (.agg #[vI 0, nS, vU 0]) rfl (Ob_build (vs := []) rfl rfl (by go_simp <;> rfl)) fun a Z => ?_
   refine s_runk tC1 Z 1 rfl rfl fun a Z => ?_
   refine hT tC1 Z H 2 rfl rfl rfl rfl rfl (one_cons rfl (one_cons (slS.one slS.nil) (one_cons rfl one_nil))) (Nat.le_of_ble_eq_true rfl) rfl fun w19 H => ?_
   dsimp only [List.eraseIdx] at H
   refine s_runk tC1 Z 1 rfl rfl fun a Z => ?_
   refine s_end Z [2, 3, 5] rfl fun Z => ?_
   refine p_then (wp_ret ?_)
   refine p_then_r ?_
   replace H := H.slNil NEMember
   obtain rfl := some_in hF
   exact f_ret Z (run_resultsCT rfl Z rfl (run_loadVar_agg tC1 rfl (H.bx 1 rfl).at) rfl) ⟨nS, rfl, I8, (H.sub [(0, true)] rfl).eq rfl⟩
  ·replace hF := ite_f hc2 hF
   refine wp_skip ?_
   refine p_then (wp_seq ?_)
   refine wp_seq ?_
   obtain ⟨c, hx8, hF⟩ := bnd_in hF
   refine f_region Z fun Z => ?_
   refine sO Z (.agg #[vI n0.1, v1, vU b.1]) rfl (oA tC1 rfl rfl ((H.bx 1 rfl).part 0 rfl)) fun a Z => ?_
   refine s_call Z (caps := #[]) fn_58_YConf1 rfl rfl rfl rfl rfl (by decide) rfl rfl (have hq := c_conf_Check hx8 (stS (H.owA 3 rfl) (stB _)); plainC hq) ?_; rintro _ a w20 ⟨rfl, hb⟩ Z
   replace H := H.blw hb
   clear hb
   refine s_runk tC1 Z 1 rfl rfl fun a Z => ?_
   refine s_end Z [2, 3, 5, 8] rfl fun Z => ?_
   refine p_then (wp_seq (f_region Z ?_)); clear Z; intro Z
   refine s_runk tC1 Z 2 rfl rfl fun a Z => ?_
   refine s_end Z [2, 3, 5, 8, 43] rfl fun Z => ?_
   refine p_then ?_
   refine f_cond Z rfl (fun hc3 => ?_) (fun hc3 => ?_)
   ·replace hF := ite_t hc3 hF
    refine wp_seq (f_region Z ?_); clear Z; intro Z
    refine sO Z (.agg #[vI 0, nS, vU 0]) rfl (Ob_build (vs := []) rfl rfl (by go_simp <;> rfl)) fun a Z => ?_
    refine s_runk tC1 Z 1 rfl rfl fun a Z => ?_
    refine hT tC1 Z H 2 rfl rfl rfl rfl rfl (one_cons rfl (one_cons (slS.one slS.nil) (one_cons rfl one_nil))) (Nat.le_of_ble_eq_true rfl) rfl fun w21 H => ?_
    dsimp only [List.eraseIdx] at H
    refine s_runk tC1 Z 1 rfl rfl fun a Z => ?_
    refine s_end Z [2, 3, 5] rfl fun Z => ?_
    refine p_then (wp_ret ?_)
    refine p_then_r ?_
    replace H := H.slNil NEMember
    obtain rfl := some_in hF
    exact f_ret Z (run_resultsCT rfl Z rfl (run_loadVar_agg tC1 rfl (H.bx 1 rfl).at) rfl) ⟨nS, rfl, I8, (H.sub [(0, true)] rfl).eq rfl⟩
   ·replace hF := ite_f hc3 hF
    refine wp_skip ?_
    refine p_then (wp_seq (f_region Z ?_)); clear Z; intro Z
    refine sO Z (.agg #[vI n0.1, v1, vU b.1]) rfl (oA tC1 rfl rfl ((H.bx 1 rfl).part 0 rfl)) fun a Z => ?_
    refine hT tC1 Z H 2 rfl rfl rfl rfl rfl (one_cons rfl (one_cons (slS.one (H.owshape 3 rfl)) (one_cons rfl one_nil))) (Nat.le_of_ble_eq_true rfl) rfl fun w22 H => ?_
    dsimp only [List.eraseIdx] at H
    refine s_runk tC1 Z 1 rfl rfl fun a Z => ?_
    refine s_end Z [2, 3] rfl fun Z => ?_
    refine p_then (wp_ret ?_)
    obtain ⟨I9, _, H⟩ := H.frzow 3 rfl
    replace H := H.nf rfl; try dsimp only at H
    obtain rfl := some_in hF
    exact f_ret Z (run_resultsCT rfl Z rfl (run_loadVar_agg tC1 rfl (H.bx 1 rfl).at) rfl) ⟨v1, rfl, I9, (H.sub [(0, true)] rfl).eq rfl⟩

def F_ref07_Same_l1 (a0 : EConf) (b : EConf) (rc : Int → Option Bool) (sg : Int) : Option Bool := match sg with | i => if ((decide (i < (a0.members.length : Int))) && (decide (i < (b.members.length : Int)))) = true then (chk ((0 : Int) ≤ i ∧ i < (a0.members.length : Int)) (chk ((0 : Int) ≤ i ∧ i < (b.members.length : Int)) (if (!eqEMember (a0.members.getD (i).toNat default) (b.members.getD (i).toNat default)) = true then (some false) else (chk (inI (i + 1)) (rc (i + 1)))))) else (some true)

def F_ref07_Same (a0 : EConf) (b : EConf) : Option Bool := if (((a0.epoch != b.epoch) || (a0.floor != b.floor)) || ((a0.members.length : Int) != (b.members.length : Int))) = true then (some false) else (iter (F_ref07_Same_l1 a0 b) FU 0)

set_option maxHeartbeats 1000000 in
theorem c_ref07_Same {I D : Dm} {a0 : EConf} {v1_a0 : Value} {b : EConf} {v2_b : Value} {w : World} {rr : Bool} (hF : F_ref07_Same a0 b = some rr) (H : St I D w [SlC NEMember v1_a0 a0.members, SlC NEMember v2_b b.members]) :
  Calls Try.prog 24 #[.agg #[vI a0.epoch, v1_a0, vU a0.floor], .agg #[vI b.epoch, v2_b, vU b.floor]] w (Ret fun vv w' => vv = vT rr ∧ ∃ I', Hf I D w I' w' []) := by
 replace H := H.hf
 unfold F_ref07_Same at hF
 refine f_enter 52 Try.func24 rfl rfl (Nat.le_of_ble_eq_true rfl) fun a Z => ?_
 replace Z := Z.sub (ts := [0, 1]) rfl
 refine wp_seq (f_region Z ?_); clear Z; intro Z
 refine hB Z H [vI a0.epoch, v1_a0, vU a0.floor] rfl rfl rfl rfl fun a w1 b1 H Z => ?_
 refine hB Z H [vI b.epoch, v2_b, vU b.floor] rfl rfl rfl rfl fun a w2 b2 H Z => ?_
 refine s_runk tC1 Z 1 rfl rfl fun a Z => ?_
 refine s_end Z [2, 3, 4] rfl fun Z => ?_
 refine p_then (wp_seq ?_)
 refine wp_seq (f_region Z ?_); clear Z; intro Z
 refine s_runk tC1 Z 1 rfl rfl fun a Z => ?_
 refine sO Z _ rfl (oL tC1 rfl rfl (H.bc 1 0 rfl rfl)) fun a Z => ?_
 refine s_runk tC1 Z 1 rfl rfl fun a Z => ?_
 refine sO Z _ rfl (oL tC1 rfl rfl (H.bc 0 0 rfl rfl)) fun a Z => ?_
 refine s_runk tC1 Z 2 rfl rfl fun a Z => ?_
 refine gO Z (pp b1 2) rfl (wantB_f _) (.n 2 rfl .z) (fun hp => Ob_c tC1 rfl) fun a Z => ?_
 refine gO Z _ rfl (wantB_f _) (.c 12 rfl id .z) (fun hp => oL tC1 rfl rfl (H.bc 1 2 rfl rfl)) fun a Z => ?_
 refine gO Z (pp b2 2) rfl (wantB_f _) (.n 3 rfl .z) (fun hp => Ob_c tC1 rfl) fun a Z => ?_
 refine gO Z _ rfl (wantB_f _) (.c 14 rfl id .z) (fun hp => oL tC1 rfl rfl (H.bc 0 2 rfl rfl)) fun a Z => ?_
 refine gO Z (vT (a0.floor != b.floor)) rfl (wantB_f _) (.c 13 rfl id (.c 15 rfl id .z)) (fun hp => Ob_c tC1 rfl) fun a Z => ?_
 refine sO Z (vT ((a0.epoch != b.epoch) || (a0.floor != b.floor))) rfl (Ob_pick rfl rfl rfl rfl (pick_or _ _)) fun a Z => ?_
 refine s_runk tC1 Z 1 rfl rfl fun a Z => ?_
 refine gO Z (pp b1 1) rfl (wantB_f _) (.n 2 rfl .z) (fun hp => Ob_c tC1 rfl) fun a Z => ?_
 refine gO Z _ rfl (wantB_f _) (.c 19 rfl id .z) (fun hp => oL tC1 rfl rfl (H.bc 1 1 rfl rfl)) fun a Z => ?_
 refine gO Z (vI (ln a0.members)) rfl (wantB_f _) (.c 20 rfl id .z) (fun hp => Ob_slen tC1 rfl rfl rfl (H.slshape 2 rfl)) fun a Z => ?_
 refine gO Z (pp b2 1) rfl (wantB_f _) (.n 3 rfl .z) (fun hp => Ob_c tC1 rfl) fun a Z => ?_
 refine gO Z _ rfl (wantB_f _) (.c 22 rfl id .z) (fun hp => oL tC1 rfl rfl (H.bc 0 1 rfl rfl)) fun a Z => ?_
 refine gO Z (vI (ln b.members)) rfl (wantB_f _) (.c 23 rfl id .z) (fun hp => Ob_slen tC1 rfl rfl rfl (H.slshape 3 rfl)) fun a Z => ?_
 refine gO Z (vT ((ln a0.members) != (ln b.members))) rfl (wantB_f _) (.c 21 rfl id (.c 24 rfl id .z)) (fun hp => Ob_c tC1 rfl) fun a Z => ?_
 refine sO Z (vT (((a0.epoch != b.epoch) || (a0.floor != b.floor)) || ((ln a0.members) != (ln b.members)))) rfl (Ob_pick rfl rfl rfl rfl (pick_or _ _)) fun a Z => ?_
 refine s_end Z [2, 3, 4, 26] rfl fun Z => ?_
 refine p_then ?_
 refine f_cond Z rfl (fun hc1 => ?_) (fun hc1 => ?_)
 ·replace hF := ite_t hc1 hF
  refine wp_seq (f_region Z ?_); clear Z; intro Z
  refine s_runk tC1 Z 1 rfl rfl fun a Z => ?_
  refine s_end Z [2, 3, 4] rfl fun Z => ?_
  refine p_then (wp_ret ?_)
  refine p_then_r ?_
  obtain rfl := some_in hF
  exact f_ret Z (run_results1 rfl Z rfl) ⟨rfl, I, (H.sub [] rfl).eq rfl⟩
 ·replace hF := ite_f hc1 hF
  refine wp_skip ?_
  refine p_then (wp_seq ?_)
  refine wp_seq (f_region Z ?_); clear Z; intro Z
  refine s_runk tC1 Z 1 rfl rfl fun a Z => ?_
  refine s_end Z [2, 3, 4, 5] rfl fun Z => ?_
  refine p_then (wp_block ?_)
  refine f_iter hF (fun sg a' w' => match sg with | i => Sl 52 [(2, pp b1 0), (3, pp b2 0), (4, vT false), (5, vI i)] a' ∧ ∃ I2, Hf I D w I2 w' [BxC b1 26 [vI a0.epoch, v1_a0, vU a0.floor], BxC b2 26 [vI b.epoch, v2_b, vU b.floor], SlC NEMember v1_a0 a0.members, SlC NEMember v2_b b.members]) ⟨Z.sub (ts := [2, 3, 4, 5]) rfl, ⟨I, (H.sub [(1, false), (0, false), (0, true), (1, true)] rfl).eq rfl⟩⟩ ?_
  rintro rc i a w3 ⟨Z, I1, H⟩ hF
  unfold F_ref07_Same_l1 at hF
  try dsimp only at hF
  refine wp_seq ?_
  refine wp_seq (f_region Z ?_); clear Z; intro Z
  refine s_runk tC1 Z 2 rfl rfl fun a Z => ?_
  refine sO Z _ rfl (oL tC1 rfl rfl (H.bc 0 1 rfl rfl)) fun a Z => ?_
  refine sO Z (vI (ln a0.members)) rfl (Ob_slen tC1 rfl rfl rfl (H.slshape 2 rfl)) fun a Z => ?_
  refine s_runk tC1 Z 2 rfl rfl fun a Z => ?_
  refine gO Z (vI i) rfl (wantB_t _) (.n 5 rfl .z) (fun hp => Ob_c tC1 rfl) fun a Z => ?_
  refine gO Z (pp b2 1) rfl (wantB_t _) (.n 3 rfl .z) (fun hp => Ob_c tC1 rfl) fun a Z => ?_
  refine gO Z _ rfl (wantB_t _) (.c 34 rfl id .z) (fun hp => oL tC1 rfl rfl (H.bc 1 1 rfl rfl)) fun a Z => ?_
  refine gO Z (vI (ln b.members)) rfl (wantB_t _) (.c 35 rfl id .z) (fun hp => Ob_slen tC1 rfl rfl rfl (H.slshape 3 rfl)) fun a Z => ?_
  refine gO Z (vT (decide (i < (ln b.members)))) rfl (wantB_t _) (.c 33 rfl id (.c 36 rfl id .z)) (fun hp => Ob_c tC1 rfl) fun a Z => ?_
  refine sO Z (vT ((decide (i < (ln a0.members))) && (decide (i < (ln b.members))))) rfl (Ob_pick rfl rfl rfl rfl (pick_and _ _)) fun a Z => ?_
  refine s_end Z [2, 3, 4, 5, 27, 28, 29, 30, 31, 32, 38] rfl fun Z => ?_
  refine p_then ?_
  refine f_cond Z rfl (fun hc2 => ?_) (fun hc2 => ?_)
  ·replace hF := ite_t hc2 hF
   refine wp_skip ?_
   refine p_then (wp_seq ?_)
   refine wp_block ?_
   refine wp_seq ?_
   obtain ⟨hg1, hF⟩ := chk_in hF
   obtain ⟨hg2, hF⟩ := chk_in hF
   refine f_quietd (by kernel_rfl) (by kernel_rfl) Z fun Z => ?_
   refine q_runk tC1 Z 1 rfl rfl fun a Z => ?_
   refine qO Z _ rfl (fun _ hw => oL tC1 rfl rfl ((H.blw hw).bc 0 1 rfl rfl)) fun a Z => ?_
   refine q_runk tC1 Z 1 rfl rfl fun a Z => ?_
   refine qO Z (.pointer (some ⟨blkOf v1_a0, oofOf v1_a0 + (i).toNat * 2, none⟩)) rfl (fun _ hw => Ob_sidx tC1 rfl rfl rfl rfl (slPl ((H.blw hw).sl 2 rfl) hg1) hg1) fun a Z => ?_
   refine qO Z (.agg #[vI ((gi a0.members i).id), vI ((gi a0.members i).serial)]) rfl (fun _ hw => oA tC1 rfl rfl ((slFl ((H.blw hw).sl 2 rfl) hg1).part 0 rfl)) fun a Z => ?_
   refine q_runk tC1 Z 1 rfl rfl fun a Z => ?_
   refine qO Z _ rfl (fun _ hw => oL tC1 rfl rfl ((H.blw hw).bc 1 1 rfl rfl)) fun a Z => ?_
   refine q_runk tC1 Z 1 rfl rfl fun a Z => ?_
   refine qO Z (.pointer (some ⟨blkOf v2_b, oofOf v2_b + (i).toNat * 2, none⟩)) rfl (fun _ hw => Ob_sidx tC1 rfl rfl rfl rfl (slPl ((H.blw hw).sl 3 rfl) hg2) hg2) fun a Z => ?_
   refine qO Z (.agg #[vI ((gi b.members i).id), vI ((gi b.members i).serial)]) rfl (fun _ hw => oA tC1 rfl rfl ((slFl ((H.blw hw).sl 3 rfl) hg2).part 0 rfl)) fun a Z => ?_
   refine qO Z (vT (!eqEMember (gi a0.members i) (gi b.members i))) rfl (fun _ hw => Ob_bin rfl rfl rfl (eqg_EMember _ _ _ _ _ _) (neq_EMember (gi a0.members i) (gi b.members i) _)) fun a Z => ?_
   refine q_end Z [2, 3, 4, 5, 27, 28, 29, 30, 31, 32, 38, 41, 42, 43, 44, 45, 46, 47, 48, 49, 50, 51] rfl fun w4 hb Z => ?_
   replace H := H.blw hb
   clear hb
   refine p_then ?_
   refine f_cond Z rfl (fun hc3 => ?_) (fun hc3 => ?_)
   ·replace hF := ite_t hc3 hF
    refine wp_seq (f_region Z ?_); clear Z; intro Z
    refine s_runk tC1 Z 1 rfl rfl fun a Z => ?_
    refine s_end Z [2, 3, 4, 5, 27, 28, 29, 30, 31, 32, 38, 41, 42, 43, 44, 45, 46, 47, 48, 49, 50, 51] rfl fun Z => ?_
    refine p_then (wp_ret ?_)
    refine p_blk_r ?_
    refine p_then_r ?_
    refine p_then_r ?_
    refine p_blk_r ?_
    refine p_then_r ?_
    obtain rfl := some_in hF
    exact f_ret Z (run_results1 rfl Z rfl) ⟨rfl, I1, (H.sub [] rfl).eq rfl⟩
   ·replace hF := ite_f hc3 hF
    refine wp_skip ?_
    refine p_blk ?_
    refine p_then ?_
    obtain ⟨hg3, hF⟩ := chk_in hF
    refine f_region Z fun Z => ?_
    refine s_runk tC1 Z 1 rfl rfl fun a Z => ?_
    refine sO Z (vI (i + 1)) rfl (Ob_add rfl rfl rfl (wrI hg3)) fun a Z => ?_
    refine s_runk tC1 Z 1 rfl rfl fun a Z => ?_
    refine s_end Z [2, 3, 4, 5, 27, 28, 29, 30, 31, 32, 38, 41, 42, 43, 44, 45, 46, 47, 48, 49, 50, 51, 39, 40] rfl fun Z => ?_
    refine p_then ?_
    exact ⟨(i + 1), ⟨Z.sub (ts := [2, 3, 4, 5]) rfl, ⟨I1, (H.sub [(0, false), (0, false), (0, true), (1, true)] rfl).eq rfl⟩⟩, hF⟩
  ·replace hF := ite_f hc2 hF
   refine wp_exit ?_
   refine p_then_x ?_
   refine p_then_x ?_
   refine f_exit_here ?_
   refine p_then (wp_seq (f_region Z ?_)); clear Z; intro Z
   refine s_runk tC1 Z 1 rfl rfl fun a Z => ?_
   refine s_end Z [4] rfl fun Z => ?_
   refine p_then (wp_ret ?_)
   obtain rfl := some_in hF
   exact f_ret Z (run_results1 rfl Z rfl) ⟨rfl, I1, (H.sub [] rfl).eq rfl⟩

end Go.Proofs.Ythmjkcdpbbcdgaa
