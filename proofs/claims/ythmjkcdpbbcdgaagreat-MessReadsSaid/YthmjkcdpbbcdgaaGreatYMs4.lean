/- Messages read, for the document. -/
import Derived.Test.YthmjkcdpbbcdgaaGreatYMs2
namespace Go.Proofs.YthmjkcdpbbcdgaaGreat
open Go.RowKit
def tMs4L : TabL := ⟨[(35840, 0), (35841, 1), (35842, 2), (35843, 3), (35844, 4), (35845, 5), (35846, 6), (35847, 7), (35848, 8), (35849, 9), (35850, 10), (35851, 11), (35852, 12), (35853, 13), (35854, 16), (35855, 19), (35856, 20), (35857, 21), (62466, 2), (93184, 0), (93185, 1)], [9], [], [(31, (88, 4)), (32, (23, 1)), (33, (91, 2))], [(3, (1, false)), (4, (1, false)), (9, (1, false)), (23, (1, false)), (24, (1, false)), (27, (3, true)), (30, (3, true)), (31, (1, false)), (32, (1, false)), (33, (1, false)), (35, (22, true)), (61, (3, true)), (88, (4, true)), (91, (2, true))]⟩

def tMs4 : Tab Tryz.prog := ⟨tMs4L, by kernel_rfl⟩

theorem fn_13_YMs4 : IsFn Tryz.prog 13 := ⟨_, Tryz.func13, by kernel_rfl, by kernel_rfl⟩

theorem fn_25_YMs4 : IsFn Tryz.prog 25 := ⟨_, Tryz.func25, by kernel_rfl, by kernel_rfl⟩

theorem fn_26_YMs4 : IsFn Tryz.prog 26 := ⟨_, Tryz.func26, by kernel_rfl, by kernel_rfl⟩

theorem fn_27_YMs4 : IsFn Tryz.prog 27 := ⟨_, Tryz.func27, by kernel_rfl, by kernel_rfl⟩

theorem fn_28_YMs4 : IsFn Tryz.prog 28 := ⟨_, Tryz.func28, by kernel_rfl, by kernel_rfl⟩

theorem fn_68_YMs4 : IsFn Tryz.prog 68 := ⟨_, Tryz.func68, by kernel_rfl, by kernel_rfl⟩

theorem fn_69_YMs4 : IsFn Tryz.prog 69 := ⟨_, Tryz.func69, by kernel_rfl, by kernel_rfl⟩

theorem fn_70_YMs4 : IsFn Tryz.prog 70 := ⟨_, Tryz.func70, by kernel_rfl, by kernel_rfl⟩

theorem fn_71_YMs4 : IsFn Tryz.prog 71 := ⟨_, Tryz.func71, by kernel_rfl, by kernel_rfl⟩

theorem fn_112_YMs4 : IsFn Tryz.prog 112 := ⟨_, Tryz.func112, by kernel_rfl, by kernel_rfl⟩

theorem fn_113_YMs4 : IsFn Tryz.prog 113 := ⟨_, Tryz.func113, by kernel_rfl, by kernel_rfl⟩

theorem fn_114_YMs4 : IsFn Tryz.prog 114 := ⟨_, Tryz.func114, by kernel_rfl, by kernel_rfl⟩

theorem E_31_YMs4 : Elem Tryz.prog 31 88 4 48 := ⟨Tryz.underlying31, by
 have h : (Tryz.prog.info? 88).map (fun i => (i.zero, i.size, i.bytes)) = some (some (.agg #[.int .i64 0, .int .i64 0, .slice none 0 0, .int .u64 0]), 4, 48) := by kernel_rfl
 obtain ⟨i, hi, h1⟩ := Option.map_eq_some_iff.1 h
 simp only [Prod.mk.injEq] at h1
 exact ⟨i, _, hi, h1.1, h1.2.1, h1.2.2, by rfl⟩, by decide⟩

theorem E_32_YMs4 : Elem Tryz.prog 32 23 1 8 := ⟨Tryz.underlying32, by
 have h : (Tryz.prog.info? 23).map (fun i => (i.zero, i.size, i.bytes)) = some (some (.int .u64 0), 1, 8) := by kernel_rfl
 obtain ⟨i, hi, h1⟩ := Option.map_eq_some_iff.1 h
 simp only [Prod.mk.injEq] at h1
 exact ⟨i, _, hi, h1.1, h1.2.1, h1.2.2, by rfl⟩, by decide⟩

theorem E_33_YMs4 : Elem Tryz.prog 33 91 2 32 := ⟨Tryz.underlying33, by
 have h : (Tryz.prog.info? 91).map (fun i => (i.zero, i.size, i.bytes)) = some (some (.agg #[.string ByteArray.empty, .string ByteArray.empty]), 2, 32) := by kernel_rfl
 obtain ⟨i, hi, h1⟩ := Option.map_eq_some_iff.1 h
 simp only [Prod.mk.injEq] at h1
 exact ⟨i, _, hi, h1.1, h1.2.1, h1.2.2, by rfl⟩, by decide⟩

def F_ref09_lists_k1 (m : EMsg) (e : Int) (yb_r0_s : ByteArray) (yb_r0_at_ : Int) (yb_r0_e : Int) (x_conf_epoch : Int) (x_conf_members : List EMember) (x_conf_floor : Int) (x_batch_client : Int) (x_batch_req : Int) (x_batch_ops : List EOp) (x_entries : List EEntry) (x_stamps : List Int) (x_pairs : List EPair) : Option (EMsg × Int × Eref02_Reader) := some (({ m with conf := ({ epoch := x_conf_epoch, members := x_conf_members, floor := x_conf_floor } : EConf), batch := ({ client := x_batch_client, req := x_batch_req, ops := x_batch_ops } : EBatch), entries := x_entries, stamps := x_stamps, pairs := x_pairs } : EMsg), e, ({ s := yb_r0_s, at_ := yb_r0_at_, e := yb_r0_e } : Eref02_Reader))

def F_ref09_lists_k3 (i : Int) (rc : (Int × Int × ByteArray × Int × Int × (List EEntry)) → Option (EMsg × Int × Eref02_Reader)) (e_3 : Int) (r_s_2 : ByteArray) (r_at__2 : Int) (r_e_2 : Int) (x_entries_3 : List EEntry) : Option (EMsg × Int × Eref02_Reader) := chk (inI (i + 1)) (rc (e_3, i + 1, r_s_2, r_at__2, r_e_2, x_entries_3))

def F_ref09_lists_l2 (m : EMsg) (n0 : Int × Eref02_Reader) (rc : (Int × Int × ByteArray × Int × Int × (List EEntry)) → Option (EMsg × Int × Eref02_Reader)) (sg : Int × Int × ByteArray × Int × Int × (List EEntry)) : Option (EMsg × Int × Eref02_Reader) := match sg with | (e_2, i, r_s, r_at_, r_e, x_entries_2) => if (((decide (i < n0.1)) && (r_e == 0)) && (e_2 == 0)) = true then ((F_ref02_Reader_Text ({ s := r_s, at_ := r_at_, e := r_e } : Eref02_Reader) 65536).bind fun t_3 => (if (t_3.2.e == 0) = true then ((F_ref08_Of t_3.1).bind fun o_3 => (chk (((x_entries_2.length + [o_3.1].length : Nat) : Int) * 48 ≤ 140737488355328) (F_ref09_lists_k3 i rc o_3.2 t_3.2.s t_3.2.at_ t_3.2.e (x_entries_2 ++ [o_3.1])))) else (F_ref09_lists_k3 i rc e_2 t_3.2.s t_3.2.at_ t_3.2.e x_entries_2))) else (F_ref09_lists_k1 m e_2 r_s r_at_ r_e m.conf.epoch m.conf.members m.conf.floor m.batch.client m.batch.req m.batch.ops x_entries_2 m.stamps m.pairs)

def F_ref09_lists_l4 (m : EMsg) (n0_2 : Int × Eref02_Reader) (rc_2 : (Int × ByteArray × Int × Int × (List Int)) → Option (EMsg × Int × Eref02_Reader)) (sg : Int × ByteArray × Int × Int × (List Int)) : Option (EMsg × Int × Eref02_Reader) := match sg with | (i_2, r_s_3, r_at__3, r_e_3, x_stamps_2) => if ((decide (i_2 < n0_2.1)) && (r_e_3 == 0)) = true then ((F_ref02_Reader_Big ({ s := r_s_3, at_ := r_at__3, e := r_e_3 } : Eref02_Reader)).bind fun b => (chk (((x_stamps_2.length + [b.1].length : Nat) : Int) * 8 ≤ 140737488355328) (chk (inI (i_2 + 1)) (rc_2 (i_2 + 1, b.2.s, b.2.at_, b.2.e, x_stamps_2 ++ [b.1]))))) else (F_ref09_lists_k1 m 0 r_s_3 r_at__3 r_e_3 m.conf.epoch m.conf.members m.conf.floor m.batch.client m.batch.req m.batch.ops m.entries x_stamps_2 m.pairs)

def F_ref09_lists_l5 (m : EMsg) (n0_3 : Int × Eref02_Reader) (rc_3 : (Int × ByteArray × Int × Int × (List EPair)) → Option (EMsg × Int × Eref02_Reader)) (sg : Int × ByteArray × Int × Int × (List EPair)) : Option (EMsg × Int × Eref02_Reader) := match sg with | (i_3, r_s_4, r_at__4, r_e_4, x_pairs_2) => if ((decide (i_3 < n0_3.1)) && (r_e_4 == 0)) = true then ((F_ref02_Reader_Text ({ s := r_s_4, at_ := r_at__4, e := r_e_4 } : Eref02_Reader) 8).bind fun t_4 => ((F_ref02_Reader_Text t_4.2 8).bind fun t_5 => (chk (((x_pairs_2.length + [({ key := t_4.1, val := t_5.1 } : EPair)].length : Nat) : Int) * 32 ≤ 140737488355328) (chk (inI (i_3 + 1)) (rc_3 (i_3 + 1, t_5.2.s, t_5.2.at_, t_5.2.e, x_pairs_2 ++ [({ key := t_4.1, val := t_5.1 } : EPair)])))))) else (F_ref09_lists_k1 m 0 r_s_4 r_at__4 r_e_4 m.conf.epoch m.conf.members m.conf.floor m.batch.client m.batch.req m.batch.ops m.entries m.stamps x_pairs_2)

def F_ref09_lists (r0 : Eref02_Reader) (m : EMsg) (c : Int) : Option (EMsg × Int × Eref02_Reader) := if (c == 67) = true then ((F_ref02_Reader_Text r0 65536).bind fun t => (if (t.2.e == 0) = true then ((F_ref07_Of t.1).bind fun o => (F_ref09_lists_k1 m o.2 t.2.s t.2.at_ t.2.e o.1.epoch o.1.members o.1.floor m.batch.client m.batch.req m.batch.ops m.entries m.stamps m.pairs)) else (F_ref09_lists_k1 m 0 t.2.s t.2.at_ t.2.e m.conf.epoch m.conf.members m.conf.floor m.batch.client m.batch.req m.batch.ops m.entries m.stamps m.pairs))) else (if (c == 66) = true then ((F_ref02_Reader_Text r0 65536).bind fun t_2 => (if (t_2.2.e == 0) = true then ((F_ref06_Of t_2.1).bind fun o_2 => (F_ref09_lists_k1 m o_2.2 t_2.2.s t_2.2.at_ t_2.2.e m.conf.epoch m.conf.members m.conf.floor o_2.1.client o_2.1.req o_2.1.ops m.entries m.stamps m.pairs)) else (F_ref09_lists_k1 m 0 t_2.2.s t_2.2.at_ t_2.2.e m.conf.epoch m.conf.members m.conf.floor m.batch.client m.batch.req m.batch.ops m.entries m.stamps m.pairs))) else (if (c == 69) = true then ((F_ref02_Reader_Num r0 4).bind fun n0 => (iter (F_ref09_lists_l2 m n0) FU (0, 0, n0.2.s, n0.2.at_, n0.2.e, m.entries))) else (if (c == 83) = true then ((F_ref02_Reader_Num r0 8).bind fun n0_2 => (iter (F_ref09_lists_l4 m n0_2) FU (0, n0_2.2.s, n0_2.2.at_, n0_2.2.e, m.stamps))) else (if (c == 82) = true then ((F_ref02_Reader_Num r0 32).bind fun n0_3 => (iter (F_ref09_lists_l5 m n0_3) FU (0, n0_3.2.s, n0_3.2.at_, n0_3.2.e, m.pairs))) else (F_ref09_lists_k1 m 0 r0.s r0.at_ r0.e m.conf.epoch m.conf.members m.conf.floor m.batch.client m.batch.req m.batch.ops m.entries m.stamps m.pairs)))))

set_option maxHeartbeats 1000000 in
theorem c_ref09_lists {I D : Dm} {b_r0 : Nat} {r0 : Eref02_Reader} {m : EMsg} {v1_m : Value} {v2_m : Value} {v3_m : Value} {v4_m : Value} {v5_m : Value} {c : Int} {w : World} {rr : EMsg × Int × Eref02_Reader} (hF : F_ref09_lists r0 m c = some rr) (H : St I D w [BxC b_r0 61 [vS r0.s, vI r0.at_, vI r0.e], SlC NEMember v1_m m.conf.members, SlC NEOp v2_m m.batch.ops, OwC NEEntry 88 v3_m m.entries, OwC Nu64 23 v4_m m.stamps, OwC NEPair 91 v5_m m.pairs]) :
  Calls Tryz.prog 71 #[pp b_r0 0, .agg (cEMsg m v1_m v2_m v3_m v4_m v5_m).toArray, .int .u8 c] w (Ret fun vv w' => ∃ q1 q2 q3 q4 q5 : Value, vv = .tuple #[.agg (cEMsg rr.1 q1 q2 q3 q4 q5).toArray, vI rr.2.1] ∧ ∃ I', Hf I D w I' w' [BxC b_r0 61 [vS rr.2.2.s, vI rr.2.2.at_, vI rr.2.2.e], SlC NEMember q1 rr.1.conf.members, SlC NEOp q2 rr.1.batch.ops, OwC NEEntry 88 q3 rr.1.entries, OwC Nu64 23 q4 rr.1.stamps, OwC NEPair 91 q5 rr.1.pairs]) := by
 replace H := H.hf
 unfold F_ref09_lists at hF
 refine f_enter 145 Tryz.func71 rfl rfl (Nat.le_of_ble_eq_true rfl) fun a Z => ?_
 replace Z := Z.sub (ts := [0, 1, 2]) rfl
 refine wp_seq (f_region Z ?_); clear Z; intro Z
 refine h_boxv Z H (cl := (cEMsg m v1_m v2_m v3_m v4_m v5_m)) rfl rfl rfl (by decide) rfl rfl rfl fun a w1 b1 H Z => ?_
 refine hA Z H [vI 0, vI 0, vI 0, vI 0, vT false, vU 0, vU 0, vI 0, vI 0, vI 0, vI 0, vS ByteArray.empty, vS ByteArray.empty, vI 0, nS, vU 0, vI 0, vI 0, nS, nS, nS, nS] rfl rfl (by kernel_rfl) fun a w2 b2 H Z => ?_
 refine s_runk tMs4 Z 1 rfl rfl fun a Z => ?_
 refine s_end Z [0, 2, 4, 6] rfl fun Z => ?_
 refine p_then (wp_seq (f_region Z ?_)); clear Z; intro Z
 refine sO Z (.agg (cEMsg m v1_m v2_m v3_m v4_m v5_m).toArray) rfl (oA tMs4 rfl rfl ((H.bx 1 rfl).part 0 rfl)) fun a Z => ?_
 refine hA Z H [vI 0, vI 0, vI 0, vI 0, vT false, vU 0, vU 0, vI 0, vI 0, vI 0, vI 0, vS ByteArray.empty, vS ByteArray.empty, vI 0, nS, vU 0, vI 0, vI 0, nS, nS, nS, nS] rfl rfl (by kernel_rfl) fun a w3 b3 H Z => ?_
 refine hT tMs4 Z H 0 rfl rfl rfl rfl rfl (onR 14 rfl (one_cons (slS.one (H.slshape 4 rfl)) (onR 3 rfl (one_cons (slS.one (H.slshape 5 rfl)) (one_cons (slS.one (H.owshape 6 rfl)) (one_cons (slS.one (H.owshape 7 rfl)) (one_cons (slS.one (H.owshape 8 rfl)) one_nil))))))) (Nat.le_of_ble_eq_true rfl) (putCells_all rfl) fun w4 H => ?_
 dsimp only [List.eraseIdx] at H
 refine s_end Z [0, 2, 6, 8] rfl fun Z => ?_
 refine p_then (wp_seq (f_region Z ?_)); clear Z; intro Z
 refine s_runk tMs4 Z 1 rfl rfl fun a Z => ?_
 refine s_end Z [0, 2, 6, 8, 9] rfl fun Z => ?_
 refine p_then ?_
 refine f_cut (fun a' w' => ∃ (e : Int) (yb_r0_s : ByteArray) (yb_r0_at_ : Int) (yb_r0_e : Int) (x_conf_epoch : Int) (x_conf_members : List EMember) (x_conf_floor : Int) (x_batch_client : Int) (x_batch_req : Int) (x_batch_ops : List EOp) (x_entries : List EEntry) (x_stamps : List Int) (x_pairs : List EPair), ∃ v6 v7 v8 v9 v10 : Value, Sl 145 [(6, pp b2 0), (8, pp b3 0), (9, vI e)] a' ∧ (∃ I2, Hf I D w I2 w' [BxC b_r0 61 [vS yb_r0_s, vI yb_r0_at_, vI yb_r0_e], BxC b2 35 [vI 0, vI 0, vI 0, vI 0, vT false, vU 0, vU 0, vI 0, vI 0, vI 0, vI 0, vS ByteArray.empty, vS ByteArray.empty, vI 0, nS, vU 0, vI 0, vI 0, nS, nS, nS, nS], BxC b3 35 [vI m.k, vI m.epoch, vI m.req, vI m.serial, vT m.flag, vU m.at_, vU m.last, vI m.n, vI m.m, vI m.p, vI m.e, vS m.key, vS m.to_, vI x_conf_epoch, v6, vU x_conf_floor, vI x_batch_client, vI x_batch_req, v7, v8, v9, v10], SlC NEMember v6 x_conf_members, SlC NEOp v7 x_batch_ops, OwC NEEntry 88 v8 x_entries, OwC Nu64 23 v9 x_stamps, OwC NEPair 91 v10 x_pairs]) ∧ F_ref09_lists_k1 m e yb_r0_s yb_r0_at_ yb_r0_e x_conf_epoch x_conf_members x_conf_floor x_batch_client x_batch_req x_batch_ops x_entries x_stamps x_pairs = some rr) ?_ ?_
 ·rintro a w5 ⟨e, yb_r0_s, yb_r0_at_, yb_r0_e, x_conf_epoch, x_conf_members, x_conf_floor, x_batch_client, x_batch_req, x_batch_ops, x_entries, x_stamps, x_pairs, v6, v7, v8, v9, v10, Z, ⟨I1, H⟩, hF⟩
  unfold F_ref09_lists_k1 at hF
  try dsimp only at hF
  refine wp_seq (f_region Z ?_); clear Z; intro Z
  refine sO Z (.agg #[vI m.k, vI m.epoch, vI m.req, vI m.serial, vT m.flag, vU m.at_, vU m.last, vI m.n, vI m.m, vI m.p, vI m.e, vS m.key, vS m.to_, vI x_conf_epoch, v6, vU x_conf_floor, vI x_batch_client, vI x_batch_req, v7, v8, v9, v10]) rfl (oA tMs4 rfl rfl ((H.bx 2 rfl).part 0 rfl)) fun a Z => ?_
  refine s_runk tMs4 Z 1 rfl rfl fun a Z => ?_
  refine hT tMs4 Z H 1 rfl rfl rfl rfl rfl (onR 14 rfl (one_cons (slS.one (H.slshape 3 rfl)) (onR 3 rfl (one_cons (slS.one (H.slshape 4 rfl)) (one_cons (slS.one (H.owshape 5 rfl)) (one_cons (slS.one (H.owshape 6 rfl)) (one_cons (slS.one (H.owshape 7 rfl)) one_nil))))))) (Nat.le_of_ble_eq_true rfl) (putCells_all rfl) fun w6 H => ?_
  dsimp only [List.eraseIdx] at H
  refine s_runk tMs4 Z 1 rfl rfl fun a Z => ?_
  refine s_end Z [6, 7] rfl fun Z => ?_
  refine p_then (wp_ret ?_)
  obtain rfl := some_in hF
  exact f_ret Z (run_resultsCT rfl Z rfl (run_loadVar_agg tMs4 rfl (H.bx 0 rfl).at) rfl) ⟨v6, v7, v8, v9, v10, rfl, I1, (H.sub [(1, false), (2, true), (3, true), (4, false), (4, false), (4, false)] rfl).eq rfl⟩
 ·skip
  refine wp_seq (f_region Z ?_); clear Z; intro Z
  refine s_runk tMs4 Z 1 rfl rfl fun a Z => ?_
  refine s_end Z [0, 6, 8, 9, 22] rfl fun Z => ?_
  refine p_then (wp_block ?_)
  refine wp_seq (f_region Z ?_); clear Z; intro Z
  refine s_runk tMs4 Z 2 rfl rfl fun a Z => ?_
  refine s_end Z [0, 6, 8, 9, 22, 23] rfl fun Z => ?_
  refine p_then ?_
  refine f_cond Z rfl (fun hc1 => ?_) (fun hc1 => ?_)
  ·replace hF := ite_t hc1 hF
   refine wp_seq ?_
   obtain ⟨t, hx1, hF⟩ := bnd_in hF
   refine f_region Z fun Z => ?_
   refine s_runk tMs4 Z 1 rfl rfl fun a Z => ?_
   refine hC Z H [(3, false)] rfl #[] fn_70_YMs4 rfl rfl (fun D h => have q := c_ref02_Reader_Text hx1 h; q) fun vv a w7 D2 hr hF2 Z => ?_
   obtain ⟨rfl, I2, K⟩ := hr
   have H := (hF2 K).nf rfl
   refine s_runk tMs4 Z 1 rfl rfl fun a Z => ?_
   refine s_end Z [0, 6, 8, 9, 10] rfl fun Z => ?_
   refine p_then (wp_seq (f_region Z ?_)); clear Z; intro Z
   refine s_runk tMs4 Z 3 rfl rfl fun a Z => ?_
   refine sO Z _ rfl (oL tMs4 rfl rfl (H.bc 0 2 rfl rfl)) fun a Z => ?_
   refine s_runk tMs4 Z 1 rfl rfl fun a Z => ?_
   refine s_end Z [6, 8, 9, 10, 31] rfl fun Z => ?_
   refine p_then ?_
   refine f_cond Z rfl (fun hc2 => ?_) (fun hc2 => ?_)
   ·replace hF := ite_t hc2 hF
    obtain ⟨o, hx2, hF⟩ := bnd_in hF
    refine f_region Z fun Z => ?_
    refine s_runk tMs4 Z 1 rfl rfl fun a Z => ?_
    refine hC Z H [] rfl #[] fn_112_YMs4 rfl rfl (fun D h => have q := c_ref07_Of hx2 h; q) fun vv a w8 D2 hr hF2 Z => ?_
    obtain ⟨q1, rfl, I3, K⟩ := hr
    have H := (hF2 K).nf rfl
    refine s_runk tMs4 Z 4 rfl rfl fun a Z => ?_
    refine hT tMs4 Z H 2 rfl rfl rfl rfl rfl (one_cons rfl (one_cons (slS.one (H.slshape 0 rfl)) (one_cons rfl one_nil))) (Nat.le_of_ble_eq_true rfl) rfl fun w9 H => ?_
    dsimp only [List.eraseIdx] at H
    refine s_runk tMs4 Z 1 rfl rfl fun a Z => ?_
    refine s_end Z [6, 8, 9] rfl fun Z => ?_
    refine p_blk ?_
    refine p_then ?_
    exact ⟨o.2, t.2.s, t.2.at_, t.2.e, o.1.epoch, o.1.members, o.1.floor, m.batch.client, m.batch.req, m.batch.ops, m.entries, m.stamps, m.pairs, q1, v2_m, v3_m, v4_m, v5_m, Z.sub (ts := [6, 8, 9]) rfl, ⟨I3, (H.sub [(2, false), (2, false), (0, false), (0, true), (3, true), (4, false), (4, false), (4, false)] rfl).eq rfl⟩, hF⟩
   ·replace hF := ite_f hc2 hF
    refine wp_skip ?_
    refine p_blk ?_
    refine p_then ?_
    exact ⟨0, t.2.s, t.2.at_, t.2.e, m.conf.epoch, m.conf.members, m.conf.floor, m.batch.client, m.batch.req, m.batch.ops, m.entries, m.stamps, m.pairs, v1_m, v2_m, v3_m, v4_m, v5_m, Z.sub (ts := [6, 8, 9]) rfl, ⟨I2, (H.sub [(0, false), (1, false), (0, false), (1, true), (2, true), (3, false), (3, false), (3, false)] rfl).eq rfl⟩, hF⟩
  ·replace hF := ite_f hc1 hF
   refine wp_seq (f_region Z ?_); clear Z; intro Z
   refine s_runk tMs4 Z 2 rfl rfl fun a Z => ?_
   refine s_end Z [0, 6, 8, 9, 22, 38] rfl fun Z => ?_
   refine p_then ?_
   refine f_cond Z rfl (fun hc3 => ?_) (fun hc3 => ?_)
   ·replace hF := ite_t hc3 hF
    refine wp_seq ?_
    obtain ⟨t_2, hx3, hF⟩ := bnd_in hF
    refine f_region Z fun Z => ?_
    refine s_runk tMs4 Z 1 rfl rfl fun a Z => ?_
    refine hC Z H [(3, false)] rfl #[] fn_70_YMs4 rfl rfl (fun D h => have q := c_ref02_Reader_Text hx3 h; q) fun vv a w10 D2 hr hF2 Z => ?_
    obtain ⟨rfl, I4, K⟩ := hr
    have H := (hF2 K).nf rfl
    refine s_runk tMs4 Z 1 rfl rfl fun a Z => ?_
    refine s_end Z [0, 6, 8, 9, 11] rfl fun Z => ?_
    refine p_then (wp_seq (f_region Z ?_)); clear Z; intro Z
    refine s_runk tMs4 Z 3 rfl rfl fun a Z => ?_
    refine sO Z _ rfl (oL tMs4 rfl rfl (H.bc 0 2 rfl rfl)) fun a Z => ?_
    refine s_runk tMs4 Z 1 rfl rfl fun a Z => ?_
    refine s_end Z [6, 8, 9, 11, 46] rfl fun Z => ?_
    refine p_then ?_
    refine f_cond Z rfl (fun hc4 => ?_) (fun hc4 => ?_)
    ·replace hF := ite_t hc4 hF
     obtain ⟨o_2, hx4, hF⟩ := bnd_in hF
     refine f_region Z fun Z => ?_
     refine s_runk tMs4 Z 1 rfl rfl fun a Z => ?_
     refine hC Z H [] rfl #[] fn_113_YMs4 rfl rfl (fun D h => have q := c_ref06_Of hx4 h; q) fun vv a w11 D2 hr hF2 Z => ?_
     obtain ⟨q2, rfl, I5, K⟩ := hr
     have H := (hF2 K).nf rfl
     refine s_runk tMs4 Z 4 rfl rfl fun a Z => ?_
     refine hT tMs4 Z H 2 rfl rfl rfl rfl rfl (onR 2 rfl (one_cons (slS.one (H.slshape 0 rfl)) one_nil)) (Nat.le_of_ble_eq_true rfl) rfl fun w12 H => ?_
     dsimp only [List.eraseIdx] at H
     refine s_runk tMs4 Z 1 rfl rfl fun a Z => ?_
     refine s_end Z [6, 8, 9] rfl fun Z => ?_
     refine p_blk ?_
     refine p_then ?_
     exact ⟨o_2.2, t_2.2.s, t_2.2.at_, t_2.2.e, m.conf.epoch, m.conf.members, m.conf.floor, o_2.1.client, o_2.1.req, o_2.1.ops, m.entries, m.stamps, m.pairs, v1_m, q2, v3_m, v4_m, v5_m, Z.sub (ts := [6, 8, 9]) rfl, ⟨I5, (H.sub [(2, false), (2, false), (0, false), (2, true), (0, true), (4, false), (4, false), (4, false)] rfl).eq rfl⟩, hF⟩
    ·replace hF := ite_f hc4 hF
     refine wp_skip ?_
     refine p_blk ?_
     refine p_then ?_
     exact ⟨0, t_2.2.s, t_2.2.at_, t_2.2.e, m.conf.epoch, m.conf.members, m.conf.floor, m.batch.client, m.batch.req, m.batch.ops, m.entries, m.stamps, m.pairs, v1_m, v2_m, v3_m, v4_m, v5_m, Z.sub (ts := [6, 8, 9]) rfl, ⟨I4, (H.sub [(0, false), (1, false), (0, false), (1, true), (2, true), (3, false), (3, false), (3, false)] rfl).eq rfl⟩, hF⟩
   ·replace hF := ite_f hc3 hF
    refine wp_seq (f_region Z ?_); clear Z; intro Z
    refine s_runk tMs4 Z 2 rfl rfl fun a Z => ?_
    refine s_end Z [0, 6, 8, 9, 22, 53] rfl fun Z => ?_
    refine p_then ?_
    refine f_cond Z rfl (fun hc5 => ?_) (fun hc5 => ?_)
    ·replace hF := ite_t hc5 hF
     refine wp_seq ?_
     obtain ⟨n0, hx5, hF⟩ := bnd_in hF
     refine f_region Z fun Z => ?_
     refine s_runk tMs4 Z 1 rfl rfl fun a Z => ?_
     refine hC Z H [(3, false)] rfl #[] fn_25_YMs4 rfl rfl (fun D h => have q := c_ref02_Reader_Num hx5 h; q) fun vv a w13 D2 hr hF2 Z => ?_
     obtain ⟨rfl, I6, K⟩ := hr
     have H := (hF2 K).nf rfl
     refine s_runk tMs4 Z 1 rfl rfl fun a Z => ?_
     refine s_end Z [0, 6, 8, 9, 12] rfl fun Z => ?_
     refine p_then (wp_seq (f_region Z ?_)); clear Z; intro Z
     refine s_runk tMs4 Z 1 rfl rfl fun a Z => ?_
     refine s_end Z [0, 6, 8, 9, 12, 13] rfl fun Z => ?_
     refine p_then (wp_block ?_)
     refine f_iter hF (fun sg a' w' => match sg with | (e_2, i, r_s, r_at_, r_e, x_entries_2) => ∃ v11 : Value, Sl 145 [(0, pp b_r0 0), (6, pp b2 0), (8, pp b3 0), (9, vI e_2), (12, vI n0.1), (13, vI i)] a' ∧ ∃ I2, Hf I D w I2 w' [BxC b_r0 61 [vS r_s, vI r_at_, vI r_e], BxC b2 35 [vI 0, vI 0, vI 0, vI 0, vT false, vU 0, vU 0, vI 0, vI 0, vI 0, vI 0, vS ByteArray.empty, vS ByteArray.empty, vI 0, nS, vU 0, vI 0, vI 0, nS, nS, nS, nS], BxC b3 35 (cEMsg m v1_m v2_m v11 v4_m v5_m), SlC NEMember v1_m m.conf.members, SlC NEOp v2_m m.batch.ops, OwC Nu64 23 v4_m m.stamps, OwC NEPair 91 v5_m m.pairs, OwC NEEntry 88 v11 x_entries_2]) ⟨v3_m, Z.sub (ts := [0, 6, 8, 9, 12, 13]) rfl, ⟨I6, (H.sub [(0, false), (1, false), (0, false), (1, true), (2, true), (4, false), (4, false), (3, false)] rfl).eq rfl⟩⟩ ?_
     rintro rc ⟨e_2, i, r_s, r_at_, r_e, x_entries_2⟩ a w14 ⟨v11, Z, I7, H⟩ hF
     unfold F_ref09_lists_l2 at hF
     try dsimp only at hF
     refine wp_seq ?_
     refine wp_seq (f_region Z ?_); clear Z; intro Z
     refine s_runk tMs4 Z 4 rfl rfl fun a Z => ?_
     refine gO Z (pp b_r0 0) rfl (wantB_t _) (.n 0 rfl .z) (fun hp => Ob_c tMs4 rfl) fun a Z => ?_
     refine gO Z (pp b_r0 0) rfl (wantB_t _) (.c 61 rfl id .z) (fun hp => Ob_c tMs4 rfl) fun a Z => ?_
     refine gO Z (pp b_r0 2) rfl (wantB_t _) (.c 62 rfl id .z) (fun hp => Ob_c tMs4 rfl) fun a Z => ?_
     refine gO Z _ rfl (wantB_t _) (.c 63 rfl id .z) (fun hp => oL tMs4 rfl rfl (H.bc 0 2 rfl rfl)) fun a Z => ?_
     refine gO Z (vT (r_e == 0)) rfl (wantB_t _) (.c 64 rfl id .z) (fun hp => Ob_c tMs4 rfl) fun a Z => ?_
     refine sO Z (vT ((decide (i < n0.1)) && (r_e == 0))) rfl (Ob_pick rfl rfl rfl rfl (pick_and _ _)) fun a Z => ?_
     refine s_runk tMs4 Z 1 rfl rfl fun a Z => ?_
     refine gO Z (vI e_2) rfl (wantB_t _) (.n 9 rfl .z) (fun hp => Ob_c tMs4 rfl) fun a Z => ?_
     refine gO Z (vT (e_2 == 0)) rfl (wantB_t _) (.c 68 rfl id .z) (fun hp => Ob_c tMs4 rfl) fun a Z => ?_
     refine sO Z (vT (((decide (i < n0.1)) && (r_e == 0)) && (e_2 == 0))) rfl (Ob_pick rfl rfl rfl rfl (pick_and _ _)) fun a Z => ?_
     refine s_end Z [0, 6, 8, 9, 12, 13, 70] rfl fun Z => ?_
     refine p_then ?_
     refine f_cond Z rfl (fun hc6 => ?_) (fun hc6 => ?_)
     ·replace hF := ite_t hc6 hF
      refine wp_skip ?_
      refine p_then ?_
      refine f_cut (fun a' w' => ∃ (e_3 : Int) (r_s_2 : ByteArray) (r_at__2 : Int) (r_e_2 : Int) (x_entries_3 : List EEntry), ∃ v12 : Value, Sl 145 [(0, pp b_r0 0), (6, pp b2 0), (8, pp b3 0), (9, vI e_3), (12, vI n0.1), (13, vI i)] a' ∧ (∃ I2, Hf I D w I2 w' [BxC b_r0 61 [vS r_s_2, vI r_at__2, vI r_e_2], BxC b2 35 [vI 0, vI 0, vI 0, vI 0, vT false, vU 0, vU 0, vI 0, vI 0, vI 0, vI 0, vS ByteArray.empty, vS ByteArray.empty, vI 0, nS, vU 0, vI 0, vI 0, nS, nS, nS, nS], BxC b3 35 (cEMsg m v1_m v2_m v12 v4_m v5_m), SlC NEMember v1_m m.conf.members, SlC NEOp v2_m m.batch.ops, OwC Nu64 23 v4_m m.stamps, OwC NEPair 91 v5_m m.pairs, OwC NEEntry 88 v12 x_entries_3]) ∧ F_ref09_lists_k3 i rc e_3 r_s_2 r_at__2 r_e_2 x_entries_3 = some rr) ?_ ?_
      ·rintro a w15 ⟨e_3, r_s_2, r_at__2, r_e_2, x_entries_3, v12, Z, ⟨I8, H⟩, hF⟩
       unfold F_ref09_lists_k3 at hF
       try dsimp only at hF
       obtain ⟨hg1, hF⟩ := chk_in hF
       refine f_region Z fun Z => ?_
       refine s_runk tMs4 Z 1 rfl rfl fun a Z => ?_
       refine sO Z (vI (i + 1)) rfl (Ob_add rfl rfl rfl (wrI hg1)) fun a Z => ?_
       refine s_runk tMs4 Z 1 rfl rfl fun a Z => ?_
       refine s_end Z [0, 6, 8, 9, 12, 13] rfl fun Z => ?_
       refine p_then ?_
       exact ⟨(e_3, i + 1, r_s_2, r_at__2, r_e_2, x_entries_3), ⟨v12, Z.sub (ts := [0, 6, 8, 9, 12, 13]) rfl, ⟨I8, (H.sub [(0, false), (0, false), (0, false), (0, true), (1, true), (2, false), (2, false), (2, false)] rfl).eq rfl⟩⟩, hF⟩
      ·skip
       refine wp_block ?_
       refine wp_seq ?_
       obtain ⟨t_3, hx6, hF⟩ := bnd_in hF
       refine f_region Z fun Z => ?_
       refine s_runk tMs4 Z 1 rfl rfl fun a Z => ?_
       refine hC Z H [(0, false)] rfl #[] fn_70_YMs4 rfl rfl (fun D h => have q := c_ref02_Reader_Text hx6 h; q) fun vv a w16 D2 hr hF2 Z => ?_
       obtain ⟨rfl, I9, K⟩ := hr
       have H := (hF2 K).nf rfl
       refine s_runk tMs4 Z 1 rfl rfl fun a Z => ?_
       refine s_end Z [0, 6, 8, 9, 12, 13, 14] rfl fun Z => ?_
       refine p_then (wp_seq (f_region Z ?_)); clear Z; intro Z
       refine s_runk tMs4 Z 3 rfl rfl fun a Z => ?_
       refine sO Z _ rfl (oL tMs4 rfl rfl (H.bc 0 2 rfl rfl)) fun a Z => ?_
       refine s_runk tMs4 Z 1 rfl rfl fun a Z => ?_
       refine s_end Z [0, 6, 8, 9, 12, 13, 14, 79] rfl fun Z => ?_
       refine p_then ?_
       refine f_cond Z rfl (fun hc7 => ?_) (fun hc7 => ?_)
       ·replace hF := ite_t hc7 hF
        refine wp_seq (f_region Z ?_); clear Z; intro Z
        refine hA Z H [vI 0, vI 0, nS, vU 0] rfl rfl (by kernel_rfl) fun a w17 b4 H Z => ?_
        refine s_end Z [0, 6, 8, 12, 13, 14, 15] rfl fun Z => ?_
        refine p_then (wp_seq ?_)
        obtain ⟨o_3, hx7, hF⟩ := bnd_in hF
        refine f_region Z fun Z => ?_
        refine s_runk tMs4 Z 1 rfl rfl fun a Z => ?_
        refine hC Z H [] rfl #[] fn_114_YMs4 rfl rfl (fun D h => have q := c_ref08_Of hx7 h; q) fun vv a w18 D2 hr hF2 Z => ?_
        obtain ⟨q3, rfl, I10, K⟩ := hr
        have H := (hF2 K).nf rfl
        refine s_runk tMs4 Z 3 rfl rfl fun a Z => ?_
        refine hT tMs4 Z H 1 rfl rfl rfl rfl rfl (onR 2 rfl (one_cons (slS.one (H.slshape 0 rfl)) (one_cons rfl one_nil))) (Nat.le_of_ble_eq_true rfl) rfl fun w19 H => ?_
        dsimp only [List.eraseIdx] at H
        refine s_runk tMs4 Z 1 rfl rfl fun a Z => ?_
        refine s_end Z [0, 6, 8, 12, 13, 15, 9] rfl fun Z => ?_
        refine p_then ?_
        obtain ⟨hg2, hF⟩ := chk_in hF
        refine f_region Z fun Z => ?_
        refine s_runk tMs4 Z 1 rfl rfl fun a Z => ?_
        refine sO Z _ rfl (oL tMs4 rfl rfl (H.bc 4 19 rfl rfl)) fun a Z => ?_
        refine sO Z (.agg (cEEntry o_3.1 q3).toArray) rfl (oA tMs4 rfl rfl ((H.bx 0 rfl).part 0 rfl)) fun a Z => ?_
        refine h_bslice Z H (vs := [(0, .agg #[vI o_3.1.batch.client, vI o_3.1.batch.req, q3, vU o_3.1.ts])]) (cl := [vI o_3.1.batch.client, vI o_3.1.batch.req, q3, vU o_3.1.ts]) (e := 88) rfl rfl rfl (by decide) rfl rfl (fun w => run_bslice (z := .agg #[vI 0, vI 0, nS, vU 0]) (m := 4) Tryz.underlying31 (by kernel_rfl) rfl rfl (by decide) (by simp [Instr.fill, Value.cells]) w) fun a w20 b5 H Z => ?_
        refine h_appO Z H 10 E_31_YMs4 [o_3.1] rfl rfl rfl rfl rfl (by decide) rfl rfl rfl (slRep2.box1 (H.bx 0 rfl) ⟨_, rfl, (H.sl 2 rfl)⟩) hg2 (by decide) fun v13 a w21 H Z => ?_
        dsimp only [List.eraseIdx] at H
        replace H := (H.sub [(0, false), (1, false), (1, true), (2, false), (2, false), (2, false), (2, true), (3, true), (4, false), (4, false)] rfl).nf rfl
        refine s_runk tMs4 Z 1 rfl rfl fun a Z => ?_
        refine hT tMs4 Z H 5 rfl rfl (slS.cells (H.owshape 0 rfl)) rfl rfl (one_cons (slS.one (H.owshape 0 rfl)) one_nil) (Nat.le_of_ble_eq_true rfl) rfl fun w22 H => ?_
        dsimp only [List.eraseIdx] at H
        refine s_end Z [0, 6, 8, 12, 13, 9] rfl fun Z => ?_
        refine p_blk ?_
        refine p_then ?_
        exact ⟨o_3.2, t_3.2.s, t_3.2.at_, t_3.2.e, x_entries_2 ++ [o_3.1], v13, Z.sub (ts := [0, 6, 8, 9, 12, 13]) rfl, ⟨I10, (H.sub [(4, false), (4, false), (0, false), (3, true), (4, true), (5, false), (5, false), (0, false)] rfl).eq rfl⟩, hF⟩
       ·replace hF := ite_f hc7 hF
        refine wp_skip ?_
        refine p_blk ?_
        refine p_then ?_
        exact ⟨e_2, t_3.2.s, t_3.2.at_, t_3.2.e, x_entries_2, v11, Z.sub (ts := [0, 6, 8, 9, 12, 13]) rfl, ⟨I9, (H.sub [(0, false), (0, false), (0, false), (0, true), (1, true), (2, false), (2, false), (2, false)] rfl).eq rfl⟩, hF⟩
     ·replace hF := ite_f hc6 hF
      refine wp_exit ?_
      refine p_then_x ?_
      refine p_then_x ?_
      refine f_exit_here ?_
      refine p_blk ?_
      refine p_then ?_
      exact ⟨e_2, r_s, r_at_, r_e, m.conf.epoch, m.conf.members, m.conf.floor, m.batch.client, m.batch.req, m.batch.ops, x_entries_2, m.stamps, m.pairs, v1_m, v2_m, v11, v4_m, v5_m, Z.sub (ts := [6, 8, 9]) rfl, ⟨I7, (H.sub [(0, false), (0, false), (0, false), (0, true), (1, true), (4, false), (2, false), (2, false)] rfl).eq rfl⟩, hF⟩
    ·replace hF := ite_f hc5 hF
     refine wp_seq (f_region Z ?_); clear Z; intro Z
     refine s_runk tMs4 Z 2 rfl rfl fun a Z => ?_
     refine s_end Z [0, 6, 8, 9, 22, 91] rfl fun Z => ?_
     refine p_then ?_
     refine f_cond Z rfl (fun hc8 => ?_) (fun hc8 => ?_)
     ·replace hF := ite_t hc8 hF
      refine wp_seq ?_
      obtain ⟨n0_2, hx8, hF⟩ := bnd_in hF
      refine f_region Z fun Z => ?_
      refine s_runk tMs4 Z 1 rfl rfl fun a Z => ?_
      refine hC Z H [(3, false)] rfl #[] fn_25_YMs4 rfl rfl (fun D h => have q := c_ref02_Reader_Num hx8 h; q) fun vv a w23 D2 hr hF2 Z => ?_
      obtain ⟨rfl, I11, K⟩ := hr
      have H := (hF2 K).nf rfl
      refine s_runk tMs4 Z 1 rfl rfl fun a Z => ?_
      refine s_end Z [0, 6, 8, 9, 16] rfl fun Z => ?_
      refine p_then (wp_seq (f_region Z ?_)); clear Z; intro Z
      refine s_runk tMs4 Z 1 rfl rfl fun a Z => ?_
      refine s_end Z [0, 6, 8, 9, 16, 17] rfl fun Z => ?_
      refine p_then (wp_block ?_)
      refine f_iter hF (fun sg a' w' => match sg with | (i_2, r_s_3, r_at__3, r_e_3, x_stamps_2) => ∃ v14 : Value, Sl 145 [(0, pp b_r0 0), (6, pp b2 0), (8, pp b3 0), (9, vI 0), (16, vI n0_2.1), (17, vI i_2)] a' ∧ ∃ I2, Hf I D w I2 w' [BxC b_r0 61 [vS r_s_3, vI r_at__3, vI r_e_3], BxC b2 35 [vI 0, vI 0, vI 0, vI 0, vT false, vU 0, vU 0, vI 0, vI 0, vI 0, vI 0, vS ByteArray.empty, vS ByteArray.empty, vI 0, nS, vU 0, vI 0, vI 0, nS, nS, nS, nS], BxC b3 35 (cEMsg m v1_m v2_m v3_m v14 v5_m), SlC NEMember v1_m m.conf.members, SlC NEOp v2_m m.batch.ops, OwC NEEntry 88 v3_m m.entries, OwC NEPair 91 v5_m m.pairs, OwC Nu64 23 v14 x_stamps_2]) ⟨v4_m, Z.sub (ts := [0, 6, 8, 9, 16, 17]) rfl, ⟨I11, (H.sub [(0, false), (1, false), (0, false), (1, true), (2, true), (3, false), (4, false), (3, false)] rfl).eq rfl⟩⟩ ?_
      rintro rc_2 ⟨i_2, r_s_3, r_at__3, r_e_3, x_stamps_2⟩ a w24 ⟨v14, Z, I12, H⟩ hF
      unfold F_ref09_lists_l4 at hF
      try dsimp only at hF
      refine wp_seq ?_
      refine wp_seq (f_region Z ?_); clear Z; intro Z
      refine s_runk tMs4 Z 4 rfl rfl fun a Z => ?_
      refine gO Z (pp b_r0 0) rfl (wantB_t _) (.n 0 rfl .z) (fun hp => Ob_c tMs4 rfl) fun a Z => ?_
      refine gO Z (pp b_r0 0) rfl (wantB_t _) (.c 99 rfl id .z) (fun hp => Ob_c tMs4 rfl) fun a Z => ?_
      refine gO Z (pp b_r0 2) rfl (wantB_t _) (.c 100 rfl id .z) (fun hp => Ob_c tMs4 rfl) fun a Z => ?_
      refine gO Z _ rfl (wantB_t _) (.c 101 rfl id .z) (fun hp => oL tMs4 rfl rfl (H.bc 0 2 rfl rfl)) fun a Z => ?_
      refine gO Z (vT (r_e_3 == 0)) rfl (wantB_t _) (.c 102 rfl id .z) (fun hp => Ob_c tMs4 rfl) fun a Z => ?_
      refine sO Z (vT ((decide (i_2 < n0_2.1)) && (r_e_3 == 0))) rfl (Ob_pick rfl rfl rfl rfl (pick_and _ _)) fun a Z => ?_
      refine s_end Z [0, 6, 8, 9, 16, 17, 104] rfl fun Z => ?_
      refine p_then ?_
      refine f_cond Z rfl (fun hc9 => ?_) (fun hc9 => ?_)
      ·replace hF := ite_t hc9 hF
       refine wp_skip ?_
       refine p_then (wp_seq ?_)
       refine wp_block ?_
       obtain ⟨b, hx9, hF⟩ := bnd_in hF
       obtain ⟨hg3, hF⟩ := chk_in hF
       refine f_regionL Z (by kernel_rfl) (by kernel_rfl) (by decide) (by decide) [3, 4, 5, 7] [(0, 0, 2), (1, 0, 2), (0, 0, 0), (4, 0, 0), (12, 1, 1), (31, 2, 2), (63, 3, 3), (127, 3, 3)] (by kernel_rfl) (fun jj vv => match jj with | 0 => vv = pp b3 20 | 1 => vv = v14 | 2 => vv = pp b_r0 0 | 3 => vv = vU b.1 | 4 => vv = .slice (some ⟨blkOf vv, 0, none⟩) 1 1 | 5 => True | 6 => vv = pp b3 20 | 7 => True | _ => True) (fun ss vals1 xw => match ss with | 0 => Gx I D w I12 w24 xw [BxC b_r0 61 [vS r_s_3, vI r_at__3, vI r_e_3], BxC b2 35 [vI 0, vI 0, vI 0, vI 0, vT false, vU 0, vU 0, vI 0, vI 0, vI 0, vI 0, vS ByteArray.empty, vS ByteArray.empty, vI 0, nS, vU 0, vI 0, vI 0, nS, nS, nS, nS], BxC b3 35 (cEMsg m v1_m v2_m v3_m v14 v5_m), SlC NEMember v1_m m.conf.members, SlC NEOp v2_m m.batch.ops, OwC NEEntry 88 v3_m m.entries, OwC NEPair 91 v5_m m.pairs, OwC Nu64 23 v14 x_stamps_2] | 1 => Gx I D w I12 w24 xw [BxC b_r0 61 [vS b.2.s, vI b.2.at_, vI b.2.e], BxC b2 35 [vI 0, vI 0, vI 0, vI 0, vT false, vU 0, vU 0, vI 0, vI 0, vI 0, vI 0, vS ByteArray.empty, vS ByteArray.empty, vI 0, nS, vU 0, vI 0, vI 0, nS, nS, nS, nS], BxC b3 35 (cEMsg m v1_m v2_m v3_m v14 v5_m), SlC NEMember v1_m m.conf.members, SlC NEOp v2_m m.batch.ops, OwC NEEntry 88 v3_m m.entries, OwC NEPair 91 v5_m m.pairs, OwC Nu64 23 v14 x_stamps_2] | 2 => Gx I D w I12 w24 xw [BxC (blkOf (vals1 4)) 23 [vU b.1], BxC b_r0 61 [vS b.2.s, vI b.2.at_, vI b.2.e], BxC b2 35 [vI 0, vI 0, vI 0, vI 0, vT false, vU 0, vU 0, vI 0, vI 0, vI 0, vI 0, vS ByteArray.empty, vS ByteArray.empty, vI 0, nS, vU 0, vI 0, vI 0, nS, nS, nS, nS], BxC b3 35 (cEMsg m v1_m v2_m v3_m v14 v5_m), SlC NEMember v1_m m.conf.members, SlC NEOp v2_m m.batch.ops, OwC NEEntry 88 v3_m m.entries, OwC NEPair 91 v5_m m.pairs, OwC Nu64 23 v14 x_stamps_2] | 3 => Gx I D w I12 w24 xw [OwC Nu64 23 (vals1 5) (x_stamps_2 ++ [b.1]), BxC b_r0 61 [vS b.2.s, vI b.2.at_, vI b.2.e], BxC b2 35 [vI 0, vI 0, vI 0, vI 0, vT false, vU 0, vU 0, vI 0, vI 0, vI 0, vI 0, vS ByteArray.empty, vS ByteArray.empty, vI 0, nS, vU 0, vI 0, vI 0, nS, nS, nS, nS], BxC b3 35 (cEMsg m v1_m v2_m v3_m v14 v5_m), SlC NEMember v1_m m.conf.members, SlC NEOp v2_m m.batch.ops, OwC NEEntry 88 v3_m m.entries, OwC NEPair 91 v5_m m.pairs] | _ => Gx I D w I12 w24 xw [BxC b3 35 (cEMsg m v1_m v2_m v3_m (vals1 5) v5_m), OwC Nu64 23 (vals1 5) (x_stamps_2 ++ [b.1]), BxC b_r0 61 [vS b.2.s, vI b.2.at_, vI b.2.e], BxC b2 35 [vI 0, vI 0, vI 0, vI 0, vT false, vU 0, vU 0, vI 0, vI 0, vI 0, vI 0, vS ByteArray.empty, vS ByteArray.empty, vI 0, nS, vU 0, vI 0, vI 0, nS, nS, nS, nS], SlC NEMember v1_m m.conf.members, SlC NEOp v2_m m.batch.ops, OwC NEEntry 88 v3_m m.entries, OwC NEPair 91 v5_m m.pairs]) (fun _ => Gx.start H) ?_ ?_
       ·intro fr hfr hfe
        refine .cons (fun ss hlo hhi vals1 xw hG hV => ?_) ?_
        ·obtain rfl | rfl | rfl : ss = 0 ∨ ss = 1 ∨ ss = 2 := st2 hlo hhi
         all_goals
         ·rw [← hfe]
          have hS := (hfr vals1).sub (ts := [8]) rfl
          exact L_val hS rfl (Ob_c tMs4 rfl) ⟨rfl, hG⟩
        refine .cons (fun ss hlo hhi vals1 xw hG hV => ?_) ?_
        ·obtain rfl | rfl | rfl : ss = 0 ∨ ss = 1 ∨ ss = 2 := st2 hlo hhi
         ·rw [← hfe]
          have hS := (hfr vals1).sub (ts := [107]) rfl
          replace hS := hS.conv (t := 107) rfl (show (vals1 0) = pp b3 20 from hV 0 (by decide))
          obtain ⟨I2, hI2, H⟩ := Gx.ex hG
          exact L_val hS rfl (oL tMs4 rfl rfl (H.bc 2 20 rfl rfl)) ⟨rfl, hG⟩
         ·rw [← hfe]
          have hS := (hfr vals1).sub (ts := [107]) rfl
          replace hS := hS.conv (t := 107) rfl (show (vals1 0) = pp b3 20 from hV 0 (by decide))
          obtain ⟨I2, hI2, H⟩ := Gx.ex hG
          exact L_val hS rfl (oL tMs4 rfl rfl (H.bc 2 20 rfl rfl)) ⟨rfl, hG⟩
         ·rw [← hfe]
          have hS := (hfr vals1).sub (ts := [107]) rfl
          replace hS := hS.conv (t := 107) rfl (show (vals1 0) = pp b3 20 from hV 0 (by decide))
          obtain ⟨I2, hI2, H⟩ := Gx.ex hG
          exact L_val hS rfl (oL tMs4 rfl rfl (H.bc 3 20 rfl rfl)) ⟨rfl, hG⟩
        refine .cons (fun ss hlo hhi vals1 xw hG hV => ?_) ?_
        ·obtain rfl : ss = 0 := Nat.le_antisymm hhi hlo
         rw [← hfe]
         have hS := (hfr vals1).sub (ts := [0]) rfl
         exact L_val hS rfl (Ob_c tMs4 rfl) ⟨rfl, hG⟩
        refine .cons (fun ss hlo hhi vals1 xw hG hV => ?_) ?_
        ·obtain rfl : ss = 0 := Nat.le_antisymm hhi hlo
         rw [← hfe]
         have hS := (hfr vals1).sub (ts := [109]) rfl
         replace hS := hS.conv (t := 109) rfl (show (vals1 2) = pp b_r0 0 from hV 2 (by decide))
         obtain ⟨I2, hI2, H⟩ := Gx.ex hG
         refine L_hcall H (js := [(0, false)]) rfl (caps := #[]) hS fn_68_YMs4 rfl rfl rfl rfl rfl (fun D1 hS => have hq := c_ref02_Reader_Big hx9 hS; hq) fun _ yw D1 hr hF2 => ?_
         obtain ⟨rfl, I3, K⟩ := hr
         obtain ⟨hK, H2⟩ := hF2 K
         exact ⟨rfl, Gx.go hG hI2 hK K.imm H2⟩
        refine .cons (fun ss hlo hhi vals1 xw hG hV => ?_) ?_
        ·obtain rfl : ss = 1 := Nat.le_antisymm hhi hlo
         rw [← hfe]
         have hS := (hfr vals1).sub (ts := [110]) rfl
         replace hS := hS.conv (t := 110) rfl (show (vals1 3) = vU b.1 from hV 3 (by decide))
         obtain ⟨I2, hI2, H⟩ := Gx.ex hG
         exact L_bslice H (vs := [(0, vU b.1)]) (cl := [vU b.1]) (e := 23) hS rfl rfl rfl (fun w => run_bslice (z := vU 0) (m := 1) Tryz.underlying32 (by kernel_rfl) rfl rfl (by decide) (by simp [Instr.fill, Value.cells]) w) fun yw b hK H => ⟨rfl, Gx.go hG hI2 hK (fun _ h => h) H⟩
        refine .cons (fun ss hlo hhi vals1 xw hG hV => ?_) ?_
        ·obtain rfl : ss = 2 := Nat.le_antisymm hhi hlo
         rw [← hfe]
         have hS := (hfr vals1).sub (ts := [108, 111]) rfl
         replace hS := hS.conv (t := 108) rfl (show (vals1 1) = v14 from hV 1 (by decide))
         replace hS := hS.conv (t := 111) rfl (show (vals1 4) = .slice (some ⟨blkOf (vals1 4), 0, none⟩) 1 1 from hV 4 (by decide))
         obtain ⟨I2, hI2, H⟩ := Gx.ex hG
         exact L_appO H 8 E_32_YMs4 [b.1] rfl rfl hS rfl rfl rfl rfl (slRep2.box1 (H.bx 0 rfl) ⟨rfl, trivial⟩) hg3 (by decide) fun v yw hK H => ⟨trivial, Gx.go hG hI2 hK (fun _ h => h) (H.sub [(0, false), (1, false), (1, false), (1, false), (1, true), (2, true), (3, false), (3, false)] rfl)⟩
        refine .cons (fun ss hlo hhi vals1 xw hG hV => ?_) ?_
        ·obtain rfl : ss = 3 := Nat.le_antisymm hhi hlo
         rw [← hfe]
         have hS := (hfr vals1).sub (ts := [8]) rfl
         exact L_val hS rfl (Ob_c tMs4 rfl) ⟨rfl, hG⟩
        refine .cons (fun ss hlo hhi vals1 xw hG hV => ?_) ?_
        ·obtain rfl : ss = 3 := Nat.le_antisymm hhi hlo
         rw [← hfe]
         have hS := (hfr vals1).sub (ts := [113, 112]) rfl
         replace hS := hS.conv (t := 113) rfl (show (vals1 6) = pp b3 20 from hV 6 (by decide))
         obtain ⟨I2, hI2, H⟩ := Gx.ex hG
         exact L_store tMs4 H 3 rfl hS rfl rfl rfl rfl rfl (slS.cells (H.owshape 0 rfl)) rfl rfl (one_cons (slS.one (H.owshape 0 rfl)) one_nil) (Nat.le_of_ble_eq_true rfl) rfl fun yw hK H => ⟨trivial, Gx.go hG hI2 hK (fun _ h => h) H⟩
        exact .nil
       ·intro vals1 a w25 Z hG hV
        replace Z := Z.sub (ts := [0, 6, 8, 9, 16, 17]) (S' := [(0, pp b_r0 0), (6, pp b2 0), (8, pp b3 0), (9, vI 0), (16, vI n0_2.1), (17, vI i_2)]) rfl
        obtain ⟨I13, _, H⟩ := Gx.ex hG
        clear hG hV
        replace Z := Z.sub (ts := [0, 6, 8, 9, 16, 17]) rfl
        replace H := H.nf rfl; try dsimp only at H
        refine p_blk ?_
        refine p_then ?_
        obtain ⟨hg4, hF⟩ := chk_in hF
        refine f_region Z fun Z => ?_
        refine s_runk tMs4 Z 1 rfl rfl fun a Z => ?_
        refine sO Z (vI (i_2 + 1)) rfl (Ob_add rfl rfl rfl (wrI hg4)) fun a Z => ?_
        refine s_runk tMs4 Z 1 rfl rfl fun a Z => ?_
        refine s_end Z [0, 6, 8, 9, 16, 17] rfl fun Z => ?_
        refine p_then ?_
        exact ⟨(i_2 + 1, b.2.s, b.2.at_, b.2.e, x_stamps_2 ++ [b.1]), ⟨(vals1 5), Z.sub (ts := [0, 6, 8, 9, 16, 17]) rfl, ⟨I13, (H.sub [(2, false), (2, false), (0, false), (1, true), (2, true), (3, false), (3, false), (0, false)] rfl).eq rfl⟩⟩, hF⟩
      ·replace hF := ite_f hc9 hF
       refine wp_exit ?_
       refine p_then_x ?_
       refine p_then_x ?_
       refine f_exit_here ?_
       refine p_blk ?_
       refine p_then ?_
       exact ⟨0, r_s_3, r_at__3, r_e_3, m.conf.epoch, m.conf.members, m.conf.floor, m.batch.client, m.batch.req, m.batch.ops, m.entries, x_stamps_2, m.pairs, v1_m, v2_m, v3_m, v14, v5_m, Z.sub (ts := [6, 8, 9]) rfl, ⟨I12, (H.sub [(0, false), (0, false), (0, false), (0, true), (1, true), (2, false), (3, false), (2, false)] rfl).eq rfl⟩, hF⟩
     ·replace hF := ite_f hc8 hF
      refine wp_seq (f_region Z ?_); clear Z; intro Z
      refine s_runk tMs4 Z 2 rfl rfl fun a Z => ?_
      refine s_end Z [0, 6, 8, 9, 114] rfl fun Z => ?_
      refine p_then ?_
      refine f_cond Z rfl (fun hc10 => ?_) (fun hc10 => ?_)
      ·replace hF := ite_t hc10 hF
       refine wp_seq ?_
       obtain ⟨n0_3, hx10, hF⟩ := bnd_in hF
       refine f_region Z fun Z => ?_
       refine s_runk tMs4 Z 1 rfl rfl fun a Z => ?_
       refine hC Z H [(3, false)] rfl #[] fn_25_YMs4 rfl rfl (fun D h => have q := c_ref02_Reader_Num hx10 h; q) fun vv a w26 D2 hr hF2 Z => ?_
       obtain ⟨rfl, I14, K⟩ := hr
       have H := (hF2 K).nf rfl
       refine s_runk tMs4 Z 1 rfl rfl fun a Z => ?_
       refine s_end Z [0, 6, 8, 9, 18] rfl fun Z => ?_
       refine p_then (wp_seq (f_region Z ?_)); clear Z; intro Z
       refine s_runk tMs4 Z 1 rfl rfl fun a Z => ?_
       refine s_end Z [0, 6, 8, 9, 18, 19] rfl fun Z => ?_
       refine p_then (wp_block ?_)
       refine f_iter hF (fun sg a' w' => match sg with | (i_3, r_s_4, r_at__4, r_e_4, x_pairs_2) => ∃ v15 : Value, Sl 145 [(0, pp b_r0 0), (6, pp b2 0), (8, pp b3 0), (9, vI 0), (18, vI n0_3.1), (19, vI i_3)] a' ∧ ∃ I2, Hf I D w I2 w' [BxC b_r0 61 [vS r_s_4, vI r_at__4, vI r_e_4], BxC b2 35 [vI 0, vI 0, vI 0, vI 0, vT false, vU 0, vU 0, vI 0, vI 0, vI 0, vI 0, vS ByteArray.empty, vS ByteArray.empty, vI 0, nS, vU 0, vI 0, vI 0, nS, nS, nS, nS], BxC b3 35 (cEMsg m v1_m v2_m v3_m v4_m v15), SlC NEMember v1_m m.conf.members, SlC NEOp v2_m m.batch.ops, OwC NEEntry 88 v3_m m.entries, OwC Nu64 23 v4_m m.stamps, OwC NEPair 91 v15 x_pairs_2]) ⟨v5_m, Z.sub (ts := [0, 6, 8, 9, 18, 19]) rfl, ⟨I14, (H.sub [(0, false), (1, false), (0, false), (1, true), (2, true), (3, false), (3, false), (3, false)] rfl).eq rfl⟩⟩ ?_
       rintro rc_3 ⟨i_3, r_s_4, r_at__4, r_e_4, x_pairs_2⟩ a w27 ⟨v15, Z, I15, H⟩ hF
       unfold F_ref09_lists_l5 at hF
       try dsimp only at hF
       refine wp_seq ?_
       refine wp_seq (f_region Z ?_); clear Z; intro Z
       refine s_runk tMs4 Z 4 rfl rfl fun a Z => ?_
       refine gO Z (pp b_r0 0) rfl (wantB_t _) (.n 0 rfl .z) (fun hp => Ob_c tMs4 rfl) fun a Z => ?_
       refine gO Z (pp b_r0 0) rfl (wantB_t _) (.c 122 rfl id .z) (fun hp => Ob_c tMs4 rfl) fun a Z => ?_
       refine gO Z (pp b_r0 2) rfl (wantB_t _) (.c 123 rfl id .z) (fun hp => Ob_c tMs4 rfl) fun a Z => ?_
       refine gO Z _ rfl (wantB_t _) (.c 124 rfl id .z) (fun hp => oL tMs4 rfl rfl (H.bc 0 2 rfl rfl)) fun a Z => ?_
       refine gO Z (vT (r_e_4 == 0)) rfl (wantB_t _) (.c 125 rfl id .z) (fun hp => Ob_c tMs4 rfl) fun a Z => ?_
       refine sO Z (vT ((decide (i_3 < n0_3.1)) && (r_e_4 == 0))) rfl (Ob_pick rfl rfl rfl rfl (pick_and _ _)) fun a Z => ?_
       refine s_end Z [0, 6, 8, 9, 18, 19, 127] rfl fun Z => ?_
       refine p_then ?_
       refine f_cond Z rfl (fun hc11 => ?_) (fun hc11 => ?_)
       ·replace hF := ite_t hc11 hF
        refine wp_skip ?_
        refine p_then (wp_seq ?_)
        refine wp_block ?_
        refine wp_seq (f_region Z ?_); clear Z; intro Z
        refine sO Z (.agg #[vS ByteArray.empty, vS ByteArray.empty]) rfl (Ob_build (vs := []) rfl rfl (by go_simp <;> rfl)) fun a Z => ?_
        refine hA Z H [vS ByteArray.empty, vS ByteArray.empty] rfl rfl (by kernel_rfl) fun a w28 b6 H Z => ?_
        refine hT tMs4 Z H 0 rfl rfl rfl rfl rfl (onR 2 rfl one_nil) (Nat.le_of_ble_eq_true rfl) rfl fun w29 H => ?_
        dsimp only [List.eraseIdx] at H
        refine s_end Z [0, 6, 8, 9, 18, 19, 20] rfl fun Z => ?_
        refine p_then (wp_seq ?_)
        obtain ⟨t_4, hx11, hF⟩ := bnd_in hF
        refine f_region Z fun Z => ?_
        refine s_runk tMs4 Z 1 rfl rfl fun a Z => ?_
        refine hC Z H [(1, false)] rfl #[] fn_70_YMs4 rfl rfl (fun D h => have q := c_ref02_Reader_Text hx11 h; q) fun vv a w30 D2 hr hF2 Z => ?_
        obtain ⟨rfl, I16, K⟩ := hr
        have H := (hF2 K).nf rfl
        refine s_runk tMs4 Z 1 rfl rfl fun a Z => ?_
        refine hT tMs4 Z H 1 rfl rfl rfl rfl rfl (one_cons rfl one_nil) (Nat.le_of_ble_eq_true rfl) rfl fun w31 H => ?_
        dsimp only [List.eraseIdx] at H
        refine s_end Z [0, 6, 8, 9, 18, 19, 20] rfl fun Z => ?_
        refine p_then (wp_seq ?_)
        obtain ⟨t_5, hx12, hF⟩ := bnd_in hF
        refine f_region Z fun Z => ?_
        refine s_runk tMs4 Z 1 rfl rfl fun a Z => ?_
        refine hC Z H [(1, false)] rfl #[] fn_70_YMs4 rfl rfl (fun D h => have q := c_ref02_Reader_Text hx12 h; q) fun vv a w32 D2 hr hF2 Z => ?_
        obtain ⟨rfl, I17, K⟩ := hr
        have H := (hF2 K).nf rfl
        refine s_runk tMs4 Z 1 rfl rfl fun a Z => ?_
        refine hT tMs4 Z H 1 rfl rfl rfl rfl rfl (one_cons rfl one_nil) (Nat.le_of_ble_eq_true rfl) rfl fun w33 H => ?_
        dsimp only [List.eraseIdx] at H
        refine s_end Z [0, 6, 8, 9, 18, 19, 20] rfl fun Z => ?_
        refine p_then ?_
        obtain ⟨hg5, hF⟩ := chk_in hF
        refine f_region Z fun Z => ?_
        refine s_runk tMs4 Z 1 rfl rfl fun a Z => ?_
        refine sO Z _ rfl (oL tMs4 rfl rfl (H.bc 3 21 rfl rfl)) fun a Z => ?_
        refine sO Z (.agg #[vS t_4.1, vS t_5.1]) rfl (oA tMs4 rfl rfl ((H.bx 0 rfl).part 0 rfl)) fun a Z => ?_
        refine h_bslice Z H (vs := [(0, .agg #[vS t_4.1, vS t_5.1])]) (cl := [vS t_4.1, vS t_5.1]) (e := 91) rfl rfl rfl (by decide) rfl rfl (fun w => run_bslice (z := .agg #[vS ByteArray.empty, vS ByteArray.empty]) (m := 2) Tryz.underlying33 (by kernel_rfl) rfl rfl (by decide) (by simp [Instr.fill, Value.cells]) w) fun a w34 b7 H Z => ?_
        refine h_appO Z H 9 E_33_YMs4 [({ key := t_4.1, val := t_5.1 } : EPair)] rfl rfl rfl rfl rfl (by decide) rfl rfl rfl (slRep2.box1 (H.bx 0 rfl) ⟨rfl, trivial⟩) hg5 (by decide) fun v16 a w35 H Z => ?_
        dsimp only [List.eraseIdx] at H
        replace H := (H.sub [(0, false), (1, false), (1, false), (1, false), (1, false), (1, true), (2, true), (3, false), (3, false)] rfl).nf rfl
        refine s_runk tMs4 Z 1 rfl rfl fun a Z => ?_
        refine hT tMs4 Z H 4 rfl rfl (slS.cells (H.owshape 0 rfl)) rfl rfl (one_cons (slS.one (H.owshape 0 rfl)) one_nil) (Nat.le_of_ble_eq_true rfl) rfl fun w36 H => ?_
        dsimp only [List.eraseIdx] at H
        refine s_end Z [0, 6, 8, 9, 18, 19] rfl fun Z => ?_
        refine p_blk ?_
        refine p_then ?_
        obtain ⟨hg6, hF⟩ := chk_in hF
        refine f_region Z fun Z => ?_
        refine s_runk tMs4 Z 1 rfl rfl fun a Z => ?_
        refine sO Z (vI (i_3 + 1)) rfl (Ob_add rfl rfl rfl (wrI hg6)) fun a Z => ?_
        refine s_runk tMs4 Z 1 rfl rfl fun a Z => ?_
        refine s_end Z [0, 6, 8, 9, 18, 19] rfl fun Z => ?_
        refine p_then ?_
        exact ⟨(i_3 + 1, t_5.2.s, t_5.2.at_, t_5.2.e, x_pairs_2 ++ [({ key := t_4.1, val := t_5.1 } : EPair)]), ⟨v16, Z.sub (ts := [0, 6, 8, 9, 18, 19]) rfl, ⟨I17, (H.sub [(3, false), (3, false), (0, false), (2, true), (3, true), (4, false), (4, false), (0, false)] rfl).eq rfl⟩⟩, hF⟩
       ·replace hF := ite_f hc11 hF
        refine wp_exit ?_
        refine p_then_x ?_
        refine p_then_x ?_
        refine f_exit_here ?_
        refine p_blk ?_
        refine p_then ?_
        exact ⟨0, r_s_4, r_at__4, r_e_4, m.conf.epoch, m.conf.members, m.conf.floor, m.batch.client, m.batch.req, m.batch.ops, m.entries, m.stamps, x_pairs_2, v1_m, v2_m, v3_m, v4_m, v15, Z.sub (ts := [6, 8, 9]) rfl, ⟨I15, (H.sub [(0, false), (0, false), (0, false), (0, true), (1, true), (2, false), (2, false), (2, false)] rfl).eq rfl⟩, hF⟩
      ·replace hF := ite_f hc10 hF
       refine wp_skip ?_
       refine p_blk ?_
       refine p_then ?_
       exact ⟨0, r0.s, r0.at_, r0.e, m.conf.epoch, m.conf.members, m.conf.floor, m.batch.client, m.batch.req, m.batch.ops, m.entries, m.stamps, m.pairs, v1_m, v2_m, v3_m, v4_m, v5_m, Z.sub (ts := [6, 8, 9]) rfl, ⟨I, (H.sub [(3, false), (1, false), (0, false), (1, true), (2, true), (3, false), (3, false), (3, false)] rfl).eq rfl⟩, hF⟩

def F_ref09_read_k1 (m : EMsg) (yb_r0_s : ByteArray) (yb_r0_at_ : Int) (yb_r0_e : Int) (x_epoch : Int) (x_req : Int) (x_serial : Int) (x_flag : Bool) (x_at_ : Int) (x_last : Int) (x_n : Int) (x_m : Int) (x_p : Int) (x_e : Int) (x_key : ByteArray) (x_to_ : ByteArray) : Option (EMsg × Int × Eref02_Reader) := some (({ m with epoch := x_epoch, req := x_req, serial := x_serial, flag := x_flag, at_ := x_at_, last := x_last, n := x_n, m := x_m, p := x_p, e := x_e, key := x_key, to_ := x_to_ } : EMsg), 0, ({ s := yb_r0_s, at_ := yb_r0_at_, e := yb_r0_e } : Eref02_Reader))

def F_ref09_read (r0 : Eref02_Reader) (m : EMsg) (c : Int) : Option (EMsg × Int × Eref02_Reader) := if (c == 101) = true then ((F_ref02_Reader_Num r0 1073741824).bind fun n0 => (F_ref09_read_k1 m n0.2.s n0.2.at_ n0.2.e n0.1 m.req m.serial m.flag m.at_ m.last m.n m.m m.p m.e m.key m.to_)) else (if (c == 115) = true then ((F_ref02_Reader_Num r0 1073741824).bind fun n0_2 => (F_ref09_read_k1 m n0_2.2.s n0_2.2.at_ n0_2.2.e m.epoch m.req n0_2.1 m.flag m.at_ m.last m.n m.m m.p m.e m.key m.to_)) else (if (c == 114) = true then ((F_ref02_Reader_Num r0 1073741824).bind fun n0_3 => (F_ref09_read_k1 m n0_3.2.s n0_3.2.at_ n0_3.2.e m.epoch n0_3.1 m.serial m.flag m.at_ m.last m.n m.m m.p m.e m.key m.to_)) else (if (c == 110) = true then ((F_ref02_Reader_Num r0 1073741824).bind fun n0_4 => (F_ref09_read_k1 m n0_4.2.s n0_4.2.at_ n0_4.2.e m.epoch m.req m.serial m.flag m.at_ m.last n0_4.1 m.m m.p m.e m.key m.to_)) else (if (c == 109) = true then ((F_ref02_Reader_Num r0 1073741824).bind fun n0_5 => (F_ref09_read_k1 m n0_5.2.s n0_5.2.at_ n0_5.2.e m.epoch m.req m.serial m.flag m.at_ m.last m.n n0_5.1 m.p m.e m.key m.to_)) else (if (c == 112) = true then ((F_ref02_Reader_Num r0 1073741824).bind fun n0_6 => (F_ref09_read_k1 m n0_6.2.s n0_6.2.at_ n0_6.2.e m.epoch m.req m.serial m.flag m.at_ m.last m.n m.m n0_6.1 m.e m.key m.to_)) else (if (c == 120) = true then ((F_ref02_Reader_Num r0 21).bind fun n0_7 => (F_ref09_read_k1 m n0_7.2.s n0_7.2.at_ n0_7.2.e m.epoch m.req m.serial m.flag m.at_ m.last m.n m.m m.p n0_7.1 m.key m.to_)) else (if (c == 97) = true then ((F_ref02_Reader_Big r0).bind fun b => (F_ref09_read_k1 m b.2.s b.2.at_ b.2.e m.epoch m.req m.serial m.flag b.1 m.last m.n m.m m.p m.e m.key m.to_)) else (if (c == 108) = true then ((F_ref02_Reader_Big r0).bind fun b_2 => (F_ref09_read_k1 m b_2.2.s b_2.2.at_ b_2.2.e m.epoch m.req m.serial m.flag m.at_ b_2.1 m.n m.m m.p m.e m.key m.to_)) else (if (c == 102) = true then ((F_ref02_Reader_Flag r0).bind fun f => (F_ref09_read_k1 m f.2.s f.2.at_ f.2.e m.epoch m.req m.serial f.1 m.at_ m.last m.n m.m m.p m.e m.key m.to_)) else (if (c == 107) = true then ((F_ref02_Reader_Text r0 8).bind fun t => (F_ref09_read_k1 m t.2.s t.2.at_ t.2.e m.epoch m.req m.serial m.flag m.at_ m.last m.n m.m m.p m.e t.1 m.to_)) else (if (c == 116) = true then ((F_ref02_Reader_Text r0 8).bind fun t_2 => (F_ref09_read_k1 m t_2.2.s t_2.2.at_ t_2.2.e m.epoch m.req m.serial m.flag m.at_ m.last m.n m.m m.p m.e m.key t_2.1)) else ((F_ref09_lists r0 m c).bind fun l => (some (l.1, l.2.1, l.2.2))))))))))))))

set_option maxHeartbeats 1000000 in
theorem c_ref09_read {I D : Dm} {b_r0 : Nat} {r0 : Eref02_Reader} {m : EMsg} {v1_m : Value} {v2_m : Value} {v3_m : Value} {v4_m : Value} {v5_m : Value} {c : Int} {w : World} {rr : EMsg × Int × Eref02_Reader} (hF : F_ref09_read r0 m c = some rr) (H : St I D w [BxC b_r0 61 [vS r0.s, vI r0.at_, vI r0.e], SlC NEMember v1_m m.conf.members, SlC NEOp v2_m m.batch.ops, OwC NEEntry 88 v3_m m.entries, OwC Nu64 23 v4_m m.stamps, OwC NEPair 91 v5_m m.pairs]) :
  Calls Tryz.prog 27 #[pp b_r0 0, .agg (cEMsg m v1_m v2_m v3_m v4_m v5_m).toArray, .int .u8 c] w (Ret fun vv w' => ∃ q1 q2 q3 q4 q5 : Value, vv = .tuple #[.agg (cEMsg rr.1 q1 q2 q3 q4 q5).toArray, vI rr.2.1] ∧ ∃ I', Hf I D w I' w' [BxC b_r0 61 [vS rr.2.2.s, vI rr.2.2.at_, vI rr.2.2.e], SlC NEMember q1 rr.1.conf.members, SlC NEOp q2 rr.1.batch.ops, OwC NEEntry 88 q3 rr.1.entries, OwC Nu64 23 q4 rr.1.stamps, OwC NEPair 91 q5 rr.1.pairs]) := by
 replace H := H.hf
 unfold F_ref09_read at hF
 refine f_enter 78 Tryz.func27 rfl rfl (Nat.le_of_ble_eq_true rfl) fun a Z => ?_
 replace Z := Z.sub (ts := [0, 1, 2]) rfl
 refine wp_seq (f_region Z ?_); clear Z; intro Z
 refine h_boxv Z H (cl := (cEMsg m v1_m v2_m v3_m v4_m v5_m)) rfl rfl rfl (by decide) rfl rfl rfl fun a w1 b1 H Z => ?_
 refine hA Z H [vI 0, vI 0, vI 0, vI 0, vT false, vU 0, vU 0, vI 0, vI 0, vI 0, vI 0, vS ByteArray.empty, vS ByteArray.empty, vI 0, nS, vU 0, vI 0, vI 0, nS, nS, nS, nS] rfl rfl (by kernel_rfl) fun a w2 b2 H Z => ?_
 refine s_runk tMs4 Z 1 rfl rfl fun a Z => ?_
 refine s_end Z [0, 2, 4, 6] rfl fun Z => ?_
 refine p_then (wp_seq (f_region Z ?_)); clear Z; intro Z
 refine sO Z (.agg (cEMsg m v1_m v2_m v3_m v4_m v5_m).toArray) rfl (oA tMs4 rfl rfl ((H.bx 1 rfl).part 0 rfl)) fun a Z => ?_
 refine hA Z H [vI 0, vI 0, vI 0, vI 0, vT false, vU 0, vU 0, vI 0, vI 0, vI 0, vI 0, vS ByteArray.empty, vS ByteArray.empty, vI 0, nS, vU 0, vI 0, vI 0, nS, nS, nS, nS] rfl rfl (by kernel_rfl) fun a w3 b3 H Z => ?_
 refine hT tMs4 Z H 0 rfl rfl rfl rfl rfl (onR 14 rfl (one_cons (slS.one (H.slshape 4 rfl)) (onR 3 rfl (one_cons (slS.one (H.slshape 5 rfl)) (one_cons (slS.one (H.owshape 6 rfl)) (one_cons (slS.one (H.owshape 7 rfl)) (one_cons (slS.one (H.owshape 8 rfl)) one_nil))))))) (Nat.le_of_ble_eq_true rfl) (putCells_all rfl) fun w4 H => ?_
 dsimp only [List.eraseIdx] at H
 refine s_end Z [0, 2, 4, 6, 8] rfl fun Z => ?_
 refine p_then ?_
 refine f_cut (fun a' w' => ∃ (yb_r0_s : ByteArray) (yb_r0_at_ : Int) (yb_r0_e : Int) (x_epoch : Int) (x_req : Int) (x_serial : Int) (x_flag : Bool) (x_at_ : Int) (x_last : Int) (x_n : Int) (x_m : Int) (x_p : Int) (x_e : Int) (x_key : ByteArray) (x_to_ : ByteArray), Sl 78 [(6, pp b2 0), (8, pp b3 0)] a' ∧ (∃ I2, Hf I D w I2 w' [BxC b_r0 61 [vS yb_r0_s, vI yb_r0_at_, vI yb_r0_e], BxC b2 35 [vI 0, vI 0, vI 0, vI 0, vT false, vU 0, vU 0, vI 0, vI 0, vI 0, vI 0, vS ByteArray.empty, vS ByteArray.empty, vI 0, nS, vU 0, vI 0, vI 0, nS, nS, nS, nS], BxC b3 35 [vI m.k, vI x_epoch, vI x_req, vI x_serial, vT x_flag, vU x_at_, vU x_last, vI x_n, vI x_m, vI x_p, vI x_e, vS x_key, vS x_to_, vI m.conf.epoch, v1_m, vU m.conf.floor, vI m.batch.client, vI m.batch.req, v2_m, v3_m, v4_m, v5_m], SlC NEMember v1_m m.conf.members, SlC NEOp v2_m m.batch.ops, OwC NEEntry 88 v3_m m.entries, OwC Nu64 23 v4_m m.stamps, OwC NEPair 91 v5_m m.pairs]) ∧ F_ref09_read_k1 m yb_r0_s yb_r0_at_ yb_r0_e x_epoch x_req x_serial x_flag x_at_ x_last x_n x_m x_p x_e x_key x_to_ = some rr) ?_ ?_
 ·rintro a w5 ⟨yb_r0_s, yb_r0_at_, yb_r0_e, x_epoch, x_req, x_serial, x_flag, x_at_, x_last, x_n, x_m, x_p, x_e, x_key, x_to_, Z, ⟨I1, H⟩, hF⟩
  unfold F_ref09_read_k1 at hF
  try dsimp only at hF
  refine wp_seq (f_region Z ?_); clear Z; intro Z
  refine sO Z (.agg #[vI m.k, vI x_epoch, vI x_req, vI x_serial, vT x_flag, vU x_at_, vU x_last, vI x_n, vI x_m, vI x_p, vI x_e, vS x_key, vS x_to_, vI m.conf.epoch, v1_m, vU m.conf.floor, vI m.batch.client, vI m.batch.req, v2_m, v3_m, v4_m, v5_m]) rfl (oA tMs4 rfl rfl ((H.bx 2 rfl).part 0 rfl)) fun a Z => ?_
  refine hT tMs4 Z H 1 rfl rfl rfl rfl rfl (onR 14 rfl (one_cons (slS.one (H.slshape 3 rfl)) (onR 3 rfl (one_cons (slS.one (H.slshape 4 rfl)) (one_cons (slS.one (H.owshape 5 rfl)) (one_cons (slS.one (H.owshape 6 rfl)) (one_cons (slS.one (H.owshape 7 rfl)) one_nil))))))) (Nat.le_of_ble_eq_true rfl) (putCells_all rfl) fun w6 H => ?_
  dsimp only [List.eraseIdx] at H
  refine s_runk tMs4 Z 1 rfl rfl fun a Z => ?_
  refine s_end Z [6, 7] rfl fun Z => ?_
  refine p_then (wp_ret ?_)
  obtain rfl := some_in hF
  exact f_ret Z (run_resultsCT rfl Z rfl (run_loadVar_agg tMs4 rfl (H.bx 0 rfl).at) rfl) ⟨v1_m, v2_m, v3_m, v4_m, v5_m, rfl, I1, (H.sub [(1, false), (2, true), (3, true), (4, false), (4, false), (4, false)] rfl).eq rfl⟩
 ·skip
  refine wp_seq (f_region Z ?_); clear Z; intro Z
  refine s_runk tMs4 Z 1 rfl rfl fun a Z => ?_
  refine s_end Z [0, 2, 4, 6, 8, 10] rfl fun Z => ?_
  refine p_then (wp_block ?_)
  refine wp_seq (f_region Z ?_); clear Z; intro Z
  refine s_runk tMs4 Z 2 rfl rfl fun a Z => ?_
  refine s_end Z [0, 2, 4, 6, 8, 10, 17] rfl fun Z => ?_
  refine p_then ?_
  refine f_cond Z rfl (fun hc1 => ?_) (fun hc1 => ?_)
  ·replace hF := ite_t hc1 hF
   obtain ⟨n0, hx1, hF⟩ := bnd_in hF
   refine f_region Z fun Z => ?_
   refine s_runk tMs4 Z 1 rfl rfl fun a Z => ?_
   refine hC Z H [(3, false)] rfl #[] fn_25_YMs4 rfl rfl (fun D h => have q := c_ref02_Reader_Num hx1 h; q) fun vv a w7 D2 hr hF2 Z => ?_
   obtain ⟨rfl, I2, K⟩ := hr
   have H := (hF2 K).nf rfl
   refine s_runk tMs4 Z 1 rfl rfl fun a Z => ?_
   refine hT tMs4 Z H 1 rfl rfl rfl rfl rfl (one_cons rfl one_nil) (Nat.le_of_ble_eq_true rfl) rfl fun w8 H => ?_
   dsimp only [List.eraseIdx] at H
   refine s_end Z [6, 8] rfl fun Z => ?_
   refine p_blk ?_
   refine p_then ?_
   exact ⟨n0.2.s, n0.2.at_, n0.2.e, n0.1, m.req, m.serial, m.flag, m.at_, m.last, m.n, m.m, m.p, m.e, m.key, m.to_, Z.sub (ts := [6, 8]) rfl, ⟨I2, (H.sub [(1, false), (1, false), (0, false), (1, true), (2, true), (3, false), (3, false), (3, false)] rfl).eq rfl⟩, hF⟩
  ·replace hF := ite_f hc1 hF
   refine wp_seq (f_region Z ?_); clear Z; intro Z
   refine s_runk tMs4 Z 2 rfl rfl fun a Z => ?_
   refine s_end Z [0, 2, 4, 6, 8, 10, 22] rfl fun Z => ?_
   refine p_then ?_
   refine f_cond Z rfl (fun hc2 => ?_) (fun hc2 => ?_)
   ·replace hF := ite_t hc2 hF
    obtain ⟨n0_2, hx2, hF⟩ := bnd_in hF
    refine f_region Z fun Z => ?_
    refine s_runk tMs4 Z 1 rfl rfl fun a Z => ?_
    refine hC Z H [(3, false)] rfl #[] fn_25_YMs4 rfl rfl (fun D h => have q := c_ref02_Reader_Num hx2 h; q) fun vv a w9 D2 hr hF2 Z => ?_
    obtain ⟨rfl, I3, K⟩ := hr
    have H := (hF2 K).nf rfl
    refine s_runk tMs4 Z 1 rfl rfl fun a Z => ?_
    refine hT tMs4 Z H 1 rfl rfl rfl rfl rfl (one_cons rfl one_nil) (Nat.le_of_ble_eq_true rfl) rfl fun w10 H => ?_
    dsimp only [List.eraseIdx] at H
    refine s_end Z [6, 8] rfl fun Z => ?_
    refine p_blk ?_
    refine p_then ?_
    exact ⟨n0_2.2.s, n0_2.2.at_, n0_2.2.e, m.epoch, m.req, n0_2.1, m.flag, m.at_, m.last, m.n, m.m, m.p, m.e, m.key, m.to_, Z.sub (ts := [6, 8]) rfl, ⟨I3, (H.sub [(1, false), (1, false), (0, false), (1, true), (2, true), (3, false), (3, false), (3, false)] rfl).eq rfl⟩, hF⟩
   ·replace hF := ite_f hc2 hF
    refine wp_seq (f_region Z ?_); clear Z; intro Z
    refine s_runk tMs4 Z 2 rfl rfl fun a Z => ?_
    refine s_end Z [0, 2, 4, 6, 8, 10, 27] rfl fun Z => ?_
    refine p_then ?_
    refine f_cond Z rfl (fun hc3 => ?_) (fun hc3 => ?_)
    ·replace hF := ite_t hc3 hF
     obtain ⟨n0_3, hx3, hF⟩ := bnd_in hF
     refine f_region Z fun Z => ?_
     refine s_runk tMs4 Z 1 rfl rfl fun a Z => ?_
     refine hC Z H [(3, false)] rfl #[] fn_25_YMs4 rfl rfl (fun D h => have q := c_ref02_Reader_Num hx3 h; q) fun vv a w11 D2 hr hF2 Z => ?_
     obtain ⟨rfl, I4, K⟩ := hr
     have H := (hF2 K).nf rfl
     refine s_runk tMs4 Z 1 rfl rfl fun a Z => ?_
     refine hT tMs4 Z H 1 rfl rfl rfl rfl rfl (one_cons rfl one_nil) (Nat.le_of_ble_eq_true rfl) rfl fun w12 H => ?_
     dsimp only [List.eraseIdx] at H
     refine s_end Z [6, 8] rfl fun Z => ?_
     refine p_blk ?_
     refine p_then ?_
     exact ⟨n0_3.2.s, n0_3.2.at_, n0_3.2.e, m.epoch, n0_3.1, m.serial, m.flag, m.at_, m.last, m.n, m.m, m.p, m.e, m.key, m.to_, Z.sub (ts := [6, 8]) rfl, ⟨I4, (H.sub [(1, false), (1, false), (0, false), (1, true), (2, true), (3, false), (3, false), (3, false)] rfl).eq rfl⟩, hF⟩
    ·replace hF := ite_f hc3 hF
     refine wp_seq (f_region Z ?_); clear Z; intro Z
     refine s_runk tMs4 Z 2 rfl rfl fun a Z => ?_
     refine s_end Z [0, 2, 4, 6, 8, 10, 32] rfl fun Z => ?_
     refine p_then ?_
     refine f_cond Z rfl (fun hc4 => ?_) (fun hc4 => ?_)
     ·replace hF := ite_t hc4 hF
      obtain ⟨n0_4, hx4, hF⟩ := bnd_in hF
      refine f_region Z fun Z => ?_
      refine s_runk tMs4 Z 1 rfl rfl fun a Z => ?_
      refine hC Z H [(3, false)] rfl #[] fn_25_YMs4 rfl rfl (fun D h => have q := c_ref02_Reader_Num hx4 h; q) fun vv a w13 D2 hr hF2 Z => ?_
      obtain ⟨rfl, I5, K⟩ := hr
      have H := (hF2 K).nf rfl
      refine s_runk tMs4 Z 1 rfl rfl fun a Z => ?_
      refine hT tMs4 Z H 1 rfl rfl rfl rfl rfl (one_cons rfl one_nil) (Nat.le_of_ble_eq_true rfl) rfl fun w14 H => ?_
      dsimp only [List.eraseIdx] at H
      refine s_end Z [6, 8] rfl fun Z => ?_
      refine p_blk ?_
      refine p_then ?_
      exact ⟨n0_4.2.s, n0_4.2.at_, n0_4.2.e, m.epoch, m.req, m.serial, m.flag, m.at_, m.last, n0_4.1, m.m, m.p, m.e, m.key, m.to_, Z.sub (ts := [6, 8]) rfl, ⟨I5, (H.sub [(1, false), (1, false), (0, false), (1, true), (2, true), (3, false), (3, false), (3, false)] rfl).eq rfl⟩, hF⟩
     ·replace hF := ite_f hc4 hF
      refine wp_seq (f_region Z ?_); clear Z; intro Z
      refine s_runk tMs4 Z 2 rfl rfl fun a Z => ?_
      refine s_end Z [0, 2, 4, 6, 8, 10, 37] rfl fun Z => ?_
      refine p_then ?_
      refine f_cond Z rfl (fun hc5 => ?_) (fun hc5 => ?_)
      ·replace hF := ite_t hc5 hF
       obtain ⟨n0_5, hx5, hF⟩ := bnd_in hF
       refine f_region Z fun Z => ?_
       refine s_runk tMs4 Z 1 rfl rfl fun a Z => ?_
       refine hC Z H [(3, false)] rfl #[] fn_25_YMs4 rfl rfl (fun D h => have q := c_ref02_Reader_Num hx5 h; q) fun vv a w15 D2 hr hF2 Z => ?_
       obtain ⟨rfl, I6, K⟩ := hr
       have H := (hF2 K).nf rfl
       refine s_runk tMs4 Z 1 rfl rfl fun a Z => ?_
       refine hT tMs4 Z H 1 rfl rfl rfl rfl rfl (one_cons rfl one_nil) (Nat.le_of_ble_eq_true rfl) rfl fun w16 H => ?_
       dsimp only [List.eraseIdx] at H
       refine s_end Z [6, 8] rfl fun Z => ?_
       refine p_blk ?_
       refine p_then ?_
       exact ⟨n0_5.2.s, n0_5.2.at_, n0_5.2.e, m.epoch, m.req, m.serial, m.flag, m.at_, m.last, m.n, n0_5.1, m.p, m.e, m.key, m.to_, Z.sub (ts := [6, 8]) rfl, ⟨I6, (H.sub [(1, false), (1, false), (0, false), (1, true), (2, true), (3, false), (3, false), (3, false)] rfl).eq rfl⟩, hF⟩
      ·replace hF := ite_f hc5 hF
       refine wp_seq (f_region Z ?_); clear Z; intro Z
       refine s_runk tMs4 Z 2 rfl rfl fun a Z => ?_
       refine s_end Z [0, 2, 4, 6, 8, 10, 42] rfl fun Z => ?_
       refine p_then ?_
       refine f_cond Z rfl (fun hc6 => ?_) (fun hc6 => ?_)
       ·replace hF := ite_t hc6 hF
        obtain ⟨n0_6, hx6, hF⟩ := bnd_in hF
        refine f_region Z fun Z => ?_
        refine s_runk tMs4 Z 1 rfl rfl fun a Z => ?_
        refine hC Z H [(3, false)] rfl #[] fn_25_YMs4 rfl rfl (fun D h => have q := c_ref02_Reader_Num hx6 h; q) fun vv a w17 D2 hr hF2 Z => ?_
        obtain ⟨rfl, I7, K⟩ := hr
        have H := (hF2 K).nf rfl
        refine s_runk tMs4 Z 1 rfl rfl fun a Z => ?_
        refine hT tMs4 Z H 1 rfl rfl rfl rfl rfl (one_cons rfl one_nil) (Nat.le_of_ble_eq_true rfl) rfl fun w18 H => ?_
        dsimp only [List.eraseIdx] at H
        refine s_end Z [6, 8] rfl fun Z => ?_
        refine p_blk ?_
        refine p_then ?_
        exact ⟨n0_6.2.s, n0_6.2.at_, n0_6.2.e, m.epoch, m.req, m.serial, m.flag, m.at_, m.last, m.n, m.m, n0_6.1, m.e, m.key, m.to_, Z.sub (ts := [6, 8]) rfl, ⟨I7, (H.sub [(1, false), (1, false), (0, false), (1, true), (2, true), (3, false), (3, false), (3, false)] rfl).eq rfl⟩, hF⟩
       ·replace hF := ite_f hc6 hF
        refine wp_seq (f_region Z ?_); clear Z; intro Z
        refine s_runk tMs4 Z 2 rfl rfl fun a Z => ?_
        refine s_end Z [0, 2, 4, 6, 8, 10, 47] rfl fun Z => ?_
        refine p_then ?_
        refine f_cond Z rfl (fun hc7 => ?_) (fun hc7 => ?_)
        ·replace hF := ite_t hc7 hF
         obtain ⟨n0_7, hx7, hF⟩ := bnd_in hF
         refine f_region Z fun Z => ?_
         refine s_runk tMs4 Z 1 rfl rfl fun a Z => ?_
         refine hC Z H [(3, false)] rfl #[] fn_25_YMs4 rfl rfl (fun D h => have q := c_ref02_Reader_Num hx7 h; q) fun vv a w19 D2 hr hF2 Z => ?_
         obtain ⟨rfl, I8, K⟩ := hr
         have H := (hF2 K).nf rfl
         refine s_runk tMs4 Z 1 rfl rfl fun a Z => ?_
         refine hT tMs4 Z H 1 rfl rfl rfl rfl rfl (one_cons rfl one_nil) (Nat.le_of_ble_eq_true rfl) rfl fun w20 H => ?_
         dsimp only [List.eraseIdx] at H
         refine s_end Z [6, 8] rfl fun Z => ?_
         refine p_blk ?_
         refine p_then ?_
         exact ⟨n0_7.2.s, n0_7.2.at_, n0_7.2.e, m.epoch, m.req, m.serial, m.flag, m.at_, m.last, m.n, m.m, m.p, n0_7.1, m.key, m.to_, Z.sub (ts := [6, 8]) rfl, ⟨I8, (H.sub [(1, false), (1, false), (0, false), (1, true), (2, true), (3, false), (3, false), (3, false)] rfl).eq rfl⟩, hF⟩
        ·replace hF := ite_f hc7 hF
         refine wp_seq (f_region Z ?_); clear Z; intro Z
         refine s_runk tMs4 Z 2 rfl rfl fun a Z => ?_
         refine s_end Z [0, 2, 4, 6, 8, 10, 52] rfl fun Z => ?_
         refine p_then ?_
         refine f_cond Z rfl (fun hc8 => ?_) (fun hc8 => ?_)
         ·replace hF := ite_t hc8 hF
          obtain ⟨b, hx8, hF⟩ := bnd_in hF
          refine f_region Z fun Z => ?_
          refine s_runk tMs4 Z 1 rfl rfl fun a Z => ?_
          refine hC Z H [(3, false)] rfl #[] fn_68_YMs4 rfl rfl (fun D h => have q := c_ref02_Reader_Big hx8 h; q) fun vv a w21 D2 hr hF2 Z => ?_
          obtain ⟨rfl, I9, K⟩ := hr
          have H := (hF2 K).nf rfl
          refine s_runk tMs4 Z 1 rfl rfl fun a Z => ?_
          refine hT tMs4 Z H 1 rfl rfl rfl rfl rfl (one_cons rfl one_nil) (Nat.le_of_ble_eq_true rfl) rfl fun w22 H => ?_
          dsimp only [List.eraseIdx] at H
          refine s_end Z [6, 8] rfl fun Z => ?_
          refine p_blk ?_
          refine p_then ?_
          exact ⟨b.2.s, b.2.at_, b.2.e, m.epoch, m.req, m.serial, m.flag, b.1, m.last, m.n, m.m, m.p, m.e, m.key, m.to_, Z.sub (ts := [6, 8]) rfl, ⟨I9, (H.sub [(1, false), (1, false), (0, false), (1, true), (2, true), (3, false), (3, false), (3, false)] rfl).eq rfl⟩, hF⟩
         ·replace hF := ite_f hc8 hF
          refine wp_seq (f_region Z ?_); clear Z; intro Z
          refine s_runk tMs4 Z 2 rfl rfl fun a Z => ?_
          refine s_end Z [0, 2, 4, 6, 8, 10, 57] rfl fun Z => ?_
          refine p_then ?_
          refine f_cond Z rfl (fun hc9 => ?_) (fun hc9 => ?_)
          ·replace hF := ite_t hc9 hF
           obtain ⟨b_2, hx9, hF⟩ := bnd_in hF
           refine f_region Z fun Z => ?_
           refine s_runk tMs4 Z 1 rfl rfl fun a Z => ?_
           refine hC Z H [(3, false)] rfl #[] fn_68_YMs4 rfl rfl (fun D h => have q := c_ref02_Reader_Big hx9 h; q) fun vv a w23 D2 hr hF2 Z => ?_
           obtain ⟨rfl, I10, K⟩ := hr
           have H := (hF2 K).nf rfl
           refine s_runk tMs4 Z 1 rfl rfl fun a Z => ?_
           refine hT tMs4 Z H 1 rfl rfl rfl rfl rfl (one_cons rfl one_nil) (Nat.le_of_ble_eq_true rfl) rfl fun w24 H => ?_
           dsimp only [List.eraseIdx] at H
           refine s_end Z [6, 8] rfl fun Z => ?_
           refine p_blk ?_
           refine p_then ?_
           exact ⟨b_2.2.s, b_2.2.at_, b_2.2.e, m.epoch, m.req, m.serial, m.flag, m.at_, b_2.1, m.n, m.m, m.p, m.e, m.key, m.to_, Z.sub (ts := [6, 8]) rfl, ⟨I10, (H.sub [(1, false), (1, false), (0, false), (1, true), (2, true), (3, false), (3, false), (3, false)] rfl).eq rfl⟩, hF⟩
          ·replace hF := ite_f hc9 hF
           refine wp_seq (f_region Z ?_); clear Z; intro Z
           refine s_runk tMs4 Z 2 rfl rfl fun a Z => ?_
           refine s_end Z [0, 2, 4, 6, 8, 10, 62] rfl fun Z => ?_
           refine p_then ?_
           refine f_cond Z rfl (fun hc10 => ?_) (fun hc10 => ?_)
           ·replace hF := ite_t hc10 hF
            obtain ⟨f, hx10, hF⟩ := bnd_in hF
            refine f_region Z fun Z => ?_
            refine s_runk tMs4 Z 1 rfl rfl fun a Z => ?_
            refine hC Z H [(3, false)] rfl #[] fn_69_YMs4 rfl rfl (fun D h => have q := c_ref02_Reader_Flag hx10 h; q) fun vv a w25 D2 hr hF2 Z => ?_
            obtain ⟨rfl, I11, K⟩ := hr
            have H := (hF2 K).nf rfl
            refine s_runk tMs4 Z 1 rfl rfl fun a Z => ?_
            refine hT tMs4 Z H 1 rfl rfl rfl rfl rfl (one_cons rfl one_nil) (Nat.le_of_ble_eq_true rfl) rfl fun w26 H => ?_
            dsimp only [List.eraseIdx] at H
            refine s_end Z [6, 8] rfl fun Z => ?_
            refine p_blk ?_
            refine p_then ?_
            exact ⟨f.2.s, f.2.at_, f.2.e, m.epoch, m.req, m.serial, f.1, m.at_, m.last, m.n, m.m, m.p, m.e, m.key, m.to_, Z.sub (ts := [6, 8]) rfl, ⟨I11, (H.sub [(1, false), (1, false), (0, false), (1, true), (2, true), (3, false), (3, false), (3, false)] rfl).eq rfl⟩, hF⟩
           ·replace hF := ite_f hc10 hF
            refine wp_seq (f_region Z ?_); clear Z; intro Z
            refine s_runk tMs4 Z 2 rfl rfl fun a Z => ?_
            refine s_end Z [0, 2, 4, 6, 8, 10, 67] rfl fun Z => ?_
            refine p_then ?_
            refine f_cond Z rfl (fun hc11 => ?_) (fun hc11 => ?_)
            ·replace hF := ite_t hc11 hF
             obtain ⟨t, hx11, hF⟩ := bnd_in hF
             refine f_region Z fun Z => ?_
             refine s_runk tMs4 Z 1 rfl rfl fun a Z => ?_
             refine hC Z H [(3, false)] rfl #[] fn_70_YMs4 rfl rfl (fun D h => have q := c_ref02_Reader_Text hx11 h; q) fun vv a w27 D2 hr hF2 Z => ?_
             obtain ⟨rfl, I12, K⟩ := hr
             have H := (hF2 K).nf rfl
             refine s_runk tMs4 Z 1 rfl rfl fun a Z => ?_
             refine hT tMs4 Z H 1 rfl rfl rfl rfl rfl (one_cons rfl one_nil) (Nat.le_of_ble_eq_true rfl) rfl fun w28 H => ?_
             dsimp only [List.eraseIdx] at H
             refine s_end Z [6, 8] rfl fun Z => ?_
             refine p_blk ?_
             refine p_then ?_
             exact ⟨t.2.s, t.2.at_, t.2.e, m.epoch, m.req, m.serial, m.flag, m.at_, m.last, m.n, m.m, m.p, m.e, t.1, m.to_, Z.sub (ts := [6, 8]) rfl, ⟨I12, (H.sub [(1, false), (1, false), (0, false), (1, true), (2, true), (3, false), (3, false), (3, false)] rfl).eq rfl⟩, hF⟩
            ·replace hF := ite_f hc11 hF
             refine wp_seq (f_region Z ?_); clear Z; intro Z
             refine s_runk tMs4 Z 2 rfl rfl fun a Z => ?_
             refine s_end Z [0, 2, 4, 6, 8, 72] rfl fun Z => ?_
             refine p_then ?_
             refine f_cond Z rfl (fun hc12 => ?_) (fun hc12 => ?_)
             ·replace hF := ite_t hc12 hF
              obtain ⟨t_2, hx12, hF⟩ := bnd_in hF
              refine f_region Z fun Z => ?_
              refine s_runk tMs4 Z 1 rfl rfl fun a Z => ?_
              refine hC Z H [(3, false)] rfl #[] fn_70_YMs4 rfl rfl (fun D h => have q := c_ref02_Reader_Text hx12 h; q) fun vv a w29 D2 hr hF2 Z => ?_
              obtain ⟨rfl, I13, K⟩ := hr
              have H := (hF2 K).nf rfl
              refine s_runk tMs4 Z 1 rfl rfl fun a Z => ?_
              refine hT tMs4 Z H 1 rfl rfl rfl rfl rfl (one_cons rfl one_nil) (Nat.le_of_ble_eq_true rfl) rfl fun w30 H => ?_
              dsimp only [List.eraseIdx] at H
              refine s_end Z [6, 8] rfl fun Z => ?_
              refine p_blk ?_
              refine p_then ?_
              exact ⟨t_2.2.s, t_2.2.at_, t_2.2.e, m.epoch, m.req, m.serial, m.flag, m.at_, m.last, m.n, m.m, m.p, m.e, m.key, t_2.1, Z.sub (ts := [6, 8]) rfl, ⟨I13, (H.sub [(1, false), (1, false), (0, false), (1, true), (2, true), (3, false), (3, false), (3, false)] rfl).eq rfl⟩, hF⟩
             ·replace hF := ite_f hc12 hF
              refine wp_seq ?_
              obtain ⟨l, hx13, hF⟩ := bnd_in hF
              refine f_region Z fun Z => ?_
              refine s_runk tMs4 Z 1 rfl rfl fun a Z => ?_
              refine sO Z (.agg (cEMsg m v1_m v2_m v3_m v4_m v5_m).toArray) rfl (oA tMs4 rfl rfl ((H.bx 2 rfl).part 0 rfl)) fun a Z => ?_
              refine s_runk tMs4 Z 1 rfl rfl fun a Z => ?_
              refine hC Z H [(3, false), (3, true), (4, true), (5, false), (5, false), (5, false)] rfl #[] fn_71_YMs4 rfl rfl (fun D h => have q := c_ref09_lists hx13 h; q) fun vv a w31 D2 hr hF2 Z => ?_
              obtain ⟨q1, q2, q3, q4, q5, rfl, I14, K⟩ := hr
              have H := (hF2 K).nf rfl
              refine s_runk tMs4 Z 2 rfl rfl fun a Z => ?_
              refine hT tMs4 Z H 7 rfl rfl rfl rfl rfl (onR 14 rfl (one_cons (slS.one (H.slshape 1 rfl)) (onR 3 rfl (one_cons (slS.one (H.slshape 2 rfl)) (one_cons (slS.one (H.owshape 3 rfl)) (one_cons (slS.one (H.owshape 4 rfl)) (one_cons (slS.one (H.owshape 5 rfl)) one_nil))))))) (Nat.le_of_ble_eq_true rfl) (putCells_all rfl) fun w32 H => ?_
              dsimp only [List.eraseIdx] at H
              refine s_runk tMs4 Z 1 rfl rfl fun a Z => ?_
              refine s_end Z [6, 7] rfl fun Z => ?_
              refine p_then (wp_ret ?_)
              refine p_blk_r ?_
              refine p_then_r ?_
              obtain rfl := some_in hF
              exact f_ret Z (run_resultsCT rfl Z rfl (run_loadVar_agg tMs4 rfl (H.bx 0 rfl).at) rfl) ⟨q1, q2, q3, q4, q5, rfl, I14, (H.sub [(1, false), (1, true), (2, true), (3, false), (3, false), (3, false)] rfl).eq rfl⟩

def F_ref09_Of_l1 (p : ByteArray) (rc : (Int × ByteArray × Int × Int × Int × Int × Int × Int × Bool × Int × Int × Int × Int × Int × Int × ByteArray × ByteArray × Int × (List EMember) × Int × Int × Int × (List EOp) × (List EEntry) × (List Int) × (List EPair)) → Option (EMsg × Int)) (sg : Int × ByteArray × Int × Int × Int × Int × Int × Int × Bool × Int × Int × Int × Int × Int × Int × ByteArray × ByteArray × Int × (List EMember) × Int × Int × Int × (List EOp) × (List EEntry) × (List Int) × (List EPair)) : Option (EMsg × Int) := match sg with | (i, r_s, r_at_, r_e, m_k, m_epoch, m_req, m_serial, m_flag, m_at_, m_last, m_n, m_m, m_p, m_e, m_key, m_to_, m_conf_epoch, m_conf_members, m_conf_floor, m_batch_client, m_batch_req, m_batch_ops, m_entries, m_stamps, m_pairs) => if ((decide (i < (p.size : Int))) && (r_e == 0)) = true then (chk ((0 : Int) ≤ i ∧ i < (p.size : Int)) ((F_ref09_read ({ s := r_s, at_ := r_at_, e := r_e } : Eref02_Reader) ({ k := m_k, epoch := m_epoch, req := m_req, serial := m_serial, flag := m_flag, at_ := m_at_, last := m_last, n := m_n, m := m_m, p := m_p, e := m_e, key := m_key, to_ := m_to_, conf := ({ epoch := m_conf_epoch, members := m_conf_members, floor := m_conf_floor } : EConf), batch := ({ client := m_batch_client, req := m_batch_req, ops := m_batch_ops } : EBatch), entries := m_entries, stamps := m_stamps, pairs := m_pairs } : EMsg) (byteAt p (i).toNat : Int)).bind fun r0 => (if (r0.2.1 != 0) = true then (some ((default : EMsg), r0.2.1)) else (chk (inI (i + 1)) (rc (i + 1, r0.2.2.s, r0.2.2.at_, r0.2.2.e, r0.1.k, r0.1.epoch, r0.1.req, r0.1.serial, r0.1.flag, r0.1.at_, r0.1.last, r0.1.n, r0.1.m, r0.1.p, r0.1.e, r0.1.key, r0.1.to_, r0.1.conf.epoch, r0.1.conf.members, r0.1.conf.floor, r0.1.batch.client, r0.1.batch.req, r0.1.batch.ops, r0.1.entries, r0.1.stamps, r0.1.pairs)))))) else ((F_ref02_Reader_End ({ s := r_s, at_ := r_at_, e := r_e } : Eref02_Reader)).bind fun e => (if (e != 0) = true then (some ((default : EMsg), e)) else ((F_ref09_Check ({ k := m_k, epoch := m_epoch, req := m_req, serial := m_serial, flag := m_flag, at_ := m_at_, last := m_last, n := m_n, m := m_m, p := m_p, e := m_e, key := m_key, to_ := m_to_, conf := ({ epoch := m_conf_epoch, members := m_conf_members, floor := m_conf_floor } : EConf), batch := ({ client := m_batch_client, req := m_batch_req, ops := m_batch_ops } : EBatch), entries := m_entries, stamps := m_stamps, pairs := m_pairs } : EMsg)).bind fun c => (if (c != 0) = true then (some ((default : EMsg), c)) else (some (({ k := m_k, epoch := m_epoch, req := m_req, serial := m_serial, flag := m_flag, at_ := m_at_, last := m_last, n := m_n, m := m_m, p := m_p, e := m_e, key := m_key, to_ := m_to_, conf := ({ epoch := m_conf_epoch, members := m_conf_members, floor := m_conf_floor } : EConf), batch := ({ client := m_batch_client, req := m_batch_req, ops := m_batch_ops } : EBatch), entries := m_entries, stamps := m_stamps, pairs := m_pairs } : EMsg), 0))))))

def F_ref09_Of (s0 : ByteArray) : Option (EMsg × Int) := (F_ref02_Reader_Num ({ (default : Eref02_Reader) with s := s0 } : Eref02_Reader) 15).bind fun n0 => (if ((n0.2.e == 0) && (n0.1 == 0)) = true then (some ((default : EMsg), 11)) else ((F_ref09_parts n0.1).bind fun p => (iter (F_ref09_Of_l1 p) FU (0, n0.2.s, n0.2.at_, n0.2.e, n0.1, 0, 0, 0, false, 0, 0, 0, 0, 0, 0, ByteArray.empty, ByteArray.empty, 0, ([] : List EMember), 0, 0, 0, ([] : List EOp), ([] : List EEntry), ([] : List Int), ([] : List EPair)))))

set_option maxHeartbeats 1000000 in
theorem c_ref09_Of {I D : Dm} {s0 : ByteArray} {w : World} {rr : EMsg × Int} (hF : F_ref09_Of s0 = some rr) (H : St I D w []) :
  Calls Tryz.prog 7 #[vS s0] w (Ret fun vv w' => ∃ q1 q2 q3 q4 q5 : Value, vv = .tuple #[.agg (cEMsg rr.1 q1 q2 q3 q4 q5).toArray, vI rr.2] ∧ ∃ I', Hf I D w I' w' [SlC NEMember q1 rr.1.conf.members, SlC NEOp q2 rr.1.batch.ops, SlC NEEntry q3 rr.1.entries, SlC Nu64 q4 rr.1.stamps, SlC NEPair q5 rr.1.pairs]) := by
 replace H := H.hf
 unfold F_ref09_Of at hF
 refine f_enter 73 Tryz.func7 rfl rfl (Nat.le_of_ble_eq_true rfl) fun a Z => ?_
 replace Z := Z.sub (ts := [0]) rfl
 refine wp_seq (f_region Z ?_); clear Z; intro Z
 refine hA Z H [vI 0, vI 0, vI 0, vI 0, vT false, vU 0, vU 0, vI 0, vI 0, vI 0, vI 0, vS ByteArray.empty, vS ByteArray.empty, vI 0, nS, vU 0, vI 0, vI 0, nS, nS, nS, nS] rfl rfl (by kernel_rfl) fun a w1 b1 H Z => ?_
 refine s_runk tMs4 Z 1 rfl rfl fun a Z => ?_
 refine s_end Z [0, 2] rfl fun Z => ?_
 refine p_then (wp_seq (f_region Z ?_)); clear Z; intro Z
 refine s_runk tMs4 Z 1 rfl rfl fun a Z => ?_
 refine sO Z (.agg #[vS s0, vI 0, vI 0]) rfl (Ob_build (vs := [(0, vS s0)]) rfl rfl (by go_simp <;> rfl)) fun a Z => ?_
 refine hB Z H [vS s0, vI 0, vI 0] rfl rfl rfl rfl fun a w2 b2 H Z => ?_
 refine s_runk tMs4 Z 1 rfl rfl fun a Z => ?_
 refine s_end Z [2, 4] rfl fun Z => ?_
 refine p_then (wp_seq (f_region Z ?_)); clear Z; intro Z
 refine sO Z (.agg #[vI 0, vI 0, vI 0, vI 0, vT false, vU 0, vU 0, vI 0, vI 0, vI 0, vI 0, vS ByteArray.empty, vS ByteArray.empty, vI 0, nS, vU 0, vI 0, vI 0, nS, nS, nS, nS]) rfl (Ob_build (vs := []) rfl rfl (by go_simp <;> rfl)) fun a Z => ?_
 refine hA Z H [vI 0, vI 0, vI 0, vI 0, vT false, vU 0, vU 0, vI 0, vI 0, vI 0, vI 0, vS ByteArray.empty, vS ByteArray.empty, vI 0, nS, vU 0, vI 0, vI 0, nS, nS, nS, nS] rfl rfl (by kernel_rfl) fun a w3 b3 H Z => ?_
 refine hT tMs4 Z H 0 rfl rfl rfl rfl rfl (onR 14 rfl (one_cons (slS.one slS.nil) (onR 3 rfl (one_cons (slS.one slS.nil) (one_cons (slS.one slS.nil) (one_cons (slS.one slS.nil) (one_cons (slS.one slS.nil) one_nil))))))) (Nat.le_of_ble_eq_true rfl) (putCells_all rfl) fun w4 H => ?_
 dsimp only [List.eraseIdx] at H
 refine s_end Z [2, 4, 5] rfl fun Z => ?_
 refine p_then (wp_seq ?_)
 obtain ⟨n0, hx1, hF⟩ := bnd_in hF
 refine f_region Z fun Z => ?_
 refine s_runk tMs4 Z 1 rfl rfl fun a Z => ?_
 refine hC Z H [(1, false)] rfl #[] fn_25_YMs4 rfl rfl (fun D h => have q := c_ref02_Reader_Num hx1 h; q) fun vv a w5 D2 hr hF2 Z => ?_
 obtain ⟨rfl, I1, K⟩ := hr
 have H := (hF2 K).nf rfl
 refine s_runk tMs4 Z 1 rfl rfl fun a Z => ?_
 refine hT tMs4 Z H 1 rfl rfl rfl rfl rfl (one_cons rfl one_nil) (Nat.le_of_ble_eq_true rfl) rfl fun w6 H => ?_
 dsimp only [List.eraseIdx] at H
 refine s_end Z [2, 4, 5] rfl fun Z => ?_
 refine p_then (wp_seq ?_)
 refine wp_seq (f_region Z ?_); clear Z; intro Z
 refine s_runk tMs4 Z 3 rfl rfl fun a Z => ?_
 refine sO Z _ rfl (oL tMs4 rfl rfl (H.bc 1 2 rfl rfl)) fun a Z => ?_
 refine s_runk tMs4 Z 2 rfl rfl fun a Z => ?_
 refine gO Z (pp b3 0) rfl (wantB_t _) (.n 5 rfl .z) (fun hp => Ob_c tMs4 rfl) fun a Z => ?_
 refine gO Z _ rfl (wantB_t _) (.c 25 rfl id .z) (fun hp => oL tMs4 rfl rfl (H.bc 0 0 rfl rfl)) fun a Z => ?_
 refine gO Z (vT (n0.1 == 0)) rfl (wantB_t _) (.c 26 rfl id .z) (fun hp => Ob_c tMs4 rfl) fun a Z => ?_
 refine sO Z (vT ((n0.2.e == 0) && (n0.1 == 0))) rfl (Ob_pick rfl rfl rfl rfl (pick_and _ _)) fun a Z => ?_
 refine s_end Z [2, 4, 5, 28] rfl fun Z => ?_
 refine p_then ?_
 refine f_cond Z rfl (fun hc1 => ?_) (fun hc1 => ?_)
 ·replace hF := ite_t hc1 hF
  refine wp_seq (f_region Z ?_); clear Z; intro Z
  refine sO Z (.agg #[vI 0, vI 0, vI 0, vI 0, vT false, vU 0, vU 0, vI 0, vI 0, vI 0, vI 0, vS ByteArray.empty, vS ByteArray.empty, vI 0, nS, vU 0, vI 0, vI 0, nS, nS, nS, nS]) rfl (Ob_build (vs := []) rfl rfl (by go_simp <;> rfl)) fun a Z => ?_
  refine hT tMs4 Z H 2 rfl rfl rfl rfl rfl (onR 14 rfl (one_cons (slS.one slS.nil) (onR 3 rfl (one_cons (slS.one slS.nil) (one_cons (slS.one slS.nil) (one_cons (slS.one slS.nil) (one_cons (slS.one slS.nil) one_nil))))))) (Nat.le_of_ble_eq_true rfl) (putCells_all rfl) fun w7 H => ?_
  dsimp only [List.eraseIdx] at H
  refine s_runk tMs4 Z 1 rfl rfl fun a Z => ?_
  refine s_end Z [2, 3] rfl fun Z => ?_
  refine p_then (wp_ret ?_)
  refine p_then_r ?_
  replace H := H.slNil NEMember
  replace H := H.slNil NEOp
  replace H := H.slNil NEEntry
  replace H := H.slNil Nu64
  replace H := H.slNil NEPair
  obtain rfl := some_in hF
  exact f_ret Z (run_resultsCT rfl Z rfl (run_loadVar_agg tMs4 rfl (H.bx 5 rfl).at) rfl) ⟨nS, nS, nS, nS, nS, rfl, I1, (H.sub [(4, true), (3, true), (2, true), (1, true), (0, true)] rfl).eq rfl⟩
 ·replace hF := ite_f hc1 hF
  refine wp_skip ?_
  refine p_then (wp_seq ?_)
  obtain ⟨p, hx2, hF⟩ := bnd_in hF
  refine f_region Z fun Z => ?_
  refine s_runk tMs4 Z 1 rfl rfl fun a Z => ?_
  refine sO Z _ rfl (oL tMs4 rfl rfl (H.bc 0 0 rfl rfl)) fun a Z => ?_
  refine hC Z H [] rfl #[] fn_26_YMs4 rfl rfl (fun D h => have q := c_ref09_parts hx2 h; q) fun vv a w8 D2 hr hF2 Z => ?_
  obtain ⟨rfl, I2, K⟩ := hr
  have H := (hF2 K).nf rfl
  refine s_runk tMs4 Z 1 rfl rfl fun a Z => ?_
  refine s_end Z [2, 4, 5, 6] rfl fun Z => ?_
  refine p_then (wp_seq ?_)
  refine wp_seq (f_region Z ?_); clear Z; intro Z
  refine s_runk tMs4 Z 1 rfl rfl fun a Z => ?_
  refine s_end Z [2, 4, 5, 6, 7] rfl fun Z => ?_
  refine p_then (wp_block ?_)
  replace H := H.slNil NEMember
  replace H := H.slNil NEOp
  replace H := H.nilow NEEntry 88
  replace H := H.nilow Nu64 23
  replace H := H.nilow NEPair 91
  refine f_iter hF (fun sg a' w' => match sg with | (i, r_s, r_at_, r_e, m_k, m_epoch, m_req, m_serial, m_flag, m_at_, m_last, m_n, m_m, m_p, m_e, m_key, m_to_, m_conf_epoch, m_conf_members, m_conf_floor, m_batch_client, m_batch_req, m_batch_ops, m_entries, m_stamps, m_pairs) => ∃ v1 v2 v3 v4 v5 : Value, Sl 73 [(2, pp b1 0), (4, pp b2 0), (5, pp b3 0), (6, vS p), (7, vI i)] a' ∧ ∃ I2, Hf I D w I2 w' [BxC b1 35 [vI 0, vI 0, vI 0, vI 0, vT false, vU 0, vU 0, vI 0, vI 0, vI 0, vI 0, vS ByteArray.empty, vS ByteArray.empty, vI 0, nS, vU 0, vI 0, vI 0, nS, nS, nS, nS], BxC b2 61 [vS r_s, vI r_at_, vI r_e], BxC b3 35 [vI m_k, vI m_epoch, vI m_req, vI m_serial, vT m_flag, vU m_at_, vU m_last, vI m_n, vI m_m, vI m_p, vI m_e, vS m_key, vS m_to_, vI m_conf_epoch, v1, vU m_conf_floor, vI m_batch_client, vI m_batch_req, v2, v3, v4, v5], SlC NEMember v1 m_conf_members, SlC NEOp v2 m_batch_ops, OwC NEEntry 88 v3 m_entries, OwC Nu64 23 v4 m_stamps, OwC NEPair 91 v5 m_pairs]) ⟨nS, nS, nS, nS, nS, Z.sub (ts := [2, 4, 5, 6, 7]) rfl, ⟨I2, (H.sub [(7, false), (6, false), (5, false), (4, true), (3, true), (2, false), (1, false), (0, false)] rfl).eq rfl⟩⟩ ?_
  rintro rc ⟨i, r_s, r_at_, r_e, m_k, m_epoch, m_req, m_serial, m_flag, m_at_, m_last, m_n, m_m, m_p, m_e, m_key, m_to_, m_conf_epoch, m_conf_members, m_conf_floor, m_batch_client, m_batch_req, m_batch_ops, m_entries, m_stamps, m_pairs⟩ a w9 ⟨v1, v2, v3, v4, v5, Z, I3, H⟩ hF
  unfold F_ref09_Of_l1 at hF
  try dsimp only at hF
  refine wp_seq ?_
  refine wp_seq (f_region Z ?_); clear Z; intro Z
  refine s_runk tMs4 Z 5 rfl rfl fun a Z => ?_
  refine gO Z (pp b2 0) rfl (wantB_t _) (.n 4 rfl .z) (fun hp => Ob_c tMs4 rfl) fun a Z => ?_
  refine gO Z (pp b2 0) rfl (wantB_t _) (.c 38 rfl id .z) (fun hp => Ob_c tMs4 rfl) fun a Z => ?_
  refine gO Z (pp b2 2) rfl (wantB_t _) (.c 39 rfl id .z) (fun hp => Ob_c tMs4 rfl) fun a Z => ?_
  refine gO Z _ rfl (wantB_t _) (.c 40 rfl id .z) (fun hp => oL tMs4 rfl rfl (H.bc 1 2 rfl rfl)) fun a Z => ?_
  refine gO Z (vT (r_e == 0)) rfl (wantB_t _) (.c 41 rfl id .z) (fun hp => Ob_c tMs4 rfl) fun a Z => ?_
  refine sO Z (vT ((decide (i < (p.size : Int))) && (r_e == 0))) rfl (Ob_pick rfl rfl rfl rfl (pick_and _ _)) fun a Z => ?_
  refine s_end Z [2, 4, 5, 6, 7, 43] rfl fun Z => ?_
  refine p_then ?_
  refine f_cond Z rfl (fun hc2 => ?_) (fun hc2 => ?_)
  ·replace hF := ite_t hc2 hF
   refine wp_skip ?_
   refine p_then (wp_seq ?_)
   refine wp_block ?_
   refine wp_seq ?_
   obtain ⟨hg1, hF⟩ := chk_in hF
   obtain ⟨r0, hx3, hF⟩ := bnd_in hF
   refine f_regionG Z (by kernel_rfl) (by kernel_rfl) (by decide) (by decide) [5, 9, 10] [(0, [0, 2]), (0, [0, 2]), (0, [0, 2]), (0, [0, 2]), (12, [0, 2]), (31, [0, 2]), (63, [1, 3]), (127, [1, 3]), (127, [1, 3, 7]), (0, [0, 1]), (767, [3]), (2047, [7])] (by kernel_rfl) (fun jj => match jj with | 6 => 5 | 7 => 5 | _ => jj) (by kernel_rfl) (fun jj rv vv => match jj with | 0 => vv = pp b2 0 | 1 => vv = .agg #[vI m_k, vI m_epoch, vI m_req, vI m_serial, vT m_flag, vU m_at_, vU m_last, vI m_n, vI m_m, vI m_p, vI m_e, vS m_key, vS m_to_, vI m_conf_epoch, v1, vU m_conf_floor, vI m_batch_client, vI m_batch_req, v2, v3, v4, v5] | 2 => vv = vS p | 3 => vv = vI i | 4 => vv = .int .u8 (byteAt p (i).toNat : Int) | 5 => vv = .tuple #[.agg (cEMsg r0.1 (aggAt (tupAt vv 0) 14) (aggAt (tupAt vv 0) 18) (aggAt (tupAt vv 0) 19) (aggAt (tupAt vv 0) 20) (aggAt (tupAt vv 0) 21)).toArray, vI r0.2.1] | 6 => vv = .tuple #[.agg (cEMsg r0.1 (aggAt (tupAt rv 0) 14) (aggAt (tupAt rv 0) 18) (aggAt (tupAt rv 0) 19) (aggAt (tupAt rv 0) 20) (aggAt (tupAt rv 0) 21)).toArray, vI r0.2.1] | 7 => vv = .agg (cEMsg r0.1 (aggAt (tupAt rv 0) 14) (aggAt (tupAt rv 0) 18) (aggAt (tupAt rv 0) 19) (aggAt (tupAt rv 0) 20) (aggAt (tupAt rv 0) 21)).toArray | 8 => vv = vI r0.2.1 | 9 => vv = .pointer (some ⟨blkOf vv, 0, none⟩) | 10 => True | 11 => vv = vI r0.2.1 | _ => True) (fun ss vals1 xw => match ss with | 0 => Gx I D w I3 w9 xw [BxC b1 35 [vI 0, vI 0, vI 0, vI 0, vT false, vU 0, vU 0, vI 0, vI 0, vI 0, vI 0, vS ByteArray.empty, vS ByteArray.empty, vI 0, nS, vU 0, vI 0, vI 0, nS, nS, nS, nS], BxC b2 61 [vS r_s, vI r_at_, vI r_e], BxC b3 35 [vI m_k, vI m_epoch, vI m_req, vI m_serial, vT m_flag, vU m_at_, vU m_last, vI m_n, vI m_m, vI m_p, vI m_e, vS m_key, vS m_to_, vI m_conf_epoch, v1, vU m_conf_floor, vI m_batch_client, vI m_batch_req, v2, v3, v4, v5], SlC NEMember v1 m_conf_members, SlC NEOp v2 m_batch_ops, OwC NEEntry 88 v3 m_entries, OwC Nu64 23 v4 m_stamps, OwC NEPair 91 v5 m_pairs] | 1 => Gx I D w I3 w9 xw [BxC b2 61 (cEref02_Reader r0.2.2), SlC NEMember (aggAt (tupAt (vals1 5) 0) 14) r0.1.conf.members, SlC NEOp (aggAt (tupAt (vals1 5) 0) 18) r0.1.batch.ops, OwC NEEntry 88 (aggAt (tupAt (vals1 5) 0) 19) r0.1.entries, OwC Nu64 23 (aggAt (tupAt (vals1 5) 0) 20) r0.1.stamps, OwC NEPair 91 (aggAt (tupAt (vals1 5) 0) 21) r0.1.pairs, BxC b1 35 [vI 0, vI 0, vI 0, vI 0, vT false, vU 0, vU 0, vI 0, vI 0, vI 0, vI 0, vS ByteArray.empty, vS ByteArray.empty, vI 0, nS, vU 0, vI 0, vI 0, nS, nS, nS, nS], BxC b3 35 [vI m_k, vI m_epoch, vI m_req, vI m_serial, vT m_flag, vU m_at_, vU m_last, vI m_n, vI m_m, vI m_p, vI m_e, vS m_key, vS m_to_, vI m_conf_epoch, v1, vU m_conf_floor, vI m_batch_client, vI m_batch_req, v2, v3, v4, v5], SlC NEMember v1 m_conf_members, SlC NEOp v2 m_batch_ops] | 2 => Gx I D w I3 w9 xw [BxC (blkOf (vals1 9)) 35 [vI 0, vI 0, vI 0, vI 0, vT false, vU 0, vU 0, vI 0, vI 0, vI 0, vI 0, vS ByteArray.empty, vS ByteArray.empty, vI 0, nS, vU 0, vI 0, vI 0, nS, nS, nS, nS], BxC b1 35 [vI 0, vI 0, vI 0, vI 0, vT false, vU 0, vU 0, vI 0, vI 0, vI 0, vI 0, vS ByteArray.empty, vS ByteArray.empty, vI 0, nS, vU 0, vI 0, vI 0, nS, nS, nS, nS], BxC b2 61 [vS r_s, vI r_at_, vI r_e], BxC b3 35 [vI m_k, vI m_epoch, vI m_req, vI m_serial, vT m_flag, vU m_at_, vU m_last, vI m_n, vI m_m, vI m_p, vI m_e, vS m_key, vS m_to_, vI m_conf_epoch, v1, vU m_conf_floor, vI m_batch_client, vI m_batch_req, v2, v3, v4, v5], SlC NEMember v1 m_conf_members, SlC NEOp v2 m_batch_ops, OwC NEEntry 88 v3 m_entries, OwC Nu64 23 v4 m_stamps, OwC NEPair 91 v5 m_pairs] | 3 => Gx I D w I3 w9 xw [BxC (blkOf (vals1 9)) 35 [vI 0, vI 0, vI 0, vI 0, vT false, vU 0, vU 0, vI 0, vI 0, vI 0, vI 0, vS ByteArray.empty, vS ByteArray.empty, vI 0, nS, vU 0, vI 0, vI 0, nS, nS, nS, nS], BxC b2 61 (cEref02_Reader r0.2.2), SlC NEMember (aggAt (tupAt (vals1 5) 0) 14) r0.1.conf.members, SlC NEOp (aggAt (tupAt (vals1 5) 0) 18) r0.1.batch.ops, OwC NEEntry 88 (aggAt (tupAt (vals1 5) 0) 19) r0.1.entries, OwC Nu64 23 (aggAt (tupAt (vals1 5) 0) 20) r0.1.stamps, OwC NEPair 91 (aggAt (tupAt (vals1 5) 0) 21) r0.1.pairs, BxC b1 35 [vI 0, vI 0, vI 0, vI 0, vT false, vU 0, vU 0, vI 0, vI 0, vI 0, vI 0, vS ByteArray.empty, vS ByteArray.empty, vI 0, nS, vU 0, vI 0, vI 0, nS, nS, nS, nS], BxC b3 35 [vI m_k, vI m_epoch, vI m_req, vI m_serial, vT m_flag, vU m_at_, vU m_last, vI m_n, vI m_m, vI m_p, vI m_e, vS m_key, vS m_to_, vI m_conf_epoch, v1, vU m_conf_floor, vI m_batch_client, vI m_batch_req, v2, v3, v4, v5], SlC NEMember v1 m_conf_members, SlC NEOp v2 m_batch_ops] | _ => Gx I D w I3 w9 xw [BxC (blkOf (vals1 9)) 35 (cEMsg r0.1 (aggAt (tupAt (vals1 5) 0) 14) (aggAt (tupAt (vals1 5) 0) 18) (aggAt (tupAt (vals1 5) 0) 19) (aggAt (tupAt (vals1 5) 0) 20) (aggAt (tupAt (vals1 5) 0) 21)), BxC b2 61 (cEref02_Reader r0.2.2), SlC NEMember (aggAt (tupAt (vals1 5) 0) 14) r0.1.conf.members, SlC NEOp (aggAt (tupAt (vals1 5) 0) 18) r0.1.batch.ops, OwC NEEntry 88 (aggAt (tupAt (vals1 5) 0) 19) r0.1.entries, OwC Nu64 23 (aggAt (tupAt (vals1 5) 0) 20) r0.1.stamps, OwC NEPair 91 (aggAt (tupAt (vals1 5) 0) 21) r0.1.pairs, BxC b1 35 [vI 0, vI 0, vI 0, vI 0, vT false, vU 0, vU 0, vI 0, vI 0, vI 0, vI 0, vS ByteArray.empty, vS ByteArray.empty, vI 0, nS, vU 0, vI 0, vI 0, nS, nS, nS, nS], BxC b3 35 [vI m_k, vI m_epoch, vI m_req, vI m_serial, vT m_flag, vU m_at_, vU m_last, vI m_n, vI m_m, vI m_p, vI m_e, vS m_key, vS m_to_, vI m_conf_epoch, v1, vU m_conf_floor, vI m_batch_client, vI m_batch_req, v2, v3, v4, v5], SlC NEMember v1 m_conf_members, SlC NEOp v2 m_batch_ops]) (fun _ => Gx.start H) ?_ ?_
   ·intro fr hfr hfe
    refine .cons (fun ss hs vals1 xw hG hV => ?_) ?_
    ·obtain rfl | rfl : ss = 0 ∨ ss = 2 := by simpa using hs
     all_goals
     ·rw [← hfe]
      have hS := (hfr vals1).sub (ts := [4]) rfl
      exact L_val hS rfl (Ob_c tMs4 rfl) ⟨rfl, hG⟩
    refine .cons (fun ss hs vals1 xw hG hV => ?_) ?_
    ·obtain rfl | rfl : ss = 0 ∨ ss = 2 := by simpa using hs
     ·rw [← hfe]
      have hS := (hfr vals1).sub (ts := [5]) rfl
      obtain ⟨I2, hI2, H⟩ := Gx.ex hG
      exact L_val hS rfl (oA tMs4 rfl rfl ((H.bx 2 rfl).part 0 rfl)) ⟨rfl, hG⟩
     ·rw [← hfe]
      have hS := (hfr vals1).sub (ts := [5]) rfl
      obtain ⟨I2, hI2, H⟩ := Gx.ex hG
      exact L_val hS rfl (oA tMs4 rfl rfl ((H.bx 3 rfl).part 0 rfl)) ⟨rfl, hG⟩
    refine .cons (fun ss hs vals1 xw hG hV => ?_) ?_
    ·obtain rfl | rfl : ss = 0 ∨ ss = 2 := by simpa using hs
     all_goals
     ·rw [← hfe]
      have hS := (hfr vals1).sub (ts := [6]) rfl
      exact L_val hS rfl (Ob_c tMs4 rfl) ⟨rfl, hG⟩
    refine .cons (fun ss hs vals1 xw hG hV => ?_) ?_
    ·obtain rfl | rfl : ss = 0 ∨ ss = 2 := by simpa using hs
     all_goals
     ·rw [← hfe]
      have hS := (hfr vals1).sub (ts := [7]) rfl
      exact L_val hS rfl (Ob_c tMs4 rfl) ⟨rfl, hG⟩
    refine .cons (fun ss hs vals1 xw hG hV => ?_) ?_
    ·obtain rfl | rfl : ss = 0 ∨ ss = 2 := by simpa using hs
     all_goals
     ·rw [← hfe]
      have hS := (hfr vals1).sub (ts := [49, 50]) rfl
      replace hS := hS.conv (t := 49) rfl (show (vals1 2) = vS p from hV 2 (by decide))
      replace hS := hS.conv (t := 50) rfl (show (vals1 3) = vI i from hV 3 (by decide))
      exact L_val hS rfl (Ob_sidxs tMs4 rfl rfl rfl rfl hg1) ⟨rfl, hG⟩
    refine .cons (fun ss hs vals1 xw hG hV => ?_) ?_
    ·obtain rfl | rfl : ss = 0 ∨ ss = 2 := by simpa using hs
     ·rw [← hfe]
      have hS := (hfr vals1).sub (ts := [47, 48, 51]) rfl
      replace hS := hS.conv (t := 47) rfl (show (vals1 0) = pp b2 0 from hV 0 (by decide))
      replace hS := hS.conv (t := 48) rfl (show (vals1 1) = .agg #[vI m_k, vI m_epoch, vI m_req, vI m_serial, vT m_flag, vU m_at_, vU m_last, vI m_n, vI m_m, vI m_p, vI m_e, vS m_key, vS m_to_, vI m_conf_epoch, v1, vU m_conf_floor, vI m_batch_client, vI m_batch_req, v2, v3, v4, v5] from hV 1 (by decide))
      replace hS := hS.conv (t := 51) rfl (show (vals1 4) = .int .u8 (byteAt p (i).toNat : Int) from hV 4 (by decide))
      obtain ⟨I2, hI2, H⟩ := Gx.ex hG
      refine L_hcall H (js := [(1, false), (2, true), (3, true), (4, false), (4, false), (4, false)]) rfl (caps := #[]) hS fn_27_YMs4 rfl rfl rfl rfl rfl (fun D1 hS => have hq := c_ref09_read hx3 hS; hq) fun _ yw D1 hr hF2 => ?_
      obtain ⟨q0_, q1_, q2_, q3_, q4_, rfl, I3, K⟩ := hr
      obtain ⟨hK, H2⟩ := hF2 K
      exact ⟨rfl, Gx.go hG hI2 hK K.imm H2⟩
     ·rw [← hfe]
      have hS := (hfr vals1).sub (ts := [47, 48, 51]) rfl
      replace hS := hS.conv (t := 47) rfl (show (vals1 0) = pp b2 0 from hV 0 (by decide))
      replace hS := hS.conv (t := 48) rfl (show (vals1 1) = .agg #[vI m_k, vI m_epoch, vI m_req, vI m_serial, vT m_flag, vU m_at_, vU m_last, vI m_n, vI m_m, vI m_p, vI m_e, vS m_key, vS m_to_, vI m_conf_epoch, v1, vU m_conf_floor, vI m_batch_client, vI m_batch_req, v2, v3, v4, v5] from hV 1 (by decide))
      replace hS := hS.conv (t := 51) rfl (show (vals1 4) = .int .u8 (byteAt p (i).toNat : Int) from hV 4 (by decide))
      obtain ⟨I2, hI2, H⟩ := Gx.ex hG
      refine L_hcall H (js := [(2, false), (3, true), (4, true), (5, false), (5, false), (5, false)]) rfl (caps := #[]) hS fn_27_YMs4 rfl rfl rfl rfl rfl (fun D1 hS => have hq := c_ref09_read hx3 hS; hq) fun _ yw D1 hr hF2 => ?_
      obtain ⟨q0_, q1_, q2_, q3_, q4_, rfl, I3, K⟩ := hr
      obtain ⟨hK, H2⟩ := hF2 K
      exact ⟨rfl, Gx.go hG hI2 hK K.imm (Hf.sub H2 [(6, false), (0, false), (0, true), (1, true), (2, false), (2, false), (2, false), (2, false), (2, false), (2, true), (3, true)] rfl)⟩
    refine .cons (fun ss hs vals1 xw hG hV => ?_) ?_
    ·obtain rfl | rfl : ss = 1 ∨ ss = 3 := by simpa using hs
     all_goals
     ·rw [← hfe]
      have hS := (hfr vals1).sub (ts := [52]) rfl
      replace hS := hS.conv (t := 52) rfl (show (vals1 5) = .tuple #[.agg (cEMsg r0.1 (aggAt (tupAt (vals1 5) 0) 14) (aggAt (tupAt (vals1 5) 0) 18) (aggAt (tupAt (vals1 5) 0) 19) (aggAt (tupAt (vals1 5) 0) 20) (aggAt (tupAt (vals1 5) 0) 21)).toArray, vI r0.2.1] from hV 5 (by decide))
      exact L_val hS rfl (Ob_c tMs4 rfl) ⟨rfl, hG⟩
    refine .cons (fun ss hs vals1 xw hG hV => ?_) ?_
    ·obtain rfl | rfl : ss = 1 ∨ ss = 3 := by simpa using hs
     all_goals
     ·rw [← hfe]
      have hS := (hfr vals1).sub (ts := [46]) rfl
      replace hS := hS.conv (t := 46) rfl (show (vals1 6) = .tuple #[.agg (cEMsg r0.1 (aggAt (tupAt (vals1 5) 0) 14) (aggAt (tupAt (vals1 5) 0) 18) (aggAt (tupAt (vals1 5) 0) 19) (aggAt (tupAt (vals1 5) 0) 20) (aggAt (tupAt (vals1 5) 0) 21)).toArray, vI r0.2.1] from hV 6 (by decide))
      exact L_val hS rfl (Ob_c tMs4 rfl) ⟨rfl, hG⟩
    refine .cons (fun ss hs vals1 xw hG hV => ?_) ?_
    ·obtain rfl | rfl | rfl : ss = 1 ∨ ss = 3 ∨ ss = 7 := by simpa using hs
     all_goals
     ·rw [← hfe]
      have hS := (hfr vals1).sub (ts := [46]) rfl
      replace hS := hS.conv (t := 46) rfl (show (vals1 6) = .tuple #[.agg (cEMsg r0.1 (aggAt (tupAt (vals1 5) 0) 14) (aggAt (tupAt (vals1 5) 0) 18) (aggAt (tupAt (vals1 5) 0) 19) (aggAt (tupAt (vals1 5) 0) 20) (aggAt (tupAt (vals1 5) 0) 21)).toArray, vI r0.2.1] from hV 6 (by decide))
      exact L_val hS rfl (Ob_c tMs4 rfl) ⟨rfl, hG⟩
    refine .cons (fun ss hs vals1 xw hG hV => ?_) ?_
    ·obtain rfl | rfl : ss = 0 ∨ ss = 1 := by simpa using hs
     all_goals
     ·rw [← hfe]
      have hS := (hfr vals1).sub (ts := []) rfl
      obtain ⟨I2, hI2, H⟩ := Gx.ex hG
      exact L_alloc H (cl := [vI 0, vI 0, vI 0, vI 0, vT false, vU 0, vU 0, vI 0, vI 0, vI 0, vI 0, vS ByteArray.empty, vS ByteArray.empty, vI 0, nS, vU 0, vI 0, vI 0, nS, nS, nS, nS]) (z := .agg #[vI 0, vI 0, vI 0, vI 0, vT false, vU 0, vU 0, vI 0, vI 0, vI 0, vI 0, vS ByteArray.empty, vS ByteArray.empty, vI 0, nS, vU 0, vI 0, vI 0, nS, nS, nS, nS]) hS rfl rfl (by kernel_rfl) rfl fun yw b hK H => ⟨rfl, Gx.go hG hI2 hK (fun _ h => h) H⟩
    refine .cons (fun ss hs vals1 xw hG hV => ?_) ?_
    ·obtain rfl : ss = 3 := by simpa using hs
     rw [← hfe]
     have hS := (hfr vals1).sub (ts := [8, 53]) rfl
     replace hS := hS.conv (t := 8) rfl (show (vals1 9) = .pointer (some ⟨blkOf (vals1 9), 0, none⟩) from hV 9 (by decide))
     replace hS := hS.conv (t := 53) rfl (show (vals1 7) = .agg (cEMsg r0.1 (aggAt (tupAt (vals1 5) 0) 14) (aggAt (tupAt (vals1 5) 0) 18) (aggAt (tupAt (vals1 5) 0) 19) (aggAt (tupAt (vals1 5) 0) 20) (aggAt (tupAt (vals1 5) 0) 21)).toArray from hV 7 (by decide))
     obtain ⟨I2, hI2, H⟩ := Gx.ex hG
     exact L_store tMs4 H 0 rfl hS rfl rfl rfl rfl rfl rfl rfl rfl (one_cons rfl (one_cons rfl (one_cons rfl (one_cons rfl (one_cons rfl (one_cons rfl (one_cons rfl (one_cons rfl (one_cons rfl (one_cons rfl (one_cons rfl (one_cons rfl (one_cons rfl (one_cons rfl (one_cons (slS.one (H.slshape 2 rfl)) (one_cons rfl (one_cons rfl (one_cons rfl (one_cons (slS.one (H.slshape 3 rfl)) (one_cons (slS.one (H.owshape 4 rfl)) (one_cons (slS.one (H.owshape 5 rfl)) (one_cons (slS.one (H.owshape 6 rfl)) one_nil)))))))))))))))))))))) (Nat.le_of_ble_eq_true rfl) (putCells_all rfl) fun yw hK H => ⟨trivial, Gx.go hG hI2 hK (fun _ h => h) H⟩
    refine .cons (fun ss hs vals1 xw hG hV => ?_) ?_
    ·obtain rfl : ss = 7 := by simpa using hs
     rw [← hfe]
     have hS := (hfr vals1).sub (ts := [54]) rfl
     replace hS := hS.conv (t := 54) rfl (show (vals1 8) = vI r0.2.1 from hV 8 (by decide))
     exact L_val hS rfl (Ob_c tMs4 rfl) ⟨rfl, hG⟩
    exact .nil
   ·intro vals1 a w10 Z hG hV
    replace Z := Z.sub (ts := [2, 4, 5, 6, 7, 8, 9]) (S' := [(2, pp b1 0), (4, pp b2 0), (5, pp b3 0), (6, vS p), (7, vI i), (8, vals1 9), (9, vals1 11)]) rfl
    replace Z := Z.conv (t := 8) rfl (show (vals1 9) = .pointer (some ⟨blkOf (vals1 9), 0, none⟩) from hV 9 (by decide))
    replace Z := Z.conv (t := 9) rfl (show (vals1 11) = vI r0.2.1 from hV 11 (by decide))
    obtain ⟨I4, _, H⟩ := Gx.ex hG
    clear hG hV
    replace Z := Z.sub (ts := [2, 4, 5, 6, 7, 8, 9]) rfl
    replace H := H.nf rfl; try dsimp only at H
    refine p_then (wp_seq ?_)
    refine wp_seq (f_region Z ?_); clear Z; intro Z
    refine s_runk tMs4 Z 2 rfl rfl fun a Z => ?_
    refine s_end Z [2, 4, 5, 6, 7, 8, 9, 56] rfl fun Z => ?_
    refine p_then ?_
    refine f_cond Z rfl (fun hc3 => ?_) (fun hc3 => ?_)
    ·replace hF := ite_t hc3 hF
     refine wp_seq (f_region Z ?_); clear Z; intro Z
     refine sO Z (.agg #[vI 0, vI 0, vI 0, vI 0, vT false, vU 0, vU 0, vI 0, vI 0, vI 0, vI 0, vS ByteArray.empty, vS ByteArray.empty, vI 0, nS, vU 0, vI 0, vI 0, nS, nS, nS, nS]) rfl (Ob_build (vs := []) rfl rfl (by go_simp <;> rfl)) fun a Z => ?_
     refine s_runk tMs4 Z 1 rfl rfl fun a Z => ?_
     refine hT tMs4 Z H 7 rfl rfl rfl rfl rfl (onR 14 rfl (one_cons (slS.one slS.nil) (onR 3 rfl (one_cons (slS.one slS.nil) (one_cons (slS.one slS.nil) (one_cons (slS.one slS.nil) (one_cons (slS.one slS.nil) one_nil))))))) (Nat.le_of_ble_eq_true rfl) (putCells_all rfl) fun w11 H => ?_
     dsimp only [List.eraseIdx] at H
     refine s_runk tMs4 Z 1 rfl rfl fun a Z => ?_
     refine s_end Z [2, 3] rfl fun Z => ?_
     refine p_then (wp_ret ?_)
     refine p_then_r ?_
     refine p_blk_r ?_
     refine p_then_r ?_
     refine p_then_r ?_
     refine p_blk_r ?_
     refine p_then_r ?_
     replace H := H.slNil NEMember
     replace H := H.slNil NEOp
     replace H := H.slNil NEEntry
     replace H := H.slNil Nu64
     replace H := H.slNil NEPair
     obtain rfl := some_in hF
     exact f_ret Z (run_resultsCT rfl Z rfl (run_loadVar_agg tMs4 rfl (H.bx 5 rfl).at) rfl) ⟨nS, nS, nS, nS, nS, rfl, I4, (H.sub [(4, true), (3, true), (2, true), (1, true), (0, true)] rfl).eq rfl⟩
    ·replace hF := ite_f hc3 hF
     refine wp_skip ?_
     refine p_then ?_
     refine f_region Z fun Z => ?_
     refine sO Z (.agg (cEMsg r0.1 (aggAt (tupAt (vals1 5) 0) 14) (aggAt (tupAt (vals1 5) 0) 18) (aggAt (tupAt (vals1 5) 0) 19) (aggAt (tupAt (vals1 5) 0) 20) (aggAt (tupAt (vals1 5) 0) 21)).toArray) rfl (oA tMs4 rfl rfl ((H.bx 0 rfl).part 0 rfl)) fun a Z => ?_
     refine hT tMs4 Z H 8 rfl rfl rfl rfl rfl (onR 14 rfl (one_cons (slS.one (H.slshape 2 rfl)) (onR 3 rfl (one_cons (slS.one (H.slshape 3 rfl)) (one_cons (slS.one (H.owshape 4 rfl)) (one_cons (slS.one (H.owshape 5 rfl)) (one_cons (slS.one (H.owshape 6 rfl)) one_nil))))))) (Nat.le_of_ble_eq_true rfl) (putCells_all rfl) fun w12 H => ?_
     dsimp only [List.eraseIdx] at H
     refine s_end Z [2, 4, 5, 6, 7] rfl fun Z => ?_
     refine p_blk ?_
     refine p_then ?_
     obtain ⟨hg2, hF⟩ := chk_in hF
     refine f_region Z fun Z => ?_
     refine s_runk tMs4 Z 1 rfl rfl fun a Z => ?_
     refine sO Z (vI (i + 1)) rfl (Ob_add rfl rfl rfl (wrI hg2)) fun a Z => ?_
     refine s_runk tMs4 Z 1 rfl rfl fun a Z => ?_
     refine s_end Z [2, 4, 5, 6, 7] rfl fun Z => ?_
     refine p_then ?_
     exact ⟨(i + 1, r0.2.2.s, r0.2.2.at_, r0.2.2.e, r0.1.k, r0.1.epoch, r0.1.req, r0.1.serial, r0.1.flag, r0.1.at_, r0.1.last, r0.1.n, r0.1.m, r0.1.p, r0.1.e, r0.1.key, r0.1.to_, r0.1.conf.epoch, r0.1.conf.members, r0.1.conf.floor, r0.1.batch.client, r0.1.batch.req, r0.1.batch.ops, r0.1.entries, r0.1.stamps, r0.1.pairs), ⟨(aggAt (tupAt (vals1 5) 0) 14), (aggAt (tupAt (vals1 5) 0) 18), (aggAt (tupAt (vals1 5) 0) 19), (aggAt (tupAt (vals1 5) 0) 20), (aggAt (tupAt (vals1 5) 0) 21), Z.sub (ts := [2, 4, 5, 6, 7]) rfl, ⟨I4, (H.sub [(8, false), (2, false), (0, false), (1, true), (2, true), (3, false), (3, false), (3, false)] rfl).eq rfl⟩⟩, hF⟩
  ·replace hF := ite_f hc2 hF
   refine wp_exit ?_
   refine p_then_x ?_
   refine p_then_x ?_
   refine f_exit_here ?_
   refine p_then (wp_seq ?_)
   refine wp_seq ?_
   obtain ⟨e, hx4, hF⟩ := bnd_in hF
   refine f_region Z fun Z => ?_
   refine s_runk tMs4 Z 1 rfl rfl fun a Z => ?_
   refine hC Z H [(1, false)] rfl #[] fn_28_YMs4 rfl rfl (fun D h => have q := c_ref02_Reader_End hx4 h; q) fun vv a w13 D2 hr hF2 Z => ?_
   obtain ⟨rfl, I5, K⟩ := hr
   have H := (hF2 K).nf rfl
   refine s_runk tMs4 Z 1 rfl rfl fun a Z => ?_
   refine s_end Z [2, 5, 10] rfl fun Z => ?_
   refine p_then (wp_seq (f_region Z ?_)); clear Z; intro Z
   refine s_runk tMs4 Z 2 rfl rfl fun a Z => ?_
   refine s_end Z [2, 5, 10, 63] rfl fun Z => ?_
   refine p_then ?_
   refine f_cond Z rfl (fun hc4 => ?_) (fun hc4 => ?_)
   ·replace hF := ite_t hc4 hF
    refine wp_seq (f_region Z ?_); clear Z; intro Z
    refine sO Z (.agg #[vI 0, vI 0, vI 0, vI 0, vT false, vU 0, vU 0, vI 0, vI 0, vI 0, vI 0, vS ByteArray.empty, vS ByteArray.empty, vI 0, nS, vU 0, vI 0, vI 0, nS, nS, nS, nS]) rfl (Ob_build (vs := []) rfl rfl (by go_simp <;> rfl)) fun a Z => ?_
    refine s_runk tMs4 Z 1 rfl rfl fun a Z => ?_
    refine hT tMs4 Z H 1 rfl rfl rfl rfl rfl (onR 14 rfl (one_cons (slS.one slS.nil) (onR 3 rfl (one_cons (slS.one slS.nil) (one_cons (slS.one slS.nil) (one_cons (slS.one slS.nil) (one_cons (slS.one slS.nil) one_nil))))))) (Nat.le_of_ble_eq_true rfl) (putCells_all rfl) fun w14 H => ?_
    dsimp only [List.eraseIdx] at H
    refine s_runk tMs4 Z 1 rfl rfl fun a Z => ?_
    refine s_end Z [2, 3] rfl fun Z => ?_
    refine p_then (wp_ret ?_)
    refine p_then_r ?_
    replace H := H.slNil NEMember
    replace H := H.slNil NEOp
    replace H := H.slNil NEEntry
    replace H := H.slNil Nu64
    replace H := H.slNil NEPair
    obtain rfl := some_in hF
    exact f_ret Z (run_resultsCT rfl Z rfl (run_loadVar_agg tMs4 rfl (H.bx 5 rfl).at) rfl) ⟨nS, nS, nS, nS, nS, rfl, I5, (H.sub [(4, true), (3, true), (2, true), (1, true), (0, true)] rfl).eq rfl⟩
   ·replace hF := ite_f hc4 hF
    refine wp_skip ?_
    refine p_then (wp_seq ?_)
    refine wp_seq ?_
    obtain ⟨c, hx5, hF⟩ := bnd_in hF
    refine f_region Z fun Z => ?_
    refine sO Z (.agg #[vI m_k, vI m_epoch, vI m_req, vI m_serial, vT m_flag, vU m_at_, vU m_last, vI m_n, vI m_m, vI m_p, vI m_e, vS m_key, vS m_to_, vI m_conf_epoch, v1, vU m_conf_floor, vI m_batch_client, vI m_batch_req, v2, v3, v4, v5]) rfl (oA tMs4 rfl rfl ((H.bx 2 rfl).part 0 rfl)) fun a Z => ?_
    refine s_call Z (caps := #[]) fn_13_YMs4 rfl rfl rfl rfl rfl (by decide) rfl rfl (have hq := c_ref09_Check hx5 (stS (H.sl 3 rfl) (stS (H.sl 4 rfl) (stS (H.owA 5 rfl) (stS (H.owA 6 rfl) (stS (H.owA 7 rfl) (stB _)))))); plainC hq) ?_; rintro _ a w15 ⟨rfl, hb⟩ Z
    replace H := H.blw hb
    clear hb
    refine s_runk tMs4 Z 1 rfl rfl fun a Z => ?_
    refine s_end Z [2, 5, 11] rfl fun Z => ?_
    refine p_then (wp_seq (f_region Z ?_)); clear Z; intro Z
    refine s_runk tMs4 Z 2 rfl rfl fun a Z => ?_
    refine s_end Z [2, 5, 11, 69] rfl fun Z => ?_
    refine p_then ?_
    refine f_cond Z rfl (fun hc5 => ?_) (fun hc5 => ?_)
    ·replace hF := ite_t hc5 hF
     refine wp_seq (f_region Z ?_); clear Z; intro Z
     refine sO Z (.agg #[vI 0, vI 0, vI 0, vI 0, vT false, vU 0, vU 0, vI 0, vI 0, vI 0, vI 0, vS ByteArray.empty, vS ByteArray.empty, vI 0, nS, vU 0, vI 0, vI 0, nS, nS, nS, nS]) rfl (Ob_build (vs := []) rfl rfl (by go_simp <;> rfl)) fun a Z => ?_
     refine s_runk tMs4 Z 1 rfl rfl fun a Z => ?_
     refine hT tMs4 Z H 1 rfl rfl rfl rfl rfl (onR 14 rfl (one_cons (slS.one slS.nil) (onR 3 rfl (one_cons (slS.one slS.nil) (one_cons (slS.one slS.nil) (one_cons (slS.one slS.nil) (one_cons (slS.one slS.nil) one_nil))))))) (Nat.le_of_ble_eq_true rfl) (putCells_all rfl) fun w16 H => ?_
     dsimp only [List.eraseIdx] at H
     refine s_runk tMs4 Z 1 rfl rfl fun a Z => ?_
     refine s_end Z [2, 3] rfl fun Z => ?_
     refine p_then (wp_ret ?_)
     refine p_then_r ?_
     replace H := H.slNil NEMember
     replace H := H.slNil NEOp
     replace H := H.slNil NEEntry
     replace H := H.slNil Nu64
     replace H := H.slNil NEPair
     obtain rfl := some_in hF
     exact f_ret Z (run_resultsCT rfl Z rfl (run_loadVar_agg tMs4 rfl (H.bx 5 rfl).at) rfl) ⟨nS, nS, nS, nS, nS, rfl, I5, (H.sub [(4, true), (3, true), (2, true), (1, true), (0, true)] rfl).eq rfl⟩
    ·replace hF := ite_f hc5 hF
     refine wp_skip ?_
     refine p_then (wp_seq (f_region Z ?_)); clear Z; intro Z
     refine sO Z (.agg #[vI m_k, vI m_epoch, vI m_req, vI m_serial, vT m_flag, vU m_at_, vU m_last, vI m_n, vI m_m, vI m_p, vI m_e, vS m_key, vS m_to_, vI m_conf_epoch, v1, vU m_conf_floor, vI m_batch_client, vI m_batch_req, v2, v3, v4, v5]) rfl (oA tMs4 rfl rfl ((H.bx 2 rfl).part 0 rfl)) fun a Z => ?_
     refine hT tMs4 Z H 1 rfl rfl rfl rfl rfl (onR 14 rfl (one_cons (slS.one (H.slshape 3 rfl)) (onR 3 rfl (one_cons (slS.one (H.slshape 4 rfl)) (one_cons (slS.one (H.owshape 5 rfl)) (one_cons (slS.one (H.owshape 6 rfl)) (one_cons (slS.one (H.owshape 7 rfl)) one_nil))))))) (Nat.le_of_ble_eq_true rfl) (putCells_all rfl) fun w17 H => ?_
     dsimp only [List.eraseIdx] at H
     refine s_runk tMs4 Z 1 rfl rfl fun a Z => ?_
     refine s_end Z [2, 3] rfl fun Z => ?_
     refine p_then (wp_ret ?_)
     obtain ⟨I6, _, H⟩ := H.frzow 5 rfl
     replace H := H.nf rfl; try dsimp only at H
     obtain ⟨I7, _, H⟩ := H.frzow 6 rfl
     replace H := H.nf rfl; try dsimp only at H
     obtain ⟨I8, _, H⟩ := H.frzow 7 rfl
     replace H := H.nf rfl; try dsimp only at H
     obtain rfl := some_in hF
     exact f_ret Z (run_resultsCT rfl Z rfl (run_loadVar_agg tMs4 rfl (H.bx 3 rfl).at) rfl) ⟨v1, v2, v3, v4, v5, rfl, I8, (H.sub [(6, true), (7, true), (2, true), (1, true), (0, true)] rfl).eq rfl⟩

end Go.Proofs.YthmjkcdpbbcdgaaGreat
