/- Messages read, for the program and for the document. -/
import Derived.Test.YthmjkcdpbbcdgaaYMs2
namespace Go.Proofs.Ythmjkcdpbbcdgaa
open Go.RowKit
def tMs3L : TabL := ⟨[(34816, 0), (34820, 4), (34821, 5), (34822, 6), (34826, 10), (34827, 11), (34828, 12), (34829, 13), (34830, 16), (34831, 19), (34832, 20), (34833, 21), (83969, 1)], [], [], [(30, (68, 4)), (31, (22, 1)), (32, (82, 2))], [(3, (1, false)), (4, (1, false)), (9, (1, false)), (22, (1, false)), (23, (1, false)), (26, (3, true)), (29, (3, true)), (30, (1, false)), (31, (1, false)), (32, (1, false)), (34, (22, true)), (68, (4, true)), (82, (2, true))]⟩

def tMs3 : Tab Try.prog := ⟨tMs3L, by kernel_rfl⟩

theorem fn_12_YMs3 : IsFn Try.prog 12 := ⟨_, Try.func12, by kernel_rfl, by kernel_rfl⟩

theorem fn_17_YMs3 : IsFn Try.prog 17 := ⟨_, Try.func17, by kernel_rfl, by kernel_rfl⟩

theorem fn_18_YMs3 : IsFn Try.prog 18 := ⟨_, Try.func18, by kernel_rfl, by kernel_rfl⟩

theorem fn_19_YMs3 : IsFn Try.prog 19 := ⟨_, Try.func19, by kernel_rfl, by kernel_rfl⟩

theorem fn_20_YMs3 : IsFn Try.prog 20 := ⟨_, Try.func20, by kernel_rfl, by kernel_rfl⟩

theorem fn_21_YMs3 : IsFn Try.prog 21 := ⟨_, Try.func21, by kernel_rfl, by kernel_rfl⟩

theorem fn_22_YMs3 : IsFn Try.prog 22 := ⟨_, Try.func22, by kernel_rfl, by kernel_rfl⟩

theorem fn_45_YMs3 : IsFn Try.prog 45 := ⟨_, Try.func45, by kernel_rfl, by kernel_rfl⟩

theorem fn_46_YMs3 : IsFn Try.prog 46 := ⟨_, Try.func46, by kernel_rfl, by kernel_rfl⟩

theorem fn_47_YMs3 : IsFn Try.prog 47 := ⟨_, Try.func47, by kernel_rfl, by kernel_rfl⟩

theorem fn_48_YMs3 : IsFn Try.prog 48 := ⟨_, Try.func48, by kernel_rfl, by kernel_rfl⟩

theorem fn_49_YMs3 : IsFn Try.prog 49 := ⟨_, Try.func49, by kernel_rfl, by kernel_rfl⟩

theorem fn_50_YMs3 : IsFn Try.prog 50 := ⟨_, Try.func50, by kernel_rfl, by kernel_rfl⟩

theorem fn_51_YMs3 : IsFn Try.prog 51 := ⟨_, Try.func51, by kernel_rfl, by kernel_rfl⟩

theorem fn_52_YMs3 : IsFn Try.prog 52 := ⟨_, Try.func52, by kernel_rfl, by kernel_rfl⟩

theorem fn_53_YMs3 : IsFn Try.prog 53 := ⟨_, Try.func53, by kernel_rfl, by kernel_rfl⟩

theorem fn_72_YMs3 : IsFn Try.prog 72 := ⟨_, Try.func72, by kernel_rfl, by kernel_rfl⟩

theorem fn_73_YMs3 : IsFn Try.prog 73 := ⟨_, Try.func73, by kernel_rfl, by kernel_rfl⟩

theorem fn_74_YMs3 : IsFn Try.prog 74 := ⟨_, Try.func74, by kernel_rfl, by kernel_rfl⟩

theorem fn_75_YMs3 : IsFn Try.prog 75 := ⟨_, Try.func75, by kernel_rfl, by kernel_rfl⟩

theorem E_30_YMs3 : Elem Try.prog 30 68 4 48 := ⟨Try.underlying30, by
 have h : (Try.prog.info? 68).map (fun i => (i.zero, i.size, i.bytes)) = some (some (.agg #[.int .i64 0, .int .i64 0, .slice none 0 0, .int .u64 0]), 4, 48) := by kernel_rfl
 obtain ⟨i, hi, h1⟩ := Option.map_eq_some_iff.1 h
 simp only [Prod.mk.injEq] at h1
 exact ⟨i, _, hi, h1.1, h1.2.1, h1.2.2, by rfl⟩, by decide⟩

theorem E_31_YMs3 : Elem Try.prog 31 22 1 8 := ⟨Try.underlying31, by
 have h : (Try.prog.info? 22).map (fun i => (i.zero, i.size, i.bytes)) = some (some (.int .u64 0), 1, 8) := by kernel_rfl
 obtain ⟨i, hi, h1⟩ := Option.map_eq_some_iff.1 h
 simp only [Prod.mk.injEq] at h1
 exact ⟨i, _, hi, h1.1, h1.2.1, h1.2.2, by rfl⟩, by decide⟩

theorem E_32_YMs3 : Elem Try.prog 32 82 2 32 := ⟨Try.underlying32, by
 have h : (Try.prog.info? 82).map (fun i => (i.zero, i.size, i.bytes)) = some (some (.agg #[.string ByteArray.empty, .string ByteArray.empty]), 2, 32) := by kernel_rfl
 obtain ⟨i, hi, h1⟩ := Option.map_eq_some_iff.1 h
 simp only [Prod.mk.injEq] at h1
 exact ⟨i, _, hi, h1.1, h1.2.1, h1.2.2, by rfl⟩, by decide⟩

def F_mess_inner_api_Conf__conf_Of (r0 : Ewire_Reader) : Option (EConf × Int × Ewire_Reader) := (F_wire_Reader_Text r0 65536).bind fun t => ((F_wire_Reader_Err t.2).bind fun e => (if (e != 0) = true then (some ((default : EConf), e, t.2)) else ((F_conf_Of t.1).bind fun o => (some (o.1, o.2, t.2)))))

set_option maxHeartbeats 1000000 in
theorem c_mess_inner_api_Conf__conf_Of {I D : Dm} {b_r0 : Nat} {r0 : Ewire_Reader} {w : World} {rr : EConf × Int × Ewire_Reader} (hF : F_mess_inner_api_Conf__conf_Of r0 = some rr) (H : St I D w [BxC b_r0 85 (cEwire_Reader r0)]) :
  Calls Try.prog 46 #[pp b_r0 0, .func (.func 47) #[] #[]] w (Ret fun vv w' => ∃ q1 : Value, vv = .tuple #[.agg #[vI rr.1.epoch, q1, vU rr.1.floor], vI rr.2.1] ∧ ∃ I', Hf I D w I' w' [BxC b_r0 85 (cEwire_Reader rr.2.2), SlC NEMember q1 rr.1.members]) := by
 replace H := H.hf
 unfold F_mess_inner_api_Conf__conf_Of at hF
 refine f_enter 22 Try.func46 rfl rfl (Nat.le_of_ble_eq_true rfl) fun a Z => ?_
 replace Z := Z.sub (ts := [0, 1]) rfl
 refine wp_seq (f_region Z ?_); clear Z; intro Z
 refine hA Z H [vI 0, nS, vU 0] rfl rfl (by kernel_rfl) fun a w1 b1 H Z => ?_
 refine s_runk tMs3 Z 1 rfl rfl fun a Z => ?_
 refine s_end Z [0, 1, 4] rfl fun Z => ?_
 refine p_then (wp_seq (f_region Z ?_)); clear Z; intro Z
 refine hA Z H [vI 0, nS, vU 0] rfl rfl (by kernel_rfl) fun a w2 b2 H Z => ?_
 refine s_end Z [0, 1, 4, 6] rfl fun Z => ?_
 refine p_then (wp_seq ?_)
 obtain ⟨t, hx1, hF⟩ := bnd_in hF
 refine f_region Z fun Z => ?_
 refine s_runk tMs3 Z 1 rfl rfl fun a Z => ?_
 refine hC Z H [(2, false)] rfl #[] fn_72_YMs3 rfl rfl (fun D h => have q := c_wire_Reader_Text hx1 h; q) fun vv a w3 D2 hr hF2 Z => ?_
 obtain ⟨rfl, I1, K⟩ := hr
 have H := (hF2 K).nf rfl
 refine s_runk tMs3 Z 1 rfl rfl fun a Z => ?_
 refine s_end Z [0, 1, 4, 6, 7] rfl fun Z => ?_
 refine p_then (wp_seq ?_)
 refine wp_seq ?_
 obtain ⟨e, hx2, hF⟩ := bnd_in hF
 refine f_region Z fun Z => ?_
 refine s_runk tMs3 Z 1 rfl rfl fun a Z => ?_
 refine hC Z H [(0, false)] rfl #[] fn_19_YMs3 rfl rfl (fun D h => have q := c_wire_Reader_Err hx2 h; q) fun vv a w4 D2 hr hF2 Z => ?_
 obtain ⟨rfl, I2, K⟩ := hr
 have H := (hF2 K).nf rfl
 refine s_runk tMs3 Z 1 rfl rfl fun a Z => ?_
 refine s_end Z [1, 4, 6, 7, 8] rfl fun Z => ?_
 refine p_then (wp_seq (f_region Z ?_)); clear Z; intro Z
 refine s_runk tMs3 Z 2 rfl rfl fun a Z => ?_
 refine s_end Z [1, 4, 6, 7, 8, 14] rfl fun Z => ?_
 refine p_then ?_
 refine f_cond Z rfl (fun hc1 => ?_) (fun hc1 => ?_)
 ·replace hF := ite_t hc1 hF
  refine wp_seq (f_region Z ?_); clear Z; intro Z
  refine sO Z (.agg #[vI 0, nS, vU 0]) rfl (oA tMs3 rfl rfl ((H.bx 1 rfl).part 0 rfl)) fun a Z => ?_
  refine s_runk tMs3 Z 1 rfl rfl fun a Z => ?_
  refine hT tMs3 Z H 2 rfl rfl rfl rfl rfl (one_cons rfl (one_cons (slS.one slS.nil) (one_cons rfl one_nil))) (Nat.le_of_ble_eq_true rfl) rfl fun w5 H => ?_
  dsimp only [List.eraseIdx] at H
  refine s_runk tMs3 Z 1 rfl rfl fun a Z => ?_
  refine s_end Z [4, 5] rfl fun Z => ?_
  refine p_then (wp_ret ?_)
  refine p_then_r ?_
  replace H := H.slNil NEMember
  obtain rfl := some_in hF
  exact f_ret Z (run_resultsCT rfl Z rfl (run_loadVar_agg tMs3 rfl (H.bx 1 rfl).at) rfl) ⟨nS, rfl, I2, (H.sub [(2, false), (0, true)] rfl).eq rfl⟩
 ·replace hF := ite_f hc1 hF
  refine wp_skip ?_
  refine p_then (wp_seq ?_)
  obtain ⟨o, hx3, hF⟩ := bnd_in hF
  refine f_region Z fun Z => ?_
  refine s_runk tMs3 Z 2 rfl rfl fun a Z => ?_
  refine hC Z H [] rfl #[] fn_47_YMs3 rfl rfl (fun D h => have q := c_conf_Of hx3 h; q) fun vv a w6 D2 hr hF2 Z => ?_
  obtain ⟨q1, rfl, I3, K⟩ := hr
  have H := (hF2 K).nf rfl
  refine s_runk tMs3 Z 2 rfl rfl fun a Z => ?_
  refine hT tMs3 Z H 3 rfl rfl rfl rfl rfl (one_cons rfl (one_cons (slS.one (H.slshape 0 rfl)) (one_cons rfl one_nil))) (Nat.le_of_ble_eq_true rfl) rfl fun w7 H => ?_
  dsimp only [List.eraseIdx] at H
  refine s_runk tMs3 Z 1 rfl rfl fun a Z => ?_
  refine s_end Z [4, 5] rfl fun Z => ?_
  refine p_then (wp_ret ?_)
  obtain rfl := some_in hF
  exact f_ret Z (run_resultsCT rfl Z rfl (run_loadVar_agg tMs3 rfl (H.bx 0 rfl).at) rfl) ⟨q1, rfl, I3, (H.sub [(2, false), (1, true)] rfl).eq rfl⟩

def F_mess_inner_api_Batch__ops_Of (r0 : Ewire_Reader) : Option (EBatch × Int × Ewire_Reader) := (F_wire_Reader_Text r0 65536).bind fun t => ((F_wire_Reader_Err t.2).bind fun e => (if (e != 0) = true then (some ((default : EBatch), e, t.2)) else ((F_ops_Of t.1).bind fun o => (some (o.1, o.2, t.2)))))

set_option maxHeartbeats 1000000 in
theorem c_mess_inner_api_Batch__ops_Of {I D : Dm} {b_r0 : Nat} {r0 : Ewire_Reader} {w : World} {rr : EBatch × Int × Ewire_Reader} (hF : F_mess_inner_api_Batch__ops_Of r0 = some rr) (H : St I D w [BxC b_r0 85 (cEwire_Reader r0)]) :
  Calls Try.prog 48 #[pp b_r0 0, .func (.func 49) #[] #[]] w (Ret fun vv w' => ∃ q1 : Value, vv = .tuple #[.agg #[vI rr.1.client, vI rr.1.req, q1], vI rr.2.1] ∧ ∃ I', Hf I D w I' w' [BxC b_r0 85 (cEwire_Reader rr.2.2), SlC NEOp q1 rr.1.ops]) := by
 replace H := H.hf
 unfold F_mess_inner_api_Batch__ops_Of at hF
 refine f_enter 22 Try.func48 rfl rfl (Nat.le_of_ble_eq_true rfl) fun a Z => ?_
 replace Z := Z.sub (ts := [0, 1]) rfl
 refine wp_seq (f_region Z ?_); clear Z; intro Z
 refine hA Z H [vI 0, vI 0, nS] rfl rfl (by kernel_rfl) fun a w1 b1 H Z => ?_
 refine s_runk tMs3 Z 1 rfl rfl fun a Z => ?_
 refine s_end Z [0, 1, 4] rfl fun Z => ?_
 refine p_then (wp_seq (f_region Z ?_)); clear Z; intro Z
 refine hA Z H [vI 0, vI 0, nS] rfl rfl (by kernel_rfl) fun a w2 b2 H Z => ?_
 refine s_end Z [0, 1, 4, 6] rfl fun Z => ?_
 refine p_then (wp_seq ?_)
 obtain ⟨t, hx1, hF⟩ := bnd_in hF
 refine f_region Z fun Z => ?_
 refine s_runk tMs3 Z 1 rfl rfl fun a Z => ?_
 refine hC Z H [(2, false)] rfl #[] fn_72_YMs3 rfl rfl (fun D h => have q := c_wire_Reader_Text hx1 h; q) fun vv a w3 D2 hr hF2 Z => ?_
 obtain ⟨rfl, I1, K⟩ := hr
 have H := (hF2 K).nf rfl
 refine s_runk tMs3 Z 1 rfl rfl fun a Z => ?_
 refine s_end Z [0, 1, 4, 6, 7] rfl fun Z => ?_
 refine p_then (wp_seq ?_)
 refine wp_seq ?_
 obtain ⟨e, hx2, hF⟩ := bnd_in hF
 refine f_region Z fun Z => ?_
 refine s_runk tMs3 Z 1 rfl rfl fun a Z => ?_
 refine hC Z H [(0, false)] rfl #[] fn_19_YMs3 rfl rfl (fun D h => have q := c_wire_Reader_Err hx2 h; q) fun vv a w4 D2 hr hF2 Z => ?_
 obtain ⟨rfl, I2, K⟩ := hr
 have H := (hF2 K).nf rfl
 refine s_runk tMs3 Z 1 rfl rfl fun a Z => ?_
 refine s_end Z [1, 4, 6, 7, 8] rfl fun Z => ?_
 refine p_then (wp_seq (f_region Z ?_)); clear Z; intro Z
 refine s_runk tMs3 Z 2 rfl rfl fun a Z => ?_
 refine s_end Z [1, 4, 6, 7, 8, 14] rfl fun Z => ?_
 refine p_then ?_
 refine f_cond Z rfl (fun hc1 => ?_) (fun hc1 => ?_)
 ·replace hF := ite_t hc1 hF
  refine wp_seq (f_region Z ?_); clear Z; intro Z
  refine sO Z (.agg #[vI 0, vI 0, nS]) rfl (oA tMs3 rfl rfl ((H.bx 1 rfl).part 0 rfl)) fun a Z => ?_
  refine s_runk tMs3 Z 1 rfl rfl fun a Z => ?_
  refine hT tMs3 Z H 2 rfl rfl rfl rfl rfl (onR 2 rfl (one_cons (slS.one slS.nil) one_nil)) (Nat.le_of_ble_eq_true rfl) rfl fun w5 H => ?_
  dsimp only [List.eraseIdx] at H
  refine s_runk tMs3 Z 1 rfl rfl fun a Z => ?_
  refine s_end Z [4, 5] rfl fun Z => ?_
  refine p_then (wp_ret ?_)
  refine p_then_r ?_
  replace H := H.slNil NEOp
  obtain rfl := some_in hF
  exact f_ret Z (run_resultsCT rfl Z rfl (run_loadVar_agg tMs3 rfl (H.bx 1 rfl).at) rfl) ⟨nS, rfl, I2, (H.sub [(2, false), (0, true)] rfl).eq rfl⟩
 ·replace hF := ite_f hc1 hF
  refine wp_skip ?_
  refine p_then (wp_seq ?_)
  obtain ⟨o, hx3, hF⟩ := bnd_in hF
  refine f_region Z fun Z => ?_
  refine s_runk tMs3 Z 2 rfl rfl fun a Z => ?_
  refine hC Z H [] rfl #[] fn_49_YMs3 rfl rfl (fun D h => have q := c_ops_Of hx3 h; q) fun vv a w6 D2 hr hF2 Z => ?_
  obtain ⟨q1, rfl, I3, K⟩ := hr
  have H := (hF2 K).nf rfl
  refine s_runk tMs3 Z 2 rfl rfl fun a Z => ?_
  refine hT tMs3 Z H 3 rfl rfl rfl rfl rfl (onR 2 rfl (one_cons (slS.one (H.slshape 0 rfl)) one_nil)) (Nat.le_of_ble_eq_true rfl) rfl fun w7 H => ?_
  dsimp only [List.eraseIdx] at H
  refine s_runk tMs3 Z 1 rfl rfl fun a Z => ?_
  refine s_end Z [4, 5] rfl fun Z => ?_
  refine p_then (wp_ret ?_)
  obtain rfl := some_in hF
  exact f_ret Z (run_resultsCT rfl Z rfl (run_loadVar_agg tMs3 rfl (H.bx 0 rfl).at) rfl) ⟨q1, rfl, I3, (H.sub [(2, false), (1, true)] rfl).eq rfl⟩

def F_mess_inner_api_Entry__item_Of (r0 : Ewire_Reader) : Option (EEntry × Int × Ewire_Reader) := (F_wire_Reader_Text r0 65536).bind fun t => ((F_wire_Reader_Err t.2).bind fun e => (if (e != 0) = true then (some ((default : EEntry), e, t.2)) else ((F_item_Of t.1).bind fun o => (some (o.1, o.2, t.2)))))

set_option maxHeartbeats 1000000 in
theorem c_mess_inner_api_Entry__item_Of {I D : Dm} {b_r0 : Nat} {r0 : Ewire_Reader} {w : World} {rr : EEntry × Int × Ewire_Reader} (hF : F_mess_inner_api_Entry__item_Of r0 = some rr) (H : St I D w [BxC b_r0 85 (cEwire_Reader r0)]) :
  Calls Try.prog 74 #[pp b_r0 0, .func (.func 75) #[] #[]] w (Ret fun vv w' => ∃ q1 : Value, vv = .tuple #[.agg (cEEntry rr.1 q1).toArray, vI rr.2.1] ∧ ∃ I', Hf I D w I' w' [BxC b_r0 85 (cEwire_Reader rr.2.2), SlC NEOp q1 rr.1.batch.ops]) := by
 replace H := H.hf
 unfold F_mess_inner_api_Entry__item_Of at hF
 refine f_enter 22 Try.func74 rfl rfl (Nat.le_of_ble_eq_true rfl) fun a Z => ?_
 replace Z := Z.sub (ts := [0, 1]) rfl
 refine wp_seq (f_region Z ?_); clear Z; intro Z
 refine hA Z H [vI 0, vI 0, nS, vU 0] rfl rfl (by kernel_rfl) fun a w1 b1 H Z => ?_
 refine s_runk tMs3 Z 1 rfl rfl fun a Z => ?_
 refine s_end Z [0, 1, 4] rfl fun Z => ?_
 refine p_then (wp_seq (f_region Z ?_)); clear Z; intro Z
 refine hA Z H [vI 0, vI 0, nS, vU 0] rfl rfl (by kernel_rfl) fun a w2 b2 H Z => ?_
 refine s_end Z [0, 1, 4, 6] rfl fun Z => ?_
 refine p_then (wp_seq ?_)
 obtain ⟨t, hx1, hF⟩ := bnd_in hF
 refine f_region Z fun Z => ?_
 refine s_runk tMs3 Z 1 rfl rfl fun a Z => ?_
 refine hC Z H [(2, false)] rfl #[] fn_72_YMs3 rfl rfl (fun D h => have q := c_wire_Reader_Text hx1 h; q) fun vv a w3 D2 hr hF2 Z => ?_
 obtain ⟨rfl, I1, K⟩ := hr
 have H := (hF2 K).nf rfl
 refine s_runk tMs3 Z 1 rfl rfl fun a Z => ?_
 refine s_end Z [0, 1, 4, 6, 7] rfl fun Z => ?_
 refine p_then (wp_seq ?_)
 refine wp_seq ?_
 obtain ⟨e, hx2, hF⟩ := bnd_in hF
 refine f_region Z fun Z => ?_
 refine s_runk tMs3 Z 1 rfl rfl fun a Z => ?_
 refine hC Z H [(0, false)] rfl #[] fn_19_YMs3 rfl rfl (fun D h => have q := c_wire_Reader_Err hx2 h; q) fun vv a w4 D2 hr hF2 Z => ?_
 obtain ⟨rfl, I2, K⟩ := hr
 have H := (hF2 K).nf rfl
 refine s_runk tMs3 Z 1 rfl rfl fun a Z => ?_
 refine s_end Z [1, 4, 6, 7, 8] rfl fun Z => ?_
 refine p_then (wp_seq (f_region Z ?_)); clear Z; intro Z
 refine s_runk tMs3 Z 2 rfl rfl fun a Z => ?_
 refine s_end Z [1, 4, 6, 7, 8, 14] rfl fun Z => ?_
 refine p_then ?_
 refine f_cond Z rfl (fun hc1 => ?_) (fun hc1 => ?_)
 ·replace hF := ite_t hc1 hF
  refine wp_seq (f_region Z ?_); clear Z; intro Z
  refine sO Z (.agg #[vI 0, vI 0, nS, vU 0]) rfl (oA tMs3 rfl rfl ((H.bx 1 rfl).part 0 rfl)) fun a Z => ?_
  refine s_runk tMs3 Z 1 rfl rfl fun a Z => ?_
  refine hT tMs3 Z H 2 rfl rfl rfl rfl rfl (onR 2 rfl (one_cons (slS.one slS.nil) (one_cons rfl one_nil))) (Nat.le_of_ble_eq_true rfl) rfl fun w5 H => ?_
  dsimp only [List.eraseIdx] at H
  refine s_runk tMs3 Z 1 rfl rfl fun a Z => ?_
  refine s_end Z [4, 5] rfl fun Z => ?_
  refine p_then (wp_ret ?_)
  refine p_then_r ?_
  replace H := H.slNil NEOp
  obtain rfl := some_in hF
  exact f_ret Z (run_resultsCT rfl Z rfl (run_loadVar_agg tMs3 rfl (H.bx 1 rfl).at) rfl) ⟨nS, rfl, I2, (H.sub [(2, false), (0, true)] rfl).eq rfl⟩
 ·replace hF := ite_f hc1 hF
  refine wp_skip ?_
  refine p_then (wp_seq ?_)
  obtain ⟨o, hx3, hF⟩ := bnd_in hF
  refine f_region Z fun Z => ?_
  refine s_runk tMs3 Z 2 rfl rfl fun a Z => ?_
  refine hC Z H [] rfl #[] fn_75_YMs3 rfl rfl (fun D h => have q := c_item_Of hx3 h; q) fun vv a w6 D2 hr hF2 Z => ?_
  obtain ⟨q1, rfl, I3, K⟩ := hr
  have H := (hF2 K).nf rfl
  refine s_runk tMs3 Z 2 rfl rfl fun a Z => ?_
  refine hT tMs3 Z H 3 rfl rfl rfl rfl rfl (onR 2 rfl (one_cons (slS.one (H.slshape 0 rfl)) (one_cons rfl one_nil))) (Nat.le_of_ble_eq_true rfl) rfl fun w7 H => ?_
  dsimp only [List.eraseIdx] at H
  refine s_runk tMs3 Z 1 rfl rfl fun a Z => ?_
  refine s_end Z [4, 5] rfl fun Z => ?_
  refine p_then (wp_ret ?_)
  obtain rfl := some_in hF
  exact f_ret Z (run_resultsCT rfl Z rfl (run_loadVar_agg tMs3 rfl (H.bx 0 rfl).at) rfl) ⟨q1, rfl, I3, (H.sub [(2, false), (1, true)] rfl).eq rfl⟩

def F_mess_several_l1 (n0 : Int × Ewire_Reader) (rc : ((List EEntry) × Int × ByteArray × Int × Int × Bool) → Option ((List EEntry) × Int × Ewire_Reader)) (sg : (List EEntry) × Int × ByteArray × Int × Int × Bool) : Option ((List EEntry) × Int × Ewire_Reader) := match sg with | (out, x, r_s, r_at_, r_e, r_made) => if (decide (x < n0.1)) = true then ((F_mess_inner_api_Entry__item_Of ({ s := r_s, at_ := r_at_, e := r_e, made := r_made } : Ewire_Reader)).bind fun o => (if (o.2.1 != 0) = true then (some (([] : List EEntry), o.2.1, o.2.2)) else (chk (((out.length + [o.1].length : Nat) : Int) * 48 ≤ 140737488355328) (chk (inI (x + 1)) (rc (out ++ [o.1], x + 1, o.2.2.s, o.2.2.at_, o.2.2.e, o.2.2.made)))))) else (some (out, 0, ({ s := r_s, at_ := r_at_, e := r_e, made := r_made } : Ewire_Reader)))

def F_mess_several (r0 : Ewire_Reader) : Option ((List EEntry) × Int × Ewire_Reader) := (F_wire_Reader_Num r0 4).bind fun n0 => (iter (F_mess_several_l1 n0) FU (([] : List EEntry), 0, n0.2.s, n0.2.at_, n0.2.e, n0.2.made))

set_option maxHeartbeats 1000000 in
theorem c_mess_several {I D : Dm} {b_r0 : Nat} {r0 : Ewire_Reader} {w : World} {rr : (List EEntry) × Int × Ewire_Reader} (hF : F_mess_several r0 = some rr) (H : St I D w [BxC b_r0 85 (cEwire_Reader r0)]) :
  Calls Try.prog 50 #[pp b_r0 0] w (Ret fun vv w' => ∃ q1 : Value, vv = .tuple #[q1, vI rr.2.1] ∧ ∃ I', Hf I D w I' w' [BxC b_r0 85 (cEwire_Reader rr.2.2), SlC NEEntry q1 rr.1]) := by
 replace H := H.hf
 unfold F_mess_several at hF
 refine f_enter 25 Try.func50 rfl rfl (Nat.le_of_ble_eq_true rfl) fun a Z => ?_
 replace Z := Z.sub (ts := [0]) rfl
 refine wp_seq (f_region Z ?_); clear Z; intro Z
 refine s_runk tMs3 Z 2 rfl rfl fun a Z => ?_
 refine s_end Z [0] rfl fun Z => ?_
 refine p_then (wp_seq (f_region Z ?_)); clear Z; intro Z
 refine s_runk tMs3 Z 1 rfl rfl fun a Z => ?_
 refine s_end Z [0, 4] rfl fun Z => ?_
 refine p_then (wp_seq ?_)
 refine wp_seq ?_
 obtain ⟨n0, hx1, hF⟩ := bnd_in hF
 refine f_region Z fun Z => ?_
 refine s_runk tMs3 Z 1 rfl rfl fun a Z => ?_
 refine hC Z H [(0, false)] rfl #[] fn_18_YMs3 rfl rfl (fun D h => have q := c_wire_Reader_Num hx1 h; q) fun vv a w1 D2 hr hF2 Z => ?_
 obtain ⟨rfl, I1, K⟩ := hr
 have H := (hF2 K).nf rfl
 refine s_runk tMs3 Z 1 rfl rfl fun a Z => ?_
 refine s_end Z [0, 4, 8, 9] rfl fun Z => ?_
 refine p_then (wp_block ?_)
 replace H := H.nilow NEEntry 68
 refine f_iter hF (fun sg a' w' => match sg with | (out, x, r_s, r_at_, r_e, r_made) => ∃ v1 : Value, Sl 25 [(0, pp b_r0 0), (4, v1), (8, vI n0.1), (9, vI x)] a' ∧ ∃ I2, Hf I D w I2 w' [BxC b_r0 85 [vS r_s, vI r_at_, vI r_e, vT r_made], OwC NEEntry 68 v1 out]) ⟨nS, Z.sub (ts := [0, 4, 8, 9]) rfl, ⟨I1, (H.sub [(1, false), (0, false)] rfl).eq rfl⟩⟩ ?_
 rintro rc ⟨out, x, r_s, r_at_, r_e, r_made⟩ a w2 ⟨v1, Z, I2, H⟩ hF
 unfold F_mess_several_l1 at hF
 try dsimp only at hF
 refine wp_seq (f_region Z ?_); clear Z; intro Z
 refine s_runk tMs3 Z 1 rfl rfl fun a Z => ?_
 refine s_end Z [0, 4, 8, 9, 10] rfl fun Z => ?_
 refine p_then (wp_seq ?_)
 refine f_cond Z rfl (fun hc1 => ?_) (fun hc1 => ?_)
 ·replace hF := ite_t hc1 hF
  refine wp_skip ?_
  refine p_then (wp_seq ?_)
  refine wp_block ?_
  refine wp_seq ?_
  obtain ⟨o, hx2, hF⟩ := bnd_in hF
  refine f_region Z fun Z => ?_
  refine s_runk tMs3 Z 1 rfl rfl fun a Z => ?_
  refine hC Z H [(0, false)] rfl #[] fn_74_YMs3 rfl rfl (fun D h => have q := c_mess_inner_api_Entry__item_Of hx2 h; q) fun vv a w3 D2 hr hF2 Z => ?_
  obtain ⟨q1, rfl, I3, K⟩ := hr
  have H := (hF2 K).nf rfl
  refine s_runk tMs3 Z 3 rfl rfl fun a Z => ?_
  refine hA Z H [vI 0, vI 0, nS, vU 0] rfl rfl (by kernel_rfl) fun a w4 b1 H Z => ?_
  refine hT tMs3 Z H 0 rfl rfl rfl rfl rfl (onR 2 rfl (one_cons (slS.one (H.slshape 2 rfl)) (one_cons rfl one_nil))) (Nat.le_of_ble_eq_true rfl) rfl fun w5 H => ?_
  dsimp only [List.eraseIdx] at H
  refine s_runk tMs3 Z 1 rfl rfl fun a Z => ?_
  refine s_end Z [0, 4, 8, 9, 5, 6] rfl fun Z => ?_
  refine p_then (wp_seq ?_)
  refine wp_seq (f_region Z ?_); clear Z; intro Z
  refine s_runk tMs3 Z 2 rfl rfl fun a Z => ?_
  refine s_end Z [0, 4, 8, 9, 5, 6, 17] rfl fun Z => ?_
  refine p_then ?_
  refine f_cond Z rfl (fun hc2 => ?_) (fun hc2 => ?_)
  ·replace hF := ite_t hc2 hF
   refine wp_seq (f_region Z ?_); clear Z; intro Z
   refine s_runk tMs3 Z 3 rfl rfl fun a Z => ?_
   refine s_end Z [2, 3] rfl fun Z => ?_
   refine p_then (wp_ret ?_)
   refine p_then_r ?_
   refine p_blk_r ?_
   refine p_then_r ?_
   refine p_then_r ?_
   refine p_blk_r ?_
   refine p_then_r ?_
   replace H := H.slNil NEEntry
   obtain rfl := some_in hF
   exact f_ret Z (run_results2 rfl Z rfl rfl) ⟨nS, rfl, I3, (H.sub [(2, false), (0, true)] rfl).eq rfl⟩
  ·replace hF := ite_f hc2 hF
   refine wp_skip ?_
   refine p_then ?_
   obtain ⟨hg1, hF⟩ := chk_in hF
   refine f_region Z fun Z => ?_
   refine s_runk tMs3 Z 1 rfl rfl fun a Z => ?_
   refine sO Z (.agg (cEEntry o.1 q1).toArray) rfl (oA tMs3 rfl rfl ((H.bx 0 rfl).part 0 rfl)) fun a Z => ?_
   refine h_bslice Z H (vs := [(0, .agg #[vI o.1.batch.client, vI o.1.batch.req, q1, vU o.1.ts])]) (cl := [vI o.1.batch.client, vI o.1.batch.req, q1, vU o.1.ts]) (e := 68) rfl rfl rfl (by decide) rfl rfl (fun w => run_bslice (z := .agg #[vI 0, vI 0, nS, vU 0]) (m := 4) Try.underlying30 (by kernel_rfl) rfl rfl (by decide) (by simp [Instr.fill, Value.cells]) w) fun a w6 b2 H Z => ?_
   refine h_appO Z H 4 E_30_YMs3 [o.1] rfl rfl rfl rfl rfl (by decide) rfl rfl rfl (slRep2.box1 (H.bx 0 rfl) ⟨_, rfl, (H.sl 3 rfl)⟩) hg1 (by decide) fun v2 a w7 H Z => ?_
   dsimp only [List.eraseIdx] at H
   replace H := (H.sub [(0, false), (1, false), (1, false), (1, true)] rfl).nf rfl
   refine s_runk tMs3 Z 1 rfl rfl fun a Z => ?_
   refine s_end Z [0, 4, 8, 9] rfl fun Z => ?_
   refine p_blk ?_
   refine p_then ?_
   obtain ⟨hg2, hF⟩ := chk_in hF
   refine f_region Z fun Z => ?_
   refine sO Z (vI (x + 1)) rfl (Ob_add rfl rfl rfl (wrI hg2)) fun a Z => ?_
   refine s_runk tMs3 Z 1 rfl rfl fun a Z => ?_
   refine s_end Z [0, 4, 8, 9] rfl fun Z => ?_
   refine p_then ?_
   exact ⟨(out ++ [o.1], x + 1, o.2.2.s, o.2.2.at_, o.2.2.e, o.2.2.made), ⟨v2, Z.sub (ts := [0, 4, 8, 9]) rfl, ⟨I3, (H.sub [(2, false), (0, false)] rfl).eq rfl⟩⟩, hF⟩
 ·replace hF := ite_f hc1 hF
  refine wp_exit ?_
  refine p_then_x ?_
  refine p_then_x ?_
  refine f_exit_here ?_
  refine p_then (wp_seq (f_region Z ?_)); clear Z; intro Z
  refine s_runk tMs3 Z 3 rfl rfl fun a Z => ?_
  refine s_end Z [2, 3] rfl fun Z => ?_
  refine p_then (wp_ret ?_)
  obtain ⟨I4, _, H⟩ := H.frzow 1 rfl
  replace H := H.nf rfl; try dsimp only at H
  obtain rfl := some_in hF
  exact f_ret Z (run_results2 rfl Z rfl rfl) ⟨v1, rfl, I4, (H.sub [(1, false), (0, true)] rfl).eq rfl⟩

def F_mess_rows_l1 (n0 : Int × Ewire_Reader) (rc : ((List EPair) × Int × ByteArray × Int × Int × Bool) → Option ((List EPair) × Ewire_Reader)) (sg : (List EPair) × Int × ByteArray × Int × Int × Bool) : Option ((List EPair) × Ewire_Reader) := match sg with | (out, x, r_s, r_at_, r_e, r_made) => if (decide (x < n0.1)) = true then ((F_wire_Reader_Text ({ s := r_s, at_ := r_at_, e := r_e, made := r_made } : Ewire_Reader) 8).bind fun t => ((F_wire_Reader_Text t.2 8).bind fun t_2 => (chk (((out.length + [({ key := t.1, val := t_2.1 } : EPair)].length : Nat) : Int) * 32 ≤ 140737488355328) (chk (inI (x + 1)) (rc (out ++ [({ key := t.1, val := t_2.1 } : EPair)], x + 1, t_2.2.s, t_2.2.at_, t_2.2.e, t_2.2.made)))))) else (some (out, ({ s := r_s, at_ := r_at_, e := r_e, made := r_made } : Ewire_Reader)))

def F_mess_rows (r0 : Ewire_Reader) : Option ((List EPair) × Ewire_Reader) := (F_wire_Reader_Num r0 32).bind fun n0 => (iter (F_mess_rows_l1 n0) FU (([] : List EPair), 0, n0.2.s, n0.2.at_, n0.2.e, n0.2.made))

set_option maxHeartbeats 1000000 in
theorem c_mess_rows {I D : Dm} {b_r0 : Nat} {r0 : Ewire_Reader} {w : World} {rr : (List EPair) × Ewire_Reader} (hF : F_mess_rows r0 = some rr) (H : St I D w [BxC b_r0 85 (cEwire_Reader r0)]) :
  Calls Try.prog 52 #[pp b_r0 0] w (Ret fun vv w' => ∃ q1 : Value, vv = q1 ∧ ∃ I', Hf I D w I' w' [BxC b_r0 85 (cEwire_Reader rr.2), SlC NEPair q1 rr.1]) := by
 replace H := H.hf
 unfold F_mess_rows at hF
 refine f_enter 21 Try.func52 rfl rfl (Nat.le_of_ble_eq_true rfl) fun a Z => ?_
 replace Z := Z.sub (ts := [0]) rfl
 refine wp_seq (f_region Z ?_); clear Z; intro Z
 refine s_runk tMs3 Z 1 rfl rfl fun a Z => ?_
 refine s_end Z [0] rfl fun Z => ?_
 refine p_then (wp_seq (f_region Z ?_)); clear Z; intro Z
 refine s_runk tMs3 Z 1 rfl rfl fun a Z => ?_
 refine s_end Z [0, 3] rfl fun Z => ?_
 refine p_then (wp_seq ?_)
 refine wp_seq ?_
 obtain ⟨n0, hx1, hF⟩ := bnd_in hF
 refine f_region Z fun Z => ?_
 refine s_runk tMs3 Z 1 rfl rfl fun a Z => ?_
 refine hC Z H [(0, false)] rfl #[] fn_18_YMs3 rfl rfl (fun D h => have q := c_wire_Reader_Num hx1 h; q) fun vv a w1 D2 hr hF2 Z => ?_
 obtain ⟨rfl, I1, K⟩ := hr
 have H := (hF2 K).nf rfl
 refine s_runk tMs3 Z 1 rfl rfl fun a Z => ?_
 refine s_end Z [0, 3, 6, 7] rfl fun Z => ?_
 refine p_then (wp_block ?_)
 replace H := H.nilow NEPair 82
 refine f_iter hF (fun sg a' w' => match sg with | (out, x, r_s, r_at_, r_e, r_made) => ∃ v1 : Value, Sl 21 [(0, pp b_r0 0), (3, v1), (6, vI n0.1), (7, vI x)] a' ∧ ∃ I2, Hf I D w I2 w' [BxC b_r0 85 [vS r_s, vI r_at_, vI r_e, vT r_made], OwC NEPair 82 v1 out]) ⟨nS, Z.sub (ts := [0, 3, 6, 7]) rfl, ⟨I1, (H.sub [(1, false), (0, false)] rfl).eq rfl⟩⟩ ?_
 rintro rc ⟨out, x, r_s, r_at_, r_e, r_made⟩ a w2 ⟨v1, Z, I2, H⟩ hF
 unfold F_mess_rows_l1 at hF
 try dsimp only at hF
 refine wp_seq (f_region Z ?_); clear Z; intro Z
 refine s_runk tMs3 Z 1 rfl rfl fun a Z => ?_
 refine s_end Z [0, 3, 6, 7, 8] rfl fun Z => ?_
 refine p_then (wp_seq ?_)
 refine f_cond Z rfl (fun hc1 => ?_) (fun hc1 => ?_)
 ·replace hF := ite_t hc1 hF
  refine wp_skip ?_
  refine p_then (wp_seq ?_)
  refine wp_block ?_
  refine wp_seq ?_
  obtain ⟨t, hx2, hF⟩ := bnd_in hF
  refine f_region Z fun Z => ?_
  refine s_runk tMs3 Z 1 rfl rfl fun a Z => ?_
  refine hC Z H [(0, false)] rfl #[] fn_72_YMs3 rfl rfl (fun D h => have q := c_wire_Reader_Text hx2 h; q) fun vv a w3 D2 hr hF2 Z => ?_
  obtain ⟨rfl, I3, K⟩ := hr
  have H := (hF2 K).nf rfl
  refine sO Z (.agg #[vS t.1, vS ByteArray.empty]) rfl (Ob_build (vs := [(0, vS t.1)]) rfl rfl (by go_simp <;> rfl)) fun a Z => ?_
  refine hA Z H [vS ByteArray.empty, vS ByteArray.empty] rfl rfl (by kernel_rfl) fun a w4 b1 H Z => ?_
  refine hT tMs3 Z H 0 rfl rfl rfl rfl rfl (onR 2 rfl one_nil) (Nat.le_of_ble_eq_true rfl) rfl fun w5 H => ?_
  dsimp only [List.eraseIdx] at H
  refine s_end Z [0, 3, 6, 7, 4] rfl fun Z => ?_
  refine p_then (wp_seq ?_)
  obtain ⟨t_2, hx3, hF⟩ := bnd_in hF
  refine f_region Z fun Z => ?_
  refine s_runk tMs3 Z 1 rfl rfl fun a Z => ?_
  refine hC Z H [(1, false)] rfl #[] fn_72_YMs3 rfl rfl (fun D h => have q := c_wire_Reader_Text hx3 h; q) fun vv a w6 D2 hr hF2 Z => ?_
  obtain ⟨rfl, I4, K⟩ := hr
  have H := (hF2 K).nf rfl
  refine s_runk tMs3 Z 1 rfl rfl fun a Z => ?_
  refine hT tMs3 Z H 1 rfl rfl rfl rfl rfl (one_cons rfl one_nil) (Nat.le_of_ble_eq_true rfl) rfl fun w7 H => ?_
  dsimp only [List.eraseIdx] at H
  refine s_end Z [0, 3, 6, 7, 4] rfl fun Z => ?_
  refine p_then ?_
  obtain ⟨hg1, hF⟩ := chk_in hF
  refine f_region Z fun Z => ?_
  refine s_runk tMs3 Z 1 rfl rfl fun a Z => ?_
  refine sO Z (.agg #[vS t.1, vS t_2.1]) rfl (oA tMs3 rfl rfl ((H.bx 0 rfl).part 0 rfl)) fun a Z => ?_
  refine h_bslice Z H (vs := [(0, .agg #[vS t.1, vS t_2.1])]) (cl := [vS t.1, vS t_2.1]) (e := 82) rfl rfl rfl (by decide) rfl rfl (fun w => run_bslice (z := .agg #[vS ByteArray.empty, vS ByteArray.empty]) (m := 2) Try.underlying32 (by kernel_rfl) rfl rfl (by decide) (by simp [Instr.fill, Value.cells]) w) fun a w8 b2 H Z => ?_
  refine h_appO Z H 3 E_32_YMs3 [({ key := t.1, val := t_2.1 } : EPair)] rfl rfl rfl rfl rfl (by decide) rfl rfl rfl (slRep2.box1 (H.bx 0 rfl) ⟨rfl, trivial⟩) hg1 (by decide) fun v2 a w9 H Z => ?_
  dsimp only [List.eraseIdx] at H
  replace H := (H.sub [(0, false), (1, false), (1, false)] rfl).nf rfl
  refine s_runk tMs3 Z 1 rfl rfl fun a Z => ?_
  refine s_end Z [0, 3, 6, 7] rfl fun Z => ?_
  refine p_blk ?_
  refine p_then ?_
  obtain ⟨hg2, hF⟩ := chk_in hF
  refine f_region Z fun Z => ?_
  refine sO Z (vI (x + 1)) rfl (Ob_add rfl rfl rfl (wrI hg2)) fun a Z => ?_
  refine s_runk tMs3 Z 1 rfl rfl fun a Z => ?_
  refine s_end Z [0, 3, 6, 7] rfl fun Z => ?_
  refine p_then ?_
  exact ⟨(out ++ [({ key := t.1, val := t_2.1 } : EPair)], x + 1, t_2.2.s, t_2.2.at_, t_2.2.e, t_2.2.made), ⟨v2, Z.sub (ts := [0, 3, 6, 7]) rfl, ⟨I4, (H.sub [(2, false), (0, false)] rfl).eq rfl⟩⟩, hF⟩
 ·replace hF := ite_f hc1 hF
  refine wp_exit ?_
  refine p_then_x ?_
  refine p_then_x ?_
  refine f_exit_here ?_
  refine p_then (wp_seq (f_region Z ?_)); clear Z; intro Z
  refine s_runk tMs3 Z 2 rfl rfl fun a Z => ?_
  refine s_end Z [2] rfl fun Z => ?_
  refine p_then (wp_ret ?_)
  obtain ⟨I5, _, H⟩ := H.frzow 1 rfl
  replace H := H.nf rfl; try dsimp only at H
  obtain rfl := some_in hF
  exact f_ret Z (run_results1 rfl Z rfl) ⟨v1, rfl, I5, (H.sub [(1, false), (0, true)] rfl).eq rfl⟩

def F_mess_simple (r0 : Ewire_Reader) (m : EMsg) (c : Int) : Option (Ewire_Reader × EMsg) := if (c == 120) = true then ((F_wire_Reader_Num r0 21).bind fun n0 => (some (n0.2, ({ m with e := n0.1 } : EMsg)))) else (if (c == 97) = true then ((F_wire_Reader_Big r0).bind fun b => (some (b.2, ({ m with at_ := b.1 } : EMsg)))) else (if (c == 108) = true then ((F_wire_Reader_Big r0).bind fun b_2 => (some (b_2.2, ({ m with last := b_2.1 } : EMsg)))) else (if (c == 102) = true then ((F_wire_Reader_Flag r0).bind fun f => (some (f.2, ({ m with flag := f.1 } : EMsg)))) else (if (c == 107) = true then ((F_wire_Reader_Text r0 8).bind fun t => (some (t.2, ({ m with key := t.1 } : EMsg)))) else (if (c == 116) = true then ((F_wire_Reader_Text r0 8).bind fun t_2 => (some (t_2.2, ({ m with to_ := t_2.1 } : EMsg)))) else (some (r0, m)))))))

set_option maxHeartbeats 1000000 in
theorem c_mess_simple {I D : Dm} {b_r0 : Nat} {r0 : Ewire_Reader} {b_m : Nat} {m : EMsg} {c : Int} {w : World} {rr : Ewire_Reader × EMsg} (hF : F_mess_simple r0 m c = some rr) (H : St I D w [BxC b_r0 85 (cEwire_Reader r0), OEMsg b_m m]) :
  Calls Try.prog 53 #[pp b_r0 0, pp b_m 0, .int .i32 c] w (Ret fun vv w' => vv = .tuple #[] ∧ ∃ I', Hf I D w I' w' [BxC b_r0 85 (cEwire_Reader rr.1), OEMsg b_m rr.2]) := by
 replace H := H.hf
 unfold F_mess_simple at hF
 refine f_enter 49 Try.func53 rfl rfl (Nat.le_of_ble_eq_true rfl) fun a Z => ?_
 replace Z := Z.sub (ts := [0, 1, 2]) rfl
 refine wp_seq (f_region Z ?_); clear Z; intro Z
 refine s_runk tMs3 Z 1 rfl rfl fun a Z => ?_
 refine s_end Z [0, 1, 6] rfl fun Z => ?_
 refine p_then (wp_block ?_)
 refine wp_seq (f_region Z ?_); clear Z; intro Z
 refine s_runk tMs3 Z 2 rfl rfl fun a Z => ?_
 refine s_end Z [0, 1, 6, 7] rfl fun Z => ?_
 refine p_then ?_
 refine f_cond Z rfl (fun hc1 => ?_) (fun hc1 => ?_)
 ·replace hF := ite_t hc1 hF
  obtain ⟨n0, hx1, hF⟩ := bnd_in hF
  refine f_region Z fun Z => ?_
  refine s_runk tMs3 Z 2 rfl rfl fun a Z => ?_
  refine hC Z H [(0, false)] rfl #[] fn_18_YMs3 rfl rfl (fun D h => have q := c_wire_Reader_Num hx1 h; q) fun vv a w1 D2 hr hF2 Z => ?_
  obtain ⟨rfl, I1, K⟩ := hr
  have H := (hF2 K).nf rfl
  refine s_runk tMs3 Z 2 rfl rfl fun a Z => ?_
  obtain ⟨⟨v1, v2, v3, v4, v5⟩, H⟩ := H.openX 1 rfl
  replace H := H.nf rfl; try dsimp only at H
  refine hT tMs3 Z H 0 rfl rfl rfl rfl rfl (one_cons rfl one_nil) (Nat.le_of_ble_eq_true rfl) rfl fun w2 H => ?_
  dsimp only [List.eraseIdx] at H
  refine s_end Z [] rfl fun Z => ?_
  refine p_blk ?_
  replace H := H.sX (OEMsg b_m ({ m with e := n0.1 } : EMsg)) (v1, v2, v3, v4, v5) [(0, false), (0, true), (1, true), (2, true), (3, false), (3, true)] rfl rfl rfl
  obtain rfl := some_in hF
  exact f_fall Z (run_results0 rfl) ⟨rfl, I1, (H.sub [(5, false), (0, false)] rfl).eq rfl⟩
 ·replace hF := ite_f hc1 hF
  refine wp_seq (f_region Z ?_); clear Z; intro Z
  refine s_runk tMs3 Z 2 rfl rfl fun a Z => ?_
  refine s_end Z [0, 1, 6, 14] rfl fun Z => ?_
  refine p_then ?_
  refine f_cond Z rfl (fun hc2 => ?_) (fun hc2 => ?_)
  ·replace hF := ite_t hc2 hF
   obtain ⟨b, hx2, hF⟩ := bnd_in hF
   refine f_region Z fun Z => ?_
   refine s_runk tMs3 Z 2 rfl rfl fun a Z => ?_
   refine hC Z H [(0, false)] rfl #[] fn_51_YMs3 rfl rfl (fun D h => have q := c_wire_Reader_Big hx2 h; q) fun vv a w3 D2 hr hF2 Z => ?_
   obtain ⟨rfl, I2, K⟩ := hr
   have H := (hF2 K).nf rfl
   refine s_runk tMs3 Z 2 rfl rfl fun a Z => ?_
   obtain ⟨⟨v6, v7, v8, v9, v10⟩, H⟩ := H.openX 1 rfl
   replace H := H.nf rfl; try dsimp only at H
   refine hT tMs3 Z H 0 rfl rfl rfl rfl rfl (one_cons rfl one_nil) (Nat.le_of_ble_eq_true rfl) rfl fun w4 H => ?_
   dsimp only [List.eraseIdx] at H
   refine s_end Z [] rfl fun Z => ?_
   refine p_blk ?_
   replace H := H.sX (OEMsg b_m ({ m with at_ := b.1 } : EMsg)) (v6, v7, v8, v9, v10) [(0, false), (0, true), (1, true), (2, true), (3, false), (3, true)] rfl rfl rfl
   obtain rfl := some_in hF
   exact f_fall Z (run_results0 rfl) ⟨rfl, I2, (H.sub [(5, false), (0, false)] rfl).eq rfl⟩
  ·replace hF := ite_f hc2 hF
   refine wp_seq (f_region Z ?_); clear Z; intro Z
   refine s_runk tMs3 Z 2 rfl rfl fun a Z => ?_
   refine s_end Z [0, 1, 6, 21] rfl fun Z => ?_
   refine p_then ?_
   refine f_cond Z rfl (fun hc3 => ?_) (fun hc3 => ?_)
   ·replace hF := ite_t hc3 hF
    obtain ⟨b_2, hx3, hF⟩ := bnd_in hF
    refine f_region Z fun Z => ?_
    refine s_runk tMs3 Z 2 rfl rfl fun a Z => ?_
    refine hC Z H [(0, false)] rfl #[] fn_51_YMs3 rfl rfl (fun D h => have q := c_wire_Reader_Big hx3 h; q) fun vv a w5 D2 hr hF2 Z => ?_
    obtain ⟨rfl, I3, K⟩ := hr
    have H := (hF2 K).nf rfl
    refine s_runk tMs3 Z 2 rfl rfl fun a Z => ?_
    obtain ⟨⟨v11, v12, v13, v14, v15⟩, H⟩ := H.openX 1 rfl
    replace H := H.nf rfl; try dsimp only at H
    refine hT tMs3 Z H 0 rfl rfl rfl rfl rfl (one_cons rfl one_nil) (Nat.le_of_ble_eq_true rfl) rfl fun w6 H => ?_
    dsimp only [List.eraseIdx] at H
    refine s_end Z [] rfl fun Z => ?_
    refine p_blk ?_
    replace H := H.sX (OEMsg b_m ({ m with last := b_2.1 } : EMsg)) (v11, v12, v13, v14, v15) [(0, false), (0, true), (1, true), (2, true), (3, false), (3, true)] rfl rfl rfl
    obtain rfl := some_in hF
    exact f_fall Z (run_results0 rfl) ⟨rfl, I3, (H.sub [(5, false), (0, false)] rfl).eq rfl⟩
   ·replace hF := ite_f hc3 hF
    refine wp_seq (f_region Z ?_); clear Z; intro Z
    refine s_runk tMs3 Z 2 rfl rfl fun a Z => ?_
    refine s_end Z [0, 1, 6, 28] rfl fun Z => ?_
    refine p_then ?_
    refine f_cond Z rfl (fun hc4 => ?_) (fun hc4 => ?_)
    ·replace hF := ite_t hc4 hF
     obtain ⟨f, hx4, hF⟩ := bnd_in hF
     refine f_region Z fun Z => ?_
     refine s_runk tMs3 Z 2 rfl rfl fun a Z => ?_
     refine hC Z H [(0, false)] rfl #[] fn_73_YMs3 rfl rfl (fun D h => have q := c_wire_Reader_Flag hx4 h; q) fun vv a w7 D2 hr hF2 Z => ?_
     obtain ⟨rfl, I4, K⟩ := hr
     have H := (hF2 K).nf rfl
     refine s_runk tMs3 Z 2 rfl rfl fun a Z => ?_
     obtain ⟨⟨v16, v17, v18, v19, v20⟩, H⟩ := H.openX 1 rfl
     replace H := H.nf rfl; try dsimp only at H
     refine hT tMs3 Z H 0 rfl rfl rfl rfl rfl (one_cons rfl one_nil) (Nat.le_of_ble_eq_true rfl) rfl fun w8 H => ?_
     dsimp only [List.eraseIdx] at H
     refine s_end Z [] rfl fun Z => ?_
     refine p_blk ?_
     replace H := H.sX (OEMsg b_m ({ m with flag := f.1 } : EMsg)) (v16, v17, v18, v19, v20) [(0, false), (0, true), (1, true), (2, true), (3, false), (3, true)] rfl rfl rfl
     obtain rfl := some_in hF
     exact f_fall Z (run_results0 rfl) ⟨rfl, I4, (H.sub [(5, false), (0, false)] rfl).eq rfl⟩
    ·replace hF := ite_f hc4 hF
     refine wp_seq (f_region Z ?_); clear Z; intro Z
     refine s_runk tMs3 Z 2 rfl rfl fun a Z => ?_
     refine s_end Z [0, 1, 6, 35] rfl fun Z => ?_
     refine p_then ?_
     refine f_cond Z rfl (fun hc5 => ?_) (fun hc5 => ?_)
     ·replace hF := ite_t hc5 hF
      obtain ⟨t, hx5, hF⟩ := bnd_in hF
      refine f_region Z fun Z => ?_
      refine s_runk tMs3 Z 2 rfl rfl fun a Z => ?_
      refine hC Z H [(0, false)] rfl #[] fn_72_YMs3 rfl rfl (fun D h => have q := c_wire_Reader_Text hx5 h; q) fun vv a w9 D2 hr hF2 Z => ?_
      obtain ⟨rfl, I5, K⟩ := hr
      have H := (hF2 K).nf rfl
      refine s_runk tMs3 Z 2 rfl rfl fun a Z => ?_
      obtain ⟨⟨v21, v22, v23, v24, v25⟩, H⟩ := H.openX 1 rfl
      replace H := H.nf rfl; try dsimp only at H
      refine hT tMs3 Z H 0 rfl rfl rfl rfl rfl (one_cons rfl one_nil) (Nat.le_of_ble_eq_true rfl) rfl fun w10 H => ?_
      dsimp only [List.eraseIdx] at H
      refine s_end Z [] rfl fun Z => ?_
      refine p_blk ?_
      replace H := H.sX (OEMsg b_m ({ m with key := t.1 } : EMsg)) (v21, v22, v23, v24, v25) [(0, false), (0, true), (1, true), (2, true), (3, false), (3, true)] rfl rfl rfl
      obtain rfl := some_in hF
      exact f_fall Z (run_results0 rfl) ⟨rfl, I5, (H.sub [(5, false), (0, false)] rfl).eq rfl⟩
     ·replace hF := ite_f hc5 hF
      refine wp_seq (f_region Z ?_); clear Z; intro Z
      refine s_runk tMs3 Z 2 rfl rfl fun a Z => ?_
      refine s_end Z [0, 1, 42] rfl fun Z => ?_
      refine p_then ?_
      refine f_cond Z rfl (fun hc6 => ?_) (fun hc6 => ?_)
      ·replace hF := ite_t hc6 hF
       obtain ⟨t_2, hx6, hF⟩ := bnd_in hF
       refine f_region Z fun Z => ?_
       refine s_runk tMs3 Z 2 rfl rfl fun a Z => ?_
       refine hC Z H [(0, false)] rfl #[] fn_72_YMs3 rfl rfl (fun D h => have q := c_wire_Reader_Text hx6 h; q) fun vv a w11 D2 hr hF2 Z => ?_
       obtain ⟨rfl, I6, K⟩ := hr
       have H := (hF2 K).nf rfl
       refine s_runk tMs3 Z 2 rfl rfl fun a Z => ?_
       obtain ⟨⟨v26, v27, v28, v29, v30⟩, H⟩ := H.openX 1 rfl
       replace H := H.nf rfl; try dsimp only at H
       refine hT tMs3 Z H 0 rfl rfl rfl rfl rfl (one_cons rfl one_nil) (Nat.le_of_ble_eq_true rfl) rfl fun w12 H => ?_
       dsimp only [List.eraseIdx] at H
       refine s_end Z [] rfl fun Z => ?_
       refine p_blk ?_
       replace H := H.sX (OEMsg b_m ({ m with to_ := t_2.1 } : EMsg)) (v26, v27, v28, v29, v30) [(0, false), (0, true), (1, true), (2, true), (3, false), (3, true)] rfl rfl rfl
       obtain rfl := some_in hF
       exact f_fall Z (run_results0 rfl) ⟨rfl, I6, (H.sub [(5, false), (0, false)] rfl).eq rfl⟩
      ·replace hF := ite_f hc6 hF
       refine wp_skip ?_
       refine p_blk ?_
       obtain rfl := some_in hF
       exact f_fall Z (run_results0 rfl) ⟨rfl, I, (H.sub [(0, false), (0, false)] rfl).eq rfl⟩

def F_mess_read_k1 (r_s : ByteArray) (r_at_ : Int) (r_e : Int) (r_made : Bool) (yb_m : EMsg) : Option (Int × Ewire_Reader × EMsg) := (F_wire_Reader_Err ({ s := r_s, at_ := r_at_, e := r_e, made := r_made } : Ewire_Reader)).bind fun e_2 => (some (e_2, ({ s := r_s, at_ := r_at_, e := r_e, made := r_made } : Ewire_Reader), yb_m))

def F_mess_read_l2 (n0_3 : Int × Ewire_Reader) (rc : (Int × ByteArray × Int × Int × Bool × EMsg) → Option (Int × Ewire_Reader × EMsg)) (sg : Int × ByteArray × Int × Int × Bool × EMsg) : Option (Int × Ewire_Reader × EMsg) := match sg with | (x, r_s_2, r_at__2, r_e_2, r_made_2, m_2) => if (decide (x < n0_3.1)) = true then ((F_wire_Reader_Big ({ s := r_s_2, at_ := r_at__2, e := r_e_2, made := r_made_2 } : Ewire_Reader)).bind fun b => (chk (((m_2.stamps.length + [b.1].length : Nat) : Int) * 8 ≤ 140737488355328) (chk (inI (x + 1)) (rc (x + 1, b.2.s, b.2.at_, b.2.e, b.2.made, ({ m_2 with stamps := m_2.stamps ++ [b.1] } : EMsg)))))) else (F_mess_read_k1 r_s_2 r_at__2 r_e_2 r_made_2 m_2)

def F_mess_read (r0 : Ewire_Reader) (m : EMsg) (c : Int) : Option (Int × Ewire_Reader × EMsg) := (F_mess_number c).bind fun n0 => (if (!n0.isNone) = true then ((F_wire_Reader_Num r0 1073741824).bind fun n0_2 => (chk (n0.isSome = true) (chk (n0.any [1, 2, 3, 7, 8, 9].contains = true) ((F_wire_Reader_Err n0_2.2).bind fun e => (some (e, n0_2.2, ({ m with epoch := cond (n0 == some 1) n0_2.1 m.epoch, req := cond (n0 == some 2) n0_2.1 m.req, serial := cond (n0 == some 3) n0_2.1 m.serial, n := cond (n0 == some 7) n0_2.1 m.n, m := cond (n0 == some 8) n0_2.1 m.m, p := cond (n0 == some 9) n0_2.1 m.p } : EMsg))))))) else (if (c == 67) = true then ((F_mess_inner_api_Conf__conf_Of r0).bind fun o => (some (o.2.1, o.2.2, ({ m with conf := o.1 } : EMsg)))) else (if (c == 66) = true then ((F_mess_inner_api_Batch__ops_Of r0).bind fun o_2 => (some (o_2.2.1, o_2.2.2, ({ m with batch := o_2.1 } : EMsg)))) else (if (c == 69) = true then ((F_mess_several r0).bind fun s0 => (if (s0.2.1 != 0) = true then (some (s0.2.1, s0.2.2, ({ m with entries := s0.1 } : EMsg))) else (F_mess_read_k1 s0.2.2.s s0.2.2.at_ s0.2.2.e s0.2.2.made ({ m with entries := s0.1 } : EMsg)))) else (if (c == 83) = true then ((F_wire_Reader_Num r0 8).bind fun n0_3 => (iter (F_mess_read_l2 n0_3) FU (0, n0_3.2.s, n0_3.2.at_, n0_3.2.e, n0_3.2.made, m))) else (if (c == 82) = true then ((F_mess_rows r0).bind fun r0_2 => (F_mess_read_k1 r0_2.2.s r0_2.2.at_ r0_2.2.e r0_2.2.made ({ m with pairs := r0_2.1 } : EMsg))) else ((F_mess_simple r0 m c).bind fun s0_2 => (F_mess_read_k1 s0_2.1.s s0_2.1.at_ s0_2.1.e s0_2.1.made s0_2.2))))))))

set_option maxHeartbeats 1000000 in
theorem c_mess_read {I D : Dm} {b_r0 : Nat} {r0 : Ewire_Reader} {b_m : Nat} {m : EMsg} {c : Int} {w : World} {rr : Int × Ewire_Reader × EMsg} (hF : F_mess_read r0 m c = some rr) (H : St I D w [BxC b_r0 85 (cEwire_Reader r0), OEMsg b_m m]) :
  Calls Try.prog 20 #[pp b_r0 0, pp b_m 0, .int .i32 c] w (Ret fun vv w' => vv = vI rr.1 ∧ ∃ I', Hf I D w I' w' [BxC b_r0 85 (cEwire_Reader rr.2.1), OEMsg b_m rr.2.2]) := by
 replace H := H.hf
 unfold F_mess_read at hF
 refine f_enter 86 Try.func20 rfl rfl (Nat.le_of_ble_eq_true rfl) fun a Z => ?_
 replace Z := Z.sub (ts := [0, 1, 2]) rfl
 refine wp_seq (f_region Z ?_); clear Z; intro Z
 refine s_runk tMs3 Z 1 rfl rfl fun a Z => ?_
 refine s_end Z [0, 1, 2] rfl fun Z => ?_
 refine p_then (wp_seq ?_)
 refine wp_seq ?_
 obtain ⟨n0, hx1, hF⟩ := bnd_in hF
 refine f_region Z fun Z => ?_
 refine s_runk tMs3 Z 2 rfl rfl fun a Z => ?_
 refine hC Z H [] rfl #[] fn_45_YMs3 rfl rfl (fun D h => have q := c_mess_number hx1 h; q) fun vv a w1 D2 hr hF2 Z => ?_
 obtain ⟨rfl, I1, K⟩ := hr
 have H := (hF2 K).nf rfl
 refine s_runk tMs3 Z 1 rfl rfl fun a Z => ?_
 refine s_end Z [0, 1, 2, 7] rfl fun Z => ?_
 refine p_then (wp_seq (f_region Z ?_)); clear Z; intro Z
 refine s_runk tMs3 Z 1 rfl rfl fun a Z => ?_
 refine sO Z (vT (!n0.isNone)) rfl (Ob_ieq rfl rfl rfl (.inr ⟨rfl, rfl⟩) Try.underlying89) fun a Z => ?_
 refine s_end Z [0, 1, 2, 7, 12] rfl fun Z => ?_
 refine p_then ?_
 refine f_cond Z rfl (fun hc1 => ?_) (fun hc1 => ?_)
 ·replace hF := ite_t hc1 hF
  refine wp_seq ?_
  obtain ⟨n0_2, hx2, hF⟩ := bnd_in hF
  obtain ⟨hg1, hF⟩ := chk_in hF
  obtain ⟨hg2, hF⟩ := chk_in hF
  refine f_region Z fun Z => ?_
  refine s_runk tMs3 Z 2 rfl rfl fun a Z => ?_
  refine hC Z H [(0, false)] rfl #[] fn_18_YMs3 rfl rfl (fun D h => have q := c_wire_Reader_Num hx2 h; q) fun vv a w2 D2 hr hF2 Z => ?_
  obtain ⟨rfl, I2, K⟩ := hr
  have H := (hF2 K).nf rfl
  refine sO Z (iptV b_m n0) rfl (Ob_inil rfl rfl hg1) fun a Z => ?_
  obtain ⟨⟨v1, v2, v3, v4, v5⟩, H⟩ := H.openX 1 rfl
  replace H := H.nf rfl; try dsimp only at H
  refine h_istore tMs3 Z H 0 (fun q_ => [vI m.k, vI (cond (q_ == some 1) n0_2.1 m.epoch), vI (cond (q_ == some 2) n0_2.1 m.req), vI (cond (q_ == some 3) n0_2.1 m.serial), vT m.flag, vU m.at_, vU m.last, vI (cond (q_ == some 7) n0_2.1 m.n), vI (cond (q_ == some 8) n0_2.1 m.m), vI (cond (q_ == some 9) n0_2.1 m.p), vI m.e, vS m.key, vS m.to_, vI m.conf.epoch, v1, vU m.conf.floor, vI m.batch.client, vI m.batch.req, v2, v3, v4, v5]) [1, 2, 3, 7, 8, 9] rfl rfl rfl rfl rfl rfl rfl rfl rfl hg2 ⟨rfl, Nat.le_of_ble_eq_true rfl, rfl, Nat.le_of_ble_eq_true rfl, rfl, Nat.le_of_ble_eq_true rfl, rfl, Nat.le_of_ble_eq_true rfl, rfl, Nat.le_of_ble_eq_true rfl, rfl, Nat.le_of_ble_eq_true rfl, trivial⟩ fun w3 H => ?_
  dsimp only [List.eraseIdx] at H
  refine s_end Z [0] rfl fun Z => ?_
  refine p_then (wp_seq ?_)
  obtain ⟨e, hx3, hF⟩ := bnd_in hF
  refine f_region Z fun Z => ?_
  refine s_runk tMs3 Z 1 rfl rfl fun a Z => ?_
  refine hC Z H [(6, false)] rfl #[] fn_19_YMs3 rfl rfl (fun D h => have q := c_wire_Reader_Err hx3 h; q) fun vv a w4 D2 hr hF2 Z => ?_
  obtain ⟨rfl, I3, K⟩ := hr
  have H := (hF2 K).nf rfl
  refine s_runk tMs3 Z 1 rfl rfl fun a Z => ?_
  refine s_end Z [6] rfl fun Z => ?_
  refine p_then (wp_ret ?_)
  refine p_then_r ?_
  replace H := H.sX (OEMsg b_m ({ m with epoch := cond (n0 == some 1) n0_2.1 m.epoch, req := cond (n0 == some 2) n0_2.1 m.req, serial := cond (n0 == some 3) n0_2.1 m.serial, n := cond (n0 == some 7) n0_2.1 m.n, m := cond (n0 == some 8) n0_2.1 m.m, p := cond (n0 == some 9) n0_2.1 m.p } : EMsg)) (v1, v2, v3, v4, v5) [(1, false), (1, true), (2, true), (3, true), (4, false), (4, true)] rfl rfl rfl
  obtain rfl := some_in hF
  exact f_ret Z (run_results1 rfl Z rfl) ⟨rfl, I3, (H.sub [(1, false), (0, false)] rfl).eq rfl⟩
 ·replace hF := ite_f hc1 hF
  refine wp_skip ?_
  refine p_then ?_
  refine f_cut (fun a' w' => ∃ (r_s : ByteArray) (r_at_ : Int) (r_e : Int) (r_made : Bool) (yb_m : EMsg), Sl 86 [(0, pp b_r0 0)] a' ∧ (∃ I2, Hf I D w I2 w' [BxC b_r0 85 [vS r_s, vI r_at_, vI r_e, vT r_made], OEMsg b_m yb_m]) ∧ F_mess_read_k1 r_s r_at_ r_e r_made yb_m = some rr) ?_ ?_
  ·rintro a w5 ⟨r_s, r_at_, r_e, r_made, yb_m, Z, ⟨I4, H⟩, hF⟩
   unfold F_mess_read_k1 at hF
   try dsimp only at hF
   refine wp_seq ?_
   obtain ⟨e_2, hx4, hF⟩ := bnd_in hF
   refine f_region Z fun Z => ?_
   refine s_runk tMs3 Z 1 rfl rfl fun a Z => ?_
   refine hC Z H [(0, false)] rfl #[] fn_19_YMs3 rfl rfl (fun D h => have q := c_wire_Reader_Err hx4 h; q) fun vv a w6 D2 hr hF2 Z => ?_
   obtain ⟨rfl, I5, K⟩ := hr
   have H := (hF2 K).nf rfl
   refine s_runk tMs3 Z 1 rfl rfl fun a Z => ?_
   refine s_end Z [6] rfl fun Z => ?_
   refine p_then (wp_ret ?_)
   obtain rfl := some_in hF
   exact f_ret Z (run_results1 rfl Z rfl) ⟨rfl, I5, (H.sub [(0, false), (0, false)] rfl).eq rfl⟩
  ·skip
   refine wp_seq (f_region Z ?_); clear Z; intro Z
   refine s_runk tMs3 Z 1 rfl rfl fun a Z => ?_
   refine s_end Z [0, 1, 2, 19] rfl fun Z => ?_
   refine p_then (wp_block ?_)
   refine wp_seq (f_region Z ?_); clear Z; intro Z
   refine s_runk tMs3 Z 2 rfl rfl fun a Z => ?_
   refine s_end Z [0, 1, 2, 19, 24] rfl fun Z => ?_
   refine p_then ?_
   refine f_cond Z rfl (fun hc2 => ?_) (fun hc2 => ?_)
   ·replace hF := ite_t hc2 hF
    refine wp_seq ?_
    obtain ⟨o, hx5, hF⟩ := bnd_in hF
    refine f_region Z fun Z => ?_
    refine s_runk tMs3 Z 2 rfl rfl fun a Z => ?_
    refine hC Z H [(0, false)] rfl #[] fn_46_YMs3 rfl rfl (fun D h => have q := c_mess_inner_api_Conf__conf_Of hx5 h; q) fun vv a w7 D2 hr hF2 Z => ?_
    obtain ⟨q1, rfl, I6, K⟩ := hr
    have H := (hF2 K).nf rfl
    refine s_runk tMs3 Z 5 rfl rfl fun a Z => ?_
    obtain ⟨⟨v6, v7, v8, v9, v10⟩, H⟩ := H.openX 2 rfl
    replace H := H.nf rfl; try dsimp only at H
    refine hT tMs3 Z H 0 rfl rfl rfl rfl rfl (one_cons rfl (one_cons (slS.one (H.slshape 7 rfl)) (one_cons rfl one_nil))) (Nat.le_of_ble_eq_true rfl) rfl fun w8 H => ?_
    dsimp only [List.eraseIdx] at H
    refine s_runk tMs3 Z 1 rfl rfl fun a Z => ?_
    refine s_end Z [6] rfl fun Z => ?_
    refine p_then (wp_seq (f_region Z ?_)); clear Z; intro Z
    refine s_runk tMs3 Z 2 rfl rfl fun a Z => ?_
    refine s_end Z [6] rfl fun Z => ?_
    refine p_then (wp_ret ?_)
    refine p_blk_r ?_
    refine p_then_r ?_
    replace H := H.sX (OEMsg b_m ({ m with conf := o.1 } : EMsg)) (q1, v7, v8, v9, v10) [(0, false), (6, true), (1, true), (2, true), (3, false), (3, true)] rfl rfl rfl
    obtain rfl := some_in hF
    exact f_ret Z (run_results1 rfl Z rfl) ⟨rfl, I6, (H.sub [(5, false), (0, false)] rfl).eq rfl⟩
   ·replace hF := ite_f hc2 hF
    refine wp_seq (f_region Z ?_); clear Z; intro Z
    refine s_runk tMs3 Z 2 rfl rfl fun a Z => ?_
    refine s_end Z [0, 1, 2, 19, 35] rfl fun Z => ?_
    refine p_then ?_
    refine f_cond Z rfl (fun hc3 => ?_) (fun hc3 => ?_)
    ·replace hF := ite_t hc3 hF
     refine wp_seq ?_
     obtain ⟨o_2, hx6, hF⟩ := bnd_in hF
     refine f_region Z fun Z => ?_
     refine s_runk tMs3 Z 2 rfl rfl fun a Z => ?_
     refine hC Z H [(0, false)] rfl #[] fn_48_YMs3 rfl rfl (fun D h => have q := c_mess_inner_api_Batch__ops_Of hx6 h; q) fun vv a w9 D2 hr hF2 Z => ?_
     obtain ⟨q2, rfl, I7, K⟩ := hr
     have H := (hF2 K).nf rfl
     refine s_runk tMs3 Z 5 rfl rfl fun a Z => ?_
     obtain ⟨⟨v11, v12, v13, v14, v15⟩, H⟩ := H.openX 2 rfl
     replace H := H.nf rfl; try dsimp only at H
     refine hT tMs3 Z H 0 rfl rfl rfl rfl rfl (onR 2 rfl (one_cons (slS.one (H.slshape 7 rfl)) one_nil)) (Nat.le_of_ble_eq_true rfl) rfl fun w10 H => ?_
     dsimp only [List.eraseIdx] at H
     refine s_runk tMs3 Z 1 rfl rfl fun a Z => ?_
     refine s_end Z [6] rfl fun Z => ?_
     refine p_then (wp_seq (f_region Z ?_)); clear Z; intro Z
     refine s_runk tMs3 Z 2 rfl rfl fun a Z => ?_
     refine s_end Z [6] rfl fun Z => ?_
     refine p_then (wp_ret ?_)
     refine p_blk_r ?_
     refine p_then_r ?_
     replace H := H.sX (OEMsg b_m ({ m with batch := o_2.1 } : EMsg)) (v11, q2, v13, v14, v15) [(0, false), (0, true), (6, true), (2, true), (3, false), (3, true)] rfl rfl rfl
     obtain rfl := some_in hF
     exact f_ret Z (run_results1 rfl Z rfl) ⟨rfl, I7, (H.sub [(5, false), (0, false)] rfl).eq rfl⟩
    ·replace hF := ite_f hc3 hF
     refine wp_seq (f_region Z ?_); clear Z; intro Z
     refine s_runk tMs3 Z 2 rfl rfl fun a Z => ?_
     refine s_end Z [0, 1, 2, 19, 46] rfl fun Z => ?_
     refine p_then ?_
     refine f_cond Z rfl (fun hc4 => ?_) (fun hc4 => ?_)
     ·replace hF := ite_t hc4 hF
      refine wp_seq ?_
      obtain ⟨s0, hx7, hF⟩ := bnd_in hF
      refine f_region Z fun Z => ?_
      refine s_runk tMs3 Z 2 rfl rfl fun a Z => ?_
      refine hC Z H [(0, false)] rfl #[] fn_50_YMs3 rfl rfl (fun D h => have q := c_mess_several hx7 h; q) fun vv a w11 D2 hr hF2 Z => ?_
      obtain ⟨q3, rfl, I8, K⟩ := hr
      have H := (hF2 K).nf rfl
      refine s_runk tMs3 Z 5 rfl rfl fun a Z => ?_
      obtain ⟨⟨v16, v17, v18, v19, v20⟩, H⟩ := H.openX 2 rfl
      replace H := H.nf rfl; try dsimp only at H
      refine hT tMs3 Z H 0 rfl rfl (slS.cells (H.slshape 7 rfl)) rfl rfl (one_cons (slS.one (H.slshape 7 rfl)) one_nil) (Nat.le_of_ble_eq_true rfl) rfl fun w12 H => ?_
      dsimp only [List.eraseIdx] at H
      refine s_runk tMs3 Z 1 rfl rfl fun a Z => ?_
      refine s_end Z [0, 6] rfl fun Z => ?_
      refine p_then (wp_seq (f_region Z ?_)); clear Z; intro Z
      refine s_runk tMs3 Z 2 rfl rfl fun a Z => ?_
      refine s_end Z [0, 6, 57] rfl fun Z => ?_
      refine p_then ?_
      refine f_cond Z rfl (fun hc5 => ?_) (fun hc5 => ?_)
      ·replace hF := ite_t hc5 hF
       refine wp_seq (f_region Z ?_); clear Z; intro Z
       refine s_runk tMs3 Z 2 rfl rfl fun a Z => ?_
       refine s_end Z [6] rfl fun Z => ?_
       refine p_then (wp_ret ?_)
       refine p_blk_r ?_
       refine p_then_r ?_
       replace H := H.sX (OEMsg b_m ({ m with entries := s0.1 } : EMsg)) (v16, v17, q3, v19, v20) [(0, false), (0, true), (1, true), (6, true), (3, false), (3, true)] rfl rfl rfl
       obtain rfl := some_in hF
       exact f_ret Z (run_results1 rfl Z rfl) ⟨rfl, I8, (H.sub [(5, false), (0, false)] rfl).eq rfl⟩
      ·replace hF := ite_f hc5 hF
       refine wp_skip ?_
       refine p_blk ?_
       refine p_then ?_
       replace H := H.sX (OEMsg b_m ({ m with entries := s0.1 } : EMsg)) (v16, v17, q3, v19, v20) [(0, false), (0, true), (1, true), (6, true), (3, false), (3, true)] rfl rfl rfl
       exact ⟨s0.2.2.s, s0.2.2.at_, s0.2.2.e, s0.2.2.made, ({ m with entries := s0.1 } : EMsg), Z.sub (ts := [0]) rfl, ⟨I8, (H.sub [(5, false), (0, false)] rfl).eq rfl⟩, hF⟩
     ·replace hF := ite_f hc4 hF
      refine wp_seq (f_region Z ?_); clear Z; intro Z
      refine s_runk tMs3 Z 2 rfl rfl fun a Z => ?_
      refine s_end Z [0, 1, 2, 19, 59] rfl fun Z => ?_
      refine p_then ?_
      refine f_cond Z rfl (fun hc6 => ?_) (fun hc6 => ?_)
      ·replace hF := ite_t hc6 hF
       refine wp_seq ?_
       obtain ⟨n0_3, hx8, hF⟩ := bnd_in hF
       refine f_region Z fun Z => ?_
       refine s_runk tMs3 Z 1 rfl rfl fun a Z => ?_
       refine hC Z H [(0, false)] rfl #[] fn_18_YMs3 rfl rfl (fun D h => have q := c_wire_Reader_Num hx8 h; q) fun vv a w13 D2 hr hF2 Z => ?_
       obtain ⟨rfl, I9, K⟩ := hr
       have H := (hF2 K).nf rfl
       refine s_runk tMs3 Z 1 rfl rfl fun a Z => ?_
       refine s_end Z [0, 1, 62, 63] rfl fun Z => ?_
       refine p_then (wp_block ?_)
       refine f_iter hF (fun sg a' w' => match sg with | (x, r_s_2, r_at__2, r_e_2, r_made_2, m_2) => Sl 86 [(0, pp b_r0 0), (1, pp b_m 0), (62, vI n0_3.1), (63, vI x)] a' ∧ ∃ I2, Hf I D w I2 w' [BxC b_r0 85 [vS r_s_2, vI r_at__2, vI r_e_2, vT r_made_2], OEMsg b_m m_2]) ⟨Z.sub (ts := [0, 1, 62, 63]) rfl, ⟨I9, (H.sub [(0, false), (0, false)] rfl).eq rfl⟩⟩ ?_
       rintro rc ⟨x, r_s_2, r_at__2, r_e_2, r_made_2, m_2⟩ a w14 ⟨Z, I10, H⟩ hF
       unfold F_mess_read_l2 at hF
       try dsimp only at hF
       refine wp_seq (f_region Z ?_); clear Z; intro Z
       refine s_runk tMs3 Z 1 rfl rfl fun a Z => ?_
       refine s_end Z [0, 1, 62, 63, 64] rfl fun Z => ?_
       refine p_then (wp_seq ?_)
       refine f_cond Z rfl (fun hc7 => ?_) (fun hc7 => ?_)
       ·replace hF := ite_t hc7 hF
        refine wp_skip ?_
        refine p_then (wp_seq ?_)
        refine wp_block ?_
        obtain ⟨⟨v21, v22, v23, v24, v25⟩, H⟩ := H.openX 1 rfl
        replace H := H.nf rfl; try dsimp only at H
        obtain ⟨b, hx9, hF⟩ := bnd_in hF
        obtain ⟨hg3, hF⟩ := chk_in hF
        refine f_regionL Z (by kernel_rfl) (by kernel_rfl) (by decide) (by decide) [6, 7, 8, 11] [(0, 0, 3), (0, 0, 2), (2, 0, 2), (6, 0, 2), (14, 0, 2), (0, 0, 0), (32, 0, 0), (96, 1, 1), (254, 2, 2), (511, 3, 3), (1023, 3, 3), (2047, 3, 3)] (by kernel_rfl) (fun jj vv => match jj with | 0 => vv = pp b_m 0 | 1 => vv = pp b_m 0 | 2 => vv = pp b_m 0 | 3 => vv = pp b_m 20 | 4 => vv = v24 | 5 => vv = pp b_r0 0 | 6 => vv = vU b.1 | 7 => vv = .slice (some ⟨blkOf vv, 0, none⟩) 1 1 | 8 => True | 9 => vv = pp b_m 0 | 10 => vv = pp b_m 20 | 11 => True | _ => True) (fun ss vals1 xw => match ss with | 0 => Gx I D w I10 w14 xw [BxC b_m 34 (cEMsg m_2 v21 v22 v23 v24 v25), SlC NEMember v21 m_2.conf.members, SlC NEOp v22 m_2.batch.ops, SlC NEEntry v23 m_2.entries, OwC Nu64 22 v24 m_2.stamps, SlC NEPair v25 m_2.pairs, BxC b_r0 85 [vS r_s_2, vI r_at__2, vI r_e_2, vT r_made_2]] | 1 => Gx I D w I10 w14 xw [BxC b_r0 85 (cEwire_Reader b.2), BxC b_m 34 (cEMsg m_2 v21 v22 v23 v24 v25), SlC NEMember v21 m_2.conf.members, SlC NEOp v22 m_2.batch.ops, SlC NEEntry v23 m_2.entries, OwC Nu64 22 v24 m_2.stamps, SlC NEPair v25 m_2.pairs] | 2 => Gx I D w I10 w14 xw [BxC (blkOf (vals1 7)) 22 [vU b.1], BxC b_r0 85 (cEwire_Reader b.2), BxC b_m 34 (cEMsg m_2 v21 v22 v23 v24 v25), SlC NEMember v21 m_2.conf.members, SlC NEOp v22 m_2.batch.ops, SlC NEEntry v23 m_2.entries, OwC Nu64 22 v24 m_2.stamps, SlC NEPair v25 m_2.pairs] | 3 => Gx I D w I10 w14 xw [OwC Nu64 22 (vals1 8) (m_2.stamps ++ [b.1]), BxC b_r0 85 (cEwire_Reader b.2), BxC b_m 34 (cEMsg m_2 v21 v22 v23 v24 v25), SlC NEMember v21 m_2.conf.members, SlC NEOp v22 m_2.batch.ops, SlC NEEntry v23 m_2.entries, SlC NEPair v25 m_2.pairs] | _ => Gx I D w I10 w14 xw [BxC b_m 34 (cEMsg m_2 v21 v22 v23 (vals1 8) v25), OwC Nu64 22 (vals1 8) (m_2.stamps ++ [b.1]), BxC b_r0 85 (cEwire_Reader b.2), SlC NEMember v21 m_2.conf.members, SlC NEOp v22 m_2.batch.ops, SlC NEEntry v23 m_2.entries, SlC NEPair v25 m_2.pairs]) (fun _ => Gx.start H) ?_ ?_
        ·intro fr hfr hfe
         refine .cons (fun ss hlo hhi vals1 xw hG hV => ?_) ?_
         ·obtain rfl | rfl | rfl | rfl : ss = 0 ∨ ss = 1 ∨ ss = 2 ∨ ss = 3 := st3 hlo hhi
          all_goals
          ·rw [← hfe]
           have hS := (hfr vals1).sub (ts := [1]) rfl
           exact L_val hS rfl (Ob_c tMs3 rfl) ⟨rfl, hG⟩
         refine .cons (fun ss hlo hhi vals1 xw hG hV => ?_) ?_
         ·obtain rfl | rfl | rfl : ss = 0 ∨ ss = 1 ∨ ss = 2 := st2 hlo hhi
          all_goals
          ·rw [← hfe]
           have hS := (hfr vals1).sub (ts := [1]) rfl
           exact L_val hS rfl (Ob_c tMs3 rfl) ⟨rfl, hG⟩
         refine .cons (fun ss hlo hhi vals1 xw hG hV => ?_) ?_
         ·obtain rfl | rfl | rfl : ss = 0 ∨ ss = 1 ∨ ss = 2 := st2 hlo hhi
          all_goals
          ·rw [← hfe]
           have hS := (hfr vals1).sub (ts := [66]) rfl
           replace hS := hS.conv (t := 66) rfl (show (vals1 1) = pp b_m 0 from hV 1 (by decide))
           exact L_val hS rfl (Ob_c tMs3 rfl) ⟨rfl, hG⟩
         refine .cons (fun ss hlo hhi vals1 xw hG hV => ?_) ?_
         ·obtain rfl | rfl | rfl : ss = 0 ∨ ss = 1 ∨ ss = 2 := st2 hlo hhi
          all_goals
          ·rw [← hfe]
           have hS := (hfr vals1).sub (ts := [67]) rfl
           replace hS := hS.conv (t := 67) rfl (show (vals1 2) = pp b_m 0 from hV 2 (by decide))
           exact L_val hS rfl (Ob_c tMs3 rfl) ⟨rfl, hG⟩
         refine .cons (fun ss hlo hhi vals1 xw hG hV => ?_) ?_
         ·obtain rfl | rfl | rfl : ss = 0 ∨ ss = 1 ∨ ss = 2 := st2 hlo hhi
          ·rw [← hfe]
           have hS := (hfr vals1).sub (ts := [68]) rfl
           replace hS := hS.conv (t := 68) rfl (show (vals1 3) = pp b_m 20 from hV 3 (by decide))
           obtain ⟨I2, hI2, H⟩ := Gx.ex hG
           exact L_val hS rfl (oL tMs3 rfl rfl (H.bc 0 20 rfl rfl)) ⟨rfl, hG⟩
          ·rw [← hfe]
           have hS := (hfr vals1).sub (ts := [68]) rfl
           replace hS := hS.conv (t := 68) rfl (show (vals1 3) = pp b_m 20 from hV 3 (by decide))
           obtain ⟨I2, hI2, H⟩ := Gx.ex hG
           exact L_val hS rfl (oL tMs3 rfl rfl (H.bc 1 20 rfl rfl)) ⟨rfl, hG⟩
          ·rw [← hfe]
           have hS := (hfr vals1).sub (ts := [68]) rfl
           replace hS := hS.conv (t := 68) rfl (show (vals1 3) = pp b_m 20 from hV 3 (by decide))
           obtain ⟨I2, hI2, H⟩ := Gx.ex hG
           exact L_val hS rfl (oL tMs3 rfl rfl (H.bc 2 20 rfl rfl)) ⟨rfl, hG⟩
         refine .cons (fun ss hlo hhi vals1 xw hG hV => ?_) ?_
         ·obtain rfl : ss = 0 := Nat.le_antisymm hhi hlo
          rw [← hfe]
          have hS := (hfr vals1).sub (ts := [0]) rfl
          exact L_val hS rfl (Ob_c tMs3 rfl) ⟨rfl, hG⟩
         refine .cons (fun ss hlo hhi vals1 xw hG hV => ?_) ?_
         ·obtain rfl : ss = 0 := Nat.le_antisymm hhi hlo
          rw [← hfe]
          have hS := (hfr vals1).sub (ts := [70]) rfl
          replace hS := hS.conv (t := 70) rfl (show (vals1 5) = pp b_r0 0 from hV 5 (by decide))
          obtain ⟨I2, hI2, H⟩ := Gx.ex hG
          refine L_hcall H (js := [(6, false)]) rfl (caps := #[]) hS fn_51_YMs3 rfl rfl rfl rfl rfl (fun D1 hS => have hq := c_wire_Reader_Big hx9 hS; hq) fun _ yw D1 hr hF2 => ?_
          obtain ⟨rfl, I3, K⟩ := hr
          obtain ⟨hK, H2⟩ := hF2 K
          exact ⟨rfl, Gx.go hG hI2 hK K.imm H2⟩
         refine .cons (fun ss hlo hhi vals1 xw hG hV => ?_) ?_
         ·obtain rfl : ss = 1 := Nat.le_antisymm hhi hlo
          rw [← hfe]
          have hS := (hfr vals1).sub (ts := [71]) rfl
          replace hS := hS.conv (t := 71) rfl (show (vals1 6) = vU b.1 from hV 6 (by decide))
          obtain ⟨I2, hI2, H⟩ := Gx.ex hG
          exact L_bslice H (vs := [(0, vU b.1)]) (cl := [vU b.1]) (e := 22) hS rfl rfl rfl (fun w => run_bslice (z := vU 0) (m := 1) Try.underlying31 (by kernel_rfl) rfl rfl (by decide) (by simp [Instr.fill, Value.cells]) w) fun yw b hK H => ⟨rfl, Gx.go hG hI2 hK (fun _ h => h) H⟩
         refine .cons (fun ss hlo hhi vals1 xw hG hV => ?_) ?_
         ·obtain rfl : ss = 2 := Nat.le_antisymm hhi hlo
          rw [← hfe]
          have hS := (hfr vals1).sub (ts := [69, 72]) rfl
          replace hS := hS.conv (t := 69) rfl (show (vals1 4) = v24 from hV 4 (by decide))
          replace hS := hS.conv (t := 72) rfl (show (vals1 7) = .slice (some ⟨blkOf (vals1 7), 0, none⟩) 1 1 from hV 7 (by decide))
          obtain ⟨I2, hI2, H⟩ := Gx.ex hG
          exact L_appO H 6 E_31_YMs3 [b.1] rfl rfl hS rfl rfl rfl rfl (slRep2.box1 (H.bx 0 rfl) ⟨rfl, trivial⟩) hg3 (by decide) fun v yw hK H => ⟨trivial, Gx.go hG hI2 hK (fun _ h => h) (H.sub [(0, false), (1, false), (1, false), (1, true), (2, true), (3, true), (4, true)] rfl)⟩
         refine .cons (fun ss hlo hhi vals1 xw hG hV => ?_) ?_
         ·obtain rfl : ss = 3 := Nat.le_antisymm hhi hlo
          rw [← hfe]
          have hS := (hfr vals1).sub (ts := [65]) rfl
          replace hS := hS.conv (t := 65) rfl (show (vals1 0) = pp b_m 0 from hV 0 (by decide))
          exact L_val hS rfl (Ob_c tMs3 rfl) ⟨rfl, hG⟩
         refine .cons (fun ss hlo hhi vals1 xw hG hV => ?_) ?_
         ·obtain rfl : ss = 3 := Nat.le_antisymm hhi hlo
          rw [← hfe]
          have hS := (hfr vals1).sub (ts := [74]) rfl
          replace hS := hS.conv (t := 74) rfl (show (vals1 9) = pp b_m 0 from hV 9 (by decide))
          exact L_val hS rfl (Ob_c tMs3 rfl) ⟨rfl, hG⟩
         refine .cons (fun ss hlo hhi vals1 xw hG hV => ?_) ?_
         ·obtain rfl : ss = 3 := Nat.le_antisymm hhi hlo
          rw [← hfe]
          have hS := (hfr vals1).sub (ts := [75, 73]) rfl
          replace hS := hS.conv (t := 75) rfl (show (vals1 10) = pp b_m 20 from hV 10 (by decide))
          obtain ⟨I2, hI2, H⟩ := Gx.ex hG
          exact L_store tMs3 H 2 rfl hS rfl rfl rfl rfl rfl (slS.cells (H.owshape 0 rfl)) rfl rfl (one_cons (slS.one (H.owshape 0 rfl)) one_nil) (Nat.le_of_ble_eq_true rfl) rfl fun yw hK H => ⟨trivial, Gx.go hG hI2 hK (fun _ h => h) H⟩
         exact .nil
        ·intro vals1 a w15 Z hG hV
         replace Z := Z.sub (ts := [0, 1, 62, 63]) (S' := [(0, pp b_r0 0), (1, pp b_m 0), (62, vI n0_3.1), (63, vI x)]) rfl
         obtain ⟨I11, _, H⟩ := Gx.ex hG
         clear hG hV
         replace Z := Z.sub (ts := [0, 1, 62, 63]) rfl
         replace H := H.nf rfl; try dsimp only at H
         refine p_blk ?_
         refine p_then ?_
         obtain ⟨hg4, hF⟩ := chk_in hF
         refine f_region Z fun Z => ?_
         refine sO Z (vI (x + 1)) rfl (Ob_add rfl rfl rfl (wrI hg4)) fun a Z => ?_
         refine s_runk tMs3 Z 1 rfl rfl fun a Z => ?_
         refine s_end Z [0, 1, 62, 63] rfl fun Z => ?_
         refine p_then ?_
         replace H := H.sX (OEMsg b_m ({ m_2 with stamps := m_2.stamps ++ [b.1] } : EMsg)) (v21, v22, v23, (vals1 8), v25) [(0, false), (2, true), (3, true), (4, true), (0, false), (4, true)] rfl rfl rfl
         exact ⟨(x + 1, b.2.s, b.2.at_, b.2.e, b.2.made, ({ m_2 with stamps := m_2.stamps ++ [b.1] } : EMsg)), ⟨Z.sub (ts := [0, 1, 62, 63]) rfl, ⟨I11, (H.sub [(1, false), (0, false)] rfl).eq rfl⟩⟩, hF⟩
       ·replace hF := ite_f hc7 hF
        refine wp_exit ?_
        refine p_then_x ?_
        refine p_then_x ?_
        refine f_exit_here ?_
        refine p_blk ?_
        refine p_then ?_
        exact ⟨r_s_2, r_at__2, r_e_2, r_made_2, m_2, Z.sub (ts := [0]) rfl, ⟨I10, (H.sub [(0, false), (0, false)] rfl).eq rfl⟩, hF⟩
      ·replace hF := ite_f hc6 hF
       refine wp_seq (f_region Z ?_); clear Z; intro Z
       refine s_runk tMs3 Z 2 rfl rfl fun a Z => ?_
       refine s_end Z [0, 1, 2, 77] rfl fun Z => ?_
       refine p_then ?_
       refine f_cond Z rfl (fun hc8 => ?_) (fun hc8 => ?_)
       ·replace hF := ite_t hc8 hF
        obtain ⟨r0_2, hx10, hF⟩ := bnd_in hF
        refine f_region Z fun Z => ?_
        refine s_runk tMs3 Z 2 rfl rfl fun a Z => ?_
        refine hC Z H [(0, false)] rfl #[] fn_52_YMs3 rfl rfl (fun D h => have q := c_mess_rows hx10 h; q) fun vv a w16 D2 hr hF2 Z => ?_
        obtain ⟨q4, hvv, I12, K⟩ := hr; obtain rfl := hvv.symm
        have H := (hF2 K).nf rfl
        refine s_runk tMs3 Z 2 rfl rfl fun a Z => ?_
        obtain ⟨⟨v26, v27, v28, v29, v30⟩, H⟩ := H.openX 2 rfl
        replace H := H.nf rfl; try dsimp only at H
        refine hT tMs3 Z H 0 rfl rfl (slS.cells (H.slshape 7 rfl)) rfl rfl (one_cons (slS.one (H.slshape 7 rfl)) one_nil) (Nat.le_of_ble_eq_true rfl) rfl fun w17 H => ?_
        dsimp only [List.eraseIdx] at H
        refine s_end Z [0] rfl fun Z => ?_
        refine p_blk ?_
        refine p_then ?_
        replace H := H.sX (OEMsg b_m ({ m with pairs := r0_2.1 } : EMsg)) (v26, v27, v28, v29, q4) [(0, false), (0, true), (1, true), (2, true), (3, false), (5, true)] rfl rfl rfl
        exact ⟨r0_2.2.s, r0_2.2.at_, r0_2.2.e, r0_2.2.made, ({ m with pairs := r0_2.1 } : EMsg), Z.sub (ts := [0]) rfl, ⟨I12, (H.sub [(5, false), (0, false)] rfl).eq rfl⟩, hF⟩
       ·replace hF := ite_f hc8 hF
        obtain ⟨s0_2, hx11, hF⟩ := bnd_in hF
        refine f_region Z fun Z => ?_
        refine s_runk tMs3 Z 3 rfl rfl fun a Z => ?_
        refine hC Z H [(0, false), (0, false)] rfl #[] fn_53_YMs3 rfl rfl (fun D h => have q := c_mess_simple hx11 h; q) fun vv a w18 D2 hr hF2 Z => ?_
        obtain ⟨rfl, I13, K⟩ := hr
        have H := (hF2 K).nf rfl
        refine s_end Z [0] rfl fun Z => ?_
        refine p_blk ?_
        refine p_then ?_
        exact ⟨s0_2.1.s, s0_2.1.at_, s0_2.1.e, s0_2.1.made, s0_2.2, Z.sub (ts := [0]) rfl, ⟨I13, (H.sub [(0, false), (0, false)] rfl).eq rfl⟩, hF⟩

def F_mess_Of_l1 (p : ByteArray × Bool) (rc : (ByteArray × Int × Int × Bool × EMsg × Nat) → Option (EMsg × Int)) (sg : ByteArray × Int × Int × Bool × EMsg × Nat) : Option (EMsg × Int) := match sg with | (r_s, r_at_, r_e, r_made, m, yb3) => if (decide (yb3 < p.1.size)) = true then (chk (yb3 < p.1.size) ((F_mess_read ({ s := r_s, at_ := r_at_, e := r_e, made := r_made } : Ewire_Reader) m (runeAt p.1 yb3)).bind fun r0 => (if (r0.1 != 0) = true then (some ((default : EMsg), r0.1)) else (rc (r0.2.1.s, r0.2.1.at_, r0.2.1.e, r0.2.1.made, r0.2.2, nxP p.1 yb3))))) else ((F_wire_Reader_End ({ s := r_s, at_ := r_at_, e := r_e, made := r_made } : Ewire_Reader)).bind fun e_2 => ((F_mess_or__mess_Of_1 e_2 m).bind fun x0 => (if (x0 != 0) = true then (some ((default : EMsg), x0)) else (some (m, 0)))))

def F_mess_Of (s0 : ByteArray) : Option (EMsg × Int) := (F_wire_Open s0).bind fun o => ((F_wire_Reader_Num o 15).bind fun n0 => ((F_wire_Reader_Err n0.2).bind fun e => (if (e != 0) = true then (some ((default : EMsg), e)) else ((F_mess_parts n0.1).bind fun p => (if (!p.2) = true then (some ((default : EMsg), 11)) else (iter (F_mess_Of_l1 p) FU (n0.2.s, n0.2.at_, n0.2.e, n0.2.made, ({ (default : EMsg) with k := n0.1 } : EMsg), 0)))))))

set_option maxHeartbeats 1000000 in
theorem c_mess_Of {I D : Dm} {s0 : ByteArray} {w : World} {rr : EMsg × Int} (hF : F_mess_Of s0 = some rr) (H : St I D w []) :
  Calls Try.prog 7 #[vS s0] w (Ret fun vv w' => ∃ q1 q2 q3 q4 q5 : Value, vv = .tuple #[.agg (cEMsg rr.1 q1 q2 q3 q4 q5).toArray, vI rr.2] ∧ ∃ I', Hf I D w I' w' [SlC NEMember q1 rr.1.conf.members, SlC NEOp q2 rr.1.batch.ops, SlC NEEntry q3 rr.1.entries, SlC Nu64 q4 rr.1.stamps, SlC NEPair q5 rr.1.pairs]) := by
 replace H := H.hf
 unfold F_mess_Of at hF
 refine f_enter 54 Try.func7 rfl rfl (Nat.le_of_ble_eq_true rfl) fun a Z => ?_
 replace Z := Z.sub (ts := [0]) rfl
 refine wp_seq (f_region Z ?_); clear Z; intro Z
 refine hA Z H [vI 0, vI 0, vI 0, vI 0, vT false, vU 0, vU 0, vI 0, vI 0, vI 0, vI 0, vS ByteArray.empty, vS ByteArray.empty, vI 0, nS, vU 0, vI 0, vI 0, nS, nS, nS, nS] rfl rfl (by kernel_rfl) fun a w1 b1 H Z => ?_
 refine s_runk tMs3 Z 1 rfl rfl fun a Z => ?_
 refine s_end Z [0, 2] rfl fun Z => ?_
 refine p_then (wp_seq ?_)
 obtain ⟨o, hx1, hF⟩ := bnd_in hF
 refine f_region Z fun Z => ?_
 refine s_runk tMs3 Z 1 rfl rfl fun a Z => ?_
 refine hC Z H [] rfl #[] fn_17_YMs3 rfl rfl (fun D h => have q := c_wire_Open hx1 h; q) fun vv a w2 D2 hr hF2 Z => ?_
 obtain ⟨g1, rfl, I1, K⟩ := hr
 have H := (hF2 K).nf rfl
 refine s_runk tMs3 Z 1 rfl rfl fun a Z => ?_
 refine s_end Z [2, 4] rfl fun Z => ?_
 refine p_then (wp_seq ?_)
 obtain ⟨n0, hx2, hF⟩ := bnd_in hF
 refine f_region Z fun Z => ?_
 refine s_runk tMs3 Z 1 rfl rfl fun a Z => ?_
 refine hC Z H [(0, false)] rfl #[] fn_18_YMs3 rfl rfl (fun D h => have q := c_wire_Reader_Num hx2 h; q) fun vv a w3 D2 hr hF2 Z => ?_
 obtain ⟨rfl, I2, K⟩ := hr
 have H := (hF2 K).nf rfl
 refine sO Z (.agg #[vI n0.1, vI 0, vI 0, vI 0, vT false, vU 0, vU 0, vI 0, vI 0, vI 0, vI 0, vS ByteArray.empty, vS ByteArray.empty, vI 0, nS, vU 0, vI 0, vI 0, nS, nS, nS, nS]) rfl (Ob_build (vs := [(0, vI n0.1)]) rfl rfl (by go_simp <;> rfl)) fun a Z => ?_
 refine hA Z H [vI 0, vI 0, vI 0, vI 0, vT false, vU 0, vU 0, vI 0, vI 0, vI 0, vI 0, vS ByteArray.empty, vS ByteArray.empty, vI 0, nS, vU 0, vI 0, vI 0, nS, nS, nS, nS] rfl rfl (by kernel_rfl) fun a w4 b2 H Z => ?_
 refine hT tMs3 Z H 0 rfl rfl rfl rfl rfl (onR 14 rfl (one_cons (slS.one slS.nil) (onR 3 rfl (one_cons (slS.one slS.nil) (one_cons (slS.one slS.nil) (one_cons (slS.one slS.nil) (one_cons (slS.one slS.nil) one_nil))))))) (Nat.le_of_ble_eq_true rfl) (putCells_all rfl) fun w5 H => ?_
 dsimp only [List.eraseIdx] at H
 refine s_end Z [2, 4, 5] rfl fun Z => ?_
 refine p_then (wp_seq ?_)
 refine wp_seq ?_
 obtain ⟨e, hx3, hF⟩ := bnd_in hF
 refine f_region Z fun Z => ?_
 refine s_runk tMs3 Z 1 rfl rfl fun a Z => ?_
 refine hC Z H [(1, false)] rfl #[] fn_19_YMs3 rfl rfl (fun D h => have q := c_wire_Reader_Err hx3 h; q) fun vv a w6 D2 hr hF2 Z => ?_
 obtain ⟨rfl, I3, K⟩ := hr
 have H := (hF2 K).nf rfl
 refine s_runk tMs3 Z 1 rfl rfl fun a Z => ?_
 refine s_end Z [2, 4, 5, 6] rfl fun Z => ?_
 refine p_then (wp_seq (f_region Z ?_)); clear Z; intro Z
 refine s_runk tMs3 Z 2 rfl rfl fun a Z => ?_
 refine s_end Z [2, 4, 5, 6, 21] rfl fun Z => ?_
 refine p_then ?_
 refine f_cond Z rfl (fun hc1 => ?_) (fun hc1 => ?_)
 ·replace hF := ite_t hc1 hF
  refine wp_seq (f_region Z ?_); clear Z; intro Z
  refine sO Z (.agg #[vI 0, vI 0, vI 0, vI 0, vT false, vU 0, vU 0, vI 0, vI 0, vI 0, vI 0, vS ByteArray.empty, vS ByteArray.empty, vI 0, nS, vU 0, vI 0, vI 0, nS, nS, nS, nS]) rfl (Ob_build (vs := []) rfl rfl (by go_simp <;> rfl)) fun a Z => ?_
  refine s_runk tMs3 Z 1 rfl rfl fun a Z => ?_
  refine hT tMs3 Z H 2 rfl rfl rfl rfl rfl (onR 14 rfl (one_cons (slS.one slS.nil) (onR 3 rfl (one_cons (slS.one slS.nil) (one_cons (slS.one slS.nil) (one_cons (slS.one slS.nil) (one_cons (slS.one slS.nil) one_nil))))))) (Nat.le_of_ble_eq_true rfl) (putCells_all rfl) fun w7 H => ?_
  dsimp only [List.eraseIdx] at H
  refine s_runk tMs3 Z 1 rfl rfl fun a Z => ?_
  refine s_end Z [2, 3] rfl fun Z => ?_
  refine p_then (wp_ret ?_)
  refine p_then_r ?_
  replace H := H.slNil NEMember
  replace H := H.slNil NEOp
  replace H := H.slNil NEEntry
  replace H := H.slNil Nu64
  replace H := H.slNil NEPair
  obtain rfl := some_in hF
  exact f_ret Z (run_resultsCT rfl Z rfl (run_loadVar_agg tMs3 rfl (H.bx 5 rfl).at) rfl) ⟨nS, nS, nS, nS, nS, rfl, I3, (H.sub [(4, true), (3, true), (2, true), (1, true), (0, true)] rfl).eq rfl⟩
 ·replace hF := ite_f hc1 hF
  refine wp_skip ?_
  refine p_then (wp_seq ?_)
  obtain ⟨p, hx4, hF⟩ := bnd_in hF
  refine f_region Z fun Z => ?_
  refine s_runk tMs3 Z 1 rfl rfl fun a Z => ?_
  refine sO Z _ rfl (oL tMs3 rfl rfl (H.bc 1 0 rfl rfl)) fun a Z => ?_
  refine hC Z H [] rfl #[] fn_12_YMs3 rfl rfl (fun D h => have q := c_mess_parts hx4 h; q) fun vv a w8 D2 hr hF2 Z => ?_
  obtain ⟨rfl, I4, K⟩ := hr
  have H := (hF2 K).nf rfl
  refine s_runk tMs3 Z 5 rfl rfl fun a Z => ?_
  refine s_end Z [2, 4, 5, 7, 8] rfl fun Z => ?_
  refine p_then (wp_seq ?_)
  refine wp_seq (f_region Z ?_); clear Z; intro Z
  refine s_runk tMs3 Z 2 rfl rfl fun a Z => ?_
  refine s_end Z [2, 4, 5, 7, 31] rfl fun Z => ?_
  refine p_then ?_
  refine f_cond Z rfl (fun hc2 => ?_) (fun hc2 => ?_)
  ·replace hF := ite_t hc2 hF
   refine wp_seq (f_region Z ?_); clear Z; intro Z
   refine sO Z (.agg #[vI 0, vI 0, vI 0, vI 0, vT false, vU 0, vU 0, vI 0, vI 0, vI 0, vI 0, vS ByteArray.empty, vS ByteArray.empty, vI 0, nS, vU 0, vI 0, vI 0, nS, nS, nS, nS]) rfl (Ob_build (vs := []) rfl rfl (by go_simp <;> rfl)) fun a Z => ?_
   refine hT tMs3 Z H 2 rfl rfl rfl rfl rfl (onR 14 rfl (one_cons (slS.one slS.nil) (onR 3 rfl (one_cons (slS.one slS.nil) (one_cons (slS.one slS.nil) (one_cons (slS.one slS.nil) (one_cons (slS.one slS.nil) one_nil))))))) (Nat.le_of_ble_eq_true rfl) (putCells_all rfl) fun w9 H => ?_
   dsimp only [List.eraseIdx] at H
   refine s_runk tMs3 Z 1 rfl rfl fun a Z => ?_
   refine s_end Z [2, 3] rfl fun Z => ?_
   refine p_then (wp_ret ?_)
   refine p_then_r ?_
   replace H := H.slNil NEMember
   replace H := H.slNil NEOp
   replace H := H.slNil NEEntry
   replace H := H.slNil Nu64
   replace H := H.slNil NEPair
   obtain rfl := some_in hF
   exact f_ret Z (run_resultsCT rfl Z rfl (run_loadVar_agg tMs3 rfl (H.bx 5 rfl).at) rfl) ⟨nS, nS, nS, nS, nS, rfl, I4, (H.sub [(4, true), (3, true), (2, true), (1, true), (0, true)] rfl).eq rfl⟩
  ·replace hF := ite_f hc2 hF
   refine wp_skip ?_
   refine p_then (wp_seq ?_)
   refine wp_seq (f_region Z ?_); clear Z; intro Z
   refine s_runk tMs3 Z 1 rfl rfl fun a Z => ?_
   refine h_srange Z H rfl rfl Try.underlying9 rfl rfl (by decide) rfl fun a w10 b3 H Z => ?_
   refine s_end Z [2, 4, 5, 34] rfl fun Z => ?_
   refine p_then (wp_block ?_)
   replace H := H.slNil NEMember
   replace H := H.slNil NEOp
   replace H := H.slNil NEEntry
   replace H := H.nilow Nu64 22
   replace H := H.slNil NEPair
   replace H := H.sX (OEMsg b2 ({ (default : EMsg) with k := n0.1 } : EMsg)) (nS, nS, nS, nS, nS) [(7, false), (4, true), (3, true), (2, true), (1, false), (0, true)] rfl rfl rfl
   refine f_iter hF (fun sg a' w' => match sg with | (r_s, r_at_, r_e, r_made, m, yb3) => Sl 54 [(2, pp b1 0), (4, pp g1 0), (5, pp b2 0), (34, pp b3 0)] a' ∧ ∃ I2, Hf I D w I2 w' [BxC b1 34 [vI 0, vI 0, vI 0, vI 0, vT false, vU 0, vU 0, vI 0, vI 0, vI 0, vI 0, vS ByteArray.empty, vS ByteArray.empty, vI 0, nS, vU 0, vI 0, vI 0, nS, nS, nS, nS], BxC g1 85 [vS r_s, vI r_at_, vI r_e, vT r_made], OEMsg b2 m, ObC b3 (.stringIter p.1 yb3)]) ⟨Z.sub (ts := [2, 4, 5, 34]) rfl, ⟨I4, (H.sub [(7, false), (6, false), (0, false), (4, false)] rfl).eq rfl⟩⟩ ?_
   rintro rc ⟨r_s, r_at_, r_e, r_made, m, yb3⟩ a w11 ⟨Z, I5, H⟩ hF
   unfold F_mess_Of_l1 at hF
   try dsimp only at hF
   refine wp_seq (f_region Z ?_); clear Z; intro Z
   refine h_snext Z H 3 rfl rfl rfl rfl rfl (by decide) rfl fun a w12 H Z => ?_
   dsimp only [List.eraseIdx] at H
   refine sO Z (vT (decide (yb3 < p.1.size))) rfl (Ob_nx0 rfl rfl) fun a Z => ?_
   refine s_end Z [2, 4, 5, 34, 35, 36] rfl fun Z => ?_
   refine p_then (wp_seq ?_)
   refine f_cond Z rfl (fun hc3 => ?_) (fun hc3 => ?_)
   ·replace hF := ite_t hc3 hF
    refine wp_skip ?_
    refine p_then (wp_block ?_)
    refine wp_seq ?_
    obtain ⟨hg1, hF⟩ := chk_in hF
    refine f_region Z fun Z => ?_
    refine sO Z (.int .i32 (runeAt p.1 yb3)) rfl (Ob_nx2 rfl rfl hg1) fun a Z => ?_
    refine s_runk tMs3 Z 1 rfl rfl fun a Z => ?_
    refine s_end Z [2, 4, 5, 34, 10] rfl fun Z => ?_
    refine p_then (wp_seq ?_)
    obtain ⟨r0, hx5, hF⟩ := bnd_in hF
    refine f_region Z fun Z => ?_
    refine s_runk tMs3 Z 2 rfl rfl fun a Z => ?_
    refine hC Z H [(2, false), (2, false)] rfl #[] fn_20_YMs3 rfl rfl (fun D h => have q := c_mess_read hx5 h; q) fun vv a w13 D2 hr hF2 Z => ?_
    obtain ⟨rfl, I6, K⟩ := hr
    have H := (hF2 K).nf rfl
    refine s_runk tMs3 Z 1 rfl rfl fun a Z => ?_
    refine s_end Z [2, 4, 5, 34, 11] rfl fun Z => ?_
    refine p_then (wp_seq (f_region Z ?_)); clear Z; intro Z
    refine s_runk tMs3 Z 2 rfl rfl fun a Z => ?_
    refine s_end Z [2, 4, 5, 34, 11, 42] rfl fun Z => ?_
    refine p_then ?_
    refine f_cond Z rfl (fun hc4 => ?_) (fun hc4 => ?_)
    ·replace hF := ite_t hc4 hF
     refine wp_seq (f_region Z ?_); clear Z; intro Z
     refine sO Z (.agg #[vI 0, vI 0, vI 0, vI 0, vT false, vU 0, vU 0, vI 0, vI 0, vI 0, vI 0, vS ByteArray.empty, vS ByteArray.empty, vI 0, nS, vU 0, vI 0, vI 0, nS, nS, nS, nS]) rfl (Ob_build (vs := []) rfl rfl (by go_simp <;> rfl)) fun a Z => ?_
     refine s_runk tMs3 Z 1 rfl rfl fun a Z => ?_
     refine hT tMs3 Z H 3 rfl rfl rfl rfl rfl (onR 14 rfl (one_cons (slS.one slS.nil) (onR 3 rfl (one_cons (slS.one slS.nil) (one_cons (slS.one slS.nil) (one_cons (slS.one slS.nil) (one_cons (slS.one slS.nil) one_nil))))))) (Nat.le_of_ble_eq_true rfl) (putCells_all rfl) fun w14 H => ?_
     dsimp only [List.eraseIdx] at H
     refine s_runk tMs3 Z 1 rfl rfl fun a Z => ?_
     refine s_end Z [2, 3] rfl fun Z => ?_
     refine p_then (wp_ret ?_)
     refine p_blk_r ?_
     refine p_then_r ?_
     refine p_blk_r ?_
     refine p_then_r ?_
     replace H := H.slNil NEMember
     replace H := H.slNil NEOp
     replace H := H.slNil NEEntry
     replace H := H.slNil Nu64
     replace H := H.slNil NEPair
     obtain rfl := some_in hF
     exact f_ret Z (run_resultsCT rfl Z rfl (run_loadVar_agg tMs3 rfl (H.bx 5 rfl).at) rfl) ⟨nS, nS, nS, nS, nS, rfl, I6, (H.sub [(4, true), (3, true), (2, true), (1, true), (0, true)] rfl).eq rfl⟩
    ·replace hF := ite_f hc4 hF
     refine wp_skip ?_
     refine p_blk ?_
     refine p_then ?_
     exact ⟨(r0.2.1.s, r0.2.1.at_, r0.2.1.e, r0.2.1.made, r0.2.2, nxP p.1 yb3), ⟨Z.sub (ts := [2, 4, 5, 34]) rfl, ⟨I6, (H.sub [(3, false), (0, false), (0, false), (0, false)] rfl).eq rfl⟩⟩, hF⟩
   ·replace hF := ite_f hc3 hF
    refine wp_exit ?_
    refine p_then_x ?_
    refine p_then_x ?_
    refine f_exit_here ?_
    refine p_then (wp_seq ?_)
    refine wp_seq ?_
    obtain ⟨e_2, hx6, hF⟩ := bnd_in hF
    obtain ⟨x0, hx7, hF⟩ := bnd_in hF
    refine f_region Z fun Z => ?_
    refine s_runk tMs3 Z 1 rfl rfl fun a Z => ?_
    refine hC Z H [(2, false)] rfl #[] fn_22_YMs3 rfl rfl (fun D h => have q := c_wire_Reader_End hx6 h; q) fun vv a w15 D2 hr hF2 Z => ?_
    obtain ⟨rfl, I7, K⟩ := hr
    have H := (hF2 K).nf rfl
    refine s_runk tMs3 Z 1 rfl rfl fun a Z => ?_
    obtain ⟨⟨v1, v2, v3, v4, v5⟩, H⟩ := H.openX 3 rfl
    replace H := H.nf rfl; try dsimp only at H
    obtain ⟨I8, _, H⟩ := H.frzow 4 rfl
    replace H := H.nf rfl; try dsimp only at H
    refine hC Z H [(1, false), (1, true), (2, true), (3, true), (0, true), (4, true)] rfl #[] fn_21_YMs3 rfl rfl (fun D h => have q := c_mess_or__mess_Of_1 hx7 h; q) fun vv a w16 D2 hr hF2 Z => ?_
    obtain ⟨rfl, I9, K⟩ := hr
    have H := (hF2 K).nf rfl
    refine s_runk tMs3 Z 1 rfl rfl fun a Z => ?_
    refine s_end Z [2, 5, 12] rfl fun Z => ?_
    refine p_then (wp_seq (f_region Z ?_)); clear Z; intro Z
    refine s_runk tMs3 Z 2 rfl rfl fun a Z => ?_
    refine s_end Z [2, 5, 12, 50] rfl fun Z => ?_
    refine p_then ?_
    refine f_cond Z rfl (fun hc5 => ?_) (fun hc5 => ?_)
    ·replace hF := ite_t hc5 hF
     refine wp_seq (f_region Z ?_); clear Z; intro Z
     refine sO Z (.agg #[vI 0, vI 0, vI 0, vI 0, vT false, vU 0, vU 0, vI 0, vI 0, vI 0, vI 0, vS ByteArray.empty, vS ByteArray.empty, vI 0, nS, vU 0, vI 0, vI 0, nS, nS, nS, nS]) rfl (Ob_build (vs := []) rfl rfl (by go_simp <;> rfl)) fun a Z => ?_
     refine s_runk tMs3 Z 1 rfl rfl fun a Z => ?_
     refine hT tMs3 Z H 8 rfl rfl rfl rfl rfl (onR 14 rfl (one_cons (slS.one slS.nil) (onR 3 rfl (one_cons (slS.one slS.nil) (one_cons (slS.one slS.nil) (one_cons (slS.one slS.nil) (one_cons (slS.one slS.nil) one_nil))))))) (Nat.le_of_ble_eq_true rfl) (putCells_all rfl) fun w17 H => ?_
     dsimp only [List.eraseIdx] at H
     refine s_runk tMs3 Z 1 rfl rfl fun a Z => ?_
     refine s_end Z [2, 3] rfl fun Z => ?_
     refine p_then (wp_ret ?_)
     refine p_then_r ?_
     replace H := H.slNil NEMember
     replace H := H.slNil NEOp
     replace H := H.slNil NEEntry
     replace H := H.slNil Nu64
     replace H := H.slNil NEPair
     obtain rfl := some_in hF
     exact f_ret Z (run_resultsCT rfl Z rfl (run_loadVar_agg tMs3 rfl (H.bx 5 rfl).at) rfl) ⟨nS, nS, nS, nS, nS, rfl, I9, (H.sub [(4, true), (3, true), (2, true), (1, true), (0, true)] rfl).eq rfl⟩
    ·replace hF := ite_f hc5 hF
     refine wp_skip ?_
     refine p_then (wp_seq (f_region Z ?_)); clear Z; intro Z
     refine sO Z (.agg (cEMsg m v1 v2 v3 v4 v5).toArray) rfl (oA tMs3 rfl rfl ((H.bx 0 rfl).part 0 rfl)) fun a Z => ?_
     refine hT tMs3 Z H 8 rfl rfl rfl rfl rfl (onR 14 rfl (one_cons (slS.one (H.slshape 2 rfl)) (onR 3 rfl (one_cons (slS.one (H.slshape 3 rfl)) (one_cons (slS.one (H.slshape 4 rfl)) (one_cons (slS.one (H.slshape 1 rfl)) (one_cons (slS.one (H.slshape 5 rfl)) one_nil))))))) (Nat.le_of_ble_eq_true rfl) (putCells_all rfl) fun w18 H => ?_
     dsimp only [List.eraseIdx] at H
     refine s_runk tMs3 Z 1 rfl rfl fun a Z => ?_
     refine s_end Z [2, 3] rfl fun Z => ?_
     refine p_then (wp_ret ?_)
     obtain rfl := some_in hF
     exact f_ret Z (run_resultsCT rfl Z rfl (run_loadVar_agg tMs3 rfl (H.bx 0 rfl).at) rfl) ⟨v1, v2, v3, v4, v5, rfl, I9, (H.sub [(3, true), (4, true), (5, true), (2, true), (6, true)] rfl).eq rfl⟩

end Go.Proofs.Ythmjkcdpbbcdgaa
