/- What a replica knows: the document's log. -/
import Derived.Test.YtglfajjcgbfehaaGreatYRg
namespace Go.Proofs.YtglfajjcgbfehaaGreat
open Go.RowKit
def OEref30_State (b : Nat) (x : Eref30_State) : Ch := ExC fun (p : Value × Value) => [BxC b 36 (cEref30_State x p.1 p.2), SlC NEMember p.1 x.conf.members, SlC NEEntry p.2 x.log.l]

def tRhL : TabL := ⟨[(34816, 0), (43008, 0), (43009, 1), (43010, 2), (45056, 0), (45057, 3), (59392, 0)], [], [], [(32, (44, 4)), (40, (58, 3))], [(3, (1, false)), (9, (1, false)), (29, (1, false)), (32, (1, false)), (40, (1, false)), (44, (4, true)), (58, (3, true))]⟩

def tRh : Tab Tryz.prog := ⟨tRhL, by kernel_rfl⟩

theorem fn_35_YRh : IsFn Tryz.prog 35 := ⟨_, Tryz.func35, by kernel_rfl, by kernel_rfl⟩

theorem fn_69_YRh : IsFn Tryz.prog 69 := ⟨_, Tryz.func69, by kernel_rfl, by kernel_rfl⟩

theorem fn_71_YRh : IsFn Tryz.prog 71 := ⟨_, Tryz.func71, by kernel_rfl, by kernel_rfl⟩

theorem fn_72_YRh : IsFn Tryz.prog 72 := ⟨_, Tryz.func72, by kernel_rfl, by kernel_rfl⟩

theorem fn_73_YRh : IsFn Tryz.prog 73 := ⟨_, Tryz.func73, by kernel_rfl, by kernel_rfl⟩

theorem fn_74_YRh : IsFn Tryz.prog 74 := ⟨_, Tryz.func74, by kernel_rfl, by kernel_rfl⟩

theorem E_32_YRh : Elem Tryz.prog 32 44 4 48 := ⟨Tryz.underlying32, by
 have h : (Tryz.prog.info? 44).map (fun i => (i.zero, i.size, i.bytes)) = some (some (.agg #[.int .i64 0, .int .i64 0, .slice none 0 0, .int .u64 0]), 4, 48) := by kernel_rfl
 obtain ⟨i, hi, h1⟩ := Option.map_eq_some_iff.1 h
 simp only [Prod.mk.injEq] at h1
 exact ⟨i, _, hi, h1.1, h1.2.1, h1.2.2, by rfl⟩, by decide⟩

theorem E_40_YRh : Elem Tryz.prog 40 58 3 40 := ⟨Tryz.underlying40, by
 have h : (Tryz.prog.info? 58).map (fun i => (i.zero, i.size, i.bytes)) = some (some (.agg #[.string ByteArray.empty, .string ByteArray.empty, .bool false]), 3, 40) := by kernel_rfl
 obtain ⟨i, hi, h1⟩ := Option.map_eq_some_iff.1 h
 simp only [Prod.mk.injEq] at h1
 exact ⟨i, _, hi, h1.1, h1.2.1, h1.2.2, by rfl⟩, by decide⟩

def F_ref17_Copy_l1 (l : List EEntry) (rc : ((List EEntry) × Int) → Option (List EEntry)) (sg : (List EEntry) × Int) : Option (List EEntry) := match sg with | (out, i) => if (decide (i < (l.length : Int))) = true then (chk ((0 : Int) ≤ i ∧ i < (l.length : Int)) (chk ((0 : Int) ≤ i ∧ i < (l.length : Int)) (chk (((([] : List EOp).length + (((l.getD (i).toNat default).batch).ops).length : Nat) : Int) * 40 ≤ 140737488355328) (chk (((out.length + [({ (l.getD (i).toNat default) with batch := ({ client := ((l.getD (i).toNat default).batch).client, req := ((l.getD (i).toNat default).batch).req, ops := [] ++ (((l.getD (i).toNat default).batch).ops) } : EBatch) } : EEntry)].length : Nat) : Int) * 48 ≤ 140737488355328) (chk (inI (i + 1)) (rc (out ++ [({ (l.getD (i).toNat default) with batch := ({ client := ((l.getD (i).toNat default).batch).client, req := ((l.getD (i).toNat default).batch).req, ops := [] ++ (((l.getD (i).toNat default).batch).ops) } : EBatch) } : EEntry)], i + 1))))))) else (some out)

def F_ref17_Copy (l : List EEntry) : Option (List EEntry) := iter (F_ref17_Copy_l1 l) FU (([] : List EEntry), 0)

set_option maxHeartbeats 1000000 in
theorem c_ref17_Copy {I D : Dm} {l : List EEntry} {v1_l : Value} {w : World} {rr : List EEntry} (hF : F_ref17_Copy l = some rr) (H : St I D w [SlC NEEntry v1_l l]) :
  Calls Tryz.prog 72 #[v1_l] w (Ret fun vv w' => ∃ q1 : Value, vv = q1 ∧ ∃ I', Hf I D w I' w' [OwC NEEntry 44 q1 rr]) := by
 replace H := H.hf
 unfold F_ref17_Copy at hF
 refine f_enter 31 Tryz.func72 rfl rfl (Nat.le_of_ble_eq_true rfl) fun a Z => ?_
 replace Z := Z.sub (ts := [0]) rfl
 refine sR Z fun Z => ?_
 refine s_runk tRh Z 1 rfl rfl fun a Z => ?_
 refine s_end Z [0] rfl fun Z => ?_
 refine pR Z fun Z => ?_
 refine s_runk tRh Z 1 rfl rfl fun a Z => ?_
 refine s_end Z [0, 3] rfl fun Z => ?_
 refine p_then (wp_seq ?_)
 refine sR Z fun Z => ?_
 refine s_runk tRh Z 1 rfl rfl fun a Z => ?_
 refine s_end Z [0, 3, 4] rfl fun Z => ?_
 refine p_then (wp_block ?_)
 replace H := H.nilow NEEntry 44
 refine f_iter hF (fun sg a' w' => match sg with | (out, i) => ∃ v2 : Value, Sl 31 [(0, v1_l), (3, v2), (4, vI i)] a' ∧ ∃ I2, Hf I D w I2 w' [SlC NEEntry v1_l l, OwC NEEntry 44 v2 out]) ⟨nS, Z.sub (ts := [0, 3, 4]) rfl, ⟨I, (H.sub [(1, true), (0, false)] rfl).eq rfl⟩⟩ ?_
 rintro rc ⟨out, i⟩ a w1 ⟨v2, Z, I1, H⟩ hF
 unfold F_ref17_Copy_l1 at hF
 try dsimp only at hF
 refine wp_seq ?_
 refine sR Z fun Z => ?_
 refine s_runk tRh Z 2 rfl rfl fun a Z => ?_
 refine sO Z (vI (ln l)) rfl (Ob_slen tRh rfl rfl rfl (H.slshape 0 rfl)) fun a Z => ?_
 refine s_runk tRh Z 1 rfl rfl fun a Z => ?_
 refine s_end Z [0, 3, 4, 9] rfl fun Z => ?_
 refine p_then ?_
 refine f_cond Z rfl (fun hc1 => ?_) (fun hc1 => ?_)
 ·replace hF := ite_t hc1 hF
  refine wp_skip ?_
  refine p_then (wp_seq ?_)
  refine wp_block ?_
  refine wp_seq ?_
  obtain ⟨hg1, hF⟩ := chk_in hF
  refine f_region Z fun Z => ?_
  refine s_runk tRh Z 2 rfl rfl fun a Z => ?_
  refine sO Z (.pointer (some ⟨blkOf v1_l, oofOf v1_l + (i).toNat * 4, none⟩)) rfl (Ob_sidx tRh rfl rfl rfl rfl (slPl (H.sl 0 rfl) hg1) hg1) fun a Z => ?_
  obtain ⟨_, ⟨u1, rfl, L1⟩, H⟩ := H.elG 0 rfl (i) (NEEntry.dft _ _)
  replace H := H.addsl L1
  replace H : Hf I D w I1 w1 [SlC NEOp u1 (((gi l i).batch).ops), AtG ((0 : Int) ≤ i ∧ i < (ln l)) (blkOf v1_l) (oofOf v1_l + (i).toNat * 4) (cEEntry (gi l i) u1), SlC NEEntry v1_l l, OwC NEEntry 44 v2 out] := H
  refine sO Z (.agg (cEEntry (gi l i) u1).toArray) rfl (oA tRh rfl rfl ((H.atg 1 rfl hg1).part 0 rfl)) fun a Z => ?_
  refine hA Z H [vI 0, vI 0, nS, vU 0] rfl rfl (by kernel_rfl) fun a w2 b1 H Z => ?_
  refine hT tRh Z H 0 rfl rfl rfl rfl rfl (onR 2 rfl (one_cons (slS.one (H.slshape 1 rfl)) (one_cons rfl one_nil))) (Nat.le_of_ble_eq_true rfl) rfl fun w3 H => ?_
  dsimp only [List.eraseIdx] at H
  refine s_end Z [0, 3, 4, 5] rfl fun Z => ?_
  refine p_then (wp_seq ?_)
  obtain ⟨hg2, hF⟩ := chk_in hF
  obtain ⟨hg3, hF⟩ := chk_in hF
  refine f_region Z fun Z => ?_
  refine h_bslice Z H (vs := []) (cl := []) (e := 58) rfl rfl rfl (by decide) rfl rfl (fun w => run_bslice (z := .agg #[vS ByteArray.empty, vS ByteArray.empty, vT false]) (m := 3) Tryz.underlying40 (by kernel_rfl) rfl rfl (by decide) (by simp [Instr.fill, Value.cells]) w) fun a w4 b2 H Z => ?_
  refine s_runk tRh Z 2 rfl rfl fun a Z => ?_
  refine sO Z (.pointer (some ⟨blkOf v1_l, oofOf v1_l + (i).toNat * 4, none⟩)) rfl (Ob_sidx tRh rfl rfl rfl rfl (slPl (H.sl 4 rfl) hg2) hg2) fun a Z => ?_
  refine s_runk tRh Z 2 rfl rfl fun a Z => ?_
  refine sO Z u1 rfl (oL tRh rfl rfl ((H.atg 3 rfl hg2) 2 _ rfl)) fun a Z => ?_
  replace H : Hf I D w I1 w4 [OwC NEOp 58 (.slice (some ⟨b2, 0, none⟩) 0 0) [], BxC b1 44 (cEEntry (gi l i) u1), SlC NEOp u1 (((gi l i).batch).ops), AtG ((0 : Int) ≤ i ∧ i < (ln l)) (blkOf v1_l) (oofOf v1_l + (i).toNat * 4) (cEEntry (gi l i) u1), SlC NEEntry v1_l l, OwC NEEntry 44 v2 out] := H.emptyow 0 rfl NEOp
  refine h_appO Z H 0 E_40_YRh (((gi l i).batch).ops) rfl rfl rfl rfl rfl (by decide) rfl rfl rfl (H.sl2 2 rfl) hg3 (by decide) fun v3 a w5 H Z => ?_
  dsimp only [List.eraseIdx] at H
  refine s_runk tRh Z 2 rfl rfl fun a Z => ?_
  refine hT tRh Z H 1 rfl rfl (slS.cells (H.owshape 0 rfl)) rfl rfl (one_cons (slS.one (H.owshape 0 rfl)) one_nil) (Nat.le_of_ble_eq_true rfl) rfl fun w6 H => ?_
  dsimp only [List.eraseIdx] at H
  refine s_end Z [0, 3, 4, 5] rfl fun Z => ?_
  refine p_then ?_
  obtain ⟨hg4, hF⟩ := chk_in hF
  refine f_region Z fun Z => ?_
  refine s_runk tRh Z 1 rfl rfl fun a Z => ?_
  refine sO Z (.agg (cEEntry (gi l i) v3).toArray) rfl (oA tRh rfl rfl ((H.bx 0 rfl).part 0 rfl)) fun a Z => ?_
  refine h_bslice Z H (vs := [(0, .agg #[vI (((gi l i).batch).client), vI (((gi l i).batch).req), v3, vU ((gi l i).ts)])]) (cl := [vI (((gi l i).batch).client), vI (((gi l i).batch).req), v3, vU ((gi l i).ts)]) (e := 44) rfl rfl rfl (by decide) rfl rfl (fun w => run_bslice (z := .agg #[vI 0, vI 0, nS, vU 0]) (m := 4) Tryz.underlying32 (by kernel_rfl) rfl rfl (by decide) (by simp [Instr.fill, Value.cells]) w) fun a w7 b3 H Z => ?_
  obtain ⟨I2, _, H⟩ := H.frzow 2 rfl
  replace H : Hf I D w I2 w7 [SlC NEOp v3 ([] ++ (((gi l i).batch).ops)), BxC b3 44 (cEEntry (gi l i) v3), BxC b1 44 (cEEntry (gi l i) v3), SlC NEOp u1 (((gi l i).batch).ops), AtG ((0 : Int) ≤ i ∧ i < (ln l)) (blkOf v1_l) (oofOf v1_l + (i).toNat * 4) (cEEntry (gi l i) u1), SlC NEEntry v1_l l, OwC NEEntry 44 v2 out] := H
  refine h_appO Z H 6 E_32_YRh [({ (gi l i) with batch := ({ client := ((gi l i).batch).client, req := ((gi l i).batch).req, ops := [] ++ (((gi l i).batch).ops) } : EBatch) } : EEntry)] rfl rfl rfl rfl rfl (by decide) rfl rfl rfl (slRep2.box1 (H.bx 1 rfl) ⟨_, rfl, (H.sl 0 rfl)⟩) hg4 (by decide) fun v4 a w8 H Z => ?_
  dsimp only [List.eraseIdx] at H
  replace H := (H.sub [(0, false), (0, true), (2, false), (2, true), (3, true), (4, true)] rfl).nf rfl
  refine s_runk tRh Z 1 rfl rfl fun a Z => ?_
  refine s_end Z [0, 3, 4] rfl fun Z => ?_
  refine p_blk ?_
  refine p_then ?_
  obtain ⟨hg5, hF⟩ := chk_in hF
  refine f_region Z fun Z => ?_
  refine s_runk tRh Z 1 rfl rfl fun a Z => ?_
  refine sO Z (vI (i + 1)) rfl (Ob_add rfl rfl rfl (wrI hg5)) fun a Z => ?_
  refine s_runk tRh Z 1 rfl rfl fun a Z => ?_
  refine s_end Z [0, 3, 4] rfl fun Z => ?_
  refine p_then ?_
  exact ⟨(out ++ [({ (gi l i) with batch := ({ client := ((gi l i).batch).client, req := ((gi l i).batch).req, ops := [] ++ (((gi l i).batch).ops) } : EBatch) } : EEntry)], i + 1), ⟨v4, Z.sub (ts := [0, 3, 4]) rfl, ⟨I2, (H.sub [(5, true), (0, false)] rfl).eq rfl⟩⟩, hF⟩
 ·replace hF := ite_f hc1 hF
  refine wp_exit ?_
  refine p_then_x ?_
  refine p_then_x ?_
  refine f_exit_here ?_
  refine pR Z fun Z => ?_
  refine s_runk tRh Z 2 rfl rfl fun a Z => ?_
  refine s_end Z [2] rfl fun Z => ?_
  refine p_then (wp_ret ?_)
  obtain rfl := some_in hF
  exact f_ret Z (run_results1 rfl Z rfl) ⟨v2, rfl, I1, (H.sub [(1, false)] rfl).eq rfl⟩

def F_ref08_Twins (a0 : EEntry) (b : EEntry) : Option Bool := some ((a0.batch.client == b.batch.client) && (a0.batch.req == b.batch.req))

set_option maxHeartbeats 1000000 in
theorem c_ref08_Twins {I D : Dm} {a0 : EEntry} {v1_a0 : Value} {b : EEntry} {v2_b : Value} {w : World} {rr : Bool} (hF : F_ref08_Twins a0 b = some rr) (H : St I D w [SlC NEOp v1_a0 a0.batch.ops, SlC NEOp v2_b b.batch.ops]) :
  Calls Tryz.prog 71 #[.agg (cEEntry a0 v1_a0).toArray, .agg (cEEntry b v2_b).toArray] w (Ret fun vv w' => vv = vT rr ∧ ∃ I', Hf I D w I' w' []) := by
 replace H := H.hf
 unfold F_ref08_Twins at hF
 refine f_enter 21 Tryz.func71 rfl rfl (Nat.le_of_ble_eq_true rfl) fun a Z => ?_
 replace Z := Z.sub (ts := [0, 1]) rfl
 refine sR Z fun Z => ?_
 refine h_boxv Z H (cl := (cEEntry a0 v1_a0)) rfl rfl rfl (by decide) rfl rfl rfl fun a w1 b1 H Z => ?_
 refine h_boxv Z H (cl := (cEEntry b v2_b)) rfl rfl rfl (by decide) rfl rfl rfl fun a w2 b2 H Z => ?_
 refine s_runk tRh Z 1 rfl rfl fun a Z => ?_
 refine s_end Z [2, 3] rfl fun Z => ?_
 refine pR Z fun Z => ?_
 refine s_runk tRh Z 2 rfl rfl fun a Z => ?_
 refine sO Z _ rfl (oL tRh rfl rfl (H.bc 1 0 rfl rfl)) fun a Z => ?_
 refine s_runk tRh Z 2 rfl rfl fun a Z => ?_
 refine sO Z _ rfl (oL tRh rfl rfl (H.bc 0 0 rfl rfl)) fun a Z => ?_
 refine s_runk tRh Z 2 rfl rfl fun a Z => ?_
 refine gO Z (pp b1 0) rfl (wantB_t _) (.n 2 rfl .z) (fun hp => Ob_c tRh rfl) fun a Z => ?_
 refine gO Z (pp b1 1) rfl (wantB_t _) (.c 13 rfl id .z) (fun hp => Ob_c tRh rfl) fun a Z => ?_
 refine gO Z _ rfl (wantB_t _) (.c 14 rfl id .z) (fun hp => oL tRh rfl rfl (H.bc 1 1 rfl rfl)) fun a Z => ?_
 refine gO Z (pp b2 0) rfl (wantB_t _) (.n 3 rfl .z) (fun hp => Ob_c tRh rfl) fun a Z => ?_
 refine gO Z (pp b2 1) rfl (wantB_t _) (.c 16 rfl id .z) (fun hp => Ob_c tRh rfl) fun a Z => ?_
 refine gO Z _ rfl (wantB_t _) (.c 17 rfl id .z) (fun hp => oL tRh rfl rfl (H.bc 0 1 rfl rfl)) fun a Z => ?_
 refine gO Z (vT (a0.batch.req == b.batch.req)) rfl (wantB_t _) (.c 15 rfl id (.c 18 rfl id .z)) (fun hp => Ob_c tRh rfl) fun a Z => ?_
 refine sO Z (vT ((a0.batch.client == b.batch.client) && (a0.batch.req == b.batch.req))) rfl (Ob_pick rfl rfl rfl rfl (pick_and _ _)) fun a Z => ?_
 refine s_runk tRh Z 1 rfl rfl fun a Z => ?_
 refine s_end Z [4] rfl fun Z => ?_
 refine p_then (wp_ret ?_)
 obtain rfl := some_in hF
 exact f_ret Z (run_results1 rfl Z rfl) ⟨rfl, I, (H.sub [] rfl).eq rfl⟩

def F_ref17_Log_Set_l2 (l : Eref30_State) (i : Int) (e : EEntry) (rc_2 : ((List EEntry) × Int) → Option (Int × Eref30_State)) (sg : (List EEntry) × Int) : Option (Int × Eref30_State) := match sg with | (m, k_2) => chk ((decide (k_2 < (m.length : Int))) = true → (0 : Int) ≤ i ∧ i < (m.length : Int)) (if ((decide (k_2 < (m.length : Int))) && (((m.getD (i).toNat default).ts) != e.ts)) = true then (chk ((0 : Int) ≤ k_2 ∧ k_2 < (m.length : Int)) (chk (inI (k_2 + 1)) (rc_2 (m.set (k_2).toNat ({ batch := ({ client := ((m.getD (k_2).toNat default).batch).client, req := ((m.getD (k_2).toNat default).batch).req, ops := ((m.getD (k_2).toNat default).batch).ops } : EBatch), ts := 0 } : EEntry), k_2 + 1)))) else (chk ((0 : Int) ≤ i ∧ i < (m.length : Int)) (some (0, ({ l with log := ({ l := m.set (i).toNat ({ e with batch := ({ client := ((m.getD (i).toNat default).batch).client, req := ((m.getD (i).toNat default).batch).req, ops := ((m.getD (i).toNat default).batch).ops } : EBatch) } : EEntry) } : Eref17_Log) } : Eref30_State)))))

def F_ref17_Log_Set_l1 (l : Eref30_State) (i : Int) (e : EEntry) (rc : Int → Option (Int × Eref30_State)) (sg : Int) : Option (Int × Eref30_State) := match sg with | k => if (decide (k < i)) = true then (chk ((0 : Int) ≤ k ∧ k < (l.log.l.length : Int)) ((F_ref08_Twins ({ (l.log.l.getD (k).toNat default) with batch := ({ client := ((l.log.l.getD (k).toNat default).batch).client, req := ((l.log.l.getD (k).toNat default).batch).req, ops := ((l.log.l.getD (k).toNat default).batch).ops } : EBatch) } : EEntry) e).bind fun t => (if (t) = true then (some (18, l)) else (chk (inI (k + 1)) (rc (k + 1)))))) else (chk (((e.ts != 0) && (decide (i > 0))) = true → inI (i - 1)) (chk (((e.ts != 0) && (decide (i > 0))) = true → (0 : Int) ≤ i - 1 ∧ i - 1 < (l.log.l.length : Int)) (chk ((((e.ts != 0) && (decide (i > 0))) && (!(((l.log.l.getD (i - 1).toNat default).ts) == 0))) = true → inI (i - 1)) (chk ((((e.ts != 0) && (decide (i > 0))) && (!(((l.log.l.getD (i - 1).toNat default).ts) == 0))) = true → (0 : Int) ≤ i - 1 ∧ i - 1 < (l.log.l.length : Int)) (if (((e.ts != 0) && (decide (i > 0))) && ((((l.log.l.getD (i - 1).toNat default).ts) == 0) || (decide ((l.log.l.getD (i - 1).toNat default).ts ≥ e.ts)))) = true then (some (18, l)) else (chk ((decide (i < (l.log.l.length : Int))) = true → (0 : Int) ≤ i ∧ i < (l.log.l.length : Int)) ((gif (decide (i < (l.log.l.length : Int))) (F_ref08_Twins ({ (l.log.l.getD (i).toNat default) with batch := ({ client := ((l.log.l.getD (i).toNat default).batch).client, req := ((l.log.l.getD (i).toNat default).batch).req, ops := ((l.log.l.getD (i).toNat default).batch).ops } : EBatch) } : EEntry) e) default).bind fun t_2 => (if ((decide (i < (l.log.l.length : Int))) && t_2) = true then ((F_ref17_Copy l.log.l).bind fun c_2 => (chk (inI (i + 1)) (iter (F_ref17_Log_Set_l2 l i e) FU (c_2, i + 1)))) else (chk ((0 : Int) ≤ i ∧ i ≤ (l.log.l.length : Int)) ((F_ref17_Copy (l.log.l.take ((i).toNat))).bind fun c_3 => ((F_ref17_Copy [e]).bind fun c_4 => (chk (((c_3.length + c_4.length : Nat) : Int) * 48 ≤ 140737488355328) (some (0, ({ l with log := ({ l := c_3 ++ c_4 } : Eref17_Log) } : Eref30_State)))))))))))))))

def F_ref17_Log_Set (l : Eref30_State) (i : Int) (e : EEntry) : Option (Int × Eref30_State) := if ((decide (i < 0)) || (decide (i > (l.log.l.length : Int)))) = true then (some (1, l)) else ((F_ref08_Check e).bind fun c => (if (c != 0) = true then (some (c, l)) else (if (decide (i ≥ 100)) = true then (some (6, l)) else (iter (F_ref17_Log_Set_l1 l i e) FU 0))))

set_option maxHeartbeats 1000000 in
theorem c_ref17_Log_Set {I D : Dm} {b_l : Nat} {l : Eref30_State} {i : Int} {e : EEntry} {v1_e : Value} {w : World} {rr : Int × Eref30_State} (hF : F_ref17_Log_Set l i e = some rr) (H : St I D w [OEref30_State b_l l, SlC NEOp v1_e e.batch.ops]) :
  Calls Tryz.prog 26 #[pp b_l 4, vI i, .agg (cEEntry e v1_e).toArray] w (Ret fun vv w' => vv = vI rr.1 ∧ ∃ I', Hf I D w I' w' [OEref30_State b_l rr.2]) := by
 replace H := H.hf
 unfold F_ref17_Log_Set at hF
 refine f_enter 145 Tryz.func26 rfl rfl (Nat.le_of_ble_eq_true rfl) fun a Z => ?_
 replace Z := Z.sub (ts := [0, 1, 2]) rfl
 refine sR Z fun Z => ?_
 refine h_boxv Z H (cl := (cEEntry e v1_e)) rfl rfl rfl (by decide) rfl rfl rfl fun a w1 b1 H Z => ?_
 refine s_runk tRh Z 1 rfl rfl fun a Z => ?_
 refine s_end Z [0, 1, 5] rfl fun Z => ?_
 refine p_then (wp_seq ?_)
 refine sR Z fun Z => ?_
 refine s_runk tRh Z 3 rfl rfl fun a Z => ?_
 refine gO Z (vI i) rfl (wantB_f _) (.n 1 rfl .z) (fun hp => Ob_c tRh rfl) fun a Z => ?_
 refine gO Z (pp b_l 4) rfl (wantB_f _) (.n 0 rfl .z) (fun hp => Ob_c tRh rfl) fun a Z => ?_
 refine gO Z (pp b_l 4) rfl (wantB_f _) (.c 15 rfl id .z) (fun hp => Ob_c tRh rfl) fun a Z => ?_
 refine gO Z (pp b_l 4) rfl (wantB_f _) (.c 16 rfl id .z) (fun hp => Ob_c tRh rfl) fun a Z => ?_
 obtain ⟨⟨v2, v3⟩, H⟩ := H.openX 1 rfl
 replace H := H.nf rfl; try dsimp only at H
 refine gO Z _ rfl (wantB_f _) (.c 17 rfl id .z) (fun hp => oL tRh rfl rfl (H.bc 0 4 rfl rfl)) fun a Z => ?_
 refine gO Z (vI (ln l.log.l)) rfl (wantB_f _) (.c 18 rfl id .z) (fun hp => Ob_slen tRh rfl rfl rfl (H.slshape 2 rfl)) fun a Z => ?_
 refine gO Z (vT (decide (i > (ln l.log.l)))) rfl (wantB_f _) (.c 14 rfl id (.c 19 rfl id .z)) (fun hp => Ob_c tRh rfl) fun a Z => ?_
 refine sO Z (vT ((decide (i < 0)) || (decide (i > (ln l.log.l))))) rfl (Ob_pick rfl rfl rfl rfl (pick_or _ _)) fun a Z => ?_
 refine s_end Z [0, 1, 5, 21] rfl fun Z => ?_
 refine p_then ?_
 refine f_cond Z rfl (fun hc1 => ?_) (fun hc1 => ?_)
 ·replace hF := ite_t hc1 hF
  refine sR Z fun Z => ?_
  refine s_runk tRh Z 1 rfl rfl fun a Z => ?_
  refine s_end Z [6] rfl fun Z => ?_
  refine p_then (wp_ret ?_)
  refine p_then_r ?_
  replace H := H.sX (OEref30_State b_l l) (v2, v3) [(0, false), (0, true), (1, true)] rfl rfl rfl
  obtain rfl := some_in hF
  exact f_ret Z (run_results1 rfl Z rfl) ⟨rfl, I, (H.sub [(0, false)] rfl).eq rfl⟩
 ·replace hF := ite_f hc1 hF
  refine wp_skip ?_
  refine p_then (wp_seq ?_)
  refine wp_seq ?_
  obtain ⟨c, hx1, hF⟩ := bnd_in hF
  refine f_region Z fun Z => ?_
  refine sO Z (.agg (cEEntry e v1_e).toArray) rfl (oA tRh rfl rfl ((H.bx 3 rfl).part 0 rfl)) fun a Z => ?_
  refine hC Z H [(4, true)] rfl #[] fn_69_YRh rfl rfl (fun D h => have q := c_ref08_Check hx1 h; q) fun vv a w2 D2 hr hF2 Z => ?_
  obtain ⟨rfl, I1, K⟩ := hr
  have H := (hF2 K).nf rfl
  refine s_runk tRh Z 1 rfl rfl fun a Z => ?_
  refine s_end Z [0, 1, 5, 7] rfl fun Z => ?_
  refine pR Z fun Z => ?_
  refine s_runk tRh Z 2 rfl rfl fun a Z => ?_
  refine s_end Z [0, 1, 5, 7, 25] rfl fun Z => ?_
  refine p_then ?_
  refine f_cond Z rfl (fun hc2 => ?_) (fun hc2 => ?_)
  ·replace hF := ite_t hc2 hF
   refine sR Z fun Z => ?_
   refine s_runk tRh Z 2 rfl rfl fun a Z => ?_
   refine s_end Z [6] rfl fun Z => ?_
   refine p_then (wp_ret ?_)
   refine p_then_r ?_
   replace H := H.sX (OEref30_State b_l l) (v2, v3) [(0, false), (0, true), (1, true)] rfl rfl rfl
   obtain rfl := some_in hF
   exact f_ret Z (run_results1 rfl Z rfl) ⟨rfl, I1, (H.sub [(0, false)] rfl).eq rfl⟩
  ·replace hF := ite_f hc2 hF
   refine wp_skip ?_
   refine p_then (wp_seq ?_)
   refine sR Z fun Z => ?_
   refine s_runk tRh Z 2 rfl rfl fun a Z => ?_
   refine s_end Z [0, 1, 5, 28] rfl fun Z => ?_
   refine p_then ?_
   refine f_cond Z rfl (fun hc3 => ?_) (fun hc3 => ?_)
   ·replace hF := ite_t hc3 hF
    refine sR Z fun Z => ?_
    refine s_runk tRh Z 1 rfl rfl fun a Z => ?_
    refine s_end Z [6] rfl fun Z => ?_
    refine p_then (wp_ret ?_)
    refine p_then_r ?_
    replace H := H.sX (OEref30_State b_l l) (v2, v3) [(0, false), (0, true), (1, true)] rfl rfl rfl
    obtain rfl := some_in hF
    exact f_ret Z (run_results1 rfl Z rfl) ⟨rfl, I1, (H.sub [(0, false)] rfl).eq rfl⟩
   ·replace hF := ite_f hc3 hF
    refine wp_skip ?_
    refine p_then (wp_seq ?_)
    refine sR Z fun Z => ?_
    refine s_runk tRh Z 1 rfl rfl fun a Z => ?_
    refine s_end Z [0, 1, 5, 8] rfl fun Z => ?_
    refine p_then (wp_block ?_)
    refine f_iter hF (fun sg a' w' => match sg with | k => Sl 145 [(0, pp b_l 4), (1, vI i), (5, pp b1 0), (8, vI k)] a' ∧ ∃ I2, Hf I D w I2 w' [BxC b_l 36 (cEref30_State l v2 v3), BxC b1 44 (cEEntry e v1_e), SlC NEMember v2 l.conf.members, SlC NEEntry v3 l.log.l, SlC NEOp v1_e e.batch.ops]) ⟨Z.sub (ts := [0, 1, 5, 8]) rfl, ⟨I1, (H.sub [(0, false), (2, false), (0, true), (1, true), (2, true)] rfl).eq rfl⟩⟩ ?_
    rintro rc k a w3 ⟨Z, I2, H⟩ hF
    unfold F_ref17_Log_Set_l1 at hF
    try dsimp only at hF
    refine wp_seq ?_
    refine sR Z fun Z => ?_
    refine s_runk tRh Z 3 rfl rfl fun a Z => ?_
    refine s_end Z [0, 1, 5, 8, 31] rfl fun Z => ?_
    refine p_then ?_
    refine f_cond Z rfl (fun hc4 => ?_) (fun hc4 => ?_)
    ·replace hF := ite_t hc4 hF
     refine wp_skip ?_
     refine p_then (wp_seq ?_)
     refine wp_block ?_
     refine wp_seq ?_
     obtain ⟨hg1, hF⟩ := chk_in hF
     obtain ⟨_, ⟨u1, rfl, L1⟩, H⟩ := H.elG 3 rfl (k) (NEEntry.dft _ _)
     replace H := H.addsl L1
     replace H : Hf I D w I2 w3 [SlC NEOp u1 (((gi l.log.l k).batch).ops), AtG ((0 : Int) ≤ k ∧ k < (ln l.log.l)) (blkOf v3) (oofOf v3 + (k).toNat * 4) (cEEntry (gi l.log.l k) u1), BxC b_l 36 (cEref30_State l v2 v3), BxC b1 44 (cEEntry e v1_e), SlC NEMember v2 l.conf.members, SlC NEEntry v3 l.log.l, SlC NEOp v1_e e.batch.ops] := H
     obtain ⟨t, hx2, hF⟩ := bnd_in hF
     refine f_quietd (by kernel_rfl) (by kernel_rfl) Z fun Z => ?_
     refine q_runk tRh Z 3 rfl rfl fun a Z => ?_
     refine qO Z _ rfl (fun _ hw => oL tRh rfl rfl ((H.blw hw).bc 2 4 rfl rfl)) fun a Z => ?_
     refine q_runk tRh Z 1 rfl rfl fun a Z => ?_
     refine qO Z (.pointer (some ⟨blkOf v3, oofOf v3 + (k).toNat * 4, none⟩)) rfl (fun _ hw => Ob_sidx tRh rfl rfl rfl rfl (slPl ((H.blw hw).sl 5 rfl) hg1) hg1) fun a Z => ?_
     refine qO Z (.agg (cEEntry (gi l.log.l k) u1).toArray) rfl (fun _ hw => oA tRh rfl rfl (((H.blw hw).atg 1 rfl hg1).part 0 rfl)) fun a Z => ?_
     refine qO Z (.agg (cEEntry e v1_e).toArray) rfl (fun _ hw => oA tRh rfl rfl (((H.blw hw).bx 3 rfl).part 0 rfl)) fun a Z => ?_
     refine q_call Z (caps := #[]) fn_71_YRh rfl rfl rfl rfl rfl (by decide) rfl rfl (fun _ hw => (have hq := c_ref08_Twins hx2 (((H.blw hw)).pick0 (js := [(0, true), (6, true)]) rfl rfl); plainC hq)) fun a Z => ?_
     refine q_end Z [0, 1, 5, 8, 42] rfl fun w4 hb Z => ?_
     replace H := H.blw hb
     clear hb
     refine p_then ?_
     refine f_cond Z rfl (fun hc5 => ?_) (fun hc5 => ?_)
     ·replace hF := ite_t hc5 hF
      refine sR Z fun Z => ?_
      refine s_runk tRh Z 1 rfl rfl fun a Z => ?_
      refine s_end Z [6] rfl fun Z => ?_
      refine p_then (wp_ret ?_)
      refine p_blk_r ?_
      refine p_then_r ?_
      refine p_then_r ?_
      refine p_blk_r ?_
      refine p_then_r ?_
      replace H := H.sX (OEref30_State b_l l) (v2, v3) [(2, false), (3, true), (4, true)] rfl rfl rfl
      obtain rfl := some_in hF
      exact f_ret Z (run_results1 rfl Z rfl) ⟨rfl, I2, (H.sub [(0, false)] rfl).eq rfl⟩
     ·replace hF := ite_f hc5 hF
      refine wp_skip ?_
      refine p_blk ?_
      refine p_then ?_
      obtain ⟨hg2, hF⟩ := chk_in hF
      refine f_region Z fun Z => ?_
      refine s_runk tRh Z 1 rfl rfl fun a Z => ?_
      refine sO Z (vI (k + 1)) rfl (Ob_add rfl rfl rfl (wrI hg2)) fun a Z => ?_
      refine s_runk tRh Z 1 rfl rfl fun a Z => ?_
      refine s_end Z [0, 1, 5, 8] rfl fun Z => ?_
      refine p_then ?_
      exact ⟨(k + 1), ⟨Z.sub (ts := [0, 1, 5, 8]) rfl, ⟨I2, (H.sub [(2, false), (2, false), (2, true), (3, true), (4, true)] rfl).eq rfl⟩⟩, hF⟩
    ·replace hF := ite_f hc4 hF
     refine wp_exit ?_
     refine p_then_x ?_
     refine p_then_x ?_
     refine f_exit_here ?_
     refine p_then (wp_seq ?_)
     refine wp_seq ?_
     obtain ⟨hg3, hF⟩ := chk_in hF
     obtain ⟨hg4, hF⟩ := chk_in hF
     obtain ⟨_, ⟨u2, rfl, L2⟩, H⟩ := H.elG 3 rfl (i - 1) (NEEntry.dft _ _)
     replace H := H.addsl L2
     replace H : Hf I D w I2 w3 [SlC NEOp u2 (((l.log.l.getD (i - 1).toNat default).batch).ops), AtG ((0 : Int) ≤ i - 1 ∧ i - 1 < (ln l.log.l)) (blkOf v3) (oofOf v3 + (i - 1).toNat * 4) (cEEntry (l.log.l.getD (i - 1).toNat default) u2), BxC b_l 36 (cEref30_State l v2 v3), BxC b1 44 (cEEntry e v1_e), SlC NEMember v2 l.conf.members, SlC NEEntry v3 l.log.l, SlC NEOp v1_e e.batch.ops] := H
     obtain ⟨hg5, hF⟩ := chk_in hF
     obtain ⟨hg6, hF⟩ := chk_in hF
     refine f_quietd (by kernel_rfl) (by kernel_rfl) Z fun Z => ?_
     refine q_runk tRh Z 1 rfl rfl fun a Z => ?_
     refine qO Z _ rfl (fun _ hw => oL tRh rfl rfl ((H.blw hw).bc 3 3 rfl rfl)) fun a Z => ?_
     refine q_runk tRh Z 2 rfl rfl fun a Z => ?_
     refine jO Z (vI i) rfl (wantB_t _) (.n 1 rfl .z) (fun hp _ hw => Ob_c tRh rfl) fun a Z => ?_
     refine jO Z (vT (decide (i > 0))) rfl (wantB_t _) (.c 47 rfl id .z) (fun hp _ hw => Ob_c tRh rfl) fun a Z => ?_
     refine qO Z (vT ((e.ts != 0) && (decide (i > 0)))) rfl (fun _ hw => Ob_pick rfl rfl rfl rfl (pick_and _ _)) fun a Z => ?_
     refine q_runk tRh Z 1 rfl rfl fun a Z => ?_
     refine jO Z (pp b_l 4) rfl (wantB_t _) (.n 0 rfl .z) (fun hp _ hw => Ob_c tRh rfl) fun a Z => ?_
     refine jO Z (pp b_l 4) rfl (wantB_t _) (.c 51 rfl id .z) (fun hp _ hw => Ob_c tRh rfl) fun a Z => ?_
     refine jO Z (pp b_l 4) rfl (wantB_t _) (.c 52 rfl id .z) (fun hp _ hw => Ob_c tRh rfl) fun a Z => ?_
     refine jO Z _ rfl (wantB_t _) (.c 53 rfl id .z) (fun hp _ hw => oL tRh rfl rfl ((H.blw hw).bc 2 4 rfl rfl)) fun a Z => ?_
     refine jO Z (vI i) rfl (wantB_t _) (.n 1 rfl .z) (fun hp _ hw => Ob_c tRh rfl) fun a Z => ?_
     refine jO Z (vI (i - 1)) rfl (wantB_t _) (.c 55 rfl id .z) (fun hp _ hw => Ob_sub rfl rfl rfl (wrI (hg3 hp))) fun a Z => ?_
     refine jO Z (.pointer (some ⟨blkOf v3, oofOf v3 + (i - 1).toNat * 4, none⟩)) rfl (wantB_t _) (.c 54 rfl id (.c 56 rfl id .z)) (fun hp _ hw => Ob_sidx tRh rfl rfl rfl rfl (slPl ((H.blw hw).sl 5 rfl) (hg4 hp)) (hg4 hp)) fun a Z => ?_
     refine jO Z (.pointer (some ⟨blkOf v3, oofOf v3 + (i - 1).toNat * 4 + 3, none⟩)) rfl (wantB_t _) (.c 57 rfl id .z) (fun hp _ hw => Ob_c tRh rfl) fun a Z => ?_
     refine jO Z (vU ((l.log.l.getD (i - 1).toNat default).ts)) rfl (wantB_t _) (.c 58 rfl id .z) (fun hp _ hw => oL tRh rfl rfl (((H.blw hw).atg 1 rfl (hg4 hp)) 3 _ rfl)) fun a Z => ?_
     refine jO Z (vT (((l.log.l.getD (i - 1).toNat default).ts) == 0)) rfl (wantB_t _) (.c 59 rfl id .z) (fun hp _ hw => Ob_c tRh rfl) fun a Z => ?_
     refine jO Z (vT (((l.log.l.getD (i - 1).toNat default).ts) == 0)) rfl (wantB_t _) (.c 60 rfl id .z) (fun hp _ hw => Ob_c tRh rfl) fun a Z => ?_
     refine jO Z (pp b_l 4) rfl (wantB_cf _ _) (.n 0 rfl .z) (fun hp _ hw => Ob_c tRh rfl) fun a Z => ?_
     refine jO Z (pp b_l 4) rfl (wantB_cf _ _) (.c 62 rfl id .z) (fun hp _ hw => Ob_c tRh rfl) fun a Z => ?_
     refine jO Z (pp b_l 4) rfl (wantB_cf _ _) (.c 63 rfl id .z) (fun hp _ hw => Ob_c tRh rfl) fun a Z => ?_
     refine jO Z _ rfl (wantB_cf _ _) (.c 64 rfl id .z) (fun hp _ hw => oL tRh rfl rfl ((H.blw hw).bc 2 4 rfl rfl)) fun a Z => ?_
     refine jO Z (vI i) rfl (wantB_cf _ _) (.n 1 rfl .z) (fun hp _ hw => Ob_c tRh rfl) fun a Z => ?_
     refine jO Z (vI (i - 1)) rfl (wantB_cf _ _) (.c 66 rfl id .z) (fun hp _ hw => Ob_sub rfl rfl rfl (wrI (hg5 hp))) fun a Z => ?_
     refine jO Z (.pointer (some ⟨blkOf v3, oofOf v3 + (i - 1).toNat * 4, none⟩)) rfl (wantB_cf _ _) (.c 65 rfl id (.c 67 rfl id .z)) (fun hp _ hw => Ob_sidx tRh rfl rfl rfl rfl (slPl ((H.blw hw).sl 5 rfl) (hg6 hp)) (hg6 hp)) fun a Z => ?_
     refine jO Z (.pointer (some ⟨blkOf v3, oofOf v3 + (i - 1).toNat * 4 + 3, none⟩)) rfl (wantB_cf _ _) (.c 68 rfl id .z) (fun hp _ hw => Ob_c tRh rfl) fun a Z => ?_
     refine jO Z (vU ((l.log.l.getD (i - 1).toNat default).ts)) rfl (wantB_cf _ _) (.c 69 rfl id .z) (fun hp _ hw => oL tRh rfl rfl (((H.blw hw).atg 1 rfl (hg6 hp)) 3 _ rfl)) fun a Z => ?_
     refine jO Z (pp b1 3) rfl (wantB_cf _ _) (.n 5 rfl .z) (fun hp _ hw => Ob_c tRh rfl) fun a Z => ?_
     refine jO Z _ rfl (wantB_cf _ _) (.c 71 rfl id .z) (fun hp _ hw => oL tRh rfl rfl ((H.blw hw).bc 3 3 rfl rfl)) fun a Z => ?_
     refine jO Z (vT (decide ((l.log.l.getD (i - 1).toNat default).ts ≥ e.ts))) rfl (wantB_cf _ _) (.c 70 rfl id (.c 72 rfl id .z)) (fun hp _ hw => Ob_c tRh rfl) fun a Z => ?_
     refine jO Z (vT ((((l.log.l.getD (i - 1).toNat default).ts) == 0) || (decide ((l.log.l.getD (i - 1).toNat default).ts ≥ e.ts)))) rfl (wantB_t _) (.c 61 rfl id (.n 73 rfl .z)) (fun hp _ hw => Ob_pick rfl rfl rfl rfl (pick_orp _ _ hp)) fun a Z => ?_
     refine qO Z (vT (((e.ts != 0) && (decide (i > 0))) && ((((l.log.l.getD (i - 1).toNat default).ts) == 0) || (decide ((l.log.l.getD (i - 1).toNat default).ts ≥ e.ts))))) rfl (fun _ hw => Ob_pick rfl rfl rfl rfl (pick_and _ _)) fun a Z => ?_
     refine q_end Z [0, 1, 5, 75] rfl fun w5 hb Z => ?_
     replace H := H.blw hb
     clear hb
     refine p_then ?_
     refine f_cond Z rfl (fun hc6 => ?_) (fun hc6 => ?_)
     ·replace hF := ite_t hc6 hF
      refine sR Z fun Z => ?_
      refine s_runk tRh Z 1 rfl rfl fun a Z => ?_
      refine s_end Z [6] rfl fun Z => ?_
      refine p_then (wp_ret ?_)
      refine p_then_r ?_
      replace H := H.sX (OEref30_State b_l l) (v2, v3) [(2, false), (3, true), (4, true)] rfl rfl rfl
      obtain rfl := some_in hF
      exact f_ret Z (run_results1 rfl Z rfl) ⟨rfl, I2, (H.sub [(0, false)] rfl).eq rfl⟩
     ·replace hF := ite_f hc6 hF
      refine wp_skip ?_
      refine p_then (wp_seq ?_)
      refine wp_seq ?_
      obtain ⟨hg7, hF⟩ := chk_in hF
      obtain ⟨_, ⟨u3, rfl, L3⟩, H⟩ := H.elG 5 rfl (i) (NEEntry.dft _ _)
      replace H := H.addsl L3
      replace H : Hf I D w I2 w5 [SlC NEOp u3 (((gi l.log.l i).batch).ops), AtG ((0 : Int) ≤ i ∧ i < (ln l.log.l)) (blkOf v3) (oofOf v3 + (i).toNat * 4) (cEEntry (gi l.log.l i) u3), SlC NEOp u2 (((l.log.l.getD (i - 1).toNat default).batch).ops), AtG ((0 : Int) ≤ i - 1 ∧ i - 1 < (ln l.log.l)) (blkOf v3) (oofOf v3 + (i - 1).toNat * 4) (cEEntry (l.log.l.getD (i - 1).toNat default) u2), BxC b_l 36 (cEref30_State l v2 v3), BxC b1 44 (cEEntry e v1_e), SlC NEMember v2 l.conf.members, SlC NEEntry v3 l.log.l, SlC NEOp v1_e e.batch.ops] := H
      obtain ⟨t_2, hx3, hF⟩ := bnd_in hF
      refine f_quietd (by kernel_rfl) (by kernel_rfl) Z fun Z => ?_
      refine q_runk tRh Z 4 rfl rfl fun a Z => ?_
      refine qO Z _ rfl (fun _ hw => oL tRh rfl rfl ((H.blw hw).bc 4 4 rfl rfl)) fun a Z => ?_
      refine qO Z (vI (ln l.log.l)) rfl (fun _ hw => Ob_slen tRh rfl rfl rfl ((H.blw hw).slshape 7 rfl)) fun a Z => ?_
      refine q_runk tRh Z 2 rfl rfl fun a Z => ?_
      refine jO Z (pp b_l 4) rfl (wantB_t _) (.n 0 rfl .z) (fun hp _ hw => Ob_c tRh rfl) fun a Z => ?_
      refine jO Z (pp b_l 4) rfl (wantB_t _) (.c 84 rfl id .z) (fun hp _ hw => Ob_c tRh rfl) fun a Z => ?_
      refine jO Z (pp b_l 4) rfl (wantB_t _) (.c 85 rfl id .z) (fun hp _ hw => Ob_c tRh rfl) fun a Z => ?_
      refine jO Z _ rfl (wantB_t _) (.c 86 rfl id .z) (fun hp _ hw => oL tRh rfl rfl ((H.blw hw).bc 4 4 rfl rfl)) fun a Z => ?_
      refine jO Z (vI i) rfl (wantB_t _) (.n 1 rfl .z) (fun hp _ hw => Ob_c tRh rfl) fun a Z => ?_
      refine jO Z (.pointer (some ⟨blkOf v3, oofOf v3 + (i).toNat * 4, none⟩)) rfl (wantB_t _) (.c 87 rfl id (.c 88 rfl id .z)) (fun hp _ hw => Ob_sidx tRh rfl rfl rfl rfl (slPl ((H.blw hw).sl 7 rfl) (hg7 hp)) (hg7 hp)) fun a Z => ?_
      refine jO Z (.agg (cEEntry (gi l.log.l i) u3).toArray) rfl (wantB_t _) (.c 89 rfl id .z) (fun hp _ hw => oA tRh rfl rfl (((H.blw hw).atg 1 rfl (hg7 hp)).part 0 rfl)) fun a Z => ?_
      refine jO Z (.agg (cEEntry e v1_e).toArray) rfl (wantB_t _) (.n 5 rfl .z) (fun hp _ hw => oA tRh rfl rfl (((H.blw hw).bx 5 rfl).part 0 rfl)) fun a Z => ?_
      refine gq_call Z (p := (decide (i < (ln l.log.l)))) (v := vT t_2) (S' := [(90, .agg (cEEntry (gi l.log.l i) u3).toArray), (91, .agg (cEEntry e v1_e).toArray)]) (caps := #[]) fn_71_YRh rfl rfl rfl (wantB_t _) rfl (by decide) (fun hp hS => ((hS.conv (t := 90) rfl (cond_t hp)).conv (t := 91) rfl (cond_t hp)).sub (ts := [90, 91]) rfl) rfl rfl rfl rfl (fun hp _ hw => (have hq := c_ref08_Twins (gif_in hx3 hp) (((H.blw hw)).pick0 (js := [(0, true), (8, true)]) rfl rfl); plainC hq)) fun a Z => ?_
      refine qO Z (vT ((decide (i < (ln l.log.l))) && t_2)) rfl (fun _ hw => Ob_pick rfl rfl rfl rfl (pick_and _ _)) fun a Z => ?_
      refine q_end Z [0, 1, 5, 93] rfl fun w6 hb Z => ?_
      replace H := H.blw hb
      clear hb
      refine p_then ?_
      refine f_cond Z rfl (fun hc7 => ?_) (fun hc7 => ?_)
      ·replace hF := ite_t hc7 hF
       refine wp_seq ?_
       obtain ⟨c_2, hx4, hF⟩ := bnd_in hF
       refine f_region Z fun Z => ?_
       refine s_runk tRh Z 3 rfl rfl fun a Z => ?_
       refine sO Z _ rfl (oL tRh rfl rfl (H.bc 4 4 rfl rfl)) fun a Z => ?_
       refine hC Z H [(7, true)] rfl #[] fn_72_YRh rfl rfl (fun D h => have q := c_ref17_Copy hx4 h; q) fun vv a w7 D2 hr hF2 Z => ?_
       obtain ⟨q1, hvv, I3, K⟩ := hr; obtain rfl := hvv.symm
       have H := (hF2 K).nf rfl
       refine s_runk tRh Z 1 rfl rfl fun a Z => ?_
       refine s_end Z [0, 1, 5, 9] rfl fun Z => ?_
       refine p_then (wp_seq ?_)
       refine wp_seq ?_
       obtain ⟨hg8, hF⟩ := chk_in hF
       refine f_region Z fun Z => ?_
       refine s_runk tRh Z 1 rfl rfl fun a Z => ?_
       refine sO Z (vI (i + 1)) rfl (Ob_add rfl rfl rfl (wrI hg8)) fun a Z => ?_
       refine s_runk tRh Z 1 rfl rfl fun a Z => ?_
       refine s_end Z [0, 1, 5, 9, 10] rfl fun Z => ?_
       refine p_then (wp_block ?_)
       refine f_iter hF (fun sg a' w' => match sg with | (m, k_2) => ∃ v4 : Value, Sl 145 [(0, pp b_l 4), (1, vI i), (5, pp b1 0), (9, v4), (10, vI k_2)] a' ∧ ∃ I2, Hf I D w I2 w' [BxC b_l 36 (cEref30_State l v2 v3), BxC b1 44 (cEEntry e v1_e), SlC NEMember v2 l.conf.members, SlC NEEntry v3 l.log.l, SlC NEOp v1_e e.batch.ops, OwC NEEntry 44 v4 m]) ⟨q1, Z.sub (ts := [0, 1, 5, 9, 10]) rfl, ⟨I3, (H.sub [(5, false), (5, false), (5, true), (6, true), (7, true), (0, false)] rfl).eq rfl⟩⟩ ?_
       rintro rc_2 ⟨m, k_2⟩ a w8 ⟨v4, Z, I4, H⟩ hF
       unfold F_ref17_Log_Set_l2 at hF
       try dsimp only at hF
       refine wp_seq ?_
       refine wp_seq ?_
       obtain ⟨hg9, hF⟩ := chk_in hF
       obtain ⟨_, ⟨u4, rfl, L4⟩, hat1⟩ := H.owElG 5 rfl (i) (NEEntry.dft _ _)
       replace H : Hf I D w I4 w8 [SlC NEOp u4 (((gi m i).batch).ops), BxC b_l 36 (cEref30_State l v2 v3), BxC b1 44 (cEEntry e v1_e), SlC NEMember v2 l.conf.members, SlC NEEntry v3 l.log.l, SlC NEOp v1_e e.batch.ops, OwC NEEntry 44 v4 m] := H.addsl L4
       refine f_quietd (by kernel_rfl) (by kernel_rfl) Z fun Z => ?_
       refine q_runk tRh Z 2 rfl rfl fun a Z => ?_
       refine qO Z (vI (ln m)) rfl (fun _ hw => Ob_slen tRh rfl rfl rfl ((H.blw hw).owshape 6 rfl)) fun a Z => ?_
       refine q_runk tRh Z 2 rfl rfl fun a Z => ?_
       refine jO Z v4 rfl (wantB_t _) (.n 9 rfl .z) (fun hp _ hw => Ob_c tRh rfl) fun a Z => ?_
       refine jO Z (vI i) rfl (wantB_t _) (.n 1 rfl .z) (fun hp _ hw => Ob_c tRh rfl) fun a Z => ?_
       refine jO Z (.pointer (some ⟨blkOf v4, oofOf v4 + (i).toNat * 4, none⟩)) rfl (wantB_t _) (.c 106 rfl id (.c 107 rfl id .z)) (fun hp _ hw => Ob_sidx tRh rfl rfl rfl rfl (slPl ((H.blw hw).owA 6 rfl) (hg9 hp)) (hg9 hp)) fun a Z => ?_
       refine jO Z (.pointer (some ⟨blkOf v4, oofOf v4 + (i).toNat * 4 + 3, none⟩)) rfl (wantB_t _) (.c 108 rfl id .z) (fun hp _ hw => Ob_c tRh rfl) fun a Z => ?_
       refine jO Z (vU ((gi m i).ts)) rfl (wantB_t _) (.c 109 rfl id .z) (fun hp _ hw => oL tRh rfl rfl (((hat1 (hg9 hp)).blw hw) 3 _ rfl)) fun a Z => ?_
       refine jO Z (pp b1 3) rfl (wantB_t _) (.n 5 rfl .z) (fun hp _ hw => Ob_c tRh rfl) fun a Z => ?_
       refine jO Z _ rfl (wantB_t _) (.c 111 rfl id .z) (fun hp _ hw => oL tRh rfl rfl ((H.blw hw).bc 2 3 rfl rfl)) fun a Z => ?_
       refine jO Z (vT (((gi m i).ts) != e.ts)) rfl (wantB_t _) (.c 110 rfl id (.c 112 rfl id .z)) (fun hp _ hw => Ob_c tRh rfl) fun a Z => ?_
       refine qO Z (vT ((decide (k_2 < (ln m))) && (((gi m i).ts) != e.ts))) rfl (fun _ hw => Ob_pick rfl rfl rfl rfl (pick_and _ _)) fun a Z => ?_
       refine q_end Z [0, 1, 5, 9, 10, 114] rfl fun w9 hb Z => ?_
       replace H := H.blw hb
       clear hb
       refine p_then ?_
       refine f_cond Z rfl (fun hc8 => ?_) (fun hc8 => ?_)
       ·replace hF := ite_t hc8 hF
        refine wp_skip ?_
        refine p_then (wp_seq ?_)
        refine wp_block ?_
        obtain ⟨hg10, hF⟩ := chk_in hF
        refine f_region Z fun Z => ?_
        refine s_runk tRh Z 2 rfl rfl fun a Z => ?_
        refine sO Z (.pointer (some ⟨blkOf v4, oofOf v4 + (k_2).toNat * 4, none⟩)) rfl (Ob_sidx tRh rfl rfl rfl rfl (slPl (H.owA 6 rfl) hg10) hg10) fun a Z => ?_
        refine s_runk tRh Z 1 rfl rfl fun a Z => ?_
        refine h_setR tRh Z H 6 (z := k_2) (d := default) 3 ({ batch := ({ client := ((gi m k_2).batch).client, req := ((gi m k_2).batch).req, ops := ((gi m k_2).batch).ops } : EBatch), ts := 0 } : EEntry) rfl hg10 rfl rfl rfl 4 rfl rfl rfl rfl rfl (by decide) (fun cl ⟨s0_, e, h0_⟩ => ⟨s0_, by rw [e]; rfl, h0_⟩) fun w11 H => ?_
        dsimp only [List.eraseIdx] at H
        refine s_end Z [0, 1, 5, 9, 10] rfl fun Z => ?_
        refine p_blk ?_
        refine p_then ?_
        obtain ⟨hg11, hF⟩ := chk_in hF
        refine f_region Z fun Z => ?_
        refine s_runk tRh Z 1 rfl rfl fun a Z => ?_
        refine sO Z (vI (k_2 + 1)) rfl (Ob_add rfl rfl rfl (wrI hg11)) fun a Z => ?_
        refine s_runk tRh Z 1 rfl rfl fun a Z => ?_
        refine s_end Z [0, 1, 5, 9, 10] rfl fun Z => ?_
        refine p_then ?_
        exact ⟨(m.set (k_2).toNat ({ batch := ({ client := ((gi m k_2).batch).client, req := ((gi m k_2).batch).req, ops := ((gi m k_2).batch).ops } : EBatch), ts := 0 } : EEntry), k_2 + 1), ⟨v4, Z.sub (ts := [0, 1, 5, 9, 10]) rfl, ⟨I4, (H.sub [(2, false), (2, false), (2, true), (3, true), (4, true), (0, false)] rfl).eq rfl⟩⟩, hF⟩
       ·replace hF := ite_f hc8 hF
        refine wp_exit ?_
        refine p_then_x ?_
        refine p_then_x ?_
        refine f_exit_here ?_
        refine p_then (wp_seq ?_)
        obtain ⟨hg12, hF⟩ := chk_in hF
        refine f_region Z fun Z => ?_
        refine s_runk tRh Z 3 rfl rfl fun a Z => ?_
        refine sO Z _ rfl (oL tRh rfl rfl (H.bc 2 3 rfl rfl)) fun a Z => ?_
        refine sO Z (.pointer (some ⟨blkOf v4, oofOf v4 + (i).toNat * 4, none⟩)) rfl (Ob_sidx tRh rfl rfl rfl rfl (slPl (H.owA 6 rfl) hg12) hg12) fun a Z => ?_
        refine s_runk tRh Z 1 rfl rfl fun a Z => ?_
        refine h_setR tRh Z H 6 (z := i) (d := default) 3 ({ e with batch := ({ client := ((gi m i).batch).client, req := ((gi m i).batch).req, ops := ((gi m i).batch).ops } : EBatch) } : EEntry) rfl hg12 rfl rfl rfl 4 rfl rfl rfl rfl rfl (by decide) (fun cl ⟨s0_, e, h0_⟩ => ⟨s0_, by rw [e]; rfl, h0_⟩) fun w13 H => ?_
        dsimp only [List.eraseIdx] at H
        refine s_end Z [0, 9] rfl fun Z => ?_
        refine pR Z fun Z => ?_
        refine s_runk tRh Z 4 rfl rfl fun a Z => ?_
        refine hT tRh Z H 2 rfl rfl (slS.cells (H.owshape 0 rfl)) rfl rfl (one_cons (slS.one (H.owshape 0 rfl)) one_nil) (Nat.le_of_ble_eq_true rfl) rfl fun w14 H => ?_
        dsimp only [List.eraseIdx] at H
        refine s_end Z [] rfl fun Z => ?_
        refine pR Z fun Z => ?_
        refine s_runk tRh Z 1 rfl rfl fun a Z => ?_
        refine s_end Z [6] rfl fun Z => ?_
        refine p_then (wp_ret ?_)
        refine p_then_r ?_
        obtain ⟨I5, _, H⟩ := H.frzow 1 rfl
        replace H := H.nf rfl; try dsimp only at H
        replace H := H.sX (OEref30_State b_l ({ l with log := ({ l := m.set (i).toNat ({ e with batch := ({ client := ((gi m i).batch).client, req := ((gi m i).batch).req, ops := ((gi m i).batch).ops } : EBatch) } : EEntry) } : Eref17_Log) } : Eref30_State)) (v2, v4) [(1, false), (3, true), (0, true)] rfl rfl rfl
        obtain rfl := some_in hF
        exact f_ret Z (run_results1 rfl Z rfl) ⟨rfl, I5, (H.sub [(0, false)] rfl).eq rfl⟩
      ·replace hF := ite_f hc7 hF
       refine wp_skip ?_
       refine p_then (wp_seq ?_)
       obtain ⟨hg13, hF⟩ := chk_in hF
       replace H : Hf I D w I2 w6 [SlC NEEntry (subV v3 0 ((i).toNat) 4) (l.log.l.take ((i).toNat)), SlC NEOp u3 (((gi l.log.l i).batch).ops), AtG ((0 : Int) ≤ i ∧ i < (ln l.log.l)) (blkOf v3) (oofOf v3 + (i).toNat * 4) (cEEntry (gi l.log.l i) u3), SlC NEOp u2 (((l.log.l.getD (i - 1).toNat default).batch).ops), AtG ((0 : Int) ≤ i - 1 ∧ i - 1 < (ln l.log.l)) (blkOf v3) (oofOf v3 + (i - 1).toNat * 4) (cEEntry (l.log.l.getD (i - 1).toNat default) u2), BxC b_l 36 (cEref30_State l v2 v3), BxC b1 44 (cEEntry e v1_e), SlC NEMember v2 l.conf.members, SlC NEEntry v3 l.log.l, SlC NEOp v1_e e.batch.ops] := H.slPart_to 7 rfl hg13 4 rfl
       obtain ⟨c_3, hx5, hF⟩ := bnd_in hF
       obtain ⟨c_4, hx6, hF⟩ := bnd_in hF
       obtain ⟨hg14, hF⟩ := chk_in hF
       refine f_regionG Z (by kernel_rfl) (by kernel_rfl) (by decide) (by decide) [7, 9, 10, 11, 14] [(0, [0, 1, 2, 3, 7, 15]), (0, [0, 2]), (2, [0, 2]), (6, [0, 2]), (14, [0, 2]), (0, [0, 2]), (62, [0, 2]), (126, [0, 2]), (0, [0, 1]), (256, [0, 1]), (1022, [3]), (2046, [7]), (4095, [15]), (8191, [15]), (16383, [15])] (by kernel_rfl) (fun jj => jj) (by kernel_rfl) (fun jj rv vv => cond (Nat.blt jj 7) (cond (Nat.blt jj 3) (cond (Nat.blt jj 1) (vv = pp b_l 4) (cond (Nat.blt jj 2) (vv = pp b_l 4) (vv = pp b_l 4))) (cond (Nat.blt jj 5) (cond (Nat.blt jj 4) (vv = pp b_l 4) (vv = v3)) (cond (Nat.blt jj 6) (vv = vI i) (vv = subV v3 0 ((i).toNat) 4)))) (cond (Nat.blt jj 11) (cond (Nat.blt jj 9) (cond (Nat.blt jj 8) (True) (vv = .agg (cEEntry e v1_e).toArray)) (cond (Nat.blt jj 10) (vv = .slice (some ⟨blkOf vv, 0, none⟩) 1 1) (True))) (cond (Nat.blt jj 13) (cond (Nat.blt jj 12) (True) (vv = pp b_l 4)) (cond (Nat.blt jj 14) (vv = pp b_l 4) (True))))) (fun ss vals1 xw => match ss with | 0 => Gx I D w I2 w6 xw [SlC NEEntry (subV v3 0 ((i).toNat) 4) (l.log.l.take ((i).toNat)), SlC NEOp u3 (((gi l.log.l i).batch).ops), AtG ((0 : Int) ≤ i ∧ i < (ln l.log.l)) (blkOf v3) (oofOf v3 + (i).toNat * 4) (cEEntry (gi l.log.l i) u3), SlC NEOp u2 (((l.log.l.getD (i - 1).toNat default).batch).ops), AtG ((0 : Int) ≤ i - 1 ∧ i - 1 < (ln l.log.l)) (blkOf v3) (oofOf v3 + (i - 1).toNat * 4) (cEEntry (l.log.l.getD (i - 1).toNat default) u2), BxC b_l 36 (cEref30_State l v2 v3), BxC b1 44 (cEEntry e v1_e), SlC NEMember v2 l.conf.members, SlC NEEntry v3 l.log.l, SlC NEOp v1_e e.batch.ops] | 1 => Gx I D w I2 w6 xw [OwC NEEntry 44 (vals1 7) c_3, SlC NEEntry (subV v3 0 ((i).toNat) 4) (l.log.l.take ((i).toNat)), SlC NEOp u3 (((gi l.log.l i).batch).ops), AtG ((0 : Int) ≤ i ∧ i < (ln l.log.l)) (blkOf v3) (oofOf v3 + (i).toNat * 4) (cEEntry (gi l.log.l i) u3), SlC NEOp u2 (((l.log.l.getD (i - 1).toNat default).batch).ops), AtG ((0 : Int) ≤ i - 1 ∧ i - 1 < (ln l.log.l)) (blkOf v3) (oofOf v3 + (i - 1).toNat * 4) (cEEntry (l.log.l.getD (i - 1).toNat default) u2), BxC b_l 36 (cEref30_State l v2 v3), BxC b1 44 (cEEntry e v1_e), SlC NEMember v2 l.conf.members, SlC NEEntry v3 l.log.l, SlC NEOp v1_e e.batch.ops] | 2 => Gx I D w I2 w6 xw [BxC (blkOf (vals1 9)) 44 (cEEntry e v1_e), SlC NEEntry (subV v3 0 ((i).toNat) 4) (l.log.l.take ((i).toNat)), SlC NEOp u3 (((gi l.log.l i).batch).ops), AtG ((0 : Int) ≤ i ∧ i < (ln l.log.l)) (blkOf v3) (oofOf v3 + (i).toNat * 4) (cEEntry (gi l.log.l i) u3), SlC NEOp u2 (((l.log.l.getD (i - 1).toNat default).batch).ops), AtG ((0 : Int) ≤ i - 1 ∧ i - 1 < (ln l.log.l)) (blkOf v3) (oofOf v3 + (i - 1).toNat * 4) (cEEntry (l.log.l.getD (i - 1).toNat default) u2), BxC b_l 36 (cEref30_State l v2 v3), BxC b1 44 (cEEntry e v1_e), SlC NEMember v2 l.conf.members, SlC NEEntry v3 l.log.l, SlC NEOp v1_e e.batch.ops] | 3 => Gx I D w I2 w6 xw [BxC (blkOf (vals1 9)) 44 (cEEntry e v1_e), OwC NEEntry 44 (vals1 7) c_3, SlC NEEntry (subV v3 0 ((i).toNat) 4) (l.log.l.take ((i).toNat)), SlC NEOp u3 (((gi l.log.l i).batch).ops), AtG ((0 : Int) ≤ i ∧ i < (ln l.log.l)) (blkOf v3) (oofOf v3 + (i).toNat * 4) (cEEntry (gi l.log.l i) u3), SlC NEOp u2 (((l.log.l.getD (i - 1).toNat default).batch).ops), AtG ((0 : Int) ≤ i - 1 ∧ i - 1 < (ln l.log.l)) (blkOf v3) (oofOf v3 + (i - 1).toNat * 4) (cEEntry (l.log.l.getD (i - 1).toNat default) u2), BxC b_l 36 (cEref30_State l v2 v3), BxC b1 44 (cEEntry e v1_e), SlC NEMember v2 l.conf.members, SlC NEEntry v3 l.log.l, SlC NEOp v1_e e.batch.ops] | 7 => Gx I D w I2 w6 xw [OwC NEEntry 44 (vals1 10) c_4, SlC NEEntry (.slice (some ⟨blkOf (vals1 9), 0, none⟩) 1 1) [e], OwC NEEntry 44 (vals1 7) c_3, SlC NEEntry (subV v3 0 ((i).toNat) 4) (l.log.l.take ((i).toNat)), SlC NEOp u3 (((gi l.log.l i).batch).ops), AtG ((0 : Int) ≤ i ∧ i < (ln l.log.l)) (blkOf v3) (oofOf v3 + (i).toNat * 4) (cEEntry (gi l.log.l i) u3), SlC NEOp u2 (((l.log.l.getD (i - 1).toNat default).batch).ops), AtG ((0 : Int) ≤ i - 1 ∧ i - 1 < (ln l.log.l)) (blkOf v3) (oofOf v3 + (i - 1).toNat * 4) (cEEntry (l.log.l.getD (i - 1).toNat default) u2), BxC b_l 36 (cEref30_State l v2 v3), BxC b1 44 (cEEntry e v1_e), SlC NEMember v2 l.conf.members, SlC NEEntry v3 l.log.l, SlC NEOp v1_e e.batch.ops] | 15 => Gx I D w I2 w6 xw [OwC NEEntry 44 (vals1 11) (c_3 ++ c_4), OwC NEEntry 44 (vals1 10) c_4, SlC NEEntry (.slice (some ⟨blkOf (vals1 9), 0, none⟩) 1 1) [e], SlC NEEntry (subV v3 0 ((i).toNat) 4) (l.log.l.take ((i).toNat)), SlC NEOp u3 (((gi l.log.l i).batch).ops), AtG ((0 : Int) ≤ i ∧ i < (ln l.log.l)) (blkOf v3) (oofOf v3 + (i).toNat * 4) (cEEntry (gi l.log.l i) u3), SlC NEOp u2 (((l.log.l.getD (i - 1).toNat default).batch).ops), AtG ((0 : Int) ≤ i - 1 ∧ i - 1 < (ln l.log.l)) (blkOf v3) (oofOf v3 + (i - 1).toNat * 4) (cEEntry (l.log.l.getD (i - 1).toNat default) u2), BxC b_l 36 (cEref30_State l v2 v3), BxC b1 44 (cEEntry e v1_e), SlC NEMember v2 l.conf.members, SlC NEEntry v3 l.log.l, SlC NEOp v1_e e.batch.ops] | _ => Gx I D w I2 w6 xw [BxC b_l 36 (cEref30_State l v2 (vals1 11)), OwC NEEntry 44 (vals1 11) (c_3 ++ c_4), OwC NEEntry 44 (vals1 10) c_4, SlC NEEntry (.slice (some ⟨blkOf (vals1 9), 0, none⟩) 1 1) [e], SlC NEEntry (subV v3 0 ((i).toNat) 4) (l.log.l.take ((i).toNat)), SlC NEOp u3 (((gi l.log.l i).batch).ops), AtG ((0 : Int) ≤ i ∧ i < (ln l.log.l)) (blkOf v3) (oofOf v3 + (i).toNat * 4) (cEEntry (gi l.log.l i) u3), SlC NEOp u2 (((l.log.l.getD (i - 1).toNat default).batch).ops), AtG ((0 : Int) ≤ i - 1 ∧ i - 1 < (ln l.log.l)) (blkOf v3) (oofOf v3 + (i - 1).toNat * 4) (cEEntry (l.log.l.getD (i - 1).toNat default) u2), BxC b1 44 (cEEntry e v1_e), SlC NEMember v2 l.conf.members, SlC NEEntry v3 l.log.l, SlC NEOp v1_e e.batch.ops]) (fun _ => Gx.start H) ?_ ?_
       ·intro fr hfr hfe
        refine .cons (fun ss hs vals1 xw hG hV => ?_) ?_
        ·obtain rfl | rfl | rfl | rfl | rfl | rfl : ss = 0 ∨ ss = 1 ∨ ss = 2 ∨ ss = 3 ∨ ss = 7 ∨ ss = 15 := by simpa using hs
         all_goals
         ·rw [← hfe]
          have hS := (hfr vals1).sub (ts := [0]) rfl
          exact L_val hS rfl (Ob_c tRh rfl) ⟨rfl, hG⟩
        refine .cons (fun ss hs vals1 xw hG hV => ?_) ?_
        ·obtain rfl | rfl : ss = 0 ∨ ss = 2 := by simpa using hs
         all_goals
         ·rw [← hfe]
          have hS := (hfr vals1).sub (ts := [0]) rfl
          exact L_val hS rfl (Ob_c tRh rfl) ⟨rfl, hG⟩
        refine .cons (fun ss hs vals1 xw hG hV => ?_) ?_
        ·obtain rfl | rfl : ss = 0 ∨ ss = 2 := by simpa using hs
         all_goals
         ·rw [← hfe]
          have hS := (hfr vals1).sub (ts := [132]) rfl
          replace hS := hS.conv (t := 132) rfl (show (vals1 1) = pp b_l 4 from hV 1 (by decide))
          exact L_val hS rfl (Ob_c tRh rfl) ⟨rfl, hG⟩
        refine .cons (fun ss hs vals1 xw hG hV => ?_) ?_
        ·obtain rfl | rfl : ss = 0 ∨ ss = 2 := by simpa using hs
         all_goals
         ·rw [← hfe]
          have hS := (hfr vals1).sub (ts := [133]) rfl
          replace hS := hS.conv (t := 133) rfl (show (vals1 2) = pp b_l 4 from hV 2 (by decide))
          exact L_val hS rfl (Ob_c tRh rfl) ⟨rfl, hG⟩
        refine .cons (fun ss hs vals1 xw hG hV => ?_) ?_
        ·obtain rfl | rfl : ss = 0 ∨ ss = 2 := by simpa using hs
         ·rw [← hfe]
          have hS := (hfr vals1).sub (ts := [134]) rfl
          replace hS := hS.conv (t := 134) rfl (show (vals1 3) = pp b_l 4 from hV 3 (by decide))
          obtain ⟨I2, hI2, H⟩ := Gx.ex hG
          exact L_val hS rfl (oL tRh rfl rfl (H.bc 5 4 rfl rfl)) ⟨rfl, hG⟩
         ·rw [← hfe]
          have hS := (hfr vals1).sub (ts := [134]) rfl
          replace hS := hS.conv (t := 134) rfl (show (vals1 3) = pp b_l 4 from hV 3 (by decide))
          obtain ⟨I2, hI2, H⟩ := Gx.ex hG
          exact L_val hS rfl (oL tRh rfl rfl (H.bc 6 4 rfl rfl)) ⟨rfl, hG⟩
        refine .cons (fun ss hs vals1 xw hG hV => ?_) ?_
        ·obtain rfl | rfl : ss = 0 ∨ ss = 2 := by simpa using hs
         all_goals
         ·rw [← hfe]
          have hS := (hfr vals1).sub (ts := [1]) rfl
          exact L_val hS rfl (Ob_c tRh rfl) ⟨rfl, hG⟩
        refine .cons (fun ss hs vals1 xw hG hV => ?_) ?_
        ·obtain rfl | rfl : ss = 0 ∨ ss = 2 := by simpa using hs
         ·rw [← hfe]
          have hS := (hfr vals1).sub (ts := [135, 136]) rfl
          replace hS := hS.conv (t := 135) rfl (show (vals1 4) = v3 from hV 4 (by decide))
          replace hS := hS.conv (t := 136) rfl (show (vals1 5) = vI i from hV 5 (by decide))
          obtain ⟨I2, hI2, H⟩ := Gx.ex hG
          exact L_val hS rfl (Ob_sub_to tRh rfl rfl rfl rfl (H.slshape 8 rfl) hg13) ⟨rfl, hG⟩
         ·rw [← hfe]
          have hS := (hfr vals1).sub (ts := [135, 136]) rfl
          replace hS := hS.conv (t := 135) rfl (show (vals1 4) = v3 from hV 4 (by decide))
          replace hS := hS.conv (t := 136) rfl (show (vals1 5) = vI i from hV 5 (by decide))
          obtain ⟨I2, hI2, H⟩ := Gx.ex hG
          exact L_val hS rfl (Ob_sub_to tRh rfl rfl rfl rfl (H.slshape 9 rfl) hg13) ⟨rfl, hG⟩
        refine .cons (fun ss hs vals1 xw hG hV => ?_) ?_
        ·obtain rfl | rfl : ss = 0 ∨ ss = 2 := by simpa using hs
         ·rw [← hfe]
          have hS := (hfr vals1).sub (ts := [137]) rfl
          replace hS := hS.conv (t := 137) rfl (show (vals1 6) = subV v3 0 ((i).toNat) 4 from hV 6 (by decide))
          obtain ⟨I2, hI2, H⟩ := Gx.ex hG
          refine L_hcall H (js := [(0, true)]) rfl (caps := #[]) hS fn_72_YRh rfl rfl rfl rfl rfl (fun D1 hS => have hq := c_ref17_Copy hx5 hS; hq) fun _ yw D1 hr hF2 => ?_
          obtain ⟨q0_, rfl, I3, K⟩ := hr
          obtain ⟨hK, H2⟩ := hF2 K
          exact ⟨trivial, Gx.go hG hI2 hK K.imm H2⟩
         ·rw [← hfe]
          have hS := (hfr vals1).sub (ts := [137]) rfl
          replace hS := hS.conv (t := 137) rfl (show (vals1 6) = subV v3 0 ((i).toNat) 4 from hV 6 (by decide))
          obtain ⟨I2, hI2, H⟩ := Gx.ex hG
          refine L_hcall H (js := [(1, true)]) rfl (caps := #[]) hS fn_72_YRh rfl rfl rfl rfl rfl (fun D1 hS => have hq := c_ref17_Copy hx5 hS; hq) fun _ yw D1 hr hF2 => ?_
          obtain ⟨q0_, rfl, I3, K⟩ := hr
          obtain ⟨hK, H2⟩ := hF2 K
          exact ⟨trivial, Gx.go hG hI2 hK K.imm (Hf.sub H2 [(1, false), (0, false), (0, true), (1, true), (2, true), (3, true), (4, true), (5, false), (5, false), (5, true), (6, true), (7, true)] rfl)⟩
        refine .cons (fun ss hs vals1 xw hG hV => ?_) ?_
        ·obtain rfl | rfl : ss = 0 ∨ ss = 1 := by simpa using hs
         ·rw [← hfe]
          have hS := (hfr vals1).sub (ts := [5]) rfl
          obtain ⟨I2, hI2, H⟩ := Gx.ex hG
          exact L_val hS rfl (oA tRh rfl rfl ((H.bx 6 rfl).part 0 rfl)) ⟨rfl, hG⟩
         ·rw [← hfe]
          have hS := (hfr vals1).sub (ts := [5]) rfl
          obtain ⟨I2, hI2, H⟩ := Gx.ex hG
          exact L_val hS rfl (oA tRh rfl rfl ((H.bx 7 rfl).part 0 rfl)) ⟨rfl, hG⟩
        refine .cons (fun ss hs vals1 xw hG hV => ?_) ?_
        ·obtain rfl | rfl : ss = 0 ∨ ss = 1 := by simpa using hs
         all_goals
         ·rw [← hfe]
          have hS := (hfr vals1).sub (ts := [139]) rfl
          replace hS := hS.conv (t := 139) rfl (show (vals1 8) = .agg (cEEntry e v1_e).toArray from hV 8 (by decide))
          obtain ⟨I2, hI2, H⟩ := Gx.ex hG
          exact L_bslice H (vs := [(0, .agg #[vI e.batch.client, vI e.batch.req, v1_e, vU e.ts])]) (cl := [vI e.batch.client, vI e.batch.req, v1_e, vU e.ts]) (e := 44) hS rfl rfl rfl (fun w => run_bslice (z := .agg #[vI 0, vI 0, nS, vU 0]) (m := 4) Tryz.underlying32 (by kernel_rfl) rfl rfl (by decide) (by simp [Instr.fill, Value.cells]) w) fun yw b hK H => ⟨rfl, Gx.go hG hI2 hK (fun _ h => h) H⟩
        refine .cons (fun ss hs vals1 xw hG hV => ?_) ?_
        ·obtain rfl : ss = 3 := by simpa using hs
         rw [← hfe]
         have hS := (hfr vals1).sub (ts := [140]) rfl
         replace hS := hS.conv (t := 140) rfl (show (vals1 9) = .slice (some ⟨blkOf (vals1 9), 0, none⟩) 1 1 from hV 9 (by decide))
         obtain ⟨I2, hI2, H⟩ := Gx.ex hG
         obtain ⟨J0, hJ0, H⟩ := H.frzlit 0 rfl (R := NEEntry) [(cEEntry e v1_e)] [e] rfl rfl (fun i h1 h2 => by match i, h1, h2 with | 0, _, _ => exact ⟨_, rfl, (H.sl 11 rfl)⟩) (show 1 ≤ maxLen from by decide) (n := 1) rfl
         refine L_hcall H (js := [(0, true)]) rfl (caps := #[]) hS fn_72_YRh rfl rfl rfl rfl rfl (fun D1 hS => have hq := c_ref17_Copy hx6 hS; hq) fun _ yw D1 hr hF2 => ?_
         obtain ⟨q0_, rfl, I3, K⟩ := hr
         obtain ⟨hK, H2⟩ := hF2 K
         exact ⟨trivial, Gx.go hG hI2 (hK.sub fun k h => (hJ0 k h)) (fun k h => K.imm k (hJ0 k h)) H2⟩
        refine .cons (fun ss hs vals1 xw hG hV => ?_) ?_
        ·obtain rfl : ss = 7 := by simpa using hs
         rw [← hfe]
         have hS := (hfr vals1).sub (ts := [138, 141]) rfl
         obtain ⟨I2, hI2, H⟩ := Gx.ex hG
         exact L_appO H 2 E_32_YRh c_4 rfl rfl hS rfl rfl rfl rfl (H.ow2 0 rfl) hg14 (by decide) fun v yw hK H => ⟨trivial, Gx.go hG hI2 hK (fun _ h => h) H⟩
        refine .cons (fun ss hs vals1 xw hG hV => ?_) ?_
        ·obtain rfl : ss = 15 := by simpa using hs
         rw [← hfe]
         have hS := (hfr vals1).sub (ts := [131]) rfl
         replace hS := hS.conv (t := 131) rfl (show (vals1 0) = pp b_l 4 from hV 0 (by decide))
         exact L_val hS rfl (Ob_c tRh rfl) ⟨rfl, hG⟩
        refine .cons (fun ss hs vals1 xw hG hV => ?_) ?_
        ·obtain rfl : ss = 15 := by simpa using hs
         rw [← hfe]
         have hS := (hfr vals1).sub (ts := [143]) rfl
         replace hS := hS.conv (t := 143) rfl (show (vals1 12) = pp b_l 4 from hV 12 (by decide))
         exact L_val hS rfl (Ob_c tRh rfl) ⟨rfl, hG⟩
        refine .cons (fun ss hs vals1 xw hG hV => ?_) ?_
        ·obtain rfl : ss = 15 := by simpa using hs
         rw [← hfe]
         have hS := (hfr vals1).sub (ts := [144, 142]) rfl
         replace hS := hS.conv (t := 144) rfl (show (vals1 13) = pp b_l 4 from hV 13 (by decide))
         obtain ⟨I2, hI2, H⟩ := Gx.ex hG
         exact L_store tRh H 8 rfl hS rfl rfl rfl rfl rfl (slS.cells (H.owshape 0 rfl)) rfl rfl (one_cons (slS.one (H.owshape 0 rfl)) one_nil) (Nat.le_of_ble_eq_true rfl) rfl fun yw hK H => ⟨trivial, Gx.go hG hI2 hK (fun _ h => h) H⟩
        exact .nil
       ·intro vals1 a w15 Z hG hV
        replace Z := Z.sub (ts := []) (S' := []) rfl
        obtain ⟨I6, _, H⟩ := Gx.ex hG
        clear hG hV
        replace Z := Z.sub (ts := []) rfl
        replace H : Hf I D w I6 w15 [BxC b_l 36 (cEref30_State l v2 (vals1 11)), OwC NEEntry 44 (vals1 11) (c_3 ++ c_4), OwC NEEntry 44 (vals1 10) c_4, SlC NEEntry (.slice (some ⟨blkOf (vals1 9), 0, none⟩) 1 1) [e], SlC NEEntry (subV v3 0 ((i).toNat) 4) (l.log.l.take ((i).toNat)), SlC NEOp u3 (((gi l.log.l i).batch).ops), AtG ((0 : Int) ≤ i ∧ i < (ln l.log.l)) (blkOf v3) (oofOf v3 + (i).toNat * 4) (cEEntry (gi l.log.l i) u3), SlC NEOp u2 (((l.log.l.getD (i - 1).toNat default).batch).ops), AtG ((0 : Int) ≤ i - 1 ∧ i - 1 < (ln l.log.l)) (blkOf v3) (oofOf v3 + (i - 1).toNat * 4) (cEEntry (l.log.l.getD (i - 1).toNat default) u2), BxC b1 44 (cEEntry e v1_e), SlC NEMember v2 l.conf.members, SlC NEEntry v3 l.log.l, SlC NEOp v1_e e.batch.ops] := H
        refine pR Z fun Z => ?_
        refine s_runk tRh Z 1 rfl rfl fun a Z => ?_
        refine s_end Z [6] rfl fun Z => ?_
        refine p_then (wp_ret ?_)
        obtain ⟨I7, _, H⟩ := H.frzow 1 rfl
        replace H : Hf I D w I7 w15 [SlC NEEntry (vals1 11) (c_3 ++ c_4), BxC b_l 36 (cEref30_State l v2 (vals1 11)), OwC NEEntry 44 (vals1 10) c_4, SlC NEEntry (.slice (some ⟨blkOf (vals1 9), 0, none⟩) 1 1) [e], SlC NEEntry (subV v3 0 ((i).toNat) 4) (l.log.l.take ((i).toNat)), SlC NEOp u3 (((gi l.log.l i).batch).ops), AtG ((0 : Int) ≤ i ∧ i < (ln l.log.l)) (blkOf v3) (oofOf v3 + (i).toNat * 4) (cEEntry (gi l.log.l i) u3), SlC NEOp u2 (((l.log.l.getD (i - 1).toNat default).batch).ops), AtG ((0 : Int) ≤ i - 1 ∧ i - 1 < (ln l.log.l)) (blkOf v3) (oofOf v3 + (i - 1).toNat * 4) (cEEntry (l.log.l.getD (i - 1).toNat default) u2), BxC b1 44 (cEEntry e v1_e), SlC NEMember v2 l.conf.members, SlC NEEntry v3 l.log.l, SlC NEOp v1_e e.batch.ops] := H
        replace H := H.sX (OEref30_State b_l ({ l with log := ({ l := c_3 ++ c_4 } : Eref17_Log) } : Eref30_State)) (v2, (vals1 11)) [(1, false), (9, true), (0, true)] rfl rfl rfl
        obtain rfl := some_in hF
        exact f_ret Z (run_results1 rfl Z rfl) ⟨rfl, I7, (H.sub [(0, false)] rfl).eq rfl⟩

def F_ref08_Stamped_l1 (l : List EEntry) (rc : Int → Option Int) (sg : Int) : Option Int := match sg with | i => if (decide (i < (l.length : Int))) = true then (chk ((0 : Int) ≤ i ∧ i < (l.length : Int)) (if (((l.getD (i).toNat default).ts) == 0) = true then (some i) else (chk (inI (i + 1)) (rc (i + 1))))) else (some (l.length : Int))

def F_ref08_Stamped (l : List EEntry) : Option Int := iter (F_ref08_Stamped_l1 l) FU 0

set_option maxHeartbeats 1000000 in
theorem c_ref08_Stamped {I D : Dm} {l : List EEntry} {v1_l : Value} {w : World} {rr : Int} (hF : F_ref08_Stamped l = some rr) (H : St I D w [SlC NEEntry v1_l l]) :
  Calls Tryz.prog 35 #[v1_l] w (Ret fun vv w' => vv = vI rr ∧ ∃ I', Hf I D w I' w' []) := by
 replace H := H.hf
 unfold F_ref08_Stamped at hF
 refine f_enter 19 Tryz.func35 rfl rfl (Nat.le_of_ble_eq_true rfl) fun a Z => ?_
 replace Z := Z.sub (ts := [0]) rfl
 refine sR Z fun Z => ?_
 refine s_runk tRh Z 1 rfl rfl fun a Z => ?_
 refine s_end Z [0] rfl fun Z => ?_
 refine p_then (wp_seq ?_)
 refine sR Z fun Z => ?_
 refine s_runk tRh Z 1 rfl rfl fun a Z => ?_
 refine s_end Z [0, 3] rfl fun Z => ?_
 refine p_then (wp_block ?_)
 refine f_iter hF (fun sg a' w' => match sg with | i => Sl 19 [(0, v1_l), (3, vI i)] a' ∧ ∃ I2, Hf I D w I2 w' [SlC NEEntry v1_l l]) ⟨Z.sub (ts := [0, 3]) rfl, ⟨I, (H.sub [(0, true)] rfl).eq rfl⟩⟩ ?_
 rintro rc i a w1 ⟨Z, I1, H⟩ hF
 unfold F_ref08_Stamped_l1 at hF
 try dsimp only at hF
 refine wp_seq ?_
 refine sR Z fun Z => ?_
 refine s_runk tRh Z 2 rfl rfl fun a Z => ?_
 refine sO Z (vI (ln l)) rfl (Ob_slen tRh rfl rfl rfl (H.slshape 0 rfl)) fun a Z => ?_
 refine s_runk tRh Z 1 rfl rfl fun a Z => ?_
 refine s_end Z [0, 3, 7] rfl fun Z => ?_
 refine p_then ?_
 refine f_cond Z rfl (fun hc1 => ?_) (fun hc1 => ?_)
 ·replace hF := ite_t hc1 hF
  refine wp_skip ?_
  refine p_then (wp_seq ?_)
  refine wp_block ?_
  refine wp_seq ?_
  obtain ⟨hg1, hF⟩ := chk_in hF
  refine f_region Z fun Z => ?_
  refine s_runk tRh Z 2 rfl rfl fun a Z => ?_
  refine sO Z (.pointer (some ⟨blkOf v1_l, oofOf v1_l + (i).toNat * 4, none⟩)) rfl (Ob_sidx tRh rfl rfl rfl rfl (slPl (H.sl 0 rfl) hg1) hg1) fun a Z => ?_
  refine s_runk tRh Z 1 rfl rfl fun a Z => ?_
  obtain ⟨_, ⟨u1, rfl, L1⟩, H⟩ := H.elG 0 rfl (i) (NEEntry.dft _ _)
  replace H := H.addsl L1
  replace H : Hf I D w I1 w1 [SlC NEOp u1 (((gi l i).batch).ops), AtG ((0 : Int) ≤ i ∧ i < (ln l)) (blkOf v1_l) (oofOf v1_l + (i).toNat * 4) (cEEntry (gi l i) u1), SlC NEEntry v1_l l] := H
  refine sO Z (vU ((gi l i).ts)) rfl (oL tRh rfl rfl ((H.atg 1 rfl hg1) 3 _ rfl)) fun a Z => ?_
  refine s_runk tRh Z 1 rfl rfl fun a Z => ?_
  refine s_end Z [0, 3, 15] rfl fun Z => ?_
  refine p_then ?_
  refine f_cond Z rfl (fun hc2 => ?_) (fun hc2 => ?_)
  ·replace hF := ite_t hc2 hF
   refine sR Z fun Z => ?_
   refine s_runk tRh Z 2 rfl rfl fun a Z => ?_
   refine s_end Z [2] rfl fun Z => ?_
   refine p_then (wp_ret ?_)
   refine p_blk_r ?_
   refine p_then_r ?_
   refine p_then_r ?_
   refine p_blk_r ?_
   refine p_then_r ?_
   obtain rfl := some_in hF
   exact f_ret Z (run_results1 rfl Z rfl) ⟨rfl, I1, (H.sub [] rfl).eq rfl⟩
  ·replace hF := ite_f hc2 hF
   refine wp_skip ?_
   refine p_blk ?_
   refine p_then ?_
   obtain ⟨hg2, hF⟩ := chk_in hF
   refine f_region Z fun Z => ?_
   refine s_runk tRh Z 1 rfl rfl fun a Z => ?_
   refine sO Z (vI (i + 1)) rfl (Ob_add rfl rfl rfl (wrI hg2)) fun a Z => ?_
   refine s_runk tRh Z 1 rfl rfl fun a Z => ?_
   refine s_end Z [0, 3] rfl fun Z => ?_
   refine p_then ?_
   exact ⟨(i + 1), ⟨Z.sub (ts := [0, 3]) rfl, ⟨I1, (H.sub [(2, true)] rfl).eq rfl⟩⟩, hF⟩
 ·replace hF := ite_f hc1 hF
  refine wp_exit ?_
  refine p_then_x ?_
  refine p_then_x ?_
  refine f_exit_here ?_
  refine pR Z fun Z => ?_
  refine s_runk tRh Z 1 rfl rfl fun a Z => ?_
  refine sO Z (vI (ln l)) rfl (Ob_slen tRh rfl rfl rfl (H.slshape 0 rfl)) fun a Z => ?_
  refine s_runk tRh Z 1 rfl rfl fun a Z => ?_
  refine s_end Z [2] rfl fun Z => ?_
  refine p_then (wp_ret ?_)
  obtain rfl := some_in hF
  exact f_ret Z (run_results1 rfl Z rfl) ⟨rfl, I1, (H.sub [] rfl).eq rfl⟩

def F_ref08_Last (l : List EEntry) : Option Int := (F_ref08_Stamped l).bind fun s0 => (if (s0 == 0) = true then (some 0) else (chk (inI (s0 - 1)) (chk ((0 : Int) ≤ s0 - 1 ∧ s0 - 1 < (l.length : Int)) (some ((l.getD (s0 - 1).toNat default).ts)))))

set_option maxHeartbeats 1000000 in
theorem c_ref08_Last {I D : Dm} {l : List EEntry} {v1_l : Value} {w : World} {rr : Int} (hF : F_ref08_Last l = some rr) (H : St I D w [SlC NEEntry v1_l l]) :
  Calls Tryz.prog 73 #[v1_l] w (Ret fun vv w' => vv = vU rr ∧ ∃ I', Hf I D w I' w' []) := by
 replace H := H.hf
 unfold F_ref08_Last at hF
 refine f_enter 14 Tryz.func73 rfl rfl (Nat.le_of_ble_eq_true rfl) fun a Z => ?_
 replace Z := Z.sub (ts := [0]) rfl
 refine sR Z fun Z => ?_
 refine s_runk tRh Z 1 rfl rfl fun a Z => ?_
 refine s_end Z [0] rfl fun Z => ?_
 refine p_then (wp_seq ?_)
 obtain ⟨s0, hx1, hF⟩ := bnd_in hF
 refine f_region Z fun Z => ?_
 refine s_runk tRh Z 1 rfl rfl fun a Z => ?_
 refine hC Z H [(0, true)] rfl #[] fn_35_YRh rfl rfl (fun D h => have q := c_ref08_Stamped hx1 h; q) fun vv a w1 D2 hr hF2 Z => ?_
 obtain ⟨rfl, I1, K⟩ := hr
 have H := (hF2 K).nf rfl
 refine s_runk tRh Z 1 rfl rfl fun a Z => ?_
 refine s_end Z [0, 3] rfl fun Z => ?_
 refine p_then (wp_seq ?_)
 refine sR Z fun Z => ?_
 refine s_runk tRh Z 2 rfl rfl fun a Z => ?_
 refine s_end Z [0, 3, 7] rfl fun Z => ?_
 refine p_then ?_
 refine f_cond Z rfl (fun hc1 => ?_) (fun hc1 => ?_)
 ·replace hF := ite_t hc1 hF
  refine sR Z fun Z => ?_
  refine s_runk tRh Z 1 rfl rfl fun a Z => ?_
  refine s_end Z [2] rfl fun Z => ?_
  refine p_then (wp_ret ?_)
  refine p_then_r ?_
  obtain rfl := some_in hF
  exact f_ret Z (run_results1 rfl Z rfl) ⟨rfl, I1, (H.sub [] rfl).eq rfl⟩
 ·replace hF := ite_f hc1 hF
  refine wp_skip ?_
  refine p_then (wp_seq ?_)
  obtain ⟨hg1, hF⟩ := chk_in hF
  obtain ⟨hg2, hF⟩ := chk_in hF
  refine f_region Z fun Z => ?_
  refine s_runk tRh Z 2 rfl rfl fun a Z => ?_
  refine sO Z (vI (s0 - 1)) rfl (Ob_sub rfl rfl rfl (wrI hg1)) fun a Z => ?_
  refine sO Z (.pointer (some ⟨blkOf v1_l, oofOf v1_l + (s0 - 1).toNat * 4, none⟩)) rfl (Ob_sidx tRh rfl rfl rfl rfl (slPl (H.sl 0 rfl) hg2) hg2) fun a Z => ?_
  refine s_runk tRh Z 1 rfl rfl fun a Z => ?_
  obtain ⟨_, ⟨u1, rfl, L1⟩, H⟩ := H.elG 0 rfl (s0 - 1) (NEEntry.dft _ _)
  replace H := H.addsl L1
  replace H : Hf I D w I1 w1 [SlC NEOp u1 (((l.getD (s0 - 1).toNat default).batch).ops), AtG ((0 : Int) ≤ s0 - 1 ∧ s0 - 1 < (ln l)) (blkOf v1_l) (oofOf v1_l + (s0 - 1).toNat * 4) (cEEntry (l.getD (s0 - 1).toNat default) u1), SlC NEEntry v1_l l] := H
  refine sO Z (vU ((l.getD (s0 - 1).toNat default).ts)) rfl (oL tRh rfl rfl ((H.atg 1 rfl hg2) 3 _ rfl)) fun a Z => ?_
  refine s_runk tRh Z 1 rfl rfl fun a Z => ?_
  refine s_end Z [2] rfl fun Z => ?_
  refine p_then (wp_ret ?_)
  obtain rfl := some_in hF
  exact f_ret Z (run_results1 rfl Z rfl) ⟨rfl, I1, (H.sub [] rfl).eq rfl⟩

def F_ref17_Log_Stamp (l : Eref30_State) (i : Int) (ts : Int) : Option (Int × Eref30_State) := if ((decide (i < 0)) || (decide (i ≥ (l.log.l.length : Int)))) = true then (some (1, l)) else (if (ts == 0) = true then (some (5, l)) else ((F_ref08_Stamped l.log.l).bind fun s0 => ((gif (!(i != s0)) (F_ref08_Last l.log.l) default).bind fun l_2 => (if ((i != s0) || (decide (ts ≤ l_2))) = true then (some (18, l)) else ((F_ref17_Copy l.log.l).bind fun c => (chk ((0 : Int) ≤ i ∧ i < (c.length : Int)) (some (0, ({ l with log := ({ l := c.set (i).toNat ({ batch := ({ client := ((c.getD (i).toNat default).batch).client, req := ((c.getD (i).toNat default).batch).req, ops := ((c.getD (i).toNat default).batch).ops } : EBatch), ts := ts } : EEntry) } : Eref17_Log) } : Eref30_State)))))))))

set_option maxHeartbeats 1000000 in
theorem c_ref17_Log_Stamp {I D : Dm} {b_l : Nat} {l : Eref30_State} {i : Int} {ts : Int} {w : World} {rr : Int × Eref30_State} (hF : F_ref17_Log_Stamp l i ts = some rr) (H : St I D w [OEref30_State b_l l]) :
  Calls Tryz.prog 27 #[pp b_l 4, vI i, vU ts] w (Ret fun vv w' => vv = vI rr.1 ∧ ∃ I', Hf I D w I' w' [OEref30_State b_l rr.2]) := by
 replace H := H.hf
 unfold F_ref17_Log_Stamp at hF
 refine f_enter 51 Tryz.func27 rfl rfl (Nat.le_of_ble_eq_true rfl) fun a Z => ?_
 replace Z := Z.sub (ts := [0, 1, 2]) rfl
 refine sR Z fun Z => ?_
 refine s_runk tRh Z 1 rfl rfl fun a Z => ?_
 refine s_end Z [0, 1, 2] rfl fun Z => ?_
 refine p_then (wp_seq ?_)
 refine sR Z fun Z => ?_
 refine s_runk tRh Z 3 rfl rfl fun a Z => ?_
 refine gO Z (vI i) rfl (wantB_f _) (.n 1 rfl .z) (fun hp => Ob_c tRh rfl) fun a Z => ?_
 refine gO Z (pp b_l 4) rfl (wantB_f _) (.n 0 rfl .z) (fun hp => Ob_c tRh rfl) fun a Z => ?_
 refine gO Z (pp b_l 4) rfl (wantB_f _) (.c 12 rfl id .z) (fun hp => Ob_c tRh rfl) fun a Z => ?_
 refine gO Z (pp b_l 4) rfl (wantB_f _) (.c 13 rfl id .z) (fun hp => Ob_c tRh rfl) fun a Z => ?_
 obtain ⟨⟨v1, v2⟩, H⟩ := H.openX 0 rfl
 replace H := H.nf rfl; try dsimp only at H
 refine gO Z _ rfl (wantB_f _) (.c 14 rfl id .z) (fun hp => oL tRh rfl rfl (H.bc 0 4 rfl rfl)) fun a Z => ?_
 refine gO Z (vI (ln l.log.l)) rfl (wantB_f _) (.c 15 rfl id .z) (fun hp => Ob_slen tRh rfl rfl rfl (H.slshape 2 rfl)) fun a Z => ?_
 refine gO Z (vT (decide (i ≥ (ln l.log.l)))) rfl (wantB_f _) (.c 11 rfl id (.c 16 rfl id .z)) (fun hp => Ob_c tRh rfl) fun a Z => ?_
 refine sO Z (vT ((decide (i < 0)) || (decide (i ≥ (ln l.log.l))))) rfl (Ob_pick rfl rfl rfl rfl (pick_or _ _)) fun a Z => ?_
 refine s_end Z [0, 1, 2, 18] rfl fun Z => ?_
 refine p_then ?_
 refine f_cond Z rfl (fun hc1 => ?_) (fun hc1 => ?_)
 ·replace hF := ite_t hc1 hF
  refine sR Z fun Z => ?_
  refine s_runk tRh Z 1 rfl rfl fun a Z => ?_
  refine s_end Z [6] rfl fun Z => ?_
  refine p_then (wp_ret ?_)
  refine p_then_r ?_
  replace H := H.sX (OEref30_State b_l l) (v1, v2) [(0, false), (0, true), (1, true)] rfl rfl rfl
  obtain rfl := some_in hF
  exact f_ret Z (run_results1 rfl Z rfl) ⟨rfl, I, (H.sub [(0, false)] rfl).eq rfl⟩
 ·replace hF := ite_f hc1 hF
  refine wp_skip ?_
  refine p_then (wp_seq ?_)
  refine sR Z fun Z => ?_
  refine s_runk tRh Z 2 rfl rfl fun a Z => ?_
  refine s_end Z [0, 1, 2, 20] rfl fun Z => ?_
  refine p_then ?_
  refine f_cond Z rfl (fun hc2 => ?_) (fun hc2 => ?_)
  ·replace hF := ite_t hc2 hF
   refine sR Z fun Z => ?_
   refine s_runk tRh Z 1 rfl rfl fun a Z => ?_
   refine s_end Z [6] rfl fun Z => ?_
   refine p_then (wp_ret ?_)
   refine p_then_r ?_
   replace H := H.sX (OEref30_State b_l l) (v1, v2) [(0, false), (0, true), (1, true)] rfl rfl rfl
   obtain rfl := some_in hF
   exact f_ret Z (run_results1 rfl Z rfl) ⟨rfl, I, (H.sub [(0, false)] rfl).eq rfl⟩
  ·replace hF := ite_f hc2 hF
   refine wp_skip ?_
   refine p_then (wp_seq ?_)
   refine wp_seq ?_
   obtain ⟨s0, hx1, hF⟩ := bnd_in hF
   obtain ⟨l_2, hx2, hF⟩ := bnd_in hF
   refine f_region Z fun Z => ?_
   refine s_runk tRh Z 4 rfl rfl fun a Z => ?_
   refine sO Z _ rfl (oL tRh rfl rfl (H.bc 0 4 rfl rfl)) fun a Z => ?_
   refine hC Z H [(2, true)] rfl #[] fn_35_YRh rfl rfl (fun D h => have q := c_ref08_Stamped hx1 h; q) fun vv a w1 D2 hr hF2 Z => ?_
   obtain ⟨rfl, I1, K⟩ := hr
   have H := (hF2 K).nf rfl
   refine s_runk tRh Z 2 rfl rfl fun a Z => ?_
   refine gO Z (vU ts) rfl (wantB_f _) (.n 2 rfl .z) (fun hp => Ob_c tRh rfl) fun a Z => ?_
   refine gO Z (pp b_l 4) rfl (wantB_f _) (.n 0 rfl .z) (fun hp => Ob_c tRh rfl) fun a Z => ?_
   refine gO Z (pp b_l 4) rfl (wantB_f _) (.c 30 rfl id .z) (fun hp => Ob_c tRh rfl) fun a Z => ?_
   refine gO Z (pp b_l 4) rfl (wantB_f _) (.c 31 rfl id .z) (fun hp => Ob_c tRh rfl) fun a Z => ?_
   refine gO Z _ rfl (wantB_f _) (.c 32 rfl id .z) (fun hp => oL tRh rfl rfl (H.bc 0 4 rfl rfl)) fun a Z => ?_
   refine g_call Z (p := (!(i != s0))) (v := vU l_2) (S' := [(33, v2)]) (caps := #[]) fn_73_YRh rfl rfl rfl (wantB_f _) rfl (by decide) (fun hp hS => (hS.conv (t := 33) rfl (cond_t hp)).sub (ts := [33]) rfl) rfl rfl rfl rfl (fun hp => (have hq := c_ref08_Last (gif_in hx2 hp) ((H).pick0 (js := [(2, true)]) rfl rfl); plainC hq)) fun a w2 hb Z => ?_
   replace H := H.blw hb
   clear hb
   refine gO Z (vT (decide (ts ≤ l_2))) rfl (wantB_f _) (.c 29 rfl id (.c 34 rfl id .z)) (fun hp => Ob_c tRh rfl) fun a Z => ?_
   refine sO Z (vT ((i != s0) || (decide (ts ≤ l_2)))) rfl (Ob_pick rfl rfl rfl rfl (pick_or _ _)) fun a Z => ?_
   refine s_end Z [0, 1, 2, 36] rfl fun Z => ?_
   refine p_then ?_
   refine f_cond Z rfl (fun hc3 => ?_) (fun hc3 => ?_)
   ·replace hF := ite_t hc3 hF
    refine sR Z fun Z => ?_
    refine s_runk tRh Z 1 rfl rfl fun a Z => ?_
    refine s_end Z [6] rfl fun Z => ?_
    refine p_then (wp_ret ?_)
    refine p_then_r ?_
    replace H := H.sX (OEref30_State b_l l) (v1, v2) [(0, false), (0, true), (1, true)] rfl rfl rfl
    obtain rfl := some_in hF
    exact f_ret Z (run_results1 rfl Z rfl) ⟨rfl, I1, (H.sub [(0, false)] rfl).eq rfl⟩
   ·replace hF := ite_f hc3 hF
    refine wp_skip ?_
    refine p_then (wp_seq ?_)
    obtain ⟨c, hx3, hF⟩ := bnd_in hF
    refine f_region Z fun Z => ?_
    refine s_runk tRh Z 3 rfl rfl fun a Z => ?_
    refine sO Z _ rfl (oL tRh rfl rfl (H.bc 0 4 rfl rfl)) fun a Z => ?_
    refine hC Z H [(2, true)] rfl #[] fn_72_YRh rfl rfl (fun D h => have q := c_ref17_Copy hx3 h; q) fun vv a w3 D2 hr hF2 Z => ?_
    obtain ⟨q1, hvv, I2, K⟩ := hr; obtain rfl := hvv.symm
    have H := (hF2 K).nf rfl
    refine s_runk tRh Z 1 rfl rfl fun a Z => ?_
    refine s_end Z [0, 1, 2, 7] rfl fun Z => ?_
    refine p_then (wp_seq ?_)
    obtain ⟨hg1, hF⟩ := chk_in hF
    refine f_region Z fun Z => ?_
    refine s_runk tRh Z 3 rfl rfl fun a Z => ?_
    refine sO Z (.pointer (some ⟨blkOf q1, oofOf q1 + (i).toNat * 4, none⟩)) rfl (Ob_sidx tRh rfl rfl rfl rfl (slPl (H.owA 0 rfl) hg1) hg1) fun a Z => ?_
    refine s_runk tRh Z 1 rfl rfl fun a Z => ?_
    refine h_setR tRh Z H 0 (z := i) (d := default) 3 ({ batch := ({ client := ((gi c i).batch).client, req := ((gi c i).batch).req, ops := ((gi c i).batch).ops } : EBatch), ts := ts } : EEntry) rfl hg1 rfl rfl rfl 4 rfl rfl rfl rfl rfl (by decide) (fun cl ⟨s0_, e, h0_⟩ => ⟨s0_, by rw [e]; rfl, h0_⟩) fun w5 H => ?_
    dsimp only [List.eraseIdx] at H
    refine s_end Z [0, 7] rfl fun Z => ?_
    refine pR Z fun Z => ?_
    refine s_runk tRh Z 4 rfl rfl fun a Z => ?_
    refine hT tRh Z H 1 rfl rfl (slS.cells (H.owshape 0 rfl)) rfl rfl (one_cons (slS.one (H.owshape 0 rfl)) one_nil) (Nat.le_of_ble_eq_true rfl) rfl fun w6 H => ?_
    dsimp only [List.eraseIdx] at H
    refine s_end Z [] rfl fun Z => ?_
    refine pR Z fun Z => ?_
    refine s_runk tRh Z 1 rfl rfl fun a Z => ?_
    refine s_end Z [6] rfl fun Z => ?_
    refine p_then (wp_ret ?_)
    obtain ⟨I3, _, H⟩ := H.frzow 1 rfl
    replace H := H.nf rfl; try dsimp only at H
    replace H := H.sX (OEref30_State b_l ({ l with log := ({ l := c.set (i).toNat ({ batch := ({ client := ((gi c i).batch).client, req := ((gi c i).batch).req, ops := ((gi c i).batch).ops } : EBatch), ts := ts } : EEntry) } : Eref17_Log) } : Eref30_State)) (v1, q1) [(1, false), (1, true), (0, true)] rfl rfl rfl
    obtain rfl := some_in hF
    exact f_ret Z (run_results1 rfl Z rfl) ⟨rfl, I3, (H.sub [(0, false)] rfl).eq rfl⟩

def F_ref17_Log_Find_l1 (l : Eref30_State) (client : Int) (req : Int) (rc : Int → Option Int) (sg : Int) : Option Int := match sg with | i => if (decide (i < (l.log.l.length : Int))) = true then (chk ((0 : Int) ≤ i ∧ i < (l.log.l.length : Int)) (chk (((((l.log.l.getD (i).toNat default).batch).client) == client) = true → (0 : Int) ≤ i ∧ i < (l.log.l.length : Int)) (if (((((l.log.l.getD (i).toNat default).batch).client) == client) && ((((l.log.l.getD (i).toNat default).batch).req) == req)) = true then (some i) else (chk (inI (i + 1)) (rc (i + 1)))))) else (some (-1))

def F_ref17_Log_Find (l : Eref30_State) (client : Int) (req : Int) : Option Int := iter (F_ref17_Log_Find_l1 l client req) FU 0

set_option maxHeartbeats 1000000 in
theorem c_ref17_Log_Find {I D : Dm} {b_l : Nat} {l : Eref30_State} {client : Int} {req : Int} {w : World} {rr : Int} (hF : F_ref17_Log_Find l client req = some rr) (H : St I D w [OEref30_State b_l l]) :
  Calls Tryz.prog 39 #[pp b_l 4, vI client, vI req] w (Ret fun vv w' => vv = vI rr ∧ ∃ I', Hf I D w I' w' [OEref30_State b_l l]) := by
 replace H := H.hf
 unfold F_ref17_Log_Find at hF
 refine f_enter 42 Tryz.func39 rfl rfl (Nat.le_of_ble_eq_true rfl) fun a Z => ?_
 replace Z := Z.sub (ts := [0, 1, 2]) rfl
 refine sR Z fun Z => ?_
 refine s_runk tRh Z 1 rfl rfl fun a Z => ?_
 refine s_end Z [0, 1, 2] rfl fun Z => ?_
 refine p_then (wp_seq ?_)
 refine sR Z fun Z => ?_
 refine s_runk tRh Z 1 rfl rfl fun a Z => ?_
 refine s_end Z [0, 1, 2, 7] rfl fun Z => ?_
 refine p_then (wp_block ?_)
 refine f_iter hF (fun sg a' w' => match sg with | i => Sl 42 [(0, pp b_l 4), (1, vI client), (2, vI req), (7, vI i)] a' ∧ ∃ I2, Hf I D w I2 w' [OEref30_State b_l l]) ⟨Z.sub (ts := [0, 1, 2, 7]) rfl, ⟨I, (H.sub [(0, false)] rfl).eq rfl⟩⟩ ?_
 rintro rc i a w1 ⟨Z, I1, H⟩ hF
 unfold F_ref17_Log_Find_l1 at hF
 try dsimp only at hF
 refine wp_seq ?_
 refine sR Z fun Z => ?_
 refine s_runk tRh Z 4 rfl rfl fun a Z => ?_
 obtain ⟨⟨v1, v2⟩, H⟩ := H.openX 0 rfl
 replace H := H.nf rfl; try dsimp only at H
 refine sO Z _ rfl (oL tRh rfl rfl (H.bc 0 4 rfl rfl)) fun a Z => ?_
 refine sO Z (vI (ln l.log.l)) rfl (Ob_slen tRh rfl rfl rfl (H.slshape 2 rfl)) fun a Z => ?_
 refine s_runk tRh Z 1 rfl rfl fun a Z => ?_
 refine s_end Z [0, 1, 2, 7, 14] rfl fun Z => ?_
 refine p_then ?_
 refine f_cond Z rfl (fun hc1 => ?_) (fun hc1 => ?_)
 ·replace hF := ite_t hc1 hF
  refine wp_skip ?_
  refine p_then (wp_seq ?_)
  refine wp_block ?_
  refine wp_seq ?_
  obtain ⟨hg1, hF⟩ := chk_in hF
  obtain ⟨hg2, hF⟩ := chk_in hF
  refine f_region Z fun Z => ?_
  refine s_runk tRh Z 3 rfl rfl fun a Z => ?_
  refine sO Z _ rfl (oL tRh rfl rfl (H.bc 0 4 rfl rfl)) fun a Z => ?_
  refine s_runk tRh Z 1 rfl rfl fun a Z => ?_
  refine sO Z (.pointer (some ⟨blkOf v2, oofOf v2 + (i).toNat * 4, none⟩)) rfl (Ob_sidx tRh rfl rfl rfl rfl (slPl (H.sl 2 rfl) hg1) hg1) fun a Z => ?_
  refine s_runk tRh Z 2 rfl rfl fun a Z => ?_
  obtain ⟨_, ⟨u1, rfl, L1⟩, H⟩ := H.elG 2 rfl (i) (NEEntry.dft _ _)
  replace H := H.addsl L1
  replace H : Hf I D w I1 w1 [SlC NEOp u1 (((gi l.log.l i).batch).ops), AtG ((0 : Int) ≤ i ∧ i < (ln l.log.l)) (blkOf v2) (oofOf v2 + (i).toNat * 4) (cEEntry (gi l.log.l i) u1), BxC b_l 36 (cEref30_State l v1 v2), SlC NEMember v1 l.conf.members, SlC NEEntry v2 l.log.l] := H
  refine sO Z (vI (((gi l.log.l i).batch).client)) rfl (oL tRh rfl rfl ((H.atg 1 rfl hg1) 0 _ rfl)) fun a Z => ?_
  refine s_runk tRh Z 3 rfl rfl fun a Z => ?_
  refine gO Z (pp b_l 4) rfl (wantB_t _) (.n 0 rfl .z) (fun hp => Ob_c tRh rfl) fun a Z => ?_
  refine gO Z (pp b_l 4) rfl (wantB_t _) (.c 29 rfl id .z) (fun hp => Ob_c tRh rfl) fun a Z => ?_
  refine gO Z (pp b_l 4) rfl (wantB_t _) (.c 30 rfl id .z) (fun hp => Ob_c tRh rfl) fun a Z => ?_
  refine gO Z _ rfl (wantB_t _) (.c 31 rfl id .z) (fun hp => oL tRh rfl rfl (H.bc 2 4 rfl rfl)) fun a Z => ?_
  refine gO Z (vI i) rfl (wantB_t _) (.n 7 rfl .z) (fun hp => Ob_c tRh rfl) fun a Z => ?_
  refine gO Z (.pointer (some ⟨blkOf v2, oofOf v2 + (i).toNat * 4, none⟩)) rfl (wantB_t _) (.c 32 rfl id (.c 33 rfl id .z)) (fun hp => Ob_sidx tRh rfl rfl rfl rfl (slPl (H.sl 4 rfl) (hg2 hp)) (hg2 hp)) fun a Z => ?_
  refine gO Z (.pointer (some ⟨blkOf v2, oofOf v2 + (i).toNat * 4, none⟩)) rfl (wantB_t _) (.c 34 rfl id .z) (fun hp => Ob_c tRh rfl) fun a Z => ?_
  refine gO Z (.pointer (some ⟨blkOf v2, oofOf v2 + (i).toNat * 4 + 1, none⟩)) rfl (wantB_t _) (.c 35 rfl id .z) (fun hp => Ob_c tRh rfl) fun a Z => ?_
  refine gO Z (vI (((gi l.log.l i).batch).req)) rfl (wantB_t _) (.c 36 rfl id .z) (fun hp => oL tRh rfl rfl ((H.atg 1 rfl (hg2 hp)) 1 _ rfl)) fun a Z => ?_
  refine gO Z (vI req) rfl (wantB_t _) (.n 2 rfl .z) (fun hp => Ob_c tRh rfl) fun a Z => ?_
  refine gO Z (vT ((((gi l.log.l i).batch).req) == req)) rfl (wantB_t _) (.c 37 rfl id (.c 38 rfl id .z)) (fun hp => Ob_c tRh rfl) fun a Z => ?_
  refine sO Z (vT (((((gi l.log.l i).batch).client) == client) && ((((gi l.log.l i).batch).req) == req))) rfl (Ob_pick rfl rfl rfl rfl (pick_and _ _)) fun a Z => ?_
  refine s_end Z [0, 1, 2, 7, 40] rfl fun Z => ?_
  refine p_then ?_
  refine f_cond Z rfl (fun hc2 => ?_) (fun hc2 => ?_)
  ·replace hF := ite_t hc2 hF
   refine sR Z fun Z => ?_
   refine s_runk tRh Z 2 rfl rfl fun a Z => ?_
   refine s_end Z [6] rfl fun Z => ?_
   refine p_then (wp_ret ?_)
   refine p_blk_r ?_
   refine p_then_r ?_
   refine p_then_r ?_
   refine p_blk_r ?_
   refine p_then_r ?_
   replace H := H.sX (OEref30_State b_l l) (v1, v2) [(2, false), (2, true), (3, true)] rfl rfl rfl
   obtain rfl := some_in hF
   exact f_ret Z (run_results1 rfl Z rfl) ⟨rfl, I1, (H.sub [(0, false)] rfl).eq rfl⟩
  ·replace hF := ite_f hc2 hF
   refine wp_skip ?_
   refine p_blk ?_
   refine p_then ?_
   obtain ⟨hg3, hF⟩ := chk_in hF
   refine f_region Z fun Z => ?_
   refine s_runk tRh Z 1 rfl rfl fun a Z => ?_
   refine sO Z (vI (i + 1)) rfl (Ob_add rfl rfl rfl (wrI hg3)) fun a Z => ?_
   refine s_runk tRh Z 1 rfl rfl fun a Z => ?_
   refine s_end Z [0, 1, 2, 7] rfl fun Z => ?_
   refine p_then ?_
   replace H := H.sX (OEref30_State b_l l) (v1, v2) [(2, false), (2, true), (3, true)] rfl rfl rfl
   exact ⟨(i + 1), ⟨Z.sub (ts := [0, 1, 2, 7]) rfl, ⟨I1, (H.sub [(0, false)] rfl).eq rfl⟩⟩, hF⟩
 ·replace hF := ite_f hc1 hF
  refine wp_exit ?_
  refine p_then_x ?_
  refine p_then_x ?_
  refine f_exit_here ?_
  refine pR Z fun Z => ?_
  refine s_runk tRh Z 1 rfl rfl fun a Z => ?_
  refine s_end Z [6] rfl fun Z => ?_
  refine p_then (wp_ret ?_)
  replace H := H.sX (OEref30_State b_l l) (v1, v2) [(0, false), (0, true), (1, true)] rfl rfl rfl
  obtain rfl := some_in hF
  exact f_ret Z (run_results1 rfl Z rfl) ⟨rfl, I1, (H.sub [(0, false)] rfl).eq rfl⟩

def F_ref17_Log_Top_k2 (i : Int) (rc : (Int × Int) → Option Int) (n0_2 : Int) : Option Int := chk (inI (i + 1)) (rc (n0_2, i + 1))

def F_ref17_Log_Top_l1 (l : Eref30_State) (client : Int) (rc : (Int × Int) → Option Int) (sg : Int × Int) : Option Int := match sg with | (n0, i) => if (decide (i < (l.log.l.length : Int))) = true then (chk ((0 : Int) ≤ i ∧ i < (l.log.l.length : Int)) (if ((((l.log.l.getD (i).toNat default).batch).client) == client) = true then (chk ((0 : Int) ≤ i ∧ i < (l.log.l.length : Int)) (F_ref17_Log_Top_k2 i rc (max n0 (((l.log.l.getD (i).toNat default).batch).req)))) else (F_ref17_Log_Top_k2 i rc n0))) else (some n0)

def F_ref17_Log_Top (l : Eref30_State) (client : Int) : Option Int := iter (F_ref17_Log_Top_l1 l client) FU (0, 0)

set_option maxHeartbeats 1000000 in
theorem c_ref17_Log_Top {I D : Dm} {b_l : Nat} {l : Eref30_State} {client : Int} {w : World} {rr : Int} (hF : F_ref17_Log_Top l client = some rr) (H : St I D w [OEref30_State b_l l]) :
  Calls Tryz.prog 37 #[pp b_l 4, vI client] w (Ret fun vv w' => vv = vI rr ∧ ∃ I', Hf I D w I' w' [OEref30_State b_l l]) := by
 replace H := H.hf
 unfold F_ref17_Log_Top at hF
 refine f_enter 39 Tryz.func37 rfl rfl (Nat.le_of_ble_eq_true rfl) fun a Z => ?_
 replace Z := Z.sub (ts := [0, 1]) rfl
 refine sR Z fun Z => ?_
 refine s_runk tRh Z 1 rfl rfl fun a Z => ?_
 refine s_end Z [0, 1] rfl fun Z => ?_
 refine pR Z fun Z => ?_
 refine s_runk tRh Z 1 rfl rfl fun a Z => ?_
 refine s_end Z [0, 1, 5] rfl fun Z => ?_
 refine p_then (wp_seq ?_)
 refine sR Z fun Z => ?_
 refine s_runk tRh Z 1 rfl rfl fun a Z => ?_
 refine s_end Z [0, 1, 5, 6] rfl fun Z => ?_
 refine p_then (wp_block ?_)
 refine f_iter hF (fun sg a' w' => match sg with | (n0, i) => Sl 39 [(0, pp b_l 4), (1, vI client), (5, vI n0), (6, vI i)] a' ∧ ∃ I2, Hf I D w I2 w' [OEref30_State b_l l]) ⟨Z.sub (ts := [0, 1, 5, 6]) rfl, ⟨I, (H.sub [(0, false)] rfl).eq rfl⟩⟩ ?_
 rintro rc ⟨n0, i⟩ a w1 ⟨Z, I1, H⟩ hF
 unfold F_ref17_Log_Top_l1 at hF
 try dsimp only at hF
 refine wp_seq ?_
 refine sR Z fun Z => ?_
 refine s_runk tRh Z 4 rfl rfl fun a Z => ?_
 obtain ⟨⟨v1, v2⟩, H⟩ := H.openX 0 rfl
 replace H := H.nf rfl; try dsimp only at H
 refine sO Z _ rfl (oL tRh rfl rfl (H.bc 0 4 rfl rfl)) fun a Z => ?_
 refine sO Z (vI (ln l.log.l)) rfl (Ob_slen tRh rfl rfl rfl (H.slshape 2 rfl)) fun a Z => ?_
 refine s_runk tRh Z 1 rfl rfl fun a Z => ?_
 refine s_end Z [0, 1, 5, 6, 13] rfl fun Z => ?_
 refine p_then ?_
 refine f_cond Z rfl (fun hc1 => ?_) (fun hc1 => ?_)
 ·replace hF := ite_t hc1 hF
  refine wp_skip ?_
  refine p_then ?_
  refine f_cut (fun a' w' => ∃ (n0_2 : Int), Sl 39 [(0, pp b_l 4), (1, vI client), (5, vI n0_2), (6, vI i)] a' ∧ (∃ I2, Hf I D w I2 w' [BxC b_l 36 (cEref30_State l v1 v2), SlC NEMember v1 l.conf.members, SlC NEEntry v2 l.log.l]) ∧ F_ref17_Log_Top_k2 i rc n0_2 = some rr) ?_ ?_
  ·rintro a w2 ⟨n0_2, Z, ⟨I2, H⟩, hF⟩
   unfold F_ref17_Log_Top_k2 at hF
   try dsimp only at hF
   obtain ⟨hg1, hF⟩ := chk_in hF
   refine f_region Z fun Z => ?_
   refine s_runk tRh Z 1 rfl rfl fun a Z => ?_
   refine sO Z (vI (i + 1)) rfl (Ob_add rfl rfl rfl (wrI hg1)) fun a Z => ?_
   refine s_runk tRh Z 1 rfl rfl fun a Z => ?_
   refine s_end Z [0, 1, 5, 6] rfl fun Z => ?_
   refine p_then ?_
   replace H := H.sX (OEref30_State b_l l) (v1, v2) [(0, false), (0, true), (1, true)] rfl rfl rfl
   exact ⟨(n0_2, i + 1), ⟨Z.sub (ts := [0, 1, 5, 6]) rfl, ⟨I2, (H.sub [(0, false)] rfl).eq rfl⟩⟩, hF⟩
  ·skip
   refine wp_block ?_
   refine wp_seq ?_
   obtain ⟨hg2, hF⟩ := chk_in hF
   refine f_region Z fun Z => ?_
   refine s_runk tRh Z 3 rfl rfl fun a Z => ?_
   refine sO Z _ rfl (oL tRh rfl rfl (H.bc 0 4 rfl rfl)) fun a Z => ?_
   refine s_runk tRh Z 1 rfl rfl fun a Z => ?_
   refine sO Z (.pointer (some ⟨blkOf v2, oofOf v2 + (i).toNat * 4, none⟩)) rfl (Ob_sidx tRh rfl rfl rfl rfl (slPl (H.sl 2 rfl) hg2) hg2) fun a Z => ?_
   refine s_runk tRh Z 2 rfl rfl fun a Z => ?_
   obtain ⟨_, ⟨u1, rfl, L1⟩, H⟩ := H.elG 2 rfl (i) (NEEntry.dft _ _)
   replace H := H.addsl L1
   replace H : Hf I D w I1 w1 [SlC NEOp u1 (((gi l.log.l i).batch).ops), AtG ((0 : Int) ≤ i ∧ i < (ln l.log.l)) (blkOf v2) (oofOf v2 + (i).toNat * 4) (cEEntry (gi l.log.l i) u1), BxC b_l 36 (cEref30_State l v1 v2), SlC NEMember v1 l.conf.members, SlC NEEntry v2 l.log.l] := H
   refine sO Z (vI (((gi l.log.l i).batch).client)) rfl (oL tRh rfl rfl ((H.atg 1 rfl hg2) 0 _ rfl)) fun a Z => ?_
   refine s_runk tRh Z 2 rfl rfl fun a Z => ?_
   refine s_end Z [0, 1, 5, 6, 26] rfl fun Z => ?_
   refine p_then ?_
   refine f_cond Z rfl (fun hc2 => ?_) (fun hc2 => ?_)
   ·replace hF := ite_t hc2 hF
    obtain ⟨hg3, hF⟩ := chk_in hF
    refine f_region Z fun Z => ?_
    refine s_runk tRh Z 4 rfl rfl fun a Z => ?_
    refine sO Z _ rfl (oL tRh rfl rfl (H.bc 2 4 rfl rfl)) fun a Z => ?_
    refine s_runk tRh Z 1 rfl rfl fun a Z => ?_
    refine sO Z (.pointer (some ⟨blkOf v2, oofOf v2 + (i).toNat * 4, none⟩)) rfl (Ob_sidx tRh rfl rfl rfl rfl (slPl (H.sl 4 rfl) hg3) hg3) fun a Z => ?_
    refine s_runk tRh Z 2 rfl rfl fun a Z => ?_
    obtain ⟨_, ⟨u2, rfl, L2⟩, H⟩ := H.elG 4 rfl (i) (NEEntry.dft _ _)
    replace H := H.addsl L2
    replace H : Hf I D w I1 w1 [SlC NEOp u2 (((gi l.log.l i).batch).ops), AtG ((0 : Int) ≤ i ∧ i < (ln l.log.l)) (blkOf v2) (oofOf v2 + (i).toNat * 4) (cEEntry (gi l.log.l i) u2), SlC NEOp u1 (((gi l.log.l i).batch).ops), AtG ((0 : Int) ≤ i ∧ i < (ln l.log.l)) (blkOf v2) (oofOf v2 + (i).toNat * 4) (cEEntry (gi l.log.l i) u1), BxC b_l 36 (cEref30_State l v1 v2), SlC NEMember v1 l.conf.members, SlC NEEntry v2 l.log.l] := H
    refine sO Z (vI (((gi l.log.l i).batch).req)) rfl (oL tRh rfl rfl ((H.atg 1 rfl hg3) 1 _ rfl)) fun a Z => ?_
    refine s_runk tRh Z 2 rfl rfl fun a Z => ?_
    refine s_end Z [0, 1, 5, 6] rfl fun Z => ?_
    refine p_blk ?_
    refine p_then ?_
    exact ⟨max n0 (((gi l.log.l i).batch).req), Z.sub (ts := [0, 1, 5, 6]) rfl, ⟨I1, (H.sub [(4, false), (4, true), (5, true)] rfl).eq rfl⟩, hF⟩
   ·replace hF := ite_f hc2 hF
    refine wp_skip ?_
    refine p_blk ?_
    refine p_then ?_
    exact ⟨n0, Z.sub (ts := [0, 1, 5, 6]) rfl, ⟨I1, (H.sub [(2, false), (2, true), (3, true)] rfl).eq rfl⟩, hF⟩
 ·replace hF := ite_f hc1 hF
  refine wp_exit ?_
  refine p_then_x ?_
  refine p_then_x ?_
  refine f_exit_here ?_
  refine pR Z fun Z => ?_
  refine s_runk tRh Z 2 rfl rfl fun a Z => ?_
  refine s_end Z [4] rfl fun Z => ?_
  refine p_then (wp_ret ?_)
  replace H := H.sX (OEref30_State b_l l) (v1, v2) [(0, false), (0, true), (1, true)] rfl rfl rfl
  obtain rfl := some_in hF
  exact f_ret Z (run_results1 rfl Z rfl) ⟨rfl, I1, (H.sub [(0, false)] rfl).eq rfl⟩

def F_ref17_Log_later_k2 (j : Int) (rc : Int → Option Bool) : Option Bool := chk (inI (j + 1)) (rc (j + 1))

def F_ref17_Log_later_l3 (l : Eref30_State) (k : ByteArray) (j : Int) (rc : Int → Option Bool) (rc_2 : Int → Option Bool) (sg : Int) : Option Bool := match sg with | o => chk ((0 : Int) ≤ j ∧ j < (l.log.l.length : Int)) (if (decide (o < ((((l.log.l.getD (j).toNat default).batch).ops).length : Int))) = true then (chk ((0 : Int) ≤ j ∧ j < (l.log.l.length : Int)) (chk ((0 : Int) ≤ o ∧ o < ((((l.log.l.getD (j).toNat default).batch).ops).length : Int)) (if (seqB (((((l.log.l.getD (j).toNat default).batch).ops).getD (o).toNat default).key) k) = true then (some true) else (chk (inI (o + 1)) (rc_2 (o + 1)))))) else (F_ref17_Log_later_k2 j rc))

def F_ref17_Log_later_l1 (l : Eref30_State) (k : ByteArray) (h : Int) (n0 : Int) (rc : Int → Option Bool) (sg : Int) : Option Bool := match sg with | j => if ((decide (j < (l.log.l.length : Int))) && (decide (j < n0))) = true then (chk ((0 : Int) ≤ j ∧ j < (l.log.l.length : Int)) (chk ((!(((l.log.l.getD (j).toNat default).ts) == 0)) = true → (0 : Int) ≤ j ∧ j < (l.log.l.length : Int)) (if ((((l.log.l.getD (j).toNat default).ts) == 0) || (decide ((l.log.l.getD (j).toNat default).ts > h))) = true then (F_ref17_Log_later_k2 j rc) else (iter (F_ref17_Log_later_l3 l k j rc) FU 0)))) else (some false)

def F_ref17_Log_later (l : Eref30_State) (i : Int) (k : ByteArray) (h : Int) (n0 : Int) : Option Bool := chk (inI (i + 1)) (iter (F_ref17_Log_later_l1 l k h n0) FU (i + 1))

set_option maxHeartbeats 1000000 in
theorem c_ref17_Log_later {I D : Dm} {b_l : Nat} {l : Eref30_State} {i : Int} {k : ByteArray} {h : Int} {n0 : Int} {w : World} {rr : Bool} (hF : F_ref17_Log_later l i k h n0 = some rr) (H : St I D w [OEref30_State b_l l]) :
  Calls Tryz.prog 74 #[pp b_l 4, vI i, vS k, vU h, vI n0] w (Ret fun vv w' => vv = vT rr ∧ ∃ I', Hf I D w I' w' [OEref30_State b_l l]) := by
 replace H := H.hf
 unfold F_ref17_Log_later at hF
 refine f_enter 79 Tryz.func74 rfl rfl (Nat.le_of_ble_eq_true rfl) fun a Z => ?_
 replace Z := Z.sub (ts := [0, 1, 2, 3, 4]) rfl
 refine sR Z fun Z => ?_
 refine s_runk tRh Z 1 rfl rfl fun a Z => ?_
 refine s_end Z [0, 1, 2, 3, 4] rfl fun Z => ?_
 refine p_then (wp_seq ?_)
 refine wp_seq ?_
 obtain ⟨hg1, hF⟩ := chk_in hF
 refine f_region Z fun Z => ?_
 refine s_runk tRh Z 1 rfl rfl fun a Z => ?_
 refine sO Z (vI (i + 1)) rfl (Ob_add rfl rfl rfl (wrI hg1)) fun a Z => ?_
 refine s_runk tRh Z 1 rfl rfl fun a Z => ?_
 refine s_end Z [0, 2, 3, 4, 11] rfl fun Z => ?_
 refine p_then (wp_block ?_)
 refine f_iter hF (fun sg a' w' => match sg with | j => Sl 79 [(0, pp b_l 4), (2, vS k), (3, vU h), (4, vI n0), (11, vI j)] a' ∧ ∃ I2, Hf I D w I2 w' [OEref30_State b_l l]) ⟨Z.sub (ts := [0, 2, 3, 4, 11]) rfl, ⟨I, (H.sub [(0, false)] rfl).eq rfl⟩⟩ ?_
 rintro rc j a w1 ⟨Z, I1, H⟩ hF
 unfold F_ref17_Log_later_l1 at hF
 try dsimp only at hF
 refine wp_seq ?_
 refine sR Z fun Z => ?_
 refine s_runk tRh Z 4 rfl rfl fun a Z => ?_
 obtain ⟨⟨v1, v2⟩, H⟩ := H.openX 0 rfl
 replace H := H.nf rfl; try dsimp only at H
 refine sO Z _ rfl (oL tRh rfl rfl (H.bc 0 4 rfl rfl)) fun a Z => ?_
 refine sO Z (vI (ln l.log.l)) rfl (Ob_slen tRh rfl rfl rfl (H.slshape 2 rfl)) fun a Z => ?_
 refine s_runk tRh Z 2 rfl rfl fun a Z => ?_
 refine gO Z (vI j) rfl (wantB_t _) (.n 11 rfl .z) (fun hp => Ob_c tRh rfl) fun a Z => ?_
 refine gO Z (vI n0) rfl (wantB_t _) (.n 4 rfl .z) (fun hp => Ob_c tRh rfl) fun a Z => ?_
 refine gO Z (vT (decide (j < n0))) rfl (wantB_t _) (.c 23 rfl id (.c 24 rfl id .z)) (fun hp => Ob_c tRh rfl) fun a Z => ?_
 refine sO Z (vT ((decide (j < (ln l.log.l))) && (decide (j < n0)))) rfl (Ob_pick rfl rfl rfl rfl (pick_and _ _)) fun a Z => ?_
 refine s_end Z [0, 2, 3, 4, 11, 26] rfl fun Z => ?_
 refine p_then ?_
 refine f_cond Z rfl (fun hc1 => ?_) (fun hc1 => ?_)
 ·replace hF := ite_t hc1 hF
  refine wp_skip ?_
  refine p_then ?_
  refine f_cut (fun a' w' => Sl 79 [(0, pp b_l 4), (2, vS k), (3, vU h), (4, vI n0), (11, vI j)] a' ∧ (∃ I2, Hf I D w I2 w' [BxC b_l 36 (cEref30_State l v1 v2), SlC NEMember v1 l.conf.members, SlC NEEntry v2 l.log.l]) ∧ F_ref17_Log_later_k2 j rc = some rr) ?_ ?_
  ·rintro a w2 ⟨Z, ⟨I2, H⟩, hF⟩
   unfold F_ref17_Log_later_k2 at hF
   try dsimp only at hF
   obtain ⟨hg2, hF⟩ := chk_in hF
   refine f_region Z fun Z => ?_
   refine s_runk tRh Z 1 rfl rfl fun a Z => ?_
   refine sO Z (vI (j + 1)) rfl (Ob_add rfl rfl rfl (wrI hg2)) fun a Z => ?_
   refine s_runk tRh Z 1 rfl rfl fun a Z => ?_
   refine s_end Z [0, 2, 3, 4, 11] rfl fun Z => ?_
   refine p_then ?_
   replace H := H.sX (OEref30_State b_l l) (v1, v2) [(0, false), (0, true), (1, true)] rfl rfl rfl
   exact ⟨(j + 1), ⟨Z.sub (ts := [0, 2, 3, 4, 11]) rfl, ⟨I2, (H.sub [(0, false)] rfl).eq rfl⟩⟩, hF⟩
  ·skip
   refine wp_block ?_
   refine wp_seq ?_
   refine wp_seq ?_
   obtain ⟨hg3, hF⟩ := chk_in hF
   obtain ⟨hg4, hF⟩ := chk_in hF
   refine f_region Z fun Z => ?_
   refine s_runk tRh Z 3 rfl rfl fun a Z => ?_
   refine sO Z _ rfl (oL tRh rfl rfl (H.bc 0 4 rfl rfl)) fun a Z => ?_
   refine s_runk tRh Z 1 rfl rfl fun a Z => ?_
   refine sO Z (.pointer (some ⟨blkOf v2, oofOf v2 + (j).toNat * 4, none⟩)) rfl (Ob_sidx tRh rfl rfl rfl rfl (slPl (H.sl 2 rfl) hg3) hg3) fun a Z => ?_
   refine s_runk tRh Z 1 rfl rfl fun a Z => ?_
   obtain ⟨_, ⟨u1, rfl, L1⟩, H⟩ := H.elG 2 rfl (j) (NEEntry.dft _ _)
   replace H := H.addsl L1
   replace H : Hf I D w I1 w1 [SlC NEOp u1 (((gi l.log.l j).batch).ops), AtG ((0 : Int) ≤ j ∧ j < (ln l.log.l)) (blkOf v2) (oofOf v2 + (j).toNat * 4) (cEEntry (gi l.log.l j) u1), BxC b_l 36 (cEref30_State l v1 v2), SlC NEMember v1 l.conf.members, SlC NEEntry v2 l.log.l] := H
   refine sO Z (vU ((gi l.log.l j).ts)) rfl (oL tRh rfl rfl ((H.atg 1 rfl hg3) 3 _ rfl)) fun a Z => ?_
   refine s_runk tRh Z 2 rfl rfl fun a Z => ?_
   refine gO Z (pp b_l 4) rfl (wantB_f _) (.n 0 rfl .z) (fun hp => Ob_c tRh rfl) fun a Z => ?_
   refine gO Z (pp b_l 4) rfl (wantB_f _) (.c 39 rfl id .z) (fun hp => Ob_c tRh rfl) fun a Z => ?_
   refine gO Z (pp b_l 4) rfl (wantB_f _) (.c 40 rfl id .z) (fun hp => Ob_c tRh rfl) fun a Z => ?_
   refine gO Z _ rfl (wantB_f _) (.c 41 rfl id .z) (fun hp => oL tRh rfl rfl (H.bc 2 4 rfl rfl)) fun a Z => ?_
   refine gO Z (vI j) rfl (wantB_f _) (.n 11 rfl .z) (fun hp => Ob_c tRh rfl) fun a Z => ?_
   refine gO Z (.pointer (some ⟨blkOf v2, oofOf v2 + (j).toNat * 4, none⟩)) rfl (wantB_f _) (.c 42 rfl id (.c 43 rfl id .z)) (fun hp => Ob_sidx tRh rfl rfl rfl rfl (slPl (H.sl 4 rfl) (hg4 hp)) (hg4 hp)) fun a Z => ?_
   refine gO Z (.pointer (some ⟨blkOf v2, oofOf v2 + (j).toNat * 4 + 3, none⟩)) rfl (wantB_f _) (.c 44 rfl id .z) (fun hp => Ob_c tRh rfl) fun a Z => ?_
   refine gO Z (vU ((gi l.log.l j).ts)) rfl (wantB_f _) (.c 45 rfl id .z) (fun hp => oL tRh rfl rfl ((H.atg 1 rfl (hg4 hp)) 3 _ rfl)) fun a Z => ?_
   refine gO Z (vU h) rfl (wantB_f _) (.n 3 rfl .z) (fun hp => Ob_c tRh rfl) fun a Z => ?_
   refine gO Z (vT (decide ((gi l.log.l j).ts > h))) rfl (wantB_f _) (.c 46 rfl id (.c 47 rfl id .z)) (fun hp => Ob_c tRh rfl) fun a Z => ?_
   refine sO Z (vT ((((gi l.log.l j).ts) == 0) || (decide ((gi l.log.l j).ts > h)))) rfl (Ob_pick rfl rfl rfl rfl (pick_or _ _)) fun a Z => ?_
   refine s_end Z [0, 2, 3, 4, 11, 49] rfl fun Z => ?_
   refine p_then ?_
   refine f_cond Z rfl (fun hc2 => ?_) (fun hc2 => ?_)
   ·replace hF := ite_t hc2 hF
    refine wp_exit ?_
    refine p_then_x ?_
    refine f_exit_here ?_
    refine p_then ?_
    exact ⟨Z.sub (ts := [0, 2, 3, 4, 11]) rfl, ⟨I1, (H.sub [(2, false), (2, true), (3, true)] rfl).eq rfl⟩, hF⟩
   ·replace hF := ite_f hc2 hF
    refine wp_skip ?_
    refine pR Z fun Z => ?_
    refine s_runk tRh Z 1 rfl rfl fun a Z => ?_
    refine s_end Z [0, 2, 3, 4, 11, 12] rfl fun Z => ?_
    refine p_then (wp_block ?_)
    refine f_iter hF (fun sg a' w' => match sg with | o => Sl 79 [(0, pp b_l 4), (2, vS k), (3, vU h), (4, vI n0), (11, vI j), (12, vI o)] a' ∧ ∃ I2, Hf I D w I2 w' [BxC b_l 36 (cEref30_State l v1 v2), SlC NEMember v1 l.conf.members, SlC NEEntry v2 l.log.l]) ⟨Z.sub (ts := [0, 2, 3, 4, 11, 12]) rfl, ⟨I1, (H.sub [(2, false), (2, true), (3, true)] rfl).eq rfl⟩⟩ ?_
    rintro rc_2 o a w3 ⟨Z, I3, H⟩ hF
    unfold F_ref17_Log_later_l3 at hF
    try dsimp only at hF
    refine wp_seq ?_
    refine wp_seq ?_
    obtain ⟨hg5, hF⟩ := chk_in hF
    refine f_region Z fun Z => ?_
    refine s_runk tRh Z 4 rfl rfl fun a Z => ?_
    refine sO Z _ rfl (oL tRh rfl rfl (H.bc 0 4 rfl rfl)) fun a Z => ?_
    refine s_runk tRh Z 1 rfl rfl fun a Z => ?_
    refine sO Z (.pointer (some ⟨blkOf v2, oofOf v2 + (j).toNat * 4, none⟩)) rfl (Ob_sidx tRh rfl rfl rfl rfl (slPl (H.sl 2 rfl) hg5) hg5) fun a Z => ?_
    refine s_runk tRh Z 2 rfl rfl fun a Z => ?_
    obtain ⟨_, ⟨u2, rfl, L2⟩, H⟩ := H.elG 2 rfl (j) (NEEntry.dft _ _)
    replace H := H.addsl L2
    replace H : Hf I D w I3 w3 [SlC NEOp u2 (((gi l.log.l j).batch).ops), AtG ((0 : Int) ≤ j ∧ j < (ln l.log.l)) (blkOf v2) (oofOf v2 + (j).toNat * 4) (cEEntry (gi l.log.l j) u2), BxC b_l 36 (cEref30_State l v1 v2), SlC NEMember v1 l.conf.members, SlC NEEntry v2 l.log.l] := H
    refine sO Z u2 rfl (oL tRh rfl rfl ((H.atg 1 rfl hg5) 2 _ rfl)) fun a Z => ?_
    refine sO Z (vI ((((gi l.log.l j).batch).ops).length : Int)) rfl (Ob_slen tRh rfl rfl rfl (H.slshape 0 rfl)) fun a Z => ?_
    refine s_runk tRh Z 1 rfl rfl fun a Z => ?_
    refine s_end Z [0, 2, 3, 4, 11, 12, 61] rfl fun Z => ?_
    refine p_then ?_
    refine f_cond Z rfl (fun hc3 => ?_) (fun hc3 => ?_)
    ·replace hF := ite_t hc3 hF
     refine wp_skip ?_
     refine p_then (wp_seq ?_)
     refine wp_block ?_
     refine wp_seq ?_
     obtain ⟨hg6, hF⟩ := chk_in hF
     obtain ⟨hg7, hF⟩ := chk_in hF
     refine f_region Z fun Z => ?_
     refine s_runk tRh Z 3 rfl rfl fun a Z => ?_
     refine sO Z _ rfl (oL tRh rfl rfl (H.bc 2 4 rfl rfl)) fun a Z => ?_
     refine s_runk tRh Z 1 rfl rfl fun a Z => ?_
     refine sO Z (.pointer (some ⟨blkOf v2, oofOf v2 + (j).toNat * 4, none⟩)) rfl (Ob_sidx tRh rfl rfl rfl rfl (slPl (H.sl 4 rfl) hg6) hg6) fun a Z => ?_
     refine s_runk tRh Z 2 rfl rfl fun a Z => ?_
     obtain ⟨_, ⟨u3, rfl, L3⟩, H⟩ := H.elG 4 rfl (j) (NEEntry.dft _ _)
     replace H := H.addsl L3
     replace H : Hf I D w I3 w3 [SlC NEOp u3 (((gi l.log.l j).batch).ops), AtG ((0 : Int) ≤ j ∧ j < (ln l.log.l)) (blkOf v2) (oofOf v2 + (j).toNat * 4) (cEEntry (gi l.log.l j) u3), SlC NEOp u2 (((gi l.log.l j).batch).ops), AtG ((0 : Int) ≤ j ∧ j < (ln l.log.l)) (blkOf v2) (oofOf v2 + (j).toNat * 4) (cEEntry (gi l.log.l j) u2), BxC b_l 36 (cEref30_State l v1 v2), SlC NEMember v1 l.conf.members, SlC NEEntry v2 l.log.l] := H
     refine sO Z u3 rfl (oL tRh rfl rfl ((H.atg 1 rfl hg6) 2 _ rfl)) fun a Z => ?_
     refine s_runk tRh Z 1 rfl rfl fun a Z => ?_
     refine sO Z (.pointer (some ⟨blkOf u3, oofOf u3 + (o).toNat * 3, none⟩)) rfl (Ob_sidx tRh rfl rfl rfl rfl (slPl (H.sl 0 rfl) hg7) hg7) fun a Z => ?_
     refine s_runk tRh Z 1 rfl rfl fun a Z => ?_
     refine sO Z (vS (((((gi l.log.l j).batch).ops).getD (o).toNat default).key)) rfl (oL tRh rfl rfl ((slFl (H.sl 0 rfl) hg7) 0 _ rfl)) fun a Z => ?_
     refine s_runk tRh Z 2 rfl rfl fun a Z => ?_
     refine s_end Z [0, 2, 3, 4, 11, 12, 78] rfl fun Z => ?_
     refine p_then ?_
     refine f_cond Z rfl (fun hc4 => ?_) (fun hc4 => ?_)
     ·replace hF := ite_t hc4 hF
      refine sR Z fun Z => ?_
      refine s_runk tRh Z 1 rfl rfl fun a Z => ?_
      refine s_end Z [10] rfl fun Z => ?_
      refine p_then (wp_ret ?_)
      refine p_blk_r ?_
      refine p_then_r ?_
      refine p_then_r ?_
      refine p_blk_r ?_
      refine p_blk_r ?_
      refine p_then_r ?_
      refine p_then_r ?_
      refine p_blk_r ?_
      refine p_then_r ?_
      replace H := H.sX (OEref30_State b_l l) (v1, v2) [(4, false), (4, true), (5, true)] rfl rfl rfl
      obtain rfl := some_in hF
      exact f_ret Z (run_results1 rfl Z rfl) ⟨rfl, I3, (H.sub [(0, false)] rfl).eq rfl⟩
     ·replace hF := ite_f hc4 hF
      refine wp_skip ?_
      refine p_blk ?_
      refine p_then ?_
      obtain ⟨hg8, hF⟩ := chk_in hF
      refine f_region Z fun Z => ?_
      refine s_runk tRh Z 1 rfl rfl fun a Z => ?_
      refine sO Z (vI (o + 1)) rfl (Ob_add rfl rfl rfl (wrI hg8)) fun a Z => ?_
      refine s_runk tRh Z 1 rfl rfl fun a Z => ?_
      refine s_end Z [0, 2, 3, 4, 11, 12] rfl fun Z => ?_
      refine p_then ?_
      exact ⟨(o + 1), ⟨Z.sub (ts := [0, 2, 3, 4, 11, 12]) rfl, ⟨I3, (H.sub [(4, false), (4, true), (5, true)] rfl).eq rfl⟩⟩, hF⟩
    ·replace hF := ite_f hc3 hF
     refine wp_exit ?_
     refine p_then_x ?_
     refine p_then_x ?_
     refine f_exit_here ?_
     refine p_blk ?_
     refine p_then ?_
     exact ⟨Z.sub (ts := [0, 2, 3, 4, 11]) rfl, ⟨I3, (H.sub [(2, false), (2, true), (3, true)] rfl).eq rfl⟩, hF⟩
 ·replace hF := ite_f hc1 hF
  refine wp_exit ?_
  refine p_then_x ?_
  refine p_then_x ?_
  refine f_exit_here ?_
  refine pR Z fun Z => ?_
  refine s_runk tRh Z 1 rfl rfl fun a Z => ?_
  refine s_end Z [10] rfl fun Z => ?_
  refine p_then (wp_ret ?_)
  replace H := H.sX (OEref30_State b_l l) (v1, v2) [(0, false), (0, true), (1, true)] rfl rfl rfl
  obtain rfl := some_in hF
  exact f_ret Z (run_results1 rfl Z rfl) ⟨rfl, I1, (H.sub [(0, false)] rfl).eq rfl⟩

def F_ref17_Log_Thin_k2 (i : Int) (rc : (Int × (List EEntry) × Int) → Option (Int × Eref30_State)) (gone_2 : Int) (m_2 : List EEntry) : Option (Int × Eref30_State) := chk (inI (i + 1)) (rc (gone_2, m_2, i + 1))

def F_ref17_Log_Thin_k4 (o : Int) (rc_2 : (Int × (List EOp) × Int) → Option (Int × Eref30_State)) (gone_4 : Int) (left_2 : List EOp) : Option (Int × Eref30_State) := chk (inI (o + 1)) (rc_2 (gone_4, left_2, o + 1))

def F_ref17_Log_Thin_l3 (l : Eref30_State) (h : Int) (n0 : Int) (m : List EEntry) (i : Int) (rc : (Int × (List EEntry) × Int) → Option (Int × Eref30_State)) (rc_2 : (Int × (List EOp) × Int) → Option (Int × Eref30_State)) (sg : Int × (List EOp) × Int) : Option (Int × Eref30_State) := match sg with | (gone_3, left, o) => chk ((0 : Int) ≤ i ∧ i < (m.length : Int)) (if (decide (o < ((((m.getD (i).toNat default).batch).ops).length : Int))) = true then (chk ((0 : Int) ≤ i ∧ i < (m.length : Int)) (chk ((0 : Int) ≤ o ∧ o < ((((m.getD (i).toNat default).batch).ops).length : Int)) ((F_ref17_Log_later l i (((((m.getD (i).toNat default).batch).ops).getD (o).toNat default).key) h n0).bind fun l_2 => (if (l_2) = true then (chk (inI (gone_3 + 1)) (F_ref17_Log_Thin_k4 o rc_2 (gone_3 + 1) left)) else (chk ((0 : Int) ≤ i ∧ i < (m.length : Int)) (chk ((0 : Int) ≤ o ∧ o < ((((m.getD (i).toNat default).batch).ops).length : Int)) (chk (((left.length + [({ key := ((((m.getD (i).toNat default).batch).ops).getD (o).toNat default).key, val := ((((m.getD (i).toNat default).batch).ops).getD (o).toNat default).val, del := ((((m.getD (i).toNat default).batch).ops).getD (o).toNat default).del } : EOp)].length : Nat) : Int) * 40 ≤ 140737488355328) (F_ref17_Log_Thin_k4 o rc_2 gone_3 (left ++ [({ key := ((((m.getD (i).toNat default).batch).ops).getD (o).toNat default).key, val := ((((m.getD (i).toNat default).batch).ops).getD (o).toNat default).val, del := ((((m.getD (i).toNat default).batch).ops).getD (o).toNat default).del } : EOp)]))))))))) else (chk ((0 : Int) ≤ i ∧ i < (m.length : Int)) (F_ref17_Log_Thin_k2 i rc gone_3 (m.set (i).toNat ({ (m.getD (i).toNat default) with batch := ({ client := ((m.getD (i).toNat default).batch).client, req := ((m.getD (i).toNat default).batch).req, ops := left } : EBatch) } : EEntry)))))

def F_ref17_Log_Thin_l1 (l : Eref30_State) (h : Int) (n0 : Int) (rc : (Int × (List EEntry) × Int) → Option (Int × Eref30_State)) (sg : Int × (List EEntry) × Int) : Option (Int × Eref30_State) := match sg with | (gone, m, i) => if ((decide (i < (m.length : Int))) && (decide (i < n0))) = true then (chk ((0 : Int) ≤ i ∧ i < (m.length : Int)) (chk ((!(((m.getD (i).toNat default).ts) == 0)) = true → (0 : Int) ≤ i ∧ i < (m.length : Int)) (if ((((m.getD (i).toNat default).ts) == 0) || (decide ((m.getD (i).toNat default).ts > h))) = true then (F_ref17_Log_Thin_k2 i rc gone m) else (iter (F_ref17_Log_Thin_l3 l h n0 m i rc) FU (gone, ([] : List EOp), 0))))) else (some (gone, ({ l with log := ({ l := m } : Eref17_Log) } : Eref30_State)))

def F_ref17_Log_Thin (l : Eref30_State) (h : Int) (n0 : Int) : Option (Int × Eref30_State) := (F_ref17_Copy l.log.l).bind fun c => (iter (F_ref17_Log_Thin_l1 l h n0) FU (0, c, 0))

set_option maxHeartbeats 1000000 in
theorem c_ref17_Log_Thin {I D : Dm} {b_l : Nat} {l : Eref30_State} {h : Int} {n0 : Int} {w : World} {rr : Int × Eref30_State} (hF : F_ref17_Log_Thin l h n0 = some rr) (H : St I D w [OEref30_State b_l l]) :
  Calls Tryz.prog 28 #[pp b_l 4, vU h, vI n0] w (Ret fun vv w' => vv = vI rr.1 ∧ ∃ I', Hf I D w I' w' [OEref30_State b_l rr.2]) := by
 replace H := H.hf
 unfold F_ref17_Log_Thin at hF
 refine f_enter 94 Tryz.func28 rfl rfl (Nat.le_of_ble_eq_true rfl) fun a Z => ?_
 replace Z := Z.sub (ts := [0, 1, 2]) rfl
 refine sR Z fun Z => ?_
 refine s_runk tRh Z 1 rfl rfl fun a Z => ?_
 refine s_end Z [0, 1, 2] rfl fun Z => ?_
 refine pR Z fun Z => ?_
 refine s_runk tRh Z 1 rfl rfl fun a Z => ?_
 refine s_end Z [0, 1, 2, 7] rfl fun Z => ?_
 refine p_then (wp_seq ?_)
 obtain ⟨c, hx1, hF⟩ := bnd_in hF
 refine f_region Z fun Z => ?_
 refine s_runk tRh Z 3 rfl rfl fun a Z => ?_
 obtain ⟨⟨v1, v2⟩, H⟩ := H.openX 0 rfl
 replace H := H.nf rfl; try dsimp only at H
 refine sO Z _ rfl (oL tRh rfl rfl (H.bc 0 4 rfl rfl)) fun a Z => ?_
 refine hC Z H [(2, true)] rfl #[] fn_72_YRh rfl rfl (fun D h => have q := c_ref17_Copy hx1 h; q) fun vv a w1 D2 hr hF2 Z => ?_
 obtain ⟨q1, hvv, I1, K⟩ := hr; obtain rfl := hvv.symm
 have H := (hF2 K).nf rfl
 refine s_runk tRh Z 1 rfl rfl fun a Z => ?_
 refine s_end Z [0, 1, 2, 7, 8] rfl fun Z => ?_
 refine p_then (wp_seq ?_)
 refine sR Z fun Z => ?_
 refine s_runk tRh Z 1 rfl rfl fun a Z => ?_
 refine s_end Z [0, 1, 2, 7, 8, 9] rfl fun Z => ?_
 refine p_then (wp_block ?_)
 replace H := H.sX (OEref30_State b_l l) (v1, v2) [(1, false), (1, true), (2, true)] rfl rfl rfl
 refine f_iter hF (fun sg a' w' => match sg with | (gone, m, i) => ∃ v3 : Value, Sl 94 [(0, pp b_l 4), (1, vU h), (2, vI n0), (7, vI gone), (8, v3), (9, vI i)] a' ∧ ∃ I2, Hf I D w I2 w' [OEref30_State b_l l, OwC NEEntry 44 v3 m]) ⟨q1, Z.sub (ts := [0, 1, 2, 7, 8, 9]) rfl, ⟨I1, (H.sub [(0, false), (0, false)] rfl).eq rfl⟩⟩ ?_
 rintro rc ⟨gone, m, i⟩ a w2 ⟨v3, Z, I2, H⟩ hF
 unfold F_ref17_Log_Thin_l1 at hF
 try dsimp only at hF
 refine wp_seq ?_
 refine sR Z fun Z => ?_
 refine s_runk tRh Z 2 rfl rfl fun a Z => ?_
 refine sO Z (vI (ln m)) rfl (Ob_slen tRh rfl rfl rfl (H.owshape 1 rfl)) fun a Z => ?_
 refine s_runk tRh Z 2 rfl rfl fun a Z => ?_
 refine gO Z (vI i) rfl (wantB_t _) (.n 9 rfl .z) (fun hp => Ob_c tRh rfl) fun a Z => ?_
 refine gO Z (vI n0) rfl (wantB_t _) (.n 2 rfl .z) (fun hp => Ob_c tRh rfl) fun a Z => ?_
 refine gO Z (vT (decide (i < n0))) rfl (wantB_t _) (.c 22 rfl id (.c 23 rfl id .z)) (fun hp => Ob_c tRh rfl) fun a Z => ?_
 refine sO Z (vT ((decide (i < (ln m))) && (decide (i < n0)))) rfl (Ob_pick rfl rfl rfl rfl (pick_and _ _)) fun a Z => ?_
 refine s_end Z [0, 1, 2, 7, 8, 9, 25] rfl fun Z => ?_
 refine p_then ?_
 refine f_cond Z rfl (fun hc1 => ?_) (fun hc1 => ?_)
 ·replace hF := ite_t hc1 hF
  refine wp_skip ?_
  refine p_then ?_
  refine f_cut (fun a' w' => ∃ (gone_2 : Int) (m_2 : List EEntry), ∃ v4 : Value, Sl 94 [(0, pp b_l 4), (1, vU h), (2, vI n0), (7, vI gone_2), (8, v4), (9, vI i)] a' ∧ (∃ I2, Hf I D w I2 w' [OEref30_State b_l l, OwC NEEntry 44 v4 m_2]) ∧ F_ref17_Log_Thin_k2 i rc gone_2 m_2 = some rr) ?_ ?_
  ·rintro a w3 ⟨gone_2, m_2, v4, Z, ⟨I3, H⟩, hF⟩
   unfold F_ref17_Log_Thin_k2 at hF
   try dsimp only at hF
   obtain ⟨hg1, hF⟩ := chk_in hF
   refine f_region Z fun Z => ?_
   refine s_runk tRh Z 1 rfl rfl fun a Z => ?_
   refine sO Z (vI (i + 1)) rfl (Ob_add rfl rfl rfl (wrI hg1)) fun a Z => ?_
   refine s_runk tRh Z 1 rfl rfl fun a Z => ?_
   refine s_end Z [0, 1, 2, 7, 8, 9] rfl fun Z => ?_
   refine p_then ?_
   exact ⟨(gone_2, m_2, i + 1), ⟨v4, Z.sub (ts := [0, 1, 2, 7, 8, 9]) rfl, ⟨I3, (H.sub [(0, false), (0, false)] rfl).eq rfl⟩⟩, hF⟩
  ·skip
   refine wp_block ?_
   refine wp_seq ?_
   refine wp_seq ?_
   obtain ⟨hg2, hF⟩ := chk_in hF
   obtain ⟨hg3, hF⟩ := chk_in hF
   refine f_region Z fun Z => ?_
   refine s_runk tRh Z 2 rfl rfl fun a Z => ?_
   refine sO Z (.pointer (some ⟨blkOf v3, oofOf v3 + (i).toNat * 4, none⟩)) rfl (Ob_sidx tRh rfl rfl rfl rfl (slPl (H.owA 1 rfl) hg2) hg2) fun a Z => ?_
   refine s_runk tRh Z 1 rfl rfl fun a Z => ?_
   obtain ⟨_, ⟨u1, rfl, L1⟩, hat1⟩ := H.owEl 1 rfl hg2
   replace H : Hf I D w I2 w2 [SlC NEOp u1 (((gi m i).batch).ops), OEref30_State b_l l, OwC NEEntry 44 v3 m] := H.addsl L1
   refine sO Z (vU ((gi m i).ts)) rfl (oL tRh rfl rfl (hat1 3 _ rfl)) fun a Z => ?_
   refine s_runk tRh Z 2 rfl rfl fun a Z => ?_
   refine gO Z v3 rfl (wantB_f _) (.n 8 rfl .z) (fun hp => Ob_c tRh rfl) fun a Z => ?_
   refine gO Z (vI i) rfl (wantB_f _) (.n 9 rfl .z) (fun hp => Ob_c tRh rfl) fun a Z => ?_
   refine gO Z (.pointer (some ⟨blkOf v3, oofOf v3 + (i).toNat * 4, none⟩)) rfl (wantB_f _) (.c 35 rfl id (.c 36 rfl id .z)) (fun hp => Ob_sidx tRh rfl rfl rfl rfl (slPl (H.owA 2 rfl) (hg3 hp)) (hg3 hp)) fun a Z => ?_
   refine gO Z (.pointer (some ⟨blkOf v3, oofOf v3 + (i).toNat * 4 + 3, none⟩)) rfl (wantB_f _) (.c 37 rfl id .z) (fun hp => Ob_c tRh rfl) fun a Z => ?_
   obtain ⟨_, ⟨u2, rfl, L2⟩, hat2⟩ := H.owElG 2 rfl (i) (NEEntry.dft _ _)
   replace H : Hf I D w I2 w2 [SlC NEOp u2 (((gi m i).batch).ops), SlC NEOp u1 (((gi m i).batch).ops), OEref30_State b_l l, OwC NEEntry 44 v3 m] := H.addsl L2
   refine gO Z (vU ((gi m i).ts)) rfl (wantB_f _) (.c 38 rfl id .z) (fun hp => oL tRh rfl rfl ((hat2 (hg3 hp)) 3 _ rfl)) fun a Z => ?_
   refine gO Z (vU h) rfl (wantB_f _) (.n 1 rfl .z) (fun hp => Ob_c tRh rfl) fun a Z => ?_
   refine gO Z (vT (decide ((gi m i).ts > h))) rfl (wantB_f _) (.c 39 rfl id (.c 40 rfl id .z)) (fun hp => Ob_c tRh rfl) fun a Z => ?_
   refine sO Z (vT ((((gi m i).ts) == 0) || (decide ((gi m i).ts > h)))) rfl (Ob_pick rfl rfl rfl rfl (pick_or _ _)) fun a Z => ?_
   refine s_end Z [0, 1, 2, 7, 8, 9, 42] rfl fun Z => ?_
   refine p_then ?_
   refine f_cond Z rfl (fun hc2 => ?_) (fun hc2 => ?_)
   ·replace hF := ite_t hc2 hF
    refine wp_exit ?_
    refine p_then_x ?_
    refine f_exit_here ?_
    refine p_then ?_
    exact ⟨gone, m, v3, Z.sub (ts := [0, 1, 2, 7, 8, 9]) rfl, ⟨I2, (H.sub [(2, false), (2, false)] rfl).eq rfl⟩, hF⟩
   ·replace hF := ite_f hc2 hF
    refine wp_skip ?_
    refine pR Z fun Z => ?_
    refine s_runk tRh Z 1 rfl rfl fun a Z => ?_
    refine s_end Z [0, 1, 2, 7, 8, 9, 10] rfl fun Z => ?_
    refine p_then (wp_seq ?_)
    refine sR Z fun Z => ?_
    refine s_runk tRh Z 1 rfl rfl fun a Z => ?_
    refine s_end Z [0, 1, 2, 7, 8, 9, 10, 11] rfl fun Z => ?_
    refine p_then (wp_block ?_)
    replace H := H.nilow NEOp 58
    refine f_iter hF (fun sg a' w' => match sg with | (gone_3, left, o) => ∃ v5 : Value, Sl 94 [(0, pp b_l 4), (1, vU h), (2, vI n0), (7, vI gone_3), (8, v3), (9, vI i), (10, v5), (11, vI o)] a' ∧ ∃ I2, Hf I D w I2 w' [OEref30_State b_l l, OwC NEEntry 44 v3 m, OwC NEOp 58 v5 left]) ⟨nS, Z.sub (ts := [0, 1, 2, 7, 8, 9, 10, 11]) rfl, ⟨I2, (H.sub [(3, false), (3, false), (0, false)] rfl).eq rfl⟩⟩ ?_
    rintro rc_2 ⟨gone_3, left, o⟩ a w4 ⟨v5, Z, I4, H⟩ hF
    unfold F_ref17_Log_Thin_l3 at hF
    try dsimp only at hF
    refine wp_seq ?_
    refine wp_seq ?_
    obtain ⟨hg4, hF⟩ := chk_in hF
    refine f_region Z fun Z => ?_
    refine s_runk tRh Z 3 rfl rfl fun a Z => ?_
    refine sO Z (.pointer (some ⟨blkOf v3, oofOf v3 + (i).toNat * 4, none⟩)) rfl (Ob_sidx tRh rfl rfl rfl rfl (slPl (H.owA 1 rfl) hg4) hg4) fun a Z => ?_
    refine s_runk tRh Z 2 rfl rfl fun a Z => ?_
    obtain ⟨_, ⟨u3, rfl, L3⟩, hat3⟩ := H.owEl 1 rfl hg4
    replace H : Hf I D w I4 w4 [SlC NEOp u3 (((gi m i).batch).ops), OEref30_State b_l l, OwC NEEntry 44 v3 m, OwC NEOp 58 v5 left] := H.addsl L3
    refine sO Z u3 rfl (oL tRh rfl rfl (hat3 2 _ rfl)) fun a Z => ?_
    refine sO Z (vI ((((gi m i).batch).ops).length : Int)) rfl (Ob_slen tRh rfl rfl rfl (H.slshape 0 rfl)) fun a Z => ?_
    refine s_runk tRh Z 1 rfl rfl fun a Z => ?_
    refine s_end Z [0, 1, 2, 7, 8, 9, 10, 11, 51] rfl fun Z => ?_
    refine p_then ?_
    refine f_cond Z rfl (fun hc3 => ?_) (fun hc3 => ?_)
    ·replace hF := ite_t hc3 hF
     refine wp_skip ?_
     refine p_then ?_
     refine f_cut (fun a' w' => ∃ (gone_4 : Int) (left_2 : List EOp), ∃ v6 : Value, Sl 94 [(0, pp b_l 4), (1, vU h), (2, vI n0), (7, vI gone_4), (8, v3), (9, vI i), (10, v6), (11, vI o)] a' ∧ (∃ I2, Hf I D w I2 w' [OEref30_State b_l l, OwC NEEntry 44 v3 m, OwC NEOp 58 v6 left_2]) ∧ F_ref17_Log_Thin_k4 o rc_2 gone_4 left_2 = some rr) ?_ ?_
     ·rintro a w5 ⟨gone_4, left_2, v6, Z, ⟨I5, H⟩, hF⟩
      unfold F_ref17_Log_Thin_k4 at hF
      try dsimp only at hF
      obtain ⟨hg5, hF⟩ := chk_in hF
      refine f_region Z fun Z => ?_
      refine s_runk tRh Z 1 rfl rfl fun a Z => ?_
      refine sO Z (vI (o + 1)) rfl (Ob_add rfl rfl rfl (wrI hg5)) fun a Z => ?_
      refine s_runk tRh Z 1 rfl rfl fun a Z => ?_
      refine s_end Z [0, 1, 2, 7, 8, 9, 10, 11] rfl fun Z => ?_
      refine p_then ?_
      exact ⟨(gone_4, left_2, o + 1), ⟨v6, Z.sub (ts := [0, 1, 2, 7, 8, 9, 10, 11]) rfl, ⟨I5, (H.sub [(0, false), (0, false), (0, false)] rfl).eq rfl⟩⟩, hF⟩
     ·skip
      refine wp_block ?_
      refine wp_seq ?_
      obtain ⟨hg6, hF⟩ := chk_in hF
      obtain ⟨hg7, hF⟩ := chk_in hF
      obtain ⟨l_2, hx2, hF⟩ := bnd_in hF
      refine f_region Z fun Z => ?_
      refine s_runk tRh Z 4 rfl rfl fun a Z => ?_
      refine sO Z (.pointer (some ⟨blkOf v3, oofOf v3 + (i).toNat * 4, none⟩)) rfl (Ob_sidx tRh rfl rfl rfl rfl (slPl (H.owA 2 rfl) hg6) hg6) fun a Z => ?_
      refine s_runk tRh Z 2 rfl rfl fun a Z => ?_
      obtain ⟨_, ⟨u4, rfl, L4⟩, hat4⟩ := H.owEl 2 rfl hg6
      replace H : Hf I D w I4 w4 [SlC NEOp u4 (((gi m i).batch).ops), SlC NEOp u3 (((gi m i).batch).ops), OEref30_State b_l l, OwC NEEntry 44 v3 m, OwC NEOp 58 v5 left] := H.addsl L4
      refine sO Z u4 rfl (oL tRh rfl rfl (hat4 2 _ rfl)) fun a Z => ?_
      refine s_runk tRh Z 1 rfl rfl fun a Z => ?_
      refine sO Z (.pointer (some ⟨blkOf u4, oofOf u4 + (o).toNat * 3, none⟩)) rfl (Ob_sidx tRh rfl rfl rfl rfl (slPl (H.sl 0 rfl) hg7) hg7) fun a Z => ?_
      refine s_runk tRh Z 1 rfl rfl fun a Z => ?_
      refine sO Z (vS (((((gi m i).batch).ops).getD (o).toNat default).key)) rfl (oL tRh rfl rfl ((slFl (H.sl 0 rfl) hg7) 0 _ rfl)) fun a Z => ?_
      refine s_runk tRh Z 2 rfl rfl fun a Z => ?_
      refine hC Z H [(2, false)] rfl #[] fn_74_YRh rfl rfl (fun D h => have q := c_ref17_Log_later hx2 h; q) fun vv a w6 D2 hr hF2 Z => ?_
      obtain ⟨rfl, I6, K⟩ := hr
      have H := (hF2 K).nf rfl
      refine s_end Z [0, 1, 2, 7, 8, 9, 10, 11, 68] rfl fun Z => ?_
      refine p_then ?_
      refine f_cond Z rfl (fun hc4 => ?_) (fun hc4 => ?_)
      ·replace hF := ite_t hc4 hF
       obtain ⟨hg8, hF⟩ := chk_in hF
       refine f_region Z fun Z => ?_
       refine s_runk tRh Z 1 rfl rfl fun a Z => ?_
       refine sO Z (vI (gone_3 + 1)) rfl (Ob_add rfl rfl rfl (wrI hg8)) fun a Z => ?_
       refine s_runk tRh Z 1 rfl rfl fun a Z => ?_
       refine s_end Z [0, 1, 2, 7, 8, 9, 10, 11] rfl fun Z => ?_
       refine p_blk ?_
       refine p_then ?_
       exact ⟨gone_3 + 1, left, v5, Z.sub (ts := [0, 1, 2, 7, 8, 9, 10, 11]) rfl, ⟨I6, (H.sub [(0, false), (2, false), (2, false)] rfl).eq rfl⟩, hF⟩
      ·replace hF := ite_f hc4 hF
       obtain ⟨hg9, hF⟩ := chk_in hF
       obtain ⟨hg10, hF⟩ := chk_in hF
       obtain ⟨hg11, hF⟩ := chk_in hF
       refine f_region Z fun Z => ?_
       refine s_runk tRh Z 3 rfl rfl fun a Z => ?_
       refine sO Z (.pointer (some ⟨blkOf v3, oofOf v3 + (i).toNat * 4, none⟩)) rfl (Ob_sidx tRh rfl rfl rfl rfl (slPl (H.owA 3 rfl) hg9) hg9) fun a Z => ?_
       refine s_runk tRh Z 2 rfl rfl fun a Z => ?_
       obtain ⟨_, ⟨u5, rfl, L5⟩, hat5⟩ := H.owEl 3 rfl hg9
       replace H : Hf I D w I6 w6 [SlC NEOp u5 (((gi m i).batch).ops), OEref30_State b_l l, SlC NEOp u4 (((gi m i).batch).ops), SlC NEOp u3 (((gi m i).batch).ops), OwC NEEntry 44 v3 m, OwC NEOp 58 v5 left] := H.addsl L5
       refine sO Z u5 rfl (oL tRh rfl rfl (hat5 2 _ rfl)) fun a Z => ?_
       refine s_runk tRh Z 1 rfl rfl fun a Z => ?_
       refine sO Z (.pointer (some ⟨blkOf u5, oofOf u5 + (o).toNat * 3, none⟩)) rfl (Ob_sidx tRh rfl rfl rfl rfl (slPl (H.sl 0 rfl) hg10) hg10) fun a Z => ?_
       refine sO Z (.agg #[vS (((((gi m i).batch).ops).getD (o).toNat default).key), vS (((((gi m i).batch).ops).getD (o).toNat default).val), vT (((((gi m i).batch).ops).getD (o).toNat default).del)]) rfl (oA tRh rfl rfl ((slFl (H.sl 0 rfl) hg10).part 0 rfl)) fun a Z => ?_
       refine h_bslice Z H (vs := [(0, .agg #[vS (((((gi m i).batch).ops).getD (o).toNat default).key), vS (((((gi m i).batch).ops).getD (o).toNat default).val), vT (((((gi m i).batch).ops).getD (o).toNat default).del)])]) (cl := [vS (((((gi m i).batch).ops).getD (o).toNat default).key), vS (((((gi m i).batch).ops).getD (o).toNat default).val), vT (((((gi m i).batch).ops).getD (o).toNat default).del)]) (e := 58) rfl rfl rfl (by decide) rfl rfl (fun w => run_bslice (z := .agg #[vS ByteArray.empty, vS ByteArray.empty, vT false]) (m := 3) Tryz.underlying40 (by kernel_rfl) rfl rfl (by decide) (by simp [Instr.fill, Value.cells]) w) fun a w7 b1 H Z => ?_
       refine h_appO Z H 6 E_40_YRh [({ key := ((((gi m i).batch).ops).getD (o).toNat default).key, val := ((((gi m i).batch).ops).getD (o).toNat default).val, del := ((((gi m i).batch).ops).getD (o).toNat default).del } : EOp)] rfl rfl rfl rfl rfl (by decide) rfl rfl rfl (slRep2.box1 (H.bx 0 rfl) ⟨rfl, trivial⟩) hg11 (by decide) fun v7 a w8 H Z => ?_
       dsimp only [List.eraseIdx] at H
       replace H := (H.sub [(0, false), (1, true), (2, false), (2, true), (3, true), (4, false)] rfl).nf rfl
       refine s_runk tRh Z 1 rfl rfl fun a Z => ?_
       refine s_end Z [0, 1, 2, 7, 8, 9, 10, 11] rfl fun Z => ?_
       refine p_blk ?_
       refine p_then ?_
       exact ⟨gone_3, left ++ [({ key := ((((gi m i).batch).ops).getD (o).toNat default).key, val := ((((gi m i).batch).ops).getD (o).toNat default).val, del := ((((gi m i).batch).ops).getD (o).toNat default).del } : EOp)], v7, Z.sub (ts := [0, 1, 2, 7, 8, 9, 10, 11]) rfl, ⟨I6, (H.sub [(2, false), (4, false), (0, false)] rfl).eq rfl⟩, hF⟩
    ·replace hF := ite_f hc3 hF
     refine wp_exit ?_
     refine p_then_x ?_
     refine p_then_x ?_
     refine f_exit_here ?_
     refine p_then ?_
     obtain ⟨hg12, hF⟩ := chk_in hF
     refine f_region Z fun Z => ?_
     refine s_runk tRh Z 3 rfl rfl fun a Z => ?_
     refine sO Z (.pointer (some ⟨blkOf v3, oofOf v3 + (i).toNat * 4, none⟩)) rfl (Ob_sidx tRh rfl rfl rfl rfl (slPl (H.owA 2 rfl) hg12) hg12) fun a Z => ?_
     refine s_runk tRh Z 2 rfl rfl fun a Z => ?_
     obtain ⟨I7, _, H⟩ := H.frzow 3 rfl
     replace H := H.nf rfl; try dsimp only at H
     refine h_setR tRh Z H 3 (z := i) (d := default) 2 ({ (gi m i) with batch := ({ client := ((gi m i).batch).client, req := ((gi m i).batch).req, ops := left } : EBatch) } : EEntry) rfl hg12 rfl rfl rfl 4 rfl rfl (slS.one (H.slshape 0 rfl)) rfl rfl (by decide) (fun cl ⟨s0_, e, h0_⟩ => ⟨v5, by rw [e]; rfl, (H.sl 0 rfl)⟩) fun w10 H => ?_
     dsimp only [List.eraseIdx] at H
     refine s_end Z [0, 1, 2, 7, 8, 9] rfl fun Z => ?_
     refine p_blk ?_
     refine p_then ?_
     exact ⟨gone_3, m.set (i).toNat ({ (gi m i) with batch := ({ client := ((gi m i).batch).client, req := ((gi m i).batch).req, ops := left } : EBatch) } : EEntry), v3, Z.sub (ts := [0, 1, 2, 7, 8, 9]) rfl, ⟨I7, (H.sub [(3, false), (0, false)] rfl).eq rfl⟩, hF⟩
 ·replace hF := ite_f hc1 hF
  refine wp_exit ?_
  refine p_then_x ?_
  refine p_then_x ?_
  refine f_exit_here ?_
  refine pR Z fun Z => ?_
  refine s_runk tRh Z 4 rfl rfl fun a Z => ?_
  obtain ⟨⟨v8, v9⟩, H⟩ := H.openX 0 rfl
  replace H := H.nf rfl; try dsimp only at H
  refine hT tRh Z H 0 rfl rfl (slS.cells (H.owshape 3 rfl)) rfl rfl (one_cons (slS.one (H.owshape 3 rfl)) one_nil) (Nat.le_of_ble_eq_true rfl) rfl fun w11 H => ?_
  dsimp only [List.eraseIdx] at H
  refine s_end Z [7] rfl fun Z => ?_
  refine pR Z fun Z => ?_
  refine s_runk tRh Z 2 rfl rfl fun a Z => ?_
  refine s_end Z [6] rfl fun Z => ?_
  refine p_then (wp_ret ?_)
  obtain ⟨I8, _, H⟩ := H.frzow 3 rfl
  replace H := H.nf rfl; try dsimp only at H
  replace H := H.sX (OEref30_State b_l ({ l with log := ({ l := m } : Eref17_Log) } : Eref30_State)) (v8, v3) [(1, false), (1, true), (0, true)] rfl rfl rfl
  obtain rfl := some_in hF
  exact f_ret Z (run_results1 rfl Z rfl) ⟨rfl, I8, (H.sub [(0, false)] rfl).eq rfl⟩

end Go.Proofs.YtglfajjcgbfehaaGreat
