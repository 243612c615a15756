/- Messages: the law of what is put. -/
import Derived.Test.YthmjkcdpbbcdgaaGreatYMs1
import Derived.Test.YthmjkcdpbbcdgaaGreatYMs2
namespace Go.Proofs.YthmjkcdpbbcdgaaGreat
open Go.RowKit
def tMsWPL : TabL := ⟨[(27649, 1), (30722, 2), (35840, 0), (35842, 2), (35844, 4), (35845, 5), (35846, 6), (35847, 7), (35850, 10), (35853, 13), (35854, 16), (35855, 19), (35856, 20), (35857, 21), (90112, 0)], [], [4], [(25, (111, 2)), (28, (141, 3)), (31, (88, 4)), (32, (23, 1)), (33, (91, 2))], [(3, (1, false)), (4, (1, false)), (23, (1, false)), (24, (1, false)), (25, (1, false)), (28, (1, false)), (31, (1, false)), (32, (1, false)), (33, (1, false)), (35, (22, true))]⟩

def tMsWP : Tab Tryz.prog := ⟨tMsWPL, by kernel_rfl⟩

theorem fn_5_YMsWP : IsFn Tryz.prog 5 := ⟨_, Tryz.func5, by kernel_rfl, by kernel_rfl⟩

theorem fn_6_YMsWP : IsFn Tryz.prog 6 := ⟨_, Tryz.func6, by kernel_rfl, by kernel_rfl⟩

theorem fn_8_YMsWP : IsFn Tryz.prog 8 := ⟨_, Tryz.func8, by kernel_rfl, by kernel_rfl⟩

theorem fn_9_YMsWP : IsFn Tryz.prog 9 := ⟨_, Tryz.func9, by kernel_rfl, by kernel_rfl⟩

theorem fn_10_YMsWP : IsFn Tryz.prog 10 := ⟨_, Tryz.func10, by kernel_rfl, by kernel_rfl⟩

theorem fn_11_YMsWP : IsFn Tryz.prog 11 := ⟨_, Tryz.func11, by kernel_rfl, by kernel_rfl⟩

theorem fn_12_YMsWP : IsFn Tryz.prog 12 := ⟨_, Tryz.func12, by kernel_rfl, by kernel_rfl⟩

theorem fn_13_YMsWP : IsFn Tryz.prog 13 := ⟨_, Tryz.func13, by kernel_rfl, by kernel_rfl⟩

theorem fn_14_YMsWP : IsFn Tryz.prog 14 := ⟨_, Tryz.func14, by kernel_rfl, by kernel_rfl⟩

theorem fn_15_YMsWP : IsFn Tryz.prog 15 := ⟨_, Tryz.func15, by kernel_rfl, by kernel_rfl⟩

theorem fn_16_YMsWP : IsFn Tryz.prog 16 := ⟨_, Tryz.func16, by kernel_rfl, by kernel_rfl⟩

theorem fn_17_YMsWP : IsFn Tryz.prog 17 := ⟨_, Tryz.func17, by kernel_rfl, by kernel_rfl⟩

theorem fn_18_YMsWP : IsFn Tryz.prog 18 := ⟨_, Tryz.func18, by kernel_rfl, by kernel_rfl⟩

theorem fn_19_YMsWP : IsFn Tryz.prog 19 := ⟨_, Tryz.func19, by kernel_rfl, by kernel_rfl⟩

theorem fn_20_YMsWP : IsFn Tryz.prog 20 := ⟨_, Tryz.func20, by kernel_rfl, by kernel_rfl⟩

theorem fn_21_YMsWP : IsFn Tryz.prog 21 := ⟨_, Tryz.func21, by kernel_rfl, by kernel_rfl⟩

theorem fn_22_YMsWP : IsFn Tryz.prog 22 := ⟨_, Tryz.func22, by kernel_rfl, by kernel_rfl⟩

theorem fn_23_YMsWP : IsFn Tryz.prog 23 := ⟨_, Tryz.func23, by kernel_rfl, by kernel_rfl⟩

theorem fn_34_YMsWP : IsFn Tryz.prog 34 := ⟨_, Tryz.func34, by kernel_rfl, by kernel_rfl⟩

theorem fn_58_YMsWP : IsFn Tryz.prog 58 := ⟨_, Tryz.func58, by kernel_rfl, by kernel_rfl⟩

theorem fn_64_YMsWP : IsFn Tryz.prog 64 := ⟨_, Tryz.func64, by kernel_rfl, by kernel_rfl⟩

theorem fn_66_YMsWP : IsFn Tryz.prog 66 := ⟨_, Tryz.func66, by kernel_rfl, by kernel_rfl⟩

theorem fn_107_YMsWP : IsFn Tryz.prog 107 := ⟨_, Tryz.func107, by kernel_rfl, by kernel_rfl⟩

theorem E_32_YMsWP : Elem Tryz.prog 32 23 1 8 := ⟨Tryz.underlying32, by
 have h : (Tryz.prog.info? 23).map (fun i => (i.zero, i.size, i.bytes)) = some (some (.int .u64 0), 1, 8) := by kernel_rfl
 obtain ⟨i, hi, h1⟩ := Option.map_eq_some_iff.1 h
 simp only [Prod.mk.injEq] at h1
 exact ⟨i, _, hi, h1.1, h1.2.1, h1.2.2, by rfl⟩, by decide⟩

def F_mess_simple0 (r0 : Ewire_Reader) (m : EMsg) (c : Int) : Option (Ewire_Reader × EMsg) := if (c == 120) = true then ((F_wire_Reader_Num r0 21).bind fun n0 => (some (n0.2, ({ m with e := n0.1 } : EMsg)))) else (if (c == 97) = true then ((F_wire_Reader_Big r0).bind fun b => (some (b.2, ({ m with at_ := b.1 } : EMsg)))) else (if (c == 108) = true then ((F_wire_Reader_Big r0).bind fun b_2 => (some (b_2.2, ({ m with last := b_2.1 } : EMsg)))) else (if (c == 102) = true then ((F_wire_Reader_Flag r0).bind fun f => (some (f.2, ({ m with flag := f.1 } : EMsg)))) else (if (c == 107) = true then (none) else (if (c == 116) = true then (none) else (some (r0, m)))))))

set_option maxHeartbeats 1000000 in
theorem c_mess_simple0 {I D : Dm} {b_r0 : Nat} {r0 : Ewire_Reader} {b_m : Nat} {m : EMsg} {c : Int} {w : World} {rr : Ewire_Reader × EMsg} (hF : F_mess_simple0 r0 m c = some rr) (H : St I D w [BxC b_r0 93 (cEwire_Reader r0), OEMsg b_m m]) :
  Calls Tryz.prog 66 #[pp b_r0 0, pp b_m 0, .int .i32 c] w (Ret fun vv w' => vv = .tuple #[] ∧ ∃ I', Hf I D w I' w' [BxC b_r0 93 (cEwire_Reader rr.1), OEMsg b_m rr.2]) := by
 replace H := H.hf
 unfold F_mess_simple0 at hF
 refine f_enter 49 Tryz.func66 rfl rfl (Nat.le_of_ble_eq_true rfl) fun a Z => ?_
 replace Z := Z.sub (ts := [0, 1, 2]) rfl
 refine wp_seq (f_region Z ?_); clear Z; intro Z
 refine s_runk tMsWP Z 1 rfl rfl fun a Z => ?_
 refine s_end Z [0, 1, 6] rfl fun Z => ?_
 refine p_then (wp_block ?_)
 refine wp_seq (f_region Z ?_); clear Z; intro Z
 refine s_runk tMsWP Z 2 rfl rfl fun a Z => ?_
 refine s_end Z [0, 1, 6, 7] rfl fun Z => ?_
 refine p_then ?_
 refine f_cond Z rfl (fun hc1 => ?_) (fun hc1 => ?_)
 ·replace hF := ite_t hc1 hF
  obtain ⟨n0, hx1, hF⟩ := bnd_in hF
  refine f_region Z fun Z => ?_
  refine s_runk tMsWP Z 2 rfl rfl fun a Z => ?_
  refine hC Z H [(0, false)] rfl #[] fn_18_YMsWP rfl rfl (fun D h => have q := c_wire_Reader_Num hx1 h; q) fun vv a w1 D2 hr hF2 Z => ?_
  obtain ⟨rfl, I1, K⟩ := hr
  have H := (hF2 K).nf rfl
  refine s_runk tMsWP Z 2 rfl rfl fun a Z => ?_
  obtain ⟨⟨v1, v2, v3, v4, v5⟩, H⟩ := H.openX 1 rfl
  replace H := H.nf rfl; try dsimp only at H
  refine hT tMsWP Z H 0 rfl rfl rfl rfl rfl (one_cons rfl one_nil) (Nat.le_of_ble_eq_true rfl) rfl fun w2 H => ?_
  dsimp only [List.eraseIdx] at H
  refine s_end Z [] rfl fun Z => ?_
  refine p_blk ?_
  replace H := H.sX (OEMsg b_m ({ m with e := n0.1 } : EMsg)) (v1, v2, v3, v4, v5) [(0, false), (0, true), (1, true), (2, true), (3, false), (3, true)] rfl rfl rfl
  obtain rfl := some_in hF
  exact f_fall Z (run_results0 rfl) ⟨rfl, I1, (H.sub [(5, false), (0, false)] rfl).eq rfl⟩
 ·replace hF := ite_f hc1 hF
  refine wp_seq (f_region Z ?_); clear Z; intro Z
  refine s_runk tMsWP Z 2 rfl rfl fun a Z => ?_
  refine s_end Z [0, 1, 6, 14] rfl fun Z => ?_
  refine p_then ?_
  refine f_cond Z rfl (fun hc2 => ?_) (fun hc2 => ?_)
  ·replace hF := ite_t hc2 hF
   obtain ⟨b, hx2, hF⟩ := bnd_in hF
   refine f_region Z fun Z => ?_
   refine s_runk tMsWP Z 2 rfl rfl fun a Z => ?_
   refine hC Z H [(0, false)] rfl #[] fn_64_YMsWP rfl rfl (fun D h => have q := c_wire_Reader_Big hx2 h; q) fun vv a w3 D2 hr hF2 Z => ?_
   obtain ⟨rfl, I2, K⟩ := hr
   have H := (hF2 K).nf rfl
   refine s_runk tMsWP Z 2 rfl rfl fun a Z => ?_
   obtain ⟨⟨v6, v7, v8, v9, v10⟩, H⟩ := H.openX 1 rfl
   replace H := H.nf rfl; try dsimp only at H
   refine hT tMsWP Z H 0 rfl rfl rfl rfl rfl (one_cons rfl one_nil) (Nat.le_of_ble_eq_true rfl) rfl fun w4 H => ?_
   dsimp only [List.eraseIdx] at H
   refine s_end Z [] rfl fun Z => ?_
   refine p_blk ?_
   replace H := H.sX (OEMsg b_m ({ m with at_ := b.1 } : EMsg)) (v6, v7, v8, v9, v10) [(0, false), (0, true), (1, true), (2, true), (3, false), (3, true)] rfl rfl rfl
   obtain rfl := some_in hF
   exact f_fall Z (run_results0 rfl) ⟨rfl, I2, (H.sub [(5, false), (0, false)] rfl).eq rfl⟩
  ·replace hF := ite_f hc2 hF
   refine wp_seq (f_region Z ?_); clear Z; intro Z
   refine s_runk tMsWP Z 2 rfl rfl fun a Z => ?_
   refine s_end Z [0, 1, 6, 21] rfl fun Z => ?_
   refine p_then ?_
   refine f_cond Z rfl (fun hc3 => ?_) (fun hc3 => ?_)
   ·replace hF := ite_t hc3 hF
    obtain ⟨b_2, hx3, hF⟩ := bnd_in hF
    refine f_region Z fun Z => ?_
    refine s_runk tMsWP Z 2 rfl rfl fun a Z => ?_
    refine hC Z H [(0, false)] rfl #[] fn_64_YMsWP rfl rfl (fun D h => have q := c_wire_Reader_Big hx3 h; q) fun vv a w5 D2 hr hF2 Z => ?_
    obtain ⟨rfl, I3, K⟩ := hr
    have H := (hF2 K).nf rfl
    refine s_runk tMsWP Z 2 rfl rfl fun a Z => ?_
    obtain ⟨⟨v11, v12, v13, v14, v15⟩, H⟩ := H.openX 1 rfl
    replace H := H.nf rfl; try dsimp only at H
    refine hT tMsWP Z H 0 rfl rfl rfl rfl rfl (one_cons rfl one_nil) (Nat.le_of_ble_eq_true rfl) rfl fun w6 H => ?_
    dsimp only [List.eraseIdx] at H
    refine s_end Z [] rfl fun Z => ?_
    refine p_blk ?_
    replace H := H.sX (OEMsg b_m ({ m with last := b_2.1 } : EMsg)) (v11, v12, v13, v14, v15) [(0, false), (0, true), (1, true), (2, true), (3, false), (3, true)] rfl rfl rfl
    obtain rfl := some_in hF
    exact f_fall Z (run_results0 rfl) ⟨rfl, I3, (H.sub [(5, false), (0, false)] rfl).eq rfl⟩
   ·replace hF := ite_f hc3 hF
    refine wp_seq (f_region Z ?_); clear Z; intro Z
    refine s_runk tMsWP Z 2 rfl rfl fun a Z => ?_
    refine s_end Z [0, 1, 6, 28] rfl fun Z => ?_
    refine p_then ?_
    refine f_cond Z rfl (fun hc4 => ?_) (fun hc4 => ?_)
    ·replace hF := ite_t hc4 hF
     obtain ⟨f, hx4, hF⟩ := bnd_in hF
     refine f_region Z fun Z => ?_
     refine s_runk tMsWP Z 2 rfl rfl fun a Z => ?_
     refine hC Z H [(0, false)] rfl #[] fn_107_YMsWP rfl rfl (fun D h => have q := c_wire_Reader_Flag hx4 h; q) fun vv a w7 D2 hr hF2 Z => ?_
     obtain ⟨rfl, I4, K⟩ := hr
     have H := (hF2 K).nf rfl
     refine s_runk tMsWP Z 2 rfl rfl fun a Z => ?_
     obtain ⟨⟨v16, v17, v18, v19, v20⟩, H⟩ := H.openX 1 rfl
     replace H := H.nf rfl; try dsimp only at H
     refine hT tMsWP Z H 0 rfl rfl rfl rfl rfl (one_cons rfl one_nil) (Nat.le_of_ble_eq_true rfl) rfl fun w8 H => ?_
     dsimp only [List.eraseIdx] at H
     refine s_end Z [] rfl fun Z => ?_
     refine p_blk ?_
     replace H := H.sX (OEMsg b_m ({ m with flag := f.1 } : EMsg)) (v16, v17, v18, v19, v20) [(0, false), (0, true), (1, true), (2, true), (3, false), (3, true)] rfl rfl rfl
     obtain rfl := some_in hF
     exact f_fall Z (run_results0 rfl) ⟨rfl, I4, (H.sub [(5, false), (0, false)] rfl).eq rfl⟩
    ·replace hF := ite_f hc4 hF
     refine wp_seq (f_region Z ?_); clear Z; intro Z
     refine s_runk tMsWP Z 2 rfl rfl fun a Z => ?_
     refine s_end Z [0, 1, 6, 35] rfl fun Z => ?_
     refine p_then ?_
     refine f_cond Z rfl (fun hc5 => ?_) (fun hc5 => ?_)
     ·replace hF := ite_t hc5 hF
      cases hF
     ·replace hF := ite_f hc5 hF
      refine wp_seq (f_region Z ?_); clear Z; intro Z
      refine s_runk tMsWP Z 2 rfl rfl fun a Z => ?_
      refine s_end Z [0, 1, 42] rfl fun Z => ?_
      refine p_then ?_
      refine f_cond Z rfl (fun hc6 => ?_) (fun hc6 => ?_)
      ·replace hF := ite_t hc6 hF
       cases hF
      ·replace hF := ite_f hc6 hF
       refine wp_skip ?_
       refine p_blk ?_
       obtain rfl := some_in hF
       exact f_fall Z (run_results0 rfl) ⟨rfl, I, (H.sub [(0, false), (0, false)] rfl).eq rfl⟩

def F_mess_read0_k1 (r_s : ByteArray) (r_at_ : Int) (r_e : Int) (r_made : Bool) (m_2 : EMsg) : Option (Int × Ewire_Reader × EMsg) := (F_wire_Reader_Err ({ s := r_s, at_ := r_at_, e := r_e, made := r_made } : Ewire_Reader)).bind fun e_2 => (some (e_2, ({ s := r_s, at_ := r_at_, e := r_e, made := r_made } : Ewire_Reader), m_2))

def F_mess_read0_l2 (n0_3 : Int × Ewire_Reader) (rc : (Int × ByteArray × Int × Int × Bool × EMsg) → Option (Int × Ewire_Reader × EMsg)) (sg : Int × ByteArray × Int × Int × Bool × EMsg) : Option (Int × Ewire_Reader × EMsg) := match sg with | (x, r_s_2, r_at__2, r_e_2, r_made_2, m_3) => if (decide (x < n0_3.1)) = true then ((F_wire_Reader_Big ({ s := r_s_2, at_ := r_at__2, e := r_e_2, made := r_made_2 } : Ewire_Reader)).bind fun b => (chk (((m_3.stamps.length + [b.1].length : Nat) : Int) * 8 ≤ 140737488355328) (chk (inI (x + 1)) (rc (x + 1, b.2.s, b.2.at_, b.2.e, b.2.made, ({ m_3 with stamps := m_3.stamps ++ [b.1] } : EMsg)))))) else (F_mess_read0_k1 r_s_2 r_at__2 r_e_2 r_made_2 m_3)

def F_mess_read0 (r0 : Ewire_Reader) (m : EMsg) (c : Int) : Option (Int × Ewire_Reader × EMsg) := (F_mess_number c).bind fun n0 => (if (!n0.isNone) = true then ((F_wire_Reader_Num r0 1073741824).bind fun n0_2 => (chk (n0.isSome = true) (chk (n0.any [1, 2, 3, 7, 8, 9].contains = true) ((F_wire_Reader_Err n0_2.2).bind fun e => (some (e, n0_2.2, ({ m with epoch := cond (n0 == some 1) n0_2.1 m.epoch, req := cond (n0 == some 2) n0_2.1 m.req, serial := cond (n0 == some 3) n0_2.1 m.serial, n := cond (n0 == some 7) n0_2.1 m.n, m := cond (n0 == some 8) n0_2.1 m.m, p := cond (n0 == some 9) n0_2.1 m.p } : EMsg))))))) else (if (c == 67) = true then (none) else (if (c == 66) = true then (none) else (if (c == 69) = true then (none) else (if (c == 83) = true then ((F_wire_Reader_Num r0 8).bind fun n0_3 => (iter (F_mess_read0_l2 n0_3) FU (0, n0_3.2.s, n0_3.2.at_, n0_3.2.e, n0_3.2.made, m))) else (if (c == 82) = true then (none) else ((F_mess_simple0 r0 m c).bind fun s0 => (F_mess_read0_k1 s0.1.s s0.1.at_ s0.1.e s0.1.made s0.2))))))))

set_option maxHeartbeats 1000000 in
theorem c_mess_read0 {I D : Dm} {b_r0 : Nat} {r0 : Ewire_Reader} {b_m : Nat} {m : EMsg} {c : Int} {w : World} {rr : Int × Ewire_Reader × EMsg} (hF : F_mess_read0 r0 m c = some rr) (H : St I D w [BxC b_r0 93 (cEwire_Reader r0), OEMsg b_m m]) :
  Calls Tryz.prog 21 #[pp b_r0 0, pp b_m 0, .int .i32 c] w (Ret fun vv w' => vv = vI rr.1 ∧ ∃ I', Hf I D w I' w' [BxC b_r0 93 (cEwire_Reader rr.2.1), OEMsg b_m rr.2.2]) := by
 replace H := H.hf
 unfold F_mess_read0 at hF
 refine f_enter 86 Tryz.func21 rfl rfl (Nat.le_of_ble_eq_true rfl) fun a Z => ?_
 replace Z := Z.sub (ts := [0, 1, 2]) rfl
 refine wp_seq (f_region Z ?_); clear Z; intro Z
 refine s_runk tMsWP Z 1 rfl rfl fun a Z => ?_
 refine s_end Z [0, 1, 2] rfl fun Z => ?_
 refine p_then (wp_seq ?_)
 refine wp_seq ?_
 obtain ⟨n0, hx1, hF⟩ := bnd_in hF
 refine f_region Z fun Z => ?_
 refine s_runk tMsWP Z 2 rfl rfl fun a Z => ?_
 refine hC Z H [] rfl #[] fn_58_YMsWP rfl rfl (fun D h => have q := c_mess_number hx1 h; q) fun vv a w1 D2 hr hF2 Z => ?_
 obtain ⟨rfl, I1, K⟩ := hr
 have H := (hF2 K).nf rfl
 refine s_runk tMsWP Z 1 rfl rfl fun a Z => ?_
 refine s_end Z [0, 1, 2, 7] rfl fun Z => ?_
 refine p_then (wp_seq (f_region Z ?_)); clear Z; intro Z
 refine s_runk tMsWP Z 1 rfl rfl fun a Z => ?_
 refine sO Z (vT (!n0.isNone)) rfl (Ob_ieq rfl rfl rfl (.inr ⟨rfl, rfl⟩) Tryz.underlying98) fun a Z => ?_
 refine s_end Z [0, 1, 2, 7, 12] rfl fun Z => ?_
 refine p_then ?_
 refine f_cond Z rfl (fun hc1 => ?_) (fun hc1 => ?_)
 ·replace hF := ite_t hc1 hF
  refine wp_seq ?_
  obtain ⟨n0_2, hx2, hF⟩ := bnd_in hF
  obtain ⟨hg1, hF⟩ := chk_in hF
  obtain ⟨hg2, hF⟩ := chk_in hF
  refine f_region Z fun Z => ?_
  refine s_runk tMsWP Z 2 rfl rfl fun a Z => ?_
  refine hC Z H [(0, false)] rfl #[] fn_18_YMsWP rfl rfl (fun D h => have q := c_wire_Reader_Num hx2 h; q) fun vv a w2 D2 hr hF2 Z => ?_
  obtain ⟨rfl, I2, K⟩ := hr
  have H := (hF2 K).nf rfl
  refine sO Z (iptV b_m n0) rfl (Ob_inil rfl rfl hg1) fun a Z => ?_
  obtain ⟨⟨v1, v2, v3, v4, v5⟩, H⟩ := H.openX 1 rfl
  replace H := H.nf rfl; try dsimp only at H
  refine h_istore tMsWP Z H 0 (fun q_ => [vI m.k, vI (cond (q_ == some 1) n0_2.1 m.epoch), vI (cond (q_ == some 2) n0_2.1 m.req), vI (cond (q_ == some 3) n0_2.1 m.serial), vT m.flag, vU m.at_, vU m.last, vI (cond (q_ == some 7) n0_2.1 m.n), vI (cond (q_ == some 8) n0_2.1 m.m), vI (cond (q_ == some 9) n0_2.1 m.p), vI m.e, vS m.key, vS m.to_, vI m.conf.epoch, v1, vU m.conf.floor, vI m.batch.client, vI m.batch.req, v2, v3, v4, v5]) [1, 2, 3, 7, 8, 9] rfl rfl rfl rfl rfl rfl rfl rfl rfl hg2 ⟨rfl, Nat.le_of_ble_eq_true rfl, rfl, Nat.le_of_ble_eq_true rfl, rfl, Nat.le_of_ble_eq_true rfl, rfl, Nat.le_of_ble_eq_true rfl, rfl, Nat.le_of_ble_eq_true rfl, rfl, Nat.le_of_ble_eq_true rfl, trivial⟩ fun w3 H => ?_
  dsimp only [List.eraseIdx] at H
  refine s_end Z [0] rfl fun Z => ?_
  refine p_then (wp_seq ?_)
  obtain ⟨e, hx3, hF⟩ := bnd_in hF
  refine f_region Z fun Z => ?_
  refine s_runk tMsWP Z 1 rfl rfl fun a Z => ?_
  refine hC Z H [(6, false)] rfl #[] fn_19_YMsWP rfl rfl (fun D h => have q := c_wire_Reader_Err hx3 h; q) fun vv a w4 D2 hr hF2 Z => ?_
  obtain ⟨rfl, I3, K⟩ := hr
  have H := (hF2 K).nf rfl
  refine s_runk tMsWP Z 1 rfl rfl fun a Z => ?_
  refine s_end Z [6] rfl fun Z => ?_
  refine p_then (wp_ret ?_)
  refine p_then_r ?_
  replace H := H.sX (OEMsg b_m ({ m with epoch := cond (n0 == some 1) n0_2.1 m.epoch, req := cond (n0 == some 2) n0_2.1 m.req, serial := cond (n0 == some 3) n0_2.1 m.serial, n := cond (n0 == some 7) n0_2.1 m.n, m := cond (n0 == some 8) n0_2.1 m.m, p := cond (n0 == some 9) n0_2.1 m.p } : EMsg)) (v1, v2, v3, v4, v5) [(1, false), (1, true), (2, true), (3, true), (4, false), (4, true)] rfl rfl rfl
  obtain rfl := some_in hF
  exact f_ret Z (run_results1 rfl Z rfl) ⟨rfl, I3, (H.sub [(1, false), (0, false)] rfl).eq rfl⟩
 ·replace hF := ite_f hc1 hF
  refine wp_skip ?_
  refine p_then ?_
  refine f_cut (fun a' w' => ∃ (r_s : ByteArray) (r_at_ : Int) (r_e : Int) (r_made : Bool) (m_2 : EMsg), Sl 86 [(0, pp b_r0 0)] a' ∧ (∃ I2, Hf I D w I2 w' [BxC b_r0 93 [vS r_s, vI r_at_, vI r_e, vT r_made], OEMsg b_m m_2]) ∧ F_mess_read0_k1 r_s r_at_ r_e r_made m_2 = some rr) ?_ ?_
  ·rintro a w5 ⟨r_s, r_at_, r_e, r_made, m_2, Z, ⟨I4, H⟩, hF⟩
   unfold F_mess_read0_k1 at hF
   try dsimp only at hF
   refine wp_seq ?_
   obtain ⟨e_2, hx4, hF⟩ := bnd_in hF
   refine f_region Z fun Z => ?_
   refine s_runk tMsWP Z 1 rfl rfl fun a Z => ?_
   refine hC Z H [(0, false)] rfl #[] fn_19_YMsWP rfl rfl (fun D h => have q := c_wire_Reader_Err hx4 h; q) fun vv a w6 D2 hr hF2 Z => ?_
   obtain ⟨rfl, I5, K⟩ := hr
   have H := (hF2 K).nf rfl
   refine s_runk tMsWP Z 1 rfl rfl fun a Z => ?_
   refine s_end Z [6] rfl fun Z => ?_
   refine p_then (wp_ret ?_)
   obtain rfl := some_in hF
   exact f_ret Z (run_results1 rfl Z rfl) ⟨rfl, I5, (H.sub [(0, false), (0, false)] rfl).eq rfl⟩
  ·skip
   refine wp_seq (f_region Z ?_); clear Z; intro Z
   refine s_runk tMsWP Z 1 rfl rfl fun a Z => ?_
   refine s_end Z [0, 1, 2, 19] rfl fun Z => ?_
   refine p_then (wp_block ?_)
   refine wp_seq (f_region Z ?_); clear Z; intro Z
   refine s_runk tMsWP Z 2 rfl rfl fun a Z => ?_
   refine s_end Z [0, 1, 2, 19, 24] rfl fun Z => ?_
   refine p_then ?_
   refine f_cond Z rfl (fun hc2 => ?_) (fun hc2 => ?_)
   ·replace hF := ite_t hc2 hF
    refine wp_seq ?_
    cases hF
   ·replace hF := ite_f hc2 hF
    refine wp_seq (f_region Z ?_); clear Z; intro Z
    refine s_runk tMsWP Z 2 rfl rfl fun a Z => ?_
    refine s_end Z [0, 1, 2, 19, 35] rfl fun Z => ?_
    refine p_then ?_
    refine f_cond Z rfl (fun hc3 => ?_) (fun hc3 => ?_)
    ·replace hF := ite_t hc3 hF
     refine wp_seq ?_
     cases hF
    ·replace hF := ite_f hc3 hF
     refine wp_seq (f_region Z ?_); clear Z; intro Z
     refine s_runk tMsWP Z 2 rfl rfl fun a Z => ?_
     refine s_end Z [0, 1, 2, 19, 46] rfl fun Z => ?_
     refine p_then ?_
     refine f_cond Z rfl (fun hc4 => ?_) (fun hc4 => ?_)
     ·replace hF := ite_t hc4 hF
      refine wp_seq ?_
      cases hF
     ·replace hF := ite_f hc4 hF
      refine wp_seq (f_region Z ?_); clear Z; intro Z
      refine s_runk tMsWP Z 2 rfl rfl fun a Z => ?_
      refine s_end Z [0, 1, 2, 19, 59] rfl fun Z => ?_
      refine p_then ?_
      refine f_cond Z rfl (fun hc5 => ?_) (fun hc5 => ?_)
      ·replace hF := ite_t hc5 hF
       refine wp_seq ?_
       obtain ⟨n0_3, hx5, hF⟩ := bnd_in hF
       refine f_region Z fun Z => ?_
       refine s_runk tMsWP Z 1 rfl rfl fun a Z => ?_
       refine hC Z H [(0, false)] rfl #[] fn_18_YMsWP rfl rfl (fun D h => have q := c_wire_Reader_Num hx5 h; q) fun vv a w7 D2 hr hF2 Z => ?_
       obtain ⟨rfl, I6, K⟩ := hr
       have H := (hF2 K).nf rfl
       refine s_runk tMsWP Z 1 rfl rfl fun a Z => ?_
       refine s_end Z [0, 1, 62, 63] rfl fun Z => ?_
       refine p_then (wp_block ?_)
       refine f_iter hF (fun sg a' w' => match sg with | (x, r_s_2, r_at__2, r_e_2, r_made_2, m_3) => Sl 86 [(0, pp b_r0 0), (1, pp b_m 0), (62, vI n0_3.1), (63, vI x)] a' ∧ ∃ I2, Hf I D w I2 w' [BxC b_r0 93 [vS r_s_2, vI r_at__2, vI r_e_2, vT r_made_2], OEMsg b_m m_3]) ⟨Z.sub (ts := [0, 1, 62, 63]) rfl, ⟨I6, (H.sub [(0, false), (0, false)] rfl).eq rfl⟩⟩ ?_
       rintro rc ⟨x, r_s_2, r_at__2, r_e_2, r_made_2, m_3⟩ a w8 ⟨Z, I7, H⟩ hF
       unfold F_mess_read0_l2 at hF
       try dsimp only at hF
       refine wp_seq (f_region Z ?_); clear Z; intro Z
       refine s_runk tMsWP Z 1 rfl rfl fun a Z => ?_
       refine s_end Z [0, 1, 62, 63, 64] rfl fun Z => ?_
       refine p_then (wp_seq ?_)
       refine f_cond Z rfl (fun hc6 => ?_) (fun hc6 => ?_)
       ·replace hF := ite_t hc6 hF
        refine wp_skip ?_
        refine p_then (wp_seq ?_)
        refine wp_block ?_
        obtain ⟨⟨v6, v7, v8, v9, v10⟩, H⟩ := H.openX 1 rfl
        replace H := H.nf rfl; try dsimp only at H
        obtain ⟨b, hx6, hF⟩ := bnd_in hF
        obtain ⟨hg3, hF⟩ := chk_in hF
        refine f_regionL Z (by kernel_rfl) (by kernel_rfl) (by decide) (by decide) [6, 7, 8, 11] [(0, 0, 3), (0, 0, 2), (2, 0, 2), (6, 0, 2), (14, 0, 2), (0, 0, 0), (32, 0, 0), (96, 1, 1), (254, 2, 2), (511, 3, 3), (1023, 3, 3), (2047, 3, 3)] (by kernel_rfl) (fun jj vv => match jj with | 0 => vv = pp b_m 0 | 1 => vv = pp b_m 0 | 2 => vv = pp b_m 0 | 3 => vv = pp b_m 20 | 4 => vv = v9 | 5 => vv = pp b_r0 0 | 6 => vv = vU b.1 | 7 => vv = .slice (some ⟨blkOf vv, 0, none⟩) 1 1 | 8 => True | 9 => vv = pp b_m 0 | 10 => vv = pp b_m 20 | 11 => True | _ => True) (fun ss vals1 xw => match ss with | 0 => Gx I D w I7 w8 xw [BxC b_m 35 (cEMsg m_3 v6 v7 v8 v9 v10), SlC NEMember v6 m_3.conf.members, SlC NEOp v7 m_3.batch.ops, SlC NEEntry v8 m_3.entries, OwC Nu64 23 v9 m_3.stamps, SlC NEPair v10 m_3.pairs, BxC b_r0 93 [vS r_s_2, vI r_at__2, vI r_e_2, vT r_made_2]] | 1 => Gx I D w I7 w8 xw [BxC b_r0 93 (cEwire_Reader b.2), BxC b_m 35 (cEMsg m_3 v6 v7 v8 v9 v10), SlC NEMember v6 m_3.conf.members, SlC NEOp v7 m_3.batch.ops, SlC NEEntry v8 m_3.entries, OwC Nu64 23 v9 m_3.stamps, SlC NEPair v10 m_3.pairs] | 2 => Gx I D w I7 w8 xw [BxC (blkOf (vals1 7)) 23 [vU b.1], BxC b_r0 93 (cEwire_Reader b.2), BxC b_m 35 (cEMsg m_3 v6 v7 v8 v9 v10), SlC NEMember v6 m_3.conf.members, SlC NEOp v7 m_3.batch.ops, SlC NEEntry v8 m_3.entries, OwC Nu64 23 v9 m_3.stamps, SlC NEPair v10 m_3.pairs] | 3 => Gx I D w I7 w8 xw [OwC Nu64 23 (vals1 8) (m_3.stamps ++ [b.1]), BxC b_r0 93 (cEwire_Reader b.2), BxC b_m 35 (cEMsg m_3 v6 v7 v8 v9 v10), SlC NEMember v6 m_3.conf.members, SlC NEOp v7 m_3.batch.ops, SlC NEEntry v8 m_3.entries, SlC NEPair v10 m_3.pairs] | _ => Gx I D w I7 w8 xw [BxC b_m 35 (cEMsg m_3 v6 v7 v8 (vals1 8) v10), OwC Nu64 23 (vals1 8) (m_3.stamps ++ [b.1]), BxC b_r0 93 (cEwire_Reader b.2), SlC NEMember v6 m_3.conf.members, SlC NEOp v7 m_3.batch.ops, SlC NEEntry v8 m_3.entries, SlC NEPair v10 m_3.pairs]) (fun _ => Gx.start H) ?_ ?_
        ·intro fr hfr hfe
         refine .cons (fun ss hlo hhi vals1 xw hG hV => ?_) ?_
         ·obtain rfl | rfl | rfl | rfl : ss = 0 ∨ ss = 1 ∨ ss = 2 ∨ ss = 3 := st3 hlo hhi
          all_goals
          ·rw [← hfe]
           have hS := (hfr vals1).sub (ts := [1]) rfl
           exact L_val hS rfl (Ob_c tMsWP rfl) ⟨rfl, hG⟩
         refine .cons (fun ss hlo hhi vals1 xw hG hV => ?_) ?_
         ·obtain rfl | rfl | rfl : ss = 0 ∨ ss = 1 ∨ ss = 2 := st2 hlo hhi
          all_goals
          ·rw [← hfe]
           have hS := (hfr vals1).sub (ts := [1]) rfl
           exact L_val hS rfl (Ob_c tMsWP rfl) ⟨rfl, hG⟩
         refine .cons (fun ss hlo hhi vals1 xw hG hV => ?_) ?_
         ·obtain rfl | rfl | rfl : ss = 0 ∨ ss = 1 ∨ ss = 2 := st2 hlo hhi
          all_goals
          ·rw [← hfe]
           have hS := (hfr vals1).sub (ts := [66]) rfl
           replace hS := hS.conv (t := 66) rfl (show (vals1 1) = pp b_m 0 from hV 1 (by decide))
           exact L_val hS rfl (Ob_c tMsWP rfl) ⟨rfl, hG⟩
         refine .cons (fun ss hlo hhi vals1 xw hG hV => ?_) ?_
         ·obtain rfl | rfl | rfl : ss = 0 ∨ ss = 1 ∨ ss = 2 := st2 hlo hhi
          all_goals
          ·rw [← hfe]
           have hS := (hfr vals1).sub (ts := [67]) rfl
           replace hS := hS.conv (t := 67) rfl (show (vals1 2) = pp b_m 0 from hV 2 (by decide))
           exact L_val hS rfl (Ob_c tMsWP rfl) ⟨rfl, hG⟩
         refine .cons (fun ss hlo hhi vals1 xw hG hV => ?_) ?_
         ·obtain rfl | rfl | rfl : ss = 0 ∨ ss = 1 ∨ ss = 2 := st2 hlo hhi
          ·rw [← hfe]
           have hS := (hfr vals1).sub (ts := [68]) rfl
           replace hS := hS.conv (t := 68) rfl (show (vals1 3) = pp b_m 20 from hV 3 (by decide))
           obtain ⟨I2, hI2, H⟩ := Gx.ex hG
           exact L_val hS rfl (oL tMsWP rfl rfl (H.bc 0 20 rfl rfl)) ⟨rfl, hG⟩
          ·rw [← hfe]
           have hS := (hfr vals1).sub (ts := [68]) rfl
           replace hS := hS.conv (t := 68) rfl (show (vals1 3) = pp b_m 20 from hV 3 (by decide))
           obtain ⟨I2, hI2, H⟩ := Gx.ex hG
           exact L_val hS rfl (oL tMsWP rfl rfl (H.bc 1 20 rfl rfl)) ⟨rfl, hG⟩
          ·rw [← hfe]
           have hS := (hfr vals1).sub (ts := [68]) rfl
           replace hS := hS.conv (t := 68) rfl (show (vals1 3) = pp b_m 20 from hV 3 (by decide))
           obtain ⟨I2, hI2, H⟩ := Gx.ex hG
           exact L_val hS rfl (oL tMsWP rfl rfl (H.bc 2 20 rfl rfl)) ⟨rfl, hG⟩
         refine .cons (fun ss hlo hhi vals1 xw hG hV => ?_) ?_
         ·obtain rfl : ss = 0 := Nat.le_antisymm hhi hlo
          rw [← hfe]
          have hS := (hfr vals1).sub (ts := [0]) rfl
          exact L_val hS rfl (Ob_c tMsWP rfl) ⟨rfl, hG⟩
         refine .cons (fun ss hlo hhi vals1 xw hG hV => ?_) ?_
         ·obtain rfl : ss = 0 := Nat.le_antisymm hhi hlo
          rw [← hfe]
          have hS := (hfr vals1).sub (ts := [70]) rfl
          replace hS := hS.conv (t := 70) rfl (show (vals1 5) = pp b_r0 0 from hV 5 (by decide))
          obtain ⟨I2, hI2, H⟩ := Gx.ex hG
          refine L_hcall H (js := [(6, false)]) rfl (caps := #[]) hS fn_64_YMsWP rfl rfl rfl rfl rfl (fun D1 hS => have hq := c_wire_Reader_Big hx6 hS; hq) fun _ yw D1 hr hF2 => ?_
          obtain ⟨rfl, I3, K⟩ := hr
          obtain ⟨hK, H2⟩ := hF2 K
          exact ⟨rfl, Gx.go hG hI2 hK K.imm H2⟩
         refine .cons (fun ss hlo hhi vals1 xw hG hV => ?_) ?_
         ·obtain rfl : ss = 1 := Nat.le_antisymm hhi hlo
          rw [← hfe]
          have hS := (hfr vals1).sub (ts := [71]) rfl
          replace hS := hS.conv (t := 71) rfl (show (vals1 6) = vU b.1 from hV 6 (by decide))
          obtain ⟨I2, hI2, H⟩ := Gx.ex hG
          exact L_bslice H (vs := [(0, vU b.1)]) (cl := [vU b.1]) (e := 23) hS rfl rfl rfl (fun w => run_bslice (z := vU 0) (m := 1) Tryz.underlying32 (by kernel_rfl) rfl rfl (by decide) (by simp [Instr.fill, Value.cells]) w) fun yw b hK H => ⟨rfl, Gx.go hG hI2 hK (fun _ h => h) H⟩
         refine .cons (fun ss hlo hhi vals1 xw hG hV => ?_) ?_
         ·obtain rfl : ss = 2 := Nat.le_antisymm hhi hlo
          rw [← hfe]
          have hS := (hfr vals1).sub (ts := [69, 72]) rfl
          replace hS := hS.conv (t := 69) rfl (show (vals1 4) = v9 from hV 4 (by decide))
          replace hS := hS.conv (t := 72) rfl (show (vals1 7) = .slice (some ⟨blkOf (vals1 7), 0, none⟩) 1 1 from hV 7 (by decide))
          obtain ⟨I2, hI2, H⟩ := Gx.ex hG
          exact L_appO H 6 E_32_YMsWP [b.1] rfl rfl hS rfl rfl rfl rfl (slRep2.box1 (H.bx 0 rfl) ⟨rfl, trivial⟩) hg3 (by decide) fun v yw hK H => ⟨trivial, Gx.go hG hI2 hK (fun _ h => h) (H.sub [(0, false), (1, false), (1, false), (1, true), (2, true), (3, true), (4, true)] rfl)⟩
         refine .cons (fun ss hlo hhi vals1 xw hG hV => ?_) ?_
         ·obtain rfl : ss = 3 := Nat.le_antisymm hhi hlo
          rw [← hfe]
          have hS := (hfr vals1).sub (ts := [65]) rfl
          replace hS := hS.conv (t := 65) rfl (show (vals1 0) = pp b_m 0 from hV 0 (by decide))
          exact L_val hS rfl (Ob_c tMsWP rfl) ⟨rfl, hG⟩
         refine .cons (fun ss hlo hhi vals1 xw hG hV => ?_) ?_
         ·obtain rfl : ss = 3 := Nat.le_antisymm hhi hlo
          rw [← hfe]
          have hS := (hfr vals1).sub (ts := [74]) rfl
          replace hS := hS.conv (t := 74) rfl (show (vals1 9) = pp b_m 0 from hV 9 (by decide))
          exact L_val hS rfl (Ob_c tMsWP rfl) ⟨rfl, hG⟩
         refine .cons (fun ss hlo hhi vals1 xw hG hV => ?_) ?_
         ·obtain rfl : ss = 3 := Nat.le_antisymm hhi hlo
          rw [← hfe]
          have hS := (hfr vals1).sub (ts := [75, 73]) rfl
          replace hS := hS.conv (t := 75) rfl (show (vals1 10) = pp b_m 20 from hV 10 (by decide))
          obtain ⟨I2, hI2, H⟩ := Gx.ex hG
          exact L_store tMsWP H 2 rfl hS rfl rfl rfl rfl rfl (slS.cells (H.owshape 0 rfl)) rfl rfl (one_cons (slS.one (H.owshape 0 rfl)) one_nil) (Nat.le_of_ble_eq_true rfl) rfl fun yw hK H => ⟨trivial, Gx.go hG hI2 hK (fun _ h => h) H⟩
         exact .nil
        ·intro vals1 a w9 Z hG hV
         replace Z := Z.sub (ts := [0, 1, 62, 63]) (S' := [(0, pp b_r0 0), (1, pp b_m 0), (62, vI n0_3.1), (63, vI x)]) rfl
         obtain ⟨I8, _, H⟩ := Gx.ex hG
         clear hG hV
         replace Z := Z.sub (ts := [0, 1, 62, 63]) rfl
         replace H := H.nf rfl; try dsimp only at H
         refine p_blk ?_
         refine p_then ?_
         obtain ⟨hg4, hF⟩ := chk_in hF
         refine f_region Z fun Z => ?_
         refine sO Z (vI (x + 1)) rfl (Ob_add rfl rfl rfl (wrI hg4)) fun a Z => ?_
         refine s_runk tMsWP Z 1 rfl rfl fun a Z => ?_
         refine s_end Z [0, 1, 62, 63] rfl fun Z => ?_
         refine p_then ?_
         replace H := H.sX (OEMsg b_m ({ m_3 with stamps := m_3.stamps ++ [b.1] } : EMsg)) (v6, v7, v8, (vals1 8), v10) [(0, false), (2, true), (3, true), (4, true), (0, false), (4, true)] rfl rfl rfl
         exact ⟨(x + 1, b.2.s, b.2.at_, b.2.e, b.2.made, ({ m_3 with stamps := m_3.stamps ++ [b.1] } : EMsg)), ⟨Z.sub (ts := [0, 1, 62, 63]) rfl, ⟨I8, (H.sub [(1, false), (0, false)] rfl).eq rfl⟩⟩, hF⟩
       ·replace hF := ite_f hc6 hF
        refine wp_exit ?_
        refine p_then_x ?_
        refine p_then_x ?_
        refine f_exit_here ?_
        refine p_blk ?_
        refine p_then ?_
        exact ⟨r_s_2, r_at__2, r_e_2, r_made_2, m_3, Z.sub (ts := [0]) rfl, ⟨I7, (H.sub [(0, false), (0, false)] rfl).eq rfl⟩, hF⟩
      ·replace hF := ite_f hc5 hF
       refine wp_seq (f_region Z ?_); clear Z; intro Z
       refine s_runk tMsWP Z 2 rfl rfl fun a Z => ?_
       refine s_end Z [0, 1, 2, 77] rfl fun Z => ?_
       refine p_then ?_
       refine f_cond Z rfl (fun hc7 => ?_) (fun hc7 => ?_)
       ·replace hF := ite_t hc7 hF
        cases hF
       ·replace hF := ite_f hc7 hF
        obtain ⟨s0, hx7, hF⟩ := bnd_in hF
        refine f_region Z fun Z => ?_
        refine s_runk tMsWP Z 3 rfl rfl fun a Z => ?_
        refine hC Z H [(0, false), (0, false)] rfl #[] fn_66_YMsWP rfl rfl (fun D h => have q := c_mess_simple0 hx7 h; q) fun vv a w10 D2 hr hF2 Z => ?_
        obtain ⟨rfl, I9, K⟩ := hr
        have H := (hF2 K).nf rfl
        refine s_end Z [0] rfl fun Z => ?_
        refine p_blk ?_
        refine p_then ?_
        exact ⟨s0.1.s, s0.1.at_, s0.1.e, s0.1.made, s0.2, Z.sub (ts := [0]) rfl, ⟨I9, (H.sub [(0, false), (0, false)] rfl).eq rfl⟩, hF⟩

def F_mess_Of0_l1 (p : ByteArray × Bool) (rc : (ByteArray × Int × Int × Bool × EMsg × Nat) → Option (EMsg × Int)) (sg : ByteArray × Int × Int × Bool × EMsg × Nat) : Option (EMsg × Int) := match sg with | (r_s, r_at_, r_e, r_made, m, yb3) => if (decide (yb3 < p.1.size)) = true then (chk (yb3 < p.1.size) ((F_mess_read0 ({ s := r_s, at_ := r_at_, e := r_e, made := r_made } : Ewire_Reader) m (runeAt p.1 yb3)).bind fun r0 => (if (r0.1 != 0) = true then (some ((default : EMsg), r0.1)) else (rc (r0.2.1.s, r0.2.1.at_, r0.2.1.e, r0.2.1.made, r0.2.2, nxP p.1 yb3))))) else ((F_wire_Reader_End ({ s := r_s, at_ := r_at_, e := r_e, made := r_made } : Ewire_Reader)).bind fun e_2 => ((F_mess_or__mess_Of_1 e_2 m).bind fun x0 => (if (x0 != 0) = true then (some ((default : EMsg), x0)) else (some (m, 0)))))

def F_mess_Of0 (s0 : ByteArray) : Option (EMsg × Int) := (F_wire_Open s0).bind fun o => ((F_wire_Reader_Num o 15).bind fun n0 => ((F_wire_Reader_Err n0.2).bind fun e => (if (e != 0) = true then (some ((default : EMsg), e)) else ((F_mess_parts n0.1).bind fun p => (if (!p.2) = true then (some ((default : EMsg), 11)) else (iter (F_mess_Of0_l1 p) FU (n0.2.s, n0.2.at_, n0.2.e, n0.2.made, ({ (default : EMsg) with k := n0.1 } : EMsg), 0)))))))

set_option maxHeartbeats 1000000 in
theorem c_mess_Of0 {I D : Dm} {s0 : ByteArray} {w : World} {rr : EMsg × Int} (hF : F_mess_Of0 s0 = some rr) (H : St I D w []) :
  Calls Tryz.prog 6 #[vS s0] w (Ret fun vv w' => ∃ q1 q2 q3 q4 q5 : Value, vv = .tuple #[.agg (cEMsg rr.1 q1 q2 q3 q4 q5).toArray, vI rr.2] ∧ ∃ I', Hf I D w I' w' [SlC NEMember q1 rr.1.conf.members, SlC NEOp q2 rr.1.batch.ops, SlC NEEntry q3 rr.1.entries, SlC Nu64 q4 rr.1.stamps, SlC NEPair q5 rr.1.pairs]) := by
 replace H := H.hf
 unfold F_mess_Of0 at hF
 refine f_enter 54 Tryz.func6 rfl rfl (Nat.le_of_ble_eq_true rfl) fun a Z => ?_
 replace Z := Z.sub (ts := [0]) rfl
 refine wp_seq (f_region Z ?_); clear Z; intro Z
 refine hA Z H [vI 0, vI 0, vI 0, vI 0, vT false, vU 0, vU 0, vI 0, vI 0, vI 0, vI 0, vS ByteArray.empty, vS ByteArray.empty, vI 0, nS, vU 0, vI 0, vI 0, nS, nS, nS, nS] rfl rfl (by kernel_rfl) fun a w1 b1 H Z => ?_
 refine s_runk tMsWP Z 1 rfl rfl fun a Z => ?_
 refine s_end Z [0, 2] rfl fun Z => ?_
 refine p_then (wp_seq ?_)
 obtain ⟨o, hx1, hF⟩ := bnd_in hF
 refine f_region Z fun Z => ?_
 refine s_runk tMsWP Z 1 rfl rfl fun a Z => ?_
 refine hC Z H [] rfl #[] fn_17_YMsWP rfl rfl (fun D h => have q := c_wire_Open hx1 h; q) fun vv a w2 D2 hr hF2 Z => ?_
 obtain ⟨g1, rfl, I1, K⟩ := hr
 have H := (hF2 K).nf rfl
 refine s_runk tMsWP Z 1 rfl rfl fun a Z => ?_
 refine s_end Z [2, 4] rfl fun Z => ?_
 refine p_then (wp_seq ?_)
 obtain ⟨n0, hx2, hF⟩ := bnd_in hF
 refine f_region Z fun Z => ?_
 refine s_runk tMsWP Z 1 rfl rfl fun a Z => ?_
 refine hC Z H [(0, false)] rfl #[] fn_18_YMsWP rfl rfl (fun D h => have q := c_wire_Reader_Num hx2 h; q) fun vv a w3 D2 hr hF2 Z => ?_
 obtain ⟨rfl, I2, K⟩ := hr
 have H := (hF2 K).nf rfl
 refine sO Z (.agg #[vI n0.1, vI 0, vI 0, vI 0, vT false, vU 0, vU 0, vI 0, vI 0, vI 0, vI 0, vS ByteArray.empty, vS ByteArray.empty, vI 0, nS, vU 0, vI 0, vI 0, nS, nS, nS, nS]) rfl (Ob_build (vs := [(0, vI n0.1)]) rfl rfl (by go_simp <;> rfl)) fun a Z => ?_
 refine hA Z H [vI 0, vI 0, vI 0, vI 0, vT false, vU 0, vU 0, vI 0, vI 0, vI 0, vI 0, vS ByteArray.empty, vS ByteArray.empty, vI 0, nS, vU 0, vI 0, vI 0, nS, nS, nS, nS] rfl rfl (by kernel_rfl) fun a w4 b2 H Z => ?_
 refine hT tMsWP Z H 0 rfl rfl rfl rfl rfl (onR 14 rfl (one_cons (slS.one slS.nil) (onR 3 rfl (one_cons (slS.one slS.nil) (one_cons (slS.one slS.nil) (one_cons (slS.one slS.nil) (one_cons (slS.one slS.nil) one_nil))))))) (Nat.le_of_ble_eq_true rfl) (putCells_all rfl) fun w5 H => ?_
 dsimp only [List.eraseIdx] at H
 refine s_end Z [2, 4, 5] rfl fun Z => ?_
 refine p_then (wp_seq ?_)
 refine wp_seq ?_
 obtain ⟨e, hx3, hF⟩ := bnd_in hF
 refine f_region Z fun Z => ?_
 refine s_runk tMsWP Z 1 rfl rfl fun a Z => ?_
 refine hC Z H [(1, false)] rfl #[] fn_19_YMsWP rfl rfl (fun D h => have q := c_wire_Reader_Err hx3 h; q) fun vv a w6 D2 hr hF2 Z => ?_
 obtain ⟨rfl, I3, K⟩ := hr
 have H := (hF2 K).nf rfl
 refine s_runk tMsWP Z 1 rfl rfl fun a Z => ?_
 refine s_end Z [2, 4, 5, 6] rfl fun Z => ?_
 refine p_then (wp_seq (f_region Z ?_)); clear Z; intro Z
 refine s_runk tMsWP Z 2 rfl rfl fun a Z => ?_
 refine s_end Z [2, 4, 5, 6, 21] rfl fun Z => ?_
 refine p_then ?_
 refine f_cond Z rfl (fun hc1 => ?_) (fun hc1 => ?_)
 ·replace hF := ite_t hc1 hF
  refine wp_seq (f_region Z ?_); clear Z; intro Z
  refine sO Z (.agg #[vI 0, vI 0, vI 0, vI 0, vT false, vU 0, vU 0, vI 0, vI 0, vI 0, vI 0, vS ByteArray.empty, vS ByteArray.empty, vI 0, nS, vU 0, vI 0, vI 0, nS, nS, nS, nS]) rfl (Ob_build (vs := []) rfl rfl (by go_simp <;> rfl)) fun a Z => ?_
  refine s_runk tMsWP Z 1 rfl rfl fun a Z => ?_
  refine hT tMsWP Z H 2 rfl rfl rfl rfl rfl (onR 14 rfl (one_cons (slS.one slS.nil) (onR 3 rfl (one_cons (slS.one slS.nil) (one_cons (slS.one slS.nil) (one_cons (slS.one slS.nil) (one_cons (slS.one slS.nil) one_nil))))))) (Nat.le_of_ble_eq_true rfl) (putCells_all rfl) fun w7 H => ?_
  dsimp only [List.eraseIdx] at H
  refine s_runk tMsWP Z 1 rfl rfl fun a Z => ?_
  refine s_end Z [2, 3] rfl fun Z => ?_
  refine p_then (wp_ret ?_)
  refine p_then_r ?_
  replace H := H.slNil NEMember
  replace H := H.slNil NEOp
  replace H := H.slNil NEEntry
  replace H := H.slNil Nu64
  replace H := H.slNil NEPair
  obtain rfl := some_in hF
  exact f_ret Z (run_resultsCT rfl Z rfl (run_loadVar_agg tMsWP rfl (H.bx 5 rfl).at) rfl) ⟨nS, nS, nS, nS, nS, rfl, I3, (H.sub [(4, true), (3, true), (2, true), (1, true), (0, true)] rfl).eq rfl⟩
 ·replace hF := ite_f hc1 hF
  refine wp_skip ?_
  refine p_then (wp_seq ?_)
  obtain ⟨p, hx4, hF⟩ := bnd_in hF
  refine f_region Z fun Z => ?_
  refine s_runk tMsWP Z 1 rfl rfl fun a Z => ?_
  refine sO Z _ rfl (oL tMsWP rfl rfl (H.bc 1 0 rfl rfl)) fun a Z => ?_
  refine hC Z H [] rfl #[] fn_20_YMsWP rfl rfl (fun D h => have q := c_mess_parts hx4 h; q) fun vv a w8 D2 hr hF2 Z => ?_
  obtain ⟨rfl, I4, K⟩ := hr
  have H := (hF2 K).nf rfl
  refine s_runk tMsWP Z 5 rfl rfl fun a Z => ?_
  refine s_end Z [2, 4, 5, 7, 8] rfl fun Z => ?_
  refine p_then (wp_seq ?_)
  refine wp_seq (f_region Z ?_); clear Z; intro Z
  refine s_runk tMsWP Z 2 rfl rfl fun a Z => ?_
  refine s_end Z [2, 4, 5, 7, 31] rfl fun Z => ?_
  refine p_then ?_
  refine f_cond Z rfl (fun hc2 => ?_) (fun hc2 => ?_)
  ·replace hF := ite_t hc2 hF
   refine wp_seq (f_region Z ?_); clear Z; intro Z
   refine sO Z (.agg #[vI 0, vI 0, vI 0, vI 0, vT false, vU 0, vU 0, vI 0, vI 0, vI 0, vI 0, vS ByteArray.empty, vS ByteArray.empty, vI 0, nS, vU 0, vI 0, vI 0, nS, nS, nS, nS]) rfl (Ob_build (vs := []) rfl rfl (by go_simp <;> rfl)) fun a Z => ?_
   refine hT tMsWP Z H 2 rfl rfl rfl rfl rfl (onR 14 rfl (one_cons (slS.one slS.nil) (onR 3 rfl (one_cons (slS.one slS.nil) (one_cons (slS.one slS.nil) (one_cons (slS.one slS.nil) (one_cons (slS.one slS.nil) one_nil))))))) (Nat.le_of_ble_eq_true rfl) (putCells_all rfl) fun w9 H => ?_
   dsimp only [List.eraseIdx] at H
   refine s_runk tMsWP Z 1 rfl rfl fun a Z => ?_
   refine s_end Z [2, 3] rfl fun Z => ?_
   refine p_then (wp_ret ?_)
   refine p_then_r ?_
   replace H := H.slNil NEMember
   replace H := H.slNil NEOp
   replace H := H.slNil NEEntry
   replace H := H.slNil Nu64
   replace H := H.slNil NEPair
   obtain rfl := some_in hF
   exact f_ret Z (run_resultsCT rfl Z rfl (run_loadVar_agg tMsWP rfl (H.bx 5 rfl).at) rfl) ⟨nS, nS, nS, nS, nS, rfl, I4, (H.sub [(4, true), (3, true), (2, true), (1, true), (0, true)] rfl).eq rfl⟩
  ·replace hF := ite_f hc2 hF
   refine wp_skip ?_
   refine p_then (wp_seq ?_)
   refine wp_seq (f_region Z ?_); clear Z; intro Z
   refine s_runk tMsWP Z 1 rfl rfl fun a Z => ?_
   refine h_srange Z H rfl rfl Tryz.underlying9 rfl rfl (by decide) rfl fun a w10 b3 H Z => ?_
   refine s_end Z [2, 4, 5, 34] rfl fun Z => ?_
   refine p_then (wp_block ?_)
   replace H := H.slNil NEMember
   replace H := H.slNil NEOp
   replace H := H.slNil NEEntry
   replace H := H.nilow Nu64 23
   replace H := H.slNil NEPair
   replace H := H.sX (OEMsg b2 ({ (default : EMsg) with k := n0.1 } : EMsg)) (nS, nS, nS, nS, nS) [(7, false), (4, true), (3, true), (2, true), (1, false), (0, true)] rfl rfl rfl
   refine f_iter hF (fun sg a' w' => match sg with | (r_s, r_at_, r_e, r_made, m, yb3) => Sl 54 [(2, pp b1 0), (4, pp g1 0), (5, pp b2 0), (34, pp b3 0)] a' ∧ ∃ I2, Hf I D w I2 w' [BxC b1 35 [vI 0, vI 0, vI 0, vI 0, vT false, vU 0, vU 0, vI 0, vI 0, vI 0, vI 0, vS ByteArray.empty, vS ByteArray.empty, vI 0, nS, vU 0, vI 0, vI 0, nS, nS, nS, nS], BxC g1 93 [vS r_s, vI r_at_, vI r_e, vT r_made], OEMsg b2 m, ObC b3 (.stringIter p.1 yb3)]) ⟨Z.sub (ts := [2, 4, 5, 34]) rfl, ⟨I4, (H.sub [(7, false), (6, false), (0, false), (4, false)] rfl).eq rfl⟩⟩ ?_
   rintro rc ⟨r_s, r_at_, r_e, r_made, m, yb3⟩ a w11 ⟨Z, I5, H⟩ hF
   unfold F_mess_Of0_l1 at hF
   try dsimp only at hF
   refine wp_seq (f_region Z ?_); clear Z; intro Z
   refine h_snext Z H 3 rfl rfl rfl rfl rfl (by decide) rfl fun a w12 H Z => ?_
   dsimp only [List.eraseIdx] at H
   refine sO Z (vT (decide (yb3 < p.1.size))) rfl (Ob_nx0 rfl rfl) fun a Z => ?_
   refine s_end Z [2, 4, 5, 34, 35, 36] rfl fun Z => ?_
   refine p_then (wp_seq ?_)
   refine f_cond Z rfl (fun hc3 => ?_) (fun hc3 => ?_)
   ·replace hF := ite_t hc3 hF
    refine wp_skip ?_
    refine p_then (wp_block ?_)
    refine wp_seq ?_
    obtain ⟨hg1, hF⟩ := chk_in hF
    refine f_region Z fun Z => ?_
    refine sO Z (.int .i32 (runeAt p.1 yb3)) rfl (Ob_nx2 rfl rfl hg1) fun a Z => ?_
    refine s_runk tMsWP Z 1 rfl rfl fun a Z => ?_
    refine s_end Z [2, 4, 5, 34, 10] rfl fun Z => ?_
    refine p_then (wp_seq ?_)
    obtain ⟨r0, hx5, hF⟩ := bnd_in hF
    refine f_region Z fun Z => ?_
    refine s_runk tMsWP Z 2 rfl rfl fun a Z => ?_
    refine hC Z H [(2, false), (2, false)] rfl #[] fn_21_YMsWP rfl rfl (fun D h => have q := c_mess_read0 hx5 h; q) fun vv a w13 D2 hr hF2 Z => ?_
    obtain ⟨rfl, I6, K⟩ := hr
    have H := (hF2 K).nf rfl
    refine s_runk tMsWP Z 1 rfl rfl fun a Z => ?_
    refine s_end Z [2, 4, 5, 34, 11] rfl fun Z => ?_
    refine p_then (wp_seq (f_region Z ?_)); clear Z; intro Z
    refine s_runk tMsWP Z 2 rfl rfl fun a Z => ?_
    refine s_end Z [2, 4, 5, 34, 11, 42] rfl fun Z => ?_
    refine p_then ?_
    refine f_cond Z rfl (fun hc4 => ?_) (fun hc4 => ?_)
    ·replace hF := ite_t hc4 hF
     refine wp_seq (f_region Z ?_); clear Z; intro Z
     refine sO Z (.agg #[vI 0, vI 0, vI 0, vI 0, vT false, vU 0, vU 0, vI 0, vI 0, vI 0, vI 0, vS ByteArray.empty, vS ByteArray.empty, vI 0, nS, vU 0, vI 0, vI 0, nS, nS, nS, nS]) rfl (Ob_build (vs := []) rfl rfl (by go_simp <;> rfl)) fun a Z => ?_
     refine s_runk tMsWP Z 1 rfl rfl fun a Z => ?_
     refine hT tMsWP Z H 3 rfl rfl rfl rfl rfl (onR 14 rfl (one_cons (slS.one slS.nil) (onR 3 rfl (one_cons (slS.one slS.nil) (one_cons (slS.one slS.nil) (one_cons (slS.one slS.nil) (one_cons (slS.one slS.nil) one_nil))))))) (Nat.le_of_ble_eq_true rfl) (putCells_all rfl) fun w14 H => ?_
     dsimp only [List.eraseIdx] at H
     refine s_runk tMsWP Z 1 rfl rfl fun a Z => ?_
     refine s_end Z [2, 3] rfl fun Z => ?_
     refine p_then (wp_ret ?_)
     refine p_blk_r ?_
     refine p_then_r ?_
     refine p_blk_r ?_
     refine p_then_r ?_
     replace H := H.slNil NEMember
     replace H := H.slNil NEOp
     replace H := H.slNil NEEntry
     replace H := H.slNil Nu64
     replace H := H.slNil NEPair
     obtain rfl := some_in hF
     exact f_ret Z (run_resultsCT rfl Z rfl (run_loadVar_agg tMsWP rfl (H.bx 5 rfl).at) rfl) ⟨nS, nS, nS, nS, nS, rfl, I6, (H.sub [(4, true), (3, true), (2, true), (1, true), (0, true)] rfl).eq rfl⟩
    ·replace hF := ite_f hc4 hF
     refine wp_skip ?_
     refine p_blk ?_
     refine p_then ?_
     exact ⟨(r0.2.1.s, r0.2.1.at_, r0.2.1.e, r0.2.1.made, r0.2.2, nxP p.1 yb3), ⟨Z.sub (ts := [2, 4, 5, 34]) rfl, ⟨I6, (H.sub [(3, false), (0, false), (0, false), (0, false)] rfl).eq rfl⟩⟩, hF⟩
   ·replace hF := ite_f hc3 hF
    refine wp_exit ?_
    refine p_then_x ?_
    refine p_then_x ?_
    refine f_exit_here ?_
    refine p_then (wp_seq ?_)
    refine wp_seq ?_
    obtain ⟨e_2, hx6, hF⟩ := bnd_in hF
    obtain ⟨x0, hx7, hF⟩ := bnd_in hF
    refine f_region Z fun Z => ?_
    refine s_runk tMsWP Z 1 rfl rfl fun a Z => ?_
    refine hC Z H [(2, false)] rfl #[] fn_23_YMsWP rfl rfl (fun D h => have q := c_wire_Reader_End hx6 h; q) fun vv a w15 D2 hr hF2 Z => ?_
    obtain ⟨rfl, I7, K⟩ := hr
    have H := (hF2 K).nf rfl
    refine s_runk tMsWP Z 1 rfl rfl fun a Z => ?_
    obtain ⟨⟨v1, v2, v3, v4, v5⟩, H⟩ := H.openX 3 rfl
    replace H := H.nf rfl; try dsimp only at H
    obtain ⟨I8, _, H⟩ := H.frzow 4 rfl
    replace H := H.nf rfl; try dsimp only at H
    refine hC Z H [(1, false), (1, true), (2, true), (3, true), (0, true), (4, true)] rfl #[] fn_22_YMsWP rfl rfl (fun D h => have q := c_mess_or__mess_Of_1 hx7 h; q) fun vv a w16 D2 hr hF2 Z => ?_
    obtain ⟨rfl, I9, K⟩ := hr
    have H := (hF2 K).nf rfl
    refine s_runk tMsWP Z 1 rfl rfl fun a Z => ?_
    refine s_end Z [2, 5, 12] rfl fun Z => ?_
    refine p_then (wp_seq (f_region Z ?_)); clear Z; intro Z
    refine s_runk tMsWP Z 2 rfl rfl fun a Z => ?_
    refine s_end Z [2, 5, 12, 50] rfl fun Z => ?_
    refine p_then ?_
    refine f_cond Z rfl (fun hc5 => ?_) (fun hc5 => ?_)
    ·replace hF := ite_t hc5 hF
     refine wp_seq (f_region Z ?_); clear Z; intro Z
     refine sO Z (.agg #[vI 0, vI 0, vI 0, vI 0, vT false, vU 0, vU 0, vI 0, vI 0, vI 0, vI 0, vS ByteArray.empty, vS ByteArray.empty, vI 0, nS, vU 0, vI 0, vI 0, nS, nS, nS, nS]) rfl (Ob_build (vs := []) rfl rfl (by go_simp <;> rfl)) fun a Z => ?_
     refine s_runk tMsWP Z 1 rfl rfl fun a Z => ?_
     refine hT tMsWP Z H 8 rfl rfl rfl rfl rfl (onR 14 rfl (one_cons (slS.one slS.nil) (onR 3 rfl (one_cons (slS.one slS.nil) (one_cons (slS.one slS.nil) (one_cons (slS.one slS.nil) (one_cons (slS.one slS.nil) one_nil))))))) (Nat.le_of_ble_eq_true rfl) (putCells_all rfl) fun w17 H => ?_
     dsimp only [List.eraseIdx] at H
     refine s_runk tMsWP Z 1 rfl rfl fun a Z => ?_
     refine s_end Z [2, 3] rfl fun Z => ?_
     refine p_then (wp_ret ?_)
     refine p_then_r ?_
     replace H := H.slNil NEMember
     replace H := H.slNil NEOp
     replace H := H.slNil NEEntry
     replace H := H.slNil Nu64
     replace H := H.slNil NEPair
     obtain rfl := some_in hF
     exact f_ret Z (run_resultsCT rfl Z rfl (run_loadVar_agg tMsWP rfl (H.bx 5 rfl).at) rfl) ⟨nS, nS, nS, nS, nS, rfl, I9, (H.sub [(4, true), (3, true), (2, true), (1, true), (0, true)] rfl).eq rfl⟩
    ·replace hF := ite_f hc5 hF
     refine wp_skip ?_
     refine p_then (wp_seq (f_region Z ?_)); clear Z; intro Z
     refine sO Z (.agg (cEMsg m v1 v2 v3 v4 v5).toArray) rfl (oA tMsWP rfl rfl ((H.bx 0 rfl).part 0 rfl)) fun a Z => ?_
     refine hT tMsWP Z H 8 rfl rfl rfl rfl rfl (onR 14 rfl (one_cons (slS.one (H.slshape 2 rfl)) (onR 3 rfl (one_cons (slS.one (H.slshape 3 rfl)) (one_cons (slS.one (H.slshape 4 rfl)) (one_cons (slS.one (H.slshape 1 rfl)) (one_cons (slS.one (H.slshape 5 rfl)) one_nil))))))) (Nat.le_of_ble_eq_true rfl) (putCells_all rfl) fun w18 H => ?_
     dsimp only [List.eraseIdx] at H
     refine s_runk tMsWP Z 1 rfl rfl fun a Z => ?_
     refine s_end Z [2, 3] rfl fun Z => ?_
     refine p_then (wp_ret ?_)
     obtain rfl := some_in hF
     exact f_ret Z (run_resultsCT rfl Z rfl (run_loadVar_agg tMsWP rfl (H.bx 0 rfl).at) rfl) ⟨v1, v2, v3, v4, v5, rfl, I9, (H.sub [(3, true), (4, true), (5, true), (2, true), (6, true)] rfl).eq rfl⟩

def F_law09_awake : Option Bool := (F_mess_Put ({ (default : EMsg) with k := 6, req := 1, at_ := 5, n := 9 } : EMsg)).bind fun p => ((F_mess_Of0 p.1).bind fun o => (some ((((((seqB p.1 ⟨#[6, 1, 5]⟩) && (p.2 == 0)) && (o.2 == 0)) && (o.1.req == 1)) && (o.1.at_ == 5)) && (o.1.n == 0))))

set_option maxHeartbeats 1000000 in
theorem c_law09_awake {I D : Dm} {w : World} {rr : Bool} (hF : F_law09_awake = some rr) (H : St I D w []) :
  Calls Tryz.prog 5 #[] w (Ret fun vv w' => vv = vT rr ∧ ∃ I', Hf I D w I' w' []) := by
 replace H := H.hf
 unfold F_law09_awake at hF
 refine f_enter 40 Tryz.func5 rfl rfl (Nat.le_of_ble_eq_true rfl) fun a Z => ?_
 replace Z := Z.sub (ts := []) rfl
 refine wp_seq (f_region Z ?_); clear Z; intro Z
 refine s_runk tMsWP Z 1 rfl rfl fun a Z => ?_
 refine s_end Z [] rfl fun Z => ?_
 refine p_then (wp_seq ?_)
 obtain ⟨p, hx1, hF⟩ := bnd_in hF
 refine f_region Z fun Z => ?_
 refine sO Z (.agg #[vI 6, vI 0, vI 1, vI 0, vT false, vU 5, vU 0, vI 9, vI 0, vI 0, vI 0, vS ByteArray.empty, vS ByteArray.empty, vI 0, nS, vU 0, vI 0, vI 0, nS, nS, nS, nS]) rfl (Ob_build (vs := [(0, vI 6), (2, vI 1), (5, vU 5), (7, vI 9)]) rfl rfl (by go_simp <;> rfl)) fun a Z => ?_
 replace H := H.slNil NEMember
 replace H := H.slNil NEOp
 replace H := H.slNil NEEntry
 replace H := H.slNil Nu64
 replace H := H.slNil NEPair
 refine hC Z H [(4, true), (3, true), (2, true), (1, true), (0, true)] rfl #[] fn_10_YMsWP rfl rfl (fun D h => have q := c_mess_Put hx1 h; q) fun vv a w1 D2 hr hF2 Z => ?_
 obtain ⟨rfl, I1, K⟩ := hr
 have H := (hF2 K).nf rfl
 refine s_runk tMsWP Z 5 rfl rfl fun a Z => ?_
 refine s_end Z [1, 2] rfl fun Z => ?_
 refine p_then (wp_seq ?_)
 obtain ⟨o, hx2, hF⟩ := bnd_in hF
 refine f_region Z fun Z => ?_
 refine s_runk tMsWP Z 1 rfl rfl fun a Z => ?_
 refine hC Z H [] rfl #[] fn_6_YMsWP rfl rfl (fun D h => have q := c_mess_Of0 hx2 h; q) fun vv a w2 D2 hr hF2 Z => ?_
 obtain ⟨q1, q2, q3, q4, q5, rfl, I2, K⟩ := hr
 have H := (hF2 K).nf rfl
 refine s_runk tMsWP Z 3 rfl rfl fun a Z => ?_
 refine hA Z H [vI 0, vI 0, vI 0, vI 0, vT false, vU 0, vU 0, vI 0, vI 0, vI 0, vI 0, vS ByteArray.empty, vS ByteArray.empty, vI 0, nS, vU 0, vI 0, vI 0, nS, nS, nS, nS] rfl rfl (by kernel_rfl) fun a w3 b1 H Z => ?_
 refine hT tMsWP Z H 0 rfl rfl rfl rfl rfl (onR 14 rfl (one_cons (slS.one (H.slshape 1 rfl)) (onR 3 rfl (one_cons (slS.one (H.slshape 2 rfl)) (one_cons (slS.one (H.slshape 3 rfl)) (one_cons (slS.one (H.slshape 4 rfl)) (one_cons (slS.one (H.slshape 5 rfl)) one_nil))))))) (Nat.le_of_ble_eq_true rfl) (putCells_all rfl) fun w4 H => ?_
 dsimp only [List.eraseIdx] at H
 refine s_runk tMsWP Z 1 rfl rfl fun a Z => ?_
 refine s_end Z [1, 2, 3, 4] rfl fun Z => ?_
 refine p_then (wp_seq (f_region Z ?_)); clear Z; intro Z
 refine s_runk tMsWP Z 3 rfl rfl fun a Z => ?_
 refine gO Z (vI p.2) rfl (wantB_t _) (.n 2 rfl .z) (fun hp => Ob_c tMsWP rfl) fun a Z => ?_
 refine gO Z (vT (p.2 == 0)) rfl (wantB_t _) (.c 18 rfl id .z) (fun hp => Ob_c tMsWP rfl) fun a Z => ?_
 refine sO Z (vT ((seqB p.1 ⟨#[6, 1, 5]⟩) && (p.2 == 0))) rfl (Ob_pick rfl rfl rfl rfl (pick_and _ _)) fun a Z => ?_
 refine s_runk tMsWP Z 1 rfl rfl fun a Z => ?_
 refine gO Z (vI o.2) rfl (wantB_t _) (.n 4 rfl .z) (fun hp => Ob_c tMsWP rfl) fun a Z => ?_
 refine gO Z (vT (o.2 == 0)) rfl (wantB_t _) (.c 22 rfl id .z) (fun hp => Ob_c tMsWP rfl) fun a Z => ?_
 refine sO Z (vT (((seqB p.1 ⟨#[6, 1, 5]⟩) && (p.2 == 0)) && (o.2 == 0))) rfl (Ob_pick rfl rfl rfl rfl (pick_and _ _)) fun a Z => ?_
 refine s_runk tMsWP Z 1 rfl rfl fun a Z => ?_
 refine gO Z (pp b1 2) rfl (wantB_t _) (.n 3 rfl .z) (fun hp => Ob_c tMsWP rfl) fun a Z => ?_
 refine gO Z _ rfl (wantB_t _) (.c 26 rfl id .z) (fun hp => oL tMsWP rfl rfl (H.bc 0 2 rfl rfl)) fun a Z => ?_
 refine gO Z (vT (o.1.req == 1)) rfl (wantB_t _) (.c 27 rfl id .z) (fun hp => Ob_c tMsWP rfl) fun a Z => ?_
 refine sO Z (vT ((((seqB p.1 ⟨#[6, 1, 5]⟩) && (p.2 == 0)) && (o.2 == 0)) && (o.1.req == 1))) rfl (Ob_pick rfl rfl rfl rfl (pick_and _ _)) fun a Z => ?_
 refine s_runk tMsWP Z 1 rfl rfl fun a Z => ?_
 refine gO Z (pp b1 5) rfl (wantB_t _) (.n 3 rfl .z) (fun hp => Ob_c tMsWP rfl) fun a Z => ?_
 refine gO Z _ rfl (wantB_t _) (.c 31 rfl id .z) (fun hp => oL tMsWP rfl rfl (H.bc 0 5 rfl rfl)) fun a Z => ?_
 refine gO Z (vT (o.1.at_ == 5)) rfl (wantB_t _) (.c 32 rfl id .z) (fun hp => Ob_c tMsWP rfl) fun a Z => ?_
 refine sO Z (vT (((((seqB p.1 ⟨#[6, 1, 5]⟩) && (p.2 == 0)) && (o.2 == 0)) && (o.1.req == 1)) && (o.1.at_ == 5))) rfl (Ob_pick rfl rfl rfl rfl (pick_and _ _)) fun a Z => ?_
 refine s_runk tMsWP Z 1 rfl rfl fun a Z => ?_
 refine gO Z (pp b1 7) rfl (wantB_t _) (.n 3 rfl .z) (fun hp => Ob_c tMsWP rfl) fun a Z => ?_
 refine gO Z _ rfl (wantB_t _) (.c 36 rfl id .z) (fun hp => oL tMsWP rfl rfl (H.bc 0 7 rfl rfl)) fun a Z => ?_
 refine gO Z (vT (o.1.n == 0)) rfl (wantB_t _) (.c 37 rfl id .z) (fun hp => Ob_c tMsWP rfl) fun a Z => ?_
 refine sO Z (vT ((((((seqB p.1 ⟨#[6, 1, 5]⟩) && (p.2 == 0)) && (o.2 == 0)) && (o.1.req == 1)) && (o.1.at_ == 5)) && (o.1.n == 0))) rfl (Ob_pick rfl rfl rfl rfl (pick_and _ _)) fun a Z => ?_
 refine s_runk tMsWP Z 1 rfl rfl fun a Z => ?_
 refine s_end Z [0] rfl fun Z => ?_
 refine p_then (wp_ret ?_)
 obtain rfl := some_in hF
 exact f_ret Z (run_results1 rfl Z rfl) ⟨rfl, I2, (H.sub [] rfl).eq rfl⟩

def F_law08_Much_l1 (l : List EEntry) (rc : (Int × Int) → Option Int) (sg : Int × Int) : Option Int := match sg with | (n0, i) => if ((decide (i < (l.length : Int))) && (decide (i < 200))) = true then (chk ((0 : Int) ≤ i ∧ i < (l.length : Int)) (chk (inI (n0 + ((((l.getD (i).toNat default).batch).ops).length : Int))) (chk (inI (i + 1)) (rc (n0 + ((((l.getD (i).toNat default).batch).ops).length : Int), i + 1))))) else (some n0)

def F_law08_Much (l : List EEntry) : Option Int := iter (F_law08_Much_l1 l) FU ((l.length : Int), 0)

set_option maxHeartbeats 1000000 in
theorem c_law08_Much {I D : Dm} {l : List EEntry} {v1_l : Value} {w : World} {rr : Int} (hF : F_law08_Much l = some rr) (H : St I D w [SlC NEEntry v1_l l]) :
  Calls Tryz.prog 34 #[v1_l] w (Ret fun vv w' => vv = vI rr ∧ ∃ I', Hf I D w I' w' []) := by
 replace H := H.hf
 unfold F_law08_Much at hF
 refine f_enter 27 Tryz.func34 rfl rfl (Nat.le_of_ble_eq_true rfl) fun a Z => ?_
 replace Z := Z.sub (ts := [0]) rfl
 refine wp_seq (f_region Z ?_); clear Z; intro Z
 refine s_runk tMsWP Z 1 rfl rfl fun a Z => ?_
 refine s_end Z [0] rfl fun Z => ?_
 refine p_then (wp_seq (f_region Z ?_)); clear Z; intro Z
 refine s_runk tMsWP Z 1 rfl rfl fun a Z => ?_
 refine sO Z (vI (ln l)) rfl (Ob_slen tMsWP rfl rfl rfl (H.slshape 0 rfl)) fun a Z => ?_
 refine s_runk tMsWP Z 1 rfl rfl fun a Z => ?_
 refine s_end Z [0, 3] rfl fun Z => ?_
 refine p_then (wp_seq ?_)
 refine wp_seq (f_region Z ?_); clear Z; intro Z
 refine s_runk tMsWP Z 1 rfl rfl fun a Z => ?_
 refine s_end Z [0, 3, 4] rfl fun Z => ?_
 refine p_then (wp_block ?_)
 refine f_iter hF (fun sg a' w' => match sg with | (n0, i) => Sl 27 [(0, v1_l), (3, vI n0), (4, vI i)] a' ∧ ∃ I2, Hf I D w I2 w' [SlC NEEntry v1_l l]) ⟨Z.sub (ts := [0, 3, 4]) rfl, ⟨I, (H.sub [(0, true)] rfl).eq rfl⟩⟩ ?_
 rintro rc ⟨n0, i⟩ a w1 ⟨Z, I1, H⟩ hF
 unfold F_law08_Much_l1 at hF
 try dsimp only at hF
 refine wp_seq ?_
 refine wp_seq (f_region Z ?_); clear Z; intro Z
 refine s_runk tMsWP Z 2 rfl rfl fun a Z => ?_
 refine sO Z (vI (ln l)) rfl (Ob_slen tMsWP rfl rfl rfl (H.slshape 0 rfl)) fun a Z => ?_
 refine s_runk tMsWP Z 2 rfl rfl fun a Z => ?_
 refine gO Z (vI i) rfl (wantB_t _) (.n 4 rfl .z) (fun hp => Ob_c tMsWP rfl) fun a Z => ?_
 refine gO Z (vT (decide (i < 200))) rfl (wantB_t _) (.c 12 rfl id .z) (fun hp => Ob_c tMsWP rfl) fun a Z => ?_
 refine sO Z (vT ((decide (i < (ln l))) && (decide (i < 200)))) rfl (Ob_pick rfl rfl rfl rfl (pick_and _ _)) fun a Z => ?_
 refine s_end Z [0, 3, 4, 14] rfl fun Z => ?_
 refine p_then ?_
 refine f_cond Z rfl (fun hc1 => ?_) (fun hc1 => ?_)
 ·replace hF := ite_t hc1 hF
  refine wp_skip ?_
  refine p_then (wp_seq ?_)
  refine wp_block ?_
  obtain ⟨hg1, hF⟩ := chk_in hF
  obtain ⟨hg2, hF⟩ := chk_in hF
  refine f_region Z fun Z => ?_
  refine s_runk tMsWP Z 3 rfl rfl fun a Z => ?_
  refine sO Z (.pointer (some ⟨blkOf v1_l, oofOf v1_l + (i).toNat * 4, none⟩)) rfl (Ob_sidx tMsWP rfl rfl rfl rfl (slPl (H.sl 0 rfl) hg1) hg1) fun a Z => ?_
  refine s_runk tMsWP Z 2 rfl rfl fun a Z => ?_
  obtain ⟨_, ⟨u1, rfl, L1⟩, H⟩ := H.elG 0 rfl (i) (NEEntry.dft _ _)
  replace H := H.addsl L1
  replace H : Hf I D w I1 w1 [SlC NEOp u1 (((gi l i).batch).ops), AtG ((0 : Int) ≤ i ∧ i < (ln l)) (blkOf v1_l) (oofOf v1_l + (i).toNat * 4) (cEEntry (gi l i) u1), SlC NEEntry v1_l l] := H
  refine sO Z u1 rfl (oL tMsWP rfl rfl ((H.atg 1 rfl hg1) 2 _ rfl)) fun a Z => ?_
  refine sO Z (vI ((((gi l i).batch).ops).length : Int)) rfl (Ob_slen tMsWP rfl rfl rfl (H.slshape 0 rfl)) fun a Z => ?_
  refine sO Z (vI (n0 + ((((gi l i).batch).ops).length : Int))) rfl (Ob_add rfl rfl rfl (wrI hg2)) fun a Z => ?_
  refine s_runk tMsWP Z 1 rfl rfl fun a Z => ?_
  refine s_end Z [0, 3, 4] rfl fun Z => ?_
  refine p_blk ?_
  refine p_then ?_
  obtain ⟨hg3, hF⟩ := chk_in hF
  refine f_region Z fun Z => ?_
  refine s_runk tMsWP Z 1 rfl rfl fun a Z => ?_
  refine sO Z (vI (i + 1)) rfl (Ob_add rfl rfl rfl (wrI hg3)) fun a Z => ?_
  refine s_runk tMsWP Z 1 rfl rfl fun a Z => ?_
  refine s_end Z [0, 3, 4] rfl fun Z => ?_
  refine p_then ?_
  exact ⟨(n0 + ((((gi l i).batch).ops).length : Int), i + 1), ⟨Z.sub (ts := [0, 3, 4]) rfl, ⟨I1, (H.sub [(2, true)] rfl).eq rfl⟩⟩, hF⟩
 ·replace hF := ite_f hc1 hF
  refine wp_exit ?_
  refine p_then_x ?_
  refine p_then_x ?_
  refine f_exit_here ?_
  refine p_then (wp_seq (f_region Z ?_)); clear Z; intro Z
  refine s_runk tMsWP Z 2 rfl rfl fun a Z => ?_
  refine s_end Z [2] rfl fun Z => ?_
  refine p_then (wp_ret ?_)
  obtain rfl := some_in hF
  exact f_ret Z (run_results1 rfl Z rfl) ⟨rfl, I1, (H.sub [] rfl).eq rfl⟩

def F_law09_much (m : EMsg) : Option Bool := (gif (!((decide ((m.conf.members.length : Int) > 20)) || (decide ((m.batch.ops.length : Int) > 20)))) (F_law08_Much m.entries) default).bind fun m_2 => (some (((((decide ((m.conf.members.length : Int) > 20)) || (decide ((m.batch.ops.length : Int) > 20))) || (decide (m_2 > 100))) || (decide ((m.stamps.length : Int) > 60))) || (decide ((m.pairs.length : Int) > 60))))

set_option maxHeartbeats 1000000 in
theorem c_law09_much {I D : Dm} {m : EMsg} {v1_m : Value} {v2_m : Value} {v3_m : Value} {v4_m : Value} {v5_m : Value} {w : World} {rr : Bool} (hF : F_law09_much m = some rr) (H : St I D w [SlC NEMember v1_m m.conf.members, SlC NEOp v2_m m.batch.ops, SlC NEEntry v3_m m.entries, SlC Nu64 v4_m m.stamps, SlC NEPair v5_m m.pairs]) :
  Calls Tryz.prog 9 #[.agg (cEMsg m v1_m v2_m v3_m v4_m v5_m).toArray] w (Ret fun vv w' => vv = vT rr ∧ ∃ I', Hf I D w I' w' []) := by
 replace H := H.hf
 unfold F_law09_much at hF
 refine f_enter 33 Tryz.func9 rfl rfl (Nat.le_of_ble_eq_true rfl) fun a Z => ?_
 replace Z := Z.sub (ts := [0]) rfl
 refine wp_seq (f_region Z ?_); clear Z; intro Z
 refine h_boxv Z H (cl := (cEMsg m v1_m v2_m v3_m v4_m v5_m)) rfl rfl rfl (by decide) rfl rfl rfl fun a w1 b1 H Z => ?_
 refine s_runk tMsWP Z 1 rfl rfl fun a Z => ?_
 refine s_end Z [1] rfl fun Z => ?_
 refine p_then (wp_seq ?_)
 obtain ⟨m_2, hx1, hF⟩ := bnd_in hF
 refine f_region Z fun Z => ?_
 refine s_runk tMsWP Z 2 rfl rfl fun a Z => ?_
 refine sO Z _ rfl (oL tMsWP rfl rfl (H.bc 0 14 rfl rfl)) fun a Z => ?_
 refine sO Z (vI (ln m.conf.members)) rfl (Ob_slen tMsWP rfl rfl rfl (H.slshape 1 rfl)) fun a Z => ?_
 refine s_runk tMsWP Z 2 rfl rfl fun a Z => ?_
 refine gO Z (pp b1 16) rfl (wantB_f _) (.n 1 rfl .z) (fun hp => Ob_c tMsWP rfl) fun a Z => ?_
 refine gO Z (pp b1 18) rfl (wantB_f _) (.c 9 rfl id .z) (fun hp => Ob_c tMsWP rfl) fun a Z => ?_
 refine gO Z _ rfl (wantB_f _) (.c 10 rfl id .z) (fun hp => oL tMsWP rfl rfl (H.bc 0 18 rfl rfl)) fun a Z => ?_
 refine gO Z (vI (ln m.batch.ops)) rfl (wantB_f _) (.c 11 rfl id .z) (fun hp => Ob_slen tMsWP rfl rfl rfl (H.slshape 2 rfl)) fun a Z => ?_
 refine gO Z (vT (decide ((ln m.batch.ops) > 20))) rfl (wantB_f _) (.c 12 rfl id .z) (fun hp => Ob_c tMsWP rfl) fun a Z => ?_
 refine sO Z (vT ((decide ((ln m.conf.members) > 20)) || (decide ((ln m.batch.ops) > 20)))) rfl (Ob_pick rfl rfl rfl rfl (pick_or _ _)) fun a Z => ?_
 refine s_runk tMsWP Z 1 rfl rfl fun a Z => ?_
 refine gO Z (pp b1 19) rfl (wantB_f _) (.n 1 rfl .z) (fun hp => Ob_c tMsWP rfl) fun a Z => ?_
 refine gO Z _ rfl (wantB_f _) (.c 16 rfl id .z) (fun hp => oL tMsWP rfl rfl (H.bc 0 19 rfl rfl)) fun a Z => ?_
 refine g_call Z (p := (!((decide ((ln m.conf.members) > 20)) || (decide ((ln m.batch.ops) > 20))))) (v := vI m_2) (S' := [(17, v3_m)]) (caps := #[]) fn_34_YMsWP rfl rfl rfl (wantB_f _) rfl (by decide) (fun hp hS => (hS.conv (t := 17) rfl (cond_t hp)).sub (ts := [17]) rfl) rfl rfl rfl rfl (fun hp => (have hq := c_law08_Much (gif_in hx1 hp) ((H).pick0 (js := [(3, true)]) rfl rfl); plainC hq)) fun a w2 hb Z => ?_
 replace H := H.blw hb
 clear hb
 refine gO Z (vT (decide (m_2 > 100))) rfl (wantB_f _) (.c 18 rfl id .z) (fun hp => Ob_c tMsWP rfl) fun a Z => ?_
 refine sO Z (vT (((decide ((ln m.conf.members) > 20)) || (decide ((ln m.batch.ops) > 20))) || (decide (m_2 > 100)))) rfl (Ob_pick rfl rfl rfl rfl (pick_or _ _)) fun a Z => ?_
 refine s_runk tMsWP Z 1 rfl rfl fun a Z => ?_
 refine gO Z (pp b1 20) rfl (wantB_f _) (.n 1 rfl .z) (fun hp => Ob_c tMsWP rfl) fun a Z => ?_
 refine gO Z _ rfl (wantB_f _) (.c 22 rfl id .z) (fun hp => oL tMsWP rfl rfl (H.bc 0 20 rfl rfl)) fun a Z => ?_
 refine gO Z (vI (ln m.stamps)) rfl (wantB_f _) (.c 23 rfl id .z) (fun hp => Ob_slen tMsWP rfl rfl rfl (H.slshape 4 rfl)) fun a Z => ?_
 refine gO Z (vT (decide ((ln m.stamps) > 60))) rfl (wantB_f _) (.c 24 rfl id .z) (fun hp => Ob_c tMsWP rfl) fun a Z => ?_
 refine sO Z (vT ((((decide ((ln m.conf.members) > 20)) || (decide ((ln m.batch.ops) > 20))) || (decide (m_2 > 100))) || (decide ((ln m.stamps) > 60)))) rfl (Ob_pick rfl rfl rfl rfl (pick_or _ _)) fun a Z => ?_
 refine s_runk tMsWP Z 1 rfl rfl fun a Z => ?_
 refine gO Z (pp b1 21) rfl (wantB_f _) (.n 1 rfl .z) (fun hp => Ob_c tMsWP rfl) fun a Z => ?_
 refine gO Z _ rfl (wantB_f _) (.c 28 rfl id .z) (fun hp => oL tMsWP rfl rfl (H.bc 0 21 rfl rfl)) fun a Z => ?_
 refine gO Z (vI (ln m.pairs)) rfl (wantB_f _) (.c 29 rfl id .z) (fun hp => Ob_slen tMsWP rfl rfl rfl (H.slshape 5 rfl)) fun a Z => ?_
 refine gO Z (vT (decide ((ln m.pairs) > 60))) rfl (wantB_f _) (.c 30 rfl id .z) (fun hp => Ob_c tMsWP rfl) fun a Z => ?_
 refine sO Z (vT (((((decide ((ln m.conf.members) > 20)) || (decide ((ln m.batch.ops) > 20))) || (decide (m_2 > 100))) || (decide ((ln m.stamps) > 60))) || (decide ((ln m.pairs) > 60)))) rfl (Ob_pick rfl rfl rfl rfl (pick_or _ _)) fun a Z => ?_
 refine s_runk tMsWP Z 1 rfl rfl fun a Z => ?_
 refine s_end Z [2] rfl fun Z => ?_
 refine p_then (wp_ret ?_)
 obtain rfl := some_in hF
 exact f_ret Z (run_results1 rfl Z rfl) ⟨rfl, I, (H.sub [] rfl).eq rfl⟩

def F_law09_MessPuts (a0 : EMsg) (b : EMsg) : Option Bool := (F_law09_much a0).bind fun m => ((gif (!m) (F_law09_much b) default).bind fun m_2 => (if (m || m_2) = true then ((F_law09_awake).bind fun a0_2 => (some a0_2)) else ((F_mess_Put a0).bind fun p => ((F_ref09_Put a0).bind fun p_2 => ((gif ((seqB p.1 p_2.1) && (p.2 == p_2.2)) (F_mess_Check a0) default).bind fun c => ((gif ((seqB p.1 p_2.1) && (p.2 == p_2.2)) (F_ref09_Check a0) default).bind fun c_2 => ((gif (((seqB p.1 p_2.1) && (p.2 == p_2.2)) && (c == c_2)) (F_mess_Clean a0) default).bind fun c_3 => ((gif (((seqB p.1 p_2.1) && (p.2 == p_2.2)) && (c == c_2)) (F_ref09_Clean a0) default).bind fun c_4 => ((gif (((seqB p.1 p_2.1) && (p.2 == p_2.2)) && (c == c_2)) (F_ref09_Same c_3 c_4) default).bind fun s0 => ((gif ((((seqB p.1 p_2.1) && (p.2 == p_2.2)) && (c == c_2)) && s0) (F_mess_Same a0 b) default).bind fun s0_2 => ((gif ((((seqB p.1 p_2.1) && (p.2 == p_2.2)) && (c == c_2)) && s0) (F_ref09_Same a0 b) default).bind fun s0_3 => ((gif (((((seqB p.1 p_2.1) && (p.2 == p_2.2)) && (c == c_2)) && s0) && (s0_2 == s0_3)) (F_mess_Same a0 a0) default).bind fun s0_4 => ((gif ((((((seqB p.1 p_2.1) && (p.2 == p_2.2)) && (c == c_2)) && s0) && (s0_2 == s0_3)) && s0_4) (F_law09_awake) default).bind fun a0_3 => (some (((((((seqB p.1 p_2.1) && (p.2 == p_2.2)) && (c == c_2)) && s0) && (s0_2 == s0_3)) && s0_4) && a0_3)))))))))))))))

set_option maxHeartbeats 1000000 in
theorem c_law09_MessPuts {I D : Dm} {a0 : EMsg} {v1_a0 : Value} {v2_a0 : Value} {v3_a0 : Value} {v4_a0 : Value} {v5_a0 : Value} {b : EMsg} {v6_b : Value} {v7_b : Value} {v8_b : Value} {v9_b : Value} {v10_b : Value} {w : World} {rr : Bool} (hF : F_law09_MessPuts a0 b = some rr) (H : St I D w [SlC NEMember v1_a0 a0.conf.members, SlC NEOp v2_a0 a0.batch.ops, SlC NEEntry v3_a0 a0.entries, SlC Nu64 v4_a0 a0.stamps, SlC NEPair v5_a0 a0.pairs, SlC NEMember v6_b b.conf.members, SlC NEOp v7_b b.batch.ops, SlC NEEntry v8_b b.entries, SlC Nu64 v9_b b.stamps, SlC NEPair v10_b b.pairs]) :
  Calls Tryz.prog 4 #[.agg (cEMsg a0 v1_a0 v2_a0 v3_a0 v4_a0 v5_a0).toArray, .agg (cEMsg b v6_b v7_b v8_b v9_b v10_b).toArray] w (Ret fun vv w' => vv = vT rr ∧ ∃ I', Hf I D w I' w' []) := by
 replace H := H.hf
 unfold F_law09_MessPuts at hF
 refine f_enter 65 Tryz.func4 rfl rfl (Nat.le_of_ble_eq_true rfl) fun a Z => ?_
 replace Z := Z.sub (ts := [0, 1]) rfl
 refine wp_seq (f_region Z ?_); clear Z; intro Z
 refine h_boxv Z H (cl := (cEMsg a0 v1_a0 v2_a0 v3_a0 v4_a0 v5_a0)) rfl rfl rfl (by decide) rfl rfl rfl fun a w1 b1 H Z => ?_
 refine h_boxv Z H (cl := (cEMsg b v6_b v7_b v8_b v9_b v10_b)) rfl rfl rfl (by decide) rfl rfl rfl fun a w2 b2 H Z => ?_
 refine s_runk tMsWP Z 1 rfl rfl fun a Z => ?_
 refine s_end Z [2, 3] rfl fun Z => ?_
 refine p_then (wp_seq ?_)
 refine wp_seq ?_
 obtain ⟨m, hx1, hF⟩ := bnd_in hF
 obtain ⟨m_2, hx2, hF⟩ := bnd_in hF
 refine f_region Z fun Z => ?_
 refine sO Z (.agg (cEMsg a0 v1_a0 v2_a0 v3_a0 v4_a0 v5_a0).toArray) rfl (oA tMsWP rfl rfl ((H.bx 1 rfl).part 0 rfl)) fun a Z => ?_
 refine hC Z H [(2, true), (3, true), (4, true), (5, true), (6, true)] rfl #[] fn_9_YMsWP rfl rfl (fun D h => have q := c_law09_much hx1 h; q) fun vv a w3 D2 hr hF2 Z => ?_
 obtain ⟨rfl, I1, K⟩ := hr
 have H := (hF2 K).nf rfl
 refine s_runk tMsWP Z 1 rfl rfl fun a Z => ?_
 refine gO Z (.agg (cEMsg b v6_b v7_b v8_b v9_b v10_b).toArray) rfl (wantB_f _) (.n 3 rfl .z) (fun hp => oA tMsWP rfl rfl ((H.bx 0 rfl).part 0 rfl)) fun a Z => ?_
 refine g_call Z (p := (!m)) (v := vT m_2) (S' := [(12, .agg (cEMsg b v6_b v7_b v8_b v9_b v10_b).toArray)]) (caps := #[]) fn_9_YMsWP rfl rfl rfl (wantB_f _) rfl (by decide) (fun hp hS => (hS.conv (t := 12) rfl (cond_t hp)).sub (ts := [12]) rfl) rfl rfl rfl rfl (fun hp => (have hq := c_law09_much (gif_in hx2 hp) ((H).pick0 (js := [(7, true), (8, true), (9, true), (10, true), (11, true)]) rfl rfl); plainC hq)) fun a w4 hb Z => ?_
 replace H := H.blw hb
 clear hb
 refine sO Z (vT (m || m_2)) rfl (Ob_pick rfl rfl rfl rfl (pick_or _ _)) fun a Z => ?_
 refine s_end Z [2, 3, 14] rfl fun Z => ?_
 refine p_then ?_
 refine f_cond Z rfl (fun hc1 => ?_) (fun hc1 => ?_)
 ·replace hF := ite_t hc1 hF
  refine wp_seq ?_
  obtain ⟨a0_2, hx3, hF⟩ := bnd_in hF
  refine f_region Z fun Z => ?_
  refine hC Z H [] rfl #[] fn_5_YMsWP rfl rfl (fun D h => have q := c_law09_awake hx3 h; q) fun vv a w5 D2 hr hF2 Z => ?_
  obtain ⟨rfl, I2, K⟩ := hr
  have H := (hF2 K).nf rfl
  refine s_runk tMsWP Z 1 rfl rfl fun a Z => ?_
  refine s_end Z [4] rfl fun Z => ?_
  refine p_then (wp_ret ?_)
  refine p_then_r ?_
  obtain rfl := some_in hF
  exact f_ret Z (run_results1 rfl Z rfl) ⟨rfl, I2, (H.sub [] rfl).eq rfl⟩
 ·replace hF := ite_f hc1 hF
  refine wp_skip ?_
  refine p_then (wp_seq ?_)
  obtain ⟨p, hx4, hF⟩ := bnd_in hF
  refine f_region Z fun Z => ?_
  refine sO Z (.agg (cEMsg a0 v1_a0 v2_a0 v3_a0 v4_a0 v5_a0).toArray) rfl (oA tMsWP rfl rfl ((H.bx 1 rfl).part 0 rfl)) fun a Z => ?_
  refine hC Z H [(2, true), (3, true), (4, true), (5, true), (6, true)] rfl #[] fn_10_YMsWP rfl rfl (fun D h => have q := c_mess_Put hx4 h; q) fun vv a w6 D2 hr hF2 Z => ?_
  obtain ⟨rfl, I3, K⟩ := hr
  have H := (hF2 K).nf rfl
  refine s_runk tMsWP Z 5 rfl rfl fun a Z => ?_
  refine s_end Z [2, 3, 5, 6] rfl fun Z => ?_
  refine p_then (wp_seq ?_)
  obtain ⟨p_2, hx5, hF⟩ := bnd_in hF
  refine f_region Z fun Z => ?_
  refine sO Z (.agg (cEMsg a0 v1_a0 v2_a0 v3_a0 v4_a0 v5_a0).toArray) rfl (oA tMsWP rfl rfl ((H.bx 1 rfl).part 0 rfl)) fun a Z => ?_
  refine hC Z H [(2, true), (3, true), (4, true), (5, true), (6, true)] rfl #[] fn_11_YMsWP rfl rfl (fun D h => have q := c_ref09_Put hx5 h; q) fun vv a w7 D2 hr hF2 Z => ?_
  obtain ⟨rfl, I4, K⟩ := hr
  have H := (hF2 K).nf rfl
  refine s_runk tMsWP Z 5 rfl rfl fun a Z => ?_
  refine s_end Z [2, 3, 5, 6, 7, 8] rfl fun Z => ?_
  refine p_then (wp_seq ?_)
  obtain ⟨c, hx6, hF⟩ := bnd_in hF
  obtain ⟨c_2, hx7, hF⟩ := bnd_in hF
  obtain ⟨c_3, hx8, hF⟩ := bnd_in hF
  obtain ⟨c_4, hx9, hF⟩ := bnd_in hF
  obtain ⟨s0, hx10, hF⟩ := bnd_in hF
  obtain ⟨s0_2, hx11, hF⟩ := bnd_in hF
  obtain ⟨s0_3, hx12, hF⟩ := bnd_in hF
  obtain ⟨s0_4, hx13, hF⟩ := bnd_in hF
  obtain ⟨a0_3, hx14, hF⟩ := bnd_in hF
  refine f_regionL Z (by kernel_rfl) (by kernel_rfl) (by decide) (by decide) [17, 19] [(0, 0, 0), (0, 0, 0), (3, 0, 0), (7, 0, 0), (15, 0, 0), (15, 0, 0), (63, 0, 0), (127, 0, 0), (255, 0, 0), (511, 0, 0), (1023, 0, 0), (511, 0, 0), (4095, 0, 0), (8191, 0, 0), (16383, 0, 0), (32767, 0, 0), (65535, 0, 0), (131071, 0, 0), (65535, 0, 1), (524287, 1, 1), (1048575, 2, 2), (2097151, 2, 2), (4194303, 2, 2), (8388607, 2, 2), (8388607, 2, 2), (33554431, 2, 2), (8388607, 2, 2), (8388607, 2, 2), (268435455, 2, 2), (536870911, 2, 2), (1073741823, 2, 2), (2147483647, 2, 2), (4294967295, 2, 2), (4294967295, 2, 2), (17179869183, 2, 2), (34359738367, 2, 2), (68719476735, 2, 2), (137438953471, 2, 2), (274877906943, 2, 2), (549755813887, 2, 2)] (by kernel_rfl) (fun jj vv => cond (Nat.blt jj 20) (cond (Nat.blt jj 10) (cond (Nat.blt jj 5) (cond (Nat.blt jj 2) (cond (Nat.blt jj 1) (vv = vS p.1) (vv = vS p_2.1)) (cond (Nat.blt jj 3) (vv = vT (seqB p.1 p_2.1)) (cond (Nat.blt jj 4) (vv = vT (seqB p.1 p_2.1)) (vv = cond (seqB p.1 p_2.1) (vI p.2) undef)))) (cond (Nat.blt jj 7) (cond (Nat.blt jj 6) (vv = cond (seqB p.1 p_2.1) (vI p_2.2) undef) (vv = cond (seqB p.1 p_2.1) (vT (p.2 == p_2.2)) undef)) (cond (Nat.blt jj 8) (vv = vT ((seqB p.1 p_2.1) && (p.2 == p_2.2))) (cond (Nat.blt jj 9) (vv = vT ((seqB p.1 p_2.1) && (p.2 == p_2.2))) (vv = cond ((seqB p.1 p_2.1) && (p.2 == p_2.2)) (.agg (cEMsg a0 v1_a0 v2_a0 v3_a0 v4_a0 v5_a0).toArray) undef))))) (cond (Nat.blt jj 15) (cond (Nat.blt jj 12) (cond (Nat.blt jj 11) (vv = cond ((seqB p.1 p_2.1) && (p.2 == p_2.2)) (vI c) undef) (vv = cond ((seqB p.1 p_2.1) && (p.2 == p_2.2)) (.agg (cEMsg a0 v1_a0 v2_a0 v3_a0 v4_a0 v5_a0).toArray) undef)) (cond (Nat.blt jj 13) (vv = cond ((seqB p.1 p_2.1) && (p.2 == p_2.2)) (vI c_2) undef) (cond (Nat.blt jj 14) (vv = cond ((seqB p.1 p_2.1) && (p.2 == p_2.2)) (vT (c == c_2)) undef) (vv = vT (((seqB p.1 p_2.1) && (p.2 == p_2.2)) && (c == c_2)))))) (cond (Nat.blt jj 17) (cond (Nat.blt jj 16) (vv = vT (((seqB p.1 p_2.1) && (p.2 == p_2.2)) && (c == c_2))) (vv = cond (((seqB p.1 p_2.1) && (p.2 == p_2.2)) && (c == c_2)) (.agg (cEMsg a0 v1_a0 v2_a0 v3_a0 v4_a0 v5_a0).toArray) undef)) (cond (Nat.blt jj 18) (vv = cond (((seqB p.1 p_2.1) && (p.2 == p_2.2)) && (c == c_2)) (.agg (cEMsg c_3 (aggSl vv 14) (aggSl vv 18) (aggSl vv 19) (aggSl vv 20) (aggSl vv 21)).toArray) undef) (cond (Nat.blt jj 19) (vv = cond (((seqB p.1 p_2.1) && (p.2 == p_2.2)) && (c == c_2)) (.agg (cEMsg a0 v1_a0 v2_a0 v3_a0 v4_a0 v5_a0).toArray) undef) (vv = cond (((seqB p.1 p_2.1) && (p.2 == p_2.2)) && (c == c_2)) (.agg (cEMsg c_4 (aggSl vv 14) (aggSl vv 18) (aggSl vv 19) (aggSl vv 20) (aggSl vv 21)).toArray) undef)))))) (cond (Nat.blt jj 30) (cond (Nat.blt jj 25) (cond (Nat.blt jj 22) (cond (Nat.blt jj 21) (vv = cond (((seqB p.1 p_2.1) && (p.2 == p_2.2)) && (c == c_2)) (vT s0) undef) (vv = vT ((((seqB p.1 p_2.1) && (p.2 == p_2.2)) && (c == c_2)) && s0))) (cond (Nat.blt jj 23) (vv = vT ((((seqB p.1 p_2.1) && (p.2 == p_2.2)) && (c == c_2)) && s0)) (cond (Nat.blt jj 24) (vv = cond ((((seqB p.1 p_2.1) && (p.2 == p_2.2)) && (c == c_2)) && s0) (.agg (cEMsg a0 v1_a0 v2_a0 v3_a0 v4_a0 v5_a0).toArray) undef) (vv = cond ((((seqB p.1 p_2.1) && (p.2 == p_2.2)) && (c == c_2)) && s0) (.agg (cEMsg b v6_b v7_b v8_b v9_b v10_b).toArray) undef)))) (cond (Nat.blt jj 27) (cond (Nat.blt jj 26) (vv = cond ((((seqB p.1 p_2.1) && (p.2 == p_2.2)) && (c == c_2)) && s0) (vT s0_2) undef) (vv = cond ((((seqB p.1 p_2.1) && (p.2 == p_2.2)) && (c == c_2)) && s0) (.agg (cEMsg a0 v1_a0 v2_a0 v3_a0 v4_a0 v5_a0).toArray) undef)) (cond (Nat.blt jj 28) (vv = cond ((((seqB p.1 p_2.1) && (p.2 == p_2.2)) && (c == c_2)) && s0) (.agg (cEMsg b v6_b v7_b v8_b v9_b v10_b).toArray) undef) (cond (Nat.blt jj 29) (vv = cond ((((seqB p.1 p_2.1) && (p.2 == p_2.2)) && (c == c_2)) && s0) (vT s0_3) undef) (vv = cond ((((seqB p.1 p_2.1) && (p.2 == p_2.2)) && (c == c_2)) && s0) (vT (s0_2 == s0_3)) undef))))) (cond (Nat.blt jj 35) (cond (Nat.blt jj 32) (cond (Nat.blt jj 31) (vv = vT (((((seqB p.1 p_2.1) && (p.2 == p_2.2)) && (c == c_2)) && s0) && (s0_2 == s0_3))) (vv = vT (((((seqB p.1 p_2.1) && (p.2 == p_2.2)) && (c == c_2)) && s0) && (s0_2 == s0_3)))) (cond (Nat.blt jj 33) (vv = cond (((((seqB p.1 p_2.1) && (p.2 == p_2.2)) && (c == c_2)) && s0) && (s0_2 == s0_3)) (.agg (cEMsg a0 v1_a0 v2_a0 v3_a0 v4_a0 v5_a0).toArray) undef) (cond (Nat.blt jj 34) (vv = cond (((((seqB p.1 p_2.1) && (p.2 == p_2.2)) && (c == c_2)) && s0) && (s0_2 == s0_3)) (.agg (cEMsg a0 v1_a0 v2_a0 v3_a0 v4_a0 v5_a0).toArray) undef) (vv = cond (((((seqB p.1 p_2.1) && (p.2 == p_2.2)) && (c == c_2)) && s0) && (s0_2 == s0_3)) (vT s0_4) undef)))) (cond (Nat.blt jj 37) (cond (Nat.blt jj 36) (vv = vT ((((((seqB p.1 p_2.1) && (p.2 == p_2.2)) && (c == c_2)) && s0) && (s0_2 == s0_3)) && s0_4)) (vv = vT ((((((seqB p.1 p_2.1) && (p.2 == p_2.2)) && (c == c_2)) && s0) && (s0_2 == s0_3)) && s0_4))) (cond (Nat.blt jj 38) (vv = cond ((((((seqB p.1 p_2.1) && (p.2 == p_2.2)) && (c == c_2)) && s0) && (s0_2 == s0_3)) && s0_4) (vT a0_3) undef) (cond (Nat.blt jj 39) (vv = vT (((((((seqB p.1 p_2.1) && (p.2 == p_2.2)) && (c == c_2)) && s0) && (s0_2 == s0_3)) && s0_4) && a0_3)) (vv = vT (((((((seqB p.1 p_2.1) && (p.2 == p_2.2)) && (c == c_2)) && s0) && (s0_2 == s0_3)) && s0_4) && a0_3)))))))) (fun ss vals1 xw => match ss with | 0 => Gx I D w I4 w7 xw [BxC b2 35 (cEMsg b v6_b v7_b v8_b v9_b v10_b), BxC b1 35 (cEMsg a0 v1_a0 v2_a0 v3_a0 v4_a0 v5_a0), SlC NEMember v1_a0 a0.conf.members, SlC NEOp v2_a0 a0.batch.ops, SlC NEEntry v3_a0 a0.entries, SlC Nu64 v4_a0 a0.stamps, SlC NEPair v5_a0 a0.pairs, SlC NEMember v6_b b.conf.members, SlC NEOp v7_b b.batch.ops, SlC NEEntry v8_b b.entries, SlC Nu64 v9_b b.stamps, SlC NEPair v10_b b.pairs] | 1 => Gx I D w I4 w7 xw [SlC NEMember (aggSl (vals1 17) 14) c_3.conf.members, SlC NEOp (aggSl (vals1 17) 18) c_3.batch.ops, SlC NEEntry (aggSl (vals1 17) 19) c_3.entries, SlC Nu64 (aggSl (vals1 17) 20) c_3.stamps, SlC NEPair (aggSl (vals1 17) 21) c_3.pairs, BxC b2 35 (cEMsg b v6_b v7_b v8_b v9_b v10_b), BxC b1 35 (cEMsg a0 v1_a0 v2_a0 v3_a0 v4_a0 v5_a0), SlC NEMember v1_a0 a0.conf.members, SlC NEOp v2_a0 a0.batch.ops, SlC NEEntry v3_a0 a0.entries, SlC Nu64 v4_a0 a0.stamps, SlC NEPair v5_a0 a0.pairs, SlC NEMember v6_b b.conf.members, SlC NEOp v7_b b.batch.ops, SlC NEEntry v8_b b.entries, SlC Nu64 v9_b b.stamps, SlC NEPair v10_b b.pairs] | _ => Gx I D w I4 w7 xw [SlC NEMember (aggSl (vals1 19) 14) c_4.conf.members, SlC NEOp (aggSl (vals1 19) 18) c_4.batch.ops, SlC NEEntry (aggSl (vals1 19) 19) c_4.entries, SlC Nu64 (aggSl (vals1 19) 20) c_4.stamps, SlC NEPair (aggSl (vals1 19) 21) c_4.pairs, SlC NEMember (aggSl (vals1 17) 14) c_3.conf.members, SlC NEOp (aggSl (vals1 17) 18) c_3.batch.ops, SlC NEEntry (aggSl (vals1 17) 19) c_3.entries, SlC Nu64 (aggSl (vals1 17) 20) c_3.stamps, SlC NEPair (aggSl (vals1 17) 21) c_3.pairs, BxC b2 35 (cEMsg b v6_b v7_b v8_b v9_b v10_b), BxC b1 35 (cEMsg a0 v1_a0 v2_a0 v3_a0 v4_a0 v5_a0), SlC NEMember v1_a0 a0.conf.members, SlC NEOp v2_a0 a0.batch.ops, SlC NEEntry v3_a0 a0.entries, SlC Nu64 v4_a0 a0.stamps, SlC NEPair v5_a0 a0.pairs, SlC NEMember v6_b b.conf.members, SlC NEOp v7_b b.batch.ops, SlC NEEntry v8_b b.entries, SlC Nu64 v9_b b.stamps, SlC NEPair v10_b b.pairs]) (fun _ => Gx.start H) ?_ ?_
  ·intro fr hfr hfe
   refine .cons (fun ss hlo hhi vals1 xw hG hV => ?_) ?_
   ·obtain rfl : ss = 0 := Nat.le_antisymm hhi hlo
    rw [← hfe]
    have hS := (hfr vals1).sub (ts := [5]) rfl
    exact L_val hS rfl (Ob_c tMsWP rfl) ⟨rfl, hG⟩
   refine .cons (fun ss hlo hhi vals1 xw hG hV => ?_) ?_
   ·obtain rfl : ss = 0 := Nat.le_antisymm hhi hlo
    rw [← hfe]
    have hS := (hfr vals1).sub (ts := [7]) rfl
    exact L_val hS rfl (Ob_c tMsWP rfl) ⟨rfl, hG⟩
   refine .cons (fun ss hlo hhi vals1 xw hG hV => ?_) ?_
   ·obtain rfl : ss = 0 := Nat.le_antisymm hhi hlo
    rw [← hfe]
    have hS := (hfr vals1).sub (ts := [26, 27]) rfl
    replace hS := hS.conv (t := 26) rfl (show (vals1 0) = vS p.1 from hV 0 (by decide))
    replace hS := hS.conv (t := 27) rfl (show (vals1 1) = vS p_2.1 from hV 1 (by decide))
    exact L_val hS rfl (Ob_c tMsWP rfl) ⟨rfl, hG⟩
   refine .cons (fun ss hlo hhi vals1 xw hG hV => ?_) ?_
   ·obtain rfl : ss = 0 := Nat.le_antisymm hhi hlo
    rw [← hfe]
    have hS := (hfr vals1).sub (ts := [28]) rfl
    replace hS := hS.conv (t := 28) rfl (show (vals1 2) = vT (seqB p.1 p_2.1) from hV 2 (by decide))
    exact L_val hS rfl (Ob_c tMsWP rfl) ⟨rfl, hG⟩
   refine .cons (fun ss hlo hhi vals1 xw hG hV => ?_) ?_
   ·obtain rfl : ss = 0 := Nat.le_antisymm hhi hlo
    rw [← hfe]
    have hS := (hfr vals1).sub (ts := [29, 6]) rfl
    replace hS := hS.conv (t := 29) rfl (show (vals1 3) = vT (seqB p.1 p_2.1) from hV 3 (by decide))
    refine L_gw (p := (seqB p.1 p_2.1)) hS rfl rfl rfl (wantB_t _) (fun hp => ?_) (fun hp => ⟨by rw [hp]; rfl, hG⟩)
    exact L_val hS rfl (Ob_c tMsWP rfl) ⟨(by rw [hp]; rfl), hG⟩
   refine .cons (fun ss hlo hhi vals1 xw hG hV => ?_) ?_
   ·obtain rfl : ss = 0 := Nat.le_antisymm hhi hlo
    rw [← hfe]
    have hS := (hfr vals1).sub (ts := [29, 8]) rfl
    replace hS := hS.conv (t := 29) rfl (show (vals1 3) = vT (seqB p.1 p_2.1) from hV 3 (by decide))
    refine L_gw (p := (seqB p.1 p_2.1)) hS rfl rfl rfl (wantB_t _) (fun hp => ?_) (fun hp => ⟨by rw [hp]; rfl, hG⟩)
    exact L_val hS rfl (Ob_c tMsWP rfl) ⟨(by rw [hp]; rfl), hG⟩
   refine .cons (fun ss hlo hhi vals1 xw hG hV => ?_) ?_
   ·obtain rfl : ss = 0 := Nat.le_antisymm hhi hlo
    rw [← hfe]
    have hS := (hfr vals1).sub (ts := [30, 31, 29]) rfl
    replace hS := hS.conv (t := 30) rfl (show (vals1 4) = cond (seqB p.1 p_2.1) (vI p.2) undef from hV 4 (by decide))
    replace hS := hS.conv (t := 31) rfl (show (vals1 5) = cond (seqB p.1 p_2.1) (vI p_2.2) undef from hV 5 (by decide))
    replace hS := hS.conv (t := 29) rfl (show (vals1 3) = vT (seqB p.1 p_2.1) from hV 3 (by decide))
    refine L_gw (p := (seqB p.1 p_2.1)) hS rfl rfl rfl (wantB_t _) (fun hp => ?_) (fun hp => ⟨by rw [hp]; rfl, hG⟩)
    replace hS := hS.conv (t := 30) rfl (cond_t hp)
    replace hS := hS.conv (t := 31) rfl (cond_t hp)
    exact L_val hS rfl (Ob_c tMsWP rfl) ⟨(by rw [hp]; rfl), hG⟩
   refine .cons (fun ss hlo hhi vals1 xw hG hV => ?_) ?_
   ·obtain rfl : ss = 0 := Nat.le_antisymm hhi hlo
    rw [← hfe]
    have hS := (hfr vals1).sub (ts := [29, 32]) rfl
    replace hS := hS.conv (t := 29) rfl (show (vals1 3) = vT (seqB p.1 p_2.1) from hV 3 (by decide))
    replace hS := hS.conv (t := 32) rfl (show (vals1 6) = cond (seqB p.1 p_2.1) (vT (p.2 == p_2.2)) undef from hV 6 (by decide))
    exact L_val hS rfl (Ob_pick rfl rfl rfl rfl (pick_and _ _)) ⟨rfl, hG⟩
   refine .cons (fun ss hlo hhi vals1 xw hG hV => ?_) ?_
   ·obtain rfl : ss = 0 := Nat.le_antisymm hhi hlo
    rw [← hfe]
    have hS := (hfr vals1).sub (ts := [33]) rfl
    replace hS := hS.conv (t := 33) rfl (show (vals1 7) = vT ((seqB p.1 p_2.1) && (p.2 == p_2.2)) from hV 7 (by decide))
    exact L_val hS rfl (Ob_c tMsWP rfl) ⟨rfl, hG⟩
   refine .cons (fun ss hlo hhi vals1 xw hG hV => ?_) ?_
   ·obtain rfl : ss = 0 := Nat.le_antisymm hhi hlo
    rw [← hfe]
    have hS := (hfr vals1).sub (ts := [34, 2]) rfl
    replace hS := hS.conv (t := 34) rfl (show (vals1 8) = vT ((seqB p.1 p_2.1) && (p.2 == p_2.2)) from hV 8 (by decide))
    refine L_gw (p := ((seqB p.1 p_2.1) && (p.2 == p_2.2))) hS rfl rfl rfl (wantB_t _) (fun hp => ?_) (fun hp => ⟨by rw [hp]; rfl, hG⟩)
    obtain ⟨I2, hI2, H⟩ := Gx.ex hG
    exact L_val hS rfl (oA tMsWP rfl rfl ((H.bx 1 rfl).part 0 rfl)) ⟨(by rw [hp]; rfl), hG⟩
   refine .cons (fun ss hlo hhi vals1 xw hG hV => ?_) ?_
   ·obtain rfl : ss = 0 := Nat.le_antisymm hhi hlo
    rw [← hfe]
    have hS := (hfr vals1).sub (ts := [35, 34]) rfl
    replace hS := hS.conv (t := 35) rfl (show (vals1 9) = cond ((seqB p.1 p_2.1) && (p.2 == p_2.2)) (.agg (cEMsg a0 v1_a0 v2_a0 v3_a0 v4_a0 v5_a0).toArray) undef from hV 9 (by decide))
    replace hS := hS.conv (t := 34) rfl (show (vals1 8) = vT ((seqB p.1 p_2.1) && (p.2 == p_2.2)) from hV 8 (by decide))
    refine L_gw (p := ((seqB p.1 p_2.1) && (p.2 == p_2.2))) hS rfl rfl rfl (wantB_t _) (fun hp => ?_) (fun hp => ⟨by rw [hp]; rfl, hG⟩)
    replace hS := hS.conv (t := 35) rfl (cond_t hp)
    obtain ⟨I2, hI2, H⟩ := Gx.ex hG
    refine L_call (caps := #[]) hS fn_12_YMsWP rfl rfl rfl rfl rfl ((have hq := c_mess_Check (gif_in hx6 hp) ((H).pick0 (js := [(2, true), (3, true), (4, true), (5, true), (6, true)]) rfl rfl); plainC hq)) fun r yw hr => ?_
    obtain ⟨rfl, hb⟩ := hr
    exact ⟨(by rw [hp]; rfl), Gx.blw hG hb⟩
   refine .cons (fun ss hlo hhi vals1 xw hG hV => ?_) ?_
   ·obtain rfl : ss = 0 := Nat.le_antisymm hhi hlo
    rw [← hfe]
    have hS := (hfr vals1).sub (ts := [34, 2]) rfl
    replace hS := hS.conv (t := 34) rfl (show (vals1 8) = vT ((seqB p.1 p_2.1) && (p.2 == p_2.2)) from hV 8 (by decide))
    refine L_gw (p := ((seqB p.1 p_2.1) && (p.2 == p_2.2))) hS rfl rfl rfl (wantB_t _) (fun hp => ?_) (fun hp => ⟨by rw [hp]; rfl, hG⟩)
    obtain ⟨I2, hI2, H⟩ := Gx.ex hG
    exact L_val hS rfl (oA tMsWP rfl rfl ((H.bx 1 rfl).part 0 rfl)) ⟨(by rw [hp]; rfl), hG⟩
   refine .cons (fun ss hlo hhi vals1 xw hG hV => ?_) ?_
   ·obtain rfl : ss = 0 := Nat.le_antisymm hhi hlo
    rw [← hfe]
    have hS := (hfr vals1).sub (ts := [37, 34]) rfl
    replace hS := hS.conv (t := 37) rfl (show (vals1 11) = cond ((seqB p.1 p_2.1) && (p.2 == p_2.2)) (.agg (cEMsg a0 v1_a0 v2_a0 v3_a0 v4_a0 v5_a0).toArray) undef from hV 11 (by decide))
    replace hS := hS.conv (t := 34) rfl (show (vals1 8) = vT ((seqB p.1 p_2.1) && (p.2 == p_2.2)) from hV 8 (by decide))
    refine L_gw (p := ((seqB p.1 p_2.1) && (p.2 == p_2.2))) hS rfl rfl rfl (wantB_t _) (fun hp => ?_) (fun hp => ⟨by rw [hp]; rfl, hG⟩)
    replace hS := hS.conv (t := 37) rfl (cond_t hp)
    obtain ⟨I2, hI2, H⟩ := Gx.ex hG
    refine L_call (caps := #[]) hS fn_13_YMsWP rfl rfl rfl rfl rfl ((have hq := c_ref09_Check (gif_in hx7 hp) ((H).pick0 (js := [(2, true), (3, true), (4, true), (5, true), (6, true)]) rfl rfl); plainC hq)) fun r yw hr => ?_
    obtain ⟨rfl, hb⟩ := hr
    exact ⟨(by rw [hp]; rfl), Gx.blw hG hb⟩
   refine .cons (fun ss hlo hhi vals1 xw hG hV => ?_) ?_
   ·obtain rfl : ss = 0 := Nat.le_antisymm hhi hlo
    rw [← hfe]
    have hS := (hfr vals1).sub (ts := [36, 38, 34]) rfl
    replace hS := hS.conv (t := 36) rfl (show (vals1 10) = cond ((seqB p.1 p_2.1) && (p.2 == p_2.2)) (vI c) undef from hV 10 (by decide))
    replace hS := hS.conv (t := 38) rfl (show (vals1 12) = cond ((seqB p.1 p_2.1) && (p.2 == p_2.2)) (vI c_2) undef from hV 12 (by decide))
    replace hS := hS.conv (t := 34) rfl (show (vals1 8) = vT ((seqB p.1 p_2.1) && (p.2 == p_2.2)) from hV 8 (by decide))
    refine L_gw (p := ((seqB p.1 p_2.1) && (p.2 == p_2.2))) hS rfl rfl rfl (wantB_t _) (fun hp => ?_) (fun hp => ⟨by rw [hp]; rfl, hG⟩)
    replace hS := hS.conv (t := 36) rfl (cond_t hp)
    replace hS := hS.conv (t := 38) rfl (cond_t hp)
    exact L_val hS rfl (Ob_c tMsWP rfl) ⟨(by rw [hp]; rfl), hG⟩
   refine .cons (fun ss hlo hhi vals1 xw hG hV => ?_) ?_
   ·obtain rfl : ss = 0 := Nat.le_antisymm hhi hlo
    rw [← hfe]
    have hS := (hfr vals1).sub (ts := [34, 39]) rfl
    replace hS := hS.conv (t := 34) rfl (show (vals1 8) = vT ((seqB p.1 p_2.1) && (p.2 == p_2.2)) from hV 8 (by decide))
    replace hS := hS.conv (t := 39) rfl (show (vals1 13) = cond ((seqB p.1 p_2.1) && (p.2 == p_2.2)) (vT (c == c_2)) undef from hV 13 (by decide))
    exact L_val hS rfl (Ob_pick rfl rfl rfl rfl (pick_and _ _)) ⟨rfl, hG⟩
   refine .cons (fun ss hlo hhi vals1 xw hG hV => ?_) ?_
   ·obtain rfl : ss = 0 := Nat.le_antisymm hhi hlo
    rw [← hfe]
    have hS := (hfr vals1).sub (ts := [40]) rfl
    replace hS := hS.conv (t := 40) rfl (show (vals1 14) = vT (((seqB p.1 p_2.1) && (p.2 == p_2.2)) && (c == c_2)) from hV 14 (by decide))
    exact L_val hS rfl (Ob_c tMsWP rfl) ⟨rfl, hG⟩
   refine .cons (fun ss hlo hhi vals1 xw hG hV => ?_) ?_
   ·obtain rfl : ss = 0 := Nat.le_antisymm hhi hlo
    rw [← hfe]
    have hS := (hfr vals1).sub (ts := [41, 2]) rfl
    replace hS := hS.conv (t := 41) rfl (show (vals1 15) = vT (((seqB p.1 p_2.1) && (p.2 == p_2.2)) && (c == c_2)) from hV 15 (by decide))
    refine L_gw (p := (((seqB p.1 p_2.1) && (p.2 == p_2.2)) && (c == c_2))) hS rfl rfl rfl (wantB_t _) (fun hp => ?_) (fun hp => ⟨by rw [hp]; rfl, hG⟩)
    obtain ⟨I2, hI2, H⟩ := Gx.ex hG
    exact L_val hS rfl (oA tMsWP rfl rfl ((H.bx 1 rfl).part 0 rfl)) ⟨(by rw [hp]; rfl), hG⟩
   refine .cons (fun ss hlo hhi vals1 xw hG hV => ?_) ?_
   ·obtain rfl : ss = 0 := Nat.le_antisymm hhi hlo
    rw [← hfe]
    have hS := (hfr vals1).sub (ts := [42, 41]) rfl
    replace hS := hS.conv (t := 42) rfl (show (vals1 16) = cond (((seqB p.1 p_2.1) && (p.2 == p_2.2)) && (c == c_2)) (.agg (cEMsg a0 v1_a0 v2_a0 v3_a0 v4_a0 v5_a0).toArray) undef from hV 16 (by decide))
    replace hS := hS.conv (t := 41) rfl (show (vals1 15) = vT (((seqB p.1 p_2.1) && (p.2 == p_2.2)) && (c == c_2)) from hV 15 (by decide))
    refine L_gw (p := (((seqB p.1 p_2.1) && (p.2 == p_2.2)) && (c == c_2))) hS rfl rfl rfl (wantB_t _) (fun hp => ?_) (fun hp => ⟨by rw [hp]; rfl, ?_⟩)
    ·obtain ⟨I2, hI2, H⟩ := Gx.ex hG
     replace hS := hS.conv (t := 42) rfl (cond_t hp)
     refine L_hcall H (js := [(2, true), (3, true), (4, true), (5, true), (6, true)]) rfl (caps := #[]) hS fn_14_YMsWP rfl rfl rfl rfl rfl (fun D1 hS => have hq := c_mess_Clean (gif_in hx8 hp) hS; hq) fun _ yw D1 hr hF2 => ?_
     obtain ⟨q0_, q1_, q2_, q3_, q4_, rfl, I3, K⟩ := hr
     obtain ⟨hK, H2⟩ := hF2 K
     exact ⟨by rw [hp]; rfl, by first | (rw [hp] at H2 ⊢; exact Gx.go hG hI2 hK K.imm H2) | (rw [hp]; exact Gx.go hG hI2 hK K.imm H2) | exact Gx.go hG hI2 hK K.imm H2⟩
    ·obtain rfl := gif_no hx8 hp; (try rw [hp]); obtain ⟨I2, hI2, H⟩ := Gx.ex hG; (try rw [hp] at H); exact Gx.go hG hI2 (Keep.refl _ _) (fun _ h => h) (Hf.sub (Hf.slNil (Hf.slNil (Hf.slNil (Hf.slNil (Hf.slNil (H.sub [(0, false), (0, false), (0, true), (1, true), (2, true), (3, true), (4, true), (5, true), (6, true), (7, true), (8, true), (9, true)] rfl) NEMember) NEOp) NEEntry) Nu64) NEPair) [(4, false), (3, false), (2, false), (1, false), (0, false), (0, false), (0, false), (0, true), (1, true), (2, true), (3, true), (4, true), (5, true), (6, true), (7, true), (8, true), (9, true)] rfl)
   refine .cons (fun ss hlo hhi vals1 xw hG hV => ?_) ?_
   ·obtain rfl | rfl : ss = 0 ∨ ss = 1 := st1 hlo hhi
    ·rw [← hfe]
     have hS := (hfr vals1).sub (ts := [41, 2]) rfl
     replace hS := hS.conv (t := 41) rfl (show (vals1 15) = vT (((seqB p.1 p_2.1) && (p.2 == p_2.2)) && (c == c_2)) from hV 15 (by decide))
     refine L_gw (p := (((seqB p.1 p_2.1) && (p.2 == p_2.2)) && (c == c_2))) hS rfl rfl rfl (wantB_t _) (fun hp => ?_) (fun hp => ⟨by rw [hp]; rfl, hG⟩)
     obtain ⟨I2, hI2, H⟩ := Gx.ex hG
     exact L_val hS rfl (oA tMsWP rfl rfl ((H.bx 1 rfl).part 0 rfl)) ⟨(by rw [hp]; rfl), hG⟩
    ·rw [← hfe]
     have hS := (hfr vals1).sub (ts := [41, 2]) rfl
     replace hS := hS.conv (t := 41) rfl (show (vals1 15) = vT (((seqB p.1 p_2.1) && (p.2 == p_2.2)) && (c == c_2)) from hV 15 (by decide))
     refine L_gw (p := (((seqB p.1 p_2.1) && (p.2 == p_2.2)) && (c == c_2))) hS rfl rfl rfl (wantB_t _) (fun hp => ?_) (fun hp => ⟨by rw [hp]; rfl, hG⟩)
     obtain ⟨I2, hI2, H⟩ := Gx.ex hG
     exact L_val hS rfl (oA tMsWP rfl rfl ((H.bx 6 rfl).part 0 rfl)) ⟨(by rw [hp]; rfl), hG⟩
   refine .cons (fun ss hlo hhi vals1 xw hG hV => ?_) ?_
   ·obtain rfl : ss = 1 := Nat.le_antisymm hhi hlo
    rw [← hfe]
    have hS := (hfr vals1).sub (ts := [44, 41]) rfl
    replace hS := hS.conv (t := 44) rfl (show (vals1 18) = cond (((seqB p.1 p_2.1) && (p.2 == p_2.2)) && (c == c_2)) (.agg (cEMsg a0 v1_a0 v2_a0 v3_a0 v4_a0 v5_a0).toArray) undef from hV 18 (by decide))
    replace hS := hS.conv (t := 41) rfl (show (vals1 15) = vT (((seqB p.1 p_2.1) && (p.2 == p_2.2)) && (c == c_2)) from hV 15 (by decide))
    refine L_gw (p := (((seqB p.1 p_2.1) && (p.2 == p_2.2)) && (c == c_2))) hS rfl rfl rfl (wantB_t _) (fun hp => ?_) (fun hp => ⟨by rw [hp]; rfl, ?_⟩)
    ·obtain ⟨I2, hI2, H⟩ := Gx.ex hG
     replace hS := hS.conv (t := 44) rfl (cond_t hp)
     refine L_hcall H (js := [(7, true), (8, true), (9, true), (10, true), (11, true)]) rfl (caps := #[]) hS fn_15_YMsWP rfl rfl rfl rfl rfl (fun D1 hS => have hq := c_ref09_Clean (gif_in hx9 hp) hS; hq) fun _ yw D1 hr hF2 => ?_
     obtain ⟨q0_, q1_, q2_, q3_, q4_, rfl, I3, K⟩ := hr
     obtain ⟨hK, H2⟩ := hF2 K
     exact ⟨by rw [hp]; rfl, by first | (rw [hp] at H2 ⊢; exact Gx.go hG hI2 hK K.imm H2) | (rw [hp]; exact Gx.go hG hI2 hK K.imm H2) | exact Gx.go hG hI2 hK K.imm H2⟩
    ·obtain rfl := gif_no hx9 hp; (try rw [hp]); obtain ⟨I2, hI2, H⟩ := Gx.ex hG; (try rw [hp] at H); exact Gx.go hG hI2 (Keep.refl _ _) (fun _ h => h) (Hf.sub (Hf.slNil (Hf.slNil (Hf.slNil (Hf.slNil (Hf.slNil (H.sub [(0, true), (1, true), (2, true), (3, true), (4, true), (5, false), (5, false), (5, true), (6, true), (7, true), (8, true), (9, true), (10, true), (11, true), (12, true), (13, true), (14, true)] rfl) NEMember) NEOp) NEEntry) Nu64) NEPair) [(4, false), (3, false), (2, false), (1, false), (0, false), (0, true), (1, true), (2, true), (3, true), (4, true), (5, false), (5, false), (5, true), (6, true), (7, true), (8, true), (9, true), (10, true), (11, true), (12, true), (13, true), (14, true)] rfl)
   refine .cons (fun ss hlo hhi vals1 xw hG hV => ?_) ?_
   ·obtain rfl : ss = 2 := Nat.le_antisymm hhi hlo
    rw [← hfe]
    have hS := (hfr vals1).sub (ts := [43, 45, 41]) rfl
    replace hS := hS.conv (t := 43) rfl (show (vals1 17) = cond (((seqB p.1 p_2.1) && (p.2 == p_2.2)) && (c == c_2)) (.agg (cEMsg c_3 (aggSl (vals1 17) 14) (aggSl (vals1 17) 18) (aggSl (vals1 17) 19) (aggSl (vals1 17) 20) (aggSl (vals1 17) 21)).toArray) undef from hV 17 (by decide))
    replace hS := hS.conv (t := 45) rfl (show (vals1 19) = cond (((seqB p.1 p_2.1) && (p.2 == p_2.2)) && (c == c_2)) (.agg (cEMsg c_4 (aggSl (vals1 19) 14) (aggSl (vals1 19) 18) (aggSl (vals1 19) 19) (aggSl (vals1 19) 20) (aggSl (vals1 19) 21)).toArray) undef from hV 19 (by decide))
    replace hS := hS.conv (t := 41) rfl (show (vals1 15) = vT (((seqB p.1 p_2.1) && (p.2 == p_2.2)) && (c == c_2)) from hV 15 (by decide))
    refine L_gw (p := (((seqB p.1 p_2.1) && (p.2 == p_2.2)) && (c == c_2))) hS rfl rfl rfl (wantB_t _) (fun hp => ?_) (fun hp => ⟨by rw [hp]; rfl, hG⟩)
    replace hS := hS.conv (t := 43) rfl (cond_t hp)
    replace hS := hS.conv (t := 45) rfl (cond_t hp)
    obtain ⟨I2, hI2, H⟩ := Gx.ex hG
    refine L_call (caps := #[]) hS fn_8_YMsWP rfl rfl rfl rfl rfl ((have hq := c_ref09_Same (gif_in hx10 hp) ((H).pick0 (js := [(5, true), (6, true), (7, true), (8, true), (9, true), (0, true), (1, true), (2, true), (3, true), (4, true)]) rfl rfl); plainC hq)) fun r yw hr => ?_
    obtain ⟨rfl, hb⟩ := hr
    exact ⟨(by rw [hp]; rfl), Gx.blw hG hb⟩
   refine .cons (fun ss hlo hhi vals1 xw hG hV => ?_) ?_
   ·obtain rfl : ss = 2 := Nat.le_antisymm hhi hlo
    rw [← hfe]
    have hS := (hfr vals1).sub (ts := [41, 46]) rfl
    replace hS := hS.conv (t := 41) rfl (show (vals1 15) = vT (((seqB p.1 p_2.1) && (p.2 == p_2.2)) && (c == c_2)) from hV 15 (by decide))
    replace hS := hS.conv (t := 46) rfl (show (vals1 20) = cond (((seqB p.1 p_2.1) && (p.2 == p_2.2)) && (c == c_2)) (vT s0) undef from hV 20 (by decide))
    exact L_val hS rfl (Ob_pick rfl rfl rfl rfl (pick_and _ _)) ⟨rfl, hG⟩
   refine .cons (fun ss hlo hhi vals1 xw hG hV => ?_) ?_
   ·obtain rfl : ss = 2 := Nat.le_antisymm hhi hlo
    rw [← hfe]
    have hS := (hfr vals1).sub (ts := [47]) rfl
    replace hS := hS.conv (t := 47) rfl (show (vals1 21) = vT ((((seqB p.1 p_2.1) && (p.2 == p_2.2)) && (c == c_2)) && s0) from hV 21 (by decide))
    exact L_val hS rfl (Ob_c tMsWP rfl) ⟨rfl, hG⟩
   refine .cons (fun ss hlo hhi vals1 xw hG hV => ?_) ?_
   ·obtain rfl : ss = 2 := Nat.le_antisymm hhi hlo
    rw [← hfe]
    have hS := (hfr vals1).sub (ts := [48, 2]) rfl
    replace hS := hS.conv (t := 48) rfl (show (vals1 22) = vT ((((seqB p.1 p_2.1) && (p.2 == p_2.2)) && (c == c_2)) && s0) from hV 22 (by decide))
    refine L_gw (p := ((((seqB p.1 p_2.1) && (p.2 == p_2.2)) && (c == c_2)) && s0)) hS rfl rfl rfl (wantB_t _) (fun hp => ?_) (fun hp => ⟨by rw [hp]; rfl, hG⟩)
    obtain ⟨I2, hI2, H⟩ := Gx.ex hG
    exact L_val hS rfl (oA tMsWP rfl rfl ((H.bx 11 rfl).part 0 rfl)) ⟨(by rw [hp]; rfl), hG⟩
   refine .cons (fun ss hlo hhi vals1 xw hG hV => ?_) ?_
   ·obtain rfl : ss = 2 := Nat.le_antisymm hhi hlo
    rw [← hfe]
    have hS := (hfr vals1).sub (ts := [48, 3]) rfl
    replace hS := hS.conv (t := 48) rfl (show (vals1 22) = vT ((((seqB p.1 p_2.1) && (p.2 == p_2.2)) && (c == c_2)) && s0) from hV 22 (by decide))
    refine L_gw (p := ((((seqB p.1 p_2.1) && (p.2 == p_2.2)) && (c == c_2)) && s0)) hS rfl rfl rfl (wantB_t _) (fun hp => ?_) (fun hp => ⟨by rw [hp]; rfl, hG⟩)
    obtain ⟨I2, hI2, H⟩ := Gx.ex hG
    exact L_val hS rfl (oA tMsWP rfl rfl ((H.bx 10 rfl).part 0 rfl)) ⟨(by rw [hp]; rfl), hG⟩
   refine .cons (fun ss hlo hhi vals1 xw hG hV => ?_) ?_
   ·obtain rfl : ss = 2 := Nat.le_antisymm hhi hlo
    rw [← hfe]
    have hS := (hfr vals1).sub (ts := [49, 50, 48]) rfl
    replace hS := hS.conv (t := 49) rfl (show (vals1 23) = cond ((((seqB p.1 p_2.1) && (p.2 == p_2.2)) && (c == c_2)) && s0) (.agg (cEMsg a0 v1_a0 v2_a0 v3_a0 v4_a0 v5_a0).toArray) undef from hV 23 (by decide))
    replace hS := hS.conv (t := 50) rfl (show (vals1 24) = cond ((((seqB p.1 p_2.1) && (p.2 == p_2.2)) && (c == c_2)) && s0) (.agg (cEMsg b v6_b v7_b v8_b v9_b v10_b).toArray) undef from hV 24 (by decide))
    replace hS := hS.conv (t := 48) rfl (show (vals1 22) = vT ((((seqB p.1 p_2.1) && (p.2 == p_2.2)) && (c == c_2)) && s0) from hV 22 (by decide))
    refine L_gw (p := ((((seqB p.1 p_2.1) && (p.2 == p_2.2)) && (c == c_2)) && s0)) hS rfl rfl rfl (wantB_t _) (fun hp => ?_) (fun hp => ⟨by rw [hp]; rfl, hG⟩)
    replace hS := hS.conv (t := 49) rfl (cond_t hp)
    replace hS := hS.conv (t := 50) rfl (cond_t hp)
    obtain ⟨I2, hI2, H⟩ := Gx.ex hG
    refine L_call (caps := #[]) hS fn_16_YMsWP rfl rfl rfl rfl rfl ((have hq := c_mess_Same (gif_in hx11 hp) ((H).pick0 (js := [(12, true), (13, true), (14, true), (15, true), (16, true), (17, true), (18, true), (19, true), (20, true), (21, true)]) rfl rfl); plainC hq)) fun r yw hr => ?_
    obtain ⟨rfl, hb⟩ := hr
    exact ⟨(by rw [hp]; rfl), Gx.blw hG hb⟩
   refine .cons (fun ss hlo hhi vals1 xw hG hV => ?_) ?_
   ·obtain rfl : ss = 2 := Nat.le_antisymm hhi hlo
    rw [← hfe]
    have hS := (hfr vals1).sub (ts := [48, 2]) rfl
    replace hS := hS.conv (t := 48) rfl (show (vals1 22) = vT ((((seqB p.1 p_2.1) && (p.2 == p_2.2)) && (c == c_2)) && s0) from hV 22 (by decide))
    refine L_gw (p := ((((seqB p.1 p_2.1) && (p.2 == p_2.2)) && (c == c_2)) && s0)) hS rfl rfl rfl (wantB_t _) (fun hp => ?_) (fun hp => ⟨by rw [hp]; rfl, hG⟩)
    obtain ⟨I2, hI2, H⟩ := Gx.ex hG
    exact L_val hS rfl (oA tMsWP rfl rfl ((H.bx 11 rfl).part 0 rfl)) ⟨(by rw [hp]; rfl), hG⟩
   refine .cons (fun ss hlo hhi vals1 xw hG hV => ?_) ?_
   ·obtain rfl : ss = 2 := Nat.le_antisymm hhi hlo
    rw [← hfe]
    have hS := (hfr vals1).sub (ts := [48, 3]) rfl
    replace hS := hS.conv (t := 48) rfl (show (vals1 22) = vT ((((seqB p.1 p_2.1) && (p.2 == p_2.2)) && (c == c_2)) && s0) from hV 22 (by decide))
    refine L_gw (p := ((((seqB p.1 p_2.1) && (p.2 == p_2.2)) && (c == c_2)) && s0)) hS rfl rfl rfl (wantB_t _) (fun hp => ?_) (fun hp => ⟨by rw [hp]; rfl, hG⟩)
    obtain ⟨I2, hI2, H⟩ := Gx.ex hG
    exact L_val hS rfl (oA tMsWP rfl rfl ((H.bx 10 rfl).part 0 rfl)) ⟨(by rw [hp]; rfl), hG⟩
   refine .cons (fun ss hlo hhi vals1 xw hG hV => ?_) ?_
   ·obtain rfl : ss = 2 := Nat.le_antisymm hhi hlo
    rw [← hfe]
    have hS := (hfr vals1).sub (ts := [52, 53, 48]) rfl
    replace hS := hS.conv (t := 52) rfl (show (vals1 26) = cond ((((seqB p.1 p_2.1) && (p.2 == p_2.2)) && (c == c_2)) && s0) (.agg (cEMsg a0 v1_a0 v2_a0 v3_a0 v4_a0 v5_a0).toArray) undef from hV 26 (by decide))
    replace hS := hS.conv (t := 53) rfl (show (vals1 27) = cond ((((seqB p.1 p_2.1) && (p.2 == p_2.2)) && (c == c_2)) && s0) (.agg (cEMsg b v6_b v7_b v8_b v9_b v10_b).toArray) undef from hV 27 (by decide))
    replace hS := hS.conv (t := 48) rfl (show (vals1 22) = vT ((((seqB p.1 p_2.1) && (p.2 == p_2.2)) && (c == c_2)) && s0) from hV 22 (by decide))
    refine L_gw (p := ((((seqB p.1 p_2.1) && (p.2 == p_2.2)) && (c == c_2)) && s0)) hS rfl rfl rfl (wantB_t _) (fun hp => ?_) (fun hp => ⟨by rw [hp]; rfl, hG⟩)
    replace hS := hS.conv (t := 52) rfl (cond_t hp)
    replace hS := hS.conv (t := 53) rfl (cond_t hp)
    obtain ⟨I2, hI2, H⟩ := Gx.ex hG
    refine L_call (caps := #[]) hS fn_8_YMsWP rfl rfl rfl rfl rfl ((have hq := c_ref09_Same (gif_in hx12 hp) ((H).pick0 (js := [(12, true), (13, true), (14, true), (15, true), (16, true), (17, true), (18, true), (19, true), (20, true), (21, true)]) rfl rfl); plainC hq)) fun r yw hr => ?_
    obtain ⟨rfl, hb⟩ := hr
    exact ⟨(by rw [hp]; rfl), Gx.blw hG hb⟩
   refine .cons (fun ss hlo hhi vals1 xw hG hV => ?_) ?_
   ·obtain rfl : ss = 2 := Nat.le_antisymm hhi hlo
    rw [← hfe]
    have hS := (hfr vals1).sub (ts := [51, 54, 48]) rfl
    replace hS := hS.conv (t := 51) rfl (show (vals1 25) = cond ((((seqB p.1 p_2.1) && (p.2 == p_2.2)) && (c == c_2)) && s0) (vT s0_2) undef from hV 25 (by decide))
    replace hS := hS.conv (t := 54) rfl (show (vals1 28) = cond ((((seqB p.1 p_2.1) && (p.2 == p_2.2)) && (c == c_2)) && s0) (vT s0_3) undef from hV 28 (by decide))
    replace hS := hS.conv (t := 48) rfl (show (vals1 22) = vT ((((seqB p.1 p_2.1) && (p.2 == p_2.2)) && (c == c_2)) && s0) from hV 22 (by decide))
    refine L_gw (p := ((((seqB p.1 p_2.1) && (p.2 == p_2.2)) && (c == c_2)) && s0)) hS rfl rfl rfl (wantB_t _) (fun hp => ?_) (fun hp => ⟨by rw [hp]; rfl, hG⟩)
    replace hS := hS.conv (t := 51) rfl (cond_t hp)
    replace hS := hS.conv (t := 54) rfl (cond_t hp)
    exact L_val hS rfl (Ob_c tMsWP rfl) ⟨(by rw [hp]; rfl), hG⟩
   refine .cons (fun ss hlo hhi vals1 xw hG hV => ?_) ?_
   ·obtain rfl : ss = 2 := Nat.le_antisymm hhi hlo
    rw [← hfe]
    have hS := (hfr vals1).sub (ts := [48, 55]) rfl
    replace hS := hS.conv (t := 48) rfl (show (vals1 22) = vT ((((seqB p.1 p_2.1) && (p.2 == p_2.2)) && (c == c_2)) && s0) from hV 22 (by decide))
    replace hS := hS.conv (t := 55) rfl (show (vals1 29) = cond ((((seqB p.1 p_2.1) && (p.2 == p_2.2)) && (c == c_2)) && s0) (vT (s0_2 == s0_3)) undef from hV 29 (by decide))
    exact L_val hS rfl (Ob_pick rfl rfl rfl rfl (pick_and _ _)) ⟨rfl, hG⟩
   refine .cons (fun ss hlo hhi vals1 xw hG hV => ?_) ?_
   ·obtain rfl : ss = 2 := Nat.le_antisymm hhi hlo
    rw [← hfe]
    have hS := (hfr vals1).sub (ts := [56]) rfl
    replace hS := hS.conv (t := 56) rfl (show (vals1 30) = vT (((((seqB p.1 p_2.1) && (p.2 == p_2.2)) && (c == c_2)) && s0) && (s0_2 == s0_3)) from hV 30 (by decide))
    exact L_val hS rfl (Ob_c tMsWP rfl) ⟨rfl, hG⟩
   refine .cons (fun ss hlo hhi vals1 xw hG hV => ?_) ?_
   ·obtain rfl : ss = 2 := Nat.le_antisymm hhi hlo
    rw [← hfe]
    have hS := (hfr vals1).sub (ts := [57, 2]) rfl
    replace hS := hS.conv (t := 57) rfl (show (vals1 31) = vT (((((seqB p.1 p_2.1) && (p.2 == p_2.2)) && (c == c_2)) && s0) && (s0_2 == s0_3)) from hV 31 (by decide))
    refine L_gw (p := (((((seqB p.1 p_2.1) && (p.2 == p_2.2)) && (c == c_2)) && s0) && (s0_2 == s0_3))) hS rfl rfl rfl (wantB_t _) (fun hp => ?_) (fun hp => ⟨by rw [hp]; rfl, hG⟩)
    obtain ⟨I2, hI2, H⟩ := Gx.ex hG
    exact L_val hS rfl (oA tMsWP rfl rfl ((H.bx 11 rfl).part 0 rfl)) ⟨(by rw [hp]; rfl), hG⟩
   refine .cons (fun ss hlo hhi vals1 xw hG hV => ?_) ?_
   ·obtain rfl : ss = 2 := Nat.le_antisymm hhi hlo
    rw [← hfe]
    have hS := (hfr vals1).sub (ts := [57, 2]) rfl
    replace hS := hS.conv (t := 57) rfl (show (vals1 31) = vT (((((seqB p.1 p_2.1) && (p.2 == p_2.2)) && (c == c_2)) && s0) && (s0_2 == s0_3)) from hV 31 (by decide))
    refine L_gw (p := (((((seqB p.1 p_2.1) && (p.2 == p_2.2)) && (c == c_2)) && s0) && (s0_2 == s0_3))) hS rfl rfl rfl (wantB_t _) (fun hp => ?_) (fun hp => ⟨by rw [hp]; rfl, hG⟩)
    obtain ⟨I2, hI2, H⟩ := Gx.ex hG
    exact L_val hS rfl (oA tMsWP rfl rfl ((H.bx 11 rfl).part 0 rfl)) ⟨(by rw [hp]; rfl), hG⟩
   refine .cons (fun ss hlo hhi vals1 xw hG hV => ?_) ?_
   ·obtain rfl : ss = 2 := Nat.le_antisymm hhi hlo
    rw [← hfe]
    have hS := (hfr vals1).sub (ts := [58, 59, 57]) rfl
    replace hS := hS.conv (t := 58) rfl (show (vals1 32) = cond (((((seqB p.1 p_2.1) && (p.2 == p_2.2)) && (c == c_2)) && s0) && (s0_2 == s0_3)) (.agg (cEMsg a0 v1_a0 v2_a0 v3_a0 v4_a0 v5_a0).toArray) undef from hV 32 (by decide))
    replace hS := hS.conv (t := 59) rfl (show (vals1 33) = cond (((((seqB p.1 p_2.1) && (p.2 == p_2.2)) && (c == c_2)) && s0) && (s0_2 == s0_3)) (.agg (cEMsg a0 v1_a0 v2_a0 v3_a0 v4_a0 v5_a0).toArray) undef from hV 33 (by decide))
    replace hS := hS.conv (t := 57) rfl (show (vals1 31) = vT (((((seqB p.1 p_2.1) && (p.2 == p_2.2)) && (c == c_2)) && s0) && (s0_2 == s0_3)) from hV 31 (by decide))
    refine L_gw (p := (((((seqB p.1 p_2.1) && (p.2 == p_2.2)) && (c == c_2)) && s0) && (s0_2 == s0_3))) hS rfl rfl rfl (wantB_t _) (fun hp => ?_) (fun hp => ⟨by rw [hp]; rfl, hG⟩)
    replace hS := hS.conv (t := 58) rfl (cond_t hp)
    replace hS := hS.conv (t := 59) rfl (cond_t hp)
    obtain ⟨I2, hI2, H⟩ := Gx.ex hG
    refine L_call (caps := #[]) hS fn_16_YMsWP rfl rfl rfl rfl rfl ((have hq := c_mess_Same (gif_in hx13 hp) ((H).pick0 (js := [(12, true), (13, true), (14, true), (15, true), (16, true), (12, true), (13, true), (14, true), (15, true), (16, true)]) rfl rfl); plainC hq)) fun r yw hr => ?_
    obtain ⟨rfl, hb⟩ := hr
    exact ⟨(by rw [hp]; rfl), Gx.blw hG hb⟩
   refine .cons (fun ss hlo hhi vals1 xw hG hV => ?_) ?_
   ·obtain rfl : ss = 2 := Nat.le_antisymm hhi hlo
    rw [← hfe]
    have hS := (hfr vals1).sub (ts := [57, 60]) rfl
    replace hS := hS.conv (t := 57) rfl (show (vals1 31) = vT (((((seqB p.1 p_2.1) && (p.2 == p_2.2)) && (c == c_2)) && s0) && (s0_2 == s0_3)) from hV 31 (by decide))
    replace hS := hS.conv (t := 60) rfl (show (vals1 34) = cond (((((seqB p.1 p_2.1) && (p.2 == p_2.2)) && (c == c_2)) && s0) && (s0_2 == s0_3)) (vT s0_4) undef from hV 34 (by decide))
    exact L_val hS rfl (Ob_pick rfl rfl rfl rfl (pick_and _ _)) ⟨rfl, hG⟩
   refine .cons (fun ss hlo hhi vals1 xw hG hV => ?_) ?_
   ·obtain rfl : ss = 2 := Nat.le_antisymm hhi hlo
    rw [← hfe]
    have hS := (hfr vals1).sub (ts := [61]) rfl
    replace hS := hS.conv (t := 61) rfl (show (vals1 35) = vT ((((((seqB p.1 p_2.1) && (p.2 == p_2.2)) && (c == c_2)) && s0) && (s0_2 == s0_3)) && s0_4) from hV 35 (by decide))
    exact L_val hS rfl (Ob_c tMsWP rfl) ⟨rfl, hG⟩
   refine .cons (fun ss hlo hhi vals1 xw hG hV => ?_) ?_
   ·obtain rfl : ss = 2 := Nat.le_antisymm hhi hlo
    rw [← hfe]
    have hS := (hfr vals1).sub (ts := [62]) rfl
    replace hS := hS.conv (t := 62) rfl (show (vals1 36) = vT ((((((seqB p.1 p_2.1) && (p.2 == p_2.2)) && (c == c_2)) && s0) && (s0_2 == s0_3)) && s0_4) from hV 36 (by decide))
    refine L_gw (p := ((((((seqB p.1 p_2.1) && (p.2 == p_2.2)) && (c == c_2)) && s0) && (s0_2 == s0_3)) && s0_4)) hS rfl rfl rfl (wantB_t _) (fun hp => ?_) (fun hp => ⟨by rw [hp]; rfl, hG⟩)
    obtain ⟨I2, hI2, H⟩ := Gx.ex hG
    refine L_call (caps := #[]) hS fn_5_YMsWP rfl rfl rfl rfl rfl ((have hq := c_law09_awake (gif_in hx14 hp) ((H).pick0 (js := []) rfl rfl); plainC hq)) fun r yw hr => ?_
    obtain ⟨rfl, hb⟩ := hr
    exact ⟨(by rw [hp]; rfl), Gx.blw hG hb⟩
   refine .cons (fun ss hlo hhi vals1 xw hG hV => ?_) ?_
   ·obtain rfl : ss = 2 := Nat.le_antisymm hhi hlo
    rw [← hfe]
    have hS := (hfr vals1).sub (ts := [62, 63]) rfl
    replace hS := hS.conv (t := 62) rfl (show (vals1 36) = vT ((((((seqB p.1 p_2.1) && (p.2 == p_2.2)) && (c == c_2)) && s0) && (s0_2 == s0_3)) && s0_4) from hV 36 (by decide))
    replace hS := hS.conv (t := 63) rfl (show (vals1 37) = cond ((((((seqB p.1 p_2.1) && (p.2 == p_2.2)) && (c == c_2)) && s0) && (s0_2 == s0_3)) && s0_4) (vT a0_3) undef from hV 37 (by decide))
    exact L_val hS rfl (Ob_pick rfl rfl rfl rfl (pick_and _ _)) ⟨rfl, hG⟩
   refine .cons (fun ss hlo hhi vals1 xw hG hV => ?_) ?_
   ·obtain rfl : ss = 2 := Nat.le_antisymm hhi hlo
    rw [← hfe]
    have hS := (hfr vals1).sub (ts := [64]) rfl
    replace hS := hS.conv (t := 64) rfl (show (vals1 38) = vT (((((((seqB p.1 p_2.1) && (p.2 == p_2.2)) && (c == c_2)) && s0) && (s0_2 == s0_3)) && s0_4) && a0_3) from hV 38 (by decide))
    exact L_val hS rfl (Ob_c tMsWP rfl) ⟨rfl, hG⟩
   exact .nil
  ·intro vals1 a w8 Z hG hV
   replace Z := Z.sub (ts := [4]) (S' := [(4, vals1 39)]) rfl
   replace Z := Z.conv (t := 4) rfl (show (vals1 39) = vT (((((((seqB p.1 p_2.1) && (p.2 == p_2.2)) && (c == c_2)) && s0) && (s0_2 == s0_3)) && s0_4) && a0_3) from hV 39 (by decide))
   obtain ⟨I5, _, H⟩ := Gx.ex hG
   clear hG hV
   replace Z := Z.sub (ts := [4]) rfl
   replace H := H.nf rfl; try dsimp only at H
   refine p_then (wp_ret ?_)
   obtain rfl := some_in hF
   exact f_ret Z (run_results1 rfl Z rfl) ⟨rfl, I5, (H.sub [] rfl).eq rfl⟩

theorem awakeP : F_law09_awake = some true := by kernel_rfl

end Go.Proofs.YthmjkcdpbbcdgaaGreat
