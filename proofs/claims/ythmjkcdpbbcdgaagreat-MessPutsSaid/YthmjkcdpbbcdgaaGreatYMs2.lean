/- Messages: their own parts, and whether two are the same. -/
import Derived.Test.YthmjkcdpbbcdgaaGreatYMs
namespace Go.Proofs.YthmjkcdpbbcdgaaGreat
open Go.RowKit
def OEMsg (b : Nat) (x : EMsg) : Ch := ExC fun (p : Value × Value × Value × Value × Value) => [BxC b 35 (cEMsg x p.1 p.2.1 p.2.2.1 p.2.2.2.1 p.2.2.2.2), SlC NEMember p.1 x.conf.members, SlC NEOp p.2.1 x.batch.ops, SlC NEEntry p.2.2.1 x.entries, OwC Nu64 23 p.2.2.2.1 x.stamps, SlC NEPair p.2.2.2.2 x.pairs]

def REMsg (b : Nat) (x : EMsg) : Ch := ExC fun (p : Value × Value × Value × Value × Value) => [BxC b 35 (cEMsg x p.1 p.2.1 p.2.2.1 p.2.2.2.1 p.2.2.2.2), SlC NEMember p.1 x.conf.members, SlC NEOp p.2.1 x.batch.ops, SlC NEEntry p.2.2.1 x.entries, SlC Nu64 p.2.2.2.1 x.stamps, SlC NEPair p.2.2.2.2 x.pairs]

def tMs2L : TabL := ⟨[(35840, 0), (35841, 1), (35842, 2), (35843, 3), (35844, 4), (35845, 5), (35846, 6), (35847, 7), (35848, 8), (35849, 9), (35850, 10), (35851, 11), (35852, 12), (35853, 13), (35854, 16), (35855, 19), (35856, 20), (35857, 21)], [9], [4], [(31, (88, 4)), (32, (23, 1)), (33, (91, 2))], [(3, (1, false)), (4, (1, false)), (9, (1, false)), (23, (1, false)), (24, (1, false)), (27, (3, true)), (30, (3, true)), (31, (1, false)), (32, (1, false)), (33, (1, false)), (35, (22, true)), (88, (4, true)), (91, (2, true))]⟩

def tMs2 : Tab Tryz.prog := ⟨tMs2L, by kernel_rfl⟩

theorem fn_20_YMs2 : IsFn Tryz.prog 20 := ⟨_, Tryz.func20, by kernel_rfl, by kernel_rfl⟩

theorem fn_26_YMs2 : IsFn Tryz.prog 26 := ⟨_, Tryz.func26, by kernel_rfl, by kernel_rfl⟩

theorem fn_29_YMs2 : IsFn Tryz.prog 29 := ⟨_, Tryz.func29, by kernel_rfl, by kernel_rfl⟩

theorem fn_30_YMs2 : IsFn Tryz.prog 30 := ⟨_, Tryz.func30, by kernel_rfl, by kernel_rfl⟩

theorem fn_31_YMs2 : IsFn Tryz.prog 31 := ⟨_, Tryz.func31, by kernel_rfl, by kernel_rfl⟩

theorem fn_32_YMs2 : IsFn Tryz.prog 32 := ⟨_, Tryz.func32, by kernel_rfl, by kernel_rfl⟩

theorem fn_33_YMs2 : IsFn Tryz.prog 33 := ⟨_, Tryz.func33, by kernel_rfl, by kernel_rfl⟩

theorem fn_44_YMs2 : IsFn Tryz.prog 44 := ⟨_, Tryz.func44, by kernel_rfl, by kernel_rfl⟩

theorem fn_45_YMs2 : IsFn Tryz.prog 45 := ⟨_, Tryz.func45, by kernel_rfl, by kernel_rfl⟩

theorem fn_46_YMs2 : IsFn Tryz.prog 46 := ⟨_, Tryz.func46, by kernel_rfl, by kernel_rfl⟩

theorem fn_47_YMs2 : IsFn Tryz.prog 47 := ⟨_, Tryz.func47, by kernel_rfl, by kernel_rfl⟩

theorem fn_48_YMs2 : IsFn Tryz.prog 48 := ⟨_, Tryz.func48, by kernel_rfl, by kernel_rfl⟩

theorem fn_49_YMs2 : IsFn Tryz.prog 49 := ⟨_, Tryz.func49, by kernel_rfl, by kernel_rfl⟩

theorem fn_50_YMs2 : IsFn Tryz.prog 50 := ⟨_, Tryz.func50, by kernel_rfl, by kernel_rfl⟩

theorem fn_51_YMs2 : IsFn Tryz.prog 51 := ⟨_, Tryz.func51, by kernel_rfl, by kernel_rfl⟩

theorem fn_52_YMs2 : IsFn Tryz.prog 52 := ⟨_, Tryz.func52, by kernel_rfl, by kernel_rfl⟩

theorem fn_58_YMs2 : IsFn Tryz.prog 58 := ⟨_, Tryz.func58, by kernel_rfl, by kernel_rfl⟩

theorem fn_73_YMs2 : IsFn Tryz.prog 73 := ⟨_, Tryz.func73, by kernel_rfl, by kernel_rfl⟩

theorem neq_EPair (x y : EPair) (w : World) : (binOp .neq 91 (.agg (cEPair x).toArray) (.agg (cEPair y).toArray)).run Tryz.prog w = .ok (.bool (!eqEPair x y)) w := by
 have h1 := run_equalIn_struct (P := Tryz.prog) w 9999 91 (cEPair x).toArray (cEPair y).toArray (by rw [fieldsOf_of Tryz.underlying91]; exact Tryz.underlying91) (by kernel_rfl)
 rw [run_neq_struct, h1, fieldsOf_of Tryz.underlying91]
 simp [Op.eqFields, part, isAgg, cEPair, beqS, eqEPair, seqB_eq, run_underlying Tryz.underlying9, run_equalIn_string w 9998 9 _ _ Tryz.underlying9]
 try ((repeat' split) <;> simp_all)

theorem eqg_EPair (op : BinOp) (x y : Operand) (a b : Array Value) (w : World) : (eqGuard op 91 x y (.agg a) (.agg b)).run Tryz.prog w = .ok () w := run_eqGuard_agg (by kernel_rfl) op x y a b w

def F_mess_lay (to_ : EMsg) (m : EMsg) (c : Int) : Option EMsg := (F_mess_number c).bind fun n0 => (if (!n0.isNone) = true then ((F_mess_number c).bind fun n0_2 => (chk (n0_2.isSome = true) ((selI [(1, m.epoch), (2, m.req), (3, m.serial), (7, m.n), (8, m.m), (9, m.p)] n0_2).bind fun k => (chk (n0.isSome = true) (chk (n0.any [1, 2, 3, 7, 8, 9].contains = true) (some ({ to_ with epoch := cond (n0 == some 1) k to_.epoch, req := cond (n0 == some 2) k to_.req, serial := cond (n0 == some 3) k to_.serial, n := cond (n0 == some 7) k to_.n, m := cond (n0 == some 8) k to_.m, p := cond (n0 == some 9) k to_.p } : EMsg))))))) else (if (c == 120) = true then (some ({ to_ with e := m.e } : EMsg)) else (if (c == 97) = true then (some ({ to_ with at_ := m.at_ } : EMsg)) else (if (c == 108) = true then (some ({ to_ with last := m.last } : EMsg)) else (if (c == 102) = true then (some ({ to_ with flag := m.flag } : EMsg)) else (if (c == 107) = true then (some ({ to_ with key := m.key } : EMsg)) else (if (c == 116) = true then (some ({ to_ with to_ := m.to_ } : EMsg)) else (if (c == 67) = true then (some ({ to_ with conf := m.conf } : EMsg)) else (if (c == 66) = true then (some ({ to_ with batch := m.batch } : EMsg)) else (if (c == 69) = true then (some ({ to_ with entries := m.entries } : EMsg)) else (if (c == 83) = true then (some ({ to_ with stamps := m.stamps } : EMsg)) else (if (c == 82) = true then (some ({ to_ with pairs := m.pairs } : EMsg)) else (some to_)))))))))))))

set_option maxHeartbeats 1000000 in
theorem c_mess_lay {I D : Dm} {b_to_ : Nat} {to_ : EMsg} {m : EMsg} {v1_m : Value} {v2_m : Value} {v3_m : Value} {v4_m : Value} {v5_m : Value} {c : Int} {w : World} {rr : EMsg} (hF : F_mess_lay to_ m c = some rr) (H : St I D w [REMsg b_to_ to_, SlC NEMember v1_m m.conf.members, SlC NEOp v2_m m.batch.ops, SlC NEEntry v3_m m.entries, SlC Nu64 v4_m m.stamps, SlC NEPair v5_m m.pairs]) :
  Calls Tryz.prog 44 #[pp b_to_ 0, .agg (cEMsg m v1_m v2_m v3_m v4_m v5_m).toArray, .int .i32 c] w (Ret fun vv w' => vv = .tuple #[] ∧ ∃ I', Hf I D w I' w' [REMsg b_to_ rr]) := by
 replace H := H.hf
 unfold F_mess_lay at hF
 refine f_enter 96 Tryz.func44 rfl rfl (Nat.le_of_ble_eq_true rfl) fun a Z => ?_
 replace Z := Z.sub (ts := [0, 1, 2]) rfl
 refine wp_seq (f_region Z ?_); clear Z; intro Z
 refine h_boxv Z H (cl := (cEMsg m v1_m v2_m v3_m v4_m v5_m)) rfl rfl rfl (by decide) rfl rfl rfl fun a w1 b1 H Z => ?_
 refine s_end Z [0, 2, 4] rfl fun Z => ?_
 refine p_then (wp_seq ?_)
 refine wp_seq ?_
 obtain ⟨n0, hx1, hF⟩ := bnd_in hF
 refine f_region Z fun Z => ?_
 refine s_runk tMs2 Z 2 rfl rfl fun a Z => ?_
 refine hC Z H [] rfl #[] fn_58_YMs2 rfl rfl (fun D h => have q := c_mess_number hx1 h; q) fun vv a w2 D2 hr hF2 Z => ?_
 obtain ⟨rfl, I1, K⟩ := hr
 have H := (hF2 K).nf rfl
 refine s_runk tMs2 Z 1 rfl rfl fun a Z => ?_
 refine s_end Z [0, 2, 4, 6] rfl fun Z => ?_
 refine p_then (wp_seq (f_region Z ?_)); clear Z; intro Z
 refine s_runk tMs2 Z 1 rfl rfl fun a Z => ?_
 refine sO Z (vT (!n0.isNone)) rfl (Ob_ieq rfl rfl rfl (.inr ⟨rfl, rfl⟩) Tryz.underlying98) fun a Z => ?_
 refine s_end Z [0, 2, 4, 6, 11] rfl fun Z => ?_
 refine p_then ?_
 refine f_cond Z rfl (fun hc1 => ?_) (fun hc1 => ?_)
 ·replace hF := ite_t hc1 hF
  refine wp_seq ?_
  obtain ⟨n0_2, hx2, hF⟩ := bnd_in hF
  obtain ⟨hg1, hF⟩ := chk_in hF
  obtain ⟨k, hx3, hF⟩ := bnd_in hF
  obtain ⟨hg2, hF⟩ := chk_in hF
  obtain ⟨hg3, hF⟩ := chk_in hF
  refine f_region Z fun Z => ?_
  refine s_runk tMs2 Z 2 rfl rfl fun a Z => ?_
  refine hC Z H [] rfl #[] fn_58_YMs2 rfl rfl (fun D h => have q := c_mess_number hx2 h; q) fun vv a w3 D2 hr hF2 Z => ?_
  obtain ⟨rfl, I2, K⟩ := hr
  have H := (hF2 K).nf rfl
  refine sO Z (iptV b1 n0_2) rfl (Ob_inil rfl rfl hg1) fun a Z => ?_
  refine sO Z (vI k) rfl (Ob_iload tMs2 rfl rfl rfl hx3 (H.bx 0 rfl) ⟨rfl, rfl, rfl, rfl, rfl, rfl, trivial⟩) fun a Z => ?_
  refine sO Z (iptV b_to_ n0) rfl (Ob_inil rfl rfl hg2) fun a Z => ?_
  obtain ⟨⟨v6, v7, v8, v9, v10⟩, H⟩ := H.openX 1 rfl
  replace H := H.nf rfl; try dsimp only at H
  refine h_istore tMs2 Z H 0 (fun q_ => [vI to_.k, vI (cond (q_ == some 1) k to_.epoch), vI (cond (q_ == some 2) k to_.req), vI (cond (q_ == some 3) k to_.serial), vT to_.flag, vU to_.at_, vU to_.last, vI (cond (q_ == some 7) k to_.n), vI (cond (q_ == some 8) k to_.m), vI (cond (q_ == some 9) k to_.p), vI to_.e, vS to_.key, vS to_.to_, vI to_.conf.epoch, v6, vU to_.conf.floor, vI to_.batch.client, vI to_.batch.req, v7, v8, v9, v10]) [1, 2, 3, 7, 8, 9] rfl rfl rfl rfl rfl rfl rfl rfl rfl hg3 ⟨rfl, Nat.le_of_ble_eq_true rfl, rfl, Nat.le_of_ble_eq_true rfl, rfl, Nat.le_of_ble_eq_true rfl, rfl, Nat.le_of_ble_eq_true rfl, rfl, Nat.le_of_ble_eq_true rfl, rfl, Nat.le_of_ble_eq_true rfl, trivial⟩ fun w4 H => ?_
  dsimp only [List.eraseIdx] at H
  refine s_end Z [] rfl fun Z => ?_
  refine p_then (wp_ret ?_)
  refine p_then_r ?_
  replace H := H.sX (REMsg b_to_ ({ to_ with epoch := cond (n0 == some 1) k to_.epoch, req := cond (n0 == some 2) k to_.req, serial := cond (n0 == some 3) k to_.serial, n := cond (n0 == some 7) k to_.n, m := cond (n0 == some 8) k to_.m, p := cond (n0 == some 9) k to_.p } : EMsg)) (v6, v7, v8, v9, v10) [(0, false), (0, true), (1, true), (2, true), (3, true), (4, true)] rfl rfl rfl
  obtain rfl := some_in hF
  exact f_ret Z (run_results0 rfl) ⟨rfl, I2, (H.sub [(0, false)] rfl).eq rfl⟩
 ·replace hF := ite_f hc1 hF
  refine wp_skip ?_
  refine p_then (wp_seq (f_region Z ?_)); clear Z; intro Z
  refine s_runk tMs2 Z 1 rfl rfl fun a Z => ?_
  refine s_end Z [0, 4, 18] rfl fun Z => ?_
  refine p_then (wp_block ?_)
  refine wp_seq (f_region Z ?_); clear Z; intro Z
  refine s_runk tMs2 Z 2 rfl rfl fun a Z => ?_
  refine s_end Z [0, 4, 18, 19] rfl fun Z => ?_
  refine p_then ?_
  refine f_cond Z rfl (fun hc2 => ?_) (fun hc2 => ?_)
  ·replace hF := ite_t hc2 hF
   refine f_region Z fun Z => ?_
   refine s_runk tMs2 Z 2 rfl rfl fun a Z => ?_
   refine sO Z _ rfl (oL tMs2 rfl rfl (H.bc 0 10 rfl rfl)) fun a Z => ?_
   refine s_runk tMs2 Z 2 rfl rfl fun a Z => ?_
   obtain ⟨⟨v11, v12, v13, v14, v15⟩, H⟩ := H.openX 1 rfl
   replace H := H.nf rfl; try dsimp only at H
   refine hT tMs2 Z H 0 rfl rfl rfl rfl rfl (one_cons rfl one_nil) (Nat.le_of_ble_eq_true rfl) rfl fun w5 H => ?_
   dsimp only [List.eraseIdx] at H
   refine s_end Z [] rfl fun Z => ?_
   refine p_blk ?_
   replace H := H.sX (REMsg b_to_ ({ to_ with e := m.e } : EMsg)) (v11, v12, v13, v14, v15) [(0, false), (0, true), (1, true), (2, true), (3, true), (4, true)] rfl rfl rfl
   obtain rfl := some_in hF
   exact f_fall Z (run_results0 rfl) ⟨rfl, I1, (H.sub [(0, false)] rfl).eq rfl⟩
  ·replace hF := ite_f hc2 hF
   refine wp_seq (f_region Z ?_); clear Z; intro Z
   refine s_runk tMs2 Z 2 rfl rfl fun a Z => ?_
   refine s_end Z [0, 4, 18, 26] rfl fun Z => ?_
   refine p_then ?_
   refine f_cond Z rfl (fun hc3 => ?_) (fun hc3 => ?_)
   ·replace hF := ite_t hc3 hF
    refine f_region Z fun Z => ?_
    refine s_runk tMs2 Z 2 rfl rfl fun a Z => ?_
    refine sO Z _ rfl (oL tMs2 rfl rfl (H.bc 0 5 rfl rfl)) fun a Z => ?_
    refine s_runk tMs2 Z 2 rfl rfl fun a Z => ?_
    obtain ⟨⟨v16, v17, v18, v19, v20⟩, H⟩ := H.openX 1 rfl
    replace H := H.nf rfl; try dsimp only at H
    refine hT tMs2 Z H 0 rfl rfl rfl rfl rfl (one_cons rfl one_nil) (Nat.le_of_ble_eq_true rfl) rfl fun w6 H => ?_
    dsimp only [List.eraseIdx] at H
    refine s_end Z [] rfl fun Z => ?_
    refine p_blk ?_
    replace H := H.sX (REMsg b_to_ ({ to_ with at_ := m.at_ } : EMsg)) (v16, v17, v18, v19, v20) [(0, false), (0, true), (1, true), (2, true), (3, true), (4, true)] rfl rfl rfl
    obtain rfl := some_in hF
    exact f_fall Z (run_results0 rfl) ⟨rfl, I1, (H.sub [(0, false)] rfl).eq rfl⟩
   ·replace hF := ite_f hc3 hF
    refine wp_seq (f_region Z ?_); clear Z; intro Z
    refine s_runk tMs2 Z 2 rfl rfl fun a Z => ?_
    refine s_end Z [0, 4, 18, 33] rfl fun Z => ?_
    refine p_then ?_
    refine f_cond Z rfl (fun hc4 => ?_) (fun hc4 => ?_)
    ·replace hF := ite_t hc4 hF
     refine f_region Z fun Z => ?_
     refine s_runk tMs2 Z 2 rfl rfl fun a Z => ?_
     refine sO Z _ rfl (oL tMs2 rfl rfl (H.bc 0 6 rfl rfl)) fun a Z => ?_
     refine s_runk tMs2 Z 2 rfl rfl fun a Z => ?_
     obtain ⟨⟨v21, v22, v23, v24, v25⟩, H⟩ := H.openX 1 rfl
     replace H := H.nf rfl; try dsimp only at H
     refine hT tMs2 Z H 0 rfl rfl rfl rfl rfl (one_cons rfl one_nil) (Nat.le_of_ble_eq_true rfl) rfl fun w7 H => ?_
     dsimp only [List.eraseIdx] at H
     refine s_end Z [] rfl fun Z => ?_
     refine p_blk ?_
     replace H := H.sX (REMsg b_to_ ({ to_ with last := m.last } : EMsg)) (v21, v22, v23, v24, v25) [(0, false), (0, true), (1, true), (2, true), (3, true), (4, true)] rfl rfl rfl
     obtain rfl := some_in hF
     exact f_fall Z (run_results0 rfl) ⟨rfl, I1, (H.sub [(0, false)] rfl).eq rfl⟩
    ·replace hF := ite_f hc4 hF
     refine wp_seq (f_region Z ?_); clear Z; intro Z
     refine s_runk tMs2 Z 2 rfl rfl fun a Z => ?_
     refine s_end Z [0, 4, 18, 40] rfl fun Z => ?_
     refine p_then ?_
     refine f_cond Z rfl (fun hc5 => ?_) (fun hc5 => ?_)
     ·replace hF := ite_t hc5 hF
      refine f_region Z fun Z => ?_
      refine s_runk tMs2 Z 2 rfl rfl fun a Z => ?_
      refine sO Z _ rfl (oL tMs2 rfl rfl (H.bc 0 4 rfl rfl)) fun a Z => ?_
      refine s_runk tMs2 Z 2 rfl rfl fun a Z => ?_
      obtain ⟨⟨v26, v27, v28, v29, v30⟩, H⟩ := H.openX 1 rfl
      replace H := H.nf rfl; try dsimp only at H
      refine hT tMs2 Z H 0 rfl rfl rfl rfl rfl (one_cons rfl one_nil) (Nat.le_of_ble_eq_true rfl) rfl fun w8 H => ?_
      dsimp only [List.eraseIdx] at H
      refine s_end Z [] rfl fun Z => ?_
      refine p_blk ?_
      replace H := H.sX (REMsg b_to_ ({ to_ with flag := m.flag } : EMsg)) (v26, v27, v28, v29, v30) [(0, false), (0, true), (1, true), (2, true), (3, true), (4, true)] rfl rfl rfl
      obtain rfl := some_in hF
      exact f_fall Z (run_results0 rfl) ⟨rfl, I1, (H.sub [(0, false)] rfl).eq rfl⟩
     ·replace hF := ite_f hc5 hF
      refine wp_seq (f_region Z ?_); clear Z; intro Z
      refine s_runk tMs2 Z 2 rfl rfl fun a Z => ?_
      refine s_end Z [0, 4, 18, 47] rfl fun Z => ?_
      refine p_then ?_
      refine f_cond Z rfl (fun hc6 => ?_) (fun hc6 => ?_)
      ·replace hF := ite_t hc6 hF
       refine f_region Z fun Z => ?_
       refine s_runk tMs2 Z 2 rfl rfl fun a Z => ?_
       refine sO Z _ rfl (oL tMs2 rfl rfl (H.bc 0 11 rfl rfl)) fun a Z => ?_
       refine s_runk tMs2 Z 2 rfl rfl fun a Z => ?_
       obtain ⟨⟨v31, v32, v33, v34, v35⟩, H⟩ := H.openX 1 rfl
       replace H := H.nf rfl; try dsimp only at H
       refine hT tMs2 Z H 0 rfl rfl rfl rfl rfl (one_cons rfl one_nil) (Nat.le_of_ble_eq_true rfl) rfl fun w9 H => ?_
       dsimp only [List.eraseIdx] at H
       refine s_end Z [] rfl fun Z => ?_
       refine p_blk ?_
       replace H := H.sX (REMsg b_to_ ({ to_ with key := m.key } : EMsg)) (v31, v32, v33, v34, v35) [(0, false), (0, true), (1, true), (2, true), (3, true), (4, true)] rfl rfl rfl
       obtain rfl := some_in hF
       exact f_fall Z (run_results0 rfl) ⟨rfl, I1, (H.sub [(0, false)] rfl).eq rfl⟩
      ·replace hF := ite_f hc6 hF
       refine wp_seq (f_region Z ?_); clear Z; intro Z
       refine s_runk tMs2 Z 2 rfl rfl fun a Z => ?_
       refine s_end Z [0, 4, 18, 54] rfl fun Z => ?_
       refine p_then ?_
       refine f_cond Z rfl (fun hc7 => ?_) (fun hc7 => ?_)
       ·replace hF := ite_t hc7 hF
        refine f_region Z fun Z => ?_
        refine s_runk tMs2 Z 2 rfl rfl fun a Z => ?_
        refine sO Z _ rfl (oL tMs2 rfl rfl (H.bc 0 12 rfl rfl)) fun a Z => ?_
        refine s_runk tMs2 Z 2 rfl rfl fun a Z => ?_
        obtain ⟨⟨v36, v37, v38, v39, v40⟩, H⟩ := H.openX 1 rfl
        replace H := H.nf rfl; try dsimp only at H
        refine hT tMs2 Z H 0 rfl rfl rfl rfl rfl (one_cons rfl one_nil) (Nat.le_of_ble_eq_true rfl) rfl fun w10 H => ?_
        dsimp only [List.eraseIdx] at H
        refine s_end Z [] rfl fun Z => ?_
        refine p_blk ?_
        replace H := H.sX (REMsg b_to_ ({ to_ with to_ := m.to_ } : EMsg)) (v36, v37, v38, v39, v40) [(0, false), (0, true), (1, true), (2, true), (3, true), (4, true)] rfl rfl rfl
        obtain rfl := some_in hF
        exact f_fall Z (run_results0 rfl) ⟨rfl, I1, (H.sub [(0, false)] rfl).eq rfl⟩
       ·replace hF := ite_f hc7 hF
        refine wp_seq (f_region Z ?_); clear Z; intro Z
        refine s_runk tMs2 Z 2 rfl rfl fun a Z => ?_
        refine s_end Z [0, 4, 18, 61] rfl fun Z => ?_
        refine p_then ?_
        refine f_cond Z rfl (fun hc8 => ?_) (fun hc8 => ?_)
        ·replace hF := ite_t hc8 hF
         refine f_region Z fun Z => ?_
         refine s_runk tMs2 Z 2 rfl rfl fun a Z => ?_
         refine sO Z (.agg #[vI m.conf.epoch, v1_m, vU m.conf.floor]) rfl (oA tMs2 rfl rfl ((H.bx 0 rfl).part 13 rfl)) fun a Z => ?_
         refine s_runk tMs2 Z 2 rfl rfl fun a Z => ?_
         obtain ⟨⟨v41, v42, v43, v44, v45⟩, H⟩ := H.openX 1 rfl
         replace H := H.nf rfl; try dsimp only at H
         refine hT tMs2 Z H 0 rfl rfl rfl rfl rfl (one_cons rfl (one_cons (slS.one (H.slshape 7 rfl)) (one_cons rfl one_nil))) (Nat.le_of_ble_eq_true rfl) rfl fun w11 H => ?_
         dsimp only [List.eraseIdx] at H
         refine s_end Z [] rfl fun Z => ?_
         refine p_blk ?_
         replace H := H.sX (REMsg b_to_ ({ to_ with conf := m.conf } : EMsg)) (v1_m, v42, v43, v44, v45) [(0, false), (6, true), (1, true), (2, true), (3, true), (4, true)] rfl rfl rfl
         obtain rfl := some_in hF
         exact f_fall Z (run_results0 rfl) ⟨rfl, I1, (H.sub [(0, false)] rfl).eq rfl⟩
        ·replace hF := ite_f hc8 hF
         refine wp_seq (f_region Z ?_); clear Z; intro Z
         refine s_runk tMs2 Z 2 rfl rfl fun a Z => ?_
         refine s_end Z [0, 4, 18, 68] rfl fun Z => ?_
         refine p_then ?_
         refine f_cond Z rfl (fun hc9 => ?_) (fun hc9 => ?_)
         ·replace hF := ite_t hc9 hF
          refine f_region Z fun Z => ?_
          refine s_runk tMs2 Z 2 rfl rfl fun a Z => ?_
          refine sO Z (.agg #[vI m.batch.client, vI m.batch.req, v2_m]) rfl (oA tMs2 rfl rfl ((H.bx 0 rfl).part 16 rfl)) fun a Z => ?_
          refine s_runk tMs2 Z 2 rfl rfl fun a Z => ?_
          obtain ⟨⟨v46, v47, v48, v49, v50⟩, H⟩ := H.openX 1 rfl
          replace H := H.nf rfl; try dsimp only at H
          refine hT tMs2 Z H 0 rfl rfl rfl rfl rfl (onR 2 rfl (one_cons (slS.one (H.slshape 8 rfl)) one_nil)) (Nat.le_of_ble_eq_true rfl) rfl fun w12 H => ?_
          dsimp only [List.eraseIdx] at H
          refine s_end Z [] rfl fun Z => ?_
          refine p_blk ?_
          replace H := H.sX (REMsg b_to_ ({ to_ with batch := m.batch } : EMsg)) (v46, v2_m, v48, v49, v50) [(0, false), (0, true), (7, true), (2, true), (3, true), (4, true)] rfl rfl rfl
          obtain rfl := some_in hF
          exact f_fall Z (run_results0 rfl) ⟨rfl, I1, (H.sub [(0, false)] rfl).eq rfl⟩
         ·replace hF := ite_f hc9 hF
          refine wp_seq (f_region Z ?_); clear Z; intro Z
          refine s_runk tMs2 Z 2 rfl rfl fun a Z => ?_
          refine s_end Z [0, 4, 18, 75] rfl fun Z => ?_
          refine p_then ?_
          refine f_cond Z rfl (fun hc10 => ?_) (fun hc10 => ?_)
          ·replace hF := ite_t hc10 hF
           refine f_region Z fun Z => ?_
           refine s_runk tMs2 Z 2 rfl rfl fun a Z => ?_
           refine sO Z _ rfl (oL tMs2 rfl rfl (H.bc 0 19 rfl rfl)) fun a Z => ?_
           refine s_runk tMs2 Z 2 rfl rfl fun a Z => ?_
           obtain ⟨⟨v51, v52, v53, v54, v55⟩, H⟩ := H.openX 1 rfl
           replace H := H.nf rfl; try dsimp only at H
           refine hT tMs2 Z H 0 rfl rfl (slS.cells (H.slshape 9 rfl)) rfl rfl (one_cons (slS.one (H.slshape 9 rfl)) one_nil) (Nat.le_of_ble_eq_true rfl) rfl fun w13 H => ?_
           dsimp only [List.eraseIdx] at H
           refine s_end Z [] rfl fun Z => ?_
           refine p_blk ?_
           replace H := H.sX (REMsg b_to_ ({ to_ with entries := m.entries } : EMsg)) (v51, v52, v3_m, v54, v55) [(0, false), (0, true), (1, true), (8, true), (3, true), (4, true)] rfl rfl rfl
           obtain rfl := some_in hF
           exact f_fall Z (run_results0 rfl) ⟨rfl, I1, (H.sub [(0, false)] rfl).eq rfl⟩
          ·replace hF := ite_f hc10 hF
           refine wp_seq (f_region Z ?_); clear Z; intro Z
           refine s_runk tMs2 Z 2 rfl rfl fun a Z => ?_
           refine s_end Z [0, 4, 18, 82] rfl fun Z => ?_
           refine p_then ?_
           refine f_cond Z rfl (fun hc11 => ?_) (fun hc11 => ?_)
           ·replace hF := ite_t hc11 hF
            refine f_region Z fun Z => ?_
            refine s_runk tMs2 Z 2 rfl rfl fun a Z => ?_
            refine sO Z _ rfl (oL tMs2 rfl rfl (H.bc 0 20 rfl rfl)) fun a Z => ?_
            refine s_runk tMs2 Z 2 rfl rfl fun a Z => ?_
            obtain ⟨⟨v56, v57, v58, v59, v60⟩, H⟩ := H.openX 1 rfl
            replace H := H.nf rfl; try dsimp only at H
            refine hT tMs2 Z H 0 rfl rfl (slS.cells (H.slshape 10 rfl)) rfl rfl (one_cons (slS.one (H.slshape 10 rfl)) one_nil) (Nat.le_of_ble_eq_true rfl) rfl fun w14 H => ?_
            dsimp only [List.eraseIdx] at H
            refine s_end Z [] rfl fun Z => ?_
            refine p_blk ?_
            replace H := H.sX (REMsg b_to_ ({ to_ with stamps := m.stamps } : EMsg)) (v56, v57, v58, v4_m, v60) [(0, false), (0, true), (1, true), (2, true), (9, true), (4, true)] rfl rfl rfl
            obtain rfl := some_in hF
            exact f_fall Z (run_results0 rfl) ⟨rfl, I1, (H.sub [(0, false)] rfl).eq rfl⟩
           ·replace hF := ite_f hc11 hF
            refine wp_seq (f_region Z ?_); clear Z; intro Z
            refine s_runk tMs2 Z 2 rfl rfl fun a Z => ?_
            refine s_end Z [0, 4, 89] rfl fun Z => ?_
            refine p_then ?_
            refine f_cond Z rfl (fun hc12 => ?_) (fun hc12 => ?_)
            ·replace hF := ite_t hc12 hF
             refine f_region Z fun Z => ?_
             refine s_runk tMs2 Z 2 rfl rfl fun a Z => ?_
             refine sO Z _ rfl (oL tMs2 rfl rfl (H.bc 0 21 rfl rfl)) fun a Z => ?_
             refine s_runk tMs2 Z 2 rfl rfl fun a Z => ?_
             obtain ⟨⟨v61, v62, v63, v64, v65⟩, H⟩ := H.openX 1 rfl
             replace H := H.nf rfl; try dsimp only at H
             refine hT tMs2 Z H 0 rfl rfl (slS.cells (H.slshape 11 rfl)) rfl rfl (one_cons (slS.one (H.slshape 11 rfl)) one_nil) (Nat.le_of_ble_eq_true rfl) rfl fun w15 H => ?_
             dsimp only [List.eraseIdx] at H
             refine s_end Z [] rfl fun Z => ?_
             refine p_blk ?_
             replace H := H.sX (REMsg b_to_ ({ to_ with pairs := m.pairs } : EMsg)) (v61, v62, v63, v64, v5_m) [(0, false), (0, true), (1, true), (2, true), (3, true), (10, true)] rfl rfl rfl
             obtain rfl := some_in hF
             exact f_fall Z (run_results0 rfl) ⟨rfl, I1, (H.sub [(0, false)] rfl).eq rfl⟩
            ·replace hF := ite_f hc12 hF
             refine wp_skip ?_
             refine p_blk ?_
             obtain rfl := some_in hF
             exact f_fall Z (run_results0 rfl) ⟨rfl, I1, (H.sub [(1, false)] rfl).eq rfl⟩

def F_mess_Clean_l1 (m : EMsg) (p : ByteArray × Bool) (rc : (EMsg × Nat) → Option EMsg) (sg : EMsg × Nat) : Option EMsg := match sg with | (out, yb4) => if (decide (yb4 < p.1.size)) = true then (chk (yb4 < p.1.size) ((F_mess_lay out m (runeAt p.1 yb4)).bind fun l => (rc (l, nxP p.1 yb4)))) else (some out)

def F_mess_Clean (m : EMsg) : Option EMsg := (F_mess_parts m.k).bind fun p => (if (!p.2) = true then (some (default : EMsg)) else (iter (F_mess_Clean_l1 m p) FU (({ (default : EMsg) with k := m.k } : EMsg), 0)))

set_option maxHeartbeats 1000000 in
theorem c_mess_Clean {I D : Dm} {m : EMsg} {v1_m : Value} {v2_m : Value} {v3_m : Value} {v4_m : Value} {v5_m : Value} {w : World} {rr : EMsg} (hF : F_mess_Clean m = some rr) (H : St I D w [SlC NEMember v1_m m.conf.members, SlC NEOp v2_m m.batch.ops, SlC NEEntry v3_m m.entries, SlC Nu64 v4_m m.stamps, SlC NEPair v5_m m.pairs]) :
  Calls Tryz.prog 14 #[.agg (cEMsg m v1_m v2_m v3_m v4_m v5_m).toArray] w (Ret fun vv w' => ∃ q1 q2 q3 q4 q5 : Value, vv = .agg (cEMsg rr q1 q2 q3 q4 q5).toArray ∧ ∃ I', Hf I D w I' w' [SlC NEMember q1 rr.conf.members, SlC NEOp q2 rr.batch.ops, SlC NEEntry q3 rr.entries, SlC Nu64 q4 rr.stamps, SlC NEPair q5 rr.pairs]) := by
 replace H := H.hf
 unfold F_mess_Clean at hF
 refine f_enter 29 Tryz.func14 rfl rfl (Nat.le_of_ble_eq_true rfl) fun a Z => ?_
 replace Z := Z.sub (ts := [0]) rfl
 refine wp_seq (f_region Z ?_); clear Z; intro Z
 refine h_boxv Z H (cl := (cEMsg m v1_m v2_m v3_m v4_m v5_m)) rfl rfl rfl (by decide) rfl rfl rfl fun a w1 b1 H Z => ?_
 refine hA Z H [vI 0, vI 0, vI 0, vI 0, vT false, vU 0, vU 0, vI 0, vI 0, vI 0, vI 0, vS ByteArray.empty, vS ByteArray.empty, vI 0, nS, vU 0, vI 0, vI 0, nS, nS, nS, nS] rfl rfl (by kernel_rfl) fun a w2 b2 H Z => ?_
 refine s_end Z [1, 2] rfl fun Z => ?_
 refine p_then (wp_seq ?_)
 obtain ⟨p, hx1, hF⟩ := bnd_in hF
 refine f_region Z fun Z => ?_
 refine s_runk tMs2 Z 1 rfl rfl fun a Z => ?_
 refine sO Z _ rfl (oL tMs2 rfl rfl (H.bc 1 0 rfl rfl)) fun a Z => ?_
 refine hC Z H [] rfl #[] fn_20_YMs2 rfl rfl (fun D h => have q := c_mess_parts hx1 h; q) fun vv a w3 D2 hr hF2 Z => ?_
 obtain ⟨rfl, I1, K⟩ := hr
 have H := (hF2 K).nf rfl
 refine s_runk tMs2 Z 5 rfl rfl fun a Z => ?_
 refine s_end Z [1, 2, 3, 4] rfl fun Z => ?_
 refine p_then (wp_seq ?_)
 refine wp_seq (f_region Z ?_); clear Z; intro Z
 refine s_runk tMs2 Z 2 rfl rfl fun a Z => ?_
 refine s_end Z [1, 2, 3, 15] rfl fun Z => ?_
 refine p_then ?_
 refine f_cond Z rfl (fun hc1 => ?_) (fun hc1 => ?_)
 ·replace hF := ite_t hc1 hF
  refine wp_seq (f_region Z ?_); clear Z; intro Z
  refine sO Z (.agg #[vI 0, vI 0, vI 0, vI 0, vT false, vU 0, vU 0, vI 0, vI 0, vI 0, vI 0, vS ByteArray.empty, vS ByteArray.empty, vI 0, nS, vU 0, vI 0, vI 0, nS, nS, nS, nS]) rfl (Ob_build (vs := []) rfl rfl (by go_simp <;> rfl)) fun a Z => ?_
  refine hT tMs2 Z H 0 rfl rfl rfl rfl rfl (onR 14 rfl (one_cons (slS.one slS.nil) (onR 3 rfl (one_cons (slS.one slS.nil) (one_cons (slS.one slS.nil) (one_cons (slS.one slS.nil) (one_cons (slS.one slS.nil) one_nil))))))) (Nat.le_of_ble_eq_true rfl) (putCells_all rfl) fun w4 H => ?_
  dsimp only [List.eraseIdx] at H
  refine s_end Z [2] rfl fun Z => ?_
  refine p_then (wp_ret ?_)
  refine p_then_r ?_
  replace H := H.slNil NEMember
  replace H := H.slNil NEOp
  replace H := H.slNil NEEntry
  replace H := H.slNil Nu64
  replace H := H.slNil NEPair
  obtain rfl := some_in hF
  exact f_ret Z (run_resultsC rfl Z rfl (run_loadVar_agg tMs2 rfl (H.bx 5 rfl).at)) ⟨nS, nS, nS, nS, nS, rfl, I1, (H.sub [(4, true), (3, true), (2, true), (1, true), (0, true)] rfl).eq rfl⟩
 ·replace hF := ite_f hc1 hF
  refine wp_skip ?_
  refine p_then (wp_seq (f_region Z ?_)); clear Z; intro Z
  refine s_runk tMs2 Z 1 rfl rfl fun a Z => ?_
  refine sO Z _ rfl (oL tMs2 rfl rfl (H.bc 1 0 rfl rfl)) fun a Z => ?_
  refine sO Z (.agg #[vI m.k, vI 0, vI 0, vI 0, vT false, vU 0, vU 0, vI 0, vI 0, vI 0, vI 0, vS ByteArray.empty, vS ByteArray.empty, vI 0, nS, vU 0, vI 0, vI 0, nS, nS, nS, nS]) rfl (Ob_build (vs := [(0, vI m.k)]) rfl rfl (by go_simp <;> rfl)) fun a Z => ?_
  refine hA Z H [vI 0, vI 0, vI 0, vI 0, vT false, vU 0, vU 0, vI 0, vI 0, vI 0, vI 0, vS ByteArray.empty, vS ByteArray.empty, vI 0, nS, vU 0, vI 0, vI 0, nS, nS, nS, nS] rfl rfl (by kernel_rfl) fun a w5 b3 H Z => ?_
  refine hT tMs2 Z H 0 rfl rfl rfl rfl rfl (onR 14 rfl (one_cons (slS.one slS.nil) (onR 3 rfl (one_cons (slS.one slS.nil) (one_cons (slS.one slS.nil) (one_cons (slS.one slS.nil) (one_cons (slS.one slS.nil) one_nil))))))) (Nat.le_of_ble_eq_true rfl) (putCells_all rfl) fun w6 H => ?_
  dsimp only [List.eraseIdx] at H
  refine s_end Z [1, 2, 3, 5] rfl fun Z => ?_
  refine p_then (wp_seq ?_)
  refine wp_seq (f_region Z ?_); clear Z; intro Z
  refine s_runk tMs2 Z 1 rfl rfl fun a Z => ?_
  refine h_srange Z H rfl rfl Tryz.underlying9 rfl rfl (by decide) rfl fun a w7 b4 H Z => ?_
  refine s_end Z [1, 2, 5, 21] rfl fun Z => ?_
  refine p_then (wp_block ?_)
  replace H := H.slNil NEMember
  replace H := H.slNil NEOp
  replace H := H.slNil NEEntry
  replace H := H.slNil Nu64
  replace H := H.slNil NEPair
  replace H := H.sX (REMsg b3 ({ (default : EMsg) with k := m.k } : EMsg)) (nS, nS, nS, nS, nS) [(6, false), (4, true), (3, true), (2, true), (1, true), (0, true)] rfl rfl rfl
  refine f_iter hF (fun sg a' w' => match sg with | (out, yb4) => Sl 29 [(1, pp b1 0), (2, pp b2 0), (5, pp b3 0), (21, pp b4 0)] a' ∧ ∃ I2, Hf I D w I2 w' [BxC b1 35 (cEMsg m v1_m v2_m v3_m v4_m v5_m), BxC b2 35 [vI 0, vI 0, vI 0, vI 0, vT false, vU 0, vU 0, vI 0, vI 0, vI 0, vI 0, vS ByteArray.empty, vS ByteArray.empty, vI 0, nS, vU 0, vI 0, vI 0, nS, nS, nS, nS], REMsg b3 out, ObC b4 (.stringIter p.1 yb4), SlC NEMember v1_m m.conf.members, SlC NEOp v2_m m.batch.ops, SlC NEEntry v3_m m.entries, SlC Nu64 v4_m m.stamps, SlC NEPair v5_m m.pairs]) ⟨Z.sub (ts := [1, 2, 5, 21]) rfl, ⟨I1, (H.sub [(8, false), (7, false), (0, false), (5, false), (5, true), (6, true), (7, true), (8, true), (9, true)] rfl).eq rfl⟩⟩ ?_
  rintro rc ⟨out, yb4⟩ a w8 ⟨Z, I2, H⟩ hF
  unfold F_mess_Clean_l1 at hF
  try dsimp only at hF
  refine wp_seq (f_region Z ?_); clear Z; intro Z
  refine h_snext Z H 3 rfl rfl rfl rfl rfl (by decide) rfl fun a w9 H Z => ?_
  dsimp only [List.eraseIdx] at H
  refine sO Z (vT (decide (yb4 < p.1.size))) rfl (Ob_nx0 rfl rfl) fun a Z => ?_
  refine s_end Z [1, 2, 5, 21, 22, 23] rfl fun Z => ?_
  refine p_then (wp_seq ?_)
  refine f_cond Z rfl (fun hc2 => ?_) (fun hc2 => ?_)
  ·replace hF := ite_t hc2 hF
   refine wp_skip ?_
   refine p_then (wp_block ?_)
   refine wp_seq ?_
   obtain ⟨hg1, hF⟩ := chk_in hF
   refine f_region Z fun Z => ?_
   refine sO Z (.int .i32 (runeAt p.1 yb4)) rfl (Ob_nx2 rfl rfl hg1) fun a Z => ?_
   refine s_runk tMs2 Z 1 rfl rfl fun a Z => ?_
   refine s_end Z [1, 2, 5, 21, 7] rfl fun Z => ?_
   refine p_then ?_
   obtain ⟨l, hx2, hF⟩ := bnd_in hF
   refine f_region Z fun Z => ?_
   refine sO Z (.agg (cEMsg m v1_m v2_m v3_m v4_m v5_m).toArray) rfl (oA tMs2 rfl rfl ((H.bx 1 rfl).part 0 rfl)) fun a Z => ?_
   refine s_runk tMs2 Z 1 rfl rfl fun a Z => ?_
   refine hC Z H [(3, false), (3, true), (4, true), (5, true), (6, true), (7, true)] rfl #[] fn_44_YMs2 rfl rfl (fun D h => have q := c_mess_lay hx2 h; q) fun vv a w10 D2 hr hF2 Z => ?_
   obtain ⟨rfl, I3, K⟩ := hr
   have H := (hF2 K).nf rfl
   refine s_end Z [1, 2, 5, 21] rfl fun Z => ?_
   refine p_blk ?_
   refine p_then ?_
   exact ⟨(l, nxP p.1 yb4), ⟨Z.sub (ts := [1, 2, 5, 21]) rfl, ⟨I3, (H.sub [(2, false), (2, false), (0, false), (0, false), (0, true), (1, true), (2, true), (3, true), (4, true)] rfl).eq rfl⟩⟩, hF⟩
  ·replace hF := ite_f hc2 hF
   refine wp_exit ?_
   refine p_then_x ?_
   refine p_then_x ?_
   refine f_exit_here ?_
   refine p_then (wp_seq (f_region Z ?_)); clear Z; intro Z
   obtain ⟨⟨v6, v7, v8, v9, v10⟩, H⟩ := H.openX 3 rfl
   replace H := H.nf rfl; try dsimp only at H
   refine sO Z (.agg (cEMsg out v6 v7 v8 v9 v10).toArray) rfl (oA tMs2 rfl rfl ((H.bx 0 rfl).part 0 rfl)) fun a Z => ?_
   refine hT tMs2 Z H 8 rfl rfl rfl rfl rfl (onR 14 rfl (one_cons (slS.one (H.slshape 1 rfl)) (onR 3 rfl (one_cons (slS.one (H.slshape 2 rfl)) (one_cons (slS.one (H.slshape 3 rfl)) (one_cons (slS.one (H.slshape 4 rfl)) (one_cons (slS.one (H.slshape 5 rfl)) one_nil))))))) (Nat.le_of_ble_eq_true rfl) (putCells_all rfl) fun w11 H => ?_
   dsimp only [List.eraseIdx] at H
   refine s_end Z [2] rfl fun Z => ?_
   refine p_then (wp_ret ?_)
   obtain rfl := some_in hF
   exact f_ret Z (run_resultsC rfl Z rfl (run_loadVar_agg tMs2 rfl (H.bx 0 rfl).at)) ⟨v6, v7, v8, v9, v10, rfl, I2, (H.sub [(2, true), (3, true), (4, true), (5, true), (6, true)] rfl).eq rfl⟩

def F_mess_small_k2 (a0 : EMsg) (b : EMsg) : Option Bool := some (((a0.e == b.e) && (seqB a0.key b.key)) && (seqB a0.to_ b.to_))

def F_mess_small_k4 (a0 : EMsg) (b : EMsg) (x_2 : Bool) : Option Bool := if (x_2) = true then (F_mess_small_k2 a0 b) else (if (!seqB a0.to_ b.to_) = true then (F_mess_small_k2 a0 b) else (some true))

def F_mess_small_k3 (a0 : EMsg) (b : EMsg) (x : Bool) : Option Bool := if (x) = true then (some false) else (if (a0.e != b.e) = true then (F_mess_small_k4 a0 b (a0.e != b.e)) else (F_mess_small_k4 a0 b (!seqB a0.key b.key)))

def F_mess_small_l1 (a0 : EMsg) (b : EMsg) (rc : Nat → Option Bool) (sg : Nat) : Option Bool := match sg with | yb3 => if (decide (yb3 < (⟨#[101, 115, 114, 110, 109, 112]⟩ : ByteArray).size)) = true then (chk (yb3 < (⟨#[101, 115, 114, 110, 109, 112]⟩ : ByteArray).size) ((F_mess_number (runeAt (⟨#[101, 115, 114, 110, 109, 112]⟩ : ByteArray) yb3)).bind fun n0 => (chk (n0.isSome = true) ((selI [(1, a0.epoch), (2, a0.req), (3, a0.serial), (7, a0.n), (8, a0.m), (9, a0.p)] n0).bind fun k => ((F_mess_number (runeAt (⟨#[101, 115, 114, 110, 109, 112]⟩ : ByteArray) yb3)).bind fun n0_2 => (chk (n0_2.isSome = true) ((selI [(1, b.epoch), (2, b.req), (3, b.serial), (7, b.n), (8, b.m), (9, b.p)] n0_2).bind fun k_2 => (if (k != k_2) = true then (some false) else (rc (nxP (⟨#[101, 115, 114, 110, 109, 112]⟩ : ByteArray) yb3)))))))))) else (if (a0.k != b.k) = true then (F_mess_small_k3 a0 b (a0.k != b.k)) else (if (!(a0.flag == b.flag)) = true then (F_mess_small_k3 a0 b (!(a0.flag == b.flag))) else (if (a0.at_ != b.at_) = true then (F_mess_small_k3 a0 b (a0.at_ != b.at_)) else (F_mess_small_k3 a0 b (a0.last != b.last)))))

def F_mess_small (a0 : EMsg) (b : EMsg) : Option Bool := iter (F_mess_small_l1 a0 b) FU 0

set_option maxHeartbeats 1000000 in
theorem c_mess_small {I D : Dm} {a0 : EMsg} {v1_a0 : Value} {v2_a0 : Value} {v3_a0 : Value} {v4_a0 : Value} {v5_a0 : Value} {b : EMsg} {v6_b : Value} {v7_b : Value} {v8_b : Value} {v9_b : Value} {v10_b : Value} {w : World} {rr : Bool} (hF : F_mess_small a0 b = some rr) (H : St I D w [SlC NEMember v1_a0 a0.conf.members, SlC NEOp v2_a0 a0.batch.ops, SlC NEEntry v3_a0 a0.entries, SlC Nu64 v4_a0 a0.stamps, SlC NEPair v5_a0 a0.pairs, SlC NEMember v6_b b.conf.members, SlC NEOp v7_b b.batch.ops, SlC NEEntry v8_b b.entries, SlC Nu64 v9_b b.stamps, SlC NEPair v10_b b.pairs]) :
  Calls Tryz.prog 46 #[.agg (cEMsg a0 v1_a0 v2_a0 v3_a0 v4_a0 v5_a0).toArray, .agg (cEMsg b v6_b v7_b v8_b v9_b v10_b).toArray] w (Ret fun vv w' => vv = vT rr ∧ ∃ I', Hf I D w I' w' []) := by
 replace H := H.hf
 unfold F_mess_small at hF
 refine f_enter 77 Tryz.func46 rfl rfl (Nat.le_of_ble_eq_true rfl) fun a Z => ?_
 replace Z := Z.sub (ts := [0, 1]) rfl
 refine wp_seq (f_region Z ?_); clear Z; intro Z
 refine h_boxv Z H (cl := (cEMsg a0 v1_a0 v2_a0 v3_a0 v4_a0 v5_a0)) rfl rfl rfl (by decide) rfl rfl rfl fun a w1 b1 H Z => ?_
 refine h_boxv Z H (cl := (cEMsg b v6_b v7_b v8_b v9_b v10_b)) rfl rfl rfl (by decide) rfl rfl rfl fun a w2 b2 H Z => ?_
 refine s_runk tMs2 Z 1 rfl rfl fun a Z => ?_
 refine s_end Z [2, 3] rfl fun Z => ?_
 refine p_then (wp_seq ?_)
 refine wp_seq (f_region Z ?_); clear Z; intro Z
 refine h_srange Z H rfl rfl Tryz.underlying9 rfl rfl (by decide) rfl fun a w3 b3 H Z => ?_
 refine s_end Z [2, 3, 7] rfl fun Z => ?_
 refine p_then (wp_block ?_)
 refine f_iter hF (fun sg a' w' => match sg with | yb3 => Sl 77 [(2, pp b1 0), (3, pp b2 0), (7, pp b3 0)] a' ∧ ∃ I2, Hf I D w I2 w' [BxC b1 35 (cEMsg a0 v1_a0 v2_a0 v3_a0 v4_a0 v5_a0), BxC b2 35 (cEMsg b v6_b v7_b v8_b v9_b v10_b), ObC b3 (.stringIter (⟨#[101, 115, 114, 110, 109, 112]⟩ : ByteArray) yb3), SlC NEMember v1_a0 a0.conf.members, SlC NEOp v2_a0 a0.batch.ops, SlC NEEntry v3_a0 a0.entries, SlC Nu64 v4_a0 a0.stamps, SlC NEPair v5_a0 a0.pairs, SlC NEMember v6_b b.conf.members, SlC NEOp v7_b b.batch.ops, SlC NEEntry v8_b b.entries, SlC Nu64 v9_b b.stamps, SlC NEPair v10_b b.pairs]) ⟨Z.sub (ts := [2, 3, 7]) rfl, ⟨I, (H.sub [(2, false), (1, false), (0, false), (0, true), (1, true), (2, true), (3, true), (4, true), (5, true), (6, true), (7, true), (8, true), (9, true)] rfl).eq rfl⟩⟩ ?_
 rintro rc yb3 a w4 ⟨Z, I1, H⟩ hF
 unfold F_mess_small_l1 at hF
 try dsimp only at hF
 refine wp_seq (f_region Z ?_); clear Z; intro Z
 refine h_snext Z H 2 rfl rfl rfl rfl rfl (by decide) rfl fun a w5 H Z => ?_
 dsimp only [List.eraseIdx] at H
 refine sO Z (vT (decide (yb3 < (⟨#[101, 115, 114, 110, 109, 112]⟩ : ByteArray).size))) rfl (Ob_nx0 rfl rfl) fun a Z => ?_
 refine s_end Z [2, 3, 7, 8, 9] rfl fun Z => ?_
 refine p_then (wp_seq ?_)
 refine f_cond Z rfl (fun hc1 => ?_) (fun hc1 => ?_)
 ·replace hF := ite_t hc1 hF
  refine wp_skip ?_
  refine p_then (wp_block ?_)
  refine wp_seq ?_
  obtain ⟨hg1, hF⟩ := chk_in hF
  refine f_region Z fun Z => ?_
  refine sO Z (.int .i32 (runeAt (⟨#[101, 115, 114, 110, 109, 112]⟩ : ByteArray) yb3)) rfl (Ob_nx2 rfl rfl hg1) fun a Z => ?_
  refine s_runk tMs2 Z 1 rfl rfl fun a Z => ?_
  refine s_end Z [2, 3, 7, 6] rfl fun Z => ?_
  refine p_then (wp_seq ?_)
  obtain ⟨n0, hx1, hF⟩ := bnd_in hF
  obtain ⟨hg2, hF⟩ := chk_in hF
  obtain ⟨k, hx2, hF⟩ := bnd_in hF
  obtain ⟨n0_2, hx3, hF⟩ := bnd_in hF
  obtain ⟨hg3, hF⟩ := chk_in hF
  obtain ⟨k_2, hx4, hF⟩ := bnd_in hF
  refine f_quietd (by kernel_rfl) (by kernel_rfl) Z fun Z => ?_
  refine q_runk tMs2 Z 1 rfl rfl fun a Z => ?_
  refine q_call Z (caps := #[]) fn_58_YMs2 rfl rfl rfl rfl rfl (by decide) rfl rfl (fun _ hw => (have hq := c_mess_number hx1 (((H.blw hw)).pick0 (js := []) rfl rfl); plainC hq)) fun a Z => ?_
  refine qO Z (iptV b1 n0) rfl (fun _ hw => Ob_inil rfl rfl hg2) fun a Z => ?_
  refine qO Z (vI k) rfl (fun _ hw => Ob_iload tMs2 rfl rfl rfl hx2 ((H.blw hw).bx 1 rfl) ⟨rfl, rfl, rfl, rfl, rfl, rfl, trivial⟩) fun a Z => ?_
  refine q_runk tMs2 Z 1 rfl rfl fun a Z => ?_
  refine q_call Z (caps := #[]) fn_58_YMs2 rfl rfl rfl rfl rfl (by decide) rfl rfl (fun _ hw => (have hq := c_mess_number hx3 (((H.blw hw)).pick0 (js := []) rfl rfl); plainC hq)) fun a Z => ?_
  refine qO Z (iptV b2 n0_2) rfl (fun _ hw => Ob_inil rfl rfl hg3) fun a Z => ?_
  refine qO Z (vI k_2) rfl (fun _ hw => Ob_iload tMs2 rfl rfl rfl hx4 ((H.blw hw).bx 2 rfl) ⟨rfl, rfl, rfl, rfl, rfl, rfl, trivial⟩) fun a Z => ?_
  refine q_runk tMs2 Z 1 rfl rfl fun a Z => ?_
  refine q_end Z [2, 3, 7, 19] rfl fun w6 hb Z => ?_
  replace H := H.blw hb
  clear hb
  refine p_then ?_
  refine f_cond Z rfl (fun hc2 => ?_) (fun hc2 => ?_)
  ·replace hF := ite_t hc2 hF
   refine wp_seq (f_region Z ?_); clear Z; intro Z
   refine s_runk tMs2 Z 1 rfl rfl fun a Z => ?_
   refine s_end Z [4] rfl fun Z => ?_
   refine p_then (wp_ret ?_)
   refine p_blk_r ?_
   refine p_then_r ?_
   refine p_blk_r ?_
   refine p_then_r ?_
   obtain rfl := some_in hF
   exact f_ret Z (run_results1 rfl Z rfl) ⟨rfl, I1, (H.sub [] rfl).eq rfl⟩
  ·replace hF := ite_f hc2 hF
   refine wp_skip ?_
   refine p_blk ?_
   refine p_then ?_
   exact ⟨(nxP (⟨#[101, 115, 114, 110, 109, 112]⟩ : ByteArray) yb3), ⟨Z.sub (ts := [2, 3, 7]) rfl, ⟨I1, (H.sub [(1, false), (1, false), (0, false), (0, true), (1, true), (2, true), (3, true), (4, true), (5, true), (6, true), (7, true), (8, true), (9, true)] rfl).eq rfl⟩⟩, hF⟩
 ·replace hF := ite_f hc1 hF
  refine wp_exit ?_
  refine p_then_x ?_
  refine p_then_x ?_
  refine f_exit_here ?_
  refine p_then (wp_seq ?_)
  refine wp_block ?_
  refine f_cut (fun a' w' => Sl 77 [(2, pp b1 0), (3, pp b2 0)] a' ∧ (∃ I2, Hf I D w I2 w' [BxC b1 35 (cEMsg a0 v1_a0 v2_a0 v3_a0 v4_a0 v5_a0), BxC b2 35 (cEMsg b v6_b v7_b v8_b v9_b v10_b), SlC NEMember v1_a0 a0.conf.members, SlC NEOp v2_a0 a0.batch.ops, SlC NEEntry v3_a0 a0.entries, SlC Nu64 v4_a0 a0.stamps, SlC NEPair v5_a0 a0.pairs, SlC NEMember v6_b b.conf.members, SlC NEOp v7_b b.batch.ops, SlC NEEntry v8_b b.entries, SlC Nu64 v9_b b.stamps, SlC NEPair v10_b b.pairs]) ∧ F_mess_small_k2 a0 b = some rr) ?_ ?_
  ·rintro a w7 ⟨Z, ⟨I2, H⟩, hF⟩
   unfold F_mess_small_k2 at hF
   try dsimp only at hF
   refine wp_seq ?_
   refine wp_seq (f_region Z ?_); clear Z; intro Z
   refine s_runk tMs2 Z 1 rfl rfl fun a Z => ?_
   refine sO Z _ rfl (oL tMs2 rfl rfl (H.bc 0 10 rfl rfl)) fun a Z => ?_
   refine s_runk tMs2 Z 1 rfl rfl fun a Z => ?_
   refine sO Z _ rfl (oL tMs2 rfl rfl (H.bc 1 10 rfl rfl)) fun a Z => ?_
   refine s_runk tMs2 Z 2 rfl rfl fun a Z => ?_
   refine gO Z (pp b1 11) rfl (wantB_t _) (.n 2 rfl .z) (fun hp => Ob_c tMs2 rfl) fun a Z => ?_
   refine gO Z _ rfl (wantB_t _) (.c 64 rfl id .z) (fun hp => oL tMs2 rfl rfl (H.bc 0 11 rfl rfl)) fun a Z => ?_
   refine gO Z (pp b2 11) rfl (wantB_t _) (.n 3 rfl .z) (fun hp => Ob_c tMs2 rfl) fun a Z => ?_
   refine gO Z _ rfl (wantB_t _) (.c 66 rfl id .z) (fun hp => oL tMs2 rfl rfl (H.bc 1 11 rfl rfl)) fun a Z => ?_
   refine gO Z (vT (seqB a0.key b.key)) rfl (wantB_t _) (.c 65 rfl id (.c 67 rfl id .z)) (fun hp => Ob_c tMs2 rfl) fun a Z => ?_
   refine sO Z (vT ((a0.e == b.e) && (seqB a0.key b.key))) rfl (Ob_pick rfl rfl rfl rfl (pick_and _ _)) fun a Z => ?_
   refine s_runk tMs2 Z 1 rfl rfl fun a Z => ?_
   refine gO Z (pp b1 12) rfl (wantB_t _) (.n 2 rfl .z) (fun hp => Ob_c tMs2 rfl) fun a Z => ?_
   refine gO Z _ rfl (wantB_t _) (.c 71 rfl id .z) (fun hp => oL tMs2 rfl rfl (H.bc 0 12 rfl rfl)) fun a Z => ?_
   refine gO Z (pp b2 12) rfl (wantB_t _) (.n 3 rfl .z) (fun hp => Ob_c tMs2 rfl) fun a Z => ?_
   refine gO Z _ rfl (wantB_t _) (.c 73 rfl id .z) (fun hp => oL tMs2 rfl rfl (H.bc 1 12 rfl rfl)) fun a Z => ?_
   refine gO Z (vT (seqB a0.to_ b.to_)) rfl (wantB_t _) (.c 72 rfl id (.c 74 rfl id .z)) (fun hp => Ob_c tMs2 rfl) fun a Z => ?_
   refine sO Z (vT (((a0.e == b.e) && (seqB a0.key b.key)) && (seqB a0.to_ b.to_))) rfl (Ob_pick rfl rfl rfl rfl (pick_and _ _)) fun a Z => ?_
   refine s_runk tMs2 Z 1 rfl rfl fun a Z => ?_
   refine s_end Z [4] rfl fun Z => ?_
   refine p_then (wp_ret ?_)
   refine p_then_r ?_
   refine p_blk_r ?_
   refine p_then_r ?_
   obtain rfl := some_in hF
   exact f_ret Z (run_results1 rfl Z rfl) ⟨rfl, I2, (H.sub [] rfl).eq rfl⟩
  ·skip
   refine wp_block ?_
   refine wp_block ?_
   refine wp_seq ?_
   refine wp_block ?_
   refine wp_seq ?_
   refine wp_seq ?_
   refine f_cut (fun a' w' => ∃ (x : Bool), Sl 77 [(2, pp b1 0), (3, pp b2 0), (20, vT x)] a' ∧ (∃ I2, Hf I D w I2 w' [BxC b1 35 (cEMsg a0 v1_a0 v2_a0 v3_a0 v4_a0 v5_a0), BxC b2 35 (cEMsg b v6_b v7_b v8_b v9_b v10_b), SlC NEMember v1_a0 a0.conf.members, SlC NEOp v2_a0 a0.batch.ops, SlC NEEntry v3_a0 a0.entries, SlC Nu64 v4_a0 a0.stamps, SlC NEPair v5_a0 a0.pairs, SlC NEMember v6_b b.conf.members, SlC NEOp v7_b b.batch.ops, SlC NEEntry v8_b b.entries, SlC Nu64 v9_b b.stamps, SlC NEPair v10_b b.pairs]) ∧ F_mess_small_k3 a0 b x = some rr) ?_ ?_
   ·rintro a w8 ⟨x, Z, ⟨I3, H⟩, hF⟩
    unfold F_mess_small_k3 at hF
    try dsimp only at hF
    refine f_cond Z rfl (fun hc3 => ?_) (fun hc3 => ?_)
    ·replace hF := ite_t hc3 hF
     refine wp_exit ?_
     refine p_then_x ?_
     refine p_then_x ?_
     refine f_exit_here ?_
     refine p_then (wp_seq ?_)
     refine wp_seq (f_region Z ?_); clear Z; intro Z
     refine s_runk tMs2 Z 1 rfl rfl fun a Z => ?_
     refine s_end Z [4] rfl fun Z => ?_
     refine p_then (wp_ret ?_)
     refine p_then_r ?_
     refine p_blk_r ?_
     refine p_blk_r ?_
     refine p_then_r ?_
     refine p_blk_r ?_
     refine p_then_r ?_
     obtain rfl := some_in hF
     exact f_ret Z (run_results1 rfl Z rfl) ⟨rfl, I3, (H.sub [] rfl).eq rfl⟩
    ·replace hF := ite_f hc3 hF
     refine wp_skip ?_
     refine p_then (wp_seq ?_)
     refine f_cut (fun a' w' => ∃ (x_2 : Bool), Sl 77 [(2, pp b1 0), (3, pp b2 0), (41, vT x_2)] a' ∧ (∃ I2, Hf I D w I2 w' [BxC b1 35 (cEMsg a0 v1_a0 v2_a0 v3_a0 v4_a0 v5_a0), BxC b2 35 (cEMsg b v6_b v7_b v8_b v9_b v10_b), SlC NEMember v1_a0 a0.conf.members, SlC NEOp v2_a0 a0.batch.ops, SlC NEEntry v3_a0 a0.entries, SlC Nu64 v4_a0 a0.stamps, SlC NEPair v5_a0 a0.pairs, SlC NEMember v6_b b.conf.members, SlC NEOp v7_b b.batch.ops, SlC NEEntry v8_b b.entries, SlC Nu64 v9_b b.stamps, SlC NEPair v10_b b.pairs]) ∧ F_mess_small_k4 a0 b x_2 = some rr) ?_ ?_
     ·rintro a w9 ⟨x_2, Z, ⟨I4, H⟩, hF⟩
      unfold F_mess_small_k4 at hF
      try dsimp only at hF
      refine f_cond Z rfl (fun hc4 => ?_) (fun hc4 => ?_)
      ·replace hF := ite_t hc4 hF
       refine wp_exit ?_
       refine p_then_x ?_
       refine p_then_x ?_
       refine f_exit_out (by decide) ?_
       refine p_then_x ?_
       refine f_exit_here ?_
       refine p_blk ?_
       refine p_then ?_
       exact ⟨Z.sub (ts := [2, 3]) rfl, ⟨I4, (H.sub [(0, false), (0, false), (0, true), (1, true), (2, true), (3, true), (4, true), (5, true), (6, true), (7, true), (8, true), (9, true)] rfl).eq rfl⟩, hF⟩
      ·replace hF := ite_f hc4 hF
       refine wp_skip ?_
       refine p_then (wp_seq (f_region Z ?_)); clear Z; intro Z
       refine s_runk tMs2 Z 1 rfl rfl fun a Z => ?_
       refine sO Z _ rfl (oL tMs2 rfl rfl (H.bc 0 12 rfl rfl)) fun a Z => ?_
       refine s_runk tMs2 Z 1 rfl rfl fun a Z => ?_
       refine sO Z _ rfl (oL tMs2 rfl rfl (H.bc 1 12 rfl rfl)) fun a Z => ?_
       refine s_runk tMs2 Z 2 rfl rfl fun a Z => ?_
       refine s_end Z [2, 3, 52] rfl fun Z => ?_
       refine p_then ?_
       refine f_cond Z rfl (fun hc5 => ?_) (fun hc5 => ?_)
       ·replace hF := ite_t hc5 hF
        refine wp_exit ?_
        refine p_then_x ?_
        refine f_exit_out (by decide) ?_
        refine p_then_x ?_
        refine f_exit_out (by decide) ?_
        refine f_exit_here ?_
        refine p_then ?_
        exact ⟨Z.sub (ts := [2, 3]) rfl, ⟨I4, (H.sub [(0, false), (0, false), (0, true), (1, true), (2, true), (3, true), (4, true), (5, true), (6, true), (7, true), (8, true), (9, true)] rfl).eq rfl⟩, hF⟩
       ·replace hF := ite_f hc5 hF
        refine wp_skip ?_
        refine p_then ?_
        refine wp_exit ?_
        refine f_exit_out (by decide) ?_
        refine p_then_x ?_
        refine f_exit_out (by decide) ?_
        refine f_exit_out (by decide) ?_
        refine p_then_x ?_
        refine f_exit_here ?_
        refine p_then (wp_seq (f_region Z ?_)); clear Z; intro Z
        refine s_runk tMs2 Z 1 rfl rfl fun a Z => ?_
        refine s_end Z [4] rfl fun Z => ?_
        refine p_then (wp_ret ?_)
        obtain rfl := some_in hF
        exact f_ret Z (run_results1 rfl Z rfl) ⟨rfl, I4, (H.sub [] rfl).eq rfl⟩
     ·skip
      refine wp_seq (f_region Z ?_); clear Z; intro Z
      refine s_runk tMs2 Z 1 rfl rfl fun a Z => ?_
      refine sO Z _ rfl (oL tMs2 rfl rfl (H.bc 0 10 rfl rfl)) fun a Z => ?_
      refine s_runk tMs2 Z 1 rfl rfl fun a Z => ?_
      refine sO Z _ rfl (oL tMs2 rfl rfl (H.bc 1 10 rfl rfl)) fun a Z => ?_
      refine s_runk tMs2 Z 2 rfl rfl fun a Z => ?_
      refine s_end Z [2, 3, 41] rfl fun Z => ?_
      refine p_then ?_
      refine f_cond Z rfl (fun hc6 => ?_) (fun hc6 => ?_)
      ·replace hF := ite_t hc6 hF
       refine wp_skip ?_
       refine p_then ?_
       exact ⟨a0.e != b.e, Z.sub (ts := [2, 3, 41]) rfl, ⟨I3, (H.sub [(0, false), (0, false), (0, true), (1, true), (2, true), (3, true), (4, true), (5, true), (6, true), (7, true), (8, true), (9, true)] rfl).eq rfl⟩, hF⟩
      ·replace hF := ite_f hc6 hF
       refine f_region Z fun Z => ?_
       refine s_runk tMs2 Z 1 rfl rfl fun a Z => ?_
       refine sO Z _ rfl (oL tMs2 rfl rfl (H.bc 0 11 rfl rfl)) fun a Z => ?_
       refine s_runk tMs2 Z 1 rfl rfl fun a Z => ?_
       refine sO Z _ rfl (oL tMs2 rfl rfl (H.bc 1 11 rfl rfl)) fun a Z => ?_
       refine s_runk tMs2 Z 2 rfl rfl fun a Z => ?_
       refine s_end Z [2, 3, 41] rfl fun Z => ?_
       refine p_then ?_
       exact ⟨!seqB a0.key b.key, Z.sub (ts := [2, 3, 41]) rfl, ⟨I3, (H.sub [(0, false), (0, false), (0, true), (1, true), (2, true), (3, true), (4, true), (5, true), (6, true), (7, true), (8, true), (9, true)] rfl).eq rfl⟩, hF⟩
   ·skip
    refine wp_seq (f_region Z ?_); clear Z; intro Z
    refine s_runk tMs2 Z 1 rfl rfl fun a Z => ?_
    refine sO Z _ rfl (oL tMs2 rfl rfl (H.bc 1 0 rfl rfl)) fun a Z => ?_
    refine s_runk tMs2 Z 1 rfl rfl fun a Z => ?_
    refine sO Z _ rfl (oL tMs2 rfl rfl (H.bc 2 0 rfl rfl)) fun a Z => ?_
    refine s_runk tMs2 Z 2 rfl rfl fun a Z => ?_
    refine s_end Z [2, 3, 20] rfl fun Z => ?_
    refine p_then ?_
    refine f_cond Z rfl (fun hc7 => ?_) (fun hc7 => ?_)
    ·replace hF := ite_t hc7 hF
     refine wp_skip ?_
     refine p_then ?_
     exact ⟨a0.k != b.k, Z.sub (ts := [2, 3, 20]) rfl, ⟨I1, (H.sub [(1, false), (1, false), (1, true), (2, true), (3, true), (4, true), (5, true), (6, true), (7, true), (8, true), (9, true), (10, true)] rfl).eq rfl⟩, hF⟩
    ·replace hF := ite_f hc7 hF
     refine wp_seq (f_region Z ?_); clear Z; intro Z
     refine s_runk tMs2 Z 1 rfl rfl fun a Z => ?_
     refine sO Z _ rfl (oL tMs2 rfl rfl (H.bc 1 4 rfl rfl)) fun a Z => ?_
     refine s_runk tMs2 Z 1 rfl rfl fun a Z => ?_
     refine sO Z _ rfl (oL tMs2 rfl rfl (H.bc 2 4 rfl rfl)) fun a Z => ?_
     refine s_runk tMs2 Z 2 rfl rfl fun a Z => ?_
     refine s_end Z [2, 3, 20] rfl fun Z => ?_
     refine p_then ?_
     refine f_cond Z rfl (fun hc8 => ?_) (fun hc8 => ?_)
     ·replace hF := ite_t hc8 hF
      refine wp_skip ?_
      refine p_then ?_
      exact ⟨!(a0.flag == b.flag), Z.sub (ts := [2, 3, 20]) rfl, ⟨I1, (H.sub [(1, false), (1, false), (1, true), (2, true), (3, true), (4, true), (5, true), (6, true), (7, true), (8, true), (9, true), (10, true)] rfl).eq rfl⟩, hF⟩
     ·replace hF := ite_f hc8 hF
      refine wp_seq (f_region Z ?_); clear Z; intro Z
      refine s_runk tMs2 Z 1 rfl rfl fun a Z => ?_
      refine sO Z _ rfl (oL tMs2 rfl rfl (H.bc 1 5 rfl rfl)) fun a Z => ?_
      refine s_runk tMs2 Z 1 rfl rfl fun a Z => ?_
      refine sO Z _ rfl (oL tMs2 rfl rfl (H.bc 2 5 rfl rfl)) fun a Z => ?_
      refine s_runk tMs2 Z 2 rfl rfl fun a Z => ?_
      refine s_end Z [2, 3, 20] rfl fun Z => ?_
      refine p_then ?_
      refine f_cond Z rfl (fun hc9 => ?_) (fun hc9 => ?_)
      ·replace hF := ite_t hc9 hF
       refine wp_skip ?_
       refine p_then ?_
       exact ⟨a0.at_ != b.at_, Z.sub (ts := [2, 3, 20]) rfl, ⟨I1, (H.sub [(1, false), (1, false), (1, true), (2, true), (3, true), (4, true), (5, true), (6, true), (7, true), (8, true), (9, true), (10, true)] rfl).eq rfl⟩, hF⟩
      ·replace hF := ite_f hc9 hF
       refine f_region Z fun Z => ?_
       refine s_runk tMs2 Z 1 rfl rfl fun a Z => ?_
       refine sO Z _ rfl (oL tMs2 rfl rfl (H.bc 1 6 rfl rfl)) fun a Z => ?_
       refine s_runk tMs2 Z 1 rfl rfl fun a Z => ?_
       refine sO Z _ rfl (oL tMs2 rfl rfl (H.bc 2 6 rfl rfl)) fun a Z => ?_
       refine s_runk tMs2 Z 2 rfl rfl fun a Z => ?_
       refine s_end Z [2, 3, 20] rfl fun Z => ?_
       refine p_then ?_
       exact ⟨a0.last != b.last, Z.sub (ts := [2, 3, 20]) rfl, ⟨I1, (H.sub [(1, false), (1, false), (1, true), (2, true), (3, true), (4, true), (5, true), (6, true), (7, true), (8, true), (9, true), (10, true)] rfl).eq rfl⟩, hF⟩

def F_slices_EqualFunc_api_Entry_api_Entry_api_Entry_api_Entry__item_Same_l1 (s1 : List EEntry) (s2 : List EEntry) (rc : Int → Option Bool) (sg : Int) : Option Bool := match sg with | x => if (decide (x < (s1.length : Int))) = true then (chk ((0 : Int) ≤ x ∧ x < (s1.length : Int)) (chk ((0 : Int) ≤ x ∧ x < (s2.length : Int)) ((F_item_Same ({ (s1.getD (x).toNat default) with batch := ({ client := ((s1.getD (x).toNat default).batch).client, req := ((s1.getD (x).toNat default).batch).req, ops := ((s1.getD (x).toNat default).batch).ops } : EBatch) } : EEntry) ({ (s2.getD (x).toNat default) with batch := ({ client := ((s2.getD (x).toNat default).batch).client, req := ((s2.getD (x).toNat default).batch).req, ops := ((s2.getD (x).toNat default).batch).ops } : EBatch) } : EEntry)).bind fun s0 => (if (!s0) = true then (some false) else (chk (inI (x + 1)) (rc (x + 1))))))) else (some true)

def F_slices_EqualFunc_api_Entry_api_Entry_api_Entry_api_Entry__item_Same (s1 : List EEntry) (s2 : List EEntry) : Option Bool := if ((s1.length : Int) != (s2.length : Int)) = true then (some false) else (iter (F_slices_EqualFunc_api_Entry_api_Entry_api_Entry_api_Entry__item_Same_l1 s1 s2) FU 0)

set_option maxHeartbeats 1000000 in
theorem c_slices_EqualFunc_api_Entry_api_Entry_api_Entry_api_Entry__item_Same {I D : Dm} {s1 : List EEntry} {v1_s1 : Value} {s2 : List EEntry} {v2_s2 : Value} {w : World} {rr : Bool} (hF : F_slices_EqualFunc_api_Entry_api_Entry_api_Entry_api_Entry__item_Same s1 s2 = some rr) (H : St I D w [SlC NEEntry v1_s1 s1, SlC NEEntry v2_s2 s2]) :
  Calls Tryz.prog 49 #[v1_s1, v2_s2, .func (.func 50) #[] #[]] w (Ret fun vv w' => vv = vT rr ∧ ∃ I', Hf I D w I' w' []) := by
 replace H := H.hf
 unfold F_slices_EqualFunc_api_Entry_api_Entry_api_Entry_api_Entry__item_Same at hF
 refine f_enter 32 Tryz.func49 rfl rfl (Nat.le_of_ble_eq_true rfl) fun a Z => ?_
 replace Z := Z.sub (ts := [0, 1, 2]) rfl
 refine wp_seq (f_region Z ?_); clear Z; intro Z
 refine s_runk tMs2 Z 1 rfl rfl fun a Z => ?_
 refine s_end Z [0, 1, 2] rfl fun Z => ?_
 refine p_then (wp_seq ?_)
 refine wp_seq (f_region Z ?_); clear Z; intro Z
 refine s_runk tMs2 Z 1 rfl rfl fun a Z => ?_
 refine sO Z (vI (ln s1)) rfl (Ob_slen tMs2 rfl rfl rfl (H.slshape 0 rfl)) fun a Z => ?_
 refine s_runk tMs2 Z 1 rfl rfl fun a Z => ?_
 refine sO Z (vI (ln s2)) rfl (Ob_slen tMs2 rfl rfl rfl (H.slshape 1 rfl)) fun a Z => ?_
 refine s_runk tMs2 Z 1 rfl rfl fun a Z => ?_
 refine s_end Z [0, 1, 2, 14] rfl fun Z => ?_
 refine p_then ?_
 refine f_cond Z rfl (fun hc1 => ?_) (fun hc1 => ?_)
 ·replace hF := ite_t hc1 hF
  refine wp_seq (f_region Z ?_); clear Z; intro Z
  refine s_runk tMs2 Z 1 rfl rfl fun a Z => ?_
  refine s_end Z [6] rfl fun Z => ?_
  refine p_then (wp_ret ?_)
  refine p_then_r ?_
  obtain rfl := some_in hF
  exact f_ret Z (run_results1 rfl Z rfl) ⟨rfl, I, (H.sub [] rfl).eq rfl⟩
 ·replace hF := ite_f hc1 hF
  refine wp_skip ?_
  refine p_then (wp_seq ?_)
  refine wp_seq (f_region Z ?_); clear Z; intro Z
  refine s_runk tMs2 Z 1 rfl rfl fun a Z => ?_
  refine sO Z (vI (ln s1)) rfl (Ob_slen tMs2 rfl rfl rfl (H.slshape 0 rfl)) fun a Z => ?_
  refine s_runk tMs2 Z 1 rfl rfl fun a Z => ?_
  refine s_end Z [1, 2, 15, 16, 17] rfl fun Z => ?_
  refine p_then (wp_block ?_)
  refine f_iter hF (fun sg a' w' => match sg with | x => Sl 32 [(1, v2_s2), (2, .func (.func 50) #[] #[]), (15, v1_s1), (16, vI (ln s1)), (17, vI x)] a' ∧ ∃ I2, Hf I D w I2 w' [SlC NEEntry v1_s1 s1, SlC NEEntry v2_s2 s2]) ⟨Z.sub (ts := [1, 2, 15, 16, 17]) rfl, ⟨I, (H.sub [(0, true), (1, true)] rfl).eq rfl⟩⟩ ?_
  rintro rc x a w1 ⟨Z, I1, H⟩ hF
  unfold F_slices_EqualFunc_api_Entry_api_Entry_api_Entry_api_Entry__item_Same_l1 at hF
  try dsimp only at hF
  refine wp_seq (f_region Z ?_); clear Z; intro Z
  refine s_runk tMs2 Z 1 rfl rfl fun a Z => ?_
  refine s_end Z [1, 2, 15, 16, 17, 18] rfl fun Z => ?_
  refine p_then (wp_seq ?_)
  refine f_cond Z rfl (fun hc2 => ?_) (fun hc2 => ?_)
  ·replace hF := ite_t hc2 hF
   refine wp_skip ?_
   refine p_then (wp_seq ?_)
   refine wp_block ?_
   refine wp_seq ?_
   obtain ⟨hg1, hF⟩ := chk_in hF
   refine f_region Z fun Z => ?_
   refine s_runk tMs2 Z 1 rfl rfl fun a Z => ?_
   refine sO Z (.pointer (some ⟨blkOf v1_s1, oofOf v1_s1 + (x).toNat * 4, none⟩)) rfl (Ob_sidx tMs2 rfl rfl rfl rfl (slPl (H.sl 0 rfl) hg1) hg1) fun a Z => ?_
   obtain ⟨_, ⟨u1, rfl, L1⟩, H⟩ := H.elG 0 rfl (x) (NEEntry.dft _ _)
   replace H := H.addsl L1
   replace H : Hf I D w I1 w1 [SlC NEOp u1 (((gi s1 x).batch).ops), AtG ((0 : Int) ≤ x ∧ x < (ln s1)) (blkOf v1_s1) (oofOf v1_s1 + (x).toNat * 4) (cEEntry (gi s1 x) u1), SlC NEEntry v1_s1 s1, SlC NEEntry v2_s2 s2] := H
   refine sO Z (.agg (cEEntry (gi s1 x) u1).toArray) rfl (oA tMs2 rfl rfl ((H.atg 1 rfl hg1).part 0 rfl)) fun a Z => ?_
   refine hA Z H [vI 0, vI 0, nS, vU 0] rfl rfl (by kernel_rfl) fun a w2 b1 H Z => ?_
   refine s_runk tMs2 Z 1 rfl rfl fun a Z => ?_
   refine hT tMs2 Z H 0 rfl rfl rfl rfl rfl (onR 2 rfl (one_cons (slS.one (H.slshape 1 rfl)) (one_cons rfl one_nil))) (Nat.le_of_ble_eq_true rfl) rfl fun w3 H => ?_
   dsimp only [List.eraseIdx] at H
   refine s_end Z [1, 2, 15, 16, 17, 8, 7] rfl fun Z => ?_
   refine p_then (wp_seq ?_)
   obtain ⟨hg2, hF⟩ := chk_in hF
   refine f_region Z fun Z => ?_
   refine s_runk tMs2 Z 2 rfl rfl fun a Z => ?_
   refine sO Z (.pointer (some ⟨blkOf v2_s2, oofOf v2_s2 + (x).toNat * 4, none⟩)) rfl (Ob_sidx tMs2 rfl rfl rfl rfl (slPl (H.sl 4 rfl) hg2) hg2) fun a Z => ?_
   obtain ⟨_, ⟨u2, rfl, L2⟩, H⟩ := H.elG 4 rfl (x) (NEEntry.dft _ _)
   replace H := H.addsl L2
   replace H : Hf I D w I1 w3 [SlC NEOp u2 (((gi s2 x).batch).ops), AtG ((0 : Int) ≤ x ∧ x < (ln s2)) (blkOf v2_s2) (oofOf v2_s2 + (x).toNat * 4) (cEEntry (gi s2 x) u2), BxC b1 88 (cEEntry (gi s1 x) u1), SlC NEOp u1 (((gi s1 x).batch).ops), AtG ((0 : Int) ≤ x ∧ x < (ln s1)) (blkOf v1_s1) (oofOf v1_s1 + (x).toNat * 4) (cEEntry (gi s1 x) u1), SlC NEEntry v1_s1 s1, SlC NEEntry v2_s2 s2] := H
   refine sO Z (.agg (cEEntry (gi s2 x) u2).toArray) rfl (oA tMs2 rfl rfl ((H.atg 1 rfl hg2).part 0 rfl)) fun a Z => ?_
   refine hA Z H [vI 0, vI 0, nS, vU 0] rfl rfl (by kernel_rfl) fun a w4 b2 H Z => ?_
   refine hT tMs2 Z H 0 rfl rfl rfl rfl rfl (onR 2 rfl (one_cons (slS.one (H.slshape 1 rfl)) (one_cons rfl one_nil))) (Nat.le_of_ble_eq_true rfl) rfl fun w5 H => ?_
   dsimp only [List.eraseIdx] at H
   refine s_end Z [1, 2, 15, 16, 17, 8, 9] rfl fun Z => ?_
   refine p_then (wp_seq ?_)
   obtain ⟨s0, hx1, hF⟩ := bnd_in hF
   refine f_region Z fun Z => ?_
   refine s_runk tMs2 Z 1 rfl rfl fun a Z => ?_
   refine sO Z (.agg (cEEntry (gi s1 x) u1).toArray) rfl (oA tMs2 rfl rfl ((H.bx 3 rfl).part 0 rfl)) fun a Z => ?_
   refine sO Z (.agg (cEEntry (gi s2 x) u2).toArray) rfl (oA tMs2 rfl rfl ((H.bx 0 rfl).part 0 rfl)) fun a Z => ?_
   refine hC Z H [(4, true), (1, true)] rfl #[] fn_50_YMs2 rfl rfl (fun D h => have q := c_item_Same hx1 h; q) fun vv a w6 D2 hr hF2 Z => ?_
   obtain ⟨rfl, I2, K⟩ := hr
   have H := (hF2 K).nf rfl
   refine s_runk tMs2 Z 1 rfl rfl fun a Z => ?_
   refine s_end Z [1, 2, 15, 16, 17, 30] rfl fun Z => ?_
   refine p_then ?_
   refine f_cond Z rfl (fun hc3 => ?_) (fun hc3 => ?_)
   ·replace hF := ite_t hc3 hF
    refine wp_seq (f_region Z ?_); clear Z; intro Z
    refine s_runk tMs2 Z 1 rfl rfl fun a Z => ?_
    refine s_end Z [6] rfl fun Z => ?_
    refine p_then (wp_ret ?_)
    refine p_blk_r ?_
    refine p_then_r ?_
    refine p_then_r ?_
    refine p_blk_r ?_
    refine p_then_r ?_
    obtain rfl := some_in hF
    exact f_ret Z (run_results1 rfl Z rfl) ⟨rfl, I2, (H.sub [] rfl).eq rfl⟩
   ·replace hF := ite_f hc3 hF
    refine wp_skip ?_
    refine p_blk ?_
    refine p_then ?_
    obtain ⟨hg3, hF⟩ := chk_in hF
    refine f_region Z fun Z => ?_
    refine sO Z (vI (x + 1)) rfl (Ob_add rfl rfl rfl (wrI hg3)) fun a Z => ?_
    refine s_runk tMs2 Z 1 rfl rfl fun a Z => ?_
    refine s_end Z [1, 2, 15, 16, 17] rfl fun Z => ?_
    refine p_then ?_
    exact ⟨(x + 1), ⟨Z.sub (ts := [1, 2, 15, 16, 17]) rfl, ⟨I2, (H.sub [(6, true), (7, true)] rfl).eq rfl⟩⟩, hF⟩
  ·replace hF := ite_f hc2 hF
   refine wp_exit ?_
   refine p_then_x ?_
   refine p_then_x ?_
   refine f_exit_here ?_
   refine p_then (wp_seq (f_region Z ?_)); clear Z; intro Z
   refine s_runk tMs2 Z 1 rfl rfl fun a Z => ?_
   refine s_end Z [6] rfl fun Z => ?_
   refine p_then (wp_ret ?_)
   obtain rfl := some_in hF
   exact f_ret Z (run_results1 rfl Z rfl) ⟨rfl, I1, (H.sub [] rfl).eq rfl⟩

def F_slices_Equal_uint64_uint64_l1 (s1 : List Int) (s2 : List Int) (rc : Int → Option Bool) (sg : Int) : Option Bool := match sg with | x => if (decide (x < (s1.length : Int))) = true then (chk ((0 : Int) ≤ x ∧ x < (s1.length : Int)) (chk ((0 : Int) ≤ x ∧ x < (s2.length : Int)) (if ((s1.getD (x).toNat default) != (s2.getD (x).toNat default)) = true then (some false) else (chk (inI (x + 1)) (rc (x + 1)))))) else (some true)

def F_slices_Equal_uint64_uint64 (s1 : List Int) (s2 : List Int) : Option Bool := if ((s1.length : Int) != (s2.length : Int)) = true then (some false) else (iter (F_slices_Equal_uint64_uint64_l1 s1 s2) FU 0)

set_option maxHeartbeats 1000000 in
theorem c_slices_Equal_uint64_uint64 {I D : Dm} {s1 : List Int} {v1_s1 : Value} {s2 : List Int} {v2_s2 : Value} {w : World} {rr : Bool} (hF : F_slices_Equal_uint64_uint64 s1 s2 = some rr) (H : St I D w [SlC Nu64 v1_s1 s1, SlC Nu64 v2_s2 s2]) :
  Calls Tryz.prog 51 #[v1_s1, v2_s2] w (Ret fun vv w' => vv = vT rr ∧ ∃ I', Hf I D w I' w' []) := by
 replace H := H.hf
 unfold F_slices_Equal_uint64_uint64 at hF
 refine f_enter 26 Tryz.func51 rfl rfl (Nat.le_of_ble_eq_true rfl) fun a Z => ?_
 replace Z := Z.sub (ts := [0, 1]) rfl
 refine wp_seq (f_region Z ?_); clear Z; intro Z
 refine s_runk tMs2 Z 1 rfl rfl fun a Z => ?_
 refine s_end Z [0, 1] rfl fun Z => ?_
 refine p_then (wp_seq ?_)
 refine wp_seq (f_region Z ?_); clear Z; intro Z
 refine s_runk tMs2 Z 1 rfl rfl fun a Z => ?_
 refine sO Z (vI (ln s1)) rfl (Ob_slen tMs2 rfl rfl rfl (H.slshape 0 rfl)) fun a Z => ?_
 refine s_runk tMs2 Z 1 rfl rfl fun a Z => ?_
 refine sO Z (vI (ln s2)) rfl (Ob_slen tMs2 rfl rfl rfl (H.slshape 1 rfl)) fun a Z => ?_
 refine s_runk tMs2 Z 1 rfl rfl fun a Z => ?_
 refine s_end Z [0, 1, 10] rfl fun Z => ?_
 refine p_then ?_
 refine f_cond Z rfl (fun hc1 => ?_) (fun hc1 => ?_)
 ·replace hF := ite_t hc1 hF
  refine wp_seq (f_region Z ?_); clear Z; intro Z
  refine s_runk tMs2 Z 1 rfl rfl fun a Z => ?_
  refine s_end Z [4] rfl fun Z => ?_
  refine p_then (wp_ret ?_)
  refine p_then_r ?_
  obtain rfl := some_in hF
  exact f_ret Z (run_results1 rfl Z rfl) ⟨rfl, I, (H.sub [] rfl).eq rfl⟩
 ·replace hF := ite_f hc1 hF
  refine wp_skip ?_
  refine p_then (wp_seq ?_)
  refine wp_seq (f_region Z ?_); clear Z; intro Z
  refine s_runk tMs2 Z 1 rfl rfl fun a Z => ?_
  refine sO Z (vI (ln s1)) rfl (Ob_slen tMs2 rfl rfl rfl (H.slshape 0 rfl)) fun a Z => ?_
  refine s_runk tMs2 Z 1 rfl rfl fun a Z => ?_
  refine s_end Z [0, 1, 12, 13] rfl fun Z => ?_
  refine p_then (wp_block ?_)
  refine f_iter hF (fun sg a' w' => match sg with | x => Sl 26 [(0, v1_s1), (1, v2_s2), (12, vI (ln s1)), (13, vI x)] a' ∧ ∃ I2, Hf I D w I2 w' [SlC Nu64 v1_s1 s1, SlC Nu64 v2_s2 s2]) ⟨Z.sub (ts := [0, 1, 12, 13]) rfl, ⟨I, (H.sub [(0, true), (1, true)] rfl).eq rfl⟩⟩ ?_
  rintro rc x a w1 ⟨Z, I1, H⟩ hF
  unfold F_slices_Equal_uint64_uint64_l1 at hF
  try dsimp only at hF
  refine wp_seq (f_region Z ?_); clear Z; intro Z
  refine s_runk tMs2 Z 1 rfl rfl fun a Z => ?_
  refine s_end Z [0, 1, 12, 13, 14] rfl fun Z => ?_
  refine p_then (wp_seq ?_)
  refine f_cond Z rfl (fun hc2 => ?_) (fun hc2 => ?_)
  ·replace hF := ite_t hc2 hF
   refine wp_skip ?_
   refine p_then (wp_seq ?_)
   refine wp_block ?_
   refine wp_seq (f_region Z ?_); clear Z; intro Z
   refine s_runk tMs2 Z 2 rfl rfl fun a Z => ?_
   refine s_end Z [0, 1, 12, 13, 5] rfl fun Z => ?_
   refine p_then (wp_seq ?_)
   obtain ⟨hg1, hF⟩ := chk_in hF
   obtain ⟨hg2, hF⟩ := chk_in hF
   refine f_quietd (by kernel_rfl) (by kernel_rfl) Z fun Z => ?_
   refine q_runk tMs2 Z 2 rfl rfl fun a Z => ?_
   refine qO Z (.pointer (some ⟨blkOf v1_s1, oofOf v1_s1 + (x).toNat * 1, none⟩)) rfl (fun _ hw => Ob_sidx tMs2 rfl rfl rfl rfl (slPl ((H.blw hw).sl 0 rfl) hg1) hg1) fun a Z => ?_
   refine qO Z (vU (gi s1 x)) rfl (fun _ hw => oL tMs2 rfl rfl ((slFl ((H.blw hw).sl 0 rfl) hg1) 0 _ rfl)) fun a Z => ?_
   refine q_runk tMs2 Z 2 rfl rfl fun a Z => ?_
   refine qO Z (.pointer (some ⟨blkOf v2_s2, oofOf v2_s2 + (x).toNat * 1, none⟩)) rfl (fun _ hw => Ob_sidx tMs2 rfl rfl rfl rfl (slPl ((H.blw hw).sl 1 rfl) hg2) hg2) fun a Z => ?_
   refine qO Z (vU (gi s2 x)) rfl (fun _ hw => oL tMs2 rfl rfl ((slFl ((H.blw hw).sl 1 rfl) hg2) 0 _ rfl)) fun a Z => ?_
   refine q_runk tMs2 Z 1 rfl rfl fun a Z => ?_
   refine q_end Z [0, 1, 12, 13, 24] rfl fun w2 hb Z => ?_
   replace H := H.blw hb
   clear hb
   refine p_then ?_
   refine f_cond Z rfl (fun hc3 => ?_) (fun hc3 => ?_)
   ·replace hF := ite_t hc3 hF
    refine wp_seq (f_region Z ?_); clear Z; intro Z
    refine s_runk tMs2 Z 1 rfl rfl fun a Z => ?_
    refine s_end Z [4] rfl fun Z => ?_
    refine p_then (wp_ret ?_)
    refine p_blk_r ?_
    refine p_then_r ?_
    refine p_then_r ?_
    refine p_blk_r ?_
    refine p_then_r ?_
    obtain rfl := some_in hF
    exact f_ret Z (run_results1 rfl Z rfl) ⟨rfl, I1, (H.sub [] rfl).eq rfl⟩
   ·replace hF := ite_f hc3 hF
    refine wp_skip ?_
    refine p_blk ?_
    refine p_then ?_
    obtain ⟨hg3, hF⟩ := chk_in hF
    refine f_region Z fun Z => ?_
    refine sO Z (vI (x + 1)) rfl (Ob_add rfl rfl rfl (wrI hg3)) fun a Z => ?_
    refine s_runk tMs2 Z 1 rfl rfl fun a Z => ?_
    refine s_end Z [0, 1, 12, 13] rfl fun Z => ?_
    refine p_then ?_
    exact ⟨(x + 1), ⟨Z.sub (ts := [0, 1, 12, 13]) rfl, ⟨I1, (H.sub [(0, true), (1, true)] rfl).eq rfl⟩⟩, hF⟩
  ·replace hF := ite_f hc2 hF
   refine wp_exit ?_
   refine p_then_x ?_
   refine p_then_x ?_
   refine f_exit_here ?_
   refine p_then (wp_seq (f_region Z ?_)); clear Z; intro Z
   refine s_runk tMs2 Z 1 rfl rfl fun a Z => ?_
   refine s_end Z [4] rfl fun Z => ?_
   refine p_then (wp_ret ?_)
   obtain rfl := some_in hF
   exact f_ret Z (run_results1 rfl Z rfl) ⟨rfl, I1, (H.sub [] rfl).eq rfl⟩

def F_slices_Equal_api_Pair_api_Pair_l1 (s1 : List EPair) (s2 : List EPair) (rc : Int → Option Bool) (sg : Int) : Option Bool := match sg with | x => if (decide (x < (s1.length : Int))) = true then (chk ((0 : Int) ≤ x ∧ x < (s1.length : Int)) (chk ((0 : Int) ≤ x ∧ x < (s2.length : Int)) (if (!eqEPair (s1.getD (x).toNat default) (s2.getD (x).toNat default)) = true then (some false) else (chk (inI (x + 1)) (rc (x + 1)))))) else (some true)

def F_slices_Equal_api_Pair_api_Pair (s1 : List EPair) (s2 : List EPair) : Option Bool := if ((s1.length : Int) != (s2.length : Int)) = true then (some false) else (iter (F_slices_Equal_api_Pair_api_Pair_l1 s1 s2) FU 0)

set_option maxHeartbeats 1000000 in
theorem c_slices_Equal_api_Pair_api_Pair {I D : Dm} {s1 : List EPair} {v1_s1 : Value} {s2 : List EPair} {v2_s2 : Value} {w : World} {rr : Bool} (hF : F_slices_Equal_api_Pair_api_Pair s1 s2 = some rr) (H : St I D w [SlC NEPair v1_s1 s1, SlC NEPair v2_s2 s2]) :
  Calls Tryz.prog 52 #[v1_s1, v2_s2] w (Ret fun vv w' => vv = vT rr ∧ ∃ I', Hf I D w I' w' []) := by
 replace H := H.hf
 unfold F_slices_Equal_api_Pair_api_Pair at hF
 refine f_enter 26 Tryz.func52 rfl rfl (Nat.le_of_ble_eq_true rfl) fun a Z => ?_
 replace Z := Z.sub (ts := [0, 1]) rfl
 refine wp_seq (f_region Z ?_); clear Z; intro Z
 refine s_runk tMs2 Z 1 rfl rfl fun a Z => ?_
 refine s_end Z [0, 1] rfl fun Z => ?_
 refine p_then (wp_seq ?_)
 refine wp_seq (f_region Z ?_); clear Z; intro Z
 refine s_runk tMs2 Z 1 rfl rfl fun a Z => ?_
 refine sO Z (vI (ln s1)) rfl (Ob_slen tMs2 rfl rfl rfl (H.slshape 0 rfl)) fun a Z => ?_
 refine s_runk tMs2 Z 1 rfl rfl fun a Z => ?_
 refine sO Z (vI (ln s2)) rfl (Ob_slen tMs2 rfl rfl rfl (H.slshape 1 rfl)) fun a Z => ?_
 refine s_runk tMs2 Z 1 rfl rfl fun a Z => ?_
 refine s_end Z [0, 1, 10] rfl fun Z => ?_
 refine p_then ?_
 refine f_cond Z rfl (fun hc1 => ?_) (fun hc1 => ?_)
 ·replace hF := ite_t hc1 hF
  refine wp_seq (f_region Z ?_); clear Z; intro Z
  refine s_runk tMs2 Z 1 rfl rfl fun a Z => ?_
  refine s_end Z [4] rfl fun Z => ?_
  refine p_then (wp_ret ?_)
  refine p_then_r ?_
  obtain rfl := some_in hF
  exact f_ret Z (run_results1 rfl Z rfl) ⟨rfl, I, (H.sub [] rfl).eq rfl⟩
 ·replace hF := ite_f hc1 hF
  refine wp_skip ?_
  refine p_then (wp_seq ?_)
  refine wp_seq (f_region Z ?_); clear Z; intro Z
  refine s_runk tMs2 Z 1 rfl rfl fun a Z => ?_
  refine sO Z (vI (ln s1)) rfl (Ob_slen tMs2 rfl rfl rfl (H.slshape 0 rfl)) fun a Z => ?_
  refine s_runk tMs2 Z 1 rfl rfl fun a Z => ?_
  refine s_end Z [0, 1, 12, 13] rfl fun Z => ?_
  refine p_then (wp_block ?_)
  refine f_iter hF (fun sg a' w' => match sg with | x => Sl 26 [(0, v1_s1), (1, v2_s2), (12, vI (ln s1)), (13, vI x)] a' ∧ ∃ I2, Hf I D w I2 w' [SlC NEPair v1_s1 s1, SlC NEPair v2_s2 s2]) ⟨Z.sub (ts := [0, 1, 12, 13]) rfl, ⟨I, (H.sub [(0, true), (1, true)] rfl).eq rfl⟩⟩ ?_
  rintro rc x a w1 ⟨Z, I1, H⟩ hF
  unfold F_slices_Equal_api_Pair_api_Pair_l1 at hF
  try dsimp only at hF
  refine wp_seq (f_region Z ?_); clear Z; intro Z
  refine s_runk tMs2 Z 1 rfl rfl fun a Z => ?_
  refine s_end Z [0, 1, 12, 13, 14] rfl fun Z => ?_
  refine p_then (wp_seq ?_)
  refine f_cond Z rfl (fun hc2 => ?_) (fun hc2 => ?_)
  ·replace hF := ite_t hc2 hF
   refine wp_skip ?_
   refine p_then (wp_seq ?_)
   refine wp_block ?_
   refine wp_seq (f_region Z ?_); clear Z; intro Z
   refine s_runk tMs2 Z 2 rfl rfl fun a Z => ?_
   refine s_end Z [0, 1, 12, 13, 5] rfl fun Z => ?_
   refine p_then (wp_seq ?_)
   obtain ⟨hg1, hF⟩ := chk_in hF
   obtain ⟨hg2, hF⟩ := chk_in hF
   refine f_quietd (by kernel_rfl) (by kernel_rfl) Z fun Z => ?_
   refine q_runk tMs2 Z 2 rfl rfl fun a Z => ?_
   refine qO Z (.pointer (some ⟨blkOf v1_s1, oofOf v1_s1 + (x).toNat * 2, none⟩)) rfl (fun _ hw => Ob_sidx tMs2 rfl rfl rfl rfl (slPl ((H.blw hw).sl 0 rfl) hg1) hg1) fun a Z => ?_
   refine qO Z (.agg #[vS ((gi s1 x).key), vS ((gi s1 x).val)]) rfl (fun _ hw => oA tMs2 rfl rfl ((slFl ((H.blw hw).sl 0 rfl) hg1).part 0 rfl)) fun a Z => ?_
   refine q_runk tMs2 Z 2 rfl rfl fun a Z => ?_
   refine qO Z (.pointer (some ⟨blkOf v2_s2, oofOf v2_s2 + (x).toNat * 2, none⟩)) rfl (fun _ hw => Ob_sidx tMs2 rfl rfl rfl rfl (slPl ((H.blw hw).sl 1 rfl) hg2) hg2) fun a Z => ?_
   refine qO Z (.agg #[vS ((gi s2 x).key), vS ((gi s2 x).val)]) rfl (fun _ hw => oA tMs2 rfl rfl ((slFl ((H.blw hw).sl 1 rfl) hg2).part 0 rfl)) fun a Z => ?_
   refine qO Z (vT (!eqEPair (gi s1 x) (gi s2 x))) rfl (fun _ hw => Ob_bin rfl rfl rfl (eqg_EPair _ _ _ _ _ _) (neq_EPair (gi s1 x) (gi s2 x) _)) fun a Z => ?_
   refine q_end Z [0, 1, 12, 13, 24] rfl fun w2 hb Z => ?_
   replace H := H.blw hb
   clear hb
   refine p_then ?_
   refine f_cond Z rfl (fun hc3 => ?_) (fun hc3 => ?_)
   ·replace hF := ite_t hc3 hF
    refine wp_seq (f_region Z ?_); clear Z; intro Z
    refine s_runk tMs2 Z 1 rfl rfl fun a Z => ?_
    refine s_end Z [4] rfl fun Z => ?_
    refine p_then (wp_ret ?_)
    refine p_blk_r ?_
    refine p_then_r ?_
    refine p_then_r ?_
    refine p_blk_r ?_
    refine p_then_r ?_
    obtain rfl := some_in hF
    exact f_ret Z (run_results1 rfl Z rfl) ⟨rfl, I1, (H.sub [] rfl).eq rfl⟩
   ·replace hF := ite_f hc3 hF
    refine wp_skip ?_
    refine p_blk ?_
    refine p_then ?_
    obtain ⟨hg3, hF⟩ := chk_in hF
    refine f_region Z fun Z => ?_
    refine sO Z (vI (x + 1)) rfl (Ob_add rfl rfl rfl (wrI hg3)) fun a Z => ?_
    refine s_runk tMs2 Z 1 rfl rfl fun a Z => ?_
    refine s_end Z [0, 1, 12, 13] rfl fun Z => ?_
    refine p_then ?_
    exact ⟨(x + 1), ⟨Z.sub (ts := [0, 1, 12, 13]) rfl, ⟨I1, (H.sub [(0, true), (1, true)] rfl).eq rfl⟩⟩, hF⟩
  ·replace hF := ite_f hc2 hF
   refine wp_exit ?_
   refine p_then_x ?_
   refine p_then_x ?_
   refine f_exit_here ?_
   refine p_then (wp_seq (f_region Z ?_)); clear Z; intro Z
   refine s_runk tMs2 Z 1 rfl rfl fun a Z => ?_
   refine s_end Z [4] rfl fun Z => ?_
   refine p_then (wp_ret ?_)
   obtain rfl := some_in hF
   exact f_ret Z (run_results1 rfl Z rfl) ⟨rfl, I1, (H.sub [] rfl).eq rfl⟩

def F_mess_Same (a0 : EMsg) (b : EMsg) : Option Bool := (F_mess_small a0 b).bind fun s0 => ((gif s0 (F_conf_Same a0.conf b.conf) default).bind fun s0_2 => ((gif (s0 && s0_2) (F_ops_Same a0.batch b.batch) default).bind fun s0_3 => ((gif ((s0 && s0_2) && s0_3) (F_slices_EqualFunc_api_Entry_api_Entry_api_Entry_api_Entry__item_Same a0.entries b.entries) default).bind fun s0_4 => ((gif (((s0 && s0_2) && s0_3) && s0_4) (F_slices_Equal_uint64_uint64 a0.stamps b.stamps) default).bind fun u => ((gif ((((s0 && s0_2) && s0_3) && s0_4) && u) (F_slices_Equal_api_Pair_api_Pair a0.pairs b.pairs) default).bind fun p => (some (((((s0 && s0_2) && s0_3) && s0_4) && u) && p)))))))

set_option maxHeartbeats 1000000 in
theorem c_mess_Same {I D : Dm} {a0 : EMsg} {v1_a0 : Value} {v2_a0 : Value} {v3_a0 : Value} {v4_a0 : Value} {v5_a0 : Value} {b : EMsg} {v6_b : Value} {v7_b : Value} {v8_b : Value} {v9_b : Value} {v10_b : Value} {w : World} {rr : Bool} (hF : F_mess_Same a0 b = some rr) (H : St I D w [SlC NEMember v1_a0 a0.conf.members, SlC NEOp v2_a0 a0.batch.ops, SlC NEEntry v3_a0 a0.entries, SlC Nu64 v4_a0 a0.stamps, SlC NEPair v5_a0 a0.pairs, SlC NEMember v6_b b.conf.members, SlC NEOp v7_b b.batch.ops, SlC NEEntry v8_b b.entries, SlC Nu64 v9_b b.stamps, SlC NEPair v10_b b.pairs]) :
  Calls Tryz.prog 16 #[.agg (cEMsg a0 v1_a0 v2_a0 v3_a0 v4_a0 v5_a0).toArray, .agg (cEMsg b v6_b v7_b v8_b v9_b v10_b).toArray] w (Ret fun vv w' => vv = vT rr ∧ ∃ I', Hf I D w I' w' []) := by
 replace H := H.hf
 unfold F_mess_Same at hF
 refine f_enter 43 Tryz.func16 rfl rfl (Nat.le_of_ble_eq_true rfl) fun a Z => ?_
 replace Z := Z.sub (ts := [0, 1]) rfl
 refine wp_seq (f_region Z ?_); clear Z; intro Z
 refine h_boxv Z H (cl := (cEMsg a0 v1_a0 v2_a0 v3_a0 v4_a0 v5_a0)) rfl rfl rfl (by decide) rfl rfl rfl fun a w1 b1 H Z => ?_
 refine h_boxv Z H (cl := (cEMsg b v6_b v7_b v8_b v9_b v10_b)) rfl rfl rfl (by decide) rfl rfl rfl fun a w2 b2 H Z => ?_
 refine s_runk tMs2 Z 1 rfl rfl fun a Z => ?_
 refine s_end Z [2, 3] rfl fun Z => ?_
 refine p_then (wp_seq ?_)
 obtain ⟨s0, hx1, hF⟩ := bnd_in hF
 obtain ⟨s0_2, hx2, hF⟩ := bnd_in hF
 obtain ⟨s0_3, hx3, hF⟩ := bnd_in hF
 obtain ⟨s0_4, hx4, hF⟩ := bnd_in hF
 obtain ⟨u, hx5, hF⟩ := bnd_in hF
 obtain ⟨p, hx6, hF⟩ := bnd_in hF
 refine f_region Z fun Z => ?_
 refine sO Z (.agg (cEMsg a0 v1_a0 v2_a0 v3_a0 v4_a0 v5_a0).toArray) rfl (oA tMs2 rfl rfl ((H.bx 1 rfl).part 0 rfl)) fun a Z => ?_
 refine sO Z (.agg (cEMsg b v6_b v7_b v8_b v9_b v10_b).toArray) rfl (oA tMs2 rfl rfl ((H.bx 0 rfl).part 0 rfl)) fun a Z => ?_
 refine hC Z H [(2, true), (3, true), (4, true), (5, true), (6, true), (7, true), (8, true), (9, true), (10, true), (11, true)] rfl #[] fn_46_YMs2 rfl rfl (fun D h => have q := c_mess_small hx1 h; q) fun vv a w3 D2 hr hF2 Z => ?_
 obtain ⟨rfl, I1, K⟩ := hr
 have H := (hF2 K).nf rfl
 refine s_runk tMs2 Z 1 rfl rfl fun a Z => ?_
 refine gO Z (pp b1 13) rfl (wantB_t _) (.n 2 rfl .z) (fun hp => Ob_c tMs2 rfl) fun a Z => ?_
 refine gO Z (.agg #[vI a0.conf.epoch, v1_a0, vU a0.conf.floor]) rfl (wantB_t _) (.c 9 rfl id .z) (fun hp => oA tMs2 rfl rfl ((H.bx 1 rfl).part 13 rfl)) fun a Z => ?_
 refine gO Z (pp b2 13) rfl (wantB_t _) (.n 3 rfl .z) (fun hp => Ob_c tMs2 rfl) fun a Z => ?_
 refine gO Z (.agg #[vI b.conf.epoch, v6_b, vU b.conf.floor]) rfl (wantB_t _) (.c 11 rfl id .z) (fun hp => oA tMs2 rfl rfl ((H.bx 0 rfl).part 13 rfl)) fun a Z => ?_
 refine g_call Z (p := s0) (v := vT s0_2) (S' := [(10, .agg #[vI a0.conf.epoch, v1_a0, vU a0.conf.floor]), (12, .agg #[vI b.conf.epoch, v6_b, vU b.conf.floor])]) (caps := #[]) fn_47_YMs2 rfl rfl rfl (wantB_t _) rfl (by decide) (fun hp hS => ((hS.conv (t := 10) rfl (cond_t hp)).conv (t := 12) rfl (cond_t hp)).sub (ts := [10, 12]) rfl) rfl rfl rfl rfl (fun hp => (have hq := c_conf_Same (gif_in hx2 hp) ((H).pick0 (js := [(2, true), (7, true)]) rfl rfl); plainC hq)) fun a w4 hb Z => ?_
 replace H := H.blw hb
 clear hb
 refine sO Z (vT (s0 && s0_2)) rfl (Ob_pick rfl rfl rfl rfl (pick_and _ _)) fun a Z => ?_
 refine s_runk tMs2 Z 1 rfl rfl fun a Z => ?_
 refine gO Z (pp b1 16) rfl (wantB_t _) (.n 2 rfl .z) (fun hp => Ob_c tMs2 rfl) fun a Z => ?_
 refine gO Z (.agg #[vI a0.batch.client, vI a0.batch.req, v2_a0]) rfl (wantB_t _) (.c 16 rfl id .z) (fun hp => oA tMs2 rfl rfl ((H.bx 1 rfl).part 16 rfl)) fun a Z => ?_
 refine gO Z (pp b2 16) rfl (wantB_t _) (.n 3 rfl .z) (fun hp => Ob_c tMs2 rfl) fun a Z => ?_
 refine gO Z (.agg #[vI b.batch.client, vI b.batch.req, v7_b]) rfl (wantB_t _) (.c 18 rfl id .z) (fun hp => oA tMs2 rfl rfl ((H.bx 0 rfl).part 16 rfl)) fun a Z => ?_
 refine g_call Z (p := (s0 && s0_2)) (v := vT s0_3) (S' := [(17, .agg #[vI a0.batch.client, vI a0.batch.req, v2_a0]), (19, .agg #[vI b.batch.client, vI b.batch.req, v7_b])]) (caps := #[]) fn_48_YMs2 rfl rfl rfl (wantB_t _) rfl (by decide) (fun hp hS => ((hS.conv (t := 17) rfl (cond_t hp)).conv (t := 19) rfl (cond_t hp)).sub (ts := [17, 19]) rfl) rfl rfl rfl rfl (fun hp => (have hq := c_ops_Same (gif_in hx3 hp) ((H).pick0 (js := [(3, true), (8, true)]) rfl rfl); plainC hq)) fun a w5 hb Z => ?_
 replace H := H.blw hb
 clear hb
 refine sO Z (vT ((s0 && s0_2) && s0_3)) rfl (Ob_pick rfl rfl rfl rfl (pick_and _ _)) fun a Z => ?_
 refine s_runk tMs2 Z 1 rfl rfl fun a Z => ?_
 refine gO Z (pp b1 19) rfl (wantB_t _) (.n 2 rfl .z) (fun hp => Ob_c tMs2 rfl) fun a Z => ?_
 refine gO Z _ rfl (wantB_t _) (.c 23 rfl id .z) (fun hp => oL tMs2 rfl rfl (H.bc 1 19 rfl rfl)) fun a Z => ?_
 refine gO Z (pp b2 19) rfl (wantB_t _) (.n 3 rfl .z) (fun hp => Ob_c tMs2 rfl) fun a Z => ?_
 refine gO Z _ rfl (wantB_t _) (.c 25 rfl id .z) (fun hp => oL tMs2 rfl rfl (H.bc 0 19 rfl rfl)) fun a Z => ?_
 refine g_call Z (p := ((s0 && s0_2) && s0_3)) (v := vT s0_4) (S' := [(24, v3_a0), (26, v8_b)]) (caps := #[]) fn_49_YMs2 rfl rfl rfl (wantB_t _) rfl (by decide) (fun hp hS => ((hS.conv (t := 24) rfl (cond_t hp)).conv (t := 26) rfl (cond_t hp)).sub (ts := [24, 26]) rfl) rfl rfl rfl rfl (fun hp => (have hq := c_slices_EqualFunc_api_Entry_api_Entry_api_Entry_api_Entry__item_Same (gif_in hx4 hp) ((H).pick0 (js := [(4, true), (9, true)]) rfl rfl); plainC hq)) fun a w6 hb Z => ?_
 replace H := H.blw hb
 clear hb
 refine sO Z (vT (((s0 && s0_2) && s0_3) && s0_4)) rfl (Ob_pick rfl rfl rfl rfl (pick_and _ _)) fun a Z => ?_
 refine s_runk tMs2 Z 1 rfl rfl fun a Z => ?_
 refine gO Z (pp b1 20) rfl (wantB_t _) (.n 2 rfl .z) (fun hp => Ob_c tMs2 rfl) fun a Z => ?_
 refine gO Z _ rfl (wantB_t _) (.c 30 rfl id .z) (fun hp => oL tMs2 rfl rfl (H.bc 1 20 rfl rfl)) fun a Z => ?_
 refine gO Z (pp b2 20) rfl (wantB_t _) (.n 3 rfl .z) (fun hp => Ob_c tMs2 rfl) fun a Z => ?_
 refine gO Z _ rfl (wantB_t _) (.c 32 rfl id .z) (fun hp => oL tMs2 rfl rfl (H.bc 0 20 rfl rfl)) fun a Z => ?_
 refine g_call Z (p := (((s0 && s0_2) && s0_3) && s0_4)) (v := vT u) (S' := [(31, v4_a0), (33, v9_b)]) (caps := #[]) fn_51_YMs2 rfl rfl rfl (wantB_t _) rfl (by decide) (fun hp hS => ((hS.conv (t := 31) rfl (cond_t hp)).conv (t := 33) rfl (cond_t hp)).sub (ts := [31, 33]) rfl) rfl rfl rfl rfl (fun hp => (have hq := c_slices_Equal_uint64_uint64 (gif_in hx5 hp) ((H).pick0 (js := [(5, true), (10, true)]) rfl rfl); plainC hq)) fun a w7 hb Z => ?_
 replace H := H.blw hb
 clear hb
 refine sO Z (vT ((((s0 && s0_2) && s0_3) && s0_4) && u)) rfl (Ob_pick rfl rfl rfl rfl (pick_and _ _)) fun a Z => ?_
 refine s_runk tMs2 Z 1 rfl rfl fun a Z => ?_
 refine gO Z (pp b1 21) rfl (wantB_t _) (.n 2 rfl .z) (fun hp => Ob_c tMs2 rfl) fun a Z => ?_
 refine gO Z _ rfl (wantB_t _) (.c 37 rfl id .z) (fun hp => oL tMs2 rfl rfl (H.bc 1 21 rfl rfl)) fun a Z => ?_
 refine gO Z (pp b2 21) rfl (wantB_t _) (.n 3 rfl .z) (fun hp => Ob_c tMs2 rfl) fun a Z => ?_
 refine gO Z _ rfl (wantB_t _) (.c 39 rfl id .z) (fun hp => oL tMs2 rfl rfl (H.bc 0 21 rfl rfl)) fun a Z => ?_
 refine g_call Z (p := ((((s0 && s0_2) && s0_3) && s0_4) && u)) (v := vT p) (S' := [(38, v5_a0), (40, v10_b)]) (caps := #[]) fn_52_YMs2 rfl rfl rfl (wantB_t _) rfl (by decide) (fun hp hS => ((hS.conv (t := 38) rfl (cond_t hp)).conv (t := 40) rfl (cond_t hp)).sub (ts := [38, 40]) rfl) rfl rfl rfl rfl (fun hp => (have hq := c_slices_Equal_api_Pair_api_Pair (gif_in hx6 hp) ((H).pick0 (js := [(6, true), (11, true)]) rfl rfl); plainC hq)) fun a w8 hb Z => ?_
 replace H := H.blw hb
 clear hb
 refine sO Z (vT (((((s0 && s0_2) && s0_3) && s0_4) && u) && p)) rfl (Ob_pick rfl rfl rfl rfl (pick_and _ _)) fun a Z => ?_
 refine s_runk tMs2 Z 1 rfl rfl fun a Z => ?_
 refine s_end Z [4] rfl fun Z => ?_
 refine p_then (wp_ret ?_)
 obtain rfl := some_in hF
 exact f_ret Z (run_results1 rfl Z rfl) ⟨rfl, I1, (H.sub [] rfl).eq rfl⟩

def F_ref09_part_k1 (y : EMsg) : Option EMsg := some y

def F_ref09_part (x : EMsg) (m : EMsg) (c : Int) : Option EMsg := if (c == 101) = true then (F_ref09_part_k1 ({ x with epoch := m.epoch } : EMsg)) else (if (c == 115) = true then (F_ref09_part_k1 ({ x with serial := m.serial } : EMsg)) else (if (c == 114) = true then (F_ref09_part_k1 ({ x with req := m.req } : EMsg)) else (if (c == 110) = true then (F_ref09_part_k1 ({ x with n := m.n } : EMsg)) else (if (c == 109) = true then (F_ref09_part_k1 ({ x with m := m.m } : EMsg)) else (if (c == 112) = true then (F_ref09_part_k1 ({ x with p := m.p } : EMsg)) else (if (c == 120) = true then (F_ref09_part_k1 ({ x with e := m.e } : EMsg)) else (if (c == 97) = true then (F_ref09_part_k1 ({ x with at_ := m.at_ } : EMsg)) else (if (c == 108) = true then (F_ref09_part_k1 ({ x with last := m.last } : EMsg)) else (if (c == 102) = true then (F_ref09_part_k1 ({ x with flag := m.flag } : EMsg)) else (if (c == 107) = true then (F_ref09_part_k1 ({ x with key := m.key } : EMsg)) else (if (c == 116) = true then (F_ref09_part_k1 ({ x with to_ := m.to_ } : EMsg)) else (if (c == 67) = true then (F_ref09_part_k1 ({ x with conf := m.conf } : EMsg)) else (if (c == 66) = true then (F_ref09_part_k1 ({ x with batch := m.batch } : EMsg)) else (if (c == 69) = true then (F_ref09_part_k1 ({ x with entries := m.entries } : EMsg)) else (if (c == 83) = true then (F_ref09_part_k1 ({ x with stamps := m.stamps } : EMsg)) else (if (c == 82) = true then (F_ref09_part_k1 ({ x with pairs := m.pairs } : EMsg)) else (F_ref09_part_k1 x)))))))))))))))))

set_option maxHeartbeats 1000000 in
theorem c_ref09_part {I D : Dm} {x : EMsg} {v1_x : Value} {v2_x : Value} {v3_x : Value} {v4_x : Value} {v5_x : Value} {m : EMsg} {v6_m : Value} {v7_m : Value} {v8_m : Value} {v9_m : Value} {v10_m : Value} {c : Int} {w : World} {rr : EMsg} (hF : F_ref09_part x m c = some rr) (H : St I D w [SlC NEMember v1_x x.conf.members, SlC NEOp v2_x x.batch.ops, SlC NEEntry v3_x x.entries, SlC Nu64 v4_x x.stamps, SlC NEPair v5_x x.pairs, SlC NEMember v6_m m.conf.members, SlC NEOp v7_m m.batch.ops, SlC NEEntry v8_m m.entries, SlC Nu64 v9_m m.stamps, SlC NEPair v10_m m.pairs]) :
  Calls Tryz.prog 45 #[.agg (cEMsg x v1_x v2_x v3_x v4_x v5_x).toArray, .agg (cEMsg m v6_m v7_m v8_m v9_m v10_m).toArray, .int .u8 c] w (Ret fun vv w' => ∃ q1 q2 q3 q4 q5 : Value, vv = .agg (cEMsg rr q1 q2 q3 q4 q5).toArray ∧ ∃ I', Hf I D w I' w' [SlC NEMember q1 rr.conf.members, SlC NEOp q2 rr.batch.ops, SlC NEEntry q3 rr.entries, SlC Nu64 q4 rr.stamps, SlC NEPair q5 rr.pairs]) := by
 replace H := H.hf
 unfold F_ref09_part at hF
 refine f_enter 96 Tryz.func45 rfl rfl (Nat.le_of_ble_eq_true rfl) fun a Z => ?_
 replace Z := Z.sub (ts := [0, 1, 2]) rfl
 refine wp_seq (f_region Z ?_); clear Z; intro Z
 refine h_boxv Z H (cl := (cEMsg x v1_x v2_x v3_x v4_x v5_x)) rfl rfl rfl (by decide) rfl rfl rfl fun a w1 b1 H Z => ?_
 refine h_boxv Z H (cl := (cEMsg m v6_m v7_m v8_m v9_m v10_m)) rfl rfl rfl (by decide) rfl rfl rfl fun a w2 b2 H Z => ?_
 refine hA Z H [vI 0, vI 0, vI 0, vI 0, vT false, vU 0, vU 0, vI 0, vI 0, vI 0, vI 0, vS ByteArray.empty, vS ByteArray.empty, vI 0, nS, vU 0, vI 0, vI 0, nS, nS, nS, nS] rfl rfl (by kernel_rfl) fun a w3 b3 H Z => ?_
 refine s_end Z [2, 3, 4, 6] rfl fun Z => ?_
 refine p_then (wp_seq (f_region Z ?_)); clear Z; intro Z
 refine sO Z (.agg (cEMsg x v1_x v2_x v3_x v4_x v5_x).toArray) rfl (oA tMs2 rfl rfl ((H.bx 2 rfl).part 0 rfl)) fun a Z => ?_
 refine hA Z H [vI 0, vI 0, vI 0, vI 0, vT false, vU 0, vU 0, vI 0, vI 0, vI 0, vI 0, vS ByteArray.empty, vS ByteArray.empty, vI 0, nS, vU 0, vI 0, vI 0, nS, nS, nS, nS] rfl rfl (by kernel_rfl) fun a w4 b4 H Z => ?_
 refine hT tMs2 Z H 0 rfl rfl rfl rfl rfl (onR 14 rfl (one_cons (slS.one (H.slshape 4 rfl)) (onR 3 rfl (one_cons (slS.one (H.slshape 5 rfl)) (one_cons (slS.one (H.slshape 6 rfl)) (one_cons (slS.one (H.slshape 7 rfl)) (one_cons (slS.one (H.slshape 8 rfl)) one_nil))))))) (Nat.le_of_ble_eq_true rfl) (putCells_all rfl) fun w5 H => ?_
 dsimp only [List.eraseIdx] at H
 refine s_end Z [2, 4, 6, 7] rfl fun Z => ?_
 refine p_then ?_
 refine f_cut (fun a' w' => ∃ (y : EMsg), Sl 96 [(6, pp b3 0), (7, pp b4 0)] a' ∧ (∃ I2, Hf I D w I2 w' [BxC b3 35 [vI 0, vI 0, vI 0, vI 0, vT false, vU 0, vU 0, vI 0, vI 0, vI 0, vI 0, vS ByteArray.empty, vS ByteArray.empty, vI 0, nS, vU 0, vI 0, vI 0, nS, nS, nS, nS], REMsg b4 y]) ∧ F_ref09_part_k1 y = some rr) ?_ ?_
 ·rintro a w6 ⟨y, Z, ⟨I1, H⟩, hF⟩
  unfold F_ref09_part_k1 at hF
  try dsimp only at hF
  refine wp_seq (f_region Z ?_); clear Z; intro Z
  obtain ⟨⟨v11, v12, v13, v14, v15⟩, H⟩ := H.openX 1 rfl
  replace H := H.nf rfl; try dsimp only at H
  refine sO Z (.agg (cEMsg y v11 v12 v13 v14 v15).toArray) rfl (oA tMs2 rfl rfl ((H.bx 0 rfl).part 0 rfl)) fun a Z => ?_
  refine hT tMs2 Z H 6 rfl rfl rfl rfl rfl (onR 14 rfl (one_cons (slS.one (H.slshape 1 rfl)) (onR 3 rfl (one_cons (slS.one (H.slshape 2 rfl)) (one_cons (slS.one (H.slshape 3 rfl)) (one_cons (slS.one (H.slshape 4 rfl)) (one_cons (slS.one (H.slshape 5 rfl)) one_nil))))))) (Nat.le_of_ble_eq_true rfl) (putCells_all rfl) fun w7 H => ?_
  dsimp only [List.eraseIdx] at H
  refine s_end Z [6] rfl fun Z => ?_
  refine p_then (wp_ret ?_)
  obtain rfl := some_in hF
  exact f_ret Z (run_resultsC rfl Z rfl (run_loadVar_agg tMs2 rfl (H.bx 0 rfl).at)) ⟨v11, v12, v13, v14, v15, rfl, I1, (H.sub [(2, true), (3, true), (4, true), (5, true), (6, true)] rfl).eq rfl⟩
 ·skip
  refine wp_seq (f_region Z ?_); clear Z; intro Z
  refine s_runk tMs2 Z 1 rfl rfl fun a Z => ?_
  refine s_end Z [4, 6, 7, 9] rfl fun Z => ?_
  refine p_then (wp_block ?_)
  refine wp_seq (f_region Z ?_); clear Z; intro Z
  refine s_runk tMs2 Z 2 rfl rfl fun a Z => ?_
  refine s_end Z [4, 6, 7, 9, 10] rfl fun Z => ?_
  refine p_then ?_
  refine f_cond Z rfl (fun hc1 => ?_) (fun hc1 => ?_)
  ·replace hF := ite_t hc1 hF
   refine f_region Z fun Z => ?_
   refine s_runk tMs2 Z 1 rfl rfl fun a Z => ?_
   refine sO Z _ rfl (oL tMs2 rfl rfl (H.bc 2 1 rfl rfl)) fun a Z => ?_
   refine s_runk tMs2 Z 1 rfl rfl fun a Z => ?_
   refine hT tMs2 Z H 0 rfl rfl rfl rfl rfl (one_cons rfl one_nil) (Nat.le_of_ble_eq_true rfl) rfl fun w8 H => ?_
   dsimp only [List.eraseIdx] at H
   refine s_end Z [6, 7] rfl fun Z => ?_
   refine p_blk ?_
   refine p_then ?_
   replace H := H.sX (REMsg b4 ({ x with epoch := m.epoch } : EMsg)) (v1_x, v2_x, v3_x, v4_x, v5_x) [(0, false), (3, true), (4, true), (5, true), (6, true), (7, true)] rfl rfl rfl
   exact ⟨({ x with epoch := m.epoch } : EMsg), Z.sub (ts := [6, 7]) rfl, ⟨I, (H.sub [(1, false), (0, false)] rfl).eq rfl⟩, hF⟩
  ·replace hF := ite_f hc1 hF
   refine wp_seq (f_region Z ?_); clear Z; intro Z
   refine s_runk tMs2 Z 2 rfl rfl fun a Z => ?_
   refine s_end Z [4, 6, 7, 9, 15] rfl fun Z => ?_
   refine p_then ?_
   refine f_cond Z rfl (fun hc2 => ?_) (fun hc2 => ?_)
   ·replace hF := ite_t hc2 hF
    refine f_region Z fun Z => ?_
    refine s_runk tMs2 Z 1 rfl rfl fun a Z => ?_
    refine sO Z _ rfl (oL tMs2 rfl rfl (H.bc 2 3 rfl rfl)) fun a Z => ?_
    refine s_runk tMs2 Z 1 rfl rfl fun a Z => ?_
    refine hT tMs2 Z H 0 rfl rfl rfl rfl rfl (one_cons rfl one_nil) (Nat.le_of_ble_eq_true rfl) rfl fun w9 H => ?_
    dsimp only [List.eraseIdx] at H
    refine s_end Z [6, 7] rfl fun Z => ?_
    refine p_blk ?_
    refine p_then ?_
    replace H := H.sX (REMsg b4 ({ x with serial := m.serial } : EMsg)) (v1_x, v2_x, v3_x, v4_x, v5_x) [(0, false), (3, true), (4, true), (5, true), (6, true), (7, true)] rfl rfl rfl
    exact ⟨({ x with serial := m.serial } : EMsg), Z.sub (ts := [6, 7]) rfl, ⟨I, (H.sub [(1, false), (0, false)] rfl).eq rfl⟩, hF⟩
   ·replace hF := ite_f hc2 hF
    refine wp_seq (f_region Z ?_); clear Z; intro Z
    refine s_runk tMs2 Z 2 rfl rfl fun a Z => ?_
    refine s_end Z [4, 6, 7, 9, 20] rfl fun Z => ?_
    refine p_then ?_
    refine f_cond Z rfl (fun hc3 => ?_) (fun hc3 => ?_)
    ·replace hF := ite_t hc3 hF
     refine f_region Z fun Z => ?_
     refine s_runk tMs2 Z 1 rfl rfl fun a Z => ?_
     refine sO Z _ rfl (oL tMs2 rfl rfl (H.bc 2 2 rfl rfl)) fun a Z => ?_
     refine s_runk tMs2 Z 1 rfl rfl fun a Z => ?_
     refine hT tMs2 Z H 0 rfl rfl rfl rfl rfl (one_cons rfl one_nil) (Nat.le_of_ble_eq_true rfl) rfl fun w10 H => ?_
     dsimp only [List.eraseIdx] at H
     refine s_end Z [6, 7] rfl fun Z => ?_
     refine p_blk ?_
     refine p_then ?_
     replace H := H.sX (REMsg b4 ({ x with req := m.req } : EMsg)) (v1_x, v2_x, v3_x, v4_x, v5_x) [(0, false), (3, true), (4, true), (5, true), (6, true), (7, true)] rfl rfl rfl
     exact ⟨({ x with req := m.req } : EMsg), Z.sub (ts := [6, 7]) rfl, ⟨I, (H.sub [(1, false), (0, false)] rfl).eq rfl⟩, hF⟩
    ·replace hF := ite_f hc3 hF
     refine wp_seq (f_region Z ?_); clear Z; intro Z
     refine s_runk tMs2 Z 2 rfl rfl fun a Z => ?_
     refine s_end Z [4, 6, 7, 9, 25] rfl fun Z => ?_
     refine p_then ?_
     refine f_cond Z rfl (fun hc4 => ?_) (fun hc4 => ?_)
     ·replace hF := ite_t hc4 hF
      refine f_region Z fun Z => ?_
      refine s_runk tMs2 Z 1 rfl rfl fun a Z => ?_
      refine sO Z _ rfl (oL tMs2 rfl rfl (H.bc 2 7 rfl rfl)) fun a Z => ?_
      refine s_runk tMs2 Z 1 rfl rfl fun a Z => ?_
      refine hT tMs2 Z H 0 rfl rfl rfl rfl rfl (one_cons rfl one_nil) (Nat.le_of_ble_eq_true rfl) rfl fun w11 H => ?_
      dsimp only [List.eraseIdx] at H
      refine s_end Z [6, 7] rfl fun Z => ?_
      refine p_blk ?_
      refine p_then ?_
      replace H := H.sX (REMsg b4 ({ x with n := m.n } : EMsg)) (v1_x, v2_x, v3_x, v4_x, v5_x) [(0, false), (3, true), (4, true), (5, true), (6, true), (7, true)] rfl rfl rfl
      exact ⟨({ x with n := m.n } : EMsg), Z.sub (ts := [6, 7]) rfl, ⟨I, (H.sub [(1, false), (0, false)] rfl).eq rfl⟩, hF⟩
     ·replace hF := ite_f hc4 hF
      refine wp_seq (f_region Z ?_); clear Z; intro Z
      refine s_runk tMs2 Z 2 rfl rfl fun a Z => ?_
      refine s_end Z [4, 6, 7, 9, 30] rfl fun Z => ?_
      refine p_then ?_
      refine f_cond Z rfl (fun hc5 => ?_) (fun hc5 => ?_)
      ·replace hF := ite_t hc5 hF
       refine f_region Z fun Z => ?_
       refine s_runk tMs2 Z 1 rfl rfl fun a Z => ?_
       refine sO Z _ rfl (oL tMs2 rfl rfl (H.bc 2 8 rfl rfl)) fun a Z => ?_
       refine s_runk tMs2 Z 1 rfl rfl fun a Z => ?_
       refine hT tMs2 Z H 0 rfl rfl rfl rfl rfl (one_cons rfl one_nil) (Nat.le_of_ble_eq_true rfl) rfl fun w12 H => ?_
       dsimp only [List.eraseIdx] at H
       refine s_end Z [6, 7] rfl fun Z => ?_
       refine p_blk ?_
       refine p_then ?_
       replace H := H.sX (REMsg b4 ({ x with m := m.m } : EMsg)) (v1_x, v2_x, v3_x, v4_x, v5_x) [(0, false), (3, true), (4, true), (5, true), (6, true), (7, true)] rfl rfl rfl
       exact ⟨({ x with m := m.m } : EMsg), Z.sub (ts := [6, 7]) rfl, ⟨I, (H.sub [(1, false), (0, false)] rfl).eq rfl⟩, hF⟩
      ·replace hF := ite_f hc5 hF
       refine wp_seq (f_region Z ?_); clear Z; intro Z
       refine s_runk tMs2 Z 2 rfl rfl fun a Z => ?_
       refine s_end Z [4, 6, 7, 9, 35] rfl fun Z => ?_
       refine p_then ?_
       refine f_cond Z rfl (fun hc6 => ?_) (fun hc6 => ?_)
       ·replace hF := ite_t hc6 hF
        refine f_region Z fun Z => ?_
        refine s_runk tMs2 Z 1 rfl rfl fun a Z => ?_
        refine sO Z _ rfl (oL tMs2 rfl rfl (H.bc 2 9 rfl rfl)) fun a Z => ?_
        refine s_runk tMs2 Z 1 rfl rfl fun a Z => ?_
        refine hT tMs2 Z H 0 rfl rfl rfl rfl rfl (one_cons rfl one_nil) (Nat.le_of_ble_eq_true rfl) rfl fun w13 H => ?_
        dsimp only [List.eraseIdx] at H
        refine s_end Z [6, 7] rfl fun Z => ?_
        refine p_blk ?_
        refine p_then ?_
        replace H := H.sX (REMsg b4 ({ x with p := m.p } : EMsg)) (v1_x, v2_x, v3_x, v4_x, v5_x) [(0, false), (3, true), (4, true), (5, true), (6, true), (7, true)] rfl rfl rfl
        exact ⟨({ x with p := m.p } : EMsg), Z.sub (ts := [6, 7]) rfl, ⟨I, (H.sub [(1, false), (0, false)] rfl).eq rfl⟩, hF⟩
       ·replace hF := ite_f hc6 hF
        refine wp_seq (f_region Z ?_); clear Z; intro Z
        refine s_runk tMs2 Z 2 rfl rfl fun a Z => ?_
        refine s_end Z [4, 6, 7, 9, 40] rfl fun Z => ?_
        refine p_then ?_
        refine f_cond Z rfl (fun hc7 => ?_) (fun hc7 => ?_)
        ·replace hF := ite_t hc7 hF
         refine f_region Z fun Z => ?_
         refine s_runk tMs2 Z 1 rfl rfl fun a Z => ?_
         refine sO Z _ rfl (oL tMs2 rfl rfl (H.bc 2 10 rfl rfl)) fun a Z => ?_
         refine s_runk tMs2 Z 1 rfl rfl fun a Z => ?_
         refine hT tMs2 Z H 0 rfl rfl rfl rfl rfl (one_cons rfl one_nil) (Nat.le_of_ble_eq_true rfl) rfl fun w14 H => ?_
         dsimp only [List.eraseIdx] at H
         refine s_end Z [6, 7] rfl fun Z => ?_
         refine p_blk ?_
         refine p_then ?_
         replace H := H.sX (REMsg b4 ({ x with e := m.e } : EMsg)) (v1_x, v2_x, v3_x, v4_x, v5_x) [(0, false), (3, true), (4, true), (5, true), (6, true), (7, true)] rfl rfl rfl
         exact ⟨({ x with e := m.e } : EMsg), Z.sub (ts := [6, 7]) rfl, ⟨I, (H.sub [(1, false), (0, false)] rfl).eq rfl⟩, hF⟩
        ·replace hF := ite_f hc7 hF
         refine wp_seq (f_region Z ?_); clear Z; intro Z
         refine s_runk tMs2 Z 2 rfl rfl fun a Z => ?_
         refine s_end Z [4, 6, 7, 9, 45] rfl fun Z => ?_
         refine p_then ?_
         refine f_cond Z rfl (fun hc8 => ?_) (fun hc8 => ?_)
         ·replace hF := ite_t hc8 hF
          refine f_region Z fun Z => ?_
          refine s_runk tMs2 Z 1 rfl rfl fun a Z => ?_
          refine sO Z _ rfl (oL tMs2 rfl rfl (H.bc 2 5 rfl rfl)) fun a Z => ?_
          refine s_runk tMs2 Z 1 rfl rfl fun a Z => ?_
          refine hT tMs2 Z H 0 rfl rfl rfl rfl rfl (one_cons rfl one_nil) (Nat.le_of_ble_eq_true rfl) rfl fun w15 H => ?_
          dsimp only [List.eraseIdx] at H
          refine s_end Z [6, 7] rfl fun Z => ?_
          refine p_blk ?_
          refine p_then ?_
          replace H := H.sX (REMsg b4 ({ x with at_ := m.at_ } : EMsg)) (v1_x, v2_x, v3_x, v4_x, v5_x) [(0, false), (3, true), (4, true), (5, true), (6, true), (7, true)] rfl rfl rfl
          exact ⟨({ x with at_ := m.at_ } : EMsg), Z.sub (ts := [6, 7]) rfl, ⟨I, (H.sub [(1, false), (0, false)] rfl).eq rfl⟩, hF⟩
         ·replace hF := ite_f hc8 hF
          refine wp_seq (f_region Z ?_); clear Z; intro Z
          refine s_runk tMs2 Z 2 rfl rfl fun a Z => ?_
          refine s_end Z [4, 6, 7, 9, 50] rfl fun Z => ?_
          refine p_then ?_
          refine f_cond Z rfl (fun hc9 => ?_) (fun hc9 => ?_)
          ·replace hF := ite_t hc9 hF
           refine f_region Z fun Z => ?_
           refine s_runk tMs2 Z 1 rfl rfl fun a Z => ?_
           refine sO Z _ rfl (oL tMs2 rfl rfl (H.bc 2 6 rfl rfl)) fun a Z => ?_
           refine s_runk tMs2 Z 1 rfl rfl fun a Z => ?_
           refine hT tMs2 Z H 0 rfl rfl rfl rfl rfl (one_cons rfl one_nil) (Nat.le_of_ble_eq_true rfl) rfl fun w16 H => ?_
           dsimp only [List.eraseIdx] at H
           refine s_end Z [6, 7] rfl fun Z => ?_
           refine p_blk ?_
           refine p_then ?_
           replace H := H.sX (REMsg b4 ({ x with last := m.last } : EMsg)) (v1_x, v2_x, v3_x, v4_x, v5_x) [(0, false), (3, true), (4, true), (5, true), (6, true), (7, true)] rfl rfl rfl
           exact ⟨({ x with last := m.last } : EMsg), Z.sub (ts := [6, 7]) rfl, ⟨I, (H.sub [(1, false), (0, false)] rfl).eq rfl⟩, hF⟩
          ·replace hF := ite_f hc9 hF
           refine wp_seq (f_region Z ?_); clear Z; intro Z
           refine s_runk tMs2 Z 2 rfl rfl fun a Z => ?_
           refine s_end Z [4, 6, 7, 9, 55] rfl fun Z => ?_
           refine p_then ?_
           refine f_cond Z rfl (fun hc10 => ?_) (fun hc10 => ?_)
           ·replace hF := ite_t hc10 hF
            refine f_region Z fun Z => ?_
            refine s_runk tMs2 Z 1 rfl rfl fun a Z => ?_
            refine sO Z _ rfl (oL tMs2 rfl rfl (H.bc 2 4 rfl rfl)) fun a Z => ?_
            refine s_runk tMs2 Z 1 rfl rfl fun a Z => ?_
            refine hT tMs2 Z H 0 rfl rfl rfl rfl rfl (one_cons rfl one_nil) (Nat.le_of_ble_eq_true rfl) rfl fun w17 H => ?_
            dsimp only [List.eraseIdx] at H
            refine s_end Z [6, 7] rfl fun Z => ?_
            refine p_blk ?_
            refine p_then ?_
            replace H := H.sX (REMsg b4 ({ x with flag := m.flag } : EMsg)) (v1_x, v2_x, v3_x, v4_x, v5_x) [(0, false), (3, true), (4, true), (5, true), (6, true), (7, true)] rfl rfl rfl
            exact ⟨({ x with flag := m.flag } : EMsg), Z.sub (ts := [6, 7]) rfl, ⟨I, (H.sub [(1, false), (0, false)] rfl).eq rfl⟩, hF⟩
           ·replace hF := ite_f hc10 hF
            refine wp_seq (f_region Z ?_); clear Z; intro Z
            refine s_runk tMs2 Z 2 rfl rfl fun a Z => ?_
            refine s_end Z [4, 6, 7, 9, 60] rfl fun Z => ?_
            refine p_then ?_
            refine f_cond Z rfl (fun hc11 => ?_) (fun hc11 => ?_)
            ·replace hF := ite_t hc11 hF
             refine f_region Z fun Z => ?_
             refine s_runk tMs2 Z 1 rfl rfl fun a Z => ?_
             refine sO Z _ rfl (oL tMs2 rfl rfl (H.bc 2 11 rfl rfl)) fun a Z => ?_
             refine s_runk tMs2 Z 1 rfl rfl fun a Z => ?_
             refine hT tMs2 Z H 0 rfl rfl rfl rfl rfl (one_cons rfl one_nil) (Nat.le_of_ble_eq_true rfl) rfl fun w18 H => ?_
             dsimp only [List.eraseIdx] at H
             refine s_end Z [6, 7] rfl fun Z => ?_
             refine p_blk ?_
             refine p_then ?_
             replace H := H.sX (REMsg b4 ({ x with key := m.key } : EMsg)) (v1_x, v2_x, v3_x, v4_x, v5_x) [(0, false), (3, true), (4, true), (5, true), (6, true), (7, true)] rfl rfl rfl
             exact ⟨({ x with key := m.key } : EMsg), Z.sub (ts := [6, 7]) rfl, ⟨I, (H.sub [(1, false), (0, false)] rfl).eq rfl⟩, hF⟩
            ·replace hF := ite_f hc11 hF
             refine wp_seq (f_region Z ?_); clear Z; intro Z
             refine s_runk tMs2 Z 2 rfl rfl fun a Z => ?_
             refine s_end Z [4, 6, 7, 9, 65] rfl fun Z => ?_
             refine p_then ?_
             refine f_cond Z rfl (fun hc12 => ?_) (fun hc12 => ?_)
             ·replace hF := ite_t hc12 hF
              refine f_region Z fun Z => ?_
              refine s_runk tMs2 Z 1 rfl rfl fun a Z => ?_
              refine sO Z _ rfl (oL tMs2 rfl rfl (H.bc 2 12 rfl rfl)) fun a Z => ?_
              refine s_runk tMs2 Z 1 rfl rfl fun a Z => ?_
              refine hT tMs2 Z H 0 rfl rfl rfl rfl rfl (one_cons rfl one_nil) (Nat.le_of_ble_eq_true rfl) rfl fun w19 H => ?_
              dsimp only [List.eraseIdx] at H
              refine s_end Z [6, 7] rfl fun Z => ?_
              refine p_blk ?_
              refine p_then ?_
              replace H := H.sX (REMsg b4 ({ x with to_ := m.to_ } : EMsg)) (v1_x, v2_x, v3_x, v4_x, v5_x) [(0, false), (3, true), (4, true), (5, true), (6, true), (7, true)] rfl rfl rfl
              exact ⟨({ x with to_ := m.to_ } : EMsg), Z.sub (ts := [6, 7]) rfl, ⟨I, (H.sub [(1, false), (0, false)] rfl).eq rfl⟩, hF⟩
             ·replace hF := ite_f hc12 hF
              refine wp_seq (f_region Z ?_); clear Z; intro Z
              refine s_runk tMs2 Z 2 rfl rfl fun a Z => ?_
              refine s_end Z [4, 6, 7, 9, 70] rfl fun Z => ?_
              refine p_then ?_
              refine f_cond Z rfl (fun hc13 => ?_) (fun hc13 => ?_)
              ·replace hF := ite_t hc13 hF
               refine f_region Z fun Z => ?_
               refine s_runk tMs2 Z 1 rfl rfl fun a Z => ?_
               refine sO Z (.agg #[vI m.conf.epoch, v6_m, vU m.conf.floor]) rfl (oA tMs2 rfl rfl ((H.bx 2 rfl).part 13 rfl)) fun a Z => ?_
               refine s_runk tMs2 Z 1 rfl rfl fun a Z => ?_
               refine hT tMs2 Z H 0 rfl rfl rfl rfl rfl (one_cons rfl (one_cons (slS.one (H.slshape 9 rfl)) (one_cons rfl one_nil))) (Nat.le_of_ble_eq_true rfl) rfl fun w20 H => ?_
               dsimp only [List.eraseIdx] at H
               refine s_end Z [6, 7] rfl fun Z => ?_
               refine p_blk ?_
               refine p_then ?_
               replace H := H.sX (REMsg b4 ({ x with conf := m.conf } : EMsg)) (v6_m, v2_x, v3_x, v4_x, v5_x) [(0, false), (8, true), (4, true), (5, true), (6, true), (7, true)] rfl rfl rfl
               exact ⟨({ x with conf := m.conf } : EMsg), Z.sub (ts := [6, 7]) rfl, ⟨I, (H.sub [(1, false), (0, false)] rfl).eq rfl⟩, hF⟩
              ·replace hF := ite_f hc13 hF
               refine wp_seq (f_region Z ?_); clear Z; intro Z
               refine s_runk tMs2 Z 2 rfl rfl fun a Z => ?_
               refine s_end Z [4, 6, 7, 9, 75] rfl fun Z => ?_
               refine p_then ?_
               refine f_cond Z rfl (fun hc14 => ?_) (fun hc14 => ?_)
               ·replace hF := ite_t hc14 hF
                refine f_region Z fun Z => ?_
                refine s_runk tMs2 Z 1 rfl rfl fun a Z => ?_
                refine sO Z (.agg #[vI m.batch.client, vI m.batch.req, v7_m]) rfl (oA tMs2 rfl rfl ((H.bx 2 rfl).part 16 rfl)) fun a Z => ?_
                refine s_runk tMs2 Z 1 rfl rfl fun a Z => ?_
                refine hT tMs2 Z H 0 rfl rfl rfl rfl rfl (onR 2 rfl (one_cons (slS.one (H.slshape 10 rfl)) one_nil)) (Nat.le_of_ble_eq_true rfl) rfl fun w21 H => ?_
                dsimp only [List.eraseIdx] at H
                refine s_end Z [6, 7] rfl fun Z => ?_
                refine p_blk ?_
                refine p_then ?_
                replace H := H.sX (REMsg b4 ({ x with batch := m.batch } : EMsg)) (v1_x, v7_m, v3_x, v4_x, v5_x) [(0, false), (3, true), (9, true), (5, true), (6, true), (7, true)] rfl rfl rfl
                exact ⟨({ x with batch := m.batch } : EMsg), Z.sub (ts := [6, 7]) rfl, ⟨I, (H.sub [(1, false), (0, false)] rfl).eq rfl⟩, hF⟩
               ·replace hF := ite_f hc14 hF
                refine wp_seq (f_region Z ?_); clear Z; intro Z
                refine s_runk tMs2 Z 2 rfl rfl fun a Z => ?_
                refine s_end Z [4, 6, 7, 9, 80] rfl fun Z => ?_
                refine p_then ?_
                refine f_cond Z rfl (fun hc15 => ?_) (fun hc15 => ?_)
                ·replace hF := ite_t hc15 hF
                 refine f_region Z fun Z => ?_
                 refine s_runk tMs2 Z 1 rfl rfl fun a Z => ?_
                 refine sO Z _ rfl (oL tMs2 rfl rfl (H.bc 2 19 rfl rfl)) fun a Z => ?_
                 refine s_runk tMs2 Z 1 rfl rfl fun a Z => ?_
                 refine hT tMs2 Z H 0 rfl rfl (slS.cells (H.slshape 11 rfl)) rfl rfl (one_cons (slS.one (H.slshape 11 rfl)) one_nil) (Nat.le_of_ble_eq_true rfl) rfl fun w22 H => ?_
                 dsimp only [List.eraseIdx] at H
                 refine s_end Z [6, 7] rfl fun Z => ?_
                 refine p_blk ?_
                 refine p_then ?_
                 replace H := H.sX (REMsg b4 ({ x with entries := m.entries } : EMsg)) (v1_x, v2_x, v8_m, v4_x, v5_x) [(0, false), (3, true), (4, true), (10, true), (6, true), (7, true)] rfl rfl rfl
                 exact ⟨({ x with entries := m.entries } : EMsg), Z.sub (ts := [6, 7]) rfl, ⟨I, (H.sub [(1, false), (0, false)] rfl).eq rfl⟩, hF⟩
                ·replace hF := ite_f hc15 hF
                 refine wp_seq (f_region Z ?_); clear Z; intro Z
                 refine s_runk tMs2 Z 2 rfl rfl fun a Z => ?_
                 refine s_end Z [4, 6, 7, 9, 85] rfl fun Z => ?_
                 refine p_then ?_
                 refine f_cond Z rfl (fun hc16 => ?_) (fun hc16 => ?_)
                 ·replace hF := ite_t hc16 hF
                  refine f_region Z fun Z => ?_
                  refine s_runk tMs2 Z 1 rfl rfl fun a Z => ?_
                  refine sO Z _ rfl (oL tMs2 rfl rfl (H.bc 2 20 rfl rfl)) fun a Z => ?_
                  refine s_runk tMs2 Z 1 rfl rfl fun a Z => ?_
                  refine hT tMs2 Z H 0 rfl rfl (slS.cells (H.slshape 12 rfl)) rfl rfl (one_cons (slS.one (H.slshape 12 rfl)) one_nil) (Nat.le_of_ble_eq_true rfl) rfl fun w23 H => ?_
                  dsimp only [List.eraseIdx] at H
                  refine s_end Z [6, 7] rfl fun Z => ?_
                  refine p_blk ?_
                  refine p_then ?_
                  replace H := H.sX (REMsg b4 ({ x with stamps := m.stamps } : EMsg)) (v1_x, v2_x, v3_x, v9_m, v5_x) [(0, false), (3, true), (4, true), (5, true), (11, true), (7, true)] rfl rfl rfl
                  exact ⟨({ x with stamps := m.stamps } : EMsg), Z.sub (ts := [6, 7]) rfl, ⟨I, (H.sub [(1, false), (0, false)] rfl).eq rfl⟩, hF⟩
                 ·replace hF := ite_f hc16 hF
                  refine wp_seq (f_region Z ?_); clear Z; intro Z
                  refine s_runk tMs2 Z 2 rfl rfl fun a Z => ?_
                  refine s_end Z [4, 6, 7, 90] rfl fun Z => ?_
                  refine p_then ?_
                  refine f_cond Z rfl (fun hc17 => ?_) (fun hc17 => ?_)
                  ·replace hF := ite_t hc17 hF
                   refine f_region Z fun Z => ?_
                   refine s_runk tMs2 Z 1 rfl rfl fun a Z => ?_
                   refine sO Z _ rfl (oL tMs2 rfl rfl (H.bc 2 21 rfl rfl)) fun a Z => ?_
                   refine s_runk tMs2 Z 1 rfl rfl fun a Z => ?_
                   refine hT tMs2 Z H 0 rfl rfl (slS.cells (H.slshape 13 rfl)) rfl rfl (one_cons (slS.one (H.slshape 13 rfl)) one_nil) (Nat.le_of_ble_eq_true rfl) rfl fun w24 H => ?_
                   dsimp only [List.eraseIdx] at H
                   refine s_end Z [6, 7] rfl fun Z => ?_
                   refine p_blk ?_
                   refine p_then ?_
                   replace H := H.sX (REMsg b4 ({ x with pairs := m.pairs } : EMsg)) (v1_x, v2_x, v3_x, v4_x, v10_m) [(0, false), (3, true), (4, true), (5, true), (6, true), (12, true)] rfl rfl rfl
                   exact ⟨({ x with pairs := m.pairs } : EMsg), Z.sub (ts := [6, 7]) rfl, ⟨I, (H.sub [(1, false), (0, false)] rfl).eq rfl⟩, hF⟩
                  ·replace hF := ite_f hc17 hF
                   refine wp_skip ?_
                   refine p_blk ?_
                   refine p_then ?_
                   replace H := H.sX (REMsg b4 x) (v1_x, v2_x, v3_x, v4_x, v5_x) [(0, false), (3, true), (4, true), (5, true), (6, true), (7, true)] rfl rfl rfl
                   exact ⟨x, Z.sub (ts := [6, 7]) rfl, ⟨I, (H.sub [(1, false), (0, false)] rfl).eq rfl⟩, hF⟩

def F_ref09_Clean_l1 (m : EMsg) (p : ByteArray) (rc : (Int × Int × Int × Int × Int × Bool × Int × Int × Int × Int × Int × Int × ByteArray × ByteArray × Int × (List EMember) × Int × Int × Int × (List EOp) × (List EEntry) × (List Int) × (List EPair)) → Option EMsg) (sg : Int × Int × Int × Int × Int × Bool × Int × Int × Int × Int × Int × Int × ByteArray × ByteArray × Int × (List EMember) × Int × Int × Int × (List EOp) × (List EEntry) × (List Int) × (List EPair)) : Option EMsg := match sg with | (i, x_k, x_epoch, x_req, x_serial, x_flag, x_at_, x_last, x_n, x_m, x_p, x_e, x_key, x_to_, x_conf_epoch, x_conf_members, x_conf_floor, x_batch_client, x_batch_req, x_batch_ops, x_entries, x_stamps, x_pairs) => if (decide (i < (p.size : Int))) = true then (chk ((0 : Int) ≤ i ∧ i < (p.size : Int)) ((F_ref09_part ({ k := x_k, epoch := x_epoch, req := x_req, serial := x_serial, flag := x_flag, at_ := x_at_, last := x_last, n := x_n, m := x_m, p := x_p, e := x_e, key := x_key, to_ := x_to_, conf := ({ epoch := x_conf_epoch, members := x_conf_members, floor := x_conf_floor } : EConf), batch := ({ client := x_batch_client, req := x_batch_req, ops := x_batch_ops } : EBatch), entries := x_entries, stamps := x_stamps, pairs := x_pairs } : EMsg) m (byteAt p (i).toNat : Int)).bind fun p_2 => (chk (inI (i + 1)) (rc (i + 1, p_2.k, p_2.epoch, p_2.req, p_2.serial, p_2.flag, p_2.at_, p_2.last, p_2.n, p_2.m, p_2.p, p_2.e, p_2.key, p_2.to_, p_2.conf.epoch, p_2.conf.members, p_2.conf.floor, p_2.batch.client, p_2.batch.req, p_2.batch.ops, p_2.entries, p_2.stamps, p_2.pairs))))) else (some ({ k := x_k, epoch := x_epoch, req := x_req, serial := x_serial, flag := x_flag, at_ := x_at_, last := x_last, n := x_n, m := x_m, p := x_p, e := x_e, key := x_key, to_ := x_to_, conf := ({ epoch := x_conf_epoch, members := x_conf_members, floor := x_conf_floor } : EConf), batch := ({ client := x_batch_client, req := x_batch_req, ops := x_batch_ops } : EBatch), entries := x_entries, stamps := x_stamps, pairs := x_pairs } : EMsg))

def F_ref09_Clean (m : EMsg) : Option EMsg := (F_ref09_parts m.k).bind fun p => (if (seqB p ⟨#[63]⟩) = true then (some (default : EMsg)) else (iter (F_ref09_Clean_l1 m p) FU (0, m.k, 0, 0, 0, false, 0, 0, 0, 0, 0, 0, ByteArray.empty, ByteArray.empty, 0, ([] : List EMember), 0, 0, 0, ([] : List EOp), ([] : List EEntry), ([] : List Int), ([] : List EPair))))

set_option maxHeartbeats 1000000 in
theorem c_ref09_Clean {I D : Dm} {m : EMsg} {v1_m : Value} {v2_m : Value} {v3_m : Value} {v4_m : Value} {v5_m : Value} {w : World} {rr : EMsg} (hF : F_ref09_Clean m = some rr) (H : St I D w [SlC NEMember v1_m m.conf.members, SlC NEOp v2_m m.batch.ops, SlC NEEntry v3_m m.entries, SlC Nu64 v4_m m.stamps, SlC NEPair v5_m m.pairs]) :
  Calls Tryz.prog 15 #[.agg (cEMsg m v1_m v2_m v3_m v4_m v5_m).toArray] w (Ret fun vv w' => ∃ q1 q2 q3 q4 q5 : Value, vv = .agg (cEMsg rr q1 q2 q3 q4 q5).toArray ∧ ∃ I', Hf I D w I' w' [SlC NEMember q1 rr.conf.members, SlC NEOp q2 rr.batch.ops, SlC NEEntry q3 rr.entries, SlC Nu64 q4 rr.stamps, SlC NEPair q5 rr.pairs]) := by
 replace H := H.hf
 unfold F_ref09_Clean at hF
 refine f_enter 28 Tryz.func15 rfl rfl (Nat.le_of_ble_eq_true rfl) fun a Z => ?_
 replace Z := Z.sub (ts := [0]) rfl
 refine wp_seq (f_region Z ?_); clear Z; intro Z
 refine h_boxv Z H (cl := (cEMsg m v1_m v2_m v3_m v4_m v5_m)) rfl rfl rfl (by decide) rfl rfl rfl fun a w1 b1 H Z => ?_
 refine hA Z H [vI 0, vI 0, vI 0, vI 0, vT false, vU 0, vU 0, vI 0, vI 0, vI 0, vI 0, vS ByteArray.empty, vS ByteArray.empty, vI 0, nS, vU 0, vI 0, vI 0, nS, nS, nS, nS] rfl rfl (by kernel_rfl) fun a w2 b2 H Z => ?_
 refine s_end Z [1, 2] rfl fun Z => ?_
 refine p_then (wp_seq ?_)
 obtain ⟨p, hx1, hF⟩ := bnd_in hF
 refine f_region Z fun Z => ?_
 refine s_runk tMs2 Z 1 rfl rfl fun a Z => ?_
 refine sO Z _ rfl (oL tMs2 rfl rfl (H.bc 1 0 rfl rfl)) fun a Z => ?_
 refine hC Z H [] rfl #[] fn_26_YMs2 rfl rfl (fun D h => have q := c_ref09_parts hx1 h; q) fun vv a w3 D2 hr hF2 Z => ?_
 obtain ⟨rfl, I1, K⟩ := hr
 have H := (hF2 K).nf rfl
 refine s_runk tMs2 Z 1 rfl rfl fun a Z => ?_
 refine s_end Z [1, 2, 3] rfl fun Z => ?_
 refine p_then (wp_seq ?_)
 refine wp_seq (f_region Z ?_); clear Z; intro Z
 refine s_runk tMs2 Z 2 rfl rfl fun a Z => ?_
 refine s_end Z [1, 2, 3, 10] rfl fun Z => ?_
 refine p_then ?_
 refine f_cond Z rfl (fun hc1 => ?_) (fun hc1 => ?_)
 ·replace hF := ite_t hc1 hF
  refine wp_seq (f_region Z ?_); clear Z; intro Z
  refine sO Z (.agg #[vI 0, vI 0, vI 0, vI 0, vT false, vU 0, vU 0, vI 0, vI 0, vI 0, vI 0, vS ByteArray.empty, vS ByteArray.empty, vI 0, nS, vU 0, vI 0, vI 0, nS, nS, nS, nS]) rfl (Ob_build (vs := []) rfl rfl (by go_simp <;> rfl)) fun a Z => ?_
  refine hT tMs2 Z H 0 rfl rfl rfl rfl rfl (onR 14 rfl (one_cons (slS.one slS.nil) (onR 3 rfl (one_cons (slS.one slS.nil) (one_cons (slS.one slS.nil) (one_cons (slS.one slS.nil) (one_cons (slS.one slS.nil) one_nil))))))) (Nat.le_of_ble_eq_true rfl) (putCells_all rfl) fun w4 H => ?_
  dsimp only [List.eraseIdx] at H
  refine s_end Z [2] rfl fun Z => ?_
  refine p_then (wp_ret ?_)
  refine p_then_r ?_
  replace H := H.slNil NEMember
  replace H := H.slNil NEOp
  replace H := H.slNil NEEntry
  replace H := H.slNil Nu64
  replace H := H.slNil NEPair
  obtain rfl := some_in hF
  exact f_ret Z (run_resultsC rfl Z rfl (run_loadVar_agg tMs2 rfl (H.bx 5 rfl).at)) ⟨nS, nS, nS, nS, nS, rfl, I1, (H.sub [(4, true), (3, true), (2, true), (1, true), (0, true)] rfl).eq rfl⟩
 ·replace hF := ite_f hc1 hF
  refine wp_skip ?_
  refine p_then (wp_seq (f_region Z ?_)); clear Z; intro Z
  refine s_runk tMs2 Z 1 rfl rfl fun a Z => ?_
  refine sO Z _ rfl (oL tMs2 rfl rfl (H.bc 1 0 rfl rfl)) fun a Z => ?_
  refine sO Z (.agg #[vI m.k, vI 0, vI 0, vI 0, vT false, vU 0, vU 0, vI 0, vI 0, vI 0, vI 0, vS ByteArray.empty, vS ByteArray.empty, vI 0, nS, vU 0, vI 0, vI 0, nS, nS, nS, nS]) rfl (Ob_build (vs := [(0, vI m.k)]) rfl rfl (by go_simp <;> rfl)) fun a Z => ?_
  refine hA Z H [vI 0, vI 0, vI 0, vI 0, vT false, vU 0, vU 0, vI 0, vI 0, vI 0, vI 0, vS ByteArray.empty, vS ByteArray.empty, vI 0, nS, vU 0, vI 0, vI 0, nS, nS, nS, nS] rfl rfl (by kernel_rfl) fun a w5 b3 H Z => ?_
  refine hT tMs2 Z H 0 rfl rfl rfl rfl rfl (onR 14 rfl (one_cons (slS.one slS.nil) (onR 3 rfl (one_cons (slS.one slS.nil) (one_cons (slS.one slS.nil) (one_cons (slS.one slS.nil) (one_cons (slS.one slS.nil) one_nil))))))) (Nat.le_of_ble_eq_true rfl) (putCells_all rfl) fun w6 H => ?_
  dsimp only [List.eraseIdx] at H
  refine s_end Z [1, 2, 3, 4] rfl fun Z => ?_
  refine p_then (wp_seq ?_)
  refine wp_seq (f_region Z ?_); clear Z; intro Z
  refine s_runk tMs2 Z 1 rfl rfl fun a Z => ?_
  refine s_end Z [1, 2, 3, 4, 5] rfl fun Z => ?_
  refine p_then (wp_block ?_)
  replace H := H.slNil NEMember
  replace H := H.slNil NEOp
  replace H := H.slNil NEEntry
  replace H := H.slNil Nu64
  replace H := H.slNil NEPair
  refine f_iter hF (fun sg a' w' => match sg with | (i, x_k, x_epoch, x_req, x_serial, x_flag, x_at_, x_last, x_n, x_m, x_p, x_e, x_key, x_to_, x_conf_epoch, x_conf_members, x_conf_floor, x_batch_client, x_batch_req, x_batch_ops, x_entries, x_stamps, x_pairs) => ∃ v6 v7 v8 v9 v10 : Value, Sl 28 [(1, pp b1 0), (2, pp b2 0), (3, vS p), (4, pp b3 0), (5, vI i)] a' ∧ ∃ I2, Hf I D w I2 w' [BxC b1 35 (cEMsg m v1_m v2_m v3_m v4_m v5_m), BxC b2 35 [vI 0, vI 0, vI 0, vI 0, vT false, vU 0, vU 0, vI 0, vI 0, vI 0, vI 0, vS ByteArray.empty, vS ByteArray.empty, vI 0, nS, vU 0, vI 0, vI 0, nS, nS, nS, nS], BxC b3 35 [vI x_k, vI x_epoch, vI x_req, vI x_serial, vT x_flag, vU x_at_, vU x_last, vI x_n, vI x_m, vI x_p, vI x_e, vS x_key, vS x_to_, vI x_conf_epoch, v6, vU x_conf_floor, vI x_batch_client, vI x_batch_req, v7, v8, v9, v10], SlC NEMember v1_m m.conf.members, SlC NEOp v2_m m.batch.ops, SlC NEEntry v3_m m.entries, SlC Nu64 v4_m m.stamps, SlC NEPair v5_m m.pairs, SlC NEMember v6 x_conf_members, SlC NEOp v7 x_batch_ops, SlC NEEntry v8 x_entries, SlC Nu64 v9 x_stamps, SlC NEPair v10 x_pairs]) ⟨nS, nS, nS, nS, nS, Z.sub (ts := [1, 2, 3, 4, 5]) rfl, ⟨I1, (H.sub [(7, false), (6, false), (5, false), (5, true), (6, true), (7, true), (8, true), (9, true), (4, true), (3, true), (2, true), (1, true), (0, true)] rfl).eq rfl⟩⟩ ?_
  rintro rc ⟨i, x_k, x_epoch, x_req, x_serial, x_flag, x_at_, x_last, x_n, x_m, x_p, x_e, x_key, x_to_, x_conf_epoch, x_conf_members, x_conf_floor, x_batch_client, x_batch_req, x_batch_ops, x_entries, x_stamps, x_pairs⟩ a w7 ⟨v6, v7, v8, v9, v10, Z, I2, H⟩ hF
  unfold F_ref09_Clean_l1 at hF
  try dsimp only at hF
  refine wp_seq ?_
  refine wp_seq (f_region Z ?_); clear Z; intro Z
  refine s_runk tMs2 Z 4 rfl rfl fun a Z => ?_
  refine s_end Z [1, 2, 3, 4, 5, 18] rfl fun Z => ?_
  refine p_then ?_
  refine f_cond Z rfl (fun hc2 => ?_) (fun hc2 => ?_)
  ·replace hF := ite_t hc2 hF
   refine wp_skip ?_
   refine p_then (wp_seq ?_)
   refine wp_block ?_
   obtain ⟨hg1, hF⟩ := chk_in hF
   obtain ⟨p_2, hx2, hF⟩ := bnd_in hF
   refine f_quietS 5 (by kernel_rfl) (by kernel_rfl) (by kernel_rfl) (by kernel_rfl) (by kernel_rfl) Z fun Z => ?_
   refine qO Z (.agg #[vI x_k, vI x_epoch, vI x_req, vI x_serial, vT x_flag, vU x_at_, vU x_last, vI x_n, vI x_m, vI x_p, vI x_e, vS x_key, vS x_to_, vI x_conf_epoch, v6, vU x_conf_floor, vI x_batch_client, vI x_batch_req, v7, v8, v9, v10]) rfl (fun _ hw => oA tMs2 rfl rfl (((H.blw hw).bx 2 rfl).part 0 rfl)) fun a Z => ?_
   refine qO Z (.agg (cEMsg m v1_m v2_m v3_m v4_m v5_m).toArray) rfl (fun _ hw => oA tMs2 rfl rfl (((H.blw hw).bx 0 rfl).part 0 rfl)) fun a Z => ?_
   refine q_runk tMs2 Z 2 rfl rfl fun a Z => ?_
   refine qO Z (.int .u8 (byteAt p (i).toNat : Int)) rfl (fun _ hw => Ob_sidxs tMs2 rfl rfl rfl rfl hg1) fun a Z => ?_
   refine q_endS Z [1, 2, 3, 4, 5, 18, 21, 22, 23, 24, 25] rfl fun w8 hb Z => ?_
   replace H := H.blw hb
   clear hb
   refine hC Z H [(8, true), (9, true), (10, true), (11, true), (12, true), (3, true), (4, true), (5, true), (6, true), (7, true)] rfl #[] fn_45_YMs2 rfl rfl (fun D h => have q := c_ref09_part hx2 h; q) fun vv a w9 D2 hr hF2 Z => ?_
   obtain ⟨q1, q2, q3, q4, q5, rfl, I3, K⟩ := hr
   have H := (hF2 K).nf rfl
   refine hT tMs2 Z H 7 rfl rfl rfl rfl rfl (onR 14 rfl (one_cons (slS.one (H.slshape 0 rfl)) (onR 3 rfl (one_cons (slS.one (H.slshape 1 rfl)) (one_cons (slS.one (H.slshape 2 rfl)) (one_cons (slS.one (H.slshape 3 rfl)) (one_cons (slS.one (H.slshape 4 rfl)) one_nil))))))) (Nat.le_of_ble_eq_true rfl) (putCells_all rfl) fun w10 H => ?_
   dsimp only [List.eraseIdx] at H
   refine s_end Z [1, 2, 3, 4, 5] rfl fun Z => ?_
   refine p_blk ?_
   refine p_then ?_
   obtain ⟨hg2, hF⟩ := chk_in hF
   refine f_region Z fun Z => ?_
   refine s_runk tMs2 Z 1 rfl rfl fun a Z => ?_
   refine sO Z (vI (i + 1)) rfl (Ob_add rfl rfl rfl (wrI hg2)) fun a Z => ?_
   refine s_runk tMs2 Z 1 rfl rfl fun a Z => ?_
   refine s_end Z [1, 2, 3, 4, 5] rfl fun Z => ?_
   refine p_then ?_
   exact ⟨(i + 1, p_2.k, p_2.epoch, p_2.req, p_2.serial, p_2.flag, p_2.at_, p_2.last, p_2.n, p_2.m, p_2.p, p_2.e, p_2.key, p_2.to_, p_2.conf.epoch, p_2.conf.members, p_2.conf.floor, p_2.batch.client, p_2.batch.req, p_2.batch.ops, p_2.entries, p_2.stamps, p_2.pairs), ⟨q1, q2, q3, q4, q5, Z.sub (ts := [1, 2, 3, 4, 5]) rfl, ⟨I3, (H.sub [(6, false), (6, false), (0, false), (5, true), (6, true), (7, true), (8, true), (9, true), (0, true), (1, true), (2, true), (3, true), (4, true)] rfl).eq rfl⟩⟩, hF⟩
  ·replace hF := ite_f hc2 hF
   refine wp_exit ?_
   refine p_then_x ?_
   refine p_then_x ?_
   refine f_exit_here ?_
   refine p_then (wp_seq (f_region Z ?_)); clear Z; intro Z
   refine sO Z (.agg #[vI x_k, vI x_epoch, vI x_req, vI x_serial, vT x_flag, vU x_at_, vU x_last, vI x_n, vI x_m, vI x_p, vI x_e, vS x_key, vS x_to_, vI x_conf_epoch, v6, vU x_conf_floor, vI x_batch_client, vI x_batch_req, v7, v8, v9, v10]) rfl (oA tMs2 rfl rfl ((H.bx 2 rfl).part 0 rfl)) fun a Z => ?_
   refine hT tMs2 Z H 1 rfl rfl rfl rfl rfl (onR 14 rfl (one_cons (slS.one (H.slshape 8 rfl)) (onR 3 rfl (one_cons (slS.one (H.slshape 9 rfl)) (one_cons (slS.one (H.slshape 10 rfl)) (one_cons (slS.one (H.slshape 11 rfl)) (one_cons (slS.one (H.slshape 12 rfl)) one_nil))))))) (Nat.le_of_ble_eq_true rfl) (putCells_all rfl) fun w11 H => ?_
   dsimp only [List.eraseIdx] at H
   refine s_end Z [2] rfl fun Z => ?_
   refine p_then (wp_ret ?_)
   obtain rfl := some_in hF
   exact f_ret Z (run_resultsC rfl Z rfl (run_loadVar_agg tMs2 rfl (H.bx 0 rfl).at)) ⟨v6, v7, v8, v9, v10, rfl, I2, (H.sub [(8, true), (9, true), (10, true), (11, true), (12, true)] rfl).eq rfl⟩

def F_ref08_SameAll_l1 (a0 : List EEntry) (b : List EEntry) (rc : Int → Option Bool) (sg : Int) : Option Bool := match sg with | i => if ((decide (i < (a0.length : Int))) && (decide (i < (b.length : Int)))) = true then (chk ((0 : Int) ≤ i ∧ i < (a0.length : Int)) (chk ((0 : Int) ≤ i ∧ i < (b.length : Int)) ((F_ref08_Same ({ (a0.getD (i).toNat default) with batch := ({ client := ((a0.getD (i).toNat default).batch).client, req := ((a0.getD (i).toNat default).batch).req, ops := ((a0.getD (i).toNat default).batch).ops } : EBatch) } : EEntry) ({ (b.getD (i).toNat default) with batch := ({ client := ((b.getD (i).toNat default).batch).client, req := ((b.getD (i).toNat default).batch).req, ops := ((b.getD (i).toNat default).batch).ops } : EBatch) } : EEntry)).bind fun s0 => (if (!s0) = true then (some false) else (chk (inI (i + 1)) (rc (i + 1))))))) else (some true)

def F_ref08_SameAll (a0 : List EEntry) (b : List EEntry) : Option Bool := if ((a0.length : Int) != (b.length : Int)) = true then (some false) else (iter (F_ref08_SameAll_l1 a0 b) FU 0)

set_option maxHeartbeats 1000000 in
theorem c_ref08_SameAll {I D : Dm} {a0 : List EEntry} {v1_a0 : Value} {b : List EEntry} {v2_b : Value} {w : World} {rr : Bool} (hF : F_ref08_SameAll a0 b = some rr) (H : St I D w [SlC NEEntry v1_a0 a0, SlC NEEntry v2_b b]) :
  Calls Tryz.prog 31 #[v1_a0, v2_b] w (Ret fun vv w' => vv = vT rr ∧ ∃ I', Hf I D w I' w' []) := by
 replace H := H.hf
 unfold F_ref08_SameAll at hF
 refine f_enter 33 Tryz.func31 rfl rfl (Nat.le_of_ble_eq_true rfl) fun a Z => ?_
 replace Z := Z.sub (ts := [0, 1]) rfl
 refine wp_seq (f_region Z ?_); clear Z; intro Z
 refine s_runk tMs2 Z 1 rfl rfl fun a Z => ?_
 refine s_end Z [0, 1] rfl fun Z => ?_
 refine p_then (wp_seq ?_)
 refine wp_seq (f_region Z ?_); clear Z; intro Z
 refine s_runk tMs2 Z 1 rfl rfl fun a Z => ?_
 refine sO Z (vI (ln a0)) rfl (Ob_slen tMs2 rfl rfl rfl (H.slshape 0 rfl)) fun a Z => ?_
 refine s_runk tMs2 Z 1 rfl rfl fun a Z => ?_
 refine sO Z (vI (ln b)) rfl (Ob_slen tMs2 rfl rfl rfl (H.slshape 1 rfl)) fun a Z => ?_
 refine s_runk tMs2 Z 1 rfl rfl fun a Z => ?_
 refine s_end Z [0, 1, 10] rfl fun Z => ?_
 refine p_then ?_
 refine f_cond Z rfl (fun hc1 => ?_) (fun hc1 => ?_)
 ·replace hF := ite_t hc1 hF
  refine wp_seq (f_region Z ?_); clear Z; intro Z
  refine s_runk tMs2 Z 1 rfl rfl fun a Z => ?_
  refine s_end Z [4] rfl fun Z => ?_
  refine p_then (wp_ret ?_)
  refine p_then_r ?_
  obtain rfl := some_in hF
  exact f_ret Z (run_results1 rfl Z rfl) ⟨rfl, I, (H.sub [] rfl).eq rfl⟩
 ·replace hF := ite_f hc1 hF
  refine wp_skip ?_
  refine p_then (wp_seq ?_)
  refine wp_seq (f_region Z ?_); clear Z; intro Z
  refine s_runk tMs2 Z 1 rfl rfl fun a Z => ?_
  refine s_end Z [0, 1, 5] rfl fun Z => ?_
  refine p_then (wp_block ?_)
  refine f_iter hF (fun sg a' w' => match sg with | i => Sl 33 [(0, v1_a0), (1, v2_b), (5, vI i)] a' ∧ ∃ I2, Hf I D w I2 w' [SlC NEEntry v1_a0 a0, SlC NEEntry v2_b b]) ⟨Z.sub (ts := [0, 1, 5]) rfl, ⟨I, (H.sub [(0, true), (1, true)] rfl).eq rfl⟩⟩ ?_
  rintro rc i a w1 ⟨Z, I1, H⟩ hF
  unfold F_ref08_SameAll_l1 at hF
  try dsimp only at hF
  refine wp_seq ?_
  refine wp_seq (f_region Z ?_); clear Z; intro Z
  refine s_runk tMs2 Z 2 rfl rfl fun a Z => ?_
  refine sO Z (vI (ln a0)) rfl (Ob_slen tMs2 rfl rfl rfl (H.slshape 0 rfl)) fun a Z => ?_
  refine s_runk tMs2 Z 2 rfl rfl fun a Z => ?_
  refine gO Z (vI i) rfl (wantB_t _) (.n 5 rfl .z) (fun hp => Ob_c tMs2 rfl) fun a Z => ?_
  refine gO Z v2_b rfl (wantB_t _) (.n 1 rfl .z) (fun hp => Ob_c tMs2 rfl) fun a Z => ?_
  refine gO Z (vI (ln b)) rfl (wantB_t _) (.c 17 rfl id .z) (fun hp => Ob_slen tMs2 rfl rfl rfl (H.slshape 1 rfl)) fun a Z => ?_
  refine gO Z (vT (decide (i < (ln b)))) rfl (wantB_t _) (.c 16 rfl id (.c 18 rfl id .z)) (fun hp => Ob_c tMs2 rfl) fun a Z => ?_
  refine sO Z (vT ((decide (i < (ln a0))) && (decide (i < (ln b))))) rfl (Ob_pick rfl rfl rfl rfl (pick_and _ _)) fun a Z => ?_
  refine s_end Z [0, 1, 5, 20] rfl fun Z => ?_
  refine p_then ?_
  refine f_cond Z rfl (fun hc2 => ?_) (fun hc2 => ?_)
  ·replace hF := ite_t hc2 hF
   refine wp_skip ?_
   refine p_then (wp_seq ?_)
   refine wp_block ?_
   refine wp_seq ?_
   obtain ⟨hg1, hF⟩ := chk_in hF
   obtain ⟨_, ⟨u1, rfl, L1⟩, H⟩ := H.elG 0 rfl (i) (NEEntry.dft _ _)
   replace H := H.addsl L1
   replace H : Hf I D w I1 w1 [SlC NEOp u1 (((gi a0 i).batch).ops), AtG ((0 : Int) ≤ i ∧ i < (ln a0)) (blkOf v1_a0) (oofOf v1_a0 + (i).toNat * 4) (cEEntry (gi a0 i) u1), SlC NEEntry v1_a0 a0, SlC NEEntry v2_b b] := H
   obtain ⟨hg2, hF⟩ := chk_in hF
   obtain ⟨_, ⟨u2, rfl, L2⟩, H⟩ := H.elG 3 rfl (i) (NEEntry.dft _ _)
   replace H := H.addsl L2
   replace H : Hf I D w I1 w1 [SlC NEOp u2 (((gi b i).batch).ops), AtG ((0 : Int) ≤ i ∧ i < (ln b)) (blkOf v2_b) (oofOf v2_b + (i).toNat * 4) (cEEntry (gi b i) u2), SlC NEOp u1 (((gi a0 i).batch).ops), AtG ((0 : Int) ≤ i ∧ i < (ln a0)) (blkOf v1_a0) (oofOf v1_a0 + (i).toNat * 4) (cEEntry (gi a0 i) u1), SlC NEEntry v1_a0 a0, SlC NEEntry v2_b b] := H
   obtain ⟨s0, hx1, hF⟩ := bnd_in hF
   refine f_quietd (by kernel_rfl) (by kernel_rfl) Z fun Z => ?_
   refine q_runk tMs2 Z 2 rfl rfl fun a Z => ?_
   refine qO Z (.pointer (some ⟨blkOf v1_a0, oofOf v1_a0 + (i).toNat * 4, none⟩)) rfl (fun _ hw => Ob_sidx tMs2 rfl rfl rfl rfl (slPl ((H.blw hw).sl 4 rfl) hg1) hg1) fun a Z => ?_
   refine qO Z (.agg (cEEntry (gi a0 i) u1).toArray) rfl (fun _ hw => oA tMs2 rfl rfl (((H.blw hw).atg 3 rfl hg1).part 0 rfl)) fun a Z => ?_
   refine q_runk tMs2 Z 2 rfl rfl fun a Z => ?_
   refine qO Z (.pointer (some ⟨blkOf v2_b, oofOf v2_b + (i).toNat * 4, none⟩)) rfl (fun _ hw => Ob_sidx tMs2 rfl rfl rfl rfl (slPl ((H.blw hw).sl 5 rfl) hg2) hg2) fun a Z => ?_
   refine qO Z (.agg (cEEntry (gi b i) u2).toArray) rfl (fun _ hw => oA tMs2 rfl rfl (((H.blw hw).atg 1 rfl hg2).part 0 rfl)) fun a Z => ?_
   refine q_call Z (caps := #[]) fn_73_YMs2 rfl rfl rfl rfl rfl (by decide) rfl rfl (fun _ hw => (have hq := c_ref08_Same hx1 (((H.blw hw)).pick0 (js := [(2, true), (0, true)]) rfl rfl); plainC hq)) fun a Z => ?_
   refine q_runk tMs2 Z 1 rfl rfl fun a Z => ?_
   refine q_end Z [0, 1, 5, 32] rfl fun w2 hb Z => ?_
   replace H := H.blw hb
   clear hb
   refine p_then ?_
   refine f_cond Z rfl (fun hc3 => ?_) (fun hc3 => ?_)
   ·replace hF := ite_t hc3 hF
    refine wp_seq (f_region Z ?_); clear Z; intro Z
    refine s_runk tMs2 Z 1 rfl rfl fun a Z => ?_
    refine s_end Z [4] rfl fun Z => ?_
    refine p_then (wp_ret ?_)
    refine p_blk_r ?_
    refine p_then_r ?_
    refine p_then_r ?_
    refine p_blk_r ?_
    refine p_then_r ?_
    obtain rfl := some_in hF
    exact f_ret Z (run_results1 rfl Z rfl) ⟨rfl, I1, (H.sub [] rfl).eq rfl⟩
   ·replace hF := ite_f hc3 hF
    refine wp_skip ?_
    refine p_blk ?_
    refine p_then ?_
    obtain ⟨hg3, hF⟩ := chk_in hF
    refine f_region Z fun Z => ?_
    refine s_runk tMs2 Z 1 rfl rfl fun a Z => ?_
    refine sO Z (vI (i + 1)) rfl (Ob_add rfl rfl rfl (wrI hg3)) fun a Z => ?_
    refine s_runk tMs2 Z 1 rfl rfl fun a Z => ?_
    refine s_end Z [0, 1, 5] rfl fun Z => ?_
    refine p_then ?_
    exact ⟨(i + 1), ⟨Z.sub (ts := [0, 1, 5]) rfl, ⟨I1, (H.sub [(4, true), (5, true)] rfl).eq rfl⟩⟩, hF⟩
  ·replace hF := ite_f hc2 hF
   refine wp_exit ?_
   refine p_then_x ?_
   refine p_then_x ?_
   refine f_exit_here ?_
   refine p_then (wp_seq (f_region Z ?_)); clear Z; intro Z
   refine s_runk tMs2 Z 1 rfl rfl fun a Z => ?_
   refine s_end Z [4] rfl fun Z => ?_
   refine p_then (wp_ret ?_)
   obtain rfl := some_in hF
   exact f_ret Z (run_results1 rfl Z rfl) ⟨rfl, I1, (H.sub [] rfl).eq rfl⟩

def F_ref09_sameStamps_l1 (a0 : List Int) (b : List Int) (rc : Int → Option Bool) (sg : Int) : Option Bool := match sg with | i => if ((decide (i < (a0.length : Int))) && (decide (i < (b.length : Int)))) = true then (chk ((0 : Int) ≤ i ∧ i < (a0.length : Int)) (chk ((0 : Int) ≤ i ∧ i < (b.length : Int)) (if ((a0.getD (i).toNat default) != (b.getD (i).toNat default)) = true then (some false) else (chk (inI (i + 1)) (rc (i + 1)))))) else (some true)

def F_ref09_sameStamps (a0 : List Int) (b : List Int) : Option Bool := if ((a0.length : Int) != (b.length : Int)) = true then (some false) else (iter (F_ref09_sameStamps_l1 a0 b) FU 0)

set_option maxHeartbeats 1000000 in
theorem c_ref09_sameStamps {I D : Dm} {a0 : List Int} {v1_a0 : Value} {b : List Int} {v2_b : Value} {w : World} {rr : Bool} (hF : F_ref09_sameStamps a0 b = some rr) (H : St I D w [SlC Nu64 v1_a0 a0, SlC Nu64 v2_b b]) :
  Calls Tryz.prog 32 #[v1_a0, v2_b] w (Ret fun vv w' => vv = vT rr ∧ ∃ I', Hf I D w I' w' []) := by
 replace H := H.hf
 unfold F_ref09_sameStamps at hF
 refine f_enter 32 Tryz.func32 rfl rfl (Nat.le_of_ble_eq_true rfl) fun a Z => ?_
 replace Z := Z.sub (ts := [0, 1]) rfl
 refine wp_seq (f_region Z ?_); clear Z; intro Z
 refine s_runk tMs2 Z 1 rfl rfl fun a Z => ?_
 refine s_end Z [0, 1] rfl fun Z => ?_
 refine p_then (wp_seq ?_)
 refine wp_seq (f_region Z ?_); clear Z; intro Z
 refine s_runk tMs2 Z 1 rfl rfl fun a Z => ?_
 refine sO Z (vI (ln a0)) rfl (Ob_slen tMs2 rfl rfl rfl (H.slshape 0 rfl)) fun a Z => ?_
 refine s_runk tMs2 Z 1 rfl rfl fun a Z => ?_
 refine sO Z (vI (ln b)) rfl (Ob_slen tMs2 rfl rfl rfl (H.slshape 1 rfl)) fun a Z => ?_
 refine s_runk tMs2 Z 1 rfl rfl fun a Z => ?_
 refine s_end Z [0, 1, 10] rfl fun Z => ?_
 refine p_then ?_
 refine f_cond Z rfl (fun hc1 => ?_) (fun hc1 => ?_)
 ·replace hF := ite_t hc1 hF
  refine wp_seq (f_region Z ?_); clear Z; intro Z
  refine s_runk tMs2 Z 1 rfl rfl fun a Z => ?_
  refine s_end Z [4] rfl fun Z => ?_
  refine p_then (wp_ret ?_)
  refine p_then_r ?_
  obtain rfl := some_in hF
  exact f_ret Z (run_results1 rfl Z rfl) ⟨rfl, I, (H.sub [] rfl).eq rfl⟩
 ·replace hF := ite_f hc1 hF
  refine wp_skip ?_
  refine p_then (wp_seq ?_)
  refine wp_seq (f_region Z ?_); clear Z; intro Z
  refine s_runk tMs2 Z 1 rfl rfl fun a Z => ?_
  refine s_end Z [0, 1, 5] rfl fun Z => ?_
  refine p_then (wp_block ?_)
  refine f_iter hF (fun sg a' w' => match sg with | i => Sl 32 [(0, v1_a0), (1, v2_b), (5, vI i)] a' ∧ ∃ I2, Hf I D w I2 w' [SlC Nu64 v1_a0 a0, SlC Nu64 v2_b b]) ⟨Z.sub (ts := [0, 1, 5]) rfl, ⟨I, (H.sub [(0, true), (1, true)] rfl).eq rfl⟩⟩ ?_
  rintro rc i a w1 ⟨Z, I1, H⟩ hF
  unfold F_ref09_sameStamps_l1 at hF
  try dsimp only at hF
  refine wp_seq ?_
  refine wp_seq (f_region Z ?_); clear Z; intro Z
  refine s_runk tMs2 Z 2 rfl rfl fun a Z => ?_
  refine sO Z (vI (ln a0)) rfl (Ob_slen tMs2 rfl rfl rfl (H.slshape 0 rfl)) fun a Z => ?_
  refine s_runk tMs2 Z 2 rfl rfl fun a Z => ?_
  refine gO Z (vI i) rfl (wantB_t _) (.n 5 rfl .z) (fun hp => Ob_c tMs2 rfl) fun a Z => ?_
  refine gO Z v2_b rfl (wantB_t _) (.n 1 rfl .z) (fun hp => Ob_c tMs2 rfl) fun a Z => ?_
  refine gO Z (vI (ln b)) rfl (wantB_t _) (.c 17 rfl id .z) (fun hp => Ob_slen tMs2 rfl rfl rfl (H.slshape 1 rfl)) fun a Z => ?_
  refine gO Z (vT (decide (i < (ln b)))) rfl (wantB_t _) (.c 16 rfl id (.c 18 rfl id .z)) (fun hp => Ob_c tMs2 rfl) fun a Z => ?_
  refine sO Z (vT ((decide (i < (ln a0))) && (decide (i < (ln b))))) rfl (Ob_pick rfl rfl rfl rfl (pick_and _ _)) fun a Z => ?_
  refine s_end Z [0, 1, 5, 20] rfl fun Z => ?_
  refine p_then ?_
  refine f_cond Z rfl (fun hc2 => ?_) (fun hc2 => ?_)
  ·replace hF := ite_t hc2 hF
   refine wp_skip ?_
   refine p_then (wp_seq ?_)
   refine wp_block ?_
   refine wp_seq ?_
   obtain ⟨hg1, hF⟩ := chk_in hF
   obtain ⟨hg2, hF⟩ := chk_in hF
   refine f_quietd (by kernel_rfl) (by kernel_rfl) Z fun Z => ?_
   refine q_runk tMs2 Z 2 rfl rfl fun a Z => ?_
   refine qO Z (.pointer (some ⟨blkOf v1_a0, oofOf v1_a0 + (i).toNat * 1, none⟩)) rfl (fun _ hw => Ob_sidx tMs2 rfl rfl rfl rfl (slPl ((H.blw hw).sl 0 rfl) hg1) hg1) fun a Z => ?_
   refine qO Z (vU (gi a0 i)) rfl (fun _ hw => oL tMs2 rfl rfl ((slFl ((H.blw hw).sl 0 rfl) hg1) 0 _ rfl)) fun a Z => ?_
   refine q_runk tMs2 Z 2 rfl rfl fun a Z => ?_
   refine qO Z (.pointer (some ⟨blkOf v2_b, oofOf v2_b + (i).toNat * 1, none⟩)) rfl (fun _ hw => Ob_sidx tMs2 rfl rfl rfl rfl (slPl ((H.blw hw).sl 1 rfl) hg2) hg2) fun a Z => ?_
   refine qO Z (vU (gi b i)) rfl (fun _ hw => oL tMs2 rfl rfl ((slFl ((H.blw hw).sl 1 rfl) hg2) 0 _ rfl)) fun a Z => ?_
   refine q_runk tMs2 Z 1 rfl rfl fun a Z => ?_
   refine q_end Z [0, 1, 5, 31] rfl fun w2 hb Z => ?_
   replace H := H.blw hb
   clear hb
   refine p_then ?_
   refine f_cond Z rfl (fun hc3 => ?_) (fun hc3 => ?_)
   ·replace hF := ite_t hc3 hF
    refine wp_seq (f_region Z ?_); clear Z; intro Z
    refine s_runk tMs2 Z 1 rfl rfl fun a Z => ?_
    refine s_end Z [4] rfl fun Z => ?_
    refine p_then (wp_ret ?_)
    refine p_blk_r ?_
    refine p_then_r ?_
    refine p_then_r ?_
    refine p_blk_r ?_
    refine p_then_r ?_
    obtain rfl := some_in hF
    exact f_ret Z (run_results1 rfl Z rfl) ⟨rfl, I1, (H.sub [] rfl).eq rfl⟩
   ·replace hF := ite_f hc3 hF
    refine wp_skip ?_
    refine p_blk ?_
    refine p_then ?_
    obtain ⟨hg3, hF⟩ := chk_in hF
    refine f_region Z fun Z => ?_
    refine s_runk tMs2 Z 1 rfl rfl fun a Z => ?_
    refine sO Z (vI (i + 1)) rfl (Ob_add rfl rfl rfl (wrI hg3)) fun a Z => ?_
    refine s_runk tMs2 Z 1 rfl rfl fun a Z => ?_
    refine s_end Z [0, 1, 5] rfl fun Z => ?_
    refine p_then ?_
    exact ⟨(i + 1), ⟨Z.sub (ts := [0, 1, 5]) rfl, ⟨I1, (H.sub [(0, true), (1, true)] rfl).eq rfl⟩⟩, hF⟩
  ·replace hF := ite_f hc2 hF
   refine wp_exit ?_
   refine p_then_x ?_
   refine p_then_x ?_
   refine f_exit_here ?_
   refine p_then (wp_seq (f_region Z ?_)); clear Z; intro Z
   refine s_runk tMs2 Z 1 rfl rfl fun a Z => ?_
   refine s_end Z [4] rfl fun Z => ?_
   refine p_then (wp_ret ?_)
   obtain rfl := some_in hF
   exact f_ret Z (run_results1 rfl Z rfl) ⟨rfl, I1, (H.sub [] rfl).eq rfl⟩

def F_ref06_SamePairs_l1 (a0 : List EPair) (b : List EPair) (rc : Int → Option Bool) (sg : Int) : Option Bool := match sg with | i => if ((decide (i < (a0.length : Int))) && (decide (i < (b.length : Int)))) = true then (chk ((0 : Int) ≤ i ∧ i < (a0.length : Int)) (chk ((0 : Int) ≤ i ∧ i < (b.length : Int)) (if (!eqEPair (a0.getD (i).toNat default) (b.getD (i).toNat default)) = true then (some false) else (chk (inI (i + 1)) (rc (i + 1)))))) else (some true)

def F_ref06_SamePairs (a0 : List EPair) (b : List EPair) : Option Bool := if ((a0.length : Int) != (b.length : Int)) = true then (some false) else (iter (F_ref06_SamePairs_l1 a0 b) FU 0)

set_option maxHeartbeats 1000000 in
theorem c_ref06_SamePairs {I D : Dm} {a0 : List EPair} {v1_a0 : Value} {b : List EPair} {v2_b : Value} {w : World} {rr : Bool} (hF : F_ref06_SamePairs a0 b = some rr) (H : St I D w [SlC NEPair v1_a0 a0, SlC NEPair v2_b b]) :
  Calls Tryz.prog 33 #[v1_a0, v2_b] w (Ret fun vv w' => vv = vT rr ∧ ∃ I', Hf I D w I' w' []) := by
 replace H := H.hf
 unfold F_ref06_SamePairs at hF
 refine f_enter 32 Tryz.func33 rfl rfl (Nat.le_of_ble_eq_true rfl) fun a Z => ?_
 replace Z := Z.sub (ts := [0, 1]) rfl
 refine wp_seq (f_region Z ?_); clear Z; intro Z
 refine s_runk tMs2 Z 1 rfl rfl fun a Z => ?_
 refine s_end Z [0, 1] rfl fun Z => ?_
 refine p_then (wp_seq ?_)
 refine wp_seq (f_region Z ?_); clear Z; intro Z
 refine s_runk tMs2 Z 1 rfl rfl fun a Z => ?_
 refine sO Z (vI (ln a0)) rfl (Ob_slen tMs2 rfl rfl rfl (H.slshape 0 rfl)) fun a Z => ?_
 refine s_runk tMs2 Z 1 rfl rfl fun a Z => ?_
 refine sO Z (vI (ln b)) rfl (Ob_slen tMs2 rfl rfl rfl (H.slshape 1 rfl)) fun a Z => ?_
 refine s_runk tMs2 Z 1 rfl rfl fun a Z => ?_
 refine s_end Z [0, 1, 10] rfl fun Z => ?_
 refine p_then ?_
 refine f_cond Z rfl (fun hc1 => ?_) (fun hc1 => ?_)
 ·replace hF := ite_t hc1 hF
  refine wp_seq (f_region Z ?_); clear Z; intro Z
  refine s_runk tMs2 Z 1 rfl rfl fun a Z => ?_
  refine s_end Z [4] rfl fun Z => ?_
  refine p_then (wp_ret ?_)
  refine p_then_r ?_
  obtain rfl := some_in hF
  exact f_ret Z (run_results1 rfl Z rfl) ⟨rfl, I, (H.sub [] rfl).eq rfl⟩
 ·replace hF := ite_f hc1 hF
  refine wp_skip ?_
  refine p_then (wp_seq ?_)
  refine wp_seq (f_region Z ?_); clear Z; intro Z
  refine s_runk tMs2 Z 1 rfl rfl fun a Z => ?_
  refine s_end Z [0, 1, 5] rfl fun Z => ?_
  refine p_then (wp_block ?_)
  refine f_iter hF (fun sg a' w' => match sg with | i => Sl 32 [(0, v1_a0), (1, v2_b), (5, vI i)] a' ∧ ∃ I2, Hf I D w I2 w' [SlC NEPair v1_a0 a0, SlC NEPair v2_b b]) ⟨Z.sub (ts := [0, 1, 5]) rfl, ⟨I, (H.sub [(0, true), (1, true)] rfl).eq rfl⟩⟩ ?_
  rintro rc i a w1 ⟨Z, I1, H⟩ hF
  unfold F_ref06_SamePairs_l1 at hF
  try dsimp only at hF
  refine wp_seq ?_
  refine wp_seq (f_region Z ?_); clear Z; intro Z
  refine s_runk tMs2 Z 2 rfl rfl fun a Z => ?_
  refine sO Z (vI (ln a0)) rfl (Ob_slen tMs2 rfl rfl rfl (H.slshape 0 rfl)) fun a Z => ?_
  refine s_runk tMs2 Z 2 rfl rfl fun a Z => ?_
  refine gO Z (vI i) rfl (wantB_t _) (.n 5 rfl .z) (fun hp => Ob_c tMs2 rfl) fun a Z => ?_
  refine gO Z v2_b rfl (wantB_t _) (.n 1 rfl .z) (fun hp => Ob_c tMs2 rfl) fun a Z => ?_
  refine gO Z (vI (ln b)) rfl (wantB_t _) (.c 17 rfl id .z) (fun hp => Ob_slen tMs2 rfl rfl rfl (H.slshape 1 rfl)) fun a Z => ?_
  refine gO Z (vT (decide (i < (ln b)))) rfl (wantB_t _) (.c 16 rfl id (.c 18 rfl id .z)) (fun hp => Ob_c tMs2 rfl) fun a Z => ?_
  refine sO Z (vT ((decide (i < (ln a0))) && (decide (i < (ln b))))) rfl (Ob_pick rfl rfl rfl rfl (pick_and _ _)) fun a Z => ?_
  refine s_end Z [0, 1, 5, 20] rfl fun Z => ?_
  refine p_then ?_
  refine f_cond Z rfl (fun hc2 => ?_) (fun hc2 => ?_)
  ·replace hF := ite_t hc2 hF
   refine wp_skip ?_
   refine p_then (wp_seq ?_)
   refine wp_block ?_
   refine wp_seq ?_
   obtain ⟨hg1, hF⟩ := chk_in hF
   obtain ⟨hg2, hF⟩ := chk_in hF
   refine f_quietd (by kernel_rfl) (by kernel_rfl) Z fun Z => ?_
   refine q_runk tMs2 Z 2 rfl rfl fun a Z => ?_
   refine qO Z (.pointer (some ⟨blkOf v1_a0, oofOf v1_a0 + (i).toNat * 2, none⟩)) rfl (fun _ hw => Ob_sidx tMs2 rfl rfl rfl rfl (slPl ((H.blw hw).sl 0 rfl) hg1) hg1) fun a Z => ?_
   refine qO Z (.agg #[vS ((gi a0 i).key), vS ((gi a0 i).val)]) rfl (fun _ hw => oA tMs2 rfl rfl ((slFl ((H.blw hw).sl 0 rfl) hg1).part 0 rfl)) fun a Z => ?_
   refine q_runk tMs2 Z 2 rfl rfl fun a Z => ?_
   refine qO Z (.pointer (some ⟨blkOf v2_b, oofOf v2_b + (i).toNat * 2, none⟩)) rfl (fun _ hw => Ob_sidx tMs2 rfl rfl rfl rfl (slPl ((H.blw hw).sl 1 rfl) hg2) hg2) fun a Z => ?_
   refine qO Z (.agg #[vS ((gi b i).key), vS ((gi b i).val)]) rfl (fun _ hw => oA tMs2 rfl rfl ((slFl ((H.blw hw).sl 1 rfl) hg2).part 0 rfl)) fun a Z => ?_
   refine qO Z (vT (!eqEPair (gi a0 i) (gi b i))) rfl (fun _ hw => Ob_bin rfl rfl rfl (eqg_EPair _ _ _ _ _ _) (neq_EPair (gi a0 i) (gi b i) _)) fun a Z => ?_
   refine q_end Z [0, 1, 5, 31] rfl fun w2 hb Z => ?_
   replace H := H.blw hb
   clear hb
   refine p_then ?_
   refine f_cond Z rfl (fun hc3 => ?_) (fun hc3 => ?_)
   ·replace hF := ite_t hc3 hF
    refine wp_seq (f_region Z ?_); clear Z; intro Z
    refine s_runk tMs2 Z 1 rfl rfl fun a Z => ?_
    refine s_end Z [4] rfl fun Z => ?_
    refine p_then (wp_ret ?_)
    refine p_blk_r ?_
    refine p_then_r ?_
    refine p_then_r ?_
    refine p_blk_r ?_
    refine p_then_r ?_
    obtain rfl := some_in hF
    exact f_ret Z (run_results1 rfl Z rfl) ⟨rfl, I1, (H.sub [] rfl).eq rfl⟩
   ·replace hF := ite_f hc3 hF
    refine wp_skip ?_
    refine p_blk ?_
    refine p_then ?_
    obtain ⟨hg3, hF⟩ := chk_in hF
    refine f_region Z fun Z => ?_
    refine s_runk tMs2 Z 1 rfl rfl fun a Z => ?_
    refine sO Z (vI (i + 1)) rfl (Ob_add rfl rfl rfl (wrI hg3)) fun a Z => ?_
    refine s_runk tMs2 Z 1 rfl rfl fun a Z => ?_
    refine s_end Z [0, 1, 5] rfl fun Z => ?_
    refine p_then ?_
    exact ⟨(i + 1), ⟨Z.sub (ts := [0, 1, 5]) rfl, ⟨I1, (H.sub [(0, true), (1, true)] rfl).eq rfl⟩⟩, hF⟩
  ·replace hF := ite_f hc2 hF
   refine wp_exit ?_
   refine p_then_x ?_
   refine p_then_x ?_
   refine f_exit_here ?_
   refine p_then (wp_seq (f_region Z ?_)); clear Z; intro Z
   refine s_runk tMs2 Z 1 rfl rfl fun a Z => ?_
   refine s_end Z [4] rfl fun Z => ?_
   refine p_then (wp_ret ?_)
   obtain rfl := some_in hF
   exact f_ret Z (run_results1 rfl Z rfl) ⟨rfl, I1, (H.sub [] rfl).eq rfl⟩

def F_ref09_Same (a0 : EMsg) (b : EMsg) : Option Bool := (gif (((((((((((((a0.k == b.k) && (a0.epoch == b.epoch)) && (a0.req == b.req)) && (a0.serial == b.serial)) && (a0.flag == b.flag)) && (a0.at_ == b.at_)) && (a0.last == b.last)) && (a0.n == b.n)) && (a0.m == b.m)) && (a0.p == b.p)) && (a0.e == b.e)) && (seqB a0.key b.key)) && (seqB a0.to_ b.to_)) (F_ref07_Same a0.conf b.conf) default).bind fun s0 => ((gif ((((((((((((((a0.k == b.k) && (a0.epoch == b.epoch)) && (a0.req == b.req)) && (a0.serial == b.serial)) && (a0.flag == b.flag)) && (a0.at_ == b.at_)) && (a0.last == b.last)) && (a0.n == b.n)) && (a0.m == b.m)) && (a0.p == b.p)) && (a0.e == b.e)) && (seqB a0.key b.key)) && (seqB a0.to_ b.to_)) && s0) (F_ref06_Same a0.batch b.batch) default).bind fun s0_2 => ((gif (((((((((((((((a0.k == b.k) && (a0.epoch == b.epoch)) && (a0.req == b.req)) && (a0.serial == b.serial)) && (a0.flag == b.flag)) && (a0.at_ == b.at_)) && (a0.last == b.last)) && (a0.n == b.n)) && (a0.m == b.m)) && (a0.p == b.p)) && (a0.e == b.e)) && (seqB a0.key b.key)) && (seqB a0.to_ b.to_)) && s0) && s0_2) (F_ref08_SameAll a0.entries b.entries) default).bind fun s0_3 => ((gif ((((((((((((((((a0.k == b.k) && (a0.epoch == b.epoch)) && (a0.req == b.req)) && (a0.serial == b.serial)) && (a0.flag == b.flag)) && (a0.at_ == b.at_)) && (a0.last == b.last)) && (a0.n == b.n)) && (a0.m == b.m)) && (a0.p == b.p)) && (a0.e == b.e)) && (seqB a0.key b.key)) && (seqB a0.to_ b.to_)) && s0) && s0_2) && s0_3) (F_ref09_sameStamps a0.stamps b.stamps) default).bind fun s0_4 => ((gif (((((((((((((((((a0.k == b.k) && (a0.epoch == b.epoch)) && (a0.req == b.req)) && (a0.serial == b.serial)) && (a0.flag == b.flag)) && (a0.at_ == b.at_)) && (a0.last == b.last)) && (a0.n == b.n)) && (a0.m == b.m)) && (a0.p == b.p)) && (a0.e == b.e)) && (seqB a0.key b.key)) && (seqB a0.to_ b.to_)) && s0) && s0_2) && s0_3) && s0_4) (F_ref06_SamePairs a0.pairs b.pairs) default).bind fun s0_5 => (some ((((((((((((((((((a0.k == b.k) && (a0.epoch == b.epoch)) && (a0.req == b.req)) && (a0.serial == b.serial)) && (a0.flag == b.flag)) && (a0.at_ == b.at_)) && (a0.last == b.last)) && (a0.n == b.n)) && (a0.m == b.m)) && (a0.p == b.p)) && (a0.e == b.e)) && (seqB a0.key b.key)) && (seqB a0.to_ b.to_)) && s0) && s0_2) && s0_3) && s0_4) && s0_5))))))

set_option maxRecDepth 5000 in
set_option maxHeartbeats 1000000 in
theorem c_ref09_Same {I D : Dm} {a0 : EMsg} {v1_a0 : Value} {v2_a0 : Value} {v3_a0 : Value} {v4_a0 : Value} {v5_a0 : Value} {b : EMsg} {v6_b : Value} {v7_b : Value} {v8_b : Value} {v9_b : Value} {v10_b : Value} {w : World} {rr : Bool} (hF : F_ref09_Same a0 b = some rr) (H : St I D w [SlC NEMember v1_a0 a0.conf.members, SlC NEOp v2_a0 a0.batch.ops, SlC NEEntry v3_a0 a0.entries, SlC Nu64 v4_a0 a0.stamps, SlC NEPair v5_a0 a0.pairs, SlC NEMember v6_b b.conf.members, SlC NEOp v7_b b.batch.ops, SlC NEEntry v8_b b.entries, SlC Nu64 v9_b b.stamps, SlC NEPair v10_b b.pairs]) :
  Calls Tryz.prog 8 #[.agg (cEMsg a0 v1_a0 v2_a0 v3_a0 v4_a0 v5_a0).toArray, .agg (cEMsg b v6_b v7_b v8_b v9_b v10_b).toArray] w (Ret fun vv w' => vv = vT rr ∧ ∃ I', Hf I D w I' w' []) := by
 replace H := H.hf
 unfold F_ref09_Same at hF
 refine f_enter 129 Tryz.func8 rfl rfl (Nat.le_of_ble_eq_true rfl) fun a Z => ?_
 replace Z := Z.sub (ts := [0, 1]) rfl
 refine wp_seq (f_region Z ?_); clear Z; intro Z
 refine h_boxv Z H (cl := (cEMsg a0 v1_a0 v2_a0 v3_a0 v4_a0 v5_a0)) rfl rfl rfl (by decide) rfl rfl rfl fun a w1 b1 H Z => ?_
 refine h_boxv Z H (cl := (cEMsg b v6_b v7_b v8_b v9_b v10_b)) rfl rfl rfl (by decide) rfl rfl rfl fun a w2 b2 H Z => ?_
 refine s_runk tMs2 Z 1 rfl rfl fun a Z => ?_
 refine s_end Z [2, 3] rfl fun Z => ?_
 refine p_then (wp_seq ?_)
 obtain ⟨s0, hx1, hF⟩ := bnd_in hF
 obtain ⟨s0_2, hx2, hF⟩ := bnd_in hF
 obtain ⟨s0_3, hx3, hF⟩ := bnd_in hF
 obtain ⟨s0_4, hx4, hF⟩ := bnd_in hF
 obtain ⟨s0_5, hx5, hF⟩ := bnd_in hF
 refine f_region Z fun Z => ?_
 refine s_runk tMs2 Z 1 rfl rfl fun a Z => ?_
 refine sO Z _ rfl (oL tMs2 rfl rfl (H.bc 1 0 rfl rfl)) fun a Z => ?_
 refine s_runk tMs2 Z 1 rfl rfl fun a Z => ?_
 refine sO Z _ rfl (oL tMs2 rfl rfl (H.bc 0 0 rfl rfl)) fun a Z => ?_
 refine s_runk tMs2 Z 2 rfl rfl fun a Z => ?_
 refine gO Z (pp b1 1) rfl (wantB_t _) (.n 2 rfl .z) (fun hp => Ob_c tMs2 rfl) fun a Z => ?_
 refine gO Z _ rfl (wantB_t _) (.c 11 rfl id .z) (fun hp => oL tMs2 rfl rfl (H.bc 1 1 rfl rfl)) fun a Z => ?_
 refine gO Z (pp b2 1) rfl (wantB_t _) (.n 3 rfl .z) (fun hp => Ob_c tMs2 rfl) fun a Z => ?_
 refine gO Z _ rfl (wantB_t _) (.c 13 rfl id .z) (fun hp => oL tMs2 rfl rfl (H.bc 0 1 rfl rfl)) fun a Z => ?_
 refine gO Z (vT (a0.epoch == b.epoch)) rfl (wantB_t _) (.c 12 rfl id (.c 14 rfl id .z)) (fun hp => Ob_c tMs2 rfl) fun a Z => ?_
 refine sO Z (vT ((a0.k == b.k) && (a0.epoch == b.epoch))) rfl (Ob_pick rfl rfl rfl rfl (pick_and _ _)) fun a Z => ?_
 refine s_runk tMs2 Z 1 rfl rfl fun a Z => ?_
 refine gO Z (pp b1 2) rfl (wantB_t _) (.n 2 rfl .z) (fun hp => Ob_c tMs2 rfl) fun a Z => ?_
 refine gO Z _ rfl (wantB_t _) (.c 18 rfl id .z) (fun hp => oL tMs2 rfl rfl (H.bc 1 2 rfl rfl)) fun a Z => ?_
 refine gO Z (pp b2 2) rfl (wantB_t _) (.n 3 rfl .z) (fun hp => Ob_c tMs2 rfl) fun a Z => ?_
 refine gO Z _ rfl (wantB_t _) (.c 20 rfl id .z) (fun hp => oL tMs2 rfl rfl (H.bc 0 2 rfl rfl)) fun a Z => ?_
 refine gO Z (vT (a0.req == b.req)) rfl (wantB_t _) (.c 19 rfl id (.c 21 rfl id .z)) (fun hp => Ob_c tMs2 rfl) fun a Z => ?_
 refine sO Z (vT (((a0.k == b.k) && (a0.epoch == b.epoch)) && (a0.req == b.req))) rfl (Ob_pick rfl rfl rfl rfl (pick_and _ _)) fun a Z => ?_
 refine s_runk tMs2 Z 1 rfl rfl fun a Z => ?_
 refine gO Z (pp b1 3) rfl (wantB_t _) (.n 2 rfl .z) (fun hp => Ob_c tMs2 rfl) fun a Z => ?_
 refine gO Z _ rfl (wantB_t _) (.c 25 rfl id .z) (fun hp => oL tMs2 rfl rfl (H.bc 1 3 rfl rfl)) fun a Z => ?_
 refine gO Z (pp b2 3) rfl (wantB_t _) (.n 3 rfl .z) (fun hp => Ob_c tMs2 rfl) fun a Z => ?_
 refine gO Z _ rfl (wantB_t _) (.c 27 rfl id .z) (fun hp => oL tMs2 rfl rfl (H.bc 0 3 rfl rfl)) fun a Z => ?_
 refine gO Z (vT (a0.serial == b.serial)) rfl (wantB_t _) (.c 26 rfl id (.c 28 rfl id .z)) (fun hp => Ob_c tMs2 rfl) fun a Z => ?_
 refine sO Z (vT ((((a0.k == b.k) && (a0.epoch == b.epoch)) && (a0.req == b.req)) && (a0.serial == b.serial))) rfl (Ob_pick rfl rfl rfl rfl (pick_and _ _)) fun a Z => ?_
 refine s_runk tMs2 Z 1 rfl rfl fun a Z => ?_
 refine gO Z (pp b1 4) rfl (wantB_t _) (.n 2 rfl .z) (fun hp => Ob_c tMs2 rfl) fun a Z => ?_
 refine gO Z _ rfl (wantB_t _) (.c 32 rfl id .z) (fun hp => oL tMs2 rfl rfl (H.bc 1 4 rfl rfl)) fun a Z => ?_
 refine gO Z (pp b2 4) rfl (wantB_t _) (.n 3 rfl .z) (fun hp => Ob_c tMs2 rfl) fun a Z => ?_
 refine gO Z _ rfl (wantB_t _) (.c 34 rfl id .z) (fun hp => oL tMs2 rfl rfl (H.bc 0 4 rfl rfl)) fun a Z => ?_
 refine gO Z (vT (a0.flag == b.flag)) rfl (wantB_t _) (.c 33 rfl id (.c 35 rfl id .z)) (fun hp => Ob_c tMs2 rfl) fun a Z => ?_
 refine sO Z (vT (((((a0.k == b.k) && (a0.epoch == b.epoch)) && (a0.req == b.req)) && (a0.serial == b.serial)) && (a0.flag == b.flag))) rfl (Ob_pick rfl rfl rfl rfl (pick_and _ _)) fun a Z => ?_
 refine s_runk tMs2 Z 1 rfl rfl fun a Z => ?_
 refine gO Z (pp b1 5) rfl (wantB_t _) (.n 2 rfl .z) (fun hp => Ob_c tMs2 rfl) fun a Z => ?_
 refine gO Z _ rfl (wantB_t _) (.c 39 rfl id .z) (fun hp => oL tMs2 rfl rfl (H.bc 1 5 rfl rfl)) fun a Z => ?_
 refine gO Z (pp b2 5) rfl (wantB_t _) (.n 3 rfl .z) (fun hp => Ob_c tMs2 rfl) fun a Z => ?_
 refine gO Z _ rfl (wantB_t _) (.c 41 rfl id .z) (fun hp => oL tMs2 rfl rfl (H.bc 0 5 rfl rfl)) fun a Z => ?_
 refine gO Z (vT (a0.at_ == b.at_)) rfl (wantB_t _) (.c 40 rfl id (.c 42 rfl id .z)) (fun hp => Ob_c tMs2 rfl) fun a Z => ?_
 refine sO Z (vT ((((((a0.k == b.k) && (a0.epoch == b.epoch)) && (a0.req == b.req)) && (a0.serial == b.serial)) && (a0.flag == b.flag)) && (a0.at_ == b.at_))) rfl (Ob_pick rfl rfl rfl rfl (pick_and _ _)) fun a Z => ?_
 refine s_runk tMs2 Z 1 rfl rfl fun a Z => ?_
 refine gO Z (pp b1 6) rfl (wantB_t _) (.n 2 rfl .z) (fun hp => Ob_c tMs2 rfl) fun a Z => ?_
 refine gO Z _ rfl (wantB_t _) (.c 46 rfl id .z) (fun hp => oL tMs2 rfl rfl (H.bc 1 6 rfl rfl)) fun a Z => ?_
 refine gO Z (pp b2 6) rfl (wantB_t _) (.n 3 rfl .z) (fun hp => Ob_c tMs2 rfl) fun a Z => ?_
 refine gO Z _ rfl (wantB_t _) (.c 48 rfl id .z) (fun hp => oL tMs2 rfl rfl (H.bc 0 6 rfl rfl)) fun a Z => ?_
 refine gO Z (vT (a0.last == b.last)) rfl (wantB_t _) (.c 47 rfl id (.c 49 rfl id .z)) (fun hp => Ob_c tMs2 rfl) fun a Z => ?_
 refine sO Z (vT (((((((a0.k == b.k) && (a0.epoch == b.epoch)) && (a0.req == b.req)) && (a0.serial == b.serial)) && (a0.flag == b.flag)) && (a0.at_ == b.at_)) && (a0.last == b.last))) rfl (Ob_pick rfl rfl rfl rfl (pick_and _ _)) fun a Z => ?_
 refine s_runk tMs2 Z 1 rfl rfl fun a Z => ?_
 refine gO Z (pp b1 7) rfl (wantB_t _) (.n 2 rfl .z) (fun hp => Ob_c tMs2 rfl) fun a Z => ?_
 refine gO Z _ rfl (wantB_t _) (.c 53 rfl id .z) (fun hp => oL tMs2 rfl rfl (H.bc 1 7 rfl rfl)) fun a Z => ?_
 refine gO Z (pp b2 7) rfl (wantB_t _) (.n 3 rfl .z) (fun hp => Ob_c tMs2 rfl) fun a Z => ?_
 refine gO Z _ rfl (wantB_t _) (.c 55 rfl id .z) (fun hp => oL tMs2 rfl rfl (H.bc 0 7 rfl rfl)) fun a Z => ?_
 refine gO Z (vT (a0.n == b.n)) rfl (wantB_t _) (.c 54 rfl id (.c 56 rfl id .z)) (fun hp => Ob_c tMs2 rfl) fun a Z => ?_
 refine sO Z (vT ((((((((a0.k == b.k) && (a0.epoch == b.epoch)) && (a0.req == b.req)) && (a0.serial == b.serial)) && (a0.flag == b.flag)) && (a0.at_ == b.at_)) && (a0.last == b.last)) && (a0.n == b.n))) rfl (Ob_pick rfl rfl rfl rfl (pick_and _ _)) fun a Z => ?_
 refine s_runk tMs2 Z 1 rfl rfl fun a Z => ?_
 refine gO Z (pp b1 8) rfl (wantB_t _) (.n 2 rfl .z) (fun hp => Ob_c tMs2 rfl) fun a Z => ?_
 refine gO Z _ rfl (wantB_t _) (.c 60 rfl id .z) (fun hp => oL tMs2 rfl rfl (H.bc 1 8 rfl rfl)) fun a Z => ?_
 refine gO Z (pp b2 8) rfl (wantB_t _) (.n 3 rfl .z) (fun hp => Ob_c tMs2 rfl) fun a Z => ?_
 refine gO Z _ rfl (wantB_t _) (.c 62 rfl id .z) (fun hp => oL tMs2 rfl rfl (H.bc 0 8 rfl rfl)) fun a Z => ?_
 refine gO Z (vT (a0.m == b.m)) rfl (wantB_t _) (.c 61 rfl id (.c 63 rfl id .z)) (fun hp => Ob_c tMs2 rfl) fun a Z => ?_
 refine sO Z (vT (((((((((a0.k == b.k) && (a0.epoch == b.epoch)) && (a0.req == b.req)) && (a0.serial == b.serial)) && (a0.flag == b.flag)) && (a0.at_ == b.at_)) && (a0.last == b.last)) && (a0.n == b.n)) && (a0.m == b.m))) rfl (Ob_pick rfl rfl rfl rfl (pick_and _ _)) fun a Z => ?_
 refine s_runk tMs2 Z 1 rfl rfl fun a Z => ?_
 refine gO Z (pp b1 9) rfl (wantB_t _) (.n 2 rfl .z) (fun hp => Ob_c tMs2 rfl) fun a Z => ?_
 refine gO Z _ rfl (wantB_t _) (.c 67 rfl id .z) (fun hp => oL tMs2 rfl rfl (H.bc 1 9 rfl rfl)) fun a Z => ?_
 refine gO Z (pp b2 9) rfl (wantB_t _) (.n 3 rfl .z) (fun hp => Ob_c tMs2 rfl) fun a Z => ?_
 refine gO Z _ rfl (wantB_t _) (.c 69 rfl id .z) (fun hp => oL tMs2 rfl rfl (H.bc 0 9 rfl rfl)) fun a Z => ?_
 refine gO Z (vT (a0.p == b.p)) rfl (wantB_t _) (.c 68 rfl id (.c 70 rfl id .z)) (fun hp => Ob_c tMs2 rfl) fun a Z => ?_
 refine sO Z (vT ((((((((((a0.k == b.k) && (a0.epoch == b.epoch)) && (a0.req == b.req)) && (a0.serial == b.serial)) && (a0.flag == b.flag)) && (a0.at_ == b.at_)) && (a0.last == b.last)) && (a0.n == b.n)) && (a0.m == b.m)) && (a0.p == b.p))) rfl (Ob_pick rfl rfl rfl rfl (pick_and _ _)) fun a Z => ?_
 refine s_runk tMs2 Z 1 rfl rfl fun a Z => ?_
 refine gO Z (pp b1 10) rfl (wantB_t _) (.n 2 rfl .z) (fun hp => Ob_c tMs2 rfl) fun a Z => ?_
 refine gO Z _ rfl (wantB_t _) (.c 74 rfl id .z) (fun hp => oL tMs2 rfl rfl (H.bc 1 10 rfl rfl)) fun a Z => ?_
 refine gO Z (pp b2 10) rfl (wantB_t _) (.n 3 rfl .z) (fun hp => Ob_c tMs2 rfl) fun a Z => ?_
 refine gO Z _ rfl (wantB_t _) (.c 76 rfl id .z) (fun hp => oL tMs2 rfl rfl (H.bc 0 10 rfl rfl)) fun a Z => ?_
 refine gO Z (vT (a0.e == b.e)) rfl (wantB_t _) (.c 75 rfl id (.c 77 rfl id .z)) (fun hp => Ob_c tMs2 rfl) fun a Z => ?_
 refine sO Z (vT (((((((((((a0.k == b.k) && (a0.epoch == b.epoch)) && (a0.req == b.req)) && (a0.serial == b.serial)) && (a0.flag == b.flag)) && (a0.at_ == b.at_)) && (a0.last == b.last)) && (a0.n == b.n)) && (a0.m == b.m)) && (a0.p == b.p)) && (a0.e == b.e))) rfl (Ob_pick rfl rfl rfl rfl (pick_and _ _)) fun a Z => ?_
 refine s_runk tMs2 Z 1 rfl rfl fun a Z => ?_
 refine gO Z (pp b1 11) rfl (wantB_t _) (.n 2 rfl .z) (fun hp => Ob_c tMs2 rfl) fun a Z => ?_
 refine gO Z _ rfl (wantB_t _) (.c 81 rfl id .z) (fun hp => oL tMs2 rfl rfl (H.bc 1 11 rfl rfl)) fun a Z => ?_
 refine gO Z (pp b2 11) rfl (wantB_t _) (.n 3 rfl .z) (fun hp => Ob_c tMs2 rfl) fun a Z => ?_
 refine gO Z _ rfl (wantB_t _) (.c 83 rfl id .z) (fun hp => oL tMs2 rfl rfl (H.bc 0 11 rfl rfl)) fun a Z => ?_
 refine gO Z (vT (seqB a0.key b.key)) rfl (wantB_t _) (.c 82 rfl id (.c 84 rfl id .z)) (fun hp => Ob_c tMs2 rfl) fun a Z => ?_
 refine sO Z (vT ((((((((((((a0.k == b.k) && (a0.epoch == b.epoch)) && (a0.req == b.req)) && (a0.serial == b.serial)) && (a0.flag == b.flag)) && (a0.at_ == b.at_)) && (a0.last == b.last)) && (a0.n == b.n)) && (a0.m == b.m)) && (a0.p == b.p)) && (a0.e == b.e)) && (seqB a0.key b.key))) rfl (Ob_pick rfl rfl rfl rfl (pick_and _ _)) fun a Z => ?_
 refine s_runk tMs2 Z 1 rfl rfl fun a Z => ?_
 refine gO Z (pp b1 12) rfl (wantB_t _) (.n 2 rfl .z) (fun hp => Ob_c tMs2 rfl) fun a Z => ?_
 refine gO Z _ rfl (wantB_t _) (.c 88 rfl id .z) (fun hp => oL tMs2 rfl rfl (H.bc 1 12 rfl rfl)) fun a Z => ?_
 refine gO Z (pp b2 12) rfl (wantB_t _) (.n 3 rfl .z) (fun hp => Ob_c tMs2 rfl) fun a Z => ?_
 refine gO Z _ rfl (wantB_t _) (.c 90 rfl id .z) (fun hp => oL tMs2 rfl rfl (H.bc 0 12 rfl rfl)) fun a Z => ?_
 refine gO Z (vT (seqB a0.to_ b.to_)) rfl (wantB_t _) (.c 89 rfl id (.c 91 rfl id .z)) (fun hp => Ob_c tMs2 rfl) fun a Z => ?_
 refine sO Z (vT (((((((((((((a0.k == b.k) && (a0.epoch == b.epoch)) && (a0.req == b.req)) && (a0.serial == b.serial)) && (a0.flag == b.flag)) && (a0.at_ == b.at_)) && (a0.last == b.last)) && (a0.n == b.n)) && (a0.m == b.m)) && (a0.p == b.p)) && (a0.e == b.e)) && (seqB a0.key b.key)) && (seqB a0.to_ b.to_))) rfl (Ob_pick rfl rfl rfl rfl (pick_and _ _)) fun a Z => ?_
 refine s_runk tMs2 Z 1 rfl rfl fun a Z => ?_
 refine gO Z (pp b1 13) rfl (wantB_t _) (.n 2 rfl .z) (fun hp => Ob_c tMs2 rfl) fun a Z => ?_
 refine gO Z (.agg #[vI a0.conf.epoch, v1_a0, vU a0.conf.floor]) rfl (wantB_t _) (.c 95 rfl id .z) (fun hp => oA tMs2 rfl rfl ((H.bx 1 rfl).part 13 rfl)) fun a Z => ?_
 refine gO Z (pp b2 13) rfl (wantB_t _) (.n 3 rfl .z) (fun hp => Ob_c tMs2 rfl) fun a Z => ?_
 refine gO Z (.agg #[vI b.conf.epoch, v6_b, vU b.conf.floor]) rfl (wantB_t _) (.c 97 rfl id .z) (fun hp => oA tMs2 rfl rfl ((H.bx 0 rfl).part 13 rfl)) fun a Z => ?_
 refine g_call Z (p := (((((((((((((a0.k == b.k) && (a0.epoch == b.epoch)) && (a0.req == b.req)) && (a0.serial == b.serial)) && (a0.flag == b.flag)) && (a0.at_ == b.at_)) && (a0.last == b.last)) && (a0.n == b.n)) && (a0.m == b.m)) && (a0.p == b.p)) && (a0.e == b.e)) && (seqB a0.key b.key)) && (seqB a0.to_ b.to_))) (v := vT s0) (S' := [(96, .agg #[vI a0.conf.epoch, v1_a0, vU a0.conf.floor]), (98, .agg #[vI b.conf.epoch, v6_b, vU b.conf.floor])]) (caps := #[]) fn_29_YMs2 rfl rfl rfl (wantB_t _) rfl (by decide) (fun hp hS => ((hS.conv (t := 96) rfl (cond_t hp)).conv (t := 98) rfl (cond_t hp)).sub (ts := [96, 98]) rfl) rfl rfl rfl rfl (fun hp => (have hq := c_ref07_Same (gif_in hx1 hp) ((H).pick0 (js := [(2, true), (7, true)]) rfl rfl); plainC hq)) fun a w3 hb Z => ?_
 replace H := H.blw hb
 clear hb
 refine sO Z (vT ((((((((((((((a0.k == b.k) && (a0.epoch == b.epoch)) && (a0.req == b.req)) && (a0.serial == b.serial)) && (a0.flag == b.flag)) && (a0.at_ == b.at_)) && (a0.last == b.last)) && (a0.n == b.n)) && (a0.m == b.m)) && (a0.p == b.p)) && (a0.e == b.e)) && (seqB a0.key b.key)) && (seqB a0.to_ b.to_)) && s0)) rfl (Ob_pick rfl rfl rfl rfl (pick_and _ _)) fun a Z => ?_
 refine s_runk tMs2 Z 1 rfl rfl fun a Z => ?_
 refine gO Z (pp b1 16) rfl (wantB_t _) (.n 2 rfl .z) (fun hp => Ob_c tMs2 rfl) fun a Z => ?_
 refine gO Z (.agg #[vI a0.batch.client, vI a0.batch.req, v2_a0]) rfl (wantB_t _) (.c 102 rfl id .z) (fun hp => oA tMs2 rfl rfl ((H.bx 1 rfl).part 16 rfl)) fun a Z => ?_
 refine gO Z (pp b2 16) rfl (wantB_t _) (.n 3 rfl .z) (fun hp => Ob_c tMs2 rfl) fun a Z => ?_
 refine gO Z (.agg #[vI b.batch.client, vI b.batch.req, v7_b]) rfl (wantB_t _) (.c 104 rfl id .z) (fun hp => oA tMs2 rfl rfl ((H.bx 0 rfl).part 16 rfl)) fun a Z => ?_
 refine g_call Z (p := ((((((((((((((a0.k == b.k) && (a0.epoch == b.epoch)) && (a0.req == b.req)) && (a0.serial == b.serial)) && (a0.flag == b.flag)) && (a0.at_ == b.at_)) && (a0.last == b.last)) && (a0.n == b.n)) && (a0.m == b.m)) && (a0.p == b.p)) && (a0.e == b.e)) && (seqB a0.key b.key)) && (seqB a0.to_ b.to_)) && s0)) (v := vT s0_2) (S' := [(103, .agg #[vI a0.batch.client, vI a0.batch.req, v2_a0]), (105, .agg #[vI b.batch.client, vI b.batch.req, v7_b])]) (caps := #[]) fn_30_YMs2 rfl rfl rfl (wantB_t _) rfl (by decide) (fun hp hS => ((hS.conv (t := 103) rfl (cond_t hp)).conv (t := 105) rfl (cond_t hp)).sub (ts := [103, 105]) rfl) rfl rfl rfl rfl (fun hp => (have hq := c_ref06_Same (gif_in hx2 hp) ((H).pick0 (js := [(3, true), (8, true)]) rfl rfl); plainC hq)) fun a w4 hb Z => ?_
 replace H := H.blw hb
 clear hb
 refine sO Z (vT (((((((((((((((a0.k == b.k) && (a0.epoch == b.epoch)) && (a0.req == b.req)) && (a0.serial == b.serial)) && (a0.flag == b.flag)) && (a0.at_ == b.at_)) && (a0.last == b.last)) && (a0.n == b.n)) && (a0.m == b.m)) && (a0.p == b.p)) && (a0.e == b.e)) && (seqB a0.key b.key)) && (seqB a0.to_ b.to_)) && s0) && s0_2)) rfl (Ob_pick rfl rfl rfl rfl (pick_and _ _)) fun a Z => ?_
 refine s_runk tMs2 Z 1 rfl rfl fun a Z => ?_
 refine gO Z (pp b1 19) rfl (wantB_t _) (.n 2 rfl .z) (fun hp => Ob_c tMs2 rfl) fun a Z => ?_
 refine gO Z _ rfl (wantB_t _) (.c 109 rfl id .z) (fun hp => oL tMs2 rfl rfl (H.bc 1 19 rfl rfl)) fun a Z => ?_
 refine gO Z (pp b2 19) rfl (wantB_t _) (.n 3 rfl .z) (fun hp => Ob_c tMs2 rfl) fun a Z => ?_
 refine gO Z _ rfl (wantB_t _) (.c 111 rfl id .z) (fun hp => oL tMs2 rfl rfl (H.bc 0 19 rfl rfl)) fun a Z => ?_
 refine g_call Z (p := (((((((((((((((a0.k == b.k) && (a0.epoch == b.epoch)) && (a0.req == b.req)) && (a0.serial == b.serial)) && (a0.flag == b.flag)) && (a0.at_ == b.at_)) && (a0.last == b.last)) && (a0.n == b.n)) && (a0.m == b.m)) && (a0.p == b.p)) && (a0.e == b.e)) && (seqB a0.key b.key)) && (seqB a0.to_ b.to_)) && s0) && s0_2)) (v := vT s0_3) (S' := [(110, v3_a0), (112, v8_b)]) (caps := #[]) fn_31_YMs2 rfl rfl rfl (wantB_t _) rfl (by decide) (fun hp hS => ((hS.conv (t := 110) rfl (cond_t hp)).conv (t := 112) rfl (cond_t hp)).sub (ts := [110, 112]) rfl) rfl rfl rfl rfl (fun hp => (have hq := c_ref08_SameAll (gif_in hx3 hp) ((H).pick0 (js := [(4, true), (9, true)]) rfl rfl); plainC hq)) fun a w5 hb Z => ?_
 replace H := H.blw hb
 clear hb
 refine sO Z (vT ((((((((((((((((a0.k == b.k) && (a0.epoch == b.epoch)) && (a0.req == b.req)) && (a0.serial == b.serial)) && (a0.flag == b.flag)) && (a0.at_ == b.at_)) && (a0.last == b.last)) && (a0.n == b.n)) && (a0.m == b.m)) && (a0.p == b.p)) && (a0.e == b.e)) && (seqB a0.key b.key)) && (seqB a0.to_ b.to_)) && s0) && s0_2) && s0_3)) rfl (Ob_pick rfl rfl rfl rfl (pick_and _ _)) fun a Z => ?_
 refine s_runk tMs2 Z 1 rfl rfl fun a Z => ?_
 refine gO Z (pp b1 20) rfl (wantB_t _) (.n 2 rfl .z) (fun hp => Ob_c tMs2 rfl) fun a Z => ?_
 refine gO Z _ rfl (wantB_t _) (.c 116 rfl id .z) (fun hp => oL tMs2 rfl rfl (H.bc 1 20 rfl rfl)) fun a Z => ?_
 refine gO Z (pp b2 20) rfl (wantB_t _) (.n 3 rfl .z) (fun hp => Ob_c tMs2 rfl) fun a Z => ?_
 refine gO Z _ rfl (wantB_t _) (.c 118 rfl id .z) (fun hp => oL tMs2 rfl rfl (H.bc 0 20 rfl rfl)) fun a Z => ?_
 refine g_call Z (p := ((((((((((((((((a0.k == b.k) && (a0.epoch == b.epoch)) && (a0.req == b.req)) && (a0.serial == b.serial)) && (a0.flag == b.flag)) && (a0.at_ == b.at_)) && (a0.last == b.last)) && (a0.n == b.n)) && (a0.m == b.m)) && (a0.p == b.p)) && (a0.e == b.e)) && (seqB a0.key b.key)) && (seqB a0.to_ b.to_)) && s0) && s0_2) && s0_3)) (v := vT s0_4) (S' := [(117, v4_a0), (119, v9_b)]) (caps := #[]) fn_32_YMs2 rfl rfl rfl (wantB_t _) rfl (by decide) (fun hp hS => ((hS.conv (t := 117) rfl (cond_t hp)).conv (t := 119) rfl (cond_t hp)).sub (ts := [117, 119]) rfl) rfl rfl rfl rfl (fun hp => (have hq := c_ref09_sameStamps (gif_in hx4 hp) ((H).pick0 (js := [(5, true), (10, true)]) rfl rfl); plainC hq)) fun a w6 hb Z => ?_
 replace H := H.blw hb
 clear hb
 refine sO Z (vT (((((((((((((((((a0.k == b.k) && (a0.epoch == b.epoch)) && (a0.req == b.req)) && (a0.serial == b.serial)) && (a0.flag == b.flag)) && (a0.at_ == b.at_)) && (a0.last == b.last)) && (a0.n == b.n)) && (a0.m == b.m)) && (a0.p == b.p)) && (a0.e == b.e)) && (seqB a0.key b.key)) && (seqB a0.to_ b.to_)) && s0) && s0_2) && s0_3) && s0_4)) rfl (Ob_pick rfl rfl rfl rfl (pick_and _ _)) fun a Z => ?_
 refine s_runk tMs2 Z 1 rfl rfl fun a Z => ?_
 refine gO Z (pp b1 21) rfl (wantB_t _) (.n 2 rfl .z) (fun hp => Ob_c tMs2 rfl) fun a Z => ?_
 refine gO Z _ rfl (wantB_t _) (.c 123 rfl id .z) (fun hp => oL tMs2 rfl rfl (H.bc 1 21 rfl rfl)) fun a Z => ?_
 refine gO Z (pp b2 21) rfl (wantB_t _) (.n 3 rfl .z) (fun hp => Ob_c tMs2 rfl) fun a Z => ?_
 refine gO Z _ rfl (wantB_t _) (.c 125 rfl id .z) (fun hp => oL tMs2 rfl rfl (H.bc 0 21 rfl rfl)) fun a Z => ?_
 refine g_call Z (p := (((((((((((((((((a0.k == b.k) && (a0.epoch == b.epoch)) && (a0.req == b.req)) && (a0.serial == b.serial)) && (a0.flag == b.flag)) && (a0.at_ == b.at_)) && (a0.last == b.last)) && (a0.n == b.n)) && (a0.m == b.m)) && (a0.p == b.p)) && (a0.e == b.e)) && (seqB a0.key b.key)) && (seqB a0.to_ b.to_)) && s0) && s0_2) && s0_3) && s0_4)) (v := vT s0_5) (S' := [(124, v5_a0), (126, v10_b)]) (caps := #[]) fn_33_YMs2 rfl rfl rfl (wantB_t _) rfl (by decide) (fun hp hS => ((hS.conv (t := 124) rfl (cond_t hp)).conv (t := 126) rfl (cond_t hp)).sub (ts := [124, 126]) rfl) rfl rfl rfl rfl (fun hp => (have hq := c_ref06_SamePairs (gif_in hx5 hp) ((H).pick0 (js := [(6, true), (11, true)]) rfl rfl); plainC hq)) fun a w7 hb Z => ?_
 replace H := H.blw hb
 clear hb
 refine sO Z (vT ((((((((((((((((((a0.k == b.k) && (a0.epoch == b.epoch)) && (a0.req == b.req)) && (a0.serial == b.serial)) && (a0.flag == b.flag)) && (a0.at_ == b.at_)) && (a0.last == b.last)) && (a0.n == b.n)) && (a0.m == b.m)) && (a0.p == b.p)) && (a0.e == b.e)) && (seqB a0.key b.key)) && (seqB a0.to_ b.to_)) && s0) && s0_2) && s0_3) && s0_4) && s0_5)) rfl (Ob_pick rfl rfl rfl rfl (pick_and _ _)) fun a Z => ?_
 refine s_runk tMs2 Z 1 rfl rfl fun a Z => ?_
 refine s_end Z [4] rfl fun Z => ?_
 refine p_then (wp_ret ?_)
 obtain rfl := some_in hF
 exact f_ret Z (run_results1 rfl Z rfl) ⟨rfl, I, (H.sub [] rfl).eq rfl⟩

end Go.Proofs.YthmjkcdpbbcdgaaGreat
