/- Messages: the law of what is read. -/
import Derived.Test.YthmjkcdpbbcdgaaGreatYMs3
import Derived.Test.YthmjkcdpbbcdgaaGreatYMs4
namespace Go.Proofs.YthmjkcdpbbcdgaaGreat
open Go.RowKit
def tMsWRL : TabL := ⟨[(35840, 0), (35842, 2), (35845, 5), (35846, 6), (35847, 7), (35850, 10), (35851, 11), (35852, 12), (35855, 19), (35856, 20), (35857, 21), (93184, 0), (93185, 1)], [9], [], [(31, (88, 4)), (32, (23, 1)), (33, (91, 2))], [(3, (1, false)), (9, (1, false)), (23, (1, false)), (24, (1, false)), (31, (1, false)), (32, (1, false)), (33, (1, false)), (35, (22, true)), (88, (4, true)), (91, (2, true))]⟩

def tMsWR : Tab Tryz.prog := ⟨tMsWRL, by kernel_rfl⟩

theorem fn_5_YMsWR : IsFn Tryz.prog 5 := ⟨_, Tryz.func5, by kernel_rfl, by kernel_rfl⟩

theorem fn_6_YMsWR : IsFn Tryz.prog 6 := ⟨_, Tryz.func6, by kernel_rfl, by kernel_rfl⟩

theorem fn_7_YMsWR : IsFn Tryz.prog 7 := ⟨_, Tryz.func7, by kernel_rfl, by kernel_rfl⟩

theorem fn_8_YMsWR : IsFn Tryz.prog 8 := ⟨_, Tryz.func8, by kernel_rfl, by kernel_rfl⟩

theorem fn_10_YMsWR : IsFn Tryz.prog 10 := ⟨_, Tryz.func10, by kernel_rfl, by kernel_rfl⟩

theorem fn_12_YMsWR : IsFn Tryz.prog 12 := ⟨_, Tryz.func12, by kernel_rfl, by kernel_rfl⟩

theorem fn_20_YMsWR : IsFn Tryz.prog 20 := ⟨_, Tryz.func20, by kernel_rfl, by kernel_rfl⟩

theorem fn_35_YMsWR : IsFn Tryz.prog 35 := ⟨_, Tryz.func35, by kernel_rfl, by kernel_rfl⟩

theorem fn_36_YMsWR : IsFn Tryz.prog 36 := ⟨_, Tryz.func36, by kernel_rfl, by kernel_rfl⟩

theorem fn_37_YMsWR : IsFn Tryz.prog 37 := ⟨_, Tryz.func37, by kernel_rfl, by kernel_rfl⟩

theorem fn_38_YMsWR : IsFn Tryz.prog 38 := ⟨_, Tryz.func38, by kernel_rfl, by kernel_rfl⟩

theorem fn_58_YMsWR : IsFn Tryz.prog 58 := ⟨_, Tryz.func58, by kernel_rfl, by kernel_rfl⟩

theorem fn_78_YMsWR : IsFn Tryz.prog 78 := ⟨_, Tryz.func78, by kernel_rfl, by kernel_rfl⟩

theorem fn_79_YMsWR : IsFn Tryz.prog 79 := ⟨_, Tryz.func79, by kernel_rfl, by kernel_rfl⟩

theorem fn_80_YMsWR : IsFn Tryz.prog 80 := ⟨_, Tryz.func80, by kernel_rfl, by kernel_rfl⟩

def F_mess_plain0_k1 (w0 : Ewire_Writer) (text : ByteArray) : Option Ewire_Writer := (F_wire_Writer_Text w0 text).bind fun t => (some t)

def F_mess_plain0 (w0 : Ewire_Writer) (m : EMsg) (c : Int) : Option Ewire_Writer := (F_mess_number c).bind fun n0 => (if (!n0.isNone) = true then (chk (n0.isSome = true) ((selI [(1, m.epoch), (2, m.req), (3, m.serial), (7, m.n), (8, m.m), (9, m.p)] n0).bind fun k => ((F_wire_Writer_Num w0 k).bind fun n0_2 => (some n0_2)))) else (if (c == 120) = true then ((F_wire_Writer_Num w0 m.e).bind fun n0_3 => (some n0_3)) else (if (c == 97) = true then ((F_wire_Writer_Big w0 m.at_).bind fun b => (some b)) else (if (c == 108) = true then ((F_wire_Writer_Big w0 m.last).bind fun b_2 => (some b_2)) else (if (c == 102) = true then (none) else (if (c == 107) = true then (F_mess_plain0_k1 w0 m.key) else (if (c == 116) = true then (F_mess_plain0_k1 w0 m.to_) else (if (c == 67) = true then (none) else (if (c == 66) = true then (none) else (F_mess_plain0_k1 w0 ⟨#[]⟩))))))))))

set_option maxHeartbeats 1000000 in
theorem c_mess_plain0 {I D : Dm} {b_w0 : Nat} {w0 : Ewire_Writer} {m : EMsg} {v1_m : Value} {v2_m : Value} {v3_m : Value} {v4_m : Value} {v5_m : Value} {c : Int} {w : World} {rr : Ewire_Writer} (hF : F_mess_plain0 w0 m c = some rr) (H : St I D w [OEwire_Writer b_w0 w0, SlC NEMember v1_m m.conf.members, SlC NEOp v2_m m.batch.ops, SlC NEEntry v3_m m.entries, SlC Nu64 v4_m m.stamps, SlC NEPair v5_m m.pairs]) :
  Calls Tryz.prog 80 #[pp b_w0 0, .agg (cEMsg m v1_m v2_m v3_m v4_m v5_m).toArray, .int .i32 c] w (Ret fun vv w' => vv = .tuple #[] ∧ ∃ I', Hf I D w I' w' [OEwire_Writer b_w0 rr]) := by
 replace H := H.hf
 unfold F_mess_plain0 at hF
 refine f_enter 69 Tryz.func80 rfl rfl (Nat.le_of_ble_eq_true rfl) fun a Z => ?_
 replace Z := Z.sub (ts := [0, 1, 2]) rfl
 refine wp_seq (f_region Z ?_); clear Z; intro Z
 refine h_boxv Z H (cl := (cEMsg m v1_m v2_m v3_m v4_m v5_m)) rfl rfl rfl (by decide) rfl rfl rfl fun a w1 b1 H Z => ?_
 refine s_end Z [0, 2, 4] rfl fun Z => ?_
 refine p_then (wp_seq ?_)
 refine wp_seq ?_
 obtain ⟨n0, hx1, hF⟩ := bnd_in hF
 refine f_region Z fun Z => ?_
 refine s_runk tMsWR Z 1 rfl rfl fun a Z => ?_
 refine hC Z H [] rfl #[] fn_58_YMsWR rfl rfl (fun D h => have q := c_mess_number hx1 h; q) fun vv a w2 D2 hr hF2 Z => ?_
 obtain ⟨rfl, I1, K⟩ := hr
 have H := (hF2 K).nf rfl
 refine s_runk tMsWR Z 1 rfl rfl fun a Z => ?_
 refine s_end Z [0, 2, 4, 6] rfl fun Z => ?_
 refine p_then (wp_seq (f_region Z ?_)); clear Z; intro Z
 refine s_runk tMsWR Z 1 rfl rfl fun a Z => ?_
 refine sO Z (vT (!n0.isNone)) rfl (Ob_ieq rfl rfl rfl (.inr ⟨rfl, rfl⟩) Tryz.underlying98) fun a Z => ?_
 refine s_end Z [0, 2, 4, 6, 11] rfl fun Z => ?_
 refine p_then ?_
 refine f_cond Z rfl (fun hc1 => ?_) (fun hc1 => ?_)
 ·replace hF := ite_t hc1 hF
  refine wp_seq ?_
  obtain ⟨hg1, hF⟩ := chk_in hF
  obtain ⟨k, hx2, hF⟩ := bnd_in hF
  obtain ⟨n0_2, hx3, hF⟩ := bnd_in hF
  refine f_region Z fun Z => ?_
  refine s_runk tMsWR Z 2 rfl rfl fun a Z => ?_
  refine sO Z (iptV b1 n0) rfl (Ob_inil rfl rfl hg1) fun a Z => ?_
  refine sO Z (vI k) rfl (Ob_iload tMsWR rfl rfl rfl hx2 (H.bx 0 rfl) ⟨rfl, rfl, rfl, rfl, rfl, rfl, trivial⟩) fun a Z => ?_
  refine hC Z H [(1, false)] rfl #[] fn_36_YMsWR rfl rfl (fun D h => have q := c_wire_Writer_Num hx3 h; q) fun vv a w3 D2 hr hF2 Z => ?_
  obtain ⟨rfl, I2, K⟩ := hr
  have H := (hF2 K).nf rfl
  refine s_end Z [] rfl fun Z => ?_
  refine p_then (wp_ret ?_)
  refine p_then_r ?_
  obtain rfl := some_in hF
  exact f_ret Z (run_results0 rfl) ⟨rfl, I2, (H.sub [(0, false)] rfl).eq rfl⟩
 ·replace hF := ite_f hc1 hF
  refine wp_skip ?_
  refine p_then (wp_seq (f_region Z ?_)); clear Z; intro Z
  refine s_runk tMsWR Z 1 rfl rfl fun a Z => ?_
  refine s_end Z [0, 2, 4, 7] rfl fun Z => ?_
  refine p_then ?_
  refine f_cut (fun a' w' => ∃ (text : ByteArray), Sl 69 [(0, pp b_w0 0), (7, vS text)] a' ∧ (∃ I2, Hf I D w I2 w' [OEwire_Writer b_w0 w0]) ∧ F_mess_plain0_k1 w0 text = some rr) ?_ ?_
  ·rintro a w4 ⟨text, Z, ⟨I3, H⟩, hF⟩
   unfold F_mess_plain0_k1 at hF
   try dsimp only at hF
   obtain ⟨t, hx4, hF⟩ := bnd_in hF
   refine f_region Z fun Z => ?_
   refine s_runk tMsWR Z 2 rfl rfl fun a Z => ?_
   refine hC Z H [(0, false)] rfl #[] fn_78_YMsWR rfl rfl (fun D h => have q := c_wire_Writer_Text hx4 h; q) fun vv a w5 D2 hr hF2 Z => ?_
   obtain ⟨rfl, I4, K⟩ := hr
   have H := (hF2 K).nf rfl
   refine s_end Z [] rfl fun Z => ?_
   obtain rfl := some_in hF
   exact f_fall Z (run_results0 rfl) ⟨rfl, I4, (H.sub [(0, false)] rfl).eq rfl⟩
  ·skip
   refine wp_seq (f_region Z ?_); clear Z; intro Z
   refine s_runk tMsWR Z 1 rfl rfl fun a Z => ?_
   refine s_end Z [0, 4, 7, 17] rfl fun Z => ?_
   refine p_then (wp_block ?_)
   refine wp_seq (f_region Z ?_); clear Z; intro Z
   refine s_runk tMsWR Z 2 rfl rfl fun a Z => ?_
   refine s_end Z [0, 4, 7, 17, 18] rfl fun Z => ?_
   refine p_then ?_
   refine f_cond Z rfl (fun hc2 => ?_) (fun hc2 => ?_)
   ·replace hF := ite_t hc2 hF
    refine wp_seq ?_
    obtain ⟨n0_3, hx5, hF⟩ := bnd_in hF
    refine f_region Z fun Z => ?_
    refine s_runk tMsWR Z 2 rfl rfl fun a Z => ?_
    refine sO Z _ rfl (oL tMsWR rfl rfl (H.bc 0 10 rfl rfl)) fun a Z => ?_
    refine hC Z H [(1, false)] rfl #[] fn_36_YMsWR rfl rfl (fun D h => have q := c_wire_Writer_Num hx5 h; q) fun vv a w6 D2 hr hF2 Z => ?_
    obtain ⟨rfl, I5, K⟩ := hr
    have H := (hF2 K).nf rfl
    refine s_end Z [] rfl fun Z => ?_
    refine p_then (wp_ret ?_)
    refine p_blk_r ?_
    refine p_then_r ?_
    obtain rfl := some_in hF
    exact f_ret Z (run_results0 rfl) ⟨rfl, I5, (H.sub [(0, false)] rfl).eq rfl⟩
   ·replace hF := ite_f hc2 hF
    refine wp_seq (f_region Z ?_); clear Z; intro Z
    refine s_runk tMsWR Z 2 rfl rfl fun a Z => ?_
    refine s_end Z [0, 4, 7, 17, 24] rfl fun Z => ?_
    refine p_then ?_
    refine f_cond Z rfl (fun hc3 => ?_) (fun hc3 => ?_)
    ·replace hF := ite_t hc3 hF
     refine wp_seq ?_
     obtain ⟨b, hx6, hF⟩ := bnd_in hF
     refine f_region Z fun Z => ?_
     refine s_runk tMsWR Z 2 rfl rfl fun a Z => ?_
     refine sO Z _ rfl (oL tMsWR rfl rfl (H.bc 0 5 rfl rfl)) fun a Z => ?_
     refine hC Z H [(1, false)] rfl #[] fn_79_YMsWR rfl rfl (fun D h => have q := c_wire_Writer_Big hx6 h; q) fun vv a w7 D2 hr hF2 Z => ?_
     obtain ⟨rfl, I6, K⟩ := hr
     have H := (hF2 K).nf rfl
     refine s_end Z [] rfl fun Z => ?_
     refine p_then (wp_ret ?_)
     refine p_blk_r ?_
     refine p_then_r ?_
     obtain rfl := some_in hF
     exact f_ret Z (run_results0 rfl) ⟨rfl, I6, (H.sub [(0, false)] rfl).eq rfl⟩
    ·replace hF := ite_f hc3 hF
     refine wp_seq (f_region Z ?_); clear Z; intro Z
     refine s_runk tMsWR Z 2 rfl rfl fun a Z => ?_
     refine s_end Z [0, 4, 7, 17, 30] rfl fun Z => ?_
     refine p_then ?_
     refine f_cond Z rfl (fun hc4 => ?_) (fun hc4 => ?_)
     ·replace hF := ite_t hc4 hF
      refine wp_seq ?_
      obtain ⟨b_2, hx7, hF⟩ := bnd_in hF
      refine f_region Z fun Z => ?_
      refine s_runk tMsWR Z 2 rfl rfl fun a Z => ?_
      refine sO Z _ rfl (oL tMsWR rfl rfl (H.bc 0 6 rfl rfl)) fun a Z => ?_
      refine hC Z H [(1, false)] rfl #[] fn_79_YMsWR rfl rfl (fun D h => have q := c_wire_Writer_Big hx7 h; q) fun vv a w8 D2 hr hF2 Z => ?_
      obtain ⟨rfl, I7, K⟩ := hr
      have H := (hF2 K).nf rfl
      refine s_end Z [] rfl fun Z => ?_
      refine p_then (wp_ret ?_)
      refine p_blk_r ?_
      refine p_then_r ?_
      obtain rfl := some_in hF
      exact f_ret Z (run_results0 rfl) ⟨rfl, I7, (H.sub [(0, false)] rfl).eq rfl⟩
     ·replace hF := ite_f hc4 hF
      refine wp_seq (f_region Z ?_); clear Z; intro Z
      refine s_runk tMsWR Z 2 rfl rfl fun a Z => ?_
      refine s_end Z [0, 4, 7, 17, 36] rfl fun Z => ?_
      refine p_then ?_
      refine f_cond Z rfl (fun hc5 => ?_) (fun hc5 => ?_)
      ·replace hF := ite_t hc5 hF
       refine wp_seq ?_
       cases hF
      ·replace hF := ite_f hc5 hF
       refine wp_seq (f_region Z ?_); clear Z; intro Z
       refine s_runk tMsWR Z 2 rfl rfl fun a Z => ?_
       refine s_end Z [0, 4, 7, 17, 42] rfl fun Z => ?_
       refine p_then ?_
       refine f_cond Z rfl (fun hc6 => ?_) (fun hc6 => ?_)
       ·replace hF := ite_t hc6 hF
        refine f_region Z fun Z => ?_
        refine s_runk tMsWR Z 1 rfl rfl fun a Z => ?_
        refine sO Z _ rfl (oL tMsWR rfl rfl (H.bc 0 11 rfl rfl)) fun a Z => ?_
        refine s_runk tMsWR Z 1 rfl rfl fun a Z => ?_
        refine s_end Z [0, 7] rfl fun Z => ?_
        refine p_blk ?_
        refine p_then ?_
        exact ⟨m.key, Z.sub (ts := [0, 7]) rfl, ⟨I1, (H.sub [(1, false)] rfl).eq rfl⟩, hF⟩
       ·replace hF := ite_f hc6 hF
        refine wp_seq (f_region Z ?_); clear Z; intro Z
        refine s_runk tMsWR Z 2 rfl rfl fun a Z => ?_
        refine s_end Z [0, 4, 7, 17, 46] rfl fun Z => ?_
        refine p_then ?_
        refine f_cond Z rfl (fun hc7 => ?_) (fun hc7 => ?_)
        ·replace hF := ite_t hc7 hF
         refine f_region Z fun Z => ?_
         refine s_runk tMsWR Z 1 rfl rfl fun a Z => ?_
         refine sO Z _ rfl (oL tMsWR rfl rfl (H.bc 0 12 rfl rfl)) fun a Z => ?_
         refine s_runk tMsWR Z 1 rfl rfl fun a Z => ?_
         refine s_end Z [0, 7] rfl fun Z => ?_
         refine p_blk ?_
         refine p_then ?_
         exact ⟨m.to_, Z.sub (ts := [0, 7]) rfl, ⟨I1, (H.sub [(1, false)] rfl).eq rfl⟩, hF⟩
        ·replace hF := ite_f hc7 hF
         refine wp_seq (f_region Z ?_); clear Z; intro Z
         refine s_runk tMsWR Z 2 rfl rfl fun a Z => ?_
         refine s_end Z [0, 4, 7, 17, 50] rfl fun Z => ?_
         refine p_then ?_
         refine f_cond Z rfl (fun hc8 => ?_) (fun hc8 => ?_)
         ·replace hF := ite_t hc8 hF
          cases hF
         ·replace hF := ite_f hc8 hF
          refine wp_seq (f_region Z ?_); clear Z; intro Z
          refine s_runk tMsWR Z 2 rfl rfl fun a Z => ?_
          refine s_end Z [0, 4, 7, 58] rfl fun Z => ?_
          refine p_then ?_
          refine f_cond Z rfl (fun hc9 => ?_) (fun hc9 => ?_)
          ·replace hF := ite_t hc9 hF
           cases hF
          ·replace hF := ite_f hc9 hF
           refine wp_skip ?_
           refine p_blk ?_
           refine p_then ?_
           exact ⟨⟨#[]⟩, Z.sub (ts := [0, 7]) rfl, ⟨I1, (H.sub [(1, false)] rfl).eq rfl⟩, hF⟩

def F_mess_write0_l1 (m : EMsg) (n0 : Ewire_Writer) (rc : Unit → Option Ewire_Writer) (sg : Unit) : Option Ewire_Writer := match sg with | _ => if (decide (0 < (m.entries.length : Int))) = true then (chk ((0 : Int) ≤ 0 ∧ 0 < (m.entries.length : Int)) (none)) else (some n0)

def F_mess_write0_l2 (m : EMsg) (rc_2 : (Int × Ewire_Writer) → Option Ewire_Writer) (sg : Int × Ewire_Writer) : Option Ewire_Writer := match sg with | (x, w0_2) => if (decide (x < (m.stamps.length : Int))) = true then (chk ((0 : Int) ≤ x ∧ x < (m.stamps.length : Int)) ((F_wire_Writer_Big w0_2 (m.stamps.getD (x).toNat default)).bind fun b => (chk (inI (x + 1)) (rc_2 (x + 1, b))))) else (some w0_2)

def F_mess_write0_l3 (m : EMsg) (rc_3 : (Int × Ewire_Writer) → Option Ewire_Writer) (sg : Int × Ewire_Writer) : Option Ewire_Writer := match sg with | (x_2, w0_3) => if (decide (x_2 < (m.pairs.length : Int))) = true then (chk ((0 : Int) ≤ x_2 ∧ x_2 < (m.pairs.length : Int)) ((F_wire_Writer_Text w0_3 ((m.pairs.getD (x_2).toNat default).key)).bind fun t => ((F_wire_Writer_Text t ((m.pairs.getD (x_2).toNat default).val)).bind fun t_2 => (chk (inI (x_2 + 1)) (rc_3 (x_2 + 1, t_2)))))) else (some w0_3)

def F_mess_write0 (w0 : Ewire_Writer) (m : EMsg) (c : Int) : Option Ewire_Writer := if (c == 69) = true then ((F_wire_Writer_Num w0 (m.entries.length : Int)).bind fun n0 => (iter (F_mess_write0_l1 m n0) FU ())) else (if (c == 83) = true then ((F_wire_Writer_Num w0 (m.stamps.length : Int)).bind fun n0_2 => (iter (F_mess_write0_l2 m) FU (0, n0_2))) else (if (c == 82) = true then ((F_wire_Writer_Num w0 (m.pairs.length : Int)).bind fun n0_3 => (iter (F_mess_write0_l3 m) FU (0, n0_3))) else ((F_mess_plain0 w0 m c).bind fun p => (some p))))

set_option maxHeartbeats 1000000 in
theorem c_mess_write0 {I D : Dm} {b_w0 : Nat} {w0 : Ewire_Writer} {m : EMsg} {v1_m : Value} {v2_m : Value} {v3_m : Value} {v4_m : Value} {v5_m : Value} {c : Int} {w : World} {rr : Ewire_Writer} (hF : F_mess_write0 w0 m c = some rr) (H : St I D w [OEwire_Writer b_w0 w0, SlC NEMember v1_m m.conf.members, SlC NEOp v2_m m.batch.ops, SlC NEEntry v3_m m.entries, SlC Nu64 v4_m m.stamps, SlC NEPair v5_m m.pairs]) :
  Calls Tryz.prog 37 #[pp b_w0 0, .agg (cEMsg m v1_m v2_m v3_m v4_m v5_m).toArray, .int .i32 c] w (Ret fun vv w' => vv = .tuple #[] ∧ ∃ I', Hf I D w I' w' [OEwire_Writer b_w0 rr]) := by
 replace H := H.hf
 unfold F_mess_write0 at hF
 refine f_enter 82 Tryz.func37 rfl rfl (Nat.le_of_ble_eq_true rfl) fun a Z => ?_
 replace Z := Z.sub (ts := [0, 1, 2]) rfl
 refine wp_seq (f_region Z ?_); clear Z; intro Z
 refine h_boxv Z H (cl := (cEMsg m v1_m v2_m v3_m v4_m v5_m)) rfl rfl rfl (by decide) rfl rfl rfl fun a w1 b1 H Z => ?_
 refine s_end Z [0, 2, 4] rfl fun Z => ?_
 refine p_then (wp_seq (f_region Z ?_)); clear Z; intro Z
 refine s_runk tMsWR Z 1 rfl rfl fun a Z => ?_
 refine s_end Z [0, 2, 4, 14] rfl fun Z => ?_
 refine p_then (wp_block ?_)
 refine wp_seq (f_region Z ?_); clear Z; intro Z
 refine s_runk tMsWR Z 2 rfl rfl fun a Z => ?_
 refine s_end Z [0, 2, 4, 14, 19] rfl fun Z => ?_
 refine p_then ?_
 refine f_cond Z rfl (fun hc1 => ?_) (fun hc1 => ?_)
 ·replace hF := ite_t hc1 hF
  refine wp_seq ?_
  obtain ⟨n0, hx1, hF⟩ := bnd_in hF
  refine f_region Z fun Z => ?_
  refine s_runk tMsWR Z 2 rfl rfl fun a Z => ?_
  refine sO Z _ rfl (oL tMsWR rfl rfl (H.bc 0 19 rfl rfl)) fun a Z => ?_
  refine sO Z (vI (ln m.entries)) rfl (Ob_slen tMsWR rfl rfl rfl (H.slshape 4 rfl)) fun a Z => ?_
  refine hC Z H [(1, false)] rfl #[] fn_36_YMsWR rfl rfl (fun D h => have q := c_wire_Writer_Num hx1 h; q) fun vv a w2 D2 hr hF2 Z => ?_
  obtain ⟨rfl, I1, K⟩ := hr
  have H := (hF2 K).nf rfl
  refine s_end Z [0, 4] rfl fun Z => ?_
  refine p_then (wp_seq (f_region Z ?_)); clear Z; intro Z
  refine s_runk tMsWR Z 1 rfl rfl fun a Z => ?_
  refine sO Z _ rfl (oL tMsWR rfl rfl (H.bc 1 19 rfl rfl)) fun a Z => ?_
  refine sO Z (vI (ln m.entries)) rfl (Ob_slen tMsWR rfl rfl rfl (H.slshape 4 rfl)) fun a Z => ?_
  refine s_runk tMsWR Z 1 rfl rfl fun a Z => ?_
  refine s_end Z [0, 27, 28, 29] rfl fun Z => ?_
  refine p_then (wp_block ?_)
  refine f_iter hF (fun sg a' w' => match sg with | _ => Sl 82 [(0, pp b_w0 0), (27, v3_m), (28, vI (ln m.entries)), (29, vI 0)] a' ∧ ∃ I2, Hf I D w I2 w' [OEwire_Writer b_w0 n0, SlC NEEntry v3_m m.entries]) ⟨Z.sub (ts := [0, 27, 28, 29]) rfl, ⟨I1, (H.sub [(0, false), (3, true)] rfl).eq rfl⟩⟩ ?_
  rintro rc _ a w3 ⟨Z, I2, H⟩ hF
  unfold F_mess_write0_l1 at hF
  try dsimp only at hF
  refine wp_seq (f_region Z ?_); clear Z; intro Z
  refine s_runk tMsWR Z 1 rfl rfl fun a Z => ?_
  refine s_end Z [0, 27, 28, 29, 30] rfl fun Z => ?_
  refine p_then (wp_seq ?_)
  refine f_cond Z rfl (fun hc2 => ?_) (fun hc2 => ?_)
  ·replace hF := ite_t hc2 hF
   refine wp_skip ?_
   refine p_then (wp_seq ?_)
   refine wp_block ?_
   refine wp_seq ?_
   obtain ⟨hg1, hF⟩ := chk_in hF
   refine f_region Z fun Z => ?_
   refine sO Z (.pointer (some ⟨blkOf v3_m, oofOf v3_m + (0 : Int).toNat * 4, none⟩)) rfl (Ob_sidx tMsWR rfl rfl rfl rfl (slPl (H.sl 1 rfl) hg1) hg1) fun a Z => ?_
   obtain ⟨_, ⟨u1, rfl, L1⟩, H⟩ := H.elG 1 rfl (0) (NEEntry.dft _ _)
   replace H := H.addsl L1
   replace H : Hf I D w I2 w3 [SlC NEOp u1 (((m.entries.getD (0 : Int).toNat default).batch).ops), AtG ((0 : Int) ≤ 0 ∧ 0 < (ln m.entries)) (blkOf v3_m) (oofOf v3_m + (0 : Int).toNat * 4) (cEEntry (m.entries.getD (0 : Int).toNat default) u1), OEwire_Writer b_w0 n0, SlC NEEntry v3_m m.entries] := H
   refine sO Z (.agg (cEEntry (m.entries.getD (0 : Int).toNat default) u1).toArray) rfl (oA tMsWR rfl rfl ((H.atg 1 rfl hg1).part 0 rfl)) fun a Z => ?_
   refine hA Z H [vI 0, vI 0, nS, vU 0] rfl rfl (by kernel_rfl) fun a w4 b2 H Z => ?_
   refine hT tMsWR Z H 0 rfl rfl rfl rfl rfl (onR 2 rfl (one_cons (slS.one (H.slshape 1 rfl)) (one_cons rfl one_nil))) (Nat.le_of_ble_eq_true rfl) rfl fun w5 H => ?_
   dsimp only [List.eraseIdx] at H
   refine s_end Z [0, 27, 28, 29, 7] rfl fun Z => ?_
   refine p_then (wp_seq ?_)
   cases hF
  ·replace hF := ite_f hc2 hF
   refine wp_exit ?_
   refine p_then_x ?_
   refine p_then_x ?_
   refine f_exit_here ?_
   refine p_blk ?_
   obtain rfl := some_in hF
   exact f_fall Z (run_results0 rfl) ⟨rfl, I2, (H.sub [(0, false)] rfl).eq rfl⟩
 ·replace hF := ite_f hc1 hF
  refine wp_seq (f_region Z ?_); clear Z; intro Z
  refine s_runk tMsWR Z 2 rfl rfl fun a Z => ?_
  refine s_end Z [0, 2, 4, 14, 42] rfl fun Z => ?_
  refine p_then ?_
  refine f_cond Z rfl (fun hc3 => ?_) (fun hc3 => ?_)
  ·replace hF := ite_t hc3 hF
   refine wp_seq ?_
   obtain ⟨n0_2, hx2, hF⟩ := bnd_in hF
   refine f_region Z fun Z => ?_
   refine s_runk tMsWR Z 2 rfl rfl fun a Z => ?_
   refine sO Z _ rfl (oL tMsWR rfl rfl (H.bc 0 20 rfl rfl)) fun a Z => ?_
   refine sO Z (vI (ln m.stamps)) rfl (Ob_slen tMsWR rfl rfl rfl (H.slshape 5 rfl)) fun a Z => ?_
   refine hC Z H [(1, false)] rfl #[] fn_36_YMsWR rfl rfl (fun D h => have q := c_wire_Writer_Num hx2 h; q) fun vv a w6 D2 hr hF2 Z => ?_
   obtain ⟨rfl, I3, K⟩ := hr
   have H := (hF2 K).nf rfl
   refine s_end Z [0, 4] rfl fun Z => ?_
   refine p_then (wp_seq (f_region Z ?_)); clear Z; intro Z
   refine s_runk tMsWR Z 1 rfl rfl fun a Z => ?_
   refine sO Z _ rfl (oL tMsWR rfl rfl (H.bc 1 20 rfl rfl)) fun a Z => ?_
   refine sO Z (vI (ln m.stamps)) rfl (Ob_slen tMsWR rfl rfl rfl (H.slshape 5 rfl)) fun a Z => ?_
   refine s_runk tMsWR Z 1 rfl rfl fun a Z => ?_
   refine s_end Z [0, 50, 51, 52] rfl fun Z => ?_
   refine p_then (wp_block ?_)
   refine f_iter hF (fun sg a' w' => match sg with | (x, w0_2) => Sl 82 [(0, pp b_w0 0), (50, v4_m), (51, vI (ln m.stamps)), (52, vI x)] a' ∧ ∃ I2, Hf I D w I2 w' [OEwire_Writer b_w0 w0_2, SlC Nu64 v4_m m.stamps]) ⟨Z.sub (ts := [0, 50, 51, 52]) rfl, ⟨I3, (H.sub [(0, false), (4, true)] rfl).eq rfl⟩⟩ ?_
   rintro rc_2 ⟨x, w0_2⟩ a w7 ⟨Z, I4, H⟩ hF
   unfold F_mess_write0_l2 at hF
   try dsimp only at hF
   refine wp_seq (f_region Z ?_); clear Z; intro Z
   refine s_runk tMsWR Z 1 rfl rfl fun a Z => ?_
   refine s_end Z [0, 50, 51, 52, 53] rfl fun Z => ?_
   refine p_then (wp_seq ?_)
   refine f_cond Z rfl (fun hc4 => ?_) (fun hc4 => ?_)
   ·replace hF := ite_t hc4 hF
    refine wp_skip ?_
    refine p_then (wp_seq ?_)
    refine wp_block ?_
    refine wp_seq ?_
    obtain ⟨hg2, hF⟩ := chk_in hF
    refine f_region Z fun Z => ?_
    refine sO Z (.pointer (some ⟨blkOf v4_m, oofOf v4_m + (x).toNat * 1, none⟩)) rfl (Ob_sidx tMsWR rfl rfl rfl rfl (slPl (H.sl 1 rfl) hg2) hg2) fun a Z => ?_
    refine sO Z (vU (gi m.stamps x)) rfl (oL tMsWR rfl rfl ((slFl (H.sl 1 rfl) hg2) 0 _ rfl)) fun a Z => ?_
    refine s_runk tMsWR Z 1 rfl rfl fun a Z => ?_
    refine s_end Z [0, 50, 51, 52, 11] rfl fun Z => ?_
    refine p_then ?_
    obtain ⟨b, hx3, hF⟩ := bnd_in hF
    refine f_region Z fun Z => ?_
    refine s_runk tMsWR Z 2 rfl rfl fun a Z => ?_
    refine hC Z H [(0, false)] rfl #[] fn_79_YMsWR rfl rfl (fun D h => have q := c_wire_Writer_Big hx3 h; q) fun vv a w8 D2 hr hF2 Z => ?_
    obtain ⟨rfl, I5, K⟩ := hr
    have H := (hF2 K).nf rfl
    refine s_end Z [0, 50, 51, 52] rfl fun Z => ?_
    refine p_blk ?_
    refine p_then ?_
    obtain ⟨hg3, hF⟩ := chk_in hF
    refine f_region Z fun Z => ?_
    refine sO Z (vI (x + 1)) rfl (Ob_add rfl rfl rfl (wrI hg3)) fun a Z => ?_
    refine s_runk tMsWR Z 1 rfl rfl fun a Z => ?_
    refine s_end Z [0, 50, 51, 52] rfl fun Z => ?_
    refine p_then ?_
    exact ⟨(x + 1, b), ⟨Z.sub (ts := [0, 50, 51, 52]) rfl, ⟨I5, (H.sub [(0, false), (0, true)] rfl).eq rfl⟩⟩, hF⟩
   ·replace hF := ite_f hc4 hF
    refine wp_exit ?_
    refine p_then_x ?_
    refine p_then_x ?_
    refine f_exit_here ?_
    refine p_blk ?_
    obtain rfl := some_in hF
    exact f_fall Z (run_results0 rfl) ⟨rfl, I4, (H.sub [(0, false)] rfl).eq rfl⟩
  ·replace hF := ite_f hc3 hF
   refine wp_seq (f_region Z ?_); clear Z; intro Z
   refine s_runk tMsWR Z 2 rfl rfl fun a Z => ?_
   refine s_end Z [0, 2, 4, 60] rfl fun Z => ?_
   refine p_then ?_
   refine f_cond Z rfl (fun hc5 => ?_) (fun hc5 => ?_)
   ·replace hF := ite_t hc5 hF
    refine wp_seq ?_
    obtain ⟨n0_3, hx4, hF⟩ := bnd_in hF
    refine f_region Z fun Z => ?_
    refine s_runk tMsWR Z 2 rfl rfl fun a Z => ?_
    refine sO Z _ rfl (oL tMsWR rfl rfl (H.bc 0 21 rfl rfl)) fun a Z => ?_
    refine sO Z (vI (ln m.pairs)) rfl (Ob_slen tMsWR rfl rfl rfl (H.slshape 6 rfl)) fun a Z => ?_
    refine hC Z H [(1, false)] rfl #[] fn_36_YMsWR rfl rfl (fun D h => have q := c_wire_Writer_Num hx4 h; q) fun vv a w9 D2 hr hF2 Z => ?_
    obtain ⟨rfl, I6, K⟩ := hr
    have H := (hF2 K).nf rfl
    refine s_end Z [0, 4] rfl fun Z => ?_
    refine p_then (wp_seq (f_region Z ?_)); clear Z; intro Z
    refine s_runk tMsWR Z 1 rfl rfl fun a Z => ?_
    refine sO Z _ rfl (oL tMsWR rfl rfl (H.bc 1 21 rfl rfl)) fun a Z => ?_
    refine sO Z (vI (ln m.pairs)) rfl (Ob_slen tMsWR rfl rfl rfl (H.slshape 6 rfl)) fun a Z => ?_
    refine s_runk tMsWR Z 1 rfl rfl fun a Z => ?_
    refine s_end Z [0, 68, 69, 70] rfl fun Z => ?_
    refine p_then (wp_block ?_)
    refine f_iter hF (fun sg a' w' => match sg with | (x_2, w0_3) => Sl 82 [(0, pp b_w0 0), (68, v5_m), (69, vI (ln m.pairs)), (70, vI x_2)] a' ∧ ∃ I2, Hf I D w I2 w' [OEwire_Writer b_w0 w0_3, SlC NEPair v5_m m.pairs]) ⟨Z.sub (ts := [0, 68, 69, 70]) rfl, ⟨I6, (H.sub [(0, false), (5, true)] rfl).eq rfl⟩⟩ ?_
    rintro rc_3 ⟨x_2, w0_3⟩ a w10 ⟨Z, I7, H⟩ hF
    unfold F_mess_write0_l3 at hF
    try dsimp only at hF
    refine wp_seq (f_region Z ?_); clear Z; intro Z
    refine s_runk tMsWR Z 1 rfl rfl fun a Z => ?_
    refine s_end Z [0, 68, 69, 70, 71] rfl fun Z => ?_
    refine p_then (wp_seq ?_)
    refine f_cond Z rfl (fun hc6 => ?_) (fun hc6 => ?_)
    ·replace hF := ite_t hc6 hF
     refine wp_skip ?_
     refine p_then (wp_seq ?_)
     refine wp_block ?_
     refine wp_seq ?_
     obtain ⟨hg4, hF⟩ := chk_in hF
     refine f_region Z fun Z => ?_
     refine sO Z (.pointer (some ⟨blkOf v5_m, oofOf v5_m + (x_2).toNat * 2, none⟩)) rfl (Ob_sidx tMsWR rfl rfl rfl rfl (slPl (H.sl 1 rfl) hg4) hg4) fun a Z => ?_
     refine sO Z (.agg #[vS ((gi m.pairs x_2).key), vS ((gi m.pairs x_2).val)]) rfl (oA tMsWR rfl rfl ((slFl (H.sl 1 rfl) hg4).part 0 rfl)) fun a Z => ?_
     refine hA Z H [vS ByteArray.empty, vS ByteArray.empty] rfl rfl (by kernel_rfl) fun a w11 b3 H Z => ?_
     refine hT tMsWR Z H 0 rfl rfl rfl rfl rfl (onR 2 rfl one_nil) (Nat.le_of_ble_eq_true rfl) rfl fun w12 H => ?_
     dsimp only [List.eraseIdx] at H
     refine s_end Z [0, 68, 69, 70, 13] rfl fun Z => ?_
     refine p_then ?_
     obtain ⟨t, hx5, hF⟩ := bnd_in hF
     obtain ⟨t_2, hx6, hF⟩ := bnd_in hF
     refine f_regionL Z (by kernel_rfl) (by kernel_rfl) (by decide) (by decide) [3, 6] [(0, 0, 0), (0, 0, 0), (2, 0, 0), (7, 0, 0), (0, 0, 1), (16, 0, 1), (63, 1, 1)] (by kernel_rfl) (fun jj vv => match jj with | 0 => vv = pp b_w0 0 | 1 => vv = pp b3 0 | 2 => vv = vS ((gi m.pairs x_2).key) | 3 => vv = pp b_w0 0 | 4 => vv = pp b3 1 | 5 => vv = vS ((gi m.pairs x_2).val) | 6 => vv = pp b_w0 0 | _ => True) (fun ss vals1 xw => match ss with | 0 => Gx I D w I7 w12 xw [BxC b3 91 [vS ((gi m.pairs x_2).key), vS ((gi m.pairs x_2).val)], OEwire_Writer b_w0 w0_3, SlC NEPair v5_m m.pairs] | 1 => Gx I D w I7 w12 xw [OEwire_Writer b_w0 t, BxC b3 91 [vS ((gi m.pairs x_2).key), vS ((gi m.pairs x_2).val)], SlC NEPair v5_m m.pairs] | _ => Gx I D w I7 w12 xw [OEwire_Writer b_w0 t_2, BxC b3 91 [vS ((gi m.pairs x_2).key), vS ((gi m.pairs x_2).val)], SlC NEPair v5_m m.pairs]) (fun _ => Gx.start H) ?_ ?_
     ·intro fr hfr hfe
      refine .cons (fun ss hlo hhi vals1 xw hG hV => ?_) ?_
      ·obtain rfl : ss = 0 := Nat.le_antisymm hhi hlo
       rw [← hfe]
       have hS := (hfr vals1).sub (ts := [0]) rfl
       exact L_val hS rfl (Ob_c tMsWR rfl) ⟨rfl, hG⟩
      refine .cons (fun ss hlo hhi vals1 xw hG hV => ?_) ?_
      ·obtain rfl : ss = 0 := Nat.le_antisymm hhi hlo
       rw [← hfe]
       have hS := (hfr vals1).sub (ts := [13]) rfl
       exact L_val hS rfl (Ob_c tMsWR rfl) ⟨rfl, hG⟩
      refine .cons (fun ss hlo hhi vals1 xw hG hV => ?_) ?_
      ·obtain rfl : ss = 0 := Nat.le_antisymm hhi hlo
       rw [← hfe]
       have hS := (hfr vals1).sub (ts := [75]) rfl
       replace hS := hS.conv (t := 75) rfl (show (vals1 1) = pp b3 0 from hV 1 (by decide))
       obtain ⟨I2, hI2, H⟩ := Gx.ex hG
       exact L_val hS rfl (oL tMsWR rfl rfl (H.bc 0 0 rfl rfl)) ⟨rfl, hG⟩
      refine .cons (fun ss hlo hhi vals1 xw hG hV => ?_) ?_
      ·obtain rfl : ss = 0 := Nat.le_antisymm hhi hlo
       rw [← hfe]
       have hS := (hfr vals1).sub (ts := [74, 76]) rfl
       replace hS := hS.conv (t := 74) rfl (show (vals1 0) = pp b_w0 0 from hV 0 (by decide))
       replace hS := hS.conv (t := 76) rfl (show (vals1 2) = vS ((gi m.pairs x_2).key) from hV 2 (by decide))
       obtain ⟨I2, hI2, H⟩ := Gx.ex hG
       refine L_hcall H (js := [(1, false)]) rfl (caps := #[]) hS fn_78_YMsWR rfl rfl rfl rfl rfl (fun D1 hS => have hq := c_wire_Writer_Text hx5 hS; hq) fun _ yw D1 hr hF2 => ?_
       obtain ⟨rfl, I3, K⟩ := hr
       obtain ⟨hK, H2⟩ := hF2 K
       exact ⟨rfl, Gx.go hG hI2 hK K.imm H2⟩
      refine .cons (fun ss hlo hhi vals1 xw hG hV => ?_) ?_
      ·obtain rfl | rfl : ss = 0 ∨ ss = 1 := st1 hlo hhi
       all_goals
       ·rw [← hfe]
        have hS := (hfr vals1).sub (ts := [13]) rfl
        exact L_val hS rfl (Ob_c tMsWR rfl) ⟨rfl, hG⟩
      refine .cons (fun ss hlo hhi vals1 xw hG hV => ?_) ?_
      ·obtain rfl | rfl : ss = 0 ∨ ss = 1 := st1 hlo hhi
       ·rw [← hfe]
        have hS := (hfr vals1).sub (ts := [78]) rfl
        replace hS := hS.conv (t := 78) rfl (show (vals1 4) = pp b3 1 from hV 4 (by decide))
        obtain ⟨I2, hI2, H⟩ := Gx.ex hG
        exact L_val hS rfl (oL tMsWR rfl rfl (H.bc 0 1 rfl rfl)) ⟨rfl, hG⟩
       ·rw [← hfe]
        have hS := (hfr vals1).sub (ts := [78]) rfl
        replace hS := hS.conv (t := 78) rfl (show (vals1 4) = pp b3 1 from hV 4 (by decide))
        obtain ⟨I2, hI2, H⟩ := Gx.ex hG
        exact L_val hS rfl (oL tMsWR rfl rfl (H.bc 1 1 rfl rfl)) ⟨rfl, hG⟩
      refine .cons (fun ss hlo hhi vals1 xw hG hV => ?_) ?_
      ·obtain rfl : ss = 1 := Nat.le_antisymm hhi hlo
       rw [← hfe]
       have hS := (hfr vals1).sub (ts := [77, 79]) rfl
       replace hS := hS.conv (t := 77) rfl (show (vals1 3) = pp b_w0 0 from hV 3 (by decide))
       replace hS := hS.conv (t := 79) rfl (show (vals1 5) = vS ((gi m.pairs x_2).val) from hV 5 (by decide))
       obtain ⟨I2, hI2, H⟩ := Gx.ex hG
       refine L_hcall H (js := [(0, false)]) rfl (caps := #[]) hS fn_78_YMsWR rfl rfl rfl rfl rfl (fun D1 hS => have hq := c_wire_Writer_Text hx6 hS; hq) fun _ yw D1 hr hF2 => ?_
       obtain ⟨rfl, I3, K⟩ := hr
       obtain ⟨hK, H2⟩ := hF2 K
       exact ⟨rfl, Gx.go hG hI2 hK K.imm H2⟩
      exact .nil
     ·intro vals1 a w13 Z hG hV
      replace Z := Z.sub (ts := [0, 68, 69, 70]) (S' := [(0, pp b_w0 0), (68, v5_m), (69, vI (ln m.pairs)), (70, vI x_2)]) rfl
      obtain ⟨I8, _, H⟩ := Gx.ex hG
      clear hG hV
      replace Z := Z.sub (ts := [0, 68, 69, 70]) rfl
      replace H := H.nf rfl; try dsimp only at H
      refine p_blk ?_
      refine p_then ?_
      obtain ⟨hg5, hF⟩ := chk_in hF
      refine f_region Z fun Z => ?_
      refine sO Z (vI (x_2 + 1)) rfl (Ob_add rfl rfl rfl (wrI hg5)) fun a Z => ?_
      refine s_runk tMsWR Z 1 rfl rfl fun a Z => ?_
      refine s_end Z [0, 68, 69, 70] rfl fun Z => ?_
      refine p_then ?_
      exact ⟨(x_2 + 1, t_2), ⟨Z.sub (ts := [0, 68, 69, 70]) rfl, ⟨I8, (H.sub [(0, false), (1, true)] rfl).eq rfl⟩⟩, hF⟩
    ·replace hF := ite_f hc6 hF
     refine wp_exit ?_
     refine p_then_x ?_
     refine p_then_x ?_
     refine f_exit_here ?_
     refine p_blk ?_
     obtain rfl := some_in hF
     exact f_fall Z (run_results0 rfl) ⟨rfl, I7, (H.sub [(0, false)] rfl).eq rfl⟩
   ·replace hF := ite_f hc5 hF
    obtain ⟨p, hx7, hF⟩ := bnd_in hF
    refine f_region Z fun Z => ?_
    refine s_runk tMsWR Z 1 rfl rfl fun a Z => ?_
    refine sO Z (.agg (cEMsg m v1_m v2_m v3_m v4_m v5_m).toArray) rfl (oA tMsWR rfl rfl ((H.bx 0 rfl).part 0 rfl)) fun a Z => ?_
    refine s_runk tMsWR Z 1 rfl rfl fun a Z => ?_
    refine hC Z H [(1, false), (1, true), (2, true), (3, true), (4, true), (5, true)] rfl #[] fn_80_YMsWR rfl rfl (fun D h => have q := c_mess_plain0 hx7 h; q) fun vv a w14 D2 hr hF2 Z => ?_
    obtain ⟨rfl, I9, K⟩ := hr
    have H := (hF2 K).nf rfl
    refine s_end Z [] rfl fun Z => ?_
    refine p_blk ?_
    obtain rfl := some_in hF
    exact f_fall Z (run_results0 rfl) ⟨rfl, I9, (H.sub [(0, false)] rfl).eq rfl⟩

def F_mess_Put0_l1 (m : EMsg) (p : ByteArray × Bool) (rc : (Ewire_Writer × Nat) → Option (ByteArray × Int)) (sg : Ewire_Writer × Nat) : Option (ByteArray × Int) := match sg with | (w0, yb2) => if (decide (yb2 < p.1.size)) = true then (chk (yb2 < p.1.size) ((F_mess_write0 w0 m (runeAt p.1 yb2)).bind fun w0_2 => (rc (w0_2, nxP p.1 yb2)))) else ((F_wire_Writer_Done w0).bind fun d => (some (d.1, d.2)))

def F_mess_Put0 (m : EMsg) : Option (ByteArray × Int) := (F_mess_Check m).bind fun c => (if (c != 0) = true then (some (⟨#[]⟩, c)) else ((F_mess_parts m.k).bind fun p => ((F_wire_New).bind fun n0 => ((F_wire_Writer_Num n0 m.k).bind fun n0_2 => (iter (F_mess_Put0_l1 m p) FU (n0_2, 0))))))

set_option maxHeartbeats 1000000 in
theorem c_mess_Put0 {I D : Dm} {m : EMsg} {v1_m : Value} {v2_m : Value} {v3_m : Value} {v4_m : Value} {v5_m : Value} {w : World} {rr : ByteArray × Int} (hF : F_mess_Put0 m = some rr) (H : St I D w [SlC NEMember v1_m m.conf.members, SlC NEOp v2_m m.batch.ops, SlC NEEntry v3_m m.entries, SlC Nu64 v4_m m.stamps, SlC NEPair v5_m m.pairs]) :
  Calls Tryz.prog 10 #[.agg (cEMsg m v1_m v2_m v3_m v4_m v5_m).toArray] w (Ret fun vv w' => vv = .tuple #[vS rr.1, vI rr.2] ∧ ∃ I', Hf I D w I' w' []) := by
 replace H := H.hf
 unfold F_mess_Put0 at hF
 refine f_enter 38 Tryz.func10 rfl rfl (Nat.le_of_ble_eq_true rfl) fun a Z => ?_
 replace Z := Z.sub (ts := [0]) rfl
 refine wp_seq (f_region Z ?_); clear Z; intro Z
 refine h_boxv Z H (cl := (cEMsg m v1_m v2_m v3_m v4_m v5_m)) rfl rfl rfl (by decide) rfl rfl rfl fun a w1 b1 H Z => ?_
 refine s_runk tMsWR Z 2 rfl rfl fun a Z => ?_
 refine s_end Z [1] rfl fun Z => ?_
 refine p_then (wp_seq ?_)
 refine wp_seq ?_
 obtain ⟨c, hx1, hF⟩ := bnd_in hF
 refine f_region Z fun Z => ?_
 refine sO Z (.agg (cEMsg m v1_m v2_m v3_m v4_m v5_m).toArray) rfl (oA tMsWR rfl rfl ((H.bx 0 rfl).part 0 rfl)) fun a Z => ?_
 refine hC Z H [(1, true), (2, true), (3, true), (4, true), (5, true)] rfl #[] fn_12_YMsWR rfl rfl (fun D h => have q := c_mess_Check hx1 h; q) fun vv a w2 D2 hr hF2 Z => ?_
 obtain ⟨rfl, I1, K⟩ := hr
 have H := (hF2 K).nf rfl
 refine s_runk tMsWR Z 1 rfl rfl fun a Z => ?_
 refine s_end Z [1, 4] rfl fun Z => ?_
 refine p_then (wp_seq (f_region Z ?_)); clear Z; intro Z
 refine s_runk tMsWR Z 2 rfl rfl fun a Z => ?_
 refine s_end Z [1, 4, 13] rfl fun Z => ?_
 refine p_then ?_
 refine f_cond Z rfl (fun hc1 => ?_) (fun hc1 => ?_)
 ·replace hF := ite_t hc1 hF
  refine wp_seq (f_region Z ?_); clear Z; intro Z
  refine s_runk tMsWR Z 3 rfl rfl fun a Z => ?_
  refine s_end Z [2, 3] rfl fun Z => ?_
  refine p_then (wp_ret ?_)
  refine p_then_r ?_
  obtain rfl := some_in hF
  exact f_ret Z (run_results2 rfl Z rfl rfl) ⟨rfl, I1, (H.sub [] rfl).eq rfl⟩
 ·replace hF := ite_f hc1 hF
  refine wp_skip ?_
  refine p_then (wp_seq ?_)
  obtain ⟨p, hx2, hF⟩ := bnd_in hF
  refine f_region Z fun Z => ?_
  refine s_runk tMsWR Z 1 rfl rfl fun a Z => ?_
  refine sO Z _ rfl (oL tMsWR rfl rfl (H.bc 0 0 rfl rfl)) fun a Z => ?_
  refine hC Z H [] rfl #[] fn_20_YMsWR rfl rfl (fun D h => have q := c_mess_parts hx2 h; q) fun vv a w3 D2 hr hF2 Z => ?_
  obtain ⟨rfl, I2, K⟩ := hr
  have H := (hF2 K).nf rfl
  refine s_runk tMsWR Z 5 rfl rfl fun a Z => ?_
  refine s_end Z [1, 5] rfl fun Z => ?_
  refine p_then (wp_seq ?_)
  obtain ⟨n0, hx3, hF⟩ := bnd_in hF
  obtain ⟨n0_2, hx4, hF⟩ := bnd_in hF
  refine f_regionM Z (by kernel_rfl) (by kernel_rfl) (by decide) (by decide) [0, 3] [(0, 0, 0), (0, 0, 1), (2, 0, 1), (7, 1, 1), (15, 2, 2)] (by kernel_rfl) (fun jj => match jj with | 3 => 0 | 4 => 0 | _ => jj) (by kernel_rfl) (fun jj rv vv => match jj with | 0 => vv = .pointer (some ⟨(blkOf vv), 0, none⟩) | 1 => vv = pp b1 0 | 2 => vv = vI m.k | 3 => vv = .pointer (some ⟨(blkOf rv), 0, none⟩) | 4 => vv = .pointer (some ⟨(blkOf rv), 0, none⟩) | _ => True) (fun ss vals1 xw => match ss with | 0 => Gx I D w I2 w3 xw [BxC b1 35 (cEMsg m v1_m v2_m v3_m v4_m v5_m), SlC NEMember v1_m m.conf.members, SlC NEOp v2_m m.batch.ops, SlC NEEntry v3_m m.entries, SlC Nu64 v4_m m.stamps, SlC NEPair v5_m m.pairs] | 1 => Gx I D w I2 w3 xw [OEwire_Writer (blkOf (vals1 0)) n0, BxC b1 35 (cEMsg m v1_m v2_m v3_m v4_m v5_m), SlC NEMember v1_m m.conf.members, SlC NEOp v2_m m.batch.ops, SlC NEEntry v3_m m.entries, SlC Nu64 v4_m m.stamps, SlC NEPair v5_m m.pairs] | _ => Gx I D w I2 w3 xw [OEwire_Writer (blkOf (vals1 0)) n0_2, BxC b1 35 (cEMsg m v1_m v2_m v3_m v4_m v5_m), SlC NEMember v1_m m.conf.members, SlC NEOp v2_m m.batch.ops, SlC NEEntry v3_m m.entries, SlC Nu64 v4_m m.stamps, SlC NEPair v5_m m.pairs]) (fun _ => Gx.start H) ?_ ?_
  ·intro fr hfr hfe
   refine .cons (fun ss hlo hhi vals1 xw hG hV => ?_) ?_
   ·obtain rfl : ss = 0 := Nat.le_antisymm hhi hlo
    rw [← hfe]
    have hS := (hfr vals1).sub (ts := []) rfl
    obtain ⟨I2, hI2, H⟩ := Gx.ex hG
    refine L_hcall H (js := []) rfl (caps := #[]) hS fn_35_YMsWR rfl rfl rfl rfl rfl (fun D1 hS => have hq := c_wire_New hx3 hS; hq) fun _ yw D1 hr hF2 => ?_
    obtain ⟨g0_, rfl, I3, K⟩ := hr
    obtain ⟨hK, H2⟩ := hF2 K
    exact ⟨rfl, Gx.go hG hI2 hK K.imm H2⟩
   refine .cons (fun ss hlo hhi vals1 xw hG hV => ?_) ?_
   ·obtain rfl | rfl : ss = 0 ∨ ss = 1 := st1 hlo hhi
    all_goals
    ·rw [← hfe]
     have hS := (hfr vals1).sub (ts := [1]) rfl
     exact L_val hS rfl (Ob_c tMsWR rfl) ⟨rfl, hG⟩
   refine .cons (fun ss hlo hhi vals1 xw hG hV => ?_) ?_
   ·obtain rfl | rfl : ss = 0 ∨ ss = 1 := st1 hlo hhi
    ·rw [← hfe]
     have hS := (hfr vals1).sub (ts := [22]) rfl
     replace hS := hS.conv (t := 22) rfl (show (vals1 1) = pp b1 0 from hV 1 (by decide))
     obtain ⟨I2, hI2, H⟩ := Gx.ex hG
     exact L_val hS rfl (oL tMsWR rfl rfl (H.bc 0 0 rfl rfl)) ⟨rfl, hG⟩
    ·rw [← hfe]
     have hS := (hfr vals1).sub (ts := [22]) rfl
     replace hS := hS.conv (t := 22) rfl (show (vals1 1) = pp b1 0 from hV 1 (by decide))
     obtain ⟨I2, hI2, H⟩ := Gx.ex hG
     exact L_val hS rfl (oL tMsWR rfl rfl (H.bc 1 0 rfl rfl)) ⟨rfl, hG⟩
   refine .cons (fun ss hlo hhi vals1 xw hG hV => ?_) ?_
   ·obtain rfl : ss = 1 := Nat.le_antisymm hhi hlo
    rw [← hfe]
    have hS := (hfr vals1).sub (ts := [21, 23]) rfl
    replace hS := hS.conv (t := 21) rfl (show (vals1 0) = .pointer (some ⟨(blkOf (vals1 0)), 0, none⟩) from hV 0 (by decide))
    replace hS := hS.conv (t := 23) rfl (show (vals1 2) = vI m.k from hV 2 (by decide))
    obtain ⟨I2, hI2, H⟩ := Gx.ex hG
    refine L_hcall H (js := [(0, false)]) rfl (caps := #[]) hS fn_36_YMsWR rfl rfl rfl rfl rfl (fun D1 hS => have hq := c_wire_Writer_Num hx4 hS; hq) fun _ yw D1 hr hF2 => ?_
    obtain ⟨rfl, I3, K⟩ := hr
    obtain ⟨hK, H2⟩ := hF2 K
    exact ⟨rfl, Gx.go hG hI2 hK K.imm H2⟩
   refine .cons (fun ss hlo hhi vals1 xw hG hV => ?_) ?_
   ·obtain rfl : ss = 2 := Nat.le_antisymm hhi hlo
    rw [← hfe]
    have hS := (hfr vals1).sub (ts := [24]) rfl
    replace hS := hS.conv (t := 24) rfl (show (vals1 3) = .pointer (some ⟨(blkOf (vals1 0)), 0, none⟩) from hV 3 (by decide))
    exact L_val hS rfl (Ob_c tMsWR rfl) ⟨rfl, hG⟩
   exact .nil
  ·intro vals1 a w4 Z hG hV
   replace Z := Z.sub (ts := [1, 5, 7]) (S' := [(1, pp b1 0), (5, vS p.1), (7, vals1 4)]) rfl
   replace Z := Z.conv (t := 7) rfl (show (vals1 4) = .pointer (some ⟨(blkOf (vals1 0)), 0, none⟩) from hV 4 (by decide))
   obtain ⟨I3, _, H⟩ := Gx.ex hG
   clear hG hV
   replace Z := Z.sub (ts := [1, 5, 7]) rfl
   replace H := H.nf rfl; try dsimp only at H
   refine p_then (wp_seq ?_)
   refine wp_seq (f_region Z ?_); clear Z; intro Z
   refine s_runk tMsWR Z 1 rfl rfl fun a Z => ?_
   refine h_srange Z H rfl rfl Tryz.underlying9 rfl rfl (by decide) rfl fun a w5 b2 H Z => ?_
   refine s_end Z [1, 7, 26] rfl fun Z => ?_
   refine p_then (wp_block ?_)
   refine f_iter hF (fun sg a' w' => match sg with | (w0, yb2) => Sl 38 [(1, pp b1 0), (7, .pointer (some ⟨(blkOf (vals1 0)), 0, none⟩)), (26, pp b2 0)] a' ∧ ∃ I2, Hf I D w I2 w' [BxC b1 35 (cEMsg m v1_m v2_m v3_m v4_m v5_m), OEwire_Writer (blkOf (vals1 0)) w0, ObC b2 (.stringIter p.1 yb2), SlC NEMember v1_m m.conf.members, SlC NEOp v2_m m.batch.ops, SlC NEEntry v3_m m.entries, SlC Nu64 v4_m m.stamps, SlC NEPair v5_m m.pairs]) ⟨Z.sub (ts := [1, 7, 26]) rfl, ⟨I3, (H.sub [(2, false), (1, false), (0, false), (0, true), (1, true), (2, true), (3, true), (4, true)] rfl).eq rfl⟩⟩ ?_
   rintro rc ⟨w0, yb2⟩ a w6 ⟨Z, I4, H⟩ hF
   unfold F_mess_Put0_l1 at hF
   try dsimp only at hF
   refine wp_seq (f_region Z ?_); clear Z; intro Z
   refine h_snext Z H 2 rfl rfl rfl rfl rfl (by decide) rfl fun a w7 H Z => ?_
   dsimp only [List.eraseIdx] at H
   refine sO Z (vT (decide (yb2 < p.1.size))) rfl (Ob_nx0 rfl rfl) fun a Z => ?_
   refine s_end Z [1, 7, 26, 27, 28] rfl fun Z => ?_
   refine p_then (wp_seq ?_)
   refine f_cond Z rfl (fun hc2 => ?_) (fun hc2 => ?_)
   ·replace hF := ite_t hc2 hF
    refine wp_skip ?_
    refine p_then (wp_block ?_)
    refine wp_seq ?_
    obtain ⟨hg1, hF⟩ := chk_in hF
    refine f_region Z fun Z => ?_
    refine sO Z (.int .i32 (runeAt p.1 yb2)) rfl (Ob_nx2 rfl rfl hg1) fun a Z => ?_
    refine s_runk tMsWR Z 1 rfl rfl fun a Z => ?_
    refine s_end Z [1, 7, 26, 9] rfl fun Z => ?_
    refine p_then ?_
    obtain ⟨w0_2, hx5, hF⟩ := bnd_in hF
    refine f_region Z fun Z => ?_
    refine s_runk tMsWR Z 1 rfl rfl fun a Z => ?_
    refine sO Z (.agg (cEMsg m v1_m v2_m v3_m v4_m v5_m).toArray) rfl (oA tMsWR rfl rfl ((H.bx 1 rfl).part 0 rfl)) fun a Z => ?_
    refine s_runk tMsWR Z 1 rfl rfl fun a Z => ?_
    refine hC Z H [(2, false), (2, true), (3, true), (4, true), (5, true), (6, true)] rfl #[] fn_37_YMsWR rfl rfl (fun D h => have q := c_mess_write0 hx5 h; q) fun vv a w8 D2 hr hF2 Z => ?_
    obtain ⟨rfl, I5, K⟩ := hr
    have H := (hF2 K).nf rfl
    refine s_end Z [1, 7, 26] rfl fun Z => ?_
    refine p_blk ?_
    refine p_then ?_
    exact ⟨(w0_2, nxP p.1 yb2), ⟨Z.sub (ts := [1, 7, 26]) rfl, ⟨I5, (H.sub [(2, false), (0, false), (0, false), (0, true), (1, true), (2, true), (3, true), (4, true)] rfl).eq rfl⟩⟩, hF⟩
   ·replace hF := ite_f hc2 hF
    refine wp_exit ?_
    refine p_then_x ?_
    refine p_then_x ?_
    refine f_exit_here ?_
    refine p_then (wp_seq ?_)
    obtain ⟨d, hx6, hF⟩ := bnd_in hF
    refine f_region Z fun Z => ?_
    refine s_runk tMsWR Z 1 rfl rfl fun a Z => ?_
    refine hC Z H [(2, false)] rfl #[] fn_38_YMsWR rfl rfl (fun D h => have q := c_wire_Writer_Done hx6 h; q) fun vv a w9 D2 hr hF2 Z => ?_
    obtain ⟨rfl, I6, K⟩ := hr
    have H := (hF2 K).nf rfl
    refine s_runk tMsWR Z 4 rfl rfl fun a Z => ?_
    refine s_end Z [2, 3] rfl fun Z => ?_
    refine p_then (wp_ret ?_)
    obtain rfl := some_in hF
    exact f_ret Z (run_results2 rfl Z rfl rfl) ⟨rfl, I6, (H.sub [] rfl).eq rfl⟩

def F_law09_awake1 : Option Bool := (F_mess_Put0 ({ (default : EMsg) with k := 6, req := 1, at_ := 5, n := 9 } : EMsg)).bind fun p => ((F_mess_Of p.1).bind fun o => (some ((((((seqB p.1 ⟨#[6, 1, 5]⟩) && (p.2 == 0)) && (o.2 == 0)) && (o.1.req == 1)) && (o.1.at_ == 5)) && (o.1.n == 0))))

set_option maxHeartbeats 1000000 in
theorem c_law09_awake1 {I D : Dm} {w : World} {rr : Bool} (hF : F_law09_awake1 = some rr) (H : St I D w []) :
  Calls Tryz.prog 5 #[] w (Ret fun vv w' => vv = vT rr ∧ ∃ I', Hf I D w I' w' []) := by
 replace H := H.hf
 unfold F_law09_awake1 at hF
 refine f_enter 40 Tryz.func5 rfl rfl (Nat.le_of_ble_eq_true rfl) fun a Z => ?_
 replace Z := Z.sub (ts := []) rfl
 refine wp_seq (f_region Z ?_); clear Z; intro Z
 refine s_runk tMsWR Z 1 rfl rfl fun a Z => ?_
 refine s_end Z [] rfl fun Z => ?_
 refine p_then (wp_seq ?_)
 obtain ⟨p, hx1, hF⟩ := bnd_in hF
 refine f_region Z fun Z => ?_
 refine sO Z (.agg #[vI 6, vI 0, vI 1, vI 0, vT false, vU 5, vU 0, vI 9, vI 0, vI 0, vI 0, vS ByteArray.empty, vS ByteArray.empty, vI 0, nS, vU 0, vI 0, vI 0, nS, nS, nS, nS]) rfl (Ob_build (vs := [(0, vI 6), (2, vI 1), (5, vU 5), (7, vI 9)]) rfl rfl (by go_simp <;> rfl)) fun a Z => ?_
 replace H := H.slNil NEMember
 replace H := H.slNil NEOp
 replace H := H.slNil NEEntry
 replace H := H.slNil Nu64
 replace H := H.slNil NEPair
 refine hC Z H [(4, true), (3, true), (2, true), (1, true), (0, true)] rfl #[] fn_10_YMsWR rfl rfl (fun D h => have q := c_mess_Put0 hx1 h; q) fun vv a w1 D2 hr hF2 Z => ?_
 obtain ⟨rfl, I1, K⟩ := hr
 have H := (hF2 K).nf rfl
 refine s_runk tMsWR Z 5 rfl rfl fun a Z => ?_
 refine s_end Z [1, 2] rfl fun Z => ?_
 refine p_then (wp_seq ?_)
 obtain ⟨o, hx2, hF⟩ := bnd_in hF
 refine f_region Z fun Z => ?_
 refine s_runk tMsWR Z 1 rfl rfl fun a Z => ?_
 refine hC Z H [] rfl #[] fn_6_YMsWR rfl rfl (fun D h => have q := c_mess_Of hx2 h; q) fun vv a w2 D2 hr hF2 Z => ?_
 obtain ⟨q1, q2, q3, q4, q5, rfl, I2, K⟩ := hr
 have H := (hF2 K).nf rfl
 refine s_runk tMsWR Z 3 rfl rfl fun a Z => ?_
 refine hA Z H [vI 0, vI 0, vI 0, vI 0, vT false, vU 0, vU 0, vI 0, vI 0, vI 0, vI 0, vS ByteArray.empty, vS ByteArray.empty, vI 0, nS, vU 0, vI 0, vI 0, nS, nS, nS, nS] rfl rfl (by kernel_rfl) fun a w3 b1 H Z => ?_
 refine hT tMsWR Z H 0 rfl rfl rfl rfl rfl (onR 14 rfl (one_cons (slS.one (H.slshape 1 rfl)) (onR 3 rfl (one_cons (slS.one (H.slshape 2 rfl)) (one_cons (slS.one (H.slshape 3 rfl)) (one_cons (slS.one (H.slshape 4 rfl)) (one_cons (slS.one (H.slshape 5 rfl)) one_nil))))))) (Nat.le_of_ble_eq_true rfl) (putCells_all rfl) fun w4 H => ?_
 dsimp only [List.eraseIdx] at H
 refine s_runk tMsWR Z 1 rfl rfl fun a Z => ?_
 refine s_end Z [1, 2, 3, 4] rfl fun Z => ?_
 refine p_then (wp_seq (f_region Z ?_)); clear Z; intro Z
 refine s_runk tMsWR Z 3 rfl rfl fun a Z => ?_
 refine gO Z (vI p.2) rfl (wantB_t _) (.n 2 rfl .z) (fun hp => Ob_c tMsWR rfl) fun a Z => ?_
 refine gO Z (vT (p.2 == 0)) rfl (wantB_t _) (.c 18 rfl id .z) (fun hp => Ob_c tMsWR rfl) fun a Z => ?_
 refine sO Z (vT ((seqB p.1 ⟨#[6, 1, 5]⟩) && (p.2 == 0))) rfl (Ob_pick rfl rfl rfl rfl (pick_and _ _)) fun a Z => ?_
 refine s_runk tMsWR Z 1 rfl rfl fun a Z => ?_
 refine gO Z (vI o.2) rfl (wantB_t _) (.n 4 rfl .z) (fun hp => Ob_c tMsWR rfl) fun a Z => ?_
 refine gO Z (vT (o.2 == 0)) rfl (wantB_t _) (.c 22 rfl id .z) (fun hp => Ob_c tMsWR rfl) fun a Z => ?_
 refine sO Z (vT (((seqB p.1 ⟨#[6, 1, 5]⟩) && (p.2 == 0)) && (o.2 == 0))) rfl (Ob_pick rfl rfl rfl rfl (pick_and _ _)) fun a Z => ?_
 refine s_runk tMsWR Z 1 rfl rfl fun a Z => ?_
 refine gO Z (pp b1 2) rfl (wantB_t _) (.n 3 rfl .z) (fun hp => Ob_c tMsWR rfl) fun a Z => ?_
 refine gO Z _ rfl (wantB_t _) (.c 26 rfl id .z) (fun hp => oL tMsWR rfl rfl (H.bc 0 2 rfl rfl)) fun a Z => ?_
 refine gO Z (vT (o.1.req == 1)) rfl (wantB_t _) (.c 27 rfl id .z) (fun hp => Ob_c tMsWR rfl) fun a Z => ?_
 refine sO Z (vT ((((seqB p.1 ⟨#[6, 1, 5]⟩) && (p.2 == 0)) && (o.2 == 0)) && (o.1.req == 1))) rfl (Ob_pick rfl rfl rfl rfl (pick_and _ _)) fun a Z => ?_
 refine s_runk tMsWR Z 1 rfl rfl fun a Z => ?_
 refine gO Z (pp b1 5) rfl (wantB_t _) (.n 3 rfl .z) (fun hp => Ob_c tMsWR rfl) fun a Z => ?_
 refine gO Z _ rfl (wantB_t _) (.c 31 rfl id .z) (fun hp => oL tMsWR rfl rfl (H.bc 0 5 rfl rfl)) fun a Z => ?_
 refine gO Z (vT (o.1.at_ == 5)) rfl (wantB_t _) (.c 32 rfl id .z) (fun hp => Ob_c tMsWR rfl) fun a Z => ?_
 refine sO Z (vT (((((seqB p.1 ⟨#[6, 1, 5]⟩) && (p.2 == 0)) && (o.2 == 0)) && (o.1.req == 1)) && (o.1.at_ == 5))) rfl (Ob_pick rfl rfl rfl rfl (pick_and _ _)) fun a Z => ?_
 refine s_runk tMsWR Z 1 rfl rfl fun a Z => ?_
 refine gO Z (pp b1 7) rfl (wantB_t _) (.n 3 rfl .z) (fun hp => Ob_c tMsWR rfl) fun a Z => ?_
 refine gO Z _ rfl (wantB_t _) (.c 36 rfl id .z) (fun hp => oL tMsWR rfl rfl (H.bc 0 7 rfl rfl)) fun a Z => ?_
 refine gO Z (vT (o.1.n == 0)) rfl (wantB_t _) (.c 37 rfl id .z) (fun hp => Ob_c tMsWR rfl) fun a Z => ?_
 refine sO Z (vT ((((((seqB p.1 ⟨#[6, 1, 5]⟩) && (p.2 == 0)) && (o.2 == 0)) && (o.1.req == 1)) && (o.1.at_ == 5)) && (o.1.n == 0))) rfl (Ob_pick rfl rfl rfl rfl (pick_and _ _)) fun a Z => ?_
 refine s_runk tMsWR Z 1 rfl rfl fun a Z => ?_
 refine s_end Z [0] rfl fun Z => ?_
 refine p_then (wp_ret ?_)
 obtain rfl := some_in hF
 exact f_ret Z (run_results1 rfl Z rfl) ⟨rfl, I2, (H.sub [] rfl).eq rfl⟩

def F_law09_MessReads (s0 : ByteArray) : Option Bool := if (decide ((s0.size : Int) > 3000)) = true then ((F_law09_awake1).bind fun a0 => (some a0)) else ((F_mess_Of s0).bind fun o => ((F_ref09_Of s0).bind fun o_2 => ((F_ref09_Same o.1 o_2.1).bind fun s0_2 => ((gif (s0_2 && (o.2 == o_2.2)) (F_law09_awake1) default).bind fun a0_2 => (some ((s0_2 && (o.2 == o_2.2)) && a0_2))))))

set_option maxHeartbeats 1000000 in
theorem c_law09_MessReads {I D : Dm} {s0 : ByteArray} {w : World} {rr : Bool} (hF : F_law09_MessReads s0 = some rr) (H : St I D w []) :
  Calls Tryz.prog 3 #[vS s0] w (Ret fun vv w' => vv = vT rr ∧ ∃ I', Hf I D w I' w' []) := by
 replace H := H.hf
 unfold F_law09_MessReads at hF
 refine f_enter 32 Tryz.func3 rfl rfl (Nat.le_of_ble_eq_true rfl) fun a Z => ?_
 replace Z := Z.sub (ts := [0]) rfl
 refine wp_seq (f_region Z ?_); clear Z; intro Z
 refine s_runk tMsWR Z 1 rfl rfl fun a Z => ?_
 refine s_end Z [0] rfl fun Z => ?_
 refine p_then (wp_seq ?_)
 refine wp_seq (f_region Z ?_); clear Z; intro Z
 refine s_runk tMsWR Z 3 rfl rfl fun a Z => ?_
 refine s_end Z [0, 9] rfl fun Z => ?_
 refine p_then ?_
 refine f_cond Z rfl (fun hc1 => ?_) (fun hc1 => ?_)
 ·replace hF := ite_t hc1 hF
  refine wp_seq ?_
  obtain ⟨a0, hx1, hF⟩ := bnd_in hF
  refine f_region Z fun Z => ?_
  refine hC Z H [] rfl #[] fn_5_YMsWR rfl rfl (fun D h => have q := c_law09_awake1 hx1 h; q) fun vv a w1 D2 hr hF2 Z => ?_
  obtain ⟨rfl, I1, K⟩ := hr
  have H := (hF2 K).nf rfl
  refine s_runk tMsWR Z 1 rfl rfl fun a Z => ?_
  refine s_end Z [2] rfl fun Z => ?_
  refine p_then (wp_ret ?_)
  refine p_then_r ?_
  obtain rfl := some_in hF
  exact f_ret Z (run_results1 rfl Z rfl) ⟨rfl, I1, (H.sub [] rfl).eq rfl⟩
 ·replace hF := ite_f hc1 hF
  refine wp_skip ?_
  refine p_then (wp_seq ?_)
  obtain ⟨o, hx2, hF⟩ := bnd_in hF
  refine f_region Z fun Z => ?_
  refine s_runk tMsWR Z 1 rfl rfl fun a Z => ?_
  refine hC Z H [] rfl #[] fn_6_YMsWR rfl rfl (fun D h => have q := c_mess_Of hx2 h; q) fun vv a w2 D2 hr hF2 Z => ?_
  obtain ⟨q1, q2, q3, q4, q5, rfl, I2, K⟩ := hr
  have H := (hF2 K).nf rfl
  refine s_runk tMsWR Z 3 rfl rfl fun a Z => ?_
  refine hA Z H [vI 0, vI 0, vI 0, vI 0, vT false, vU 0, vU 0, vI 0, vI 0, vI 0, vI 0, vS ByteArray.empty, vS ByteArray.empty, vI 0, nS, vU 0, vI 0, vI 0, nS, nS, nS, nS] rfl rfl (by kernel_rfl) fun a w3 b1 H Z => ?_
  refine hT tMsWR Z H 0 rfl rfl rfl rfl rfl (onR 14 rfl (one_cons (slS.one (H.slshape 1 rfl)) (onR 3 rfl (one_cons (slS.one (H.slshape 2 rfl)) (one_cons (slS.one (H.slshape 3 rfl)) (one_cons (slS.one (H.slshape 4 rfl)) (one_cons (slS.one (H.slshape 5 rfl)) one_nil))))))) (Nat.le_of_ble_eq_true rfl) (putCells_all rfl) fun w4 H => ?_
  dsimp only [List.eraseIdx] at H
  refine s_runk tMsWR Z 1 rfl rfl fun a Z => ?_
  refine s_end Z [0, 3, 4] rfl fun Z => ?_
  refine p_then (wp_seq ?_)
  obtain ⟨o_2, hx3, hF⟩ := bnd_in hF
  refine f_region Z fun Z => ?_
  refine s_runk tMsWR Z 1 rfl rfl fun a Z => ?_
  refine hC Z H [] rfl #[] fn_7_YMsWR rfl rfl (fun D h => have q := c_ref09_Of hx3 h; q) fun vv a w5 D2 hr hF2 Z => ?_
  obtain ⟨q6, q7, q8, q9, q10, rfl, I3, K⟩ := hr
  have H := (hF2 K).nf rfl
  refine s_runk tMsWR Z 3 rfl rfl fun a Z => ?_
  refine hA Z H [vI 0, vI 0, vI 0, vI 0, vT false, vU 0, vU 0, vI 0, vI 0, vI 0, vI 0, vS ByteArray.empty, vS ByteArray.empty, vI 0, nS, vU 0, vI 0, vI 0, nS, nS, nS, nS] rfl rfl (by kernel_rfl) fun a w6 b2 H Z => ?_
  refine hT tMsWR Z H 0 rfl rfl rfl rfl rfl (onR 14 rfl (one_cons (slS.one (H.slshape 1 rfl)) (onR 3 rfl (one_cons (slS.one (H.slshape 2 rfl)) (one_cons (slS.one (H.slshape 3 rfl)) (one_cons (slS.one (H.slshape 4 rfl)) (one_cons (slS.one (H.slshape 5 rfl)) one_nil))))))) (Nat.le_of_ble_eq_true rfl) (putCells_all rfl) fun w7 H => ?_
  dsimp only [List.eraseIdx] at H
  refine s_runk tMsWR Z 1 rfl rfl fun a Z => ?_
  refine s_end Z [3, 4, 5, 6] rfl fun Z => ?_
  refine p_then (wp_seq ?_)
  obtain ⟨s0_2, hx4, hF⟩ := bnd_in hF
  obtain ⟨a0_2, hx5, hF⟩ := bnd_in hF
  refine f_region Z fun Z => ?_
  refine sO Z (.agg (cEMsg o.1 q1 q2 q3 q4 q5).toArray) rfl (oA tMsWR rfl rfl ((H.bx 6 rfl).part 0 rfl)) fun a Z => ?_
  refine sO Z (.agg (cEMsg o_2.1 q6 q7 q8 q9 q10).toArray) rfl (oA tMsWR rfl rfl ((H.bx 0 rfl).part 0 rfl)) fun a Z => ?_
  refine hC Z H [(7, true), (8, true), (9, true), (10, true), (11, true), (1, true), (2, true), (3, true), (4, true), (5, true)] rfl #[] fn_8_YMsWR rfl rfl (fun D h => have q := c_ref09_Same hx4 h; q) fun vv a w8 D2 hr hF2 Z => ?_
  obtain ⟨rfl, I4, K⟩ := hr
  have H := (hF2 K).nf rfl
  refine s_runk tMsWR Z 1 rfl rfl fun a Z => ?_
  refine gO Z (vI o.2) rfl (wantB_t _) (.n 4 rfl .z) (fun hp => Ob_c tMsWR rfl) fun a Z => ?_
  refine gO Z (vI o_2.2) rfl (wantB_t _) (.n 6 rfl .z) (fun hp => Ob_c tMsWR rfl) fun a Z => ?_
  refine gO Z (vT (o.2 == o_2.2)) rfl (wantB_t _) (.c 25 rfl id (.c 26 rfl id .z)) (fun hp => Ob_c tMsWR rfl) fun a Z => ?_
  refine sO Z (vT (s0_2 && (o.2 == o_2.2))) rfl (Ob_pick rfl rfl rfl rfl (pick_and _ _)) fun a Z => ?_
  refine s_runk tMsWR Z 1 rfl rfl fun a Z => ?_
  refine g_call Z (p := (s0_2 && (o.2 == o_2.2))) (v := vT a0_2) (S' := []) (caps := #[]) fn_5_YMsWR rfl rfl rfl (wantB_t _) rfl (by decide) (fun hp hS => hS.sub (ts := []) rfl) rfl rfl rfl rfl (fun hp => (have hq := c_law09_awake1 (gif_in hx5 hp) ((H).pick0 (js := []) rfl rfl); plainC hq)) fun a w9 hb Z => ?_
  replace H := H.blw hb
  clear hb
  refine sO Z (vT ((s0_2 && (o.2 == o_2.2)) && a0_2)) rfl (Ob_pick rfl rfl rfl rfl (pick_and _ _)) fun a Z => ?_
  refine s_runk tMsWR Z 1 rfl rfl fun a Z => ?_
  refine s_end Z [2] rfl fun Z => ?_
  refine p_then (wp_ret ?_)
  obtain rfl := some_in hF
  exact f_ret Z (run_results1 rfl Z rfl) ⟨rfl, I4, (H.sub [] rfl).eq rfl⟩

theorem awakeR : F_law09_awake1 = some true := by kernel_rfl

end Go.Proofs.YthmjkcdpbbcdgaaGreat
