/- Messages written, for the program and for the document. -/
import Derived.Test.YthmjkcdpbbcdgaaYMs
namespace Go.Proofs.Ythmjkcdpbbcdgaa
open Go.RowKit
def tMs1L : TabL := ⟨[(34816, 0), (34820, 4), (34821, 5), (34822, 6), (34826, 10), (34827, 11), (34828, 12), (34829, 13), (34830, 16), (34831, 19), (34832, 20), (34833, 21), (83968, 0), (83969, 1)], [], [], [(30, (68, 4)), (31, (22, 1)), (32, (82, 2))], [(3, (1, false)), (4, (1, false)), (9, (1, false)), (22, (1, false)), (23, (1, false)), (26, (3, true)), (29, (3, true)), (30, (1, false)), (31, (1, false)), (32, (1, false)), (34, (22, true)), (68, (4, true)), (82, (2, true))]⟩

def tMs1 : Tab Try.prog := ⟨tMs1L, by kernel_rfl⟩

theorem fn_11_YMs1 : IsFn Try.prog 11 := ⟨_, Try.func11, by kernel_rfl, by kernel_rfl⟩

theorem fn_12_YMs1 : IsFn Try.prog 12 := ⟨_, Try.func12, by kernel_rfl, by kernel_rfl⟩

theorem fn_13_YMs1 : IsFn Try.prog 13 := ⟨_, Try.func13, by kernel_rfl, by kernel_rfl⟩

theorem fn_14_YMs1 : IsFn Try.prog 14 := ⟨_, Try.func14, by kernel_rfl, by kernel_rfl⟩

theorem fn_15_YMs1 : IsFn Try.prog 15 := ⟨_, Try.func15, by kernel_rfl, by kernel_rfl⟩

theorem fn_16_YMs1 : IsFn Try.prog 16 := ⟨_, Try.func16, by kernel_rfl, by kernel_rfl⟩

theorem fn_35_YMs1 : IsFn Try.prog 35 := ⟨_, Try.func35, by kernel_rfl, by kernel_rfl⟩

theorem fn_36_YMs1 : IsFn Try.prog 36 := ⟨_, Try.func36, by kernel_rfl, by kernel_rfl⟩

theorem fn_37_YMs1 : IsFn Try.prog 37 := ⟨_, Try.func37, by kernel_rfl, by kernel_rfl⟩

theorem fn_38_YMs1 : IsFn Try.prog 38 := ⟨_, Try.func38, by kernel_rfl, by kernel_rfl⟩

theorem fn_45_YMs1 : IsFn Try.prog 45 := ⟨_, Try.func45, by kernel_rfl, by kernel_rfl⟩

theorem fn_67_YMs1 : IsFn Try.prog 67 := ⟨_, Try.func67, by kernel_rfl, by kernel_rfl⟩

theorem fn_68_YMs1 : IsFn Try.prog 68 := ⟨_, Try.func68, by kernel_rfl, by kernel_rfl⟩

theorem fn_69_YMs1 : IsFn Try.prog 69 := ⟨_, Try.func69, by kernel_rfl, by kernel_rfl⟩

def F_mess_plain_k1 (w0 : Ewire_Writer) (text : ByteArray) : Option Ewire_Writer := (F_wire_Writer_Text w0 text).bind fun t => (some t)

def F_mess_plain (w0 : Ewire_Writer) (m : EMsg) (c : Int) : Option Ewire_Writer := (F_mess_number c).bind fun n0 => (if (!n0.isNone) = true then (chk (n0.isSome = true) ((selI [(1, m.epoch), (2, m.req), (3, m.serial), (7, m.n), (8, m.m), (9, m.p)] n0).bind fun k => ((F_wire_Writer_Num w0 k).bind fun n0_2 => (some n0_2)))) else (if (c == 120) = true then ((F_wire_Writer_Num w0 m.e).bind fun n0_3 => (some n0_3)) else (if (c == 97) = true then ((F_wire_Writer_Big w0 m.at_).bind fun b => (some b)) else (if (c == 108) = true then ((F_wire_Writer_Big w0 m.last).bind fun b_2 => (some b_2)) else (if (c == 102) = true then ((F_wire_Writer_Flag w0 m.flag).bind fun f => (some f)) else (if (c == 107) = true then (F_mess_plain_k1 w0 m.key) else (if (c == 116) = true then (F_mess_plain_k1 w0 m.to_) else (if (c == 67) = true then ((F_conf_Put m.conf).bind fun p => (F_mess_plain_k1 w0 p.1)) else (if (c == 66) = true then ((F_ops_Put m.batch).bind fun p_2 => (F_mess_plain_k1 w0 p_2.1)) else (F_mess_plain_k1 w0 ⟨#[]⟩))))))))))

set_option maxHeartbeats 1000000 in
theorem c_mess_plain {I D : Dm} {b_w0 : Nat} {w0 : Ewire_Writer} {m : EMsg} {v1_m : Value} {v2_m : Value} {v3_m : Value} {v4_m : Value} {v5_m : Value} {c : Int} {w : World} {rr : Ewire_Writer} (hF : F_mess_plain w0 m c = some rr) (H : St I D w [OEwire_Writer b_w0 w0, SlC NEMember v1_m m.conf.members, SlC NEOp v2_m m.batch.ops, SlC NEEntry v3_m m.entries, SlC Nu64 v4_m m.stamps, SlC NEPair v5_m m.pairs]) :
  Calls Try.prog 38 #[pp b_w0 0, .agg (cEMsg m v1_m v2_m v3_m v4_m v5_m).toArray, .int .i32 c] w (Ret fun vv w' => vv = .tuple #[] ∧ ∃ I', Hf I D w I' w' [OEwire_Writer b_w0 rr]) := by
 replace H := H.hf
 unfold F_mess_plain at hF
 refine f_enter 69 Try.func38 rfl rfl (Nat.le_of_ble_eq_true rfl) fun a Z => ?_
 replace Z := Z.sub (ts := [0, 1, 2]) rfl
 refine wp_seq (f_region Z ?_); clear Z; intro Z
 refine h_boxv Z H (cl := (cEMsg m v1_m v2_m v3_m v4_m v5_m)) rfl rfl rfl (by decide) rfl rfl rfl fun a w1 b1 H Z => ?_
 refine s_end Z [0, 2, 4] rfl fun Z => ?_
 refine p_then (wp_seq ?_)
 refine wp_seq ?_
 obtain ⟨n0, hx1, hF⟩ := bnd_in hF
 refine f_region Z fun Z => ?_
 refine s_runk tMs1 Z 1 rfl rfl fun a Z => ?_
 refine hC Z H [] rfl #[] fn_45_YMs1 rfl rfl (fun D h => have q := c_mess_number hx1 h; q) fun vv a w2 D2 hr hF2 Z => ?_
 obtain ⟨rfl, I1, K⟩ := hr
 have H := (hF2 K).nf rfl
 refine s_runk tMs1 Z 1 rfl rfl fun a Z => ?_
 refine s_end Z [0, 2, 4, 6] rfl fun Z => ?_
 refine p_then (wp_seq (f_region Z ?_)); clear Z; intro Z
 refine s_runk tMs1 Z 1 rfl rfl fun a Z => ?_
 refine sO Z (vT (!n0.isNone)) rfl (Ob_ieq rfl rfl rfl (.inr ⟨rfl, rfl⟩) Try.underlying89) fun a Z => ?_
 refine s_end Z [0, 2, 4, 6, 11] rfl fun Z => ?_
 refine p_then ?_
 refine f_cond Z rfl (fun hc1 => ?_) (fun hc1 => ?_)
 ·replace hF := ite_t hc1 hF
  refine wp_seq ?_
  obtain ⟨hg1, hF⟩ := chk_in hF
  obtain ⟨k, hx2, hF⟩ := bnd_in hF
  obtain ⟨n0_2, hx3, hF⟩ := bnd_in hF
  refine f_region Z fun Z => ?_
  refine s_runk tMs1 Z 2 rfl rfl fun a Z => ?_
  refine sO Z (iptV b1 n0) rfl (Ob_inil rfl rfl hg1) fun a Z => ?_
  refine sO Z (vI k) rfl (Ob_iload tMs1 rfl rfl rfl hx2 (H.bx 0 rfl) ⟨rfl, rfl, rfl, rfl, rfl, rfl, trivial⟩) fun a Z => ?_
  refine hC Z H [(1, false)] rfl #[] fn_14_YMs1 rfl rfl (fun D h => have q := c_wire_Writer_Num hx3 h; q) fun vv a w3 D2 hr hF2 Z => ?_
  obtain ⟨rfl, I2, K⟩ := hr
  have H := (hF2 K).nf rfl
  refine s_end Z [] rfl fun Z => ?_
  refine p_then (wp_ret ?_)
  refine p_then_r ?_
  obtain rfl := some_in hF
  exact f_ret Z (run_results0 rfl) ⟨rfl, I2, (H.sub [(0, false)] rfl).eq rfl⟩
 ·replace hF := ite_f hc1 hF
  refine wp_skip ?_
  refine p_then (wp_seq (f_region Z ?_)); clear Z; intro Z
  refine s_runk tMs1 Z 1 rfl rfl fun a Z => ?_
  refine s_end Z [0, 2, 4, 7] rfl fun Z => ?_
  refine p_then ?_
  refine f_cut (fun a' w' => ∃ (text : ByteArray), Sl 69 [(0, pp b_w0 0), (7, vS text)] a' ∧ (∃ I2, Hf I D w I2 w' [OEwire_Writer b_w0 w0]) ∧ F_mess_plain_k1 w0 text = some rr) ?_ ?_
  ·rintro a w4 ⟨text, Z, ⟨I3, H⟩, hF⟩
   unfold F_mess_plain_k1 at hF
   try dsimp only at hF
   obtain ⟨t, hx4, hF⟩ := bnd_in hF
   refine f_region Z fun Z => ?_
   refine s_runk tMs1 Z 2 rfl rfl fun a Z => ?_
   refine hC Z H [(0, false)] rfl #[] fn_36_YMs1 rfl rfl (fun D h => have q := c_wire_Writer_Text hx4 h; q) fun vv a w5 D2 hr hF2 Z => ?_
   obtain ⟨rfl, I4, K⟩ := hr
   have H := (hF2 K).nf rfl
   refine s_end Z [] rfl fun Z => ?_
   obtain rfl := some_in hF
   exact f_fall Z (run_results0 rfl) ⟨rfl, I4, (H.sub [(0, false)] rfl).eq rfl⟩
  ·skip
   refine wp_seq (f_region Z ?_); clear Z; intro Z
   refine s_runk tMs1 Z 1 rfl rfl fun a Z => ?_
   refine s_end Z [0, 4, 7, 17] rfl fun Z => ?_
   refine p_then (wp_block ?_)
   refine wp_seq (f_region Z ?_); clear Z; intro Z
   refine s_runk tMs1 Z 2 rfl rfl fun a Z => ?_
   refine s_end Z [0, 4, 7, 17, 18] rfl fun Z => ?_
   refine p_then ?_
   refine f_cond Z rfl (fun hc2 => ?_) (fun hc2 => ?_)
   ·replace hF := ite_t hc2 hF
    refine wp_seq ?_
    obtain ⟨n0_3, hx5, hF⟩ := bnd_in hF
    refine f_region Z fun Z => ?_
    refine s_runk tMs1 Z 2 rfl rfl fun a Z => ?_
    refine sO Z _ rfl (oL tMs1 rfl rfl (H.bc 0 10 rfl rfl)) fun a Z => ?_
    refine hC Z H [(1, false)] rfl #[] fn_14_YMs1 rfl rfl (fun D h => have q := c_wire_Writer_Num hx5 h; q) fun vv a w6 D2 hr hF2 Z => ?_
    obtain ⟨rfl, I5, K⟩ := hr
    have H := (hF2 K).nf rfl
    refine s_end Z [] rfl fun Z => ?_
    refine p_then (wp_ret ?_)
    refine p_blk_r ?_
    refine p_then_r ?_
    obtain rfl := some_in hF
    exact f_ret Z (run_results0 rfl) ⟨rfl, I5, (H.sub [(0, false)] rfl).eq rfl⟩
   ·replace hF := ite_f hc2 hF
    refine wp_seq (f_region Z ?_); clear Z; intro Z
    refine s_runk tMs1 Z 2 rfl rfl fun a Z => ?_
    refine s_end Z [0, 4, 7, 17, 24] rfl fun Z => ?_
    refine p_then ?_
    refine f_cond Z rfl (fun hc3 => ?_) (fun hc3 => ?_)
    ·replace hF := ite_t hc3 hF
     refine wp_seq ?_
     obtain ⟨b, hx6, hF⟩ := bnd_in hF
     refine f_region Z fun Z => ?_
     refine s_runk tMs1 Z 2 rfl rfl fun a Z => ?_
     refine sO Z _ rfl (oL tMs1 rfl rfl (H.bc 0 5 rfl rfl)) fun a Z => ?_
     refine hC Z H [(1, false)] rfl #[] fn_37_YMs1 rfl rfl (fun D h => have q := c_wire_Writer_Big hx6 h; q) fun vv a w7 D2 hr hF2 Z => ?_
     obtain ⟨rfl, I6, K⟩ := hr
     have H := (hF2 K).nf rfl
     refine s_end Z [] rfl fun Z => ?_
     refine p_then (wp_ret ?_)
     refine p_blk_r ?_
     refine p_then_r ?_
     obtain rfl := some_in hF
     exact f_ret Z (run_results0 rfl) ⟨rfl, I6, (H.sub [(0, false)] rfl).eq rfl⟩
    ·replace hF := ite_f hc3 hF
     refine wp_seq (f_region Z ?_); clear Z; intro Z
     refine s_runk tMs1 Z 2 rfl rfl fun a Z => ?_
     refine s_end Z [0, 4, 7, 17, 30] rfl fun Z => ?_
     refine p_then ?_
     refine f_cond Z rfl (fun hc4 => ?_) (fun hc4 => ?_)
     ·replace hF := ite_t hc4 hF
      refine wp_seq ?_
      obtain ⟨b_2, hx7, hF⟩ := bnd_in hF
      refine f_region Z fun Z => ?_
      refine s_runk tMs1 Z 2 rfl rfl fun a Z => ?_
      refine sO Z _ rfl (oL tMs1 rfl rfl (H.bc 0 6 rfl rfl)) fun a Z => ?_
      refine hC Z H [(1, false)] rfl #[] fn_37_YMs1 rfl rfl (fun D h => have q := c_wire_Writer_Big hx7 h; q) fun vv a w8 D2 hr hF2 Z => ?_
      obtain ⟨rfl, I7, K⟩ := hr
      have H := (hF2 K).nf rfl
      refine s_end Z [] rfl fun Z => ?_
      refine p_then (wp_ret ?_)
      refine p_blk_r ?_
      refine p_then_r ?_
      obtain rfl := some_in hF
      exact f_ret Z (run_results0 rfl) ⟨rfl, I7, (H.sub [(0, false)] rfl).eq rfl⟩
     ·replace hF := ite_f hc4 hF
      refine wp_seq (f_region Z ?_); clear Z; intro Z
      refine s_runk tMs1 Z 2 rfl rfl fun a Z => ?_
      refine s_end Z [0, 4, 7, 17, 36] rfl fun Z => ?_
      refine p_then ?_
      refine f_cond Z rfl (fun hc5 => ?_) (fun hc5 => ?_)
      ·replace hF := ite_t hc5 hF
       refine wp_seq ?_
       obtain ⟨f, hx8, hF⟩ := bnd_in hF
       refine f_region Z fun Z => ?_
       refine s_runk tMs1 Z 2 rfl rfl fun a Z => ?_
       refine sO Z _ rfl (oL tMs1 rfl rfl (H.bc 0 4 rfl rfl)) fun a Z => ?_
       refine hC Z H [(1, false)] rfl #[] fn_68_YMs1 rfl rfl (fun D h => have q := c_wire_Writer_Flag hx8 h; q) fun vv a w9 D2 hr hF2 Z => ?_
       obtain ⟨rfl, I8, K⟩ := hr
       have H := (hF2 K).nf rfl
       refine s_end Z [] rfl fun Z => ?_
       refine p_then (wp_ret ?_)
       refine p_blk_r ?_
       refine p_then_r ?_
       obtain rfl := some_in hF
       exact f_ret Z (run_results0 rfl) ⟨rfl, I8, (H.sub [(0, false)] rfl).eq rfl⟩
      ·replace hF := ite_f hc5 hF
       refine wp_seq (f_region Z ?_); clear Z; intro Z
       refine s_runk tMs1 Z 2 rfl rfl fun a Z => ?_
       refine s_end Z [0, 4, 7, 17, 42] rfl fun Z => ?_
       refine p_then ?_
       refine f_cond Z rfl (fun hc6 => ?_) (fun hc6 => ?_)
       ·replace hF := ite_t hc6 hF
        refine f_region Z fun Z => ?_
        refine s_runk tMs1 Z 1 rfl rfl fun a Z => ?_
        refine sO Z _ rfl (oL tMs1 rfl rfl (H.bc 0 11 rfl rfl)) fun a Z => ?_
        refine s_runk tMs1 Z 1 rfl rfl fun a Z => ?_
        refine s_end Z [0, 7] rfl fun Z => ?_
        refine p_blk ?_
        refine p_then ?_
        exact ⟨m.key, Z.sub (ts := [0, 7]) rfl, ⟨I1, (H.sub [(1, false)] rfl).eq rfl⟩, hF⟩
       ·replace hF := ite_f hc6 hF
        refine wp_seq (f_region Z ?_); clear Z; intro Z
        refine s_runk tMs1 Z 2 rfl rfl fun a Z => ?_
        refine s_end Z [0, 4, 7, 17, 46] rfl fun Z => ?_
        refine p_then ?_
        refine f_cond Z rfl (fun hc7 => ?_) (fun hc7 => ?_)
        ·replace hF := ite_t hc7 hF
         refine f_region Z fun Z => ?_
         refine s_runk tMs1 Z 1 rfl rfl fun a Z => ?_
         refine sO Z _ rfl (oL tMs1 rfl rfl (H.bc 0 12 rfl rfl)) fun a Z => ?_
         refine s_runk tMs1 Z 1 rfl rfl fun a Z => ?_
         refine s_end Z [0, 7] rfl fun Z => ?_
         refine p_blk ?_
         refine p_then ?_
         exact ⟨m.to_, Z.sub (ts := [0, 7]) rfl, ⟨I1, (H.sub [(1, false)] rfl).eq rfl⟩, hF⟩
        ·replace hF := ite_f hc7 hF
         refine wp_seq (f_region Z ?_); clear Z; intro Z
         refine s_runk tMs1 Z 2 rfl rfl fun a Z => ?_
         refine s_end Z [0, 4, 7, 17, 50] rfl fun Z => ?_
         refine p_then ?_
         refine f_cond Z rfl (fun hc8 => ?_) (fun hc8 => ?_)
         ·replace hF := ite_t hc8 hF
          obtain ⟨p, hx9, hF⟩ := bnd_in hF
          refine f_region Z fun Z => ?_
          refine s_runk tMs1 Z 1 rfl rfl fun a Z => ?_
          refine sO Z (.agg #[vI m.conf.epoch, v1_m, vU m.conf.floor]) rfl (oA tMs1 rfl rfl ((H.bx 0 rfl).part 13 rfl)) fun a Z => ?_
          refine hC Z H [(2, true)] rfl #[] fn_69_YMs1 rfl rfl (fun D h => have q := c_conf_Put hx9 h; q) fun vv a w10 D2 hr hF2 Z => ?_
          obtain ⟨rfl, I9, K⟩ := hr
          have H := (hF2 K).nf rfl
          refine s_runk tMs1 Z 4 rfl rfl fun a Z => ?_
          refine s_end Z [0, 7] rfl fun Z => ?_
          refine p_blk ?_
          refine p_then ?_
          exact ⟨p.1, Z.sub (ts := [0, 7]) rfl, ⟨I9, (H.sub [(1, false)] rfl).eq rfl⟩, hF⟩
         ·replace hF := ite_f hc8 hF
          refine wp_seq (f_region Z ?_); clear Z; intro Z
          refine s_runk tMs1 Z 2 rfl rfl fun a Z => ?_
          refine s_end Z [0, 4, 7, 58] rfl fun Z => ?_
          refine p_then ?_
          refine f_cond Z rfl (fun hc9 => ?_) (fun hc9 => ?_)
          ·replace hF := ite_t hc9 hF
           obtain ⟨p_2, hx10, hF⟩ := bnd_in hF
           refine f_region Z fun Z => ?_
           refine s_runk tMs1 Z 1 rfl rfl fun a Z => ?_
           refine sO Z (.agg #[vI m.batch.client, vI m.batch.req, v2_m]) rfl (oA tMs1 rfl rfl ((H.bx 0 rfl).part 16 rfl)) fun a Z => ?_
           refine hC Z H [(3, true)] rfl #[] fn_67_YMs1 rfl rfl (fun D h => have q := c_ops_Put hx10 h; q) fun vv a w11 D2 hr hF2 Z => ?_
           obtain ⟨rfl, I10, K⟩ := hr
           have H := (hF2 K).nf rfl
           refine s_runk tMs1 Z 4 rfl rfl fun a Z => ?_
           refine s_end Z [0, 7] rfl fun Z => ?_
           refine p_blk ?_
           refine p_then ?_
           exact ⟨p_2.1, Z.sub (ts := [0, 7]) rfl, ⟨I10, (H.sub [(1, false)] rfl).eq rfl⟩, hF⟩
          ·replace hF := ite_f hc9 hF
           refine wp_skip ?_
           refine p_blk ?_
           refine p_then ?_
           exact ⟨⟨#[]⟩, Z.sub (ts := [0, 7]) rfl, ⟨I1, (H.sub [(1, false)] rfl).eq rfl⟩, hF⟩

def F_mess_write_l1 (m : EMsg) (rc : (Int × Ewire_Writer) → Option Ewire_Writer) (sg : Int × Ewire_Writer) : Option Ewire_Writer := match sg with | (x, w0_2) => if (decide (x < (m.entries.length : Int))) = true then (chk ((0 : Int) ≤ x ∧ x < (m.entries.length : Int)) ((F_item_Put ({ (m.entries.getD (x).toNat default) with batch := ({ client := ((m.entries.getD (x).toNat default).batch).client, req := ((m.entries.getD (x).toNat default).batch).req, ops := ((m.entries.getD (x).toNat default).batch).ops } : EBatch) } : EEntry)).bind fun p => ((F_wire_Writer_Text w0_2 p.1).bind fun t => (chk (inI (x + 1)) (rc (x + 1, t)))))) else (some w0_2)

def F_mess_write_l2 (m : EMsg) (rc_2 : (Int × Ewire_Writer) → Option Ewire_Writer) (sg : Int × Ewire_Writer) : Option Ewire_Writer := match sg with | (x_2, w0_3) => if (decide (x_2 < (m.stamps.length : Int))) = true then (chk ((0 : Int) ≤ x_2 ∧ x_2 < (m.stamps.length : Int)) ((F_wire_Writer_Big w0_3 (m.stamps.getD (x_2).toNat default)).bind fun b => (chk (inI (x_2 + 1)) (rc_2 (x_2 + 1, b))))) else (some w0_3)

def F_mess_write_l3 (m : EMsg) (rc_3 : (Int × Ewire_Writer) → Option Ewire_Writer) (sg : Int × Ewire_Writer) : Option Ewire_Writer := match sg with | (x_3, w0_4) => if (decide (x_3 < (m.pairs.length : Int))) = true then (chk ((0 : Int) ≤ x_3 ∧ x_3 < (m.pairs.length : Int)) ((F_wire_Writer_Text w0_4 ((m.pairs.getD (x_3).toNat default).key)).bind fun t_2 => ((F_wire_Writer_Text t_2 ((m.pairs.getD (x_3).toNat default).val)).bind fun t_3 => (chk (inI (x_3 + 1)) (rc_3 (x_3 + 1, t_3)))))) else (some w0_4)

def F_mess_write (w0 : Ewire_Writer) (m : EMsg) (c : Int) : Option Ewire_Writer := if (c == 69) = true then ((F_wire_Writer_Num w0 (m.entries.length : Int)).bind fun n0 => (iter (F_mess_write_l1 m) FU (0, n0))) else (if (c == 83) = true then ((F_wire_Writer_Num w0 (m.stamps.length : Int)).bind fun n0_2 => (iter (F_mess_write_l2 m) FU (0, n0_2))) else (if (c == 82) = true then ((F_wire_Writer_Num w0 (m.pairs.length : Int)).bind fun n0_3 => (iter (F_mess_write_l3 m) FU (0, n0_3))) else ((F_mess_plain w0 m c).bind fun p_2 => (some p_2))))

set_option maxHeartbeats 1000000 in
theorem c_mess_write {I D : Dm} {b_w0 : Nat} {w0 : Ewire_Writer} {m : EMsg} {v1_m : Value} {v2_m : Value} {v3_m : Value} {v4_m : Value} {v5_m : Value} {c : Int} {w : World} {rr : Ewire_Writer} (hF : F_mess_write w0 m c = some rr) (H : St I D w [OEwire_Writer b_w0 w0, SlC NEMember v1_m m.conf.members, SlC NEOp v2_m m.batch.ops, SlC NEEntry v3_m m.entries, SlC Nu64 v4_m m.stamps, SlC NEPair v5_m m.pairs]) :
  Calls Try.prog 15 #[pp b_w0 0, .agg (cEMsg m v1_m v2_m v3_m v4_m v5_m).toArray, .int .i32 c] w (Ret fun vv w' => vv = .tuple #[] ∧ ∃ I', Hf I D w I' w' [OEwire_Writer b_w0 rr]) := by
 replace H := H.hf
 unfold F_mess_write at hF
 refine f_enter 82 Try.func15 rfl rfl (Nat.le_of_ble_eq_true rfl) fun a Z => ?_
 replace Z := Z.sub (ts := [0, 1, 2]) rfl
 refine wp_seq (f_region Z ?_); clear Z; intro Z
 refine h_boxv Z H (cl := (cEMsg m v1_m v2_m v3_m v4_m v5_m)) rfl rfl rfl (by decide) rfl rfl rfl fun a w1 b1 H Z => ?_
 refine s_end Z [0, 2, 4] rfl fun Z => ?_
 refine p_then (wp_seq (f_region Z ?_)); clear Z; intro Z
 refine s_runk tMs1 Z 1 rfl rfl fun a Z => ?_
 refine s_end Z [0, 2, 4, 14] rfl fun Z => ?_
 refine p_then (wp_block ?_)
 refine wp_seq (f_region Z ?_); clear Z; intro Z
 refine s_runk tMs1 Z 2 rfl rfl fun a Z => ?_
 refine s_end Z [0, 2, 4, 14, 19] rfl fun Z => ?_
 refine p_then ?_
 refine f_cond Z rfl (fun hc1 => ?_) (fun hc1 => ?_)
 ·replace hF := ite_t hc1 hF
  refine wp_seq ?_
  obtain ⟨n0, hx1, hF⟩ := bnd_in hF
  refine f_region Z fun Z => ?_
  refine s_runk tMs1 Z 2 rfl rfl fun a Z => ?_
  refine sO Z _ rfl (oL tMs1 rfl rfl (H.bc 0 19 rfl rfl)) fun a Z => ?_
  refine sO Z (vI (ln m.entries)) rfl (Ob_slen tMs1 rfl rfl rfl (H.slshape 4 rfl)) fun a Z => ?_
  refine hC Z H [(1, false)] rfl #[] fn_14_YMs1 rfl rfl (fun D h => have q := c_wire_Writer_Num hx1 h; q) fun vv a w2 D2 hr hF2 Z => ?_
  obtain ⟨rfl, I1, K⟩ := hr
  have H := (hF2 K).nf rfl
  refine s_end Z [0, 4] rfl fun Z => ?_
  refine p_then (wp_seq (f_region Z ?_)); clear Z; intro Z
  refine s_runk tMs1 Z 1 rfl rfl fun a Z => ?_
  refine sO Z _ rfl (oL tMs1 rfl rfl (H.bc 1 19 rfl rfl)) fun a Z => ?_
  refine sO Z (vI (ln m.entries)) rfl (Ob_slen tMs1 rfl rfl rfl (H.slshape 4 rfl)) fun a Z => ?_
  refine s_runk tMs1 Z 1 rfl rfl fun a Z => ?_
  refine s_end Z [0, 27, 28, 29] rfl fun Z => ?_
  refine p_then (wp_block ?_)
  refine f_iter hF (fun sg a' w' => match sg with | (x, w0_2) => Sl 82 [(0, pp b_w0 0), (27, v3_m), (28, vI (ln m.entries)), (29, vI x)] a' ∧ ∃ I2, Hf I D w I2 w' [OEwire_Writer b_w0 w0_2, SlC NEEntry v3_m m.entries]) ⟨Z.sub (ts := [0, 27, 28, 29]) rfl, ⟨I1, (H.sub [(0, false), (3, true)] rfl).eq rfl⟩⟩ ?_
  rintro rc ⟨x, w0_2⟩ a w3 ⟨Z, I2, H⟩ hF
  unfold F_mess_write_l1 at hF
  try dsimp only at hF
  refine wp_seq (f_region Z ?_); clear Z; intro Z
  refine s_runk tMs1 Z 1 rfl rfl fun a Z => ?_
  refine s_end Z [0, 27, 28, 29, 30] rfl fun Z => ?_
  refine p_then (wp_seq ?_)
  refine f_cond Z rfl (fun hc2 => ?_) (fun hc2 => ?_)
  ·replace hF := ite_t hc2 hF
   refine wp_skip ?_
   refine p_then (wp_seq ?_)
   refine wp_block ?_
   refine wp_seq ?_
   obtain ⟨hg1, hF⟩ := chk_in hF
   refine f_region Z fun Z => ?_
   refine sO Z (.pointer (some ⟨blkOf v3_m, oofOf v3_m + (x).toNat * 4, none⟩)) rfl (Ob_sidx tMs1 rfl rfl rfl rfl (slPl (H.sl 1 rfl) hg1) hg1) fun a Z => ?_
   obtain ⟨_, ⟨u1, rfl, L1⟩, H⟩ := H.elG 1 rfl (x) (NEEntry.dft _ _)
   replace H := H.addsl L1
   replace H : Hf I D w I2 w3 [SlC NEOp u1 (((gi m.entries x).batch).ops), AtG ((0 : Int) ≤ x ∧ x < (ln m.entries)) (blkOf v3_m) (oofOf v3_m + (x).toNat * 4) (cEEntry (gi m.entries x) u1), OEwire_Writer b_w0 w0_2, SlC NEEntry v3_m m.entries] := H
   refine sO Z (.agg (cEEntry (gi m.entries x) u1).toArray) rfl (oA tMs1 rfl rfl ((H.atg 1 rfl hg1).part 0 rfl)) fun a Z => ?_
   refine hA Z H [vI 0, vI 0, nS, vU 0] rfl rfl (by kernel_rfl) fun a w4 b2 H Z => ?_
   refine hT tMs1 Z H 0 rfl rfl rfl rfl rfl (onR 2 rfl (one_cons (slS.one (H.slshape 1 rfl)) (one_cons rfl one_nil))) (Nat.le_of_ble_eq_true rfl) rfl fun w5 H => ?_
   dsimp only [List.eraseIdx] at H
   refine s_end Z [0, 27, 28, 29, 7] rfl fun Z => ?_
   refine p_then (wp_seq ?_)
   obtain ⟨p, hx2, hF⟩ := bnd_in hF
   refine f_region Z fun Z => ?_
   refine sO Z (.agg (cEEntry (gi m.entries x) u1).toArray) rfl (oA tMs1 rfl rfl ((H.bx 0 rfl).part 0 rfl)) fun a Z => ?_
   refine hC Z H [(1, true)] rfl #[] fn_35_YMs1 rfl rfl (fun D h => have q := c_item_Put hx2 h; q) fun vv a w6 D2 hr hF2 Z => ?_
   obtain ⟨rfl, I3, K⟩ := hr
   have H := (hF2 K).nf rfl
   refine s_runk tMs1 Z 5 rfl rfl fun a Z => ?_
   refine s_end Z [0, 27, 28, 29, 8] rfl fun Z => ?_
   refine p_then ?_
   obtain ⟨t, hx3, hF⟩ := bnd_in hF
   refine f_region Z fun Z => ?_
   refine s_runk tMs1 Z 2 rfl rfl fun a Z => ?_
   refine hC Z H [(3, false)] rfl #[] fn_36_YMs1 rfl rfl (fun D h => have q := c_wire_Writer_Text hx3 h; q) fun vv a w7 D2 hr hF2 Z => ?_
   obtain ⟨rfl, I4, K⟩ := hr
   have H := (hF2 K).nf rfl
   refine s_end Z [0, 27, 28, 29] rfl fun Z => ?_
   refine p_blk ?_
   refine p_then ?_
   obtain ⟨hg2, hF⟩ := chk_in hF
   refine f_region Z fun Z => ?_
   refine sO Z (vI (x + 1)) rfl (Ob_add rfl rfl rfl (wrI hg2)) fun a Z => ?_
   refine s_runk tMs1 Z 1 rfl rfl fun a Z => ?_
   refine s_end Z [0, 27, 28, 29] rfl fun Z => ?_
   refine p_then ?_
   exact ⟨(x + 1, t), ⟨Z.sub (ts := [0, 27, 28, 29]) rfl, ⟨I4, (H.sub [(0, false), (3, true)] rfl).eq rfl⟩⟩, hF⟩
  ·replace hF := ite_f hc2 hF
   refine wp_exit ?_
   refine p_then_x ?_
   refine p_then_x ?_
   refine f_exit_here ?_
   refine p_blk ?_
   obtain rfl := some_in hF
   exact f_fall Z (run_results0 rfl) ⟨rfl, I2, (H.sub [(0, false)] rfl).eq rfl⟩
 ·replace hF := ite_f hc1 hF
  refine wp_seq (f_region Z ?_); clear Z; intro Z
  refine s_runk tMs1 Z 2 rfl rfl fun a Z => ?_
  refine s_end Z [0, 2, 4, 14, 42] rfl fun Z => ?_
  refine p_then ?_
  refine f_cond Z rfl (fun hc3 => ?_) (fun hc3 => ?_)
  ·replace hF := ite_t hc3 hF
   refine wp_seq ?_
   obtain ⟨n0_2, hx4, hF⟩ := bnd_in hF
   refine f_region Z fun Z => ?_
   refine s_runk tMs1 Z 2 rfl rfl fun a Z => ?_
   refine sO Z _ rfl (oL tMs1 rfl rfl (H.bc 0 20 rfl rfl)) fun a Z => ?_
   refine sO Z (vI (ln m.stamps)) rfl (Ob_slen tMs1 rfl rfl rfl (H.slshape 5 rfl)) fun a Z => ?_
   refine hC Z H [(1, false)] rfl #[] fn_14_YMs1 rfl rfl (fun D h => have q := c_wire_Writer_Num hx4 h; q) fun vv a w8 D2 hr hF2 Z => ?_
   obtain ⟨rfl, I5, K⟩ := hr
   have H := (hF2 K).nf rfl
   refine s_end Z [0, 4] rfl fun Z => ?_
   refine p_then (wp_seq (f_region Z ?_)); clear Z; intro Z
   refine s_runk tMs1 Z 1 rfl rfl fun a Z => ?_
   refine sO Z _ rfl (oL tMs1 rfl rfl (H.bc 1 20 rfl rfl)) fun a Z => ?_
   refine sO Z (vI (ln m.stamps)) rfl (Ob_slen tMs1 rfl rfl rfl (H.slshape 5 rfl)) fun a Z => ?_
   refine s_runk tMs1 Z 1 rfl rfl fun a Z => ?_
   refine s_end Z [0, 50, 51, 52] rfl fun Z => ?_
   refine p_then (wp_block ?_)
   refine f_iter hF (fun sg a' w' => match sg with | (x_2, w0_3) => Sl 82 [(0, pp b_w0 0), (50, v4_m), (51, vI (ln m.stamps)), (52, vI x_2)] a' ∧ ∃ I2, Hf I D w I2 w' [OEwire_Writer b_w0 w0_3, SlC Nu64 v4_m m.stamps]) ⟨Z.sub (ts := [0, 50, 51, 52]) rfl, ⟨I5, (H.sub [(0, false), (4, true)] rfl).eq rfl⟩⟩ ?_
   rintro rc_2 ⟨x_2, w0_3⟩ a w9 ⟨Z, I6, H⟩ hF
   unfold F_mess_write_l2 at hF
   try dsimp only at hF
   refine wp_seq (f_region Z ?_); clear Z; intro Z
   refine s_runk tMs1 Z 1 rfl rfl fun a Z => ?_
   refine s_end Z [0, 50, 51, 52, 53] rfl fun Z => ?_
   refine p_then (wp_seq ?_)
   refine f_cond Z rfl (fun hc4 => ?_) (fun hc4 => ?_)
   ·replace hF := ite_t hc4 hF
    refine wp_skip ?_
    refine p_then (wp_seq ?_)
    refine wp_block ?_
    refine wp_seq ?_
    obtain ⟨hg3, hF⟩ := chk_in hF
    refine f_region Z fun Z => ?_
    refine sO Z (.pointer (some ⟨blkOf v4_m, oofOf v4_m + (x_2).toNat * 1, none⟩)) rfl (Ob_sidx tMs1 rfl rfl rfl rfl (slPl (H.sl 1 rfl) hg3) hg3) fun a Z => ?_
    refine sO Z (vU (gi m.stamps x_2)) rfl (oL tMs1 rfl rfl ((slFl (H.sl 1 rfl) hg3) 0 _ rfl)) fun a Z => ?_
    refine s_runk tMs1 Z 1 rfl rfl fun a Z => ?_
    refine s_end Z [0, 50, 51, 52, 11] rfl fun Z => ?_
    refine p_then ?_
    obtain ⟨b, hx5, hF⟩ := bnd_in hF
    refine f_region Z fun Z => ?_
    refine s_runk tMs1 Z 2 rfl rfl fun a Z => ?_
    refine hC Z H [(0, false)] rfl #[] fn_37_YMs1 rfl rfl (fun D h => have q := c_wire_Writer_Big hx5 h; q) fun vv a w10 D2 hr hF2 Z => ?_
    obtain ⟨rfl, I7, K⟩ := hr
    have H := (hF2 K).nf rfl
    refine s_end Z [0, 50, 51, 52] rfl fun Z => ?_
    refine p_blk ?_
    refine p_then ?_
    obtain ⟨hg4, hF⟩ := chk_in hF
    refine f_region Z fun Z => ?_
    refine sO Z (vI (x_2 + 1)) rfl (Ob_add rfl rfl rfl (wrI hg4)) fun a Z => ?_
    refine s_runk tMs1 Z 1 rfl rfl fun a Z => ?_
    refine s_end Z [0, 50, 51, 52] rfl fun Z => ?_
    refine p_then ?_
    exact ⟨(x_2 + 1, b), ⟨Z.sub (ts := [0, 50, 51, 52]) rfl, ⟨I7, (H.sub [(0, false), (0, true)] rfl).eq rfl⟩⟩, hF⟩
   ·replace hF := ite_f hc4 hF
    refine wp_exit ?_
    refine p_then_x ?_
    refine p_then_x ?_
    refine f_exit_here ?_
    refine p_blk ?_
    obtain rfl := some_in hF
    exact f_fall Z (run_results0 rfl) ⟨rfl, I6, (H.sub [(0, false)] rfl).eq rfl⟩
  ·replace hF := ite_f hc3 hF
   refine wp_seq (f_region Z ?_); clear Z; intro Z
   refine s_runk tMs1 Z 2 rfl rfl fun a Z => ?_
   refine s_end Z [0, 2, 4, 60] rfl fun Z => ?_
   refine p_then ?_
   refine f_cond Z rfl (fun hc5 => ?_) (fun hc5 => ?_)
   ·replace hF := ite_t hc5 hF
    refine wp_seq ?_
    obtain ⟨n0_3, hx6, hF⟩ := bnd_in hF
    refine f_region Z fun Z => ?_
    refine s_runk tMs1 Z 2 rfl rfl fun a Z => ?_
    refine sO Z _ rfl (oL tMs1 rfl rfl (H.bc 0 21 rfl rfl)) fun a Z => ?_
    refine sO Z (vI (ln m.pairs)) rfl (Ob_slen tMs1 rfl rfl rfl (H.slshape 6 rfl)) fun a Z => ?_
    refine hC Z H [(1, false)] rfl #[] fn_14_YMs1 rfl rfl (fun D h => have q := c_wire_Writer_Num hx6 h; q) fun vv a w11 D2 hr hF2 Z => ?_
    obtain ⟨rfl, I8, K⟩ := hr
    have H := (hF2 K).nf rfl
    refine s_end Z [0, 4] rfl fun Z => ?_
    refine p_then (wp_seq (f_region Z ?_)); clear Z; intro Z
    refine s_runk tMs1 Z 1 rfl rfl fun a Z => ?_
    refine sO Z _ rfl (oL tMs1 rfl rfl (H.bc 1 21 rfl rfl)) fun a Z => ?_
    refine sO Z (vI (ln m.pairs)) rfl (Ob_slen tMs1 rfl rfl rfl (H.slshape 6 rfl)) fun a Z => ?_
    refine s_runk tMs1 Z 1 rfl rfl fun a Z => ?_
    refine s_end Z [0, 68, 69, 70] rfl fun Z => ?_
    refine p_then (wp_block ?_)
    refine f_iter hF (fun sg a' w' => match sg with | (x_3, w0_4) => Sl 82 [(0, pp b_w0 0), (68, v5_m), (69, vI (ln m.pairs)), (70, vI x_3)] a' ∧ ∃ I2, Hf I D w I2 w' [OEwire_Writer b_w0 w0_4, SlC NEPair v5_m m.pairs]) ⟨Z.sub (ts := [0, 68, 69, 70]) rfl, ⟨I8, (H.sub [(0, false), (5, true)] rfl).eq rfl⟩⟩ ?_
    rintro rc_3 ⟨x_3, w0_4⟩ a w12 ⟨Z, I9, H⟩ hF
    unfold F_mess_write_l3 at hF
    try dsimp only at hF
    refine wp_seq (f_region Z ?_); clear Z; intro Z
    refine s_runk tMs1 Z 1 rfl rfl fun a Z => ?_
    refine s_end Z [0, 68, 69, 70, 71] rfl fun Z => ?_
    refine p_then (wp_seq ?_)
    refine f_cond Z rfl (fun hc6 => ?_) (fun hc6 => ?_)
    ·replace hF := ite_t hc6 hF
     refine wp_skip ?_
     refine p_then (wp_seq ?_)
     refine wp_block ?_
     refine wp_seq ?_
     obtain ⟨hg5, hF⟩ := chk_in hF
     refine f_region Z fun Z => ?_
     refine sO Z (.pointer (some ⟨blkOf v5_m, oofOf v5_m + (x_3).toNat * 2, none⟩)) rfl (Ob_sidx tMs1 rfl rfl rfl rfl (slPl (H.sl 1 rfl) hg5) hg5) fun a Z => ?_
     refine sO Z (.agg #[vS ((gi m.pairs x_3).key), vS ((gi m.pairs x_3).val)]) rfl (oA tMs1 rfl rfl ((slFl (H.sl 1 rfl) hg5).part 0 rfl)) fun a Z => ?_
     refine hA Z H [vS ByteArray.empty, vS ByteArray.empty] rfl rfl (by kernel_rfl) fun a w13 b3 H Z => ?_
     refine hT tMs1 Z H 0 rfl rfl rfl rfl rfl (onR 2 rfl one_nil) (Nat.le_of_ble_eq_true rfl) rfl fun w14 H => ?_
     dsimp only [List.eraseIdx] at H
     refine s_end Z [0, 68, 69, 70, 13] rfl fun Z => ?_
     refine p_then ?_
     obtain ⟨t_2, hx7, hF⟩ := bnd_in hF
     obtain ⟨t_3, hx8, hF⟩ := bnd_in hF
     refine f_regionL Z (by kernel_rfl) (by kernel_rfl) (by decide) (by decide) [3, 6] [(0, 0, 0), (0, 0, 0), (2, 0, 0), (7, 0, 0), (0, 0, 1), (16, 0, 1), (63, 1, 1)] (by kernel_rfl) (fun jj vv => match jj with | 0 => vv = pp b_w0 0 | 1 => vv = pp b3 0 | 2 => vv = vS ((gi m.pairs x_3).key) | 3 => vv = pp b_w0 0 | 4 => vv = pp b3 1 | 5 => vv = vS ((gi m.pairs x_3).val) | 6 => vv = pp b_w0 0 | _ => True) (fun ss vals1 xw => match ss with | 0 => Gx I D w I9 w14 xw [BxC b3 82 [vS ((gi m.pairs x_3).key), vS ((gi m.pairs x_3).val)], OEwire_Writer b_w0 w0_4, SlC NEPair v5_m m.pairs] | 1 => Gx I D w I9 w14 xw [OEwire_Writer b_w0 t_2, BxC b3 82 [vS ((gi m.pairs x_3).key), vS ((gi m.pairs x_3).val)], SlC NEPair v5_m m.pairs] | _ => Gx I D w I9 w14 xw [OEwire_Writer b_w0 t_3, BxC b3 82 [vS ((gi m.pairs x_3).key), vS ((gi m.pairs x_3).val)], SlC NEPair v5_m m.pairs]) (fun _ => Gx.start H) ?_ ?_
     ·intro fr hfr hfe
      refine .cons (fun ss hlo hhi vals1 xw hG hV => ?_) ?_
      ·obtain rfl : ss = 0 := Nat.le_antisymm hhi hlo
       rw [← hfe]
       have hS := (hfr vals1).sub (ts := [0]) rfl
       exact L_val hS rfl (Ob_c tMs1 rfl) ⟨rfl, hG⟩
      refine .cons (fun ss hlo hhi vals1 xw hG hV => ?_) ?_
      ·obtain rfl : ss = 0 := Nat.le_antisymm hhi hlo
       rw [← hfe]
       have hS := (hfr vals1).sub (ts := [13]) rfl
       exact L_val hS rfl (Ob_c tMs1 rfl) ⟨rfl, hG⟩
      refine .cons (fun ss hlo hhi vals1 xw hG hV => ?_) ?_
      ·obtain rfl : ss = 0 := Nat.le_antisymm hhi hlo
       rw [← hfe]
       have hS := (hfr vals1).sub (ts := [75]) rfl
       replace hS := hS.conv (t := 75) rfl (show (vals1 1) = pp b3 0 from hV 1 (by decide))
       obtain ⟨I2, hI2, H⟩ := Gx.ex hG
       exact L_val hS rfl (oL tMs1 rfl rfl (H.bc 0 0 rfl rfl)) ⟨rfl, hG⟩
      refine .cons (fun ss hlo hhi vals1 xw hG hV => ?_) ?_
      ·obtain rfl : ss = 0 := Nat.le_antisymm hhi hlo
       rw [← hfe]
       have hS := (hfr vals1).sub (ts := [74, 76]) rfl
       replace hS := hS.conv (t := 74) rfl (show (vals1 0) = pp b_w0 0 from hV 0 (by decide))
       replace hS := hS.conv (t := 76) rfl (show (vals1 2) = vS ((gi m.pairs x_3).key) from hV 2 (by decide))
       obtain ⟨I2, hI2, H⟩ := Gx.ex hG
       refine L_hcall H (js := [(1, false)]) rfl (caps := #[]) hS fn_36_YMs1 rfl rfl rfl rfl rfl (fun D1 hS => have hq := c_wire_Writer_Text hx7 hS; hq) fun _ yw D1 hr hF2 => ?_
       obtain ⟨rfl, I3, K⟩ := hr
       obtain ⟨hK, H2⟩ := hF2 K
       exact ⟨rfl, Gx.go hG hI2 hK K.imm H2⟩
      refine .cons (fun ss hlo hhi vals1 xw hG hV => ?_) ?_
      ·obtain rfl | rfl : ss = 0 ∨ ss = 1 := st1 hlo hhi
       all_goals
       ·rw [← hfe]
        have hS := (hfr vals1).sub (ts := [13]) rfl
        exact L_val hS rfl (Ob_c tMs1 rfl) ⟨rfl, hG⟩
      refine .cons (fun ss hlo hhi vals1 xw hG hV => ?_) ?_
      ·obtain rfl | rfl : ss = 0 ∨ ss = 1 := st1 hlo hhi
       ·rw [← hfe]
        have hS := (hfr vals1).sub (ts := [78]) rfl
        replace hS := hS.conv (t := 78) rfl (show (vals1 4) = pp b3 1 from hV 4 (by decide))
        obtain ⟨I2, hI2, H⟩ := Gx.ex hG
        exact L_val hS rfl (oL tMs1 rfl rfl (H.bc 0 1 rfl rfl)) ⟨rfl, hG⟩
       ·rw [← hfe]
        have hS := (hfr vals1).sub (ts := [78]) rfl
        replace hS := hS.conv (t := 78) rfl (show (vals1 4) = pp b3 1 from hV 4 (by decide))
        obtain ⟨I2, hI2, H⟩ := Gx.ex hG
        exact L_val hS rfl (oL tMs1 rfl rfl (H.bc 1 1 rfl rfl)) ⟨rfl, hG⟩
      refine .cons (fun ss hlo hhi vals1 xw hG hV => ?_) ?_
      ·obtain rfl : ss = 1 := Nat.le_antisymm hhi hlo
       rw [← hfe]
       have hS := (hfr vals1).sub (ts := [77, 79]) rfl
       replace hS := hS.conv (t := 77) rfl (show (vals1 3) = pp b_w0 0 from hV 3 (by decide))
       replace hS := hS.conv (t := 79) rfl (show (vals1 5) = vS ((gi m.pairs x_3).val) from hV 5 (by decide))
       obtain ⟨I2, hI2, H⟩ := Gx.ex hG
       refine L_hcall H (js := [(0, false)]) rfl (caps := #[]) hS fn_36_YMs1 rfl rfl rfl rfl rfl (fun D1 hS => have hq := c_wire_Writer_Text hx8 hS; hq) fun _ yw D1 hr hF2 => ?_
       obtain ⟨rfl, I3, K⟩ := hr
       obtain ⟨hK, H2⟩ := hF2 K
       exact ⟨rfl, Gx.go hG hI2 hK K.imm H2⟩
      exact .nil
     ·intro vals1 a w15 Z hG hV
      replace Z := Z.sub (ts := [0, 68, 69, 70]) (S' := [(0, pp b_w0 0), (68, v5_m), (69, vI (ln m.pairs)), (70, vI x_3)]) rfl
      obtain ⟨I10, _, H⟩ := Gx.ex hG
      clear hG hV
      replace Z := Z.sub (ts := [0, 68, 69, 70]) rfl
      replace H := H.nf rfl; try dsimp only at H
      refine p_blk ?_
      refine p_then ?_
      obtain ⟨hg6, hF⟩ := chk_in hF
      refine f_region Z fun Z => ?_
      refine sO Z (vI (x_3 + 1)) rfl (Ob_add rfl rfl rfl (wrI hg6)) fun a Z => ?_
      refine s_runk tMs1 Z 1 rfl rfl fun a Z => ?_
      refine s_end Z [0, 68, 69, 70] rfl fun Z => ?_
      refine p_then ?_
      exact ⟨(x_3 + 1, t_3), ⟨Z.sub (ts := [0, 68, 69, 70]) rfl, ⟨I10, (H.sub [(0, false), (1, true)] rfl).eq rfl⟩⟩, hF⟩
    ·replace hF := ite_f hc6 hF
     refine wp_exit ?_
     refine p_then_x ?_
     refine p_then_x ?_
     refine f_exit_here ?_
     refine p_blk ?_
     obtain rfl := some_in hF
     exact f_fall Z (run_results0 rfl) ⟨rfl, I9, (H.sub [(0, false)] rfl).eq rfl⟩
   ·replace hF := ite_f hc5 hF
    obtain ⟨p_2, hx9, hF⟩ := bnd_in hF
    refine f_region Z fun Z => ?_
    refine s_runk tMs1 Z 1 rfl rfl fun a Z => ?_
    refine sO Z (.agg (cEMsg m v1_m v2_m v3_m v4_m v5_m).toArray) rfl (oA tMs1 rfl rfl ((H.bx 0 rfl).part 0 rfl)) fun a Z => ?_
    refine s_runk tMs1 Z 1 rfl rfl fun a Z => ?_
    refine hC Z H [(1, false), (1, true), (2, true), (3, true), (4, true), (5, true)] rfl #[] fn_38_YMs1 rfl rfl (fun D h => have q := c_mess_plain hx9 h; q) fun vv a w16 D2 hr hF2 Z => ?_
    obtain ⟨rfl, I11, K⟩ := hr
    have H := (hF2 K).nf rfl
    refine s_end Z [] rfl fun Z => ?_
    refine p_blk ?_
    obtain rfl := some_in hF
    exact f_fall Z (run_results0 rfl) ⟨rfl, I11, (H.sub [(0, false)] rfl).eq rfl⟩

def F_mess_Put_l1 (m : EMsg) (p : ByteArray × Bool) (rc : (Ewire_Writer × Nat) → Option (ByteArray × Int)) (sg : Ewire_Writer × Nat) : Option (ByteArray × Int) := match sg with | (w0, yb2) => if (decide (yb2 < p.1.size)) = true then (chk (yb2 < p.1.size) ((F_mess_write w0 m (runeAt p.1 yb2)).bind fun w0_2 => (rc (w0_2, nxP p.1 yb2)))) else ((F_wire_Writer_Done w0).bind fun d => (some (d.1, d.2)))

def F_mess_Put (m : EMsg) : Option (ByteArray × Int) := (F_mess_Check m).bind fun c => (if (c != 0) = true then (some (⟨#[]⟩, c)) else ((F_mess_parts m.k).bind fun p => ((F_wire_New).bind fun n0 => ((F_wire_Writer_Num n0 m.k).bind fun n0_2 => (iter (F_mess_Put_l1 m p) FU (n0_2, 0))))))

set_option maxHeartbeats 1000000 in
theorem c_mess_Put {I D : Dm} {m : EMsg} {v1_m : Value} {v2_m : Value} {v3_m : Value} {v4_m : Value} {v5_m : Value} {w : World} {rr : ByteArray × Int} (hF : F_mess_Put m = some rr) (H : St I D w [SlC NEMember v1_m m.conf.members, SlC NEOp v2_m m.batch.ops, SlC NEEntry v3_m m.entries, SlC Nu64 v4_m m.stamps, SlC NEPair v5_m m.pairs]) :
  Calls Try.prog 6 #[.agg (cEMsg m v1_m v2_m v3_m v4_m v5_m).toArray] w (Ret fun vv w' => vv = .tuple #[vS rr.1, vI rr.2] ∧ ∃ I', Hf I D w I' w' []) := by
 replace H := H.hf
 unfold F_mess_Put at hF
 refine f_enter 38 Try.func6 rfl rfl (Nat.le_of_ble_eq_true rfl) fun a Z => ?_
 replace Z := Z.sub (ts := [0]) rfl
 refine wp_seq (f_region Z ?_); clear Z; intro Z
 refine h_boxv Z H (cl := (cEMsg m v1_m v2_m v3_m v4_m v5_m)) rfl rfl rfl (by decide) rfl rfl rfl fun a w1 b1 H Z => ?_
 refine s_runk tMs1 Z 2 rfl rfl fun a Z => ?_
 refine s_end Z [1] rfl fun Z => ?_
 refine p_then (wp_seq ?_)
 refine wp_seq ?_
 obtain ⟨c, hx1, hF⟩ := bnd_in hF
 refine f_region Z fun Z => ?_
 refine sO Z (.agg (cEMsg m v1_m v2_m v3_m v4_m v5_m).toArray) rfl (oA tMs1 rfl rfl ((H.bx 0 rfl).part 0 rfl)) fun a Z => ?_
 refine hC Z H [(1, true), (2, true), (3, true), (4, true), (5, true)] rfl #[] fn_11_YMs1 rfl rfl (fun D h => have q := c_mess_Check hx1 h; q) fun vv a w2 D2 hr hF2 Z => ?_
 obtain ⟨rfl, I1, K⟩ := hr
 have H := (hF2 K).nf rfl
 refine s_runk tMs1 Z 1 rfl rfl fun a Z => ?_
 refine s_end Z [1, 4] rfl fun Z => ?_
 refine p_then (wp_seq (f_region Z ?_)); clear Z; intro Z
 refine s_runk tMs1 Z 2 rfl rfl fun a Z => ?_
 refine s_end Z [1, 4, 13] rfl fun Z => ?_
 refine p_then ?_
 refine f_cond Z rfl (fun hc1 => ?_) (fun hc1 => ?_)
 ·replace hF := ite_t hc1 hF
  refine wp_seq (f_region Z ?_); clear Z; intro Z
  refine s_runk tMs1 Z 3 rfl rfl fun a Z => ?_
  refine s_end Z [2, 3] rfl fun Z => ?_
  refine p_then (wp_ret ?_)
  refine p_then_r ?_
  obtain rfl := some_in hF
  exact f_ret Z (run_results2 rfl Z rfl rfl) ⟨rfl, I1, (H.sub [] rfl).eq rfl⟩
 ·replace hF := ite_f hc1 hF
  refine wp_skip ?_
  refine p_then (wp_seq ?_)
  obtain ⟨p, hx2, hF⟩ := bnd_in hF
  refine f_region Z fun Z => ?_
  refine s_runk tMs1 Z 1 rfl rfl fun a Z => ?_
  refine sO Z _ rfl (oL tMs1 rfl rfl (H.bc 0 0 rfl rfl)) fun a Z => ?_
  refine hC Z H [] rfl #[] fn_12_YMs1 rfl rfl (fun D h => have q := c_mess_parts hx2 h; q) fun vv a w3 D2 hr hF2 Z => ?_
  obtain ⟨rfl, I2, K⟩ := hr
  have H := (hF2 K).nf rfl
  refine s_runk tMs1 Z 5 rfl rfl fun a Z => ?_
  refine s_end Z [1, 5] rfl fun Z => ?_
  refine p_then (wp_seq ?_)
  obtain ⟨n0, hx3, hF⟩ := bnd_in hF
  obtain ⟨n0_2, hx4, hF⟩ := bnd_in hF
  refine f_regionM Z (by kernel_rfl) (by kernel_rfl) (by decide) (by decide) [0, 3] [(0, 0, 0), (0, 0, 1), (2, 0, 1), (7, 1, 1), (15, 2, 2)] (by kernel_rfl) (fun jj => match jj with | 3 => 0 | 4 => 0 | _ => jj) (by kernel_rfl) (fun jj rv vv => match jj with | 0 => vv = .pointer (some ⟨(blkOf vv), 0, none⟩) | 1 => vv = pp b1 0 | 2 => vv = vI m.k | 3 => vv = .pointer (some ⟨(blkOf rv), 0, none⟩) | 4 => vv = .pointer (some ⟨(blkOf rv), 0, none⟩) | _ => True) (fun ss vals1 xw => match ss with | 0 => Gx I D w I2 w3 xw [BxC b1 34 (cEMsg m v1_m v2_m v3_m v4_m v5_m), SlC NEMember v1_m m.conf.members, SlC NEOp v2_m m.batch.ops, SlC NEEntry v3_m m.entries, SlC Nu64 v4_m m.stamps, SlC NEPair v5_m m.pairs] | 1 => Gx I D w I2 w3 xw [OEwire_Writer (blkOf (vals1 0)) n0, BxC b1 34 (cEMsg m v1_m v2_m v3_m v4_m v5_m), SlC NEMember v1_m m.conf.members, SlC NEOp v2_m m.batch.ops, SlC NEEntry v3_m m.entries, SlC Nu64 v4_m m.stamps, SlC NEPair v5_m m.pairs] | _ => Gx I D w I2 w3 xw [OEwire_Writer (blkOf (vals1 0)) n0_2, BxC b1 34 (cEMsg m v1_m v2_m v3_m v4_m v5_m), SlC NEMember v1_m m.conf.members, SlC NEOp v2_m m.batch.ops, SlC NEEntry v3_m m.entries, SlC Nu64 v4_m m.stamps, SlC NEPair v5_m m.pairs]) (fun _ => Gx.start H) ?_ ?_
  ·intro fr hfr hfe
   refine .cons (fun ss hlo hhi vals1 xw hG hV => ?_) ?_
   ·obtain rfl : ss = 0 := Nat.le_antisymm hhi hlo
    rw [← hfe]
    have hS := (hfr vals1).sub (ts := []) rfl
    obtain ⟨I2, hI2, H⟩ := Gx.ex hG
    refine L_hcall H (js := []) rfl (caps := #[]) hS fn_13_YMs1 rfl rfl rfl rfl rfl (fun D1 hS => have hq := c_wire_New hx3 hS; hq) fun _ yw D1 hr hF2 => ?_
    obtain ⟨g0_, rfl, I3, K⟩ := hr
    obtain ⟨hK, H2⟩ := hF2 K
    exact ⟨rfl, Gx.go hG hI2 hK K.imm H2⟩
   refine .cons (fun ss hlo hhi vals1 xw hG hV => ?_) ?_
   ·obtain rfl | rfl : ss = 0 ∨ ss = 1 := st1 hlo hhi
    all_goals
    ·rw [← hfe]
     have hS := (hfr vals1).sub (ts := [1]) rfl
     exact L_val hS rfl (Ob_c tMs1 rfl) ⟨rfl, hG⟩
   refine .cons (fun ss hlo hhi vals1 xw hG hV => ?_) ?_
   ·obtain rfl | rfl : ss = 0 ∨ ss = 1 := st1 hlo hhi
    ·rw [← hfe]
     have hS := (hfr vals1).sub (ts := [22]) rfl
     replace hS := hS.conv (t := 22) rfl (show (vals1 1) = pp b1 0 from hV 1 (by decide))
     obtain ⟨I2, hI2, H⟩ := Gx.ex hG
     exact L_val hS rfl (oL tMs1 rfl rfl (H.bc 0 0 rfl rfl)) ⟨rfl, hG⟩
    ·rw [← hfe]
     have hS := (hfr vals1).sub (ts := [22]) rfl
     replace hS := hS.conv (t := 22) rfl (show (vals1 1) = pp b1 0 from hV 1 (by decide))
     obtain ⟨I2, hI2, H⟩ := Gx.ex hG
     exact L_val hS rfl (oL tMs1 rfl rfl (H.bc 1 0 rfl rfl)) ⟨rfl, hG⟩
   refine .cons (fun ss hlo hhi vals1 xw hG hV => ?_) ?_
   ·obtain rfl : ss = 1 := Nat.le_antisymm hhi hlo
    rw [← hfe]
    have hS := (hfr vals1).sub (ts := [21, 23]) rfl
    replace hS := hS.conv (t := 21) rfl (show (vals1 0) = .pointer (some ⟨(blkOf (vals1 0)), 0, none⟩) from hV 0 (by decide))
    replace hS := hS.conv (t := 23) rfl (show (vals1 2) = vI m.k from hV 2 (by decide))
    obtain ⟨I2, hI2, H⟩ := Gx.ex hG
    refine L_hcall H (js := [(0, false)]) rfl (caps := #[]) hS fn_14_YMs1 rfl rfl rfl rfl rfl (fun D1 hS => have hq := c_wire_Writer_Num hx4 hS; hq) fun _ yw D1 hr hF2 => ?_
    obtain ⟨rfl, I3, K⟩ := hr
    obtain ⟨hK, H2⟩ := hF2 K
    exact ⟨rfl, Gx.go hG hI2 hK K.imm H2⟩
   refine .cons (fun ss hlo hhi vals1 xw hG hV => ?_) ?_
   ·obtain rfl : ss = 2 := Nat.le_antisymm hhi hlo
    rw [← hfe]
    have hS := (hfr vals1).sub (ts := [24]) rfl
    replace hS := hS.conv (t := 24) rfl (show (vals1 3) = .pointer (some ⟨(blkOf (vals1 0)), 0, none⟩) from hV 3 (by decide))
    exact L_val hS rfl (Ob_c tMs1 rfl) ⟨rfl, hG⟩
   exact .nil
  ·intro vals1 a w4 Z hG hV
   replace Z := Z.sub (ts := [1, 5, 7]) (S' := [(1, pp b1 0), (5, vS p.1), (7, vals1 4)]) rfl
   replace Z := Z.conv (t := 7) rfl (show (vals1 4) = .pointer (some ⟨(blkOf (vals1 0)), 0, none⟩) from hV 4 (by decide))
   obtain ⟨I3, _, H⟩ := Gx.ex hG
   clear hG hV
   replace Z := Z.sub (ts := [1, 5, 7]) rfl
   replace H := H.nf rfl; try dsimp only at H
   refine p_then (wp_seq ?_)
   refine wp_seq (f_region Z ?_); clear Z; intro Z
   refine s_runk tMs1 Z 1 rfl rfl fun a Z => ?_
   refine h_srange Z H rfl rfl Try.underlying9 rfl rfl (by decide) rfl fun a w5 b2 H Z => ?_
   refine s_end Z [1, 7, 26] rfl fun Z => ?_
   refine p_then (wp_block ?_)
   refine f_iter hF (fun sg a' w' => match sg with | (w0, yb2) => Sl 38 [(1, pp b1 0), (7, .pointer (some ⟨(blkOf (vals1 0)), 0, none⟩)), (26, pp b2 0)] a' ∧ ∃ I2, Hf I D w I2 w' [BxC b1 34 (cEMsg m v1_m v2_m v3_m v4_m v5_m), OEwire_Writer (blkOf (vals1 0)) w0, ObC b2 (.stringIter p.1 yb2), SlC NEMember v1_m m.conf.members, SlC NEOp v2_m m.batch.ops, SlC NEEntry v3_m m.entries, SlC Nu64 v4_m m.stamps, SlC NEPair v5_m m.pairs]) ⟨Z.sub (ts := [1, 7, 26]) rfl, ⟨I3, (H.sub [(2, false), (1, false), (0, false), (0, true), (1, true), (2, true), (3, true), (4, true)] rfl).eq rfl⟩⟩ ?_
   rintro rc ⟨w0, yb2⟩ a w6 ⟨Z, I4, H⟩ hF
   unfold F_mess_Put_l1 at hF
   try dsimp only at hF
   refine wp_seq (f_region Z ?_); clear Z; intro Z
   refine h_snext Z H 2 rfl rfl rfl rfl rfl (by decide) rfl fun a w7 H Z => ?_
   dsimp only [List.eraseIdx] at H
   refine sO Z (vT (decide (yb2 < p.1.size))) rfl (Ob_nx0 rfl rfl) fun a Z => ?_
   refine s_end Z [1, 7, 26, 27, 28] rfl fun Z => ?_
   refine p_then (wp_seq ?_)
   refine f_cond Z rfl (fun hc2 => ?_) (fun hc2 => ?_)
   ·replace hF := ite_t hc2 hF
    refine wp_skip ?_
    refine p_then (wp_block ?_)
    refine wp_seq ?_
    obtain ⟨hg1, hF⟩ := chk_in hF
    refine f_region Z fun Z => ?_
    refine sO Z (.int .i32 (runeAt p.1 yb2)) rfl (Ob_nx2 rfl rfl hg1) fun a Z => ?_
    refine s_runk tMs1 Z 1 rfl rfl fun a Z => ?_
    refine s_end Z [1, 7, 26, 9] rfl fun Z => ?_
    refine p_then ?_
    obtain ⟨w0_2, hx5, hF⟩ := bnd_in hF
    refine f_region Z fun Z => ?_
    refine s_runk tMs1 Z 1 rfl rfl fun a Z => ?_
    refine sO Z (.agg (cEMsg m v1_m v2_m v3_m v4_m v5_m).toArray) rfl (oA tMs1 rfl rfl ((H.bx 1 rfl).part 0 rfl)) fun a Z => ?_
    refine s_runk tMs1 Z 1 rfl rfl fun a Z => ?_
    refine hC Z H [(2, false), (2, true), (3, true), (4, true), (5, true), (6, true)] rfl #[] fn_15_YMs1 rfl rfl (fun D h => have q := c_mess_write hx5 h; q) fun vv a w8 D2 hr hF2 Z => ?_
    obtain ⟨rfl, I5, K⟩ := hr
    have H := (hF2 K).nf rfl
    refine s_end Z [1, 7, 26] rfl fun Z => ?_
    refine p_blk ?_
    refine p_then ?_
    exact ⟨(w0_2, nxP p.1 yb2), ⟨Z.sub (ts := [1, 7, 26]) rfl, ⟨I5, (H.sub [(2, false), (0, false), (0, false), (0, true), (1, true), (2, true), (3, true), (4, true)] rfl).eq rfl⟩⟩, hF⟩
   ·replace hF := ite_f hc2 hF
    refine wp_exit ?_
    refine p_then_x ?_
    refine p_then_x ?_
    refine f_exit_here ?_
    refine p_then (wp_seq ?_)
    obtain ⟨d, hx6, hF⟩ := bnd_in hF
    refine f_region Z fun Z => ?_
    refine s_runk tMs1 Z 1 rfl rfl fun a Z => ?_
    refine hC Z H [(2, false)] rfl #[] fn_16_YMs1 rfl rfl (fun D h => have q := c_wire_Writer_Done hx6 h; q) fun vv a w9 D2 hr hF2 Z => ?_
    obtain ⟨rfl, I6, K⟩ := hr
    have H := (hF2 K).nf rfl
    refine s_runk tMs1 Z 4 rfl rfl fun a Z => ?_
    refine s_end Z [2, 3] rfl fun Z => ?_
    refine p_then (wp_ret ?_)
    obtain rfl := some_in hF
    exact f_ret Z (run_results2 rfl Z rfl rfl) ⟨rfl, I6, (H.sub [] rfl).eq rfl⟩

end Go.Proofs.Ythmjkcdpbbcdgaa
