/- A hub: segments and their bytes. -/
import Derived.Test.YtghkhndlpfmpfaaYLinkB
import Derived.Test.YtghkhndlpfmpfaaYWire
namespace Go.Proofs.Ytghkhndlpfmpfaa
open Go.RowKit
def tHb0L : TabL := ⟨[(59392, 0), (59393, 1), (59394, 2), (59395, 3), (59396, 4), (59397, 5), (59398, 6), (59399, 7)], [9], [], [], [(3, (1, false)), (4, (1, false)), (9, (1, false)), (58, (8, true)), (81, (1, false))]⟩

def tHb0 : Tab Try.prog := ⟨tHb0L, by kernel_rfl⟩

theorem fn_27_YHb0 : IsFn Try.prog 27 := ⟨_, Try.func27, by kernel_rfl, by kernel_rfl⟩

theorem fn_28_YHb0 : IsFn Try.prog 28 := ⟨_, Try.func28, by kernel_rfl, by kernel_rfl⟩

theorem fn_29_YHb0 : IsFn Try.prog 29 := ⟨_, Try.func29, by kernel_rfl, by kernel_rfl⟩

theorem fn_30_YHb0 : IsFn Try.prog 30 := ⟨_, Try.func30, by kernel_rfl, by kernel_rfl⟩

theorem fn_31_YHb0 : IsFn Try.prog 31 := ⟨_, Try.func31, by kernel_rfl, by kernel_rfl⟩

theorem fn_32_YHb0 : IsFn Try.prog 32 := ⟨_, Try.func32, by kernel_rfl, by kernel_rfl⟩

theorem fn_33_YHb0 : IsFn Try.prog 33 := ⟨_, Try.func33, by kernel_rfl, by kernel_rfl⟩

theorem fn_34_YHb0 : IsFn Try.prog 34 := ⟨_, Try.func34, by kernel_rfl, by kernel_rfl⟩

theorem fn_35_YHb0 : IsFn Try.prog 35 := ⟨_, Try.func35, by kernel_rfl, by kernel_rfl⟩

theorem fn_36_YHb0 : IsFn Try.prog 36 := ⟨_, Try.func36, by kernel_rfl, by kernel_rfl⟩

theorem fn_37_YHb0 : IsFn Try.prog 37 := ⟨_, Try.func37, by kernel_rfl, by kernel_rfl⟩

def F_link_Put (s0 : ESeg) : Option (ByteArray × Int) := (F_wire_New).bind fun n0 => ((F_wire_Writer_Num n0 s0.boot).bind fun n0_2 => ((F_wire_Writer_Num n0_2 s0.stream).bind fun n0_3 => ((F_wire_Writer_Num n0_3 s0.seq).bind fun n0_4 => ((F_wire_Writer_Num n0_4 s0.ackBoot).bind fun n0_5 => ((F_wire_Writer_Num n0_5 s0.ackStream).bind fun n0_6 => ((F_wire_Writer_Num n0_6 s0.ackSeq).bind fun n0_7 => ((F_wire_Writer_Flag n0_7 s0.has).bind fun f => ((F_wire_Writer_Text f s0.body).bind fun t => ((F_wire_Writer_Done t).bind fun d => (if (d.2 != 0) = true then (some (⟨#[]⟩, d.2)) else (if (decide ((s0.body.size : Int) > 65536)) = true then (some (⟨#[]⟩, 3)) else (some (d.1, 0)))))))))))))

set_option maxHeartbeats 1000000 in
theorem c_link_Put {I D : Dm} {s0 : ESeg} {w : World} {rr : ByteArray × Int} (hF : F_link_Put s0 = some rr) (H : St I D w []) :
  Calls Try.prog 18 #[.agg #[.int .i64 s0.boot, .int .i64 s0.stream, .int .i64 s0.seq, .int .i64 s0.ackBoot, .int .i64 s0.ackStream, .int .i64 s0.ackSeq, .bool s0.has, .string s0.body]] w (Ret fun vv w' => vv = .tuple #[.string rr.1, .int .i64 rr.2] ∧ ∃ I', Hf I D w I' w' []) := by
 replace H := H.hf
 unfold F_link_Put at hF
 refine f_enter 47 Try.func18 rfl rfl (Nat.le_of_ble_eq_true rfl) fun a Z => ?_
 replace Z := Z.sub (ts := [0]) rfl
 refine wp_seq (f_region Z ?_); clear Z; intro Z
 refine h_boxv Z H (cl := [.int .i64 s0.boot, .int .i64 s0.stream, .int .i64 s0.seq, .int .i64 s0.ackBoot, .int .i64 s0.ackStream, .int .i64 s0.ackSeq, .bool s0.has, .string s0.body]) rfl rfl rfl (by decide) rfl rfl rfl ?_; clear Z a H; intro a w1 b1 H Z
 refine s_runk tHb0 Z 2 rfl rfl ?_; clear Z a; intro a Z
 refine s_end Z [1] rfl ?_; clear Z; intro Z
 refine p_then (wp_seq ?_)
 obtain ⟨n0, hx1, hF⟩ := bnd_in hF
 obtain ⟨n0_2, hx2, hF⟩ := bnd_in hF
 obtain ⟨n0_3, hx3, hF⟩ := bnd_in hF
 obtain ⟨n0_4, hx4, hF⟩ := bnd_in hF
 obtain ⟨n0_5, hx5, hF⟩ := bnd_in hF
 obtain ⟨n0_6, hx6, hF⟩ := bnd_in hF
 obtain ⟨n0_7, hx7, hF⟩ := bnd_in hF
 refine f_regionM Z (by kernel_rfl) (by kernel_rfl) (by decide) (by decide) [0, 3, 6, 9, 12, 15, 18] [(0, 0, 0), (0, 0, 1), (2, 0, 1), (7, 1, 1), (0, 0, 2), (16, 0, 2), (63, 2, 2), (0, 0, 3), (128, 0, 3), (511, 3, 3), (0, 0, 4), (1024, 0, 4), (4095, 4, 4), (0, 0, 5), (8192, 0, 5), (32767, 5, 5), (0, 0, 6), (65536, 0, 6), (262143, 6, 6), (524287, 7, 7)] (by kernel_rfl) (fun jj => match jj with | 3 => 0 | 6 => 0 | 9 => 0 | 12 => 0 | 15 => 0 | 18 => 0 | 19 => 0 | _ => jj) (by kernel_rfl) (fun jj rv vv => cond (Nat.blt jj 10) (cond (Nat.blt jj 5) (cond (Nat.blt jj 2) (cond (Nat.blt jj 1) (vv = .pointer (some ⟨(blkOf vv), 0, none⟩)) (vv = .pointer (some ⟨b1, 0, none⟩))) (cond (Nat.blt jj 3) (vv = .int .i64 s0.boot) (cond (Nat.blt jj 4) (vv = .pointer (some ⟨(blkOf rv), 0, none⟩)) (vv = .pointer (some ⟨b1, 1, none⟩))))) (cond (Nat.blt jj 7) (cond (Nat.blt jj 6) (vv = .int .i64 s0.stream) (vv = .pointer (some ⟨(blkOf rv), 0, none⟩))) (cond (Nat.blt jj 8) (vv = .pointer (some ⟨b1, 2, none⟩)) (cond (Nat.blt jj 9) (vv = .int .i64 s0.seq) (vv = .pointer (some ⟨(blkOf rv), 0, none⟩)))))) (cond (Nat.blt jj 15) (cond (Nat.blt jj 12) (cond (Nat.blt jj 11) (vv = .pointer (some ⟨b1, 3, none⟩)) (vv = .int .i64 s0.ackBoot)) (cond (Nat.blt jj 13) (vv = .pointer (some ⟨(blkOf rv), 0, none⟩)) (cond (Nat.blt jj 14) (vv = .pointer (some ⟨b1, 4, none⟩)) (vv = .int .i64 s0.ackStream)))) (cond (Nat.blt jj 17) (cond (Nat.blt jj 16) (vv = .pointer (some ⟨(blkOf rv), 0, none⟩)) (vv = .pointer (some ⟨b1, 5, none⟩))) (cond (Nat.blt jj 18) (vv = .int .i64 s0.ackSeq) (cond (Nat.blt jj 19) (vv = .pointer (some ⟨(blkOf rv), 0, none⟩)) (vv = .pointer (some ⟨(blkOf rv), 0, none⟩))))))) (fun ss vals1 xw => match ss with | 0 => Gx I D w I w1 xw [BxC b1 58 (cESeg s0)] | 1 => Gx I D w I w1 xw [OEwire_Writer (blkOf (vals1 0)) n0, BxC b1 58 (cESeg s0)] | 2 => Gx I D w I w1 xw [OEwire_Writer (blkOf (vals1 0)) n0_2, BxC b1 58 (cESeg s0)] | 3 => Gx I D w I w1 xw [OEwire_Writer (blkOf (vals1 0)) n0_3, BxC b1 58 (cESeg s0)] | 4 => Gx I D w I w1 xw [OEwire_Writer (blkOf (vals1 0)) n0_4, BxC b1 58 (cESeg s0)] | 5 => Gx I D w I w1 xw [OEwire_Writer (blkOf (vals1 0)) n0_5, BxC b1 58 (cESeg s0)] | 6 => Gx I D w I w1 xw [OEwire_Writer (blkOf (vals1 0)) n0_6, BxC b1 58 (cESeg s0)] | _ => Gx I D w I w1 xw [OEwire_Writer (blkOf (vals1 0)) n0_7, BxC b1 58 (cESeg s0)]) (fun _ => Gx.start H) ?_ ?_
 ·intro fr hfr hfe
  refine .cons (fun ss hlo hhi vals1 xw hG hV => ?_) ?_
  ·obtain rfl : ss = 0 := Nat.le_antisymm hhi hlo
   rw [← hfe]
   have hS := (hfr vals1).sub (ts := []) (S' := []) rfl
   obtain ⟨I2, hI2, H⟩ := Gx.ex hG
   refine L_hcall H (js := []) rfl (caps := #[]) hS fn_27_YHb0 rfl rfl rfl rfl rfl (fun D1 hS => have hq := c_wire_New hx1 hS; hq) fun _ yw D1 hr hF2 => ?_
   obtain ⟨g0_, rfl, I3, K⟩ := hr
   obtain ⟨hK, H2⟩ := hF2 K
   exact ⟨rfl, Gx.go hG hI2 hK K.imm H2⟩
  refine .cons (fun ss hlo hhi vals1 xw hG hV => ?_) ?_
  ·obtain rfl | rfl : ss = 0 ∨ ss = 1 := st1 hlo hhi
   all_goals
   ·rw [← hfe]
    have hS := (hfr vals1).sub (ts := [1]) (S' := [(1, .pointer (some ⟨b1, 0, none⟩))]) rfl
    exact L_val hS rfl (Ob_c tHb0 rfl) ⟨rfl, hG⟩
  refine .cons (fun ss hlo hhi vals1 xw hG hV => ?_) ?_
  ·obtain rfl | rfl : ss = 0 ∨ ss = 1 := st1 hlo hhi
   ·rw [← hfe]
    have hS := (hfr vals1).sub (ts := [8]) (S' := [(8, vals1 1)]) rfl
    replace hS := hS.conv (t := 8) rfl (show (vals1 1) = .pointer (some ⟨b1, 0, none⟩) from hV 1 (by decide))
    obtain ⟨I2, hI2, H⟩ := Gx.ex hG
    exact L_val hS rfl (Ob_load tHb0 rfl rfl rfl ((H.bx 0 rfl).cell 0 rfl)) ⟨rfl, hG⟩
   ·rw [← hfe]
    have hS := (hfr vals1).sub (ts := [8]) (S' := [(8, vals1 1)]) rfl
    replace hS := hS.conv (t := 8) rfl (show (vals1 1) = .pointer (some ⟨b1, 0, none⟩) from hV 1 (by decide))
    obtain ⟨I2, hI2, H⟩ := Gx.ex hG
    exact L_val hS rfl (Ob_load tHb0 rfl rfl rfl ((H.bx 1 rfl).cell 0 rfl)) ⟨rfl, hG⟩
  refine .cons (fun ss hlo hhi vals1 xw hG hV => ?_) ?_
  ·obtain rfl : ss = 1 := Nat.le_antisymm hhi hlo
   rw [← hfe]
   have hS := (hfr vals1).sub (ts := [7, 9]) (S' := [(7, vals1 0), (9, vals1 2)]) rfl
   replace hS := hS.conv (t := 7) rfl (show (vals1 0) = .pointer (some ⟨(blkOf (vals1 0)), 0, none⟩) from hV 0 (by decide))
   replace hS := hS.conv (t := 9) rfl (show (vals1 2) = .int .i64 s0.boot from hV 2 (by decide))
   obtain ⟨I2, hI2, H⟩ := Gx.ex hG
   refine L_hcall H (js := [(0, false)]) rfl (caps := #[]) hS fn_28_YHb0 rfl rfl rfl rfl rfl (fun D1 hS => have hq := c_wire_Writer_Num hx2 hS; hq) fun _ yw D1 hr hF2 => ?_
   obtain ⟨rfl, I3, K⟩ := hr
   obtain ⟨hK, H2⟩ := hF2 K
   exact ⟨rfl, Gx.go hG hI2 hK K.imm H2⟩
  refine .cons (fun ss hlo hhi vals1 xw hG hV => ?_) ?_
  ·obtain rfl | rfl | rfl : ss = 0 ∨ ss = 1 ∨ ss = 2 := st2 hlo hhi
   all_goals
   ·rw [← hfe]
    have hS := (hfr vals1).sub (ts := [1]) (S' := [(1, .pointer (some ⟨b1, 0, none⟩))]) rfl
    exact L_val hS rfl (Ob_c tHb0 rfl) ⟨rfl, hG⟩
  refine .cons (fun ss hlo hhi vals1 xw hG hV => ?_) ?_
  ·obtain rfl | rfl | rfl : ss = 0 ∨ ss = 1 ∨ ss = 2 := st2 hlo hhi
   ·rw [← hfe]
    have hS := (hfr vals1).sub (ts := [11]) (S' := [(11, vals1 4)]) rfl
    replace hS := hS.conv (t := 11) rfl (show (vals1 4) = .pointer (some ⟨b1, 1, none⟩) from hV 4 (by decide))
    obtain ⟨I2, hI2, H⟩ := Gx.ex hG
    exact L_val hS rfl (Ob_load tHb0 rfl rfl rfl ((H.bx 0 rfl).cell 1 rfl)) ⟨rfl, hG⟩
   ·rw [← hfe]
    have hS := (hfr vals1).sub (ts := [11]) (S' := [(11, vals1 4)]) rfl
    replace hS := hS.conv (t := 11) rfl (show (vals1 4) = .pointer (some ⟨b1, 1, none⟩) from hV 4 (by decide))
    obtain ⟨I2, hI2, H⟩ := Gx.ex hG
    exact L_val hS rfl (Ob_load tHb0 rfl rfl rfl ((H.bx 1 rfl).cell 1 rfl)) ⟨rfl, hG⟩
   ·rw [← hfe]
    have hS := (hfr vals1).sub (ts := [11]) (S' := [(11, vals1 4)]) rfl
    replace hS := hS.conv (t := 11) rfl (show (vals1 4) = .pointer (some ⟨b1, 1, none⟩) from hV 4 (by decide))
    obtain ⟨I2, hI2, H⟩ := Gx.ex hG
    exact L_val hS rfl (Ob_load tHb0 rfl rfl rfl ((H.bx 1 rfl).cell 1 rfl)) ⟨rfl, hG⟩
  refine .cons (fun ss hlo hhi vals1 xw hG hV => ?_) ?_
  ·obtain rfl : ss = 2 := Nat.le_antisymm hhi hlo
   rw [← hfe]
   have hS := (hfr vals1).sub (ts := [10, 12]) (S' := [(10, vals1 3), (12, vals1 5)]) rfl
   replace hS := hS.conv (t := 10) rfl (show (vals1 3) = .pointer (some ⟨(blkOf (vals1 0)), 0, none⟩) from hV 3 (by decide))
   replace hS := hS.conv (t := 12) rfl (show (vals1 5) = .int .i64 s0.stream from hV 5 (by decide))
   obtain ⟨I2, hI2, H⟩ := Gx.ex hG
   refine L_hcall H (js := [(0, false)]) rfl (caps := #[]) hS fn_28_YHb0 rfl rfl rfl rfl rfl (fun D1 hS => have hq := c_wire_Writer_Num hx3 hS; hq) fun _ yw D1 hr hF2 => ?_
   obtain ⟨rfl, I3, K⟩ := hr
   obtain ⟨hK, H2⟩ := hF2 K
   exact ⟨rfl, Gx.go hG hI2 hK K.imm H2⟩
  refine .cons (fun ss hlo hhi vals1 xw hG hV => ?_) ?_
  ·obtain rfl | rfl | rfl | rfl : ss = 0 ∨ ss = 1 ∨ ss = 2 ∨ ss = 3 := st3 hlo hhi
   all_goals
   ·rw [← hfe]
    have hS := (hfr vals1).sub (ts := [1]) (S' := [(1, .pointer (some ⟨b1, 0, none⟩))]) rfl
    exact L_val hS rfl (Ob_c tHb0 rfl) ⟨rfl, hG⟩
  refine .cons (fun ss hlo hhi vals1 xw hG hV => ?_) ?_
  ·obtain rfl | rfl | rfl | rfl : ss = 0 ∨ ss = 1 ∨ ss = 2 ∨ ss = 3 := st3 hlo hhi
   ·rw [← hfe]
    have hS := (hfr vals1).sub (ts := [14]) (S' := [(14, vals1 7)]) rfl
    replace hS := hS.conv (t := 14) rfl (show (vals1 7) = .pointer (some ⟨b1, 2, none⟩) from hV 7 (by decide))
    obtain ⟨I2, hI2, H⟩ := Gx.ex hG
    exact L_val hS rfl (Ob_load tHb0 rfl rfl rfl ((H.bx 0 rfl).cell 2 rfl)) ⟨rfl, hG⟩
   ·rw [← hfe]
    have hS := (hfr vals1).sub (ts := [14]) (S' := [(14, vals1 7)]) rfl
    replace hS := hS.conv (t := 14) rfl (show (vals1 7) = .pointer (some ⟨b1, 2, none⟩) from hV 7 (by decide))
    obtain ⟨I2, hI2, H⟩ := Gx.ex hG
    exact L_val hS rfl (Ob_load tHb0 rfl rfl rfl ((H.bx 1 rfl).cell 2 rfl)) ⟨rfl, hG⟩
   ·rw [← hfe]
    have hS := (hfr vals1).sub (ts := [14]) (S' := [(14, vals1 7)]) rfl
    replace hS := hS.conv (t := 14) rfl (show (vals1 7) = .pointer (some ⟨b1, 2, none⟩) from hV 7 (by decide))
    obtain ⟨I2, hI2, H⟩ := Gx.ex hG
    exact L_val hS rfl (Ob_load tHb0 rfl rfl rfl ((H.bx 1 rfl).cell 2 rfl)) ⟨rfl, hG⟩
   ·rw [← hfe]
    have hS := (hfr vals1).sub (ts := [14]) (S' := [(14, vals1 7)]) rfl
    replace hS := hS.conv (t := 14) rfl (show (vals1 7) = .pointer (some ⟨b1, 2, none⟩) from hV 7 (by decide))
    obtain ⟨I2, hI2, H⟩ := Gx.ex hG
    exact L_val hS rfl (Ob_load tHb0 rfl rfl rfl ((H.bx 1 rfl).cell 2 rfl)) ⟨rfl, hG⟩
  refine .cons (fun ss hlo hhi vals1 xw hG hV => ?_) ?_
  ·obtain rfl : ss = 3 := Nat.le_antisymm hhi hlo
   rw [← hfe]
   have hS := (hfr vals1).sub (ts := [13, 15]) (S' := [(13, vals1 6), (15, vals1 8)]) rfl
   replace hS := hS.conv (t := 13) rfl (show (vals1 6) = .pointer (some ⟨(blkOf (vals1 0)), 0, none⟩) from hV 6 (by decide))
   replace hS := hS.conv (t := 15) rfl (show (vals1 8) = .int .i64 s0.seq from hV 8 (by decide))
   obtain ⟨I2, hI2, H⟩ := Gx.ex hG
   refine L_hcall H (js := [(0, false)]) rfl (caps := #[]) hS fn_28_YHb0 rfl rfl rfl rfl rfl (fun D1 hS => have hq := c_wire_Writer_Num hx4 hS; hq) fun _ yw D1 hr hF2 => ?_
   obtain ⟨rfl, I3, K⟩ := hr
   obtain ⟨hK, H2⟩ := hF2 K
   exact ⟨rfl, Gx.go hG hI2 hK K.imm H2⟩
  refine .cons (fun ss hlo hhi vals1 xw hG hV => ?_) ?_
  ·obtain rfl | rfl | rfl | rfl | rfl : ss = 0 ∨ ss = 1 ∨ ss = 2 ∨ ss = 3 ∨ ss = 4 := st4 hlo hhi
   all_goals
   ·rw [← hfe]
    have hS := (hfr vals1).sub (ts := [1]) (S' := [(1, .pointer (some ⟨b1, 0, none⟩))]) rfl
    exact L_val hS rfl (Ob_c tHb0 rfl) ⟨rfl, hG⟩
  refine .cons (fun ss hlo hhi vals1 xw hG hV => ?_) ?_
  ·obtain rfl | rfl | rfl | rfl | rfl : ss = 0 ∨ ss = 1 ∨ ss = 2 ∨ ss = 3 ∨ ss = 4 := st4 hlo hhi
   ·rw [← hfe]
    have hS := (hfr vals1).sub (ts := [17]) (S' := [(17, vals1 10)]) rfl
    replace hS := hS.conv (t := 17) rfl (show (vals1 10) = .pointer (some ⟨b1, 3, none⟩) from hV 10 (by decide))
    obtain ⟨I2, hI2, H⟩ := Gx.ex hG
    exact L_val hS rfl (Ob_load tHb0 rfl rfl rfl ((H.bx 0 rfl).cell 3 rfl)) ⟨rfl, hG⟩
   ·rw [← hfe]
    have hS := (hfr vals1).sub (ts := [17]) (S' := [(17, vals1 10)]) rfl
    replace hS := hS.conv (t := 17) rfl (show (vals1 10) = .pointer (some ⟨b1, 3, none⟩) from hV 10 (by decide))
    obtain ⟨I2, hI2, H⟩ := Gx.ex hG
    exact L_val hS rfl (Ob_load tHb0 rfl rfl rfl ((H.bx 1 rfl).cell 3 rfl)) ⟨rfl, hG⟩
   ·rw [← hfe]
    have hS := (hfr vals1).sub (ts := [17]) (S' := [(17, vals1 10)]) rfl
    replace hS := hS.conv (t := 17) rfl (show (vals1 10) = .pointer (some ⟨b1, 3, none⟩) from hV 10 (by decide))
    obtain ⟨I2, hI2, H⟩ := Gx.ex hG
    exact L_val hS rfl (Ob_load tHb0 rfl rfl rfl ((H.bx 1 rfl).cell 3 rfl)) ⟨rfl, hG⟩
   ·rw [← hfe]
    have hS := (hfr vals1).sub (ts := [17]) (S' := [(17, vals1 10)]) rfl
    replace hS := hS.conv (t := 17) rfl (show (vals1 10) = .pointer (some ⟨b1, 3, none⟩) from hV 10 (by decide))
    obtain ⟨I2, hI2, H⟩ := Gx.ex hG
    exact L_val hS rfl (Ob_load tHb0 rfl rfl rfl ((H.bx 1 rfl).cell 3 rfl)) ⟨rfl, hG⟩
   ·rw [← hfe]
    have hS := (hfr vals1).sub (ts := [17]) (S' := [(17, vals1 10)]) rfl
    replace hS := hS.conv (t := 17) rfl (show (vals1 10) = .pointer (some ⟨b1, 3, none⟩) from hV 10 (by decide))
    obtain ⟨I2, hI2, H⟩ := Gx.ex hG
    exact L_val hS rfl (Ob_load tHb0 rfl rfl rfl ((H.bx 1 rfl).cell 3 rfl)) ⟨rfl, hG⟩
  refine .cons (fun ss hlo hhi vals1 xw hG hV => ?_) ?_
  ·obtain rfl : ss = 4 := Nat.le_antisymm hhi hlo
   rw [← hfe]
   have hS := (hfr vals1).sub (ts := [16, 18]) (S' := [(16, vals1 9), (18, vals1 11)]) rfl
   replace hS := hS.conv (t := 16) rfl (show (vals1 9) = .pointer (some ⟨(blkOf (vals1 0)), 0, none⟩) from hV 9 (by decide))
   replace hS := hS.conv (t := 18) rfl (show (vals1 11) = .int .i64 s0.ackBoot from hV 11 (by decide))
   obtain ⟨I2, hI2, H⟩ := Gx.ex hG
   refine L_hcall H (js := [(0, false)]) rfl (caps := #[]) hS fn_28_YHb0 rfl rfl rfl rfl rfl (fun D1 hS => have hq := c_wire_Writer_Num hx5 hS; hq) fun _ yw D1 hr hF2 => ?_
   obtain ⟨rfl, I3, K⟩ := hr
   obtain ⟨hK, H2⟩ := hF2 K
   exact ⟨rfl, Gx.go hG hI2 hK K.imm H2⟩
  refine .cons (fun ss hlo hhi vals1 xw hG hV => ?_) ?_
  ·obtain rfl | rfl | rfl | rfl | rfl | rfl : ss = 0 ∨ ss = 1 ∨ ss = 2 ∨ ss = 3 ∨ ss = 4 ∨ ss = 5 := st5 hlo hhi
   all_goals
   ·rw [← hfe]
    have hS := (hfr vals1).sub (ts := [1]) (S' := [(1, .pointer (some ⟨b1, 0, none⟩))]) rfl
    exact L_val hS rfl (Ob_c tHb0 rfl) ⟨rfl, hG⟩
  refine .cons (fun ss hlo hhi vals1 xw hG hV => ?_) ?_
  ·obtain rfl | rfl | rfl | rfl | rfl | rfl : ss = 0 ∨ ss = 1 ∨ ss = 2 ∨ ss = 3 ∨ ss = 4 ∨ ss = 5 := st5 hlo hhi
   ·rw [← hfe]
    have hS := (hfr vals1).sub (ts := [20]) (S' := [(20, vals1 13)]) rfl
    replace hS := hS.conv (t := 20) rfl (show (vals1 13) = .pointer (some ⟨b1, 4, none⟩) from hV 13 (by decide))
    obtain ⟨I2, hI2, H⟩ := Gx.ex hG
    exact L_val hS rfl (Ob_load tHb0 rfl rfl rfl ((H.bx 0 rfl).cell 4 rfl)) ⟨rfl, hG⟩
   ·rw [← hfe]
    have hS := (hfr vals1).sub (ts := [20]) (S' := [(20, vals1 13)]) rfl
    replace hS := hS.conv (t := 20) rfl (show (vals1 13) = .pointer (some ⟨b1, 4, none⟩) from hV 13 (by decide))
    obtain ⟨I2, hI2, H⟩ := Gx.ex hG
    exact L_val hS rfl (Ob_load tHb0 rfl rfl rfl ((H.bx 1 rfl).cell 4 rfl)) ⟨rfl, hG⟩
   ·rw [← hfe]
    have hS := (hfr vals1).sub (ts := [20]) (S' := [(20, vals1 13)]) rfl
    replace hS := hS.conv (t := 20) rfl (show (vals1 13) = .pointer (some ⟨b1, 4, none⟩) from hV 13 (by decide))
    obtain ⟨I2, hI2, H⟩ := Gx.ex hG
    exact L_val hS rfl (Ob_load tHb0 rfl rfl rfl ((H.bx 1 rfl).cell 4 rfl)) ⟨rfl, hG⟩
   ·rw [← hfe]
    have hS := (hfr vals1).sub (ts := [20]) (S' := [(20, vals1 13)]) rfl
    replace hS := hS.conv (t := 20) rfl (show (vals1 13) = .pointer (some ⟨b1, 4, none⟩) from hV 13 (by decide))
    obtain ⟨I2, hI2, H⟩ := Gx.ex hG
    exact L_val hS rfl (Ob_load tHb0 rfl rfl rfl ((H.bx 1 rfl).cell 4 rfl)) ⟨rfl, hG⟩
   ·rw [← hfe]
    have hS := (hfr vals1).sub (ts := [20]) (S' := [(20, vals1 13)]) rfl
    replace hS := hS.conv (t := 20) rfl (show (vals1 13) = .pointer (some ⟨b1, 4, none⟩) from hV 13 (by decide))
    obtain ⟨I2, hI2, H⟩ := Gx.ex hG
    exact L_val hS rfl (Ob_load tHb0 rfl rfl rfl ((H.bx 1 rfl).cell 4 rfl)) ⟨rfl, hG⟩
   ·rw [← hfe]
    have hS := (hfr vals1).sub (ts := [20]) (S' := [(20, vals1 13)]) rfl
    replace hS := hS.conv (t := 20) rfl (show (vals1 13) = .pointer (some ⟨b1, 4, none⟩) from hV 13 (by decide))
    obtain ⟨I2, hI2, H⟩ := Gx.ex hG
    exact L_val hS rfl (Ob_load tHb0 rfl rfl rfl ((H.bx 1 rfl).cell 4 rfl)) ⟨rfl, hG⟩
  refine .cons (fun ss hlo hhi vals1 xw hG hV => ?_) ?_
  ·obtain rfl : ss = 5 := Nat.le_antisymm hhi hlo
   rw [← hfe]
   have hS := (hfr vals1).sub (ts := [19, 21]) (S' := [(19, vals1 12), (21, vals1 14)]) rfl
   replace hS := hS.conv (t := 19) rfl (show (vals1 12) = .pointer (some ⟨(blkOf (vals1 0)), 0, none⟩) from hV 12 (by decide))
   replace hS := hS.conv (t := 21) rfl (show (vals1 14) = .int .i64 s0.ackStream from hV 14 (by decide))
   obtain ⟨I2, hI2, H⟩ := Gx.ex hG
   refine L_hcall H (js := [(0, false)]) rfl (caps := #[]) hS fn_28_YHb0 rfl rfl rfl rfl rfl (fun D1 hS => have hq := c_wire_Writer_Num hx6 hS; hq) fun _ yw D1 hr hF2 => ?_
   obtain ⟨rfl, I3, K⟩ := hr
   obtain ⟨hK, H2⟩ := hF2 K
   exact ⟨rfl, Gx.go hG hI2 hK K.imm H2⟩
  refine .cons (fun ss hlo hhi vals1 xw hG hV => ?_) ?_
  ·obtain rfl | rfl | rfl | rfl | rfl | rfl | rfl : ss = 0 ∨ ss = 1 ∨ ss = 2 ∨ ss = 3 ∨ ss = 4 ∨ ss = 5 ∨ ss = 6 := st6 hlo hhi
   all_goals
   ·rw [← hfe]
    have hS := (hfr vals1).sub (ts := [1]) (S' := [(1, .pointer (some ⟨b1, 0, none⟩))]) rfl
    exact L_val hS rfl (Ob_c tHb0 rfl) ⟨rfl, hG⟩
  refine .cons (fun ss hlo hhi vals1 xw hG hV => ?_) ?_
  ·obtain rfl | rfl | rfl | rfl | rfl | rfl | rfl : ss = 0 ∨ ss = 1 ∨ ss = 2 ∨ ss = 3 ∨ ss = 4 ∨ ss = 5 ∨ ss = 6 := st6 hlo hhi
   ·rw [← hfe]
    have hS := (hfr vals1).sub (ts := [23]) (S' := [(23, vals1 16)]) rfl
    replace hS := hS.conv (t := 23) rfl (show (vals1 16) = .pointer (some ⟨b1, 5, none⟩) from hV 16 (by decide))
    obtain ⟨I2, hI2, H⟩ := Gx.ex hG
    exact L_val hS rfl (Ob_load tHb0 rfl rfl rfl ((H.bx 0 rfl).cell 5 rfl)) ⟨rfl, hG⟩
   ·rw [← hfe]
    have hS := (hfr vals1).sub (ts := [23]) (S' := [(23, vals1 16)]) rfl
    replace hS := hS.conv (t := 23) rfl (show (vals1 16) = .pointer (some ⟨b1, 5, none⟩) from hV 16 (by decide))
    obtain ⟨I2, hI2, H⟩ := Gx.ex hG
    exact L_val hS rfl (Ob_load tHb0 rfl rfl rfl ((H.bx 1 rfl).cell 5 rfl)) ⟨rfl, hG⟩
   ·rw [← hfe]
    have hS := (hfr vals1).sub (ts := [23]) (S' := [(23, vals1 16)]) rfl
    replace hS := hS.conv (t := 23) rfl (show (vals1 16) = .pointer (some ⟨b1, 5, none⟩) from hV 16 (by decide))
    obtain ⟨I2, hI2, H⟩ := Gx.ex hG
    exact L_val hS rfl (Ob_load tHb0 rfl rfl rfl ((H.bx 1 rfl).cell 5 rfl)) ⟨rfl, hG⟩
   ·rw [← hfe]
    have hS := (hfr vals1).sub (ts := [23]) (S' := [(23, vals1 16)]) rfl
    replace hS := hS.conv (t := 23) rfl (show (vals1 16) = .pointer (some ⟨b1, 5, none⟩) from hV 16 (by decide))
    obtain ⟨I2, hI2, H⟩ := Gx.ex hG
    exact L_val hS rfl (Ob_load tHb0 rfl rfl rfl ((H.bx 1 rfl).cell 5 rfl)) ⟨rfl, hG⟩
   ·rw [← hfe]
    have hS := (hfr vals1).sub (ts := [23]) (S' := [(23, vals1 16)]) rfl
    replace hS := hS.conv (t := 23) rfl (show (vals1 16) = .pointer (some ⟨b1, 5, none⟩) from hV 16 (by decide))
    obtain ⟨I2, hI2, H⟩ := Gx.ex hG
    exact L_val hS rfl (Ob_load tHb0 rfl rfl rfl ((H.bx 1 rfl).cell 5 rfl)) ⟨rfl, hG⟩
   ·rw [← hfe]
    have hS := (hfr vals1).sub (ts := [23]) (S' := [(23, vals1 16)]) rfl
    replace hS := hS.conv (t := 23) rfl (show (vals1 16) = .pointer (some ⟨b1, 5, none⟩) from hV 16 (by decide))
    obtain ⟨I2, hI2, H⟩ := Gx.ex hG
    exact L_val hS rfl (Ob_load tHb0 rfl rfl rfl ((H.bx 1 rfl).cell 5 rfl)) ⟨rfl, hG⟩
   ·rw [← hfe]
    have hS := (hfr vals1).sub (ts := [23]) (S' := [(23, vals1 16)]) rfl
    replace hS := hS.conv (t := 23) rfl (show (vals1 16) = .pointer (some ⟨b1, 5, none⟩) from hV 16 (by decide))
    obtain ⟨I2, hI2, H⟩ := Gx.ex hG
    exact L_val hS rfl (Ob_load tHb0 rfl rfl rfl ((H.bx 1 rfl).cell 5 rfl)) ⟨rfl, hG⟩
  refine .cons (fun ss hlo hhi vals1 xw hG hV => ?_) ?_
  ·obtain rfl : ss = 6 := Nat.le_antisymm hhi hlo
   rw [← hfe]
   have hS := (hfr vals1).sub (ts := [22, 24]) (S' := [(22, vals1 15), (24, vals1 17)]) rfl
   replace hS := hS.conv (t := 22) rfl (show (vals1 15) = .pointer (some ⟨(blkOf (vals1 0)), 0, none⟩) from hV 15 (by decide))
   replace hS := hS.conv (t := 24) rfl (show (vals1 17) = .int .i64 s0.ackSeq from hV 17 (by decide))
   obtain ⟨I2, hI2, H⟩ := Gx.ex hG
   refine L_hcall H (js := [(0, false)]) rfl (caps := #[]) hS fn_28_YHb0 rfl rfl rfl rfl rfl (fun D1 hS => have hq := c_wire_Writer_Num hx7 hS; hq) fun _ yw D1 hr hF2 => ?_
   obtain ⟨rfl, I3, K⟩ := hr
   obtain ⟨hK, H2⟩ := hF2 K
   exact ⟨rfl, Gx.go hG hI2 hK K.imm H2⟩
  refine .cons (fun ss hlo hhi vals1 xw hG hV => ?_) ?_
  ·obtain rfl : ss = 7 := Nat.le_antisymm hhi hlo
   rw [← hfe]
   have hS := (hfr vals1).sub (ts := [25]) (S' := [(25, vals1 18)]) rfl
   replace hS := hS.conv (t := 25) rfl (show (vals1 18) = .pointer (some ⟨(blkOf (vals1 0)), 0, none⟩) from hV 18 (by decide))
   exact L_val hS rfl (Ob_c tHb0 rfl) ⟨rfl, hG⟩
  exact .nil
 ·intro vals1 a w2 Z hG hV
  replace Z := Z.sub (ts := [1, 4]) (S' := [(1, .pointer (some ⟨b1, 0, none⟩)), (4, vals1 19)]) rfl
  replace Z := Z.conv (t := 4) rfl (show (vals1 19) = .pointer (some ⟨(blkOf (vals1 0)), 0, none⟩) from hV 19 (by decide))
  obtain ⟨I1, _, H⟩ := Gx.ex hG
  clear hG hV
  replace Z := Z.sub (ts := [1, 4]) rfl
  replace H : Hf I D w I1 w2 [OEwire_Writer (blkOf (vals1 0)) n0_7, BxC b1 58 (cESeg s0)] := H
  refine p_then (wp_seq ?_)
  obtain ⟨f, hx8, hF⟩ := bnd_in hF
  obtain ⟨t, hx9, hF⟩ := bnd_in hF
  obtain ⟨d, hx10, hF⟩ := bnd_in hF
  refine f_regionL Z (by kernel_rfl) (by kernel_rfl) (by decide) (by decide) [3, 6, 7] [(0, 0, 0), (0, 0, 0), (2, 0, 0), (7, 0, 0), (0, 0, 1), (16, 0, 1), (63, 1, 1), (127, 2, 2), (255, 3, 3), (511, 3, 3), (511, 3, 3), (1023, 3, 3), (4095, 3, 3)] (by kernel_rfl) (fun jj vv => cond (Nat.blt jj 6) (cond (Nat.blt jj 3) (cond (Nat.blt jj 1) (vv = .pointer (some ⟨(blkOf (vals1 0)), 0, none⟩)) (cond (Nat.blt jj 2) (vv = .pointer (some ⟨b1, 6, none⟩)) (vv = .bool s0.has))) (cond (Nat.blt jj 4) (vv = .pointer (some ⟨(blkOf (vals1 0)), 0, none⟩)) (cond (Nat.blt jj 5) (vv = .pointer (some ⟨b1, 7, none⟩)) (vv = .string s0.body)))) (cond (Nat.blt jj 9) (cond (Nat.blt jj 7) (vv = .pointer (some ⟨(blkOf (vals1 0)), 0, none⟩)) (cond (Nat.blt jj 8) (vv = .tuple #[.string d.1, .int .i64 d.2]) (vv = .tuple #[.string d.1, .int .i64 d.2]))) (cond (Nat.blt jj 11) (cond (Nat.blt jj 10) (vv = .string d.1) (vv = .int .i64 d.2)) (cond (Nat.blt jj 12) (vv = .string d.1) (vv = .int .i64 d.2))))) (fun ss vals2 xw => match ss with | 0 => Gx I D w I1 w2 xw [OEwire_Writer (blkOf (vals1 0)) n0_7, BxC b1 58 (cESeg s0)] | 1 => Gx I D w I1 w2 xw [OEwire_Writer (blkOf (vals1 0)) f, BxC b1 58 (cESeg s0)] | 2 => Gx I D w I1 w2 xw [OEwire_Writer (blkOf (vals1 0)) t, BxC b1 58 (cESeg s0)] | _ => Gx I D w I1 w2 xw [BxC b1 58 (cESeg s0)]) (fun _ => Gx.start H) ?_ ?_
  ·intro fr hfr hfe
   refine .cons (fun ss hlo hhi vals2 xw hG hV => ?_) ?_
   ·obtain rfl : ss = 0 := Nat.le_antisymm hhi hlo
    rw [← hfe]
    have hS := (hfr vals2).sub (ts := [4]) (S' := [(4, .pointer (some ⟨(blkOf (vals1 0)), 0, none⟩))]) rfl
    exact L_val hS rfl (Ob_c tHb0 rfl) ⟨rfl, hG⟩
   refine .cons (fun ss hlo hhi vals2 xw hG hV => ?_) ?_
   ·obtain rfl : ss = 0 := Nat.le_antisymm hhi hlo
    rw [← hfe]
    have hS := (hfr vals2).sub (ts := [1]) (S' := [(1, .pointer (some ⟨b1, 0, none⟩))]) rfl
    exact L_val hS rfl (Ob_c tHb0 rfl) ⟨rfl, hG⟩
   refine .cons (fun ss hlo hhi vals2 xw hG hV => ?_) ?_
   ·obtain rfl : ss = 0 := Nat.le_antisymm hhi hlo
    rw [← hfe]
    have hS := (hfr vals2).sub (ts := [28]) (S' := [(28, vals2 1)]) rfl
    replace hS := hS.conv (t := 28) rfl (show (vals2 1) = .pointer (some ⟨b1, 6, none⟩) from hV 1 (by decide))
    obtain ⟨I2, hI2, H⟩ := Gx.ex hG
    exact L_val hS rfl (Ob_load tHb0 rfl rfl rfl ((H.bx 1 rfl).cell 6 rfl)) ⟨rfl, hG⟩
   refine .cons (fun ss hlo hhi vals2 xw hG hV => ?_) ?_
   ·obtain rfl : ss = 0 := Nat.le_antisymm hhi hlo
    rw [← hfe]
    have hS := (hfr vals2).sub (ts := [27, 29]) (S' := [(27, vals2 0), (29, vals2 2)]) rfl
    replace hS := hS.conv (t := 27) rfl (show (vals2 0) = .pointer (some ⟨(blkOf (vals1 0)), 0, none⟩) from hV 0 (by decide))
    replace hS := hS.conv (t := 29) rfl (show (vals2 2) = .bool s0.has from hV 2 (by decide))
    obtain ⟨I2, hI2, H⟩ := Gx.ex hG
    refine L_hcall H (js := [(0, false)]) rfl (caps := #[]) hS fn_29_YHb0 rfl rfl rfl rfl rfl (fun D1 hS => have hq := c_wire_Writer_Flag hx8 hS; hq) fun _ yw D1 hr hF2 => ?_
    obtain ⟨rfl, I3, K⟩ := hr
    obtain ⟨hK, H2⟩ := hF2 K
    exact ⟨rfl, Gx.go hG hI2 hK K.imm H2⟩
   refine .cons (fun ss hlo hhi vals2 xw hG hV => ?_) ?_
   ·obtain rfl | rfl : ss = 0 ∨ ss = 1 := st1 hlo hhi
    all_goals
    ·rw [← hfe]
     have hS := (hfr vals2).sub (ts := [1]) (S' := [(1, .pointer (some ⟨b1, 0, none⟩))]) rfl
     exact L_val hS rfl (Ob_c tHb0 rfl) ⟨rfl, hG⟩
   refine .cons (fun ss hlo hhi vals2 xw hG hV => ?_) ?_
   ·obtain rfl | rfl : ss = 0 ∨ ss = 1 := st1 hlo hhi
    all_goals
    ·rw [← hfe]
     have hS := (hfr vals2).sub (ts := [31]) (S' := [(31, vals2 4)]) rfl
     replace hS := hS.conv (t := 31) rfl (show (vals2 4) = .pointer (some ⟨b1, 7, none⟩) from hV 4 (by decide))
     obtain ⟨I2, hI2, H⟩ := Gx.ex hG
     exact L_val hS rfl (Ob_load tHb0 rfl rfl rfl ((H.bx 1 rfl).cell 7 rfl)) ⟨rfl, hG⟩
   refine .cons (fun ss hlo hhi vals2 xw hG hV => ?_) ?_
   ·obtain rfl : ss = 1 := Nat.le_antisymm hhi hlo
    rw [← hfe]
    have hS := (hfr vals2).sub (ts := [30, 32]) (S' := [(30, vals2 3), (32, vals2 5)]) rfl
    replace hS := hS.conv (t := 30) rfl (show (vals2 3) = .pointer (some ⟨(blkOf (vals1 0)), 0, none⟩) from hV 3 (by decide))
    replace hS := hS.conv (t := 32) rfl (show (vals2 5) = .string s0.body from hV 5 (by decide))
    obtain ⟨I2, hI2, H⟩ := Gx.ex hG
    refine L_hcall H (js := [(0, false)]) rfl (caps := #[]) hS fn_30_YHb0 rfl rfl rfl rfl rfl (fun D1 hS => have hq := c_wire_Writer_Text hx9 hS; hq) fun _ yw D1 hr hF2 => ?_
    obtain ⟨rfl, I3, K⟩ := hr
    obtain ⟨hK, H2⟩ := hF2 K
    exact ⟨rfl, Gx.go hG hI2 hK K.imm H2⟩
   refine .cons (fun ss hlo hhi vals2 xw hG hV => ?_) ?_
   ·obtain rfl : ss = 2 := Nat.le_antisymm hhi hlo
    rw [← hfe]
    have hS := (hfr vals2).sub (ts := [33]) (S' := [(33, vals2 6)]) rfl
    replace hS := hS.conv (t := 33) rfl (show (vals2 6) = .pointer (some ⟨(blkOf (vals1 0)), 0, none⟩) from hV 6 (by decide))
    obtain ⟨I2, hI2, H⟩ := Gx.ex hG
    refine L_hcall H (js := [(0, false)]) rfl (caps := #[]) hS fn_31_YHb0 rfl rfl rfl rfl rfl (fun D1 hS => have hq := c_wire_Writer_Done hx10 hS; hq) fun _ yw D1 hr hF2 => ?_
    obtain ⟨rfl, I3, K⟩ := hr
    obtain ⟨hK, H2⟩ := hF2 K
    exact ⟨rfl, Gx.go hG hI2 hK K.imm H2⟩
   refine .cons (fun ss hlo hhi vals2 xw hG hV => ?_) ?_
   ·obtain rfl : ss = 3 := Nat.le_antisymm hhi hlo
    rw [← hfe]
    have hS := (hfr vals2).sub (ts := [34]) (S' := [(34, vals2 7)]) rfl
    replace hS := hS.conv (t := 34) rfl (show (vals2 7) = .tuple #[.string d.1, .int .i64 d.2] from hV 7 (by decide))
    exact L_val hS rfl (Ob_c tHb0 rfl) ⟨rfl, hG⟩
   refine .cons (fun ss hlo hhi vals2 xw hG hV => ?_) ?_
   ·obtain rfl : ss = 3 := Nat.le_antisymm hhi hlo
    rw [← hfe]
    have hS := (hfr vals2).sub (ts := [26]) (S' := [(26, vals2 8)]) rfl
    replace hS := hS.conv (t := 26) rfl (show (vals2 8) = .tuple #[.string d.1, .int .i64 d.2] from hV 8 (by decide))
    exact L_val hS rfl (Ob_c tHb0 rfl) ⟨rfl, hG⟩
   refine .cons (fun ss hlo hhi vals2 xw hG hV => ?_) ?_
   ·obtain rfl : ss = 3 := Nat.le_antisymm hhi hlo
    rw [← hfe]
    have hS := (hfr vals2).sub (ts := [26]) (S' := [(26, vals2 8)]) rfl
    replace hS := hS.conv (t := 26) rfl (show (vals2 8) = .tuple #[.string d.1, .int .i64 d.2] from hV 8 (by decide))
    exact L_val hS rfl (Ob_c tHb0 rfl) ⟨rfl, hG⟩
   refine .cons (fun ss hlo hhi vals2 xw hG hV => ?_) ?_
   ·obtain rfl : ss = 3 := Nat.le_antisymm hhi hlo
    rw [← hfe]
    have hS := (hfr vals2).sub (ts := [35]) (S' := [(35, vals2 9)]) rfl
    replace hS := hS.conv (t := 35) rfl (show (vals2 9) = .string d.1 from hV 9 (by decide))
    exact L_val hS rfl (Ob_c tHb0 rfl) ⟨rfl, hG⟩
   refine .cons (fun ss hlo hhi vals2 xw hG hV => ?_) ?_
   ·obtain rfl : ss = 3 := Nat.le_antisymm hhi hlo
    rw [← hfe]
    have hS := (hfr vals2).sub (ts := [36]) (S' := [(36, vals2 10)]) rfl
    replace hS := hS.conv (t := 36) rfl (show (vals2 10) = .int .i64 d.2 from hV 10 (by decide))
    exact L_val hS rfl (Ob_c tHb0 rfl) ⟨rfl, hG⟩
   exact .nil
  ·intro vals2 a w3 Z hG hV
   replace Z := Z.sub (ts := [1, 5, 6]) (S' := [(1, .pointer (some ⟨b1, 0, none⟩)), (5, vals2 11), (6, vals2 12)]) rfl
   replace Z := Z.conv (t := 5) rfl (show (vals2 11) = .string d.1 from hV 11 (by decide))
   replace Z := Z.conv (t := 6) rfl (show (vals2 12) = .int .i64 d.2 from hV 12 (by decide))
   obtain ⟨I2, _, H⟩ := Gx.ex hG
   clear hG hV
   replace Z := Z.sub (ts := [1, 5, 6]) rfl
   replace H : Hf I D w I2 w3 [BxC b1 58 (cESeg s0)] := H
   refine p_then (wp_seq ?_)
   refine wp_block ?_
   refine wp_seq (f_region Z ?_); clear Z; intro Z
   refine s_runk tHb0 Z 3 rfl rfl ?_; clear Z a; intro a Z
   refine s_end Z [1, 5, 6, 37] rfl ?_; clear Z; intro Z
   refine p_then ?_
   refine f_cond Z rfl (fun hc1 => ?_) (fun hc1 => ?_)
   ·replace hF := ite_t hc1 hF
    refine wp_seq (f_region Z ?_); clear Z; intro Z
    refine s_runk tHb0 Z 3 rfl rfl ?_; clear Z a; intro a Z
    refine s_end Z [2, 3] rfl ?_; clear Z; intro Z
    refine p_then (wp_ret ?_)
    refine p_blk_r ?_
    refine p_then_r ?_
    obtain rfl := some_in hF
    exact f_ret Z (run_results2 rfl Z rfl rfl) ⟨rfl, I2, (H.sub [] rfl).eq rfl⟩
   ·replace hF := ite_f hc1 hF
    refine wp_seq (f_region Z ?_); clear Z; intro Z
    refine s_runk tHb0 Z 1 rfl rfl ?_; clear Z a; intro a Z
    refine s_ob Z (v := .string s0.body) rfl rfl (by decide) rfl (Ob_load tHb0 rfl rfl rfl ((H.bx 0 rfl).cell 7 rfl)) ?_; clear Z a; intro a Z
    refine s_runk tHb0 Z 3 rfl rfl ?_; clear Z a; intro a Z
    refine s_end Z [5, 41] rfl ?_; clear Z; intro Z
    refine p_then ?_
    refine f_cond Z rfl (fun hc2 => ?_) (fun hc2 => ?_)
    ·replace hF := ite_t hc2 hF
     refine wp_seq (f_region Z ?_); clear Z; intro Z
     refine s_runk tHb0 Z 2 rfl rfl ?_; clear Z a; intro a Z
     refine s_end Z [2, 3] rfl ?_; clear Z; intro Z
     refine p_then (wp_ret ?_)
     refine p_blk_r ?_
     refine p_then_r ?_
     obtain rfl := some_in hF
     exact f_ret Z (run_results2 rfl Z rfl rfl) ⟨rfl, I2, (H.sub [] rfl).eq rfl⟩
    ·replace hF := ite_f hc2 hF
     refine wp_skip ?_
     refine p_blk ?_
     refine p_then (wp_seq (f_region Z ?_)); clear Z; intro Z
     refine s_runk tHb0 Z 3 rfl rfl ?_; clear Z a; intro a Z
     refine s_end Z [2, 3] rfl ?_; clear Z; intro Z
     refine p_then (wp_ret ?_)
     obtain rfl := some_in hF
     exact f_ret Z (run_results2 rfl Z rfl rfl) ⟨rfl, I2, (H.sub [] rfl).eq rfl⟩

def F_link_Of_1 (p0 : Ewire_Reader) : Option (Int × Ewire_Reader) := (F_wire_Reader_Num p0 1073741824).bind fun n0 => (some (n0.1, n0.2))

set_option maxHeartbeats 1000000 in
theorem c_link_Of_1 {I D : Dm} {b_p0 : Nat} {p0 : Ewire_Reader} {bb_p0 : Nat} {w : World} {rr : Int × Ewire_Reader} (hF : F_link_Of_1 p0 = some rr) (H : St I D w [BxC b_p0 81 [.pointer (some ⟨bb_p0, 0, none⟩)], BxC bb_p0 97 (cEwire_Reader p0)]) :
  Calls Try.prog 33 #[.pointer (some ⟨b_p0, 0, none⟩)] w (Ret fun vv w' => vv = .int .i64 rr.1 ∧ ∃ I', Hf I D w I' w' [BxC b_p0 81 [.pointer (some ⟨bb_p0, 0, none⟩)], BxC bb_p0 97 [.string rr.2.s, .int .i64 rr.2.at_, .int .i64 rr.2.e, .bool rr.2.made]]) := by
 replace H := H.hf
 unfold F_link_Of_1 at hF
 refine f_enter 4 Try.func33 rfl rfl (Nat.le_of_ble_eq_true rfl) fun a Z => ?_
 replace Z := Z.sub (ts := [0]) rfl
 refine wp_seq (f_region Z ?_); clear Z; intro Z
 refine s_runk tHb0 Z 1 rfl rfl ?_; clear Z a; intro a Z
 refine s_end Z [0] rfl ?_; clear Z; intro Z
 refine p_then (wp_seq ?_)
 obtain ⟨n0, hx1, hF⟩ := bnd_in hF
 refine f_region Z ?_; clear Z; intro Z
 refine s_ob Z (v := .pointer (some ⟨bb_p0, 0, none⟩)) rfl rfl (by decide) rfl (Ob_load tHb0 rfl rfl rfl ((H.bx 0 rfl).cell 0 rfl)) ?_; clear Z a; intro a Z
 refine h_call Z H (js := [(1, false)]) rfl (caps := #[]) fn_34_YHb0 rfl rfl rfl rfl rfl (by decide) rfl rfl (fun D1 hS => have hq := c_wire_Reader_Num hx1 hS; hq) ?_; clear Z a; intro vv a w1 D2 hr hF2 Z
 obtain ⟨rfl, I1, K⟩ := hr
 have H : Hf I D w I1 w1 [BxC bb_p0 97 (cEwire_Reader n0.2), BxC b_p0 81 [.pointer (some ⟨bb_p0, 0, none⟩)]] := hF2 K
 clear hF2 K
 refine s_runk tHb0 Z 1 rfl rfl ?_; clear Z a; intro a Z
 refine s_end Z [1] rfl ?_; clear Z; intro Z
 refine p_then (wp_ret ?_)
 obtain rfl := some_in hF
 exact f_ret Z (run_results1 rfl Z rfl) ⟨rfl, I1, (H.sub [(1, false), (0, false)] rfl).eq rfl⟩

def F_link_Of (s0 : ByteArray) : Option (ESeg × Int) := (F_wire_Open s0).bind fun o => ((F_link_Of_1 o).bind fun x0 => ((F_link_Of_1 x0.2).bind fun x0_2 => ((F_link_Of_1 x0_2.2).bind fun x0_3 => ((F_link_Of_1 x0_3.2).bind fun x0_4 => ((F_link_Of_1 x0_4.2).bind fun x0_5 => ((F_link_Of_1 x0_5.2).bind fun x0_6 => ((F_wire_Reader_Flag x0_6.2).bind fun f => ((F_wire_Reader_Text f.2 65536).bind fun t => ((F_wire_Reader_End t.2).bind fun e => (if (e != 0) = true then (some ((default : ESeg), e)) else (some (({ boot := x0.1, stream := x0_2.1, seq := x0_3.1, ackBoot := x0_4.1, ackStream := x0_5.1, ackSeq := x0_6.1, has := f.1, body := t.1 } : ESeg), 0))))))))))))

set_option maxHeartbeats 1000000 in
theorem c_link_Of {I D : Dm} {s0 : ByteArray} {w : World} {rr : ESeg × Int} (hF : F_link_Of s0 = some rr) (H : St I D w []) :
  Calls Try.prog 20 #[.string s0] w (Ret fun vv w' => vv = .tuple #[.agg #[.int .i64 rr.1.boot, .int .i64 rr.1.stream, .int .i64 rr.1.seq, .int .i64 rr.1.ackBoot, .int .i64 rr.1.ackStream, .int .i64 rr.1.ackSeq, .bool rr.1.has, .string rr.1.body], .int .i64 rr.2] ∧ ∃ I', Hf I D w I' w' []) := by
 replace H := H.hf
 unfold F_link_Of at hF
 refine f_enter 42 Try.func20 rfl rfl (Nat.le_of_ble_eq_true rfl) fun a Z => ?_
 replace Z := Z.sub (ts := [0]) rfl
 refine wp_seq (f_region Z ?_); clear Z; intro Z
 refine h_alloc Z H (cl := [.int .i64 0, .int .i64 0, .int .i64 0, .int .i64 0, .int .i64 0, .int .i64 0, .bool false, .string ByteArray.empty]) (z := .agg #[.int .i64 0, .int .i64 0, .int .i64 0, .int .i64 0, .int .i64 0, .int .i64 0, .bool false, .string ByteArray.empty]) rfl rfl rfl (by decide) rfl (by kernel_rfl) rfl ?_; clear Z a H; intro a w1 b1 H Z
 refine s_runk tHb0 Z 1 rfl rfl ?_; clear Z a; intro a Z
 refine s_end Z [0, 2] rfl ?_; clear Z; intro Z
 refine p_then (wp_seq ?_)
 obtain ⟨o, hx1, hF⟩ := bnd_in hF
 refine f_region Z ?_; clear Z; intro Z
 refine s_runk tHb0 Z 1 rfl rfl ?_; clear Z a; intro a Z
 refine h_call Z H (js := []) rfl (caps := #[]) fn_32_YHb0 rfl rfl rfl rfl rfl (by decide) rfl rfl (fun D1 hS => have hq := c_wire_Open hx1 hS; hq) ?_; clear Z a; intro vv a w2 D2 hr hF2 Z
 obtain ⟨g1, rfl, I1, K⟩ := hr
 have H : Hf I D w I1 w2 [BxC g1 97 [.string o.s, .int .i64 o.at_, .int .i64 o.e, .bool o.made], BxC b1 58 [.int .i64 0, .int .i64 0, .int .i64 0, .int .i64 0, .int .i64 0, .int .i64 0, .bool false, .string ByteArray.empty]] := hF2 K
 clear hF2 K
 refine h_alloc Z H (cl := [.pointer none]) (z := .pointer none) rfl rfl rfl (by decide) rfl (by kernel_rfl) rfl ?_; clear Z a H; intro a w3 b2 H Z
 refine h_store tHb0 Z H 0 rfl rfl rfl rfl rfl rfl rfl rfl rfl (one_cons rfl one_nil) (Nat.le_of_ble_eq_true rfl) rfl ?_; clear H; intro w4 H
 dsimp only [List.eraseIdx] at H
 refine s_end Z [2, 4] rfl ?_; clear Z; intro Z
 refine p_then (wp_seq (f_region Z ?_)); clear Z; intro Z
 refine s_runk tHb0 Z 2 rfl rfl ?_; clear Z a; intro a Z
 refine s_end Z [2, 4, 5] rfl ?_; clear Z; intro Z
 refine p_then (wp_seq ?_)
 obtain ⟨x0, hx2, hF⟩ := bnd_in hF
 refine f_region Z ?_; clear Z; intro Z
 refine s_runk tHb0 Z 1 rfl rfl ?_; clear Z a; intro a Z
 refine h_call Z H (js := [(0, false), (0, false)]) rfl (caps := #[.pointer (some ⟨b2, 0, none⟩)]) fn_33_YHb0 rfl rfl rfl rfl rfl (by decide) rfl rfl (fun D1 hS => have hq := c_link_Of_1 hx2 hS; hq) ?_; clear Z a; intro vv a w5 D2 hr hF2 Z
 obtain ⟨rfl, I2, K⟩ := hr
 have H : Hf I D w I2 w5 [BxC b2 81 [.pointer (some ⟨g1, 0, none⟩)], BxC g1 97 (cEwire_Reader x0.2), BxC b1 58 [.int .i64 0, .int .i64 0, .int .i64 0, .int .i64 0, .int .i64 0, .int .i64 0, .bool false, .string ByteArray.empty]] := hF2 K
 clear hF2 K
 refine s_ob Z (v := .agg #[.int .i64 x0.1, .int .i64 0, .int .i64 0, .int .i64 0, .int .i64 0, .int .i64 0, .bool false, .string ByteArray.empty]) rfl rfl (by decide) rfl (Ob_build (vs := [(0, .int .i64 x0.1)]) rfl rfl (by go_simp <;> rfl)) ?_; clear Z a; intro a Z
 refine h_alloc Z H (cl := [.int .i64 0, .int .i64 0, .int .i64 0, .int .i64 0, .int .i64 0, .int .i64 0, .bool false, .string ByteArray.empty]) (z := .agg #[.int .i64 0, .int .i64 0, .int .i64 0, .int .i64 0, .int .i64 0, .int .i64 0, .bool false, .string ByteArray.empty]) rfl rfl rfl (by decide) rfl (by kernel_rfl) rfl ?_; clear Z a H; intro a w6 b3 H Z
 refine h_store tHb0 Z H 0 rfl rfl rfl rfl rfl rfl rfl rfl rfl (one_cons rfl (one_cons rfl (one_cons rfl (one_cons rfl (one_cons rfl (one_cons rfl (one_cons rfl (one_cons rfl one_nil)))))))) (Nat.le_of_ble_eq_true rfl) rfl ?_; clear H; intro w7 H
 dsimp only [List.eraseIdx] at H
 refine s_end Z [2, 4, 5, 6] rfl ?_; clear Z; intro Z
 refine p_then (wp_seq ?_)
 obtain ⟨x0_2, hx3, hF⟩ := bnd_in hF
 refine f_region Z ?_; clear Z; intro Z
 refine s_runk tHb0 Z 1 rfl rfl ?_; clear Z a; intro a Z
 refine h_call Z H (js := [(1, false), (1, false)]) rfl (caps := #[.pointer (some ⟨b2, 0, none⟩)]) fn_33_YHb0 rfl rfl rfl rfl rfl (by decide) rfl rfl (fun D1 hS => have hq := c_link_Of_1 hx3 hS; hq) ?_; clear Z a; intro vv a w8 D2 hr hF2 Z
 obtain ⟨rfl, I3, K⟩ := hr
 have H : Hf I D w I3 w8 [BxC b2 81 [.pointer (some ⟨g1, 0, none⟩)], BxC g1 97 (cEwire_Reader x0_2.2), BxC b3 58 [.int .i64 x0.1, .int .i64 0, .int .i64 0, .int .i64 0, .int .i64 0, .int .i64 0, .bool false, .string ByteArray.empty], BxC b1 58 [.int .i64 0, .int .i64 0, .int .i64 0, .int .i64 0, .int .i64 0, .int .i64 0, .bool false, .string ByteArray.empty]] := hF2 K
 clear hF2 K
 refine s_runk tHb0 Z 1 rfl rfl ?_; clear Z a; intro a Z
 refine h_store tHb0 Z H 2 rfl rfl rfl rfl rfl rfl rfl rfl rfl (one_cons rfl one_nil) (Nat.le_of_ble_eq_true rfl) rfl ?_; clear H; intro w9 H
 dsimp only [List.eraseIdx] at H
 refine s_end Z [2, 4, 5, 6] rfl ?_; clear Z; intro Z
 refine p_then (wp_seq ?_)
 obtain ⟨x0_3, hx4, hF⟩ := bnd_in hF
 refine f_region Z ?_; clear Z; intro Z
 refine s_runk tHb0 Z 1 rfl rfl ?_; clear Z a; intro a Z
 refine h_call Z H (js := [(1, false), (1, false)]) rfl (caps := #[.pointer (some ⟨b2, 0, none⟩)]) fn_33_YHb0 rfl rfl rfl rfl rfl (by decide) rfl rfl (fun D1 hS => have hq := c_link_Of_1 hx4 hS; hq) ?_; clear Z a; intro vv a w10 D2 hr hF2 Z
 obtain ⟨rfl, I4, K⟩ := hr
 have H : Hf I D w I4 w10 [BxC b2 81 [.pointer (some ⟨g1, 0, none⟩)], BxC g1 97 (cEwire_Reader x0_3.2), BxC b3 58 [.int .i64 x0.1, .int .i64 x0_2.1, .int .i64 0, .int .i64 0, .int .i64 0, .int .i64 0, .bool false, .string ByteArray.empty], BxC b1 58 [.int .i64 0, .int .i64 0, .int .i64 0, .int .i64 0, .int .i64 0, .int .i64 0, .bool false, .string ByteArray.empty]] := hF2 K
 clear hF2 K
 refine s_runk tHb0 Z 1 rfl rfl ?_; clear Z a; intro a Z
 refine h_store tHb0 Z H 2 rfl rfl rfl rfl rfl rfl rfl rfl rfl (one_cons rfl one_nil) (Nat.le_of_ble_eq_true rfl) rfl ?_; clear H; intro w11 H
 dsimp only [List.eraseIdx] at H
 refine s_end Z [2, 4, 5, 6] rfl ?_; clear Z; intro Z
 refine p_then (wp_seq ?_)
 obtain ⟨x0_4, hx5, hF⟩ := bnd_in hF
 refine f_region Z ?_; clear Z; intro Z
 refine s_runk tHb0 Z 1 rfl rfl ?_; clear Z a; intro a Z
 refine h_call Z H (js := [(1, false), (1, false)]) rfl (caps := #[.pointer (some ⟨b2, 0, none⟩)]) fn_33_YHb0 rfl rfl rfl rfl rfl (by decide) rfl rfl (fun D1 hS => have hq := c_link_Of_1 hx5 hS; hq) ?_; clear Z a; intro vv a w12 D2 hr hF2 Z
 obtain ⟨rfl, I5, K⟩ := hr
 have H : Hf I D w I5 w12 [BxC b2 81 [.pointer (some ⟨g1, 0, none⟩)], BxC g1 97 (cEwire_Reader x0_4.2), BxC b3 58 [.int .i64 x0.1, .int .i64 x0_2.1, .int .i64 x0_3.1, .int .i64 0, .int .i64 0, .int .i64 0, .bool false, .string ByteArray.empty], BxC b1 58 [.int .i64 0, .int .i64 0, .int .i64 0, .int .i64 0, .int .i64 0, .int .i64 0, .bool false, .string ByteArray.empty]] := hF2 K
 clear hF2 K
 refine s_runk tHb0 Z 1 rfl rfl ?_; clear Z a; intro a Z
 refine h_store tHb0 Z H 2 rfl rfl rfl rfl rfl rfl rfl rfl rfl (one_cons rfl one_nil) (Nat.le_of_ble_eq_true rfl) rfl ?_; clear H; intro w13 H
 dsimp only [List.eraseIdx] at H
 refine s_end Z [2, 4, 5, 6] rfl ?_; clear Z; intro Z
 refine p_then (wp_seq ?_)
 obtain ⟨x0_5, hx6, hF⟩ := bnd_in hF
 refine f_region Z ?_; clear Z; intro Z
 refine s_runk tHb0 Z 1 rfl rfl ?_; clear Z a; intro a Z
 refine h_call Z H (js := [(1, false), (1, false)]) rfl (caps := #[.pointer (some ⟨b2, 0, none⟩)]) fn_33_YHb0 rfl rfl rfl rfl rfl (by decide) rfl rfl (fun D1 hS => have hq := c_link_Of_1 hx6 hS; hq) ?_; clear Z a; intro vv a w14 D2 hr hF2 Z
 obtain ⟨rfl, I6, K⟩ := hr
 have H : Hf I D w I6 w14 [BxC b2 81 [.pointer (some ⟨g1, 0, none⟩)], BxC g1 97 (cEwire_Reader x0_5.2), BxC b3 58 [.int .i64 x0.1, .int .i64 x0_2.1, .int .i64 x0_3.1, .int .i64 x0_4.1, .int .i64 0, .int .i64 0, .bool false, .string ByteArray.empty], BxC b1 58 [.int .i64 0, .int .i64 0, .int .i64 0, .int .i64 0, .int .i64 0, .int .i64 0, .bool false, .string ByteArray.empty]] := hF2 K
 clear hF2 K
 refine s_runk tHb0 Z 1 rfl rfl ?_; clear Z a; intro a Z
 refine h_store tHb0 Z H 2 rfl rfl rfl rfl rfl rfl rfl rfl rfl (one_cons rfl one_nil) (Nat.le_of_ble_eq_true rfl) rfl ?_; clear H; intro w15 H
 dsimp only [List.eraseIdx] at H
 refine s_end Z [2, 4, 5, 6] rfl ?_; clear Z; intro Z
 refine p_then (wp_seq ?_)
 obtain ⟨x0_6, hx7, hF⟩ := bnd_in hF
 refine f_region Z ?_; clear Z; intro Z
 refine s_runk tHb0 Z 1 rfl rfl ?_; clear Z a; intro a Z
 refine h_call Z H (js := [(1, false), (1, false)]) rfl (caps := #[.pointer (some ⟨b2, 0, none⟩)]) fn_33_YHb0 rfl rfl rfl rfl rfl (by decide) rfl rfl (fun D1 hS => have hq := c_link_Of_1 hx7 hS; hq) ?_; clear Z a; intro vv a w16 D2 hr hF2 Z
 obtain ⟨rfl, I7, K⟩ := hr
 have H : Hf I D w I7 w16 [BxC b2 81 [.pointer (some ⟨g1, 0, none⟩)], BxC g1 97 (cEwire_Reader x0_6.2), BxC b3 58 [.int .i64 x0.1, .int .i64 x0_2.1, .int .i64 x0_3.1, .int .i64 x0_4.1, .int .i64 x0_5.1, .int .i64 0, .bool false, .string ByteArray.empty], BxC b1 58 [.int .i64 0, .int .i64 0, .int .i64 0, .int .i64 0, .int .i64 0, .int .i64 0, .bool false, .string ByteArray.empty]] := hF2 K
 clear hF2 K
 refine s_runk tHb0 Z 1 rfl rfl ?_; clear Z a; intro a Z
 refine h_store tHb0 Z H 2 rfl rfl rfl rfl rfl rfl rfl rfl rfl (one_cons rfl one_nil) (Nat.le_of_ble_eq_true rfl) rfl ?_; clear H; intro w17 H
 dsimp only [List.eraseIdx] at H
 refine s_end Z [2, 4, 6] rfl ?_; clear Z; intro Z
 refine p_then (wp_seq ?_)
 obtain ⟨f, hx8, hF⟩ := bnd_in hF
 refine f_region Z ?_; clear Z; intro Z
 refine s_ob Z (v := .pointer (some ⟨g1, 0, none⟩)) rfl rfl (by decide) rfl (Ob_load tHb0 rfl rfl rfl ((H.bx 1 rfl).cell 0 rfl)) ?_; clear Z a; intro a Z
 refine h_call Z H (js := [(2, false)]) rfl (caps := #[]) fn_35_YHb0 rfl rfl rfl rfl rfl (by decide) rfl rfl (fun D1 hS => have hq := c_wire_Reader_Flag hx8 hS; hq) ?_; clear Z a; intro vv a w18 D2 hr hF2 Z
 obtain ⟨rfl, I8, K⟩ := hr
 have H : Hf I D w I8 w18 [BxC g1 97 (cEwire_Reader f.2), BxC b3 58 [.int .i64 x0.1, .int .i64 x0_2.1, .int .i64 x0_3.1, .int .i64 x0_4.1, .int .i64 x0_5.1, .int .i64 x0_6.1, .bool false, .string ByteArray.empty], BxC b2 81 [.pointer (some ⟨g1, 0, none⟩)], BxC b1 58 [.int .i64 0, .int .i64 0, .int .i64 0, .int .i64 0, .int .i64 0, .int .i64 0, .bool false, .string ByteArray.empty]] := hF2 K
 clear hF2 K
 refine s_runk tHb0 Z 1 rfl rfl ?_; clear Z a; intro a Z
 refine h_store tHb0 Z H 1 rfl rfl rfl rfl rfl rfl rfl rfl rfl (one_cons rfl one_nil) (Nat.le_of_ble_eq_true rfl) rfl ?_; clear H; intro w19 H
 dsimp only [List.eraseIdx] at H
 refine s_end Z [2, 4, 6] rfl ?_; clear Z; intro Z
 refine p_then (wp_seq ?_)
 obtain ⟨t, hx9, hF⟩ := bnd_in hF
 refine f_region Z ?_; clear Z; intro Z
 refine s_ob Z (v := .pointer (some ⟨g1, 0, none⟩)) rfl rfl (by decide) rfl (Ob_load tHb0 rfl rfl rfl ((H.bx 2 rfl).cell 0 rfl)) ?_; clear Z a; intro a Z
 refine h_call Z H (js := [(1, false)]) rfl (caps := #[]) fn_36_YHb0 rfl rfl rfl rfl rfl (by decide) rfl rfl (fun D1 hS => have hq := c_wire_Reader_Text hx9 hS; hq) ?_; clear Z a; intro vv a w20 D2 hr hF2 Z
 obtain ⟨rfl, I9, K⟩ := hr
 have H : Hf I D w I9 w20 [BxC g1 97 (cEwire_Reader t.2), BxC b3 58 [.int .i64 x0.1, .int .i64 x0_2.1, .int .i64 x0_3.1, .int .i64 x0_4.1, .int .i64 x0_5.1, .int .i64 x0_6.1, .bool f.1, .string ByteArray.empty], BxC b2 81 [.pointer (some ⟨g1, 0, none⟩)], BxC b1 58 [.int .i64 0, .int .i64 0, .int .i64 0, .int .i64 0, .int .i64 0, .int .i64 0, .bool false, .string ByteArray.empty]] := hF2 K
 clear hF2 K
 refine s_runk tHb0 Z 1 rfl rfl ?_; clear Z a; intro a Z
 refine h_store tHb0 Z H 1 rfl rfl rfl rfl rfl rfl rfl rfl rfl (one_cons rfl one_nil) (Nat.le_of_ble_eq_true rfl) rfl ?_; clear H; intro w21 H
 dsimp only [List.eraseIdx] at H
 refine s_end Z [2, 4, 6] rfl ?_; clear Z; intro Z
 refine p_then (wp_seq ?_)
 refine wp_seq ?_
 obtain ⟨e, hx10, hF⟩ := bnd_in hF
 refine f_region Z ?_; clear Z; intro Z
 refine s_ob Z (v := .pointer (some ⟨g1, 0, none⟩)) rfl rfl (by decide) rfl (Ob_load tHb0 rfl rfl rfl ((H.bx 2 rfl).cell 0 rfl)) ?_; clear Z a; intro a Z
 refine h_call Z H (js := [(1, false)]) rfl (caps := #[]) fn_37_YHb0 rfl rfl rfl rfl rfl (by decide) rfl rfl (fun D1 hS => have hq := c_wire_Reader_End hx10 hS; hq) ?_; clear Z a; intro vv a w22 D2 hr hF2 Z
 obtain ⟨rfl, I10, K⟩ := hr
 have H : Hf I D w I10 w22 [BxC g1 97 (cEwire_Reader t.2), BxC b3 58 [.int .i64 x0.1, .int .i64 x0_2.1, .int .i64 x0_3.1, .int .i64 x0_4.1, .int .i64 x0_5.1, .int .i64 x0_6.1, .bool f.1, .string t.1], BxC b2 81 [.pointer (some ⟨g1, 0, none⟩)], BxC b1 58 [.int .i64 0, .int .i64 0, .int .i64 0, .int .i64 0, .int .i64 0, .int .i64 0, .bool false, .string ByteArray.empty]] := hF2 K
 clear hF2 K
 refine s_runk tHb0 Z 1 rfl rfl ?_; clear Z a; intro a Z
 refine s_end Z [2, 6, 7] rfl ?_; clear Z; intro Z
 refine p_then (wp_seq (f_region Z ?_)); clear Z; intro Z
 refine s_runk tHb0 Z 2 rfl rfl ?_; clear Z a; intro a Z
 refine s_end Z [2, 6, 7, 38] rfl ?_; clear Z; intro Z
 refine p_then ?_
 refine f_cond Z rfl (fun hc1 => ?_) (fun hc1 => ?_)
 ·replace hF := ite_t hc1 hF
  refine wp_seq (f_region Z ?_); clear Z; intro Z
  refine s_ob Z (v := .agg #[.int .i64 0, .int .i64 0, .int .i64 0, .int .i64 0, .int .i64 0, .int .i64 0, .bool false, .string ByteArray.empty]) rfl rfl (by decide) rfl (Ob_build (vs := []) rfl rfl (by go_simp <;> rfl)) ?_; clear Z a; intro a Z
  refine s_runk tHb0 Z 1 rfl rfl ?_; clear Z a; intro a Z
  refine h_store tHb0 Z H 3 rfl rfl rfl rfl rfl rfl rfl rfl rfl (one_cons rfl (one_cons rfl (one_cons rfl (one_cons rfl (one_cons rfl (one_cons rfl (one_cons rfl (one_cons rfl one_nil)))))))) (Nat.le_of_ble_eq_true rfl) rfl ?_; clear H; intro w23 H
  dsimp only [List.eraseIdx] at H
  refine s_runk tHb0 Z 1 rfl rfl ?_; clear Z a; intro a Z
  refine s_end Z [2, 3] rfl ?_; clear Z; intro Z
  refine p_then (wp_ret ?_)
  refine p_then_r ?_
  obtain rfl := some_in hF
  exact f_ret Z (run_resultsCT rfl Z rfl (run_loadVar_agg tHb0 rfl (H.bx 0 rfl).at) rfl) ⟨rfl, I10, (H.sub [] rfl).eq rfl⟩
 ·replace hF := ite_f hc1 hF
  refine wp_skip ?_
  refine p_then (wp_seq (f_region Z ?_)); clear Z; intro Z
  refine s_ob Z (v := .agg #[.int .i64 x0.1, .int .i64 x0_2.1, .int .i64 x0_3.1, .int .i64 x0_4.1, .int .i64 x0_5.1, .int .i64 x0_6.1, .bool f.1, .string t.1]) rfl rfl (by decide) rfl (Ob_loads tHb0 rfl rfl rfl ((H.bx 1 rfl).part 0 rfl)) ?_; clear Z a; intro a Z
  refine h_store tHb0 Z H 3 rfl rfl rfl rfl rfl rfl rfl rfl rfl (one_cons rfl (one_cons rfl (one_cons rfl (one_cons rfl (one_cons rfl (one_cons rfl (one_cons rfl (one_cons rfl one_nil)))))))) (Nat.le_of_ble_eq_true rfl) rfl ?_; clear H; intro w24 H
  dsimp only [List.eraseIdx] at H
  refine s_runk tHb0 Z 1 rfl rfl ?_; clear Z a; intro a Z
  refine s_end Z [2, 3] rfl ?_; clear Z; intro Z
  refine p_then (wp_ret ?_)
  obtain rfl := some_in hF
  exact f_ret Z (run_resultsCT rfl Z rfl (run_loadVar_agg tHb0 rfl (H.bx 0 rfl).at) rfl) ⟨rfl, I10, (H.sub [] rfl).eq rfl⟩

end Go.Proofs.Ytghkhndlpfmpfaa
