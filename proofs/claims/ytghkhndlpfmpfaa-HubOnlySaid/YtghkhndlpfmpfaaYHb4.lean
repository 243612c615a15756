/- A hub: the law HubOnly walked. -/
import Derived.Test.YtghkhndlpfmpfaaYHb3
import Derived.Test.YtghkhndlpfmpfaaYAr
import Derived.Test.YtghkhndlpfmpfaaYRw
namespace Go.Proofs.Ytghkhndlpfmpfaa
open Go.RowKit
def tHb4L : TabL := ⟨[(33793, 1), (33794, 2), (38912, 0), (38913, 1)], [], [], [(22, (33, 4)), (28, (9, 1)), (34, (38, 2))], [(3, (1, false)), (9, (1, false)), (23, (1, false)), (24, (4, true)), (25, (1, false)), (28, (1, false)), (30, (16, true)), (34, (1, false)), (35, (4, true))]⟩

def tHb4 : Tab Try.prog := ⟨tHb4L, by kernel_rfl⟩

theorem fn_4_YHb4 : IsFn Try.prog 4 := ⟨_, Try.func4, by kernel_rfl, by kernel_rfl⟩

theorem fn_5_YHb4 : IsFn Try.prog 5 := ⟨_, Try.func5, by kernel_rfl, by kernel_rfl⟩

theorem fn_6_YHb4 : IsFn Try.prog 6 := ⟨_, Try.func6, by kernel_rfl, by kernel_rfl⟩

theorem fn_7_YHb4 : IsFn Try.prog 7 := ⟨_, Try.func7, by kernel_rfl, by kernel_rfl⟩

theorem fn_8_YHb4 : IsFn Try.prog 8 := ⟨_, Try.func8, by kernel_rfl, by kernel_rfl⟩

theorem fn_9_YHb4 : IsFn Try.prog 9 := ⟨_, Try.func9, by kernel_rfl, by kernel_rfl⟩

theorem fn_10_YHb4 : IsFn Try.prog 10 := ⟨_, Try.func10, by kernel_rfl, by kernel_rfl⟩

theorem fn_12_YHb4 : IsFn Try.prog 12 := ⟨_, Try.func12, by kernel_rfl, by kernel_rfl⟩

theorem fn_15_YHb4 : IsFn Try.prog 15 := ⟨_, Try.func15, by kernel_rfl, by kernel_rfl⟩

theorem E_28_YHb4 : Elem Try.prog 28 9 1 16 := ⟨Try.underlying28, by
 have h : (Try.prog.info? 9).map (fun i => (i.zero, i.size, i.bytes)) = some (some (.string ByteArray.empty), 1, 16) := by kernel_rfl
 obtain ⟨i, hi, h1⟩ := Option.map_eq_some_iff.1 h
 simp only [Prod.mk.injEq] at h1
 exact ⟨i, _, hi, h1.1, h1.2.1, h1.2.2, by rfl⟩, by decide⟩

def F_hub_Hub_with_nil__hub_Hub_In_1 (id : Int) (p1 : ByteArray) (p2 : Int) (p3 : List ByteArray) : Option Bool := none

set_option maxHeartbeats 1000000 in
theorem c_hub_Hub_with_nil__hub_Hub_In_1 {I D : Dm} {id : Int} {b_p1 : Nat} {p1 : ByteArray} {b_p2 : Nat} {p2 : Int} {b_p3 : Nat} {p3 : List ByteArray} {v1_p3 : Value} {w : World} {rr : Bool} (hF : F_hub_Hub_with_nil__hub_Hub_In_1 id p1 p2 p3 = some rr) (H : St I D w [BxC b_p1 9 [.string p1], BxC b_p2 25 [.int .i64 p2], BxC b_p3 28 [v1_p3], SlC NS v1_p3 p3]) :
  Calls Try.prog 12 #[.pointer none, .int .i64 id, .func (.func 19) #[] #[.pointer (some ⟨b_p1, 0, none⟩), .pointer (some ⟨b_p2, 0, none⟩), .pointer (some ⟨b_p3, 0, none⟩)]] w (Ret fun vv w' => vv = .bool rr ∧ ∃ I', Hf I D w I' w' [BxC b_p1 9 [.string p1], BxC b_p2 25 [.int .i64 p2], BxC b_p3 28 [v1_p3]]) := by
 replace H := H.hf
 unfold F_hub_Hub_with_nil__hub_Hub_In_1 at hF
 refine f_enter 34 Try.func12 rfl rfl (Nat.le_of_ble_eq_true rfl) fun a Z => ?_
 replace Z := Z.sub (ts := [0, 1, 2]) rfl
 refine wp_seq (f_region Z ?_); clear Z; intro Z
 refine s_runk tHb4 Z 1 rfl rfl ?_; clear Z a; intro a Z
 refine s_end Z [0, 1, 2] rfl ?_; clear Z; intro Z
 refine p_then (wp_seq ?_)
 refine wp_seq ?_
 cases hF

def F_hub_Hub_In_nil (from_ : Int) (s0 : ByteArray) : Option ((List ByteArray) × Int) := (F_hub_Hub_with_nil__hub_Hub_In_1 from_ s0 0 ([] : List ByteArray)).bind fun x0 => (if (!x0) = true then ((F_hub_Hub_nobody_nil).bind fun n0 => (some (([] : List ByteArray), n0))) else (some (([] : List ByteArray), 0)))

set_option maxHeartbeats 1000000 in
theorem c_hub_Hub_In_nil {I D : Dm} {from_ : Int} {s0 : ByteArray} {w : World} {rr : (List ByteArray) × Int} (hF : F_hub_Hub_In_nil from_ s0 = some rr) (H : St I D w []) :
  Calls Try.prog 7 #[.pointer none, .int .i64 from_, .string s0] w (Ret fun vv w' => ∃ q1 : Value, vv = .tuple #[q1, .int .i64 rr.2] ∧ ∃ I', Hf I D w I' w' [SlC NS q1 rr.1]) := by
 replace H := H.hf
 unfold F_hub_Hub_In_nil at hF
 refine f_enter 19 Try.func7 rfl rfl (Nat.le_of_ble_eq_true rfl) fun a Z => ?_
 replace Z := Z.sub (ts := [0, 1, 2]) rfl
 refine wp_seq (f_region Z ?_); clear Z; intro Z
 refine h_boxv Z H (cl := [.string s0]) rfl rfl rfl (by decide) rfl rfl rfl ?_; clear Z a H; intro a w1 b1 H Z
 refine h_alloc Z H (cl := [.slice none 0 0]) (z := .slice none 0 0) rfl rfl rfl (by decide) rfl (by kernel_rfl) rfl ?_; clear Z a H; intro a w2 b2 H Z
 refine h_alloc Z H (cl := [.int .i64 0]) (z := .int .i64 0) rfl rfl rfl (by decide) rfl (by kernel_rfl) rfl ?_; clear Z a H; intro a w3 b3 H Z
 refine s_end Z [0, 1, 5, 6, 7] rfl ?_; clear Z; intro Z
 refine p_then (wp_seq (f_region Z ?_)); clear Z; intro Z
 refine s_runk tHb4 Z 2 rfl rfl ?_; clear Z a; intro a Z
 refine s_end Z [0, 1, 6, 7, 8] rfl ?_; clear Z; intro Z
 refine p_then (wp_seq ?_)
 refine wp_seq ?_
 obtain ⟨x0, hx1, hF⟩ := bnd_in hF
 refine f_region Z ?_; clear Z; intro Z
 refine s_runk tHb4 Z 3 rfl rfl ?_; clear Z a; intro a Z
 replace H : Hf I D w I w3 [SlC NS (.slice none 0 0) ([] : List ByteArray), BxC b3 25 [.int .i64 0], BxC b2 28 [.slice none 0 0], BxC b1 9 [.string s0]] := H.slNil NS
 refine h_call Z H (js := [(3, false), (1, false), (1, false), (0, true)]) rfl (caps := #[]) fn_12_YHb4 rfl rfl rfl rfl rfl (by decide) rfl rfl (fun D1 hS => have hq := c_hub_Hub_with_nil__hub_Hub_In_1 hx1 hS; hq) ?_; clear Z a; intro vv a w4 D2 hr hF2 Z
 obtain ⟨rfl, I1, K⟩ := hr
 have H : Hf I D w I1 w4 [BxC b1 9 [.string s0], BxC b3 25 [.int .i64 0], BxC b2 28 [.slice none 0 0], SlC NS (.slice none 0 0) ([] : List ByteArray)] := hF2 K
 clear hF2 K
 refine s_runk tHb4 Z 1 rfl rfl ?_; clear Z a; intro a Z
 refine s_end Z [0, 6, 7, 14] rfl ?_; clear Z; intro Z
 refine p_then ?_
 refine f_cond Z rfl (fun hc1 => ?_) (fun hc1 => ?_)
 ·replace hF := ite_t hc1 hF
  refine wp_seq ?_
  obtain ⟨n0, hx2, hF⟩ := bnd_in hF
  refine f_region Z ?_; clear Z; intro Z
  refine s_runk tHb4 Z 1 rfl rfl ?_; clear Z a; intro a Z
  refine h_call Z H (js := []) rfl (caps := #[]) fn_15_YHb4 rfl rfl rfl rfl rfl (by decide) rfl rfl (fun D1 hS => have hq := c_hub_Hub_nobody_nil hx2 hS; hq) ?_; clear Z a; intro vv a w5 D2 hr hF2 Z
  obtain ⟨rfl, I2, K⟩ := hr
  have H : Hf I D w I2 w5 [BxC b1 9 [.string s0], BxC b3 25 [.int .i64 0], BxC b2 28 [.slice none 0 0], SlC NS (.slice none 0 0) ([] : List ByteArray)] := hF2 K
  clear hF2 K
  refine h_store tHb4 Z H 2 rfl rfl rfl rfl rfl rfl (slS.cells slS.nil) rfl rfl (one_cons (slS.one slS.nil) one_nil) (Nat.le_of_ble_eq_true rfl) rfl ?_; clear H; intro w6 H
  dsimp only [List.eraseIdx] at H
  refine h_store tHb4 Z H 2 rfl rfl rfl rfl rfl rfl rfl rfl rfl (one_cons rfl one_nil) (Nat.le_of_ble_eq_true rfl) rfl ?_; clear H; intro w7 H
  dsimp only [List.eraseIdx] at H
  refine s_end Z [6, 7] rfl ?_; clear Z; intro Z
  refine p_then (wp_ret ?_)
  refine p_then_r ?_
  replace H : Hf I D w I2 w7 [SlC NS (.slice none 0 0) ([] : List ByteArray), BxC b3 25 [.int .i64 n0], BxC b2 28 [.slice none 0 0], BxC b1 9 [.string s0], SlC NS (.slice none 0 0) ([] : List ByteArray)] := H.slNil NS
  obtain rfl := some_in hF
  exact f_ret Z (run_resultsCC rfl Z rfl (run_loadVar_one tHb4 rfl ((H.bx 2 rfl).cell 0 rfl)) rfl (run_loadVar_one tHb4 rfl ((H.bx 1 rfl).cell 0 rfl))) ⟨.slice none 0 0, rfl, I2, (H.sub [(0, true)] rfl).eq rfl⟩
 ·replace hF := ite_f hc1 hF
  refine wp_skip ?_
  refine p_then (wp_seq ?_)
  refine f_regionL Z (by kernel_rfl) (by kernel_rfl) (by decide) (by decide) [2, 3] [(0, 0, 0), (0, 0, 1), (1, 0, 0), (7, 1, 1)] (by kernel_rfl) (fun jj vv => match jj with | 0 => vv = .slice none 0 0 | 1 => vv = .int .i64 0 | 2 => True | 3 => True | _ => True) (fun ss vals1 xw => match ss with | 0 => Gx I D w I1 w4 xw [BxC b1 9 [.string s0], BxC b3 25 [.int .i64 0], BxC b2 28 [.slice none 0 0], SlC NS (.slice none 0 0) ([] : List ByteArray)] | 1 => Gx I D w I1 w4 xw [BxC b2 28 [.slice none 0 0], BxC b1 9 [.string s0], BxC b3 25 [.int .i64 0], SlC NS (.slice none 0 0) ([] : List ByteArray)] | _ => Gx I D w I1 w4 xw [BxC b3 25 [.int .i64 0], BxC b2 28 [.slice none 0 0], BxC b1 9 [.string s0], SlC NS (.slice none 0 0) ([] : List ByteArray)]) (fun _ => Gx.start H) ?_ ?_
  ·intro fr hfr hfe
   refine .cons (fun ss hlo hhi vals1 xw hG hV => ?_) ?_
   ·obtain rfl : ss = 0 := Nat.le_antisymm hhi hlo
    rw [← hfe]
    have hS := (hfr vals1).sub (ts := [6]) (S' := [(6, .pointer (some ⟨b2, 0, none⟩))]) rfl
    obtain ⟨I2, hI2, H⟩ := Gx.ex hG
    exact L_val hS rfl (Ob_load tHb4 rfl rfl rfl ((H.bx 2 rfl).cell 0 rfl)) ⟨rfl, hG⟩
   refine .cons (fun ss hlo hhi vals1 xw hG hV => ?_) ?_
   ·obtain rfl | rfl : ss = 0 ∨ ss = 1 := st1 hlo hhi
    ·rw [← hfe]
     have hS := (hfr vals1).sub (ts := [7]) (S' := [(7, .pointer (some ⟨b3, 0, none⟩))]) rfl
     obtain ⟨I2, hI2, H⟩ := Gx.ex hG
     exact L_val hS rfl (Ob_load tHb4 rfl rfl rfl ((H.bx 1 rfl).cell 0 rfl)) ⟨rfl, hG⟩
    ·rw [← hfe]
     have hS := (hfr vals1).sub (ts := [7]) (S' := [(7, .pointer (some ⟨b3, 0, none⟩))]) rfl
     obtain ⟨I2, hI2, H⟩ := Gx.ex hG
     exact L_val hS rfl (Ob_load tHb4 rfl rfl rfl ((H.bx 2 rfl).cell 0 rfl)) ⟨rfl, hG⟩
   refine .cons (fun ss hlo hhi vals1 xw hG hV => ?_) ?_
   ·obtain rfl : ss = 0 := Nat.le_antisymm hhi hlo
    rw [← hfe]
    have hS := (hfr vals1).sub (ts := [17, 6]) (S' := [(17, vals1 0), (6, .pointer (some ⟨b2, 0, none⟩))]) rfl
    replace hS := hS.conv (t := 17) rfl (show (vals1 0) = .slice none 0 0 from hV 0 (by decide))
    obtain ⟨I2, hI2, H⟩ := Gx.ex hG
    exact L_store tHb4 H 2 rfl hS rfl rfl rfl rfl rfl (slS.cells (H.slshape 3 rfl)) rfl rfl (one_cons (slS.one (H.slshape 3 rfl)) one_nil) (Nat.le_of_ble_eq_true rfl) rfl fun yw hK H => ⟨trivial, Gx.go hG hI2 hK (fun _ h => h) H⟩
   refine .cons (fun ss hlo hhi vals1 xw hG hV => ?_) ?_
   ·obtain rfl : ss = 1 := Nat.le_antisymm hhi hlo
    rw [← hfe]
    have hS := (hfr vals1).sub (ts := [18, 7]) (S' := [(18, vals1 1), (7, .pointer (some ⟨b3, 0, none⟩))]) rfl
    replace hS := hS.conv (t := 18) rfl (show (vals1 1) = .int .i64 0 from hV 1 (by decide))
    obtain ⟨I2, hI2, H⟩ := Gx.ex hG
    exact L_store tHb4 H 2 rfl hS rfl rfl rfl rfl rfl rfl rfl rfl (one_cons rfl one_nil) (Nat.le_of_ble_eq_true rfl) rfl fun yw hK H => ⟨trivial, Gx.go hG hI2 hK (fun _ h => h) H⟩
   exact .nil
  ·intro vals1 a w8 Z hG hV
   replace Z := Z.sub (ts := [6, 7]) (S' := [(6, .pointer (some ⟨b2, 0, none⟩)), (7, .pointer (some ⟨b3, 0, none⟩))]) rfl
   obtain ⟨I3, _, H⟩ := Gx.ex hG
   clear hG hV
   replace Z := Z.sub (ts := [6, 7]) rfl
   replace H : Hf I D w I3 w8 [BxC b3 25 [.int .i64 0], BxC b2 28 [.slice none 0 0], BxC b1 9 [.string s0], SlC NS (.slice none 0 0) ([] : List ByteArray)] := H
   refine p_then (wp_ret ?_)
   obtain rfl := some_in hF
   exact f_ret Z (run_resultsCC rfl Z rfl (run_loadVar_one tHb4 rfl ((H.bx 1 rfl).cell 0 rfl)) rfl (run_loadVar_one tHb4 rfl ((H.bx 0 rfl).cell 0 rfl))) ⟨.slice none 0 0, rfl, I3, (H.sub [(3, true)] rfl).eq rfl⟩

def F_law23_HubOnly_k3 (i_2 : Int) (rc_2 : (Int × (List (Option Ehub_Hub)) × (List (List ByteArray))) → Option Bool) (h_3 : List (Option Ehub_Hub)) (sent_2 : List (List ByteArray)) : Option Bool := chk (inI (i_2 + 1)) (rc_2 (i_2 + 1, h_3, sent_2))

def F_law23_HubOnly_l7 (all : List (List EOut)) (i_4 : Int) (rc_5 : (Int × (List (Option Ehub_Hub)) × (List (List ByteArray))) → Option Bool) (rc_6 : (Int × (List (Option Ehub_Hub)) × (List (List ByteArray))) → Option Bool) (sg : Int × (List (Option Ehub_Hub)) × (List (List ByteArray))) : Option Bool := match sg with | (k, h_7, got_3) => chk ((0 : Int) ≤ i_4 ∧ i_4 < 4) (if ((decide (k < ((all.getD (0 + (i_4).toNat * 1) []).length : Int))) && (decide (k < 60))) = true then (chk ((0 : Int) ≤ k ∧ k < ((all.getD (0 + (i_4).toNat * 1) []).length : Int)) (if (((decide (((all.getD (0 + (i_4).toNat * 1) []).getD (k).toNat default).to_ < 0)) || (decide (((all.getD (0 + (i_4).toNat * 1) []).getD (k).toNat default).to_ ≥ 4))) || ((((all.getD (0 + (i_4).toNat * 1) []).getD (k).toNat default).to_) == i_4)) = true then (some false) else (chk ((0 : Int) ≤ ((all.getD (0 + (i_4).toNat * 1) []).getD (k).toNat default).to_ ∧ ((all.getD (0 + (i_4).toNat * 1) []).getD (k).toNat default).to_ < 4) (optE (h_7.getD (0 + (((all.getD (0 + (i_4).toNat * 1) []).getD (k).toNat default).to_).toNat * 1) none) (chk ((0 : Int) ≤ k ∧ k < ((all.getD (0 + (i_4).toNat * 1) []).length : Int)) ((F_hub_Hub_In_nil i_4 (((all.getD (0 + (i_4).toNat * 1) []).getD (k).toNat default).body)).bind fun n0_4 => (if (n0_4.2 != 0) = true then (some false) else (chk ((((got_3.getD (0 + (i_4).toNat * 4 + (((all.getD (0 + (i_4).toNat * 1) []).getD (k).toNat default).to_).toNat * 1) []).length + n0_4.1.length : Nat) : Int) * 16 ≤ 140737488355328) (chk (inI (k + 1)) (rc_6 (k + 1, (h_7.set (0 + (((all.getD (0 + (i_4).toNat * 1) []).getD (k).toNat default).to_).toNat * 1) none), (got_3.set (0 + (i_4).toNat * 4 + (((all.getD (0 + (i_4).toNat * 1) []).getD (k).toNat default).to_).toNat * 1) ((got_3.getD (0 + (i_4).toNat * 4 + (((all.getD (0 + (i_4).toNat * 1) []).getD (k).toNat default).to_).toNat * 1) []) ++ n0_4.1))))))))) (fun x_4 => chk ((0 : Int) ≤ k ∧ k < ((all.getD (0 + (i_4).toNat * 1) []).length : Int)) ((F_hub_Hub_In x_4 i_4 (((all.getD (0 + (i_4).toNat * 1) []).getD (k).toNat default).body)).bind fun i_5 => (if (i_5.2.1 != 0) = true then (some false) else (chk ((((got_3.getD (0 + (i_4).toNat * 4 + (((all.getD (0 + (i_4).toNat * 1) []).getD (k).toNat default).to_).toNat * 1) []).length + i_5.1.length : Nat) : Int) * 16 ≤ 140737488355328) (chk (inI (k + 1)) (rc_6 (k + 1, (h_7.set (0 + (((all.getD (0 + (i_4).toNat * 1) []).getD (k).toNat default).to_).toNat * 1) (some i_5.2.2)), (got_3.set (0 + (i_4).toNat * 4 + (((all.getD (0 + (i_4).toNat * 1) []).getD (k).toNat default).to_).toNat * 1) ((got_3.getD (0 + (i_4).toNat * 4 + (((all.getD (0 + (i_4).toNat * 1) []).getD (k).toNat default).to_).toNat * 1) []) ++ i_5.1))))))))))))) else (chk (inI (i_4 + 1)) (rc_5 (i_4 + 1, h_7, got_3))))

def F_law23_HubOnly_l6 (round : Int) (rc_3 : (Int × (List (Option Ehub_Hub)) × (List (List ByteArray))) → Option Bool) (all : List (List EOut)) (rc_5 : (Int × (List (Option Ehub_Hub)) × (List (List ByteArray))) → Option Bool) (sg : Int × (List (Option Ehub_Hub)) × (List (List ByteArray))) : Option Bool := match sg with | (i_4, h_6, got_2) => if (decide (i_4 < 4)) = true then (iter (F_law23_HubOnly_l7 all i_4 rc_5) FU (0, h_6, got_2)) else (chk (inI (round + 1)) (rc_3 (round + 1, h_6, got_2)))

def F_law23_HubOnly_l5 (round : Int) (got : List (List ByteArray)) (rc_3 : (Int × (List (Option Ehub_Hub)) × (List (List ByteArray))) → Option Bool) (rc_4 : (Int × (List (Option Ehub_Hub)) × (List (List EOut))) → Option Bool) (sg : Int × (List (Option Ehub_Hub)) × (List (List EOut))) : Option Bool := match sg with | (i_3, h_5, all) => if (decide (i_3 < 4)) = true then (chk ((0 : Int) ≤ i_3 ∧ i_3 < 4) (optE (h_5.getD (0 + (i_3).toNat * 1) none) ((F_hub_Hub_Out_nil true).bind fun n0_3 => (chk (inI (i_3 + 1)) (rc_4 (i_3 + 1, (h_5.set (0 + (i_3).toNat * 1) none), (all.set (0 + (i_3).toNat * 1) n0_3))))) (fun x_3 => (F_hub_Hub_Out x_3 true).bind fun o => (chk (inI (i_3 + 1)) (rc_4 (i_3 + 1, (h_5.set (0 + (i_3).toNat * 1) (some o.2)), (all.set (0 + (i_3).toNat * 1) o.1))))))) else (iter (F_law23_HubOnly_l6 round rc_3 all) FU (0, h_5, got))

def F_law23_HubOnly_l9 (sent : List (List ByteArray)) (got : List (List ByteArray)) (i_6 : Int) (rc_7 : (Int × (List (Option Ehub_Hub))) → Option Bool) (rc_8 : (Int × (List (Option Ehub_Hub))) → Option Bool) (sg : Int × (List (Option Ehub_Hub))) : Option Bool := match sg with | (k_2, h_9) => if (decide (k_2 < 4)) = true then (chk ((0 : Int) ≤ i_6 ∧ i_6 < 4) (chk ((0 : Int) ≤ k_2 ∧ k_2 < 4) (optE (h_9.getD (0 + (i_6).toNat * 1) none) ((F_ref05_Same (sent.getD (0 + (i_6).toNat * 4 + (k_2).toNat * 1) []) (got.getD (0 + (i_6).toNat * 4 + (k_2).toNat * 1) [])).bind fun s0_2 => ((gif (!(!s0_2)) (F_hub_Hub_Waiting_nil k_2) default).bind fun n0_5 => (if ((!s0_2) || (n0_5 != 0)) = true then (some false) else (chk (inI (k_2 + 1)) (rc_8 (k_2 + 1, (h_9.set (0 + (i_6).toNat * 1) none))))))) (fun x_5 => (F_ref05_Same (sent.getD (0 + (i_6).toNat * 4 + (k_2).toNat * 1) []) (got.getD (0 + (i_6).toNat * 4 + (k_2).toNat * 1) [])).bind fun s0_3 => ((gif (!(!s0_3)) (F_hub_Hub_Waiting x_5 k_2) default).bind fun w0 => (if ((!s0_3) || (w0.1 != 0)) = true then (some false) else (chk (inI (k_2 + 1)) (rc_8 (k_2 + 1, (h_9.set (0 + (i_6).toNat * 1) (some (cond (!(!s0_3)) w0.2 x_5)))))))))))) else (chk (inI (i_6 + 1)) (rc_7 (i_6 + 1, h_9)))

def F_law23_HubOnly_l8 (sent : List (List ByteArray)) (got : List (List ByteArray)) (rc_7 : (Int × (List (Option Ehub_Hub))) → Option Bool) (sg : Int × (List (Option Ehub_Hub))) : Option Bool := match sg with | (i_6, h_8) => if (decide (i_6 < 4)) = true then (iter (F_law23_HubOnly_l9 sent got i_6 rc_7) FU (0, h_8)) else ((F_law23_awake).bind fun a0 => (some a0))

def F_law23_HubOnly_l4 (sent : List (List ByteArray)) (rc_3 : (Int × (List (Option Ehub_Hub)) × (List (List ByteArray))) → Option Bool) (sg : Int × (List (Option Ehub_Hub)) × (List (List ByteArray))) : Option Bool := match sg with | (round, h_4, got) => if (decide (round < 8)) = true then (iter (F_law23_HubOnly_l5 round got rc_3) FU (0, h_4, (List.replicate 4 ([] : List EOut)))) else (iter (F_law23_HubOnly_l8 sent got) FU (0, h_4))

def F_law23_HubOnly_l2 (l : List Elaw23_Act) (rc_2 : (Int × (List (Option Ehub_Hub)) × (List (List ByteArray))) → Option Bool) (sg : Int × (List (Option Ehub_Hub)) × (List (List ByteArray))) : Option Bool := match sg with | (i_2, h_2, sent) => if ((decide (i_2 < (l.length : Int))) && (decide (i_2 < 30))) = true then (chk ((0 : Int) ≤ i_2.tmod 4 ∧ i_2.tmod 4 < 4) (optE (h_2.getD (0 + (i_2.tmod 4).toNat * 1) none) (chk ((0 : Int) ≤ i_2 ∧ i_2 < (l.length : Int)) (chk ((0 : Int) ≤ i_2 ∧ i_2 < (l.length : Int)) ((F_hub_Hub_Send_nil ((l.getD (i_2).toNat default).n) ((l.getD (i_2).toNat default).s)).bind fun n0_2 => (if (n0_2 == 0) = true then (chk ((0 : Int) ≤ (l.getD (i_2).toNat default).n ∧ (l.getD (i_2).toNat default).n < 4) (chk ((0 : Int) ≤ i_2 ∧ i_2 < (l.length : Int)) (chk ((0 : Int) ≤ i_2 ∧ i_2 < (l.length : Int)) (chk ((0 : Int) ≤ i_2 ∧ i_2 < (l.length : Int)) (chk ((((sent.getD (0 + (i_2.tmod 4).toNat * 4 + ((l.getD (i_2).toNat default).n).toNat * 1) []).length + [(l.getD (i_2).toNat default).s].length : Nat) : Int) * 16 ≤ 140737488355328) (F_law23_HubOnly_k3 i_2 rc_2 (h_2.set (0 + (i_2.tmod 4).toNat * 1) none) (sent.set (0 + (i_2.tmod 4).toNat * 4 + ((l.getD (i_2).toNat default).n).toNat * 1) ((sent.getD (0 + (i_2.tmod 4).toNat * 4 + ((l.getD (i_2).toNat default).n).toNat * 1) []) ++ [(l.getD (i_2).toNat default).s])))))))) else (F_law23_HubOnly_k3 i_2 rc_2 (h_2.set (0 + (i_2.tmod 4).toNat * 1) none) sent))))) (fun x_2 => chk ((0 : Int) ≤ i_2 ∧ i_2 < (l.length : Int)) (chk ((0 : Int) ≤ i_2 ∧ i_2 < (l.length : Int)) ((F_hub_Hub_Send x_2 ((l.getD (i_2).toNat default).n) ((l.getD (i_2).toNat default).s)).bind fun s0 => (if (s0.1 == 0) = true then (chk ((0 : Int) ≤ (l.getD (i_2).toNat default).n ∧ (l.getD (i_2).toNat default).n < 4) (chk ((0 : Int) ≤ i_2 ∧ i_2 < (l.length : Int)) (chk ((0 : Int) ≤ i_2 ∧ i_2 < (l.length : Int)) (chk ((0 : Int) ≤ i_2 ∧ i_2 < (l.length : Int)) (chk ((((sent.getD (0 + (i_2.tmod 4).toNat * 4 + ((l.getD (i_2).toNat default).n).toNat * 1) []).length + [(l.getD (i_2).toNat default).s].length : Nat) : Int) * 16 ≤ 140737488355328) (F_law23_HubOnly_k3 i_2 rc_2 (h_2.set (0 + (i_2.tmod 4).toNat * 1) (some s0.2)) (sent.set (0 + (i_2.tmod 4).toNat * 4 + ((l.getD (i_2).toNat default).n).toNat * 1) ((sent.getD (0 + (i_2.tmod 4).toNat * 4 + ((l.getD (i_2).toNat default).n).toNat * 1) []) ++ [(l.getD (i_2).toNat default).s])))))))) else (F_law23_HubOnly_k3 i_2 rc_2 (h_2.set (0 + (i_2.tmod 4).toNat * 1) (some s0.2)) sent))))))) else (iter (F_law23_HubOnly_l4 sent) FU (0, h_2, (List.replicate 16 ([] : List ByteArray))))

def F_law23_HubOnly_l1 (l : List Elaw23_Act) (rc : (Int × (List (Option Ehub_Hub))) → Option Bool) (sg : Int × (List (Option Ehub_Hub))) : Option Bool := match sg with | (i, h) => if (decide (i < 4)) = true then ((F_hub_New i 1).bind fun n0 => (optE n0.1 (some false) (fun x => if ((n0.2 != 0) || false) = true then (some false) else (chk ((0 : Int) ≤ i ∧ i < 4) (chk (inI (i + 1)) (rc (i + 1, (h.set (0 + (i).toNat * 1) (some x))))))))) else (iter (F_law23_HubOnly_l2 l) FU (0, h, (List.replicate 16 ([] : List ByteArray))))

def F_law23_HubOnly (l : List Elaw23_Act) : Option Bool := iter (F_law23_HubOnly_l1 l) FU (0, (List.replicate 4 (none : Option Ehub_Hub)))

set_option maxHeartbeats 1000000 in
theorem c_law23_HubOnly {I D : Dm} {l : List Elaw23_Act} {v1_l : Value} {w : World} {rr : Bool} (hF : F_law23_HubOnly l = some rr) (H : St I D w [SlC NElaw23_Act v1_l l]) :
  Calls Try.prog 3 #[v1_l] w (Ret fun vv w' => vv = .bool rr ∧ ∃ I', Hf I D w I' w' []) := by
 replace H := H.hf
 unfold F_law23_HubOnly at hF
 refine f_enter 195 Try.func3 rfl rfl (Nat.le_of_ble_eq_true rfl) fun a Z => ?_
 replace Z := Z.sub (ts := [0]) rfl
 refine wp_seq (f_region Z ?_); clear Z; intro Z
 refine s_runk tHb4 Z 1 rfl rfl ?_; clear Z a; intro a Z
 refine s_end Z [0] rfl ?_; clear Z; intro Z
 refine p_then (wp_seq (f_region Z ?_)); clear Z; intro Z
 refine h_alloc Z H (cl := [.pointer none, .pointer none, .pointer none, .pointer none]) (z := .agg #[.pointer none, .pointer none, .pointer none, .pointer none]) rfl rfl rfl (by decide) rfl (by kernel_rfl) rfl ?_; clear Z a H; intro a w1 b1 H Z
 replace H : Hf I D w I w1 [ArC 4 (PtC OEhub_Hub) 24 b1 (List.replicate 4 (none : Option Ehub_Hub)), SlC NElaw23_Act v1_l l] := H.arNew 0 (.pointer none) (none : Option Ehub_Hub) rfl rfl (fun H => H.mkN OEhub_Hub)
 refine s_end Z [0, 3] rfl ?_; clear Z; intro Z
 refine p_then (wp_seq ?_)
 refine wp_seq (f_region Z ?_); clear Z; intro Z
 refine s_runk tHb4 Z 1 rfl rfl ?_; clear Z a; intro a Z
 refine s_end Z [0, 3, 4] rfl ?_; clear Z; intro Z
 refine p_then (wp_block ?_)
 refine f_iter hF (fun sg a' w' => match sg with | (i, h) => Sl 195 [(0, v1_l), (3, .pointer (some ⟨b1, 0, none⟩)), (4, .int .i64 i)] a' ∧ ∃ I2, Hf I D w I2 w' [ArC 4 (PtC OEhub_Hub) 24 b1 h, SlC NElaw23_Act v1_l l]) ⟨Z.sub (ts := [0, 3, 4]) rfl, ⟨I, (H.sub [(0, false), (0, true)] rfl).eq rfl⟩⟩ ?_
 clear Z H hF a
 rintro rc ⟨i, h⟩ a w2 ⟨Z, I1, H⟩ hF
 unfold F_law23_HubOnly_l1 at hF
 try dsimp only at hF
 refine wp_seq ?_
 refine wp_seq (f_region Z ?_); clear Z; intro Z
 refine s_runk tHb4 Z 2 rfl rfl ?_; clear Z a; intro a Z
 refine s_end Z [0, 3, 4, 22] rfl ?_; clear Z; intro Z
 refine p_then ?_
 refine f_cond Z rfl (fun hc1 => ?_) (fun hc1 => ?_)
 ·replace hF := ite_t hc1 hF
  refine wp_skip ?_
  refine p_then (wp_seq ?_)
  refine wp_block ?_
  refine wp_seq ?_
  obtain ⟨n0, hx1, hF⟩ := bnd_in hF
  refine f_region Z ?_; clear Z; intro Z
  refine s_runk tHb4 Z 1 rfl rfl ?_; clear Z a; intro a Z
  refine h_call Z H (js := []) rfl (caps := #[]) fn_4_YHb4 rfl rfl rfl rfl rfl (by decide) rfl rfl (fun D1 hS => have hq := c_hub_New hx1 hS; hq) ?_; clear Z a; intro vv a w3 D2 hr hF2 Z
  obtain ⟨q1, rfl, I2, K⟩ := hr
  have H : Hf I D w I2 w3 [PtC OEhub_Hub q1 n0.1, ArC 4 (PtC OEhub_Hub) 24 b1 h, SlC NElaw23_Act v1_l l] := hF2 K
  clear hF2 K
  refine s_runk tHb4 Z 5 rfl rfl ?_; clear Z a; intro a Z
  refine s_end Z [0, 3, 4, 5, 6] rfl ?_; clear Z; intro Z
  rcases optE_in hF with ⟨ho1, hF⟩ | ⟨x, ho1, hF⟩
  ·obtain ⟨hv, H⟩ := H.optN 0 rfl ho1
   subst hv
   replace H : Hf I D w I2 w3 [ArC 4 (PtC OEhub_Hub) 24 b1 h, SlC NElaw23_Act v1_l l] := H
   refine p_then (wp_seq ?_)
   refine wp_seq (f_region Z ?_); clear Z; intro Z
   refine s_runk tHb4 Z 3 rfl rfl ?_; clear Z a; intro a Z
   refine g_ob Z (p := (!(n0.2 != 0))) (v := .pointer none) (S' := [(5, .pointer none)]) rfl rfl rfl (wantB_f _) rfl (by decide) (fun hp hS => hS.sub (ts := [5]) rfl) (fun hp => Ob_c tHb4 rfl) ?_; clear Z a; intro a Z
   refine g_ob Z (p := (!(n0.2 != 0))) (v := .bool true) (S' := [(33, .pointer none)]) rfl rfl rfl (wantB_f _) rfl (by decide) (fun hp hS => (hS.conv (t := 33) rfl (cond_t hp)).sub (ts := [33]) rfl) (fun hp => Ob_pnil rfl rfl rfl Try.underlying23 (.inl ⟨rfl, rfl⟩)) ?_; clear Z a; intro a Z
   refine s_ob Z (v := .bool true) rfl rfl (by decide) rfl (Ob_pick rfl rfl rfl rfl (pick_or1 _)) ?_; clear Z a; intro a Z
   refine s_end Z [0, 3, 4, 5, 35] rfl ?_; clear Z; intro Z
   refine p_then ?_
   refine wp_cond_true (Z.ev rfl) ?_
   refine wp_seq (f_region Z ?_); clear Z; intro Z
   refine s_runk tHb4 Z 1 rfl rfl ?_; clear Z a; intro a Z
   refine s_end Z [2] rfl ?_; clear Z; intro Z
   refine p_then (wp_ret ?_)
   refine p_then_r ?_
   refine p_blk_r ?_
   refine p_then_r ?_
   refine p_then_r ?_
   refine p_blk_r ?_
   refine p_then_r ?_
   obtain rfl := some_in hF
   exact f_ret Z (run_results1 rfl Z rfl) ⟨rfl, I2, (H.sub [] rfl).eq rfl⟩
  ·obtain ⟨b2, hv, H⟩ := H.optS 0 rfl ho1
   subst hv
   replace H : Hf I D w I2 w3 [OEhub_Hub b2 x, ArC 4 (PtC OEhub_Hub) 24 b1 h, SlC NElaw23_Act v1_l l] := H
   refine p_then (wp_seq ?_)
   refine wp_seq (f_region Z ?_); clear Z; intro Z
   refine s_runk tHb4 Z 3 rfl rfl ?_; clear Z a; intro a Z
   refine g_ob Z (p := (!(n0.2 != 0))) (v := .pointer (some ⟨b2, 0, none⟩)) (S' := [(5, .pointer (some ⟨b2, 0, none⟩))]) rfl rfl rfl (wantB_f _) rfl (by decide) (fun hp hS => hS.sub (ts := [5]) rfl) (fun hp => Ob_c tHb4 rfl) ?_; clear Z a; intro a Z
   refine g_ob Z (p := (!(n0.2 != 0))) (v := .bool false) (S' := [(33, .pointer (some ⟨b2, 0, none⟩))]) rfl rfl rfl (wantB_f _) rfl (by decide) (fun hp hS => (hS.conv (t := 33) rfl (cond_t hp)).sub (ts := [33]) rfl) (fun hp => Ob_pnil rfl rfl rfl Try.underlying23 (.inl ⟨rfl, rfl⟩)) ?_; clear Z a; intro a Z
   refine s_ob Z (v := .bool ((n0.2 != 0) || false)) rfl rfl (by decide) rfl (Ob_pick rfl rfl rfl rfl (pick_or _ _)) ?_; clear Z a; intro a Z
   refine s_end Z [0, 3, 4, 5, 35] rfl ?_; clear Z; intro Z
   refine p_then ?_
   refine f_cond Z rfl (fun hc2 => ?_) (fun hc2 => ?_)
   ·replace hF := ite_t hc2 hF
    refine wp_seq (f_region Z ?_); clear Z; intro Z
    refine s_runk tHb4 Z 1 rfl rfl ?_; clear Z a; intro a Z
    refine s_end Z [2] rfl ?_; clear Z; intro Z
    refine p_then (wp_ret ?_)
    refine p_then_r ?_
    refine p_blk_r ?_
    refine p_then_r ?_
    refine p_then_r ?_
    refine p_blk_r ?_
    refine p_then_r ?_
    obtain rfl := some_in hF
    exact f_ret Z (run_results1 rfl Z rfl) ⟨rfl, I2, (H.sub [] rfl).eq rfl⟩
   ·replace hF := ite_f hc2 hF
    refine wp_skip ?_
    refine p_then ?_
    obtain ⟨hg1, hF⟩ := chk_in hF
    have hb1 : 0 + (i).toNat * 1 < 4 := by omega
    obtain ⟨v2, vs1, hl1, hxl1, hv1, H⟩ := H.arOpen 1 rfl (0 + (i).toNat * 1) hb1 (none : Option Ehub_Hub)
    replace H : Hf I D w I2 w3 [PtC OEhub_Hub v2 (h.getD (0 + (i).toNat * 1) none), BxC b1 24 vs1, ArR (PtC OEhub_Hub) h vs1 (0 + (i).toNat * 1), OEhub_Hub b2 x, SlC NElaw23_Act v1_l l] := H
    refine f_region Z ?_; clear Z; intro Z
    refine s_runk tHb4 Z 2 rfl rfl ?_; clear Z a; intro a Z
    refine s_ob Z (v := .pointer (some ⟨b1, 0 + (i).toNat * 1, none⟩)) rfl rfl (by decide) rfl (Ob_apix (m := 1) (i).toNat rfl rfl rfl Try.underlying24 (by kernel_rfl) (have h := hg1; by omega) (have h := hg1; by omega)) ?_; clear Z a; intro a Z
    refine h_store tHb4 Z H 1 rfl rfl rfl rfl rfl rfl rfl rfl rfl (one_cons rfl one_nil) (by rw [hl1]; exact hb1) (putCells_one _ _ _) ?_; clear H; intro w4 H
    dsimp only [List.eraseIdx] at H
    refine s_end Z [0, 3, 4] rfl ?_; clear Z; intro Z
    replace H : Hf I D w I2 w4 [PtC OEhub_Hub (.pointer (some ⟨b2, 0, none⟩)) (some x), BxC b1 24 (vs1.set (0 + (i).toNat * 1) (.pointer (some ⟨b2, 0, none⟩))), PtC OEhub_Hub v2 (h.getD (0 + (i).toNat * 1) none), ArR (PtC OEhub_Hub) h vs1 (0 + (i).toNat * 1), SlC NElaw23_Act v1_l l] := H.mkS (K := OEhub_Hub) 3 rfl
    replace H : Hf I D w I2 w4 [ArC 4 (PtC OEhub_Hub) 24 b1 (h.set (0 + (i).toNat * 1) (some x)), PtC OEhub_Hub v2 (h.getD (0 + (i).toNat * 1) none), SlC NElaw23_Act v1_l l] := H.arShut hl1 hxl1 hb1 [(0, false), (0, false), (1, false)] rfl
    refine p_blk ?_
    refine p_then ?_
    obtain ⟨hg2, hF⟩ := chk_in hF
    refine f_region Z ?_; clear Z; intro Z
    refine s_runk tHb4 Z 1 rfl rfl ?_; clear Z a; intro a Z
    refine s_ob Z (v := .int .i64 (i + 1)) rfl rfl (by decide) rfl (Ob_add rfl rfl rfl (wrI hg2)) ?_; clear Z a; intro a Z
    refine s_runk tHb4 Z 1 rfl rfl ?_; clear Z a; intro a Z
    refine s_end Z [0, 3, 4] rfl ?_; clear Z; intro Z
    refine p_then ?_
    exact ⟨(i + 1, (h.set (0 + (i).toNat * 1) (some x))), ⟨Z.sub (ts := [0, 3, 4]) rfl, ⟨I2, (H.sub [(0, false), (1, true)] rfl).eq rfl⟩⟩, hF⟩
 ·replace hF := ite_f hc1 hF
  refine wp_exit ?_
  refine p_then_x ?_
  refine p_then_x ?_
  refine f_exit_here ?_
  refine p_then (wp_seq (f_region Z ?_)); clear Z; intro Z
  refine h_alloc Z H (cl := [.slice none 0 0, .slice none 0 0, .slice none 0 0, .slice none 0 0, .slice none 0 0, .slice none 0 0, .slice none 0 0, .slice none 0 0, .slice none 0 0, .slice none 0 0, .slice none 0 0, .slice none 0 0, .slice none 0 0, .slice none 0 0, .slice none 0 0, .slice none 0 0]) (z := .agg #[.slice none 0 0, .slice none 0 0, .slice none 0 0, .slice none 0 0, .slice none 0 0, .slice none 0 0, .slice none 0 0, .slice none 0 0, .slice none 0 0, .slice none 0 0, .slice none 0 0, .slice none 0 0, .slice none 0 0, .slice none 0 0, .slice none 0 0, .slice none 0 0]) rfl rfl rfl (by decide) rfl (by kernel_rfl) rfl ?_; clear Z a H; intro a w5 b3 H Z
  replace H : Hf I D w I1 w5 [ArC 16 (OwC NS 9) 30 b3 (List.replicate 16 ([] : List ByteArray)), ArC 4 (PtC OEhub_Hub) 24 b1 h, SlC NElaw23_Act v1_l l] := H.arNew 0 (.slice none 0 0) ([] : List ByteArray) rfl rfl (fun H => H.nilow NS 9)
  refine h_alloc Z H (cl := [.slice none 0 0, .slice none 0 0, .slice none 0 0, .slice none 0 0, .slice none 0 0, .slice none 0 0, .slice none 0 0, .slice none 0 0, .slice none 0 0, .slice none 0 0, .slice none 0 0, .slice none 0 0, .slice none 0 0, .slice none 0 0, .slice none 0 0, .slice none 0 0]) (z := .agg #[.slice none 0 0, .slice none 0 0, .slice none 0 0, .slice none 0 0, .slice none 0 0, .slice none 0 0, .slice none 0 0, .slice none 0 0, .slice none 0 0, .slice none 0 0, .slice none 0 0, .slice none 0 0, .slice none 0 0, .slice none 0 0, .slice none 0 0, .slice none 0 0]) rfl rfl rfl (by decide) rfl (by kernel_rfl) rfl ?_; clear Z a H; intro a w6 b4 H Z
  replace H : Hf I D w I1 w6 [ArC 16 (OwC NS 9) 30 b4 (List.replicate 16 ([] : List ByteArray)), ArC 16 (OwC NS 9) 30 b3 (List.replicate 16 ([] : List ByteArray)), ArC 4 (PtC OEhub_Hub) 24 b1 h, SlC NElaw23_Act v1_l l] := H.arNew 0 (.slice none 0 0) ([] : List ByteArray) rfl rfl (fun H => H.nilow NS 9)
  refine s_end Z [0, 3, 7, 8] rfl ?_; clear Z; intro Z
  refine p_then (wp_seq ?_)
  refine wp_seq (f_region Z ?_); clear Z; intro Z
  refine s_runk tHb4 Z 1 rfl rfl ?_; clear Z a; intro a Z
  refine s_end Z [0, 3, 7, 8, 9] rfl ?_; clear Z; intro Z
  refine p_then (wp_block ?_)
  refine f_iter hF (fun sg a' w' => match sg with | (i_2, h_2, sent) => Sl 195 [(0, v1_l), (3, .pointer (some ⟨b1, 0, none⟩)), (7, .pointer (some ⟨b3, 0, none⟩)), (8, .pointer (some ⟨b4, 0, none⟩)), (9, .int .i64 i_2)] a' ∧ ∃ I2, Hf I D w I2 w' [ArC 4 (PtC OEhub_Hub) 24 b1 h_2, ArC 16 (OwC NS 9) 30 b3 sent, ArC 16 (OwC NS 9) 30 b4 (List.replicate 16 ([] : List ByteArray)), SlC NElaw23_Act v1_l l]) ⟨Z.sub (ts := [0, 3, 7, 8, 9]) rfl, ⟨I1, (H.sub [(2, false), (1, false), (0, false), (0, true)] rfl).eq rfl⟩⟩ ?_
  clear Z H hF a
  rintro rc_2 ⟨i_2, h_2, sent⟩ a w7 ⟨Z, I3, H⟩ hF
  unfold F_law23_HubOnly_l2 at hF
  try dsimp only at hF
  refine wp_seq ?_
  refine wp_seq (f_region Z ?_); clear Z; intro Z
  refine s_runk tHb4 Z 2 rfl rfl ?_; clear Z a; intro a Z
  refine s_ob Z (v := .int .i64 (l.length : Int)) rfl rfl (by decide) rfl (Ob_slen tHb4 rfl rfl rfl (H.slshape 3 rfl)) ?_; clear Z a; intro a Z
  refine s_runk tHb4 Z 2 rfl rfl ?_; clear Z a; intro a Z
  refine g_ob Z (p := (decide (i_2 < (l.length : Int)))) (v := .int .i64 i_2) (S' := [(9, .int .i64 i_2)]) rfl rfl rfl (wantB_t _) rfl (by decide) (fun hp hS => hS.sub (ts := [9]) rfl) (fun hp => Ob_c tHb4 rfl) ?_; clear Z a; intro a Z
  refine g_ob Z (p := (decide (i_2 < (l.length : Int)))) (v := .bool (decide (i_2 < 30))) (S' := [(44, .int .i64 i_2)]) rfl rfl rfl (wantB_t _) rfl (by decide) (fun hp hS => (hS.conv (t := 44) rfl (cond_t hp)).sub (ts := [44]) rfl) (fun hp => Ob_c tHb4 rfl) ?_; clear Z a; intro a Z
  refine s_ob Z (v := .bool ((decide (i_2 < (l.length : Int))) && (decide (i_2 < 30)))) rfl rfl (by decide) rfl (Ob_pick rfl rfl rfl rfl (pick_and _ _)) ?_; clear Z a; intro a Z
  refine s_end Z [0, 3, 7, 8, 9, 46] rfl ?_; clear Z; intro Z
  refine p_then ?_
  refine f_cond Z rfl (fun hc3 => ?_) (fun hc3 => ?_)
  ·replace hF := ite_t hc3 hF
   refine wp_skip ?_
   refine p_then ?_
   refine f_cut (fun a' w' => ∃ (h_3 : List (Option Ehub_Hub)) (sent_2 : List (List ByteArray)), Sl 195 [(0, v1_l), (3, .pointer (some ⟨b1, 0, none⟩)), (7, .pointer (some ⟨b3, 0, none⟩)), (8, .pointer (some ⟨b4, 0, none⟩)), (9, .int .i64 i_2)] a' ∧ (∃ I2, Hf I D w I2 w' [ArC 4 (PtC OEhub_Hub) 24 b1 h_3, ArC 16 (OwC NS 9) 30 b3 sent_2, ArC 16 (OwC NS 9) 30 b4 (List.replicate 16 ([] : List ByteArray)), SlC NElaw23_Act v1_l l]) ∧ F_law23_HubOnly_k3 i_2 rc_2 h_3 sent_2 = some rr) ?_ ?_
   ·rintro a w8 ⟨h_3, sent_2, Z, ⟨I4, H⟩, hF⟩
    unfold F_law23_HubOnly_k3 at hF
    try dsimp only at hF
    obtain ⟨hg3, hF⟩ := chk_in hF
    refine f_region Z ?_; clear Z; intro Z
    refine s_runk tHb4 Z 1 rfl rfl ?_; clear Z a; intro a Z
    refine s_ob Z (v := .int .i64 (i_2 + 1)) rfl rfl (by decide) rfl (Ob_add rfl rfl rfl (wrI hg3)) ?_; clear Z a; intro a Z
    refine s_runk tHb4 Z 1 rfl rfl ?_; clear Z a; intro a Z
    refine s_end Z [0, 3, 7, 8, 9] rfl ?_; clear Z; intro Z
    refine p_then ?_
    exact ⟨(i_2 + 1, h_3, sent_2), ⟨Z.sub (ts := [0, 3, 7, 8, 9]) rfl, ⟨I4, (H.sub [(0, false), (0, false), (0, false), (0, true)] rfl).eq rfl⟩⟩, hF⟩
   ·skip
    refine wp_block ?_
    refine wp_seq (f_region Z ?_); clear Z; intro Z
    refine s_runk tHb4 Z 1 rfl rfl ?_; clear Z a; intro a Z
    refine s_ob Z (v := .int .i64 (i_2.tmod 4)) rfl rfl (by decide) rfl (Ob_rem rfl rfl rfl (by decide) rfl) ?_; clear Z a; intro a Z
    refine s_runk tHb4 Z 1 rfl rfl ?_; clear Z a; intro a Z
    refine s_end Z [0, 3, 7, 8, 9, 10] rfl ?_; clear Z; intro Z
    refine p_then (wp_seq ?_)
    obtain ⟨hg4, hF⟩ := chk_in hF
    have hb2 : 0 + (i_2.tmod 4).toNat * 1 < 4 := by omega
    obtain ⟨v3, vs2, hl2, hxl2, hv2, H⟩ := H.arOpen 0 rfl (0 + (i_2.tmod 4).toNat * 1) hb2 (none : Option Ehub_Hub)
    replace H : Hf I D w I3 w7 [PtC OEhub_Hub v3 (h_2.getD (0 + (i_2.tmod 4).toNat * 1) none), BxC b1 24 vs2, ArR (PtC OEhub_Hub) h_2 vs2 (0 + (i_2.tmod 4).toNat * 1), ArC 16 (OwC NS 9) 30 b3 sent, ArC 16 (OwC NS 9) 30 b4 (List.replicate 16 ([] : List ByteArray)), SlC NElaw23_Act v1_l l] := H
    rcases optE_in hF with ⟨ho2, hF⟩ | ⟨x_2, ho2, hF⟩
    ·obtain ⟨hv, H⟩ := H.optN 0 rfl ho2
     subst hv
     replace H : Hf I D w I3 w7 [BxC b1 24 vs2, ArR (PtC OEhub_Hub) h_2 vs2 (0 + (i_2.tmod 4).toNat * 1), ArC 16 (OwC NS 9) 30 b3 sent, ArC 16 (OwC NS 9) 30 b4 (List.replicate 16 ([] : List ByteArray)), SlC NElaw23_Act v1_l l] := H
     obtain ⟨hg5, hF⟩ := chk_in hF
     obtain ⟨hg6, hF⟩ := chk_in hF
     obtain ⟨n0_2, hx2, hF⟩ := bnd_in hF
     refine f_quietS 13 (by kernel_rfl) (by kernel_rfl) (by kernel_rfl) (by kernel_rfl) (by kernel_rfl) Z ?_; clear Z; intro Z
     refine q_runk tHb4 Z 1 rfl rfl ?_; clear Z a; intro a Z
     refine q_ob Z (v := .pointer (some ⟨b1, 0 + (i_2.tmod 4).toNat * 1, none⟩)) rfl rfl (by decide) rfl (fun _ hw => Ob_apix (m := 1) (i_2.tmod 4).toNat rfl rfl rfl Try.underlying24 (by kernel_rfl) (have h := hg4; by omega) (have h := hg4; by omega)) ?_; clear Z a; intro a Z
     refine q_ob Z (v := .pointer none) rfl rfl (by decide) rfl (fun _ hw => Ob_load tHb4 rfl rfl rfl (((H.blw hw).bx 0 rfl).cell _ hv2)) ?_; clear Z a; intro a Z
     refine q_runk tHb4 Z 2 rfl rfl ?_; clear Z a; intro a Z
     refine q_ob Z (v := .pointer (some ⟨blkOf v1_l, oofOf v1_l + (i_2).toNat * 4, none⟩)) rfl rfl (by decide) rfl (fun _ hw => Ob_sidx tHb4 rfl rfl rfl rfl (slPl ((H.blw hw).sl 4 rfl) hg5) hg5) ?_; clear Z a; intro a Z
     refine q_runk tHb4 Z 1 rfl rfl ?_; clear Z a; intro a Z
     refine q_ob Z (v := .int .i64 ((l.getD (i_2).toNat default).n)) rfl rfl (by decide) rfl (fun _ hw => Ob_load tHb4 rfl rfl rfl ((slFl ((H.blw hw).sl 4 rfl) hg5) 1 _ rfl)) ?_; clear Z a; intro a Z
     refine q_runk tHb4 Z 2 rfl rfl ?_; clear Z a; intro a Z
     refine q_ob Z (v := .pointer (some ⟨blkOf v1_l, oofOf v1_l + (i_2).toNat * 4, none⟩)) rfl rfl (by decide) rfl (fun _ hw => Ob_sidx tHb4 rfl rfl rfl rfl (slPl ((H.blw hw).sl 4 rfl) hg6) hg6) ?_; clear Z a; intro a Z
     refine q_runk tHb4 Z 1 rfl rfl ?_; clear Z a; intro a Z
     refine q_ob Z (v := .string ((l.getD (i_2).toNat default).s)) rfl rfl (by decide) rfl (fun _ hw => Ob_load tHb4 rfl rfl rfl ((slFl ((H.blw hw).sl 4 rfl) hg6) 2 _ rfl)) ?_; clear Z a; intro a Z
     refine q_endS Z [0, 3, 7, 8, 9, 10, 51, 52, 53, 54, 55, 56, 57, 58, 59, 60, 61, 62, 63] rfl ?_; clear Z; intro w9 hb Z
     replace H : Hf I D w I3 w9 [BxC b1 24 vs2, ArR (PtC OEhub_Hub) h_2 vs2 (0 + (i_2.tmod 4).toNat * 1), ArC 16 (OwC NS 9) 30 b3 sent, ArC 16 (OwC NS 9) 30 b4 (List.replicate 16 ([] : List ByteArray)), SlC NElaw23_Act v1_l l] := H.blw hb
     clear hb
     refine h_call Z H (js := []) rfl (caps := #[]) fn_5_YHb4 rfl rfl rfl rfl rfl (by decide) rfl rfl (fun D1 hS => have hq := c_hub_Hub_Send_nil hx2 hS; hq) ?_; clear Z a; intro vv a w10 D2 hr hF2 Z
     obtain ⟨rfl, I5, K⟩ := hr
     have H : Hf I D w I5 w10 [BxC b1 24 vs2, ArR (PtC OEhub_Hub) h_2 vs2 (0 + (i_2.tmod 4).toNat * 1), ArC 16 (OwC NS 9) 30 b3 sent, ArC 16 (OwC NS 9) 30 b4 (List.replicate 16 ([] : List ByteArray)), SlC NElaw23_Act v1_l l] := hF2 K
     clear hF2 K
     refine s_runk tHb4 Z 1 rfl rfl ?_; clear Z a; intro a Z
     refine s_end Z [0, 3, 7, 8, 9, 10, 65] rfl ?_; clear Z; intro Z
     replace H : Hf I D w I5 w10 [PtC OEhub_Hub (.pointer none) none, BxC b1 24 vs2, ArR (PtC OEhub_Hub) h_2 vs2 (0 + (i_2.tmod 4).toNat * 1), ArC 16 (OwC NS 9) 30 b3 sent, ArC 16 (OwC NS 9) 30 b4 (List.replicate 16 ([] : List ByteArray)), SlC NElaw23_Act v1_l l] := H.mkN OEhub_Hub
     replace H : Hf I D w I5 w10 [ArC 4 (PtC OEhub_Hub) 24 b1 (h_2.set (0 + (i_2.tmod 4).toNat * 1) none), ArC 16 (OwC NS 9) 30 b3 sent, ArC 16 (OwC NS 9) 30 b4 (List.replicate 16 ([] : List ByteArray)), SlC NElaw23_Act v1_l l] := H.arShut0 hl2 hxl2 hb2 hv2 [(0, false), (0, false), (0, false)] rfl
     refine p_then ?_
     refine f_cond Z rfl (fun hc4 => ?_) (fun hc4 => ?_)
     ·replace hF := ite_t hc4 hF
      obtain ⟨hg7, hF⟩ := chk_in hF
      have hb3 : 0 + (i_2.tmod 4).toNat * 4 + ((l.getD (i_2).toNat default).n).toNat * 1 < 16 := by omega
      obtain ⟨v4, vs3, hl3, hxl3, hv3, H⟩ := H.arOpen 1 rfl (0 + (i_2.tmod 4).toNat * 4 + ((l.getD (i_2).toNat default).n).toNat * 1) hb3 ([] : List ByteArray)
      replace H : Hf I D w I5 w10 [OwC NS 9 v4 (sent.getD (0 + (i_2.tmod 4).toNat * 4 + ((l.getD (i_2).toNat default).n).toNat * 1) []), BxC b3 30 vs3, ArR (OwC NS 9) sent vs3 (0 + (i_2.tmod 4).toNat * 4 + ((l.getD (i_2).toNat default).n).toNat * 1), ArC 4 (PtC OEhub_Hub) 24 b1 (h_2.set (0 + (i_2.tmod 4).toNat * 1) none), ArC 16 (OwC NS 9) 30 b4 (List.replicate 16 ([] : List ByteArray)), SlC NElaw23_Act v1_l l] := H
      obtain ⟨hg8, hF⟩ := chk_in hF
      obtain ⟨hg9, hF⟩ := chk_in hF
      obtain ⟨hg10, hF⟩ := chk_in hF
      obtain ⟨hg11, hF⟩ := chk_in hF
      refine f_regionL Z (by kernel_rfl) (by kernel_rfl) (by decide) (by decide) [20, 21, 24] [(0, 0, 2), (0, 0, 2), (0, 0, 2), (6, 0, 2), (14, 0, 2), (30, 0, 2), (0, 0, 1), (0, 0, 1), (0, 0, 1), (384, 0, 1), (896, 0, 1), (1920, 0, 1), (64, 0, 1), (8128, 0, 1), (16320, 0, 1), (0, 0, 0), (0, 0, 0), (98304, 0, 0), (229376, 0, 0), (491520, 0, 0), (1015808, 0, 0), (2097088, 1, 1), (1, 0, 2), (8388607, 2, 2), (16777215, 2, 2)] (by kernel_rfl) (fun jj vv => cond (Nat.blt jj 12) (cond (Nat.blt jj 6) (cond (Nat.blt jj 3) (cond (Nat.blt jj 1) (vv = .int .i64 (i_2.tmod 4)) (cond (Nat.blt jj 2) (vv = v1_l) (vv = .int .i64 i_2))) (cond (Nat.blt jj 4) (vv = .pointer (some ⟨blkOf v1_l, oofOf v1_l + (i_2).toNat * 4, none⟩)) (cond (Nat.blt jj 5) (vv = .pointer (some ⟨blkOf v1_l, oofOf v1_l + (i_2).toNat * 4 + 1, none⟩)) (vv = .int .i64 ((l.getD (i_2).toNat default).n))))) (cond (Nat.blt jj 9) (cond (Nat.blt jj 7) (vv = .int .i64 (i_2.tmod 4)) (cond (Nat.blt jj 8) (vv = v1_l) (vv = .int .i64 i_2))) (cond (Nat.blt jj 10) (vv = .pointer (some ⟨blkOf v1_l, oofOf v1_l + (i_2).toNat * 4, none⟩)) (cond (Nat.blt jj 11) (vv = .pointer (some ⟨blkOf v1_l, oofOf v1_l + (i_2).toNat * 4 + 1, none⟩)) (vv = .int .i64 ((l.getD (i_2).toNat default).n)))))) (cond (Nat.blt jj 18) (cond (Nat.blt jj 15) (cond (Nat.blt jj 13) (vv = .pointer (some ⟨b3, 0 + (i_2.tmod 4).toNat * 4, none⟩)) (cond (Nat.blt jj 14) (vv = .pointer (some ⟨b3, 0 + (i_2.tmod 4).toNat * 4 + ((l.getD (i_2).toNat default).n).toNat * 1, none⟩)) (vv = v4))) (cond (Nat.blt jj 16) (vv = v1_l) (cond (Nat.blt jj 17) (vv = .int .i64 i_2) (vv = .pointer (some ⟨blkOf v1_l, oofOf v1_l + (i_2).toNat * 4, none⟩))))) (cond (Nat.blt jj 21) (cond (Nat.blt jj 19) (vv = .pointer (some ⟨blkOf v1_l, oofOf v1_l + (i_2).toNat * 4 + 2, none⟩)) (cond (Nat.blt jj 20) (vv = .string ((l.getD (i_2).toNat default).s)) (vv = .slice (some ⟨blkOf vv, 0, none⟩) 1 1))) (cond (Nat.blt jj 23) (cond (Nat.blt jj 22) (True) (vv = .pointer (some ⟨b3, 0 + (i_2.tmod 4).toNat * 4, none⟩))) (cond (Nat.blt jj 24) (vv = .pointer (some ⟨b3, 0 + (i_2.tmod 4).toNat * 4 + ((l.getD (i_2).toNat default).n).toNat * 1, none⟩)) (True)))))) (fun ss vals1 xw => match ss with | 0 => Gx I D w I5 w10 xw [OwC NS 9 v4 (sent.getD (0 + (i_2.tmod 4).toNat * 4 + ((l.getD (i_2).toNat default).n).toNat * 1) []), BxC b3 30 vs3, ArR (OwC NS 9) sent vs3 (0 + (i_2.tmod 4).toNat * 4 + ((l.getD (i_2).toNat default).n).toNat * 1), ArC 4 (PtC OEhub_Hub) 24 b1 (h_2.set (0 + (i_2.tmod 4).toNat * 1) none), ArC 16 (OwC NS 9) 30 b4 (List.replicate 16 ([] : List ByteArray)), SlC NElaw23_Act v1_l l] | 1 => Gx I D w I5 w10 xw [BxC (blkOf (vals1 20)) 9 [.string ((l.getD (i_2).toNat default).s)], OwC NS 9 v4 (sent.getD (0 + (i_2.tmod 4).toNat * 4 + ((l.getD (i_2).toNat default).n).toNat * 1) []), BxC b3 30 vs3, ArR (OwC NS 9) sent vs3 (0 + (i_2.tmod 4).toNat * 4 + ((l.getD (i_2).toNat default).n).toNat * 1), ArC 4 (PtC OEhub_Hub) 24 b1 (h_2.set (0 + (i_2.tmod 4).toNat * 1) none), ArC 16 (OwC NS 9) 30 b4 (List.replicate 16 ([] : List ByteArray)), SlC NElaw23_Act v1_l l] | 2 => Gx I D w I5 w10 xw [OwC NS 9 (vals1 21) ((sent.getD (0 + (i_2.tmod 4).toNat * 4 + ((l.getD (i_2).toNat default).n).toNat * 1) []) ++ [(l.getD (i_2).toNat default).s]), BxC b3 30 vs3, ArR (OwC NS 9) sent vs3 (0 + (i_2.tmod 4).toNat * 4 + ((l.getD (i_2).toNat default).n).toNat * 1), ArC 4 (PtC OEhub_Hub) 24 b1 (h_2.set (0 + (i_2.tmod 4).toNat * 1) none), ArC 16 (OwC NS 9) 30 b4 (List.replicate 16 ([] : List ByteArray)), SlC NElaw23_Act v1_l l] | _ => Gx I D w I5 w10 xw [BxC b3 30 (vs3.set (0 + (i_2.tmod 4).toNat * 4 + ((l.getD (i_2).toNat default).n).toNat * 1) ((vals1 21))), OwC NS 9 (vals1 21) ((sent.getD (0 + (i_2.tmod 4).toNat * 4 + ((l.getD (i_2).toNat default).n).toNat * 1) []) ++ [(l.getD (i_2).toNat default).s]), ArR (OwC NS 9) sent vs3 (0 + (i_2.tmod 4).toNat * 4 + ((l.getD (i_2).toNat default).n).toNat * 1), ArC 4 (PtC OEhub_Hub) 24 b1 (h_2.set (0 + (i_2.tmod 4).toNat * 1) none), ArC 16 (OwC NS 9) 30 b4 (List.replicate 16 ([] : List ByteArray)), SlC NElaw23_Act v1_l l]) (fun _ => Gx.start H) ?_ ?_
      ·intro fr hfr hfe
       refine .cons (fun ss hlo hhi vals1 xw hG hV => ?_) ?_
       ·obtain rfl | rfl | rfl : ss = 0 ∨ ss = 1 ∨ ss = 2 := st2 hlo hhi
        all_goals
        ·rw [← hfe]
         have hS := (hfr vals1).sub (ts := [10]) (S' := [(10, .int .i64 (i_2.tmod 4))]) rfl
         exact L_val hS rfl (Ob_c tHb4 rfl) ⟨rfl, hG⟩
       refine .cons (fun ss hlo hhi vals1 xw hG hV => ?_) ?_
       ·obtain rfl | rfl | rfl : ss = 0 ∨ ss = 1 ∨ ss = 2 := st2 hlo hhi
        all_goals
        ·rw [← hfe]
         have hS := (hfr vals1).sub (ts := [0]) (S' := [(0, v1_l)]) rfl
         exact L_val hS rfl (Ob_c tHb4 rfl) ⟨rfl, hG⟩
       refine .cons (fun ss hlo hhi vals1 xw hG hV => ?_) ?_
       ·obtain rfl | rfl | rfl : ss = 0 ∨ ss = 1 ∨ ss = 2 := st2 hlo hhi
        all_goals
        ·rw [← hfe]
         have hS := (hfr vals1).sub (ts := [9]) (S' := [(9, .int .i64 i_2)]) rfl
         exact L_val hS rfl (Ob_c tHb4 rfl) ⟨rfl, hG⟩
       refine .cons (fun ss hlo hhi vals1 xw hG hV => ?_) ?_
       ·obtain rfl | rfl | rfl : ss = 0 ∨ ss = 1 ∨ ss = 2 := st2 hlo hhi
        ·rw [← hfe]
         have hS := (hfr vals1).sub (ts := [67, 68]) (S' := [(67, vals1 1), (68, vals1 2)]) rfl
         replace hS := hS.conv (t := 67) rfl (show (vals1 1) = v1_l from hV 1 (by decide))
         replace hS := hS.conv (t := 68) rfl (show (vals1 2) = .int .i64 i_2 from hV 2 (by decide))
         obtain ⟨I2, hI2, H⟩ := Gx.ex hG
         exact L_val hS rfl (Ob_sidx tHb4 rfl rfl rfl rfl (slPl (H.sl 5 rfl) hg8) hg8) ⟨rfl, hG⟩
        ·rw [← hfe]
         have hS := (hfr vals1).sub (ts := [67, 68]) (S' := [(67, vals1 1), (68, vals1 2)]) rfl
         replace hS := hS.conv (t := 67) rfl (show (vals1 1) = v1_l from hV 1 (by decide))
         replace hS := hS.conv (t := 68) rfl (show (vals1 2) = .int .i64 i_2 from hV 2 (by decide))
         obtain ⟨I2, hI2, H⟩ := Gx.ex hG
         exact L_val hS rfl (Ob_sidx tHb4 rfl rfl rfl rfl (slPl (H.sl 6 rfl) hg8) hg8) ⟨rfl, hG⟩
        ·rw [← hfe]
         have hS := (hfr vals1).sub (ts := [67, 68]) (S' := [(67, vals1 1), (68, vals1 2)]) rfl
         replace hS := hS.conv (t := 67) rfl (show (vals1 1) = v1_l from hV 1 (by decide))
         replace hS := hS.conv (t := 68) rfl (show (vals1 2) = .int .i64 i_2 from hV 2 (by decide))
         obtain ⟨I2, hI2, H⟩ := Gx.ex hG
         exact L_val hS rfl (Ob_sidx tHb4 rfl rfl rfl rfl (slPl (H.sl 5 rfl) hg8) hg8) ⟨rfl, hG⟩
       refine .cons (fun ss hlo hhi vals1 xw hG hV => ?_) ?_
       ·obtain rfl | rfl | rfl : ss = 0 ∨ ss = 1 ∨ ss = 2 := st2 hlo hhi
        all_goals
        ·rw [← hfe]
         have hS := (hfr vals1).sub (ts := [69]) (S' := [(69, vals1 3)]) rfl
         replace hS := hS.conv (t := 69) rfl (show (vals1 3) = .pointer (some ⟨blkOf v1_l, oofOf v1_l + (i_2).toNat * 4, none⟩) from hV 3 (by decide))
         exact L_val hS rfl (Ob_c tHb4 rfl) ⟨rfl, hG⟩
       refine .cons (fun ss hlo hhi vals1 xw hG hV => ?_) ?_
       ·obtain rfl | rfl | rfl : ss = 0 ∨ ss = 1 ∨ ss = 2 := st2 hlo hhi
        ·rw [← hfe]
         have hS := (hfr vals1).sub (ts := [70]) (S' := [(70, vals1 4)]) rfl
         replace hS := hS.conv (t := 70) rfl (show (vals1 4) = .pointer (some ⟨blkOf v1_l, oofOf v1_l + (i_2).toNat * 4 + 1, none⟩) from hV 4 (by decide))
         obtain ⟨I2, hI2, H⟩ := Gx.ex hG
         exact L_val hS rfl (Ob_load tHb4 rfl rfl rfl ((slFl (H.sl 5 rfl) hg8) 1 _ rfl)) ⟨rfl, hG⟩
        ·rw [← hfe]
         have hS := (hfr vals1).sub (ts := [70]) (S' := [(70, vals1 4)]) rfl
         replace hS := hS.conv (t := 70) rfl (show (vals1 4) = .pointer (some ⟨blkOf v1_l, oofOf v1_l + (i_2).toNat * 4 + 1, none⟩) from hV 4 (by decide))
         obtain ⟨I2, hI2, H⟩ := Gx.ex hG
         exact L_val hS rfl (Ob_load tHb4 rfl rfl rfl ((slFl (H.sl 6 rfl) hg8) 1 _ rfl)) ⟨rfl, hG⟩
        ·rw [← hfe]
         have hS := (hfr vals1).sub (ts := [70]) (S' := [(70, vals1 4)]) rfl
         replace hS := hS.conv (t := 70) rfl (show (vals1 4) = .pointer (some ⟨blkOf v1_l, oofOf v1_l + (i_2).toNat * 4 + 1, none⟩) from hV 4 (by decide))
         obtain ⟨I2, hI2, H⟩ := Gx.ex hG
         exact L_val hS rfl (Ob_load tHb4 rfl rfl rfl ((slFl (H.sl 5 rfl) hg8) 1 _ rfl)) ⟨rfl, hG⟩
       refine .cons (fun ss hlo hhi vals1 xw hG hV => ?_) ?_
       ·obtain rfl | rfl : ss = 0 ∨ ss = 1 := st1 hlo hhi
        all_goals
        ·rw [← hfe]
         have hS := (hfr vals1).sub (ts := [10]) (S' := [(10, .int .i64 (i_2.tmod 4))]) rfl
         exact L_val hS rfl (Ob_c tHb4 rfl) ⟨rfl, hG⟩
       refine .cons (fun ss hlo hhi vals1 xw hG hV => ?_) ?_
       ·obtain rfl | rfl : ss = 0 ∨ ss = 1 := st1 hlo hhi
        all_goals
        ·rw [← hfe]
         have hS := (hfr vals1).sub (ts := [0]) (S' := [(0, v1_l)]) rfl
         exact L_val hS rfl (Ob_c tHb4 rfl) ⟨rfl, hG⟩
       refine .cons (fun ss hlo hhi vals1 xw hG hV => ?_) ?_
       ·obtain rfl | rfl : ss = 0 ∨ ss = 1 := st1 hlo hhi
        all_goals
        ·rw [← hfe]
         have hS := (hfr vals1).sub (ts := [9]) (S' := [(9, .int .i64 i_2)]) rfl
         exact L_val hS rfl (Ob_c tHb4 rfl) ⟨rfl, hG⟩
       refine .cons (fun ss hlo hhi vals1 xw hG hV => ?_) ?_
       ·obtain rfl | rfl : ss = 0 ∨ ss = 1 := st1 hlo hhi
        ·rw [← hfe]
         have hS := (hfr vals1).sub (ts := [73, 74]) (S' := [(73, vals1 7), (74, vals1 8)]) rfl
         replace hS := hS.conv (t := 73) rfl (show (vals1 7) = v1_l from hV 7 (by decide))
         replace hS := hS.conv (t := 74) rfl (show (vals1 8) = .int .i64 i_2 from hV 8 (by decide))
         obtain ⟨I2, hI2, H⟩ := Gx.ex hG
         exact L_val hS rfl (Ob_sidx tHb4 rfl rfl rfl rfl (slPl (H.sl 5 rfl) hg9) hg9) ⟨rfl, hG⟩
        ·rw [← hfe]
         have hS := (hfr vals1).sub (ts := [73, 74]) (S' := [(73, vals1 7), (74, vals1 8)]) rfl
         replace hS := hS.conv (t := 73) rfl (show (vals1 7) = v1_l from hV 7 (by decide))
         replace hS := hS.conv (t := 74) rfl (show (vals1 8) = .int .i64 i_2 from hV 8 (by decide))
         obtain ⟨I2, hI2, H⟩ := Gx.ex hG
         exact L_val hS rfl (Ob_sidx tHb4 rfl rfl rfl rfl (slPl (H.sl 6 rfl) hg9) hg9) ⟨rfl, hG⟩
       refine .cons (fun ss hlo hhi vals1 xw hG hV => ?_) ?_
       ·obtain rfl | rfl : ss = 0 ∨ ss = 1 := st1 hlo hhi
        all_goals
        ·rw [← hfe]
         have hS := (hfr vals1).sub (ts := [75]) (S' := [(75, vals1 9)]) rfl
         replace hS := hS.conv (t := 75) rfl (show (vals1 9) = .pointer (some ⟨blkOf v1_l, oofOf v1_l + (i_2).toNat * 4, none⟩) from hV 9 (by decide))
         exact L_val hS rfl (Ob_c tHb4 rfl) ⟨rfl, hG⟩
       refine .cons (fun ss hlo hhi vals1 xw hG hV => ?_) ?_
       ·obtain rfl | rfl : ss = 0 ∨ ss = 1 := st1 hlo hhi
        ·rw [← hfe]
         have hS := (hfr vals1).sub (ts := [76]) (S' := [(76, vals1 10)]) rfl
         replace hS := hS.conv (t := 76) rfl (show (vals1 10) = .pointer (some ⟨blkOf v1_l, oofOf v1_l + (i_2).toNat * 4 + 1, none⟩) from hV 10 (by decide))
         obtain ⟨I2, hI2, H⟩ := Gx.ex hG
         exact L_val hS rfl (Ob_load tHb4 rfl rfl rfl ((slFl (H.sl 5 rfl) hg9) 1 _ rfl)) ⟨rfl, hG⟩
        ·rw [← hfe]
         have hS := (hfr vals1).sub (ts := [76]) (S' := [(76, vals1 10)]) rfl
         replace hS := hS.conv (t := 76) rfl (show (vals1 10) = .pointer (some ⟨blkOf v1_l, oofOf v1_l + (i_2).toNat * 4 + 1, none⟩) from hV 10 (by decide))
         obtain ⟨I2, hI2, H⟩ := Gx.ex hG
         exact L_val hS rfl (Ob_load tHb4 rfl rfl rfl ((slFl (H.sl 6 rfl) hg9) 1 _ rfl)) ⟨rfl, hG⟩
       refine .cons (fun ss hlo hhi vals1 xw hG hV => ?_) ?_
       ·obtain rfl | rfl : ss = 0 ∨ ss = 1 := st1 hlo hhi
        all_goals
        ·rw [← hfe]
         have hS := (hfr vals1).sub (ts := [72, 7]) (S' := [(72, vals1 6), (7, .pointer (some ⟨b3, 0, none⟩))]) rfl
         replace hS := hS.conv (t := 72) rfl (show (vals1 6) = .int .i64 (i_2.tmod 4) from hV 6 (by decide))
         exact L_val hS rfl (Ob_apix (m := 4) (i_2.tmod 4).toNat rfl rfl rfl Try.underlying30 (by kernel_rfl) (have h := hg4; by omega) (have h := hg4; by omega)) ⟨rfl, hG⟩
       refine .cons (fun ss hlo hhi vals1 xw hG hV => ?_) ?_
       ·obtain rfl | rfl : ss = 0 ∨ ss = 1 := st1 hlo hhi
        all_goals
        ·rw [← hfe]
         have hS := (hfr vals1).sub (ts := [78, 77]) (S' := [(78, vals1 12), (77, vals1 11)]) rfl
         replace hS := hS.conv (t := 78) rfl (show (vals1 12) = .pointer (some ⟨b3, 0 + (i_2.tmod 4).toNat * 4, none⟩) from hV 12 (by decide))
         replace hS := hS.conv (t := 77) rfl (show (vals1 11) = .int .i64 ((l.getD (i_2).toNat default).n) from hV 11 (by decide))
         exact L_val hS rfl (Ob_apix (m := 1) ((l.getD (i_2).toNat default).n).toNat rfl rfl rfl Try.underlying29 (by kernel_rfl) (have h := hg7; by omega) (have h := hg7; by omega)) ⟨rfl, hG⟩
       refine .cons (fun ss hlo hhi vals1 xw hG hV => ?_) ?_
       ·obtain rfl | rfl : ss = 0 ∨ ss = 1 := st1 hlo hhi
        ·rw [← hfe]
         have hS := (hfr vals1).sub (ts := [79]) (S' := [(79, vals1 13)]) rfl
         replace hS := hS.conv (t := 79) rfl (show (vals1 13) = .pointer (some ⟨b3, 0 + (i_2.tmod 4).toNat * 4 + ((l.getD (i_2).toNat default).n).toNat * 1, none⟩) from hV 13 (by decide))
         obtain ⟨I2, hI2, H⟩ := Gx.ex hG
         exact L_val hS rfl (Ob_load tHb4 rfl rfl rfl ((H.bx 1 rfl).cell _ hv3)) ⟨rfl, hG⟩
        ·rw [← hfe]
         have hS := (hfr vals1).sub (ts := [79]) (S' := [(79, vals1 13)]) rfl
         replace hS := hS.conv (t := 79) rfl (show (vals1 13) = .pointer (some ⟨b3, 0 + (i_2.tmod 4).toNat * 4 + ((l.getD (i_2).toNat default).n).toNat * 1, none⟩) from hV 13 (by decide))
         obtain ⟨I2, hI2, H⟩ := Gx.ex hG
         exact L_val hS rfl (Ob_load tHb4 rfl rfl rfl ((H.bx 2 rfl).cell _ hv3)) ⟨rfl, hG⟩
       refine .cons (fun ss hlo hhi vals1 xw hG hV => ?_) ?_
       ·obtain rfl : ss = 0 := Nat.le_antisymm hhi hlo
        rw [← hfe]
        have hS := (hfr vals1).sub (ts := [0]) (S' := [(0, v1_l)]) rfl
        exact L_val hS rfl (Ob_c tHb4 rfl) ⟨rfl, hG⟩
       refine .cons (fun ss hlo hhi vals1 xw hG hV => ?_) ?_
       ·obtain rfl : ss = 0 := Nat.le_antisymm hhi hlo
        rw [← hfe]
        have hS := (hfr vals1).sub (ts := [9]) (S' := [(9, .int .i64 i_2)]) rfl
        exact L_val hS rfl (Ob_c tHb4 rfl) ⟨rfl, hG⟩
       refine .cons (fun ss hlo hhi vals1 xw hG hV => ?_) ?_
       ·obtain rfl : ss = 0 := Nat.le_antisymm hhi hlo
        rw [← hfe]
        have hS := (hfr vals1).sub (ts := [81, 82]) (S' := [(81, vals1 15), (82, vals1 16)]) rfl
        replace hS := hS.conv (t := 81) rfl (show (vals1 15) = v1_l from hV 15 (by decide))
        replace hS := hS.conv (t := 82) rfl (show (vals1 16) = .int .i64 i_2 from hV 16 (by decide))
        obtain ⟨I2, hI2, H⟩ := Gx.ex hG
        exact L_val hS rfl (Ob_sidx tHb4 rfl rfl rfl rfl (slPl (H.sl 5 rfl) hg10) hg10) ⟨rfl, hG⟩
       refine .cons (fun ss hlo hhi vals1 xw hG hV => ?_) ?_
       ·obtain rfl : ss = 0 := Nat.le_antisymm hhi hlo
        rw [← hfe]
        have hS := (hfr vals1).sub (ts := [83]) (S' := [(83, vals1 17)]) rfl
        replace hS := hS.conv (t := 83) rfl (show (vals1 17) = .pointer (some ⟨blkOf v1_l, oofOf v1_l + (i_2).toNat * 4, none⟩) from hV 17 (by decide))
        exact L_val hS rfl (Ob_c tHb4 rfl) ⟨rfl, hG⟩
       refine .cons (fun ss hlo hhi vals1 xw hG hV => ?_) ?_
       ·obtain rfl : ss = 0 := Nat.le_antisymm hhi hlo
        rw [← hfe]
        have hS := (hfr vals1).sub (ts := [84]) (S' := [(84, vals1 18)]) rfl
        replace hS := hS.conv (t := 84) rfl (show (vals1 18) = .pointer (some ⟨blkOf v1_l, oofOf v1_l + (i_2).toNat * 4 + 2, none⟩) from hV 18 (by decide))
        obtain ⟨I2, hI2, H⟩ := Gx.ex hG
        exact L_val hS rfl (Ob_load tHb4 rfl rfl rfl ((slFl (H.sl 5 rfl) hg10) 2 _ rfl)) ⟨rfl, hG⟩
       refine .cons (fun ss hlo hhi vals1 xw hG hV => ?_) ?_
       ·obtain rfl : ss = 0 := Nat.le_antisymm hhi hlo
        rw [← hfe]
        have hS := (hfr vals1).sub (ts := [85]) (S' := [(85, vals1 19)]) rfl
        replace hS := hS.conv (t := 85) rfl (show (vals1 19) = .string ((l.getD (i_2).toNat default).s) from hV 19 (by decide))
        obtain ⟨I2, hI2, H⟩ := Gx.ex hG
        exact L_bslice H (vs := [(0, .string ((l.getD (i_2).toNat default).s))]) (cl := [.string ((l.getD (i_2).toNat default).s)]) (e := 9) hS rfl rfl rfl (fun w => run_bslice (z := .string ByteArray.empty) (m := 1) Try.underlying28 (by kernel_rfl) rfl rfl (by decide) (by simp [Instr.fill, Value.cells]) w) fun yw b hK H => ⟨rfl, Gx.go hG hI2 hK (fun _ h => h) H⟩
       refine .cons (fun ss hlo hhi vals1 xw hG hV => ?_) ?_
       ·obtain rfl : ss = 1 := Nat.le_antisymm hhi hlo
        rw [← hfe]
        have hS := (hfr vals1).sub (ts := [80, 86]) (S' := [(80, vals1 14), (86, vals1 20)]) rfl
        replace hS := hS.conv (t := 80) rfl (show (vals1 14) = v4 from hV 14 (by decide))
        replace hS := hS.conv (t := 86) rfl (show (vals1 20) = .slice (some ⟨blkOf (vals1 20), 0, none⟩) 1 1 from hV 20 (by decide))
        obtain ⟨I2, hI2, H⟩ := Gx.ex hG
        exact L_appO H 1 E_28_YHb4 [(l.getD (i_2).toNat default).s] rfl rfl hS rfl rfl rfl rfl (slRep2.box1 (H.bx 0 rfl) ⟨rfl, trivial⟩) hg11 (by decide) fun v yw hK H => ⟨trivial, Gx.go hG hI2 hK (fun _ h => h) (H.sub [(0, false), (1, false), (1, false), (1, false), (1, false), (1, true)] rfl)⟩
       refine .cons (fun ss hlo hhi vals1 xw hG hV => ?_) ?_
       ·obtain rfl | rfl | rfl : ss = 0 ∨ ss = 1 ∨ ss = 2 := st2 hlo hhi
        all_goals
        ·rw [← hfe]
         have hS := (hfr vals1).sub (ts := [66, 7]) (S' := [(66, vals1 0), (7, .pointer (some ⟨b3, 0, none⟩))]) rfl
         replace hS := hS.conv (t := 66) rfl (show (vals1 0) = .int .i64 (i_2.tmod 4) from hV 0 (by decide))
         exact L_val hS rfl (Ob_apix (m := 4) (i_2.tmod 4).toNat rfl rfl rfl Try.underlying30 (by kernel_rfl) (have h := hg4; by omega) (have h := hg4; by omega)) ⟨rfl, hG⟩
       refine .cons (fun ss hlo hhi vals1 xw hG hV => ?_) ?_
       ·obtain rfl : ss = 2 := Nat.le_antisymm hhi hlo
        rw [← hfe]
        have hS := (hfr vals1).sub (ts := [88, 71]) (S' := [(88, vals1 22), (71, vals1 5)]) rfl
        replace hS := hS.conv (t := 88) rfl (show (vals1 22) = .pointer (some ⟨b3, 0 + (i_2.tmod 4).toNat * 4, none⟩) from hV 22 (by decide))
        replace hS := hS.conv (t := 71) rfl (show (vals1 5) = .int .i64 ((l.getD (i_2).toNat default).n) from hV 5 (by decide))
        exact L_val hS rfl (Ob_apix (m := 1) ((l.getD (i_2).toNat default).n).toNat rfl rfl rfl Try.underlying29 (by kernel_rfl) (have h := hg7; by omega) (have h := hg7; by omega)) ⟨rfl, hG⟩
       refine .cons (fun ss hlo hhi vals1 xw hG hV => ?_) ?_
       ·obtain rfl : ss = 2 := Nat.le_antisymm hhi hlo
        rw [← hfe]
        have hS := (hfr vals1).sub (ts := [89, 87]) (S' := [(89, vals1 23), (87, vals1 21)]) rfl
        replace hS := hS.conv (t := 89) rfl (show (vals1 23) = .pointer (some ⟨b3, 0 + (i_2.tmod 4).toNat * 4 + ((l.getD (i_2).toNat default).n).toNat * 1, none⟩) from hV 23 (by decide))
        obtain ⟨I2, hI2, H⟩ := Gx.ex hG
        exact L_store tHb4 H 1 rfl hS rfl rfl rfl rfl rfl (slS.cells (H.owshape 0 rfl)) rfl rfl (one_cons (slS.one (H.owshape 0 rfl)) one_nil) (by rw [hl3]; exact hb3) (putCells_one _ _ _) fun yw hK H => ⟨trivial, Gx.go hG hI2 hK (fun _ h => h) H⟩
       exact .nil
      ·intro vals1 a w11 Z hG hV
       replace Z := Z.sub (ts := [0, 3, 7, 8, 9]) (S' := [(0, v1_l), (3, .pointer (some ⟨b1, 0, none⟩)), (7, .pointer (some ⟨b3, 0, none⟩)), (8, .pointer (some ⟨b4, 0, none⟩)), (9, .int .i64 i_2)]) rfl
       obtain ⟨I6, _, H⟩ := Gx.ex hG
       clear hG hV
       replace Z := Z.sub (ts := [0, 3, 7, 8, 9]) rfl
       replace H : Hf I D w I6 w11 [BxC b3 30 (vs3.set (0 + (i_2.tmod 4).toNat * 4 + ((l.getD (i_2).toNat default).n).toNat * 1) ((vals1 21))), OwC NS 9 (vals1 21) ((sent.getD (0 + (i_2.tmod 4).toNat * 4 + ((l.getD (i_2).toNat default).n).toNat * 1) []) ++ [(l.getD (i_2).toNat default).s]), ArR (OwC NS 9) sent vs3 (0 + (i_2.tmod 4).toNat * 4 + ((l.getD (i_2).toNat default).n).toNat * 1), ArC 4 (PtC OEhub_Hub) 24 b1 (h_2.set (0 + (i_2.tmod 4).toNat * 1) none), ArC 16 (OwC NS 9) 30 b4 (List.replicate 16 ([] : List ByteArray)), SlC NElaw23_Act v1_l l] := H
       replace H : Hf I D w I6 w11 [ArC 16 (OwC NS 9) 30 b3 (sent.set (0 + (i_2.tmod 4).toNat * 4 + ((l.getD (i_2).toNat default).n).toNat * 1) ((sent.getD (0 + (i_2.tmod 4).toNat * 4 + ((l.getD (i_2).toNat default).n).toNat * 1) []) ++ [(l.getD (i_2).toNat default).s])), ArC 4 (PtC OEhub_Hub) 24 b1 (h_2.set (0 + (i_2.tmod 4).toNat * 1) none), ArC 16 (OwC NS 9) 30 b4 (List.replicate 16 ([] : List ByteArray)), SlC NElaw23_Act v1_l l] := H.arShut hl3 hxl3 hb3 [(1, false), (0, false), (0, false)] rfl
       refine p_blk ?_
       refine p_then ?_
       exact ⟨(h_2.set (0 + (i_2.tmod 4).toNat * 1) none), (sent.set (0 + (i_2.tmod 4).toNat * 4 + ((l.getD (i_2).toNat default).n).toNat * 1) ((sent.getD (0 + (i_2.tmod 4).toNat * 4 + ((l.getD (i_2).toNat default).n).toNat * 1) []) ++ [(l.getD (i_2).toNat default).s])), Z.sub (ts := [0, 3, 7, 8, 9]) rfl, ⟨I6, (H.sub [(1, false), (0, false), (0, false), (0, true)] rfl).eq rfl⟩, hF⟩
     ·replace hF := ite_f hc4 hF
      refine wp_skip ?_
      refine p_blk ?_
      refine p_then ?_
      exact ⟨(h_2.set (0 + (i_2.tmod 4).toNat * 1) none), sent, Z.sub (ts := [0, 3, 7, 8, 9]) rfl, ⟨I5, (H.sub [(0, false), (0, false), (0, false), (0, true)] rfl).eq rfl⟩, hF⟩
    ·obtain ⟨b5, hv, H⟩ := H.optS 0 rfl ho2
     subst hv
     replace H : Hf I D w I3 w7 [OEhub_Hub b5 x_2, BxC b1 24 vs2, ArR (PtC OEhub_Hub) h_2 vs2 (0 + (i_2.tmod 4).toNat * 1), ArC 16 (OwC NS 9) 30 b3 sent, ArC 16 (OwC NS 9) 30 b4 (List.replicate 16 ([] : List ByteArray)), SlC NElaw23_Act v1_l l] := H
     obtain ⟨hg12, hF⟩ := chk_in hF
     obtain ⟨hg13, hF⟩ := chk_in hF
     obtain ⟨s0, hx3, hF⟩ := bnd_in hF
     refine f_quietS 13 (by kernel_rfl) (by kernel_rfl) (by kernel_rfl) (by kernel_rfl) (by kernel_rfl) Z ?_; clear Z; intro Z
     refine q_runk tHb4 Z 1 rfl rfl ?_; clear Z a; intro a Z
     refine q_ob Z (v := .pointer (some ⟨b1, 0 + (i_2.tmod 4).toNat * 1, none⟩)) rfl rfl (by decide) rfl (fun _ hw => Ob_apix (m := 1) (i_2.tmod 4).toNat rfl rfl rfl Try.underlying24 (by kernel_rfl) (have h := hg4; by omega) (have h := hg4; by omega)) ?_; clear Z a; intro a Z
     refine q_ob Z (v := .pointer (some ⟨b5, 0, none⟩)) rfl rfl (by decide) rfl (fun _ hw => Ob_load tHb4 rfl rfl rfl (((H.blw hw).bx 1 rfl).cell _ hv2)) ?_; clear Z a; intro a Z
     refine q_runk tHb4 Z 2 rfl rfl ?_; clear Z a; intro a Z
     refine q_ob Z (v := .pointer (some ⟨blkOf v1_l, oofOf v1_l + (i_2).toNat * 4, none⟩)) rfl rfl (by decide) rfl (fun _ hw => Ob_sidx tHb4 rfl rfl rfl rfl (slPl ((H.blw hw).sl 5 rfl) hg12) hg12) ?_; clear Z a; intro a Z
     refine q_runk tHb4 Z 1 rfl rfl ?_; clear Z a; intro a Z
     refine q_ob Z (v := .int .i64 ((l.getD (i_2).toNat default).n)) rfl rfl (by decide) rfl (fun _ hw => Ob_load tHb4 rfl rfl rfl ((slFl ((H.blw hw).sl 5 rfl) hg12) 1 _ rfl)) ?_; clear Z a; intro a Z
     refine q_runk tHb4 Z 2 rfl rfl ?_; clear Z a; intro a Z
     refine q_ob Z (v := .pointer (some ⟨blkOf v1_l, oofOf v1_l + (i_2).toNat * 4, none⟩)) rfl rfl (by decide) rfl (fun _ hw => Ob_sidx tHb4 rfl rfl rfl rfl (slPl ((H.blw hw).sl 5 rfl) hg13) hg13) ?_; clear Z a; intro a Z
     refine q_runk tHb4 Z 1 rfl rfl ?_; clear Z a; intro a Z
     refine q_ob Z (v := .string ((l.getD (i_2).toNat default).s)) rfl rfl (by decide) rfl (fun _ hw => Ob_load tHb4 rfl rfl rfl ((slFl ((H.blw hw).sl 5 rfl) hg13) 2 _ rfl)) ?_; clear Z a; intro a Z
     refine q_endS Z [0, 3, 7, 8, 9, 10, 51, 52, 53, 54, 55, 56, 57, 58, 59, 60, 61, 62, 63] rfl ?_; clear Z; intro w12 hb Z
     replace H : Hf I D w I3 w12 [OEhub_Hub b5 x_2, BxC b1 24 vs2, ArR (PtC OEhub_Hub) h_2 vs2 (0 + (i_2.tmod 4).toNat * 1), ArC 16 (OwC NS 9) 30 b3 sent, ArC 16 (OwC NS 9) 30 b4 (List.replicate 16 ([] : List ByteArray)), SlC NElaw23_Act v1_l l] := H.blw hb
     clear hb
     refine h_call Z H (js := [(0, false)]) rfl (caps := #[]) fn_5_YHb4 rfl rfl rfl rfl rfl (by decide) rfl rfl (fun D1 hS => have hq := c_hub_Hub_Send hx3 hS; hq) ?_; clear Z a; intro vv a w13 D2 hr hF2 Z
     obtain ⟨rfl, I7, K⟩ := hr
     have H : Hf I D w I7 w13 [OEhub_Hub b5 s0.2, BxC b1 24 vs2, ArR (PtC OEhub_Hub) h_2 vs2 (0 + (i_2.tmod 4).toNat * 1), ArC 16 (OwC NS 9) 30 b3 sent, ArC 16 (OwC NS 9) 30 b4 (List.replicate 16 ([] : List ByteArray)), SlC NElaw23_Act v1_l l] := hF2 K
     clear hF2 K
     refine s_runk tHb4 Z 1 rfl rfl ?_; clear Z a; intro a Z
     refine s_end Z [0, 3, 7, 8, 9, 10, 65] rfl ?_; clear Z; intro Z
     replace H : Hf I D w I7 w13 [PtC OEhub_Hub (.pointer (some ⟨b5, 0, none⟩)) (some s0.2), BxC b1 24 vs2, ArR (PtC OEhub_Hub) h_2 vs2 (0 + (i_2.tmod 4).toNat * 1), ArC 16 (OwC NS 9) 30 b3 sent, ArC 16 (OwC NS 9) 30 b4 (List.replicate 16 ([] : List ByteArray)), SlC NElaw23_Act v1_l l] := H.mkS (K := OEhub_Hub) 0 rfl
     replace H : Hf I D w I7 w13 [ArC 4 (PtC OEhub_Hub) 24 b1 (h_2.set (0 + (i_2.tmod 4).toNat * 1) (some s0.2)), ArC 16 (OwC NS 9) 30 b3 sent, ArC 16 (OwC NS 9) 30 b4 (List.replicate 16 ([] : List ByteArray)), SlC NElaw23_Act v1_l l] := H.arShut0 hl2 hxl2 hb2 hv2 [(0, false), (0, false), (0, false)] rfl
     refine p_then ?_
     refine f_cond Z rfl (fun hc5 => ?_) (fun hc5 => ?_)
     ·replace hF := ite_t hc5 hF
      obtain ⟨hg14, hF⟩ := chk_in hF
      have hb4 : 0 + (i_2.tmod 4).toNat * 4 + ((l.getD (i_2).toNat default).n).toNat * 1 < 16 := by omega
      obtain ⟨v5, vs4, hl4, hxl4, hv4, H⟩ := H.arOpen 1 rfl (0 + (i_2.tmod 4).toNat * 4 + ((l.getD (i_2).toNat default).n).toNat * 1) hb4 ([] : List ByteArray)
      replace H : Hf I D w I7 w13 [OwC NS 9 v5 (sent.getD (0 + (i_2.tmod 4).toNat * 4 + ((l.getD (i_2).toNat default).n).toNat * 1) []), BxC b3 30 vs4, ArR (OwC NS 9) sent vs4 (0 + (i_2.tmod 4).toNat * 4 + ((l.getD (i_2).toNat default).n).toNat * 1), ArC 4 (PtC OEhub_Hub) 24 b1 (h_2.set (0 + (i_2.tmod 4).toNat * 1) (some s0.2)), ArC 16 (OwC NS 9) 30 b4 (List.replicate 16 ([] : List ByteArray)), SlC NElaw23_Act v1_l l] := H
      obtain ⟨hg15, hF⟩ := chk_in hF
      obtain ⟨hg16, hF⟩ := chk_in hF
      obtain ⟨hg17, hF⟩ := chk_in hF
      obtain ⟨hg18, hF⟩ := chk_in hF
      refine f_regionL Z (by kernel_rfl) (by kernel_rfl) (by decide) (by decide) [20, 21, 24] [(0, 0, 2), (0, 0, 2), (0, 0, 2), (6, 0, 2), (14, 0, 2), (30, 0, 2), (0, 0, 1), (0, 0, 1), (0, 0, 1), (384, 0, 1), (896, 0, 1), (1920, 0, 1), (64, 0, 1), (8128, 0, 1), (16320, 0, 1), (0, 0, 0), (0, 0, 0), (98304, 0, 0), (229376, 0, 0), (491520, 0, 0), (1015808, 0, 0), (2097088, 1, 1), (1, 0, 2), (8388607, 2, 2), (16777215, 2, 2)] (by kernel_rfl) (fun jj vv => cond (Nat.blt jj 12) (cond (Nat.blt jj 6) (cond (Nat.blt jj 3) (cond (Nat.blt jj 1) (vv = .int .i64 (i_2.tmod 4)) (cond (Nat.blt jj 2) (vv = v1_l) (vv = .int .i64 i_2))) (cond (Nat.blt jj 4) (vv = .pointer (some ⟨blkOf v1_l, oofOf v1_l + (i_2).toNat * 4, none⟩)) (cond (Nat.blt jj 5) (vv = .pointer (some ⟨blkOf v1_l, oofOf v1_l + (i_2).toNat * 4 + 1, none⟩)) (vv = .int .i64 ((l.getD (i_2).toNat default).n))))) (cond (Nat.blt jj 9) (cond (Nat.blt jj 7) (vv = .int .i64 (i_2.tmod 4)) (cond (Nat.blt jj 8) (vv = v1_l) (vv = .int .i64 i_2))) (cond (Nat.blt jj 10) (vv = .pointer (some ⟨blkOf v1_l, oofOf v1_l + (i_2).toNat * 4, none⟩)) (cond (Nat.blt jj 11) (vv = .pointer (some ⟨blkOf v1_l, oofOf v1_l + (i_2).toNat * 4 + 1, none⟩)) (vv = .int .i64 ((l.getD (i_2).toNat default).n)))))) (cond (Nat.blt jj 18) (cond (Nat.blt jj 15) (cond (Nat.blt jj 13) (vv = .pointer (some ⟨b3, 0 + (i_2.tmod 4).toNat * 4, none⟩)) (cond (Nat.blt jj 14) (vv = .pointer (some ⟨b3, 0 + (i_2.tmod 4).toNat * 4 + ((l.getD (i_2).toNat default).n).toNat * 1, none⟩)) (vv = v5))) (cond (Nat.blt jj 16) (vv = v1_l) (cond (Nat.blt jj 17) (vv = .int .i64 i_2) (vv = .pointer (some ⟨blkOf v1_l, oofOf v1_l + (i_2).toNat * 4, none⟩))))) (cond (Nat.blt jj 21) (cond (Nat.blt jj 19) (vv = .pointer (some ⟨blkOf v1_l, oofOf v1_l + (i_2).toNat * 4 + 2, none⟩)) (cond (Nat.blt jj 20) (vv = .string ((l.getD (i_2).toNat default).s)) (vv = .slice (some ⟨blkOf vv, 0, none⟩) 1 1))) (cond (Nat.blt jj 23) (cond (Nat.blt jj 22) (True) (vv = .pointer (some ⟨b3, 0 + (i_2.tmod 4).toNat * 4, none⟩))) (cond (Nat.blt jj 24) (vv = .pointer (some ⟨b3, 0 + (i_2.tmod 4).toNat * 4 + ((l.getD (i_2).toNat default).n).toNat * 1, none⟩)) (True)))))) (fun ss vals2 xw => match ss with | 0 => Gx I D w I7 w13 xw [OwC NS 9 v5 (sent.getD (0 + (i_2.tmod 4).toNat * 4 + ((l.getD (i_2).toNat default).n).toNat * 1) []), BxC b3 30 vs4, ArR (OwC NS 9) sent vs4 (0 + (i_2.tmod 4).toNat * 4 + ((l.getD (i_2).toNat default).n).toNat * 1), ArC 4 (PtC OEhub_Hub) 24 b1 (h_2.set (0 + (i_2.tmod 4).toNat * 1) (some s0.2)), ArC 16 (OwC NS 9) 30 b4 (List.replicate 16 ([] : List ByteArray)), SlC NElaw23_Act v1_l l] | 1 => Gx I D w I7 w13 xw [BxC (blkOf (vals2 20)) 9 [.string ((l.getD (i_2).toNat default).s)], OwC NS 9 v5 (sent.getD (0 + (i_2.tmod 4).toNat * 4 + ((l.getD (i_2).toNat default).n).toNat * 1) []), BxC b3 30 vs4, ArR (OwC NS 9) sent vs4 (0 + (i_2.tmod 4).toNat * 4 + ((l.getD (i_2).toNat default).n).toNat * 1), ArC 4 (PtC OEhub_Hub) 24 b1 (h_2.set (0 + (i_2.tmod 4).toNat * 1) (some s0.2)), ArC 16 (OwC NS 9) 30 b4 (List.replicate 16 ([] : List ByteArray)), SlC NElaw23_Act v1_l l] | 2 => Gx I D w I7 w13 xw [OwC NS 9 (vals2 21) ((sent.getD (0 + (i_2.tmod 4).toNat * 4 + ((l.getD (i_2).toNat default).n).toNat * 1) []) ++ [(l.getD (i_2).toNat default).s]), BxC b3 30 vs4, ArR (OwC NS 9) sent vs4 (0 + (i_2.tmod 4).toNat * 4 + ((l.getD (i_2).toNat default).n).toNat * 1), ArC 4 (PtC OEhub_Hub) 24 b1 (h_2.set (0 + (i_2.tmod 4).toNat * 1) (some s0.2)), ArC 16 (OwC NS 9) 30 b4 (List.replicate 16 ([] : List ByteArray)), SlC NElaw23_Act v1_l l] | _ => Gx I D w I7 w13 xw [BxC b3 30 (vs4.set (0 + (i_2.tmod 4).toNat * 4 + ((l.getD (i_2).toNat default).n).toNat * 1) ((vals2 21))), OwC NS 9 (vals2 21) ((sent.getD (0 + (i_2.tmod 4).toNat * 4 + ((l.getD (i_2).toNat default).n).toNat * 1) []) ++ [(l.getD (i_2).toNat default).s]), ArR (OwC NS 9) sent vs4 (0 + (i_2.tmod 4).toNat * 4 + ((l.getD (i_2).toNat default).n).toNat * 1), ArC 4 (PtC OEhub_Hub) 24 b1 (h_2.set (0 + (i_2.tmod 4).toNat * 1) (some s0.2)), ArC 16 (OwC NS 9) 30 b4 (List.replicate 16 ([] : List ByteArray)), SlC NElaw23_Act v1_l l]) (fun _ => Gx.start H) ?_ ?_
      ·intro fr hfr hfe
       refine .cons (fun ss hlo hhi vals2 xw hG hV => ?_) ?_
       ·obtain rfl | rfl | rfl : ss = 0 ∨ ss = 1 ∨ ss = 2 := st2 hlo hhi
        all_goals
        ·rw [← hfe]
         have hS := (hfr vals2).sub (ts := [10]) (S' := [(10, .int .i64 (i_2.tmod 4))]) rfl
         exact L_val hS rfl (Ob_c tHb4 rfl) ⟨rfl, hG⟩
       refine .cons (fun ss hlo hhi vals2 xw hG hV => ?_) ?_
       ·obtain rfl | rfl | rfl : ss = 0 ∨ ss = 1 ∨ ss = 2 := st2 hlo hhi
        all_goals
        ·rw [← hfe]
         have hS := (hfr vals2).sub (ts := [0]) (S' := [(0, v1_l)]) rfl
         exact L_val hS rfl (Ob_c tHb4 rfl) ⟨rfl, hG⟩
       refine .cons (fun ss hlo hhi vals2 xw hG hV => ?_) ?_
       ·obtain rfl | rfl | rfl : ss = 0 ∨ ss = 1 ∨ ss = 2 := st2 hlo hhi
        all_goals
        ·rw [← hfe]
         have hS := (hfr vals2).sub (ts := [9]) (S' := [(9, .int .i64 i_2)]) rfl
         exact L_val hS rfl (Ob_c tHb4 rfl) ⟨rfl, hG⟩
       refine .cons (fun ss hlo hhi vals2 xw hG hV => ?_) ?_
       ·obtain rfl | rfl | rfl : ss = 0 ∨ ss = 1 ∨ ss = 2 := st2 hlo hhi
        ·rw [← hfe]
         have hS := (hfr vals2).sub (ts := [67, 68]) (S' := [(67, vals2 1), (68, vals2 2)]) rfl
         replace hS := hS.conv (t := 67) rfl (show (vals2 1) = v1_l from hV 1 (by decide))
         replace hS := hS.conv (t := 68) rfl (show (vals2 2) = .int .i64 i_2 from hV 2 (by decide))
         obtain ⟨I2, hI2, H⟩ := Gx.ex hG
         exact L_val hS rfl (Ob_sidx tHb4 rfl rfl rfl rfl (slPl (H.sl 5 rfl) hg15) hg15) ⟨rfl, hG⟩
        ·rw [← hfe]
         have hS := (hfr vals2).sub (ts := [67, 68]) (S' := [(67, vals2 1), (68, vals2 2)]) rfl
         replace hS := hS.conv (t := 67) rfl (show (vals2 1) = v1_l from hV 1 (by decide))
         replace hS := hS.conv (t := 68) rfl (show (vals2 2) = .int .i64 i_2 from hV 2 (by decide))
         obtain ⟨I2, hI2, H⟩ := Gx.ex hG
         exact L_val hS rfl (Ob_sidx tHb4 rfl rfl rfl rfl (slPl (H.sl 6 rfl) hg15) hg15) ⟨rfl, hG⟩
        ·rw [← hfe]
         have hS := (hfr vals2).sub (ts := [67, 68]) (S' := [(67, vals2 1), (68, vals2 2)]) rfl
         replace hS := hS.conv (t := 67) rfl (show (vals2 1) = v1_l from hV 1 (by decide))
         replace hS := hS.conv (t := 68) rfl (show (vals2 2) = .int .i64 i_2 from hV 2 (by decide))
         obtain ⟨I2, hI2, H⟩ := Gx.ex hG
         exact L_val hS rfl (Ob_sidx tHb4 rfl rfl rfl rfl (slPl (H.sl 5 rfl) hg15) hg15) ⟨rfl, hG⟩
       refine .cons (fun ss hlo hhi vals2 xw hG hV => ?_) ?_
       ·obtain rfl | rfl | rfl : ss = 0 ∨ ss = 1 ∨ ss = 2 := st2 hlo hhi
        all_goals
        ·rw [← hfe]
         have hS := (hfr vals2).sub (ts := [69]) (S' := [(69, vals2 3)]) rfl
         replace hS := hS.conv (t := 69) rfl (show (vals2 3) = .pointer (some ⟨blkOf v1_l, oofOf v1_l + (i_2).toNat * 4, none⟩) from hV 3 (by decide))
         exact L_val hS rfl (Ob_c tHb4 rfl) ⟨rfl, hG⟩
       refine .cons (fun ss hlo hhi vals2 xw hG hV => ?_) ?_
       ·obtain rfl | rfl | rfl : ss = 0 ∨ ss = 1 ∨ ss = 2 := st2 hlo hhi
        ·rw [← hfe]
         have hS := (hfr vals2).sub (ts := [70]) (S' := [(70, vals2 4)]) rfl
         replace hS := hS.conv (t := 70) rfl (show (vals2 4) = .pointer (some ⟨blkOf v1_l, oofOf v1_l + (i_2).toNat * 4 + 1, none⟩) from hV 4 (by decide))
         obtain ⟨I2, hI2, H⟩ := Gx.ex hG
         exact L_val hS rfl (Ob_load tHb4 rfl rfl rfl ((slFl (H.sl 5 rfl) hg15) 1 _ rfl)) ⟨rfl, hG⟩
        ·rw [← hfe]
         have hS := (hfr vals2).sub (ts := [70]) (S' := [(70, vals2 4)]) rfl
         replace hS := hS.conv (t := 70) rfl (show (vals2 4) = .pointer (some ⟨blkOf v1_l, oofOf v1_l + (i_2).toNat * 4 + 1, none⟩) from hV 4 (by decide))
         obtain ⟨I2, hI2, H⟩ := Gx.ex hG
         exact L_val hS rfl (Ob_load tHb4 rfl rfl rfl ((slFl (H.sl 6 rfl) hg15) 1 _ rfl)) ⟨rfl, hG⟩
        ·rw [← hfe]
         have hS := (hfr vals2).sub (ts := [70]) (S' := [(70, vals2 4)]) rfl
         replace hS := hS.conv (t := 70) rfl (show (vals2 4) = .pointer (some ⟨blkOf v1_l, oofOf v1_l + (i_2).toNat * 4 + 1, none⟩) from hV 4 (by decide))
         obtain ⟨I2, hI2, H⟩ := Gx.ex hG
         exact L_val hS rfl (Ob_load tHb4 rfl rfl rfl ((slFl (H.sl 5 rfl) hg15) 1 _ rfl)) ⟨rfl, hG⟩
       refine .cons (fun ss hlo hhi vals2 xw hG hV => ?_) ?_
       ·obtain rfl | rfl : ss = 0 ∨ ss = 1 := st1 hlo hhi
        all_goals
        ·rw [← hfe]
         have hS := (hfr vals2).sub (ts := [10]) (S' := [(10, .int .i64 (i_2.tmod 4))]) rfl
         exact L_val hS rfl (Ob_c tHb4 rfl) ⟨rfl, hG⟩
       refine .cons (fun ss hlo hhi vals2 xw hG hV => ?_) ?_
       ·obtain rfl | rfl : ss = 0 ∨ ss = 1 := st1 hlo hhi
        all_goals
        ·rw [← hfe]
         have hS := (hfr vals2).sub (ts := [0]) (S' := [(0, v1_l)]) rfl
         exact L_val hS rfl (Ob_c tHb4 rfl) ⟨rfl, hG⟩
       refine .cons (fun ss hlo hhi vals2 xw hG hV => ?_) ?_
       ·obtain rfl | rfl : ss = 0 ∨ ss = 1 := st1 hlo hhi
        all_goals
        ·rw [← hfe]
         have hS := (hfr vals2).sub (ts := [9]) (S' := [(9, .int .i64 i_2)]) rfl
         exact L_val hS rfl (Ob_c tHb4 rfl) ⟨rfl, hG⟩
       refine .cons (fun ss hlo hhi vals2 xw hG hV => ?_) ?_
       ·obtain rfl | rfl : ss = 0 ∨ ss = 1 := st1 hlo hhi
        ·rw [← hfe]
         have hS := (hfr vals2).sub (ts := [73, 74]) (S' := [(73, vals2 7), (74, vals2 8)]) rfl
         replace hS := hS.conv (t := 73) rfl (show (vals2 7) = v1_l from hV 7 (by decide))
         replace hS := hS.conv (t := 74) rfl (show (vals2 8) = .int .i64 i_2 from hV 8 (by decide))
         obtain ⟨I2, hI2, H⟩ := Gx.ex hG
         exact L_val hS rfl (Ob_sidx tHb4 rfl rfl rfl rfl (slPl (H.sl 5 rfl) hg16) hg16) ⟨rfl, hG⟩
        ·rw [← hfe]
         have hS := (hfr vals2).sub (ts := [73, 74]) (S' := [(73, vals2 7), (74, vals2 8)]) rfl
         replace hS := hS.conv (t := 73) rfl (show (vals2 7) = v1_l from hV 7 (by decide))
         replace hS := hS.conv (t := 74) rfl (show (vals2 8) = .int .i64 i_2 from hV 8 (by decide))
         obtain ⟨I2, hI2, H⟩ := Gx.ex hG
         exact L_val hS rfl (Ob_sidx tHb4 rfl rfl rfl rfl (slPl (H.sl 6 rfl) hg16) hg16) ⟨rfl, hG⟩
       refine .cons (fun ss hlo hhi vals2 xw hG hV => ?_) ?_
       ·obtain rfl | rfl : ss = 0 ∨ ss = 1 := st1 hlo hhi
        all_goals
        ·rw [← hfe]
         have hS := (hfr vals2).sub (ts := [75]) (S' := [(75, vals2 9)]) rfl
         replace hS := hS.conv (t := 75) rfl (show (vals2 9) = .pointer (some ⟨blkOf v1_l, oofOf v1_l + (i_2).toNat * 4, none⟩) from hV 9 (by decide))
         exact L_val hS rfl (Ob_c tHb4 rfl) ⟨rfl, hG⟩
       refine .cons (fun ss hlo hhi vals2 xw hG hV => ?_) ?_
       ·obtain rfl | rfl : ss = 0 ∨ ss = 1 := st1 hlo hhi
        ·rw [← hfe]
         have hS := (hfr vals2).sub (ts := [76]) (S' := [(76, vals2 10)]) rfl
         replace hS := hS.conv (t := 76) rfl (show (vals2 10) = .pointer (some ⟨blkOf v1_l, oofOf v1_l + (i_2).toNat * 4 + 1, none⟩) from hV 10 (by decide))
         obtain ⟨I2, hI2, H⟩ := Gx.ex hG
         exact L_val hS rfl (Ob_load tHb4 rfl rfl rfl ((slFl (H.sl 5 rfl) hg16) 1 _ rfl)) ⟨rfl, hG⟩
        ·rw [← hfe]
         have hS := (hfr vals2).sub (ts := [76]) (S' := [(76, vals2 10)]) rfl
         replace hS := hS.conv (t := 76) rfl (show (vals2 10) = .pointer (some ⟨blkOf v1_l, oofOf v1_l + (i_2).toNat * 4 + 1, none⟩) from hV 10 (by decide))
         obtain ⟨I2, hI2, H⟩ := Gx.ex hG
         exact L_val hS rfl (Ob_load tHb4 rfl rfl rfl ((slFl (H.sl 6 rfl) hg16) 1 _ rfl)) ⟨rfl, hG⟩
       refine .cons (fun ss hlo hhi vals2 xw hG hV => ?_) ?_
       ·obtain rfl | rfl : ss = 0 ∨ ss = 1 := st1 hlo hhi
        all_goals
        ·rw [← hfe]
         have hS := (hfr vals2).sub (ts := [72, 7]) (S' := [(72, vals2 6), (7, .pointer (some ⟨b3, 0, none⟩))]) rfl
         replace hS := hS.conv (t := 72) rfl (show (vals2 6) = .int .i64 (i_2.tmod 4) from hV 6 (by decide))
         exact L_val hS rfl (Ob_apix (m := 4) (i_2.tmod 4).toNat rfl rfl rfl Try.underlying30 (by kernel_rfl) (have h := hg4; by omega) (have h := hg4; by omega)) ⟨rfl, hG⟩
       refine .cons (fun ss hlo hhi vals2 xw hG hV => ?_) ?_
       ·obtain rfl | rfl : ss = 0 ∨ ss = 1 := st1 hlo hhi
        all_goals
        ·rw [← hfe]
         have hS := (hfr vals2).sub (ts := [78, 77]) (S' := [(78, vals2 12), (77, vals2 11)]) rfl
         replace hS := hS.conv (t := 78) rfl (show (vals2 12) = .pointer (some ⟨b3, 0 + (i_2.tmod 4).toNat * 4, none⟩) from hV 12 (by decide))
         replace hS := hS.conv (t := 77) rfl (show (vals2 11) = .int .i64 ((l.getD (i_2).toNat default).n) from hV 11 (by decide))
         exact L_val hS rfl (Ob_apix (m := 1) ((l.getD (i_2).toNat default).n).toNat rfl rfl rfl Try.underlying29 (by kernel_rfl) (have h := hg14; by omega) (have h := hg14; by omega)) ⟨rfl, hG⟩
       refine .cons (fun ss hlo hhi vals2 xw hG hV => ?_) ?_
       ·obtain rfl | rfl : ss = 0 ∨ ss = 1 := st1 hlo hhi
        ·rw [← hfe]
         have hS := (hfr vals2).sub (ts := [79]) (S' := [(79, vals2 13)]) rfl
         replace hS := hS.conv (t := 79) rfl (show (vals2 13) = .pointer (some ⟨b3, 0 + (i_2.tmod 4).toNat * 4 + ((l.getD (i_2).toNat default).n).toNat * 1, none⟩) from hV 13 (by decide))
         obtain ⟨I2, hI2, H⟩ := Gx.ex hG
         exact L_val hS rfl (Ob_load tHb4 rfl rfl rfl ((H.bx 1 rfl).cell _ hv4)) ⟨rfl, hG⟩
        ·rw [← hfe]
         have hS := (hfr vals2).sub (ts := [79]) (S' := [(79, vals2 13)]) rfl
         replace hS := hS.conv (t := 79) rfl (show (vals2 13) = .pointer (some ⟨b3, 0 + (i_2.tmod 4).toNat * 4 + ((l.getD (i_2).toNat default).n).toNat * 1, none⟩) from hV 13 (by decide))
         obtain ⟨I2, hI2, H⟩ := Gx.ex hG
         exact L_val hS rfl (Ob_load tHb4 rfl rfl rfl ((H.bx 2 rfl).cell _ hv4)) ⟨rfl, hG⟩
       refine .cons (fun ss hlo hhi vals2 xw hG hV => ?_) ?_
       ·obtain rfl : ss = 0 := Nat.le_antisymm hhi hlo
        rw [← hfe]
        have hS := (hfr vals2).sub (ts := [0]) (S' := [(0, v1_l)]) rfl
        exact L_val hS rfl (Ob_c tHb4 rfl) ⟨rfl, hG⟩
       refine .cons (fun ss hlo hhi vals2 xw hG hV => ?_) ?_
       ·obtain rfl : ss = 0 := Nat.le_antisymm hhi hlo
        rw [← hfe]
        have hS := (hfr vals2).sub (ts := [9]) (S' := [(9, .int .i64 i_2)]) rfl
        exact L_val hS rfl (Ob_c tHb4 rfl) ⟨rfl, hG⟩
       refine .cons (fun ss hlo hhi vals2 xw hG hV => ?_) ?_
       ·obtain rfl : ss = 0 := Nat.le_antisymm hhi hlo
        rw [← hfe]
        have hS := (hfr vals2).sub (ts := [81, 82]) (S' := [(81, vals2 15), (82, vals2 16)]) rfl
        replace hS := hS.conv (t := 81) rfl (show (vals2 15) = v1_l from hV 15 (by decide))
        replace hS := hS.conv (t := 82) rfl (show (vals2 16) = .int .i64 i_2 from hV 16 (by decide))
        obtain ⟨I2, hI2, H⟩ := Gx.ex hG
        exact L_val hS rfl (Ob_sidx tHb4 rfl rfl rfl rfl (slPl (H.sl 5 rfl) hg17) hg17) ⟨rfl, hG⟩
       refine .cons (fun ss hlo hhi vals2 xw hG hV => ?_) ?_
       ·obtain rfl : ss = 0 := Nat.le_antisymm hhi hlo
        rw [← hfe]
        have hS := (hfr vals2).sub (ts := [83]) (S' := [(83, vals2 17)]) rfl
        replace hS := hS.conv (t := 83) rfl (show (vals2 17) = .pointer (some ⟨blkOf v1_l, oofOf v1_l + (i_2).toNat * 4, none⟩) from hV 17 (by decide))
        exact L_val hS rfl (Ob_c tHb4 rfl) ⟨rfl, hG⟩
       refine .cons (fun ss hlo hhi vals2 xw hG hV => ?_) ?_
       ·obtain rfl : ss = 0 := Nat.le_antisymm hhi hlo
        rw [← hfe]
        have hS := (hfr vals2).sub (ts := [84]) (S' := [(84, vals2 18)]) rfl
        replace hS := hS.conv (t := 84) rfl (show (vals2 18) = .pointer (some ⟨blkOf v1_l, oofOf v1_l + (i_2).toNat * 4 + 2, none⟩) from hV 18 (by decide))
        obtain ⟨I2, hI2, H⟩ := Gx.ex hG
        exact L_val hS rfl (Ob_load tHb4 rfl rfl rfl ((slFl (H.sl 5 rfl) hg17) 2 _ rfl)) ⟨rfl, hG⟩
       refine .cons (fun ss hlo hhi vals2 xw hG hV => ?_) ?_
       ·obtain rfl : ss = 0 := Nat.le_antisymm hhi hlo
        rw [← hfe]
        have hS := (hfr vals2).sub (ts := [85]) (S' := [(85, vals2 19)]) rfl
        replace hS := hS.conv (t := 85) rfl (show (vals2 19) = .string ((l.getD (i_2).toNat default).s) from hV 19 (by decide))
        obtain ⟨I2, hI2, H⟩ := Gx.ex hG
        exact L_bslice H (vs := [(0, .string ((l.getD (i_2).toNat default).s))]) (cl := [.string ((l.getD (i_2).toNat default).s)]) (e := 9) hS rfl rfl rfl (fun w => run_bslice (z := .string ByteArray.empty) (m := 1) Try.underlying28 (by kernel_rfl) rfl rfl (by decide) (by simp [Instr.fill, Value.cells]) w) fun yw b hK H => ⟨rfl, Gx.go hG hI2 hK (fun _ h => h) H⟩
       refine .cons (fun ss hlo hhi vals2 xw hG hV => ?_) ?_
       ·obtain rfl : ss = 1 := Nat.le_antisymm hhi hlo
        rw [← hfe]
        have hS := (hfr vals2).sub (ts := [80, 86]) (S' := [(80, vals2 14), (86, vals2 20)]) rfl
        replace hS := hS.conv (t := 80) rfl (show (vals2 14) = v5 from hV 14 (by decide))
        replace hS := hS.conv (t := 86) rfl (show (vals2 20) = .slice (some ⟨blkOf (vals2 20), 0, none⟩) 1 1 from hV 20 (by decide))
        obtain ⟨I2, hI2, H⟩ := Gx.ex hG
        exact L_appO H 1 E_28_YHb4 [(l.getD (i_2).toNat default).s] rfl rfl hS rfl rfl rfl rfl (slRep2.box1 (H.bx 0 rfl) ⟨rfl, trivial⟩) hg18 (by decide) fun v yw hK H => ⟨trivial, Gx.go hG hI2 hK (fun _ h => h) (H.sub [(0, false), (1, false), (1, false), (1, false), (1, false), (1, true)] rfl)⟩
       refine .cons (fun ss hlo hhi vals2 xw hG hV => ?_) ?_
       ·obtain rfl | rfl | rfl : ss = 0 ∨ ss = 1 ∨ ss = 2 := st2 hlo hhi
        all_goals
        ·rw [← hfe]
         have hS := (hfr vals2).sub (ts := [66, 7]) (S' := [(66, vals2 0), (7, .pointer (some ⟨b3, 0, none⟩))]) rfl
         replace hS := hS.conv (t := 66) rfl (show (vals2 0) = .int .i64 (i_2.tmod 4) from hV 0 (by decide))
         exact L_val hS rfl (Ob_apix (m := 4) (i_2.tmod 4).toNat rfl rfl rfl Try.underlying30 (by kernel_rfl) (have h := hg4; by omega) (have h := hg4; by omega)) ⟨rfl, hG⟩
       refine .cons (fun ss hlo hhi vals2 xw hG hV => ?_) ?_
       ·obtain rfl : ss = 2 := Nat.le_antisymm hhi hlo
        rw [← hfe]
        have hS := (hfr vals2).sub (ts := [88, 71]) (S' := [(88, vals2 22), (71, vals2 5)]) rfl
        replace hS := hS.conv (t := 88) rfl (show (vals2 22) = .pointer (some ⟨b3, 0 + (i_2.tmod 4).toNat * 4, none⟩) from hV 22 (by decide))
        replace hS := hS.conv (t := 71) rfl (show (vals2 5) = .int .i64 ((l.getD (i_2).toNat default).n) from hV 5 (by decide))
        exact L_val hS rfl (Ob_apix (m := 1) ((l.getD (i_2).toNat default).n).toNat rfl rfl rfl Try.underlying29 (by kernel_rfl) (have h := hg14; by omega) (have h := hg14; by omega)) ⟨rfl, hG⟩
       refine .cons (fun ss hlo hhi vals2 xw hG hV => ?_) ?_
       ·obtain rfl : ss = 2 := Nat.le_antisymm hhi hlo
        rw [← hfe]
        have hS := (hfr vals2).sub (ts := [89, 87]) (S' := [(89, vals2 23), (87, vals2 21)]) rfl
        replace hS := hS.conv (t := 89) rfl (show (vals2 23) = .pointer (some ⟨b3, 0 + (i_2.tmod 4).toNat * 4 + ((l.getD (i_2).toNat default).n).toNat * 1, none⟩) from hV 23 (by decide))
        obtain ⟨I2, hI2, H⟩ := Gx.ex hG
        exact L_store tHb4 H 1 rfl hS rfl rfl rfl rfl rfl (slS.cells (H.owshape 0 rfl)) rfl rfl (one_cons (slS.one (H.owshape 0 rfl)) one_nil) (by rw [hl4]; exact hb4) (putCells_one _ _ _) fun yw hK H => ⟨trivial, Gx.go hG hI2 hK (fun _ h => h) H⟩
       exact .nil
      ·intro vals2 a w14 Z hG hV
       replace Z := Z.sub (ts := [0, 3, 7, 8, 9]) (S' := [(0, v1_l), (3, .pointer (some ⟨b1, 0, none⟩)), (7, .pointer (some ⟨b3, 0, none⟩)), (8, .pointer (some ⟨b4, 0, none⟩)), (9, .int .i64 i_2)]) rfl
       obtain ⟨I8, _, H⟩ := Gx.ex hG
       clear hG hV
       replace Z := Z.sub (ts := [0, 3, 7, 8, 9]) rfl
       replace H : Hf I D w I8 w14 [BxC b3 30 (vs4.set (0 + (i_2.tmod 4).toNat * 4 + ((l.getD (i_2).toNat default).n).toNat * 1) ((vals2 21))), OwC NS 9 (vals2 21) ((sent.getD (0 + (i_2.tmod 4).toNat * 4 + ((l.getD (i_2).toNat default).n).toNat * 1) []) ++ [(l.getD (i_2).toNat default).s]), ArR (OwC NS 9) sent vs4 (0 + (i_2.tmod 4).toNat * 4 + ((l.getD (i_2).toNat default).n).toNat * 1), ArC 4 (PtC OEhub_Hub) 24 b1 (h_2.set (0 + (i_2.tmod 4).toNat * 1) (some s0.2)), ArC 16 (OwC NS 9) 30 b4 (List.replicate 16 ([] : List ByteArray)), SlC NElaw23_Act v1_l l] := H
       replace H : Hf I D w I8 w14 [ArC 16 (OwC NS 9) 30 b3 (sent.set (0 + (i_2.tmod 4).toNat * 4 + ((l.getD (i_2).toNat default).n).toNat * 1) ((sent.getD (0 + (i_2.tmod 4).toNat * 4 + ((l.getD (i_2).toNat default).n).toNat * 1) []) ++ [(l.getD (i_2).toNat default).s])), ArC 4 (PtC OEhub_Hub) 24 b1 (h_2.set (0 + (i_2.tmod 4).toNat * 1) (some s0.2)), ArC 16 (OwC NS 9) 30 b4 (List.replicate 16 ([] : List ByteArray)), SlC NElaw23_Act v1_l l] := H.arShut hl4 hxl4 hb4 [(1, false), (0, false), (0, false)] rfl
       refine p_blk ?_
       refine p_then ?_
       exact ⟨(h_2.set (0 + (i_2.tmod 4).toNat * 1) (some s0.2)), (sent.set (0 + (i_2.tmod 4).toNat * 4 + ((l.getD (i_2).toNat default).n).toNat * 1) ((sent.getD (0 + (i_2.tmod 4).toNat * 4 + ((l.getD (i_2).toNat default).n).toNat * 1) []) ++ [(l.getD (i_2).toNat default).s])), Z.sub (ts := [0, 3, 7, 8, 9]) rfl, ⟨I8, (H.sub [(1, false), (0, false), (0, false), (0, true)] rfl).eq rfl⟩, hF⟩
     ·replace hF := ite_f hc5 hF
      refine wp_skip ?_
      refine p_blk ?_
      refine p_then ?_
      exact ⟨(h_2.set (0 + (i_2.tmod 4).toNat * 1) (some s0.2)), sent, Z.sub (ts := [0, 3, 7, 8, 9]) rfl, ⟨I7, (H.sub [(0, false), (0, false), (0, false), (0, true)] rfl).eq rfl⟩, hF⟩
  ·replace hF := ite_f hc3 hF
   refine wp_exit ?_
   refine p_then_x ?_
   refine p_then_x ?_
   refine f_exit_here ?_
   refine p_then (wp_seq ?_)
   refine wp_seq (f_region Z ?_); clear Z; intro Z
   refine s_runk tHb4 Z 1 rfl rfl ?_; clear Z a; intro a Z
   refine s_end Z [3, 7, 8, 11] rfl ?_; clear Z; intro Z
   refine p_then (wp_block ?_)
   refine f_iter hF (fun sg a' w' => match sg with | (round, h_4, got) => Sl 195 [(3, .pointer (some ⟨b1, 0, none⟩)), (7, .pointer (some ⟨b3, 0, none⟩)), (8, .pointer (some ⟨b4, 0, none⟩)), (11, .int .i64 round)] a' ∧ ∃ I2, Hf I D w I2 w' [ArC 4 (PtC OEhub_Hub) 24 b1 h_4, ArC 16 (OwC NS 9) 30 b3 sent, ArC 16 (OwC NS 9) 30 b4 got]) ⟨Z.sub (ts := [3, 7, 8, 11]) rfl, ⟨I3, (H.sub [(0, false), (0, false), (0, false)] rfl).eq rfl⟩⟩ ?_
   clear Z H hF a
   rintro rc_3 ⟨round, h_4, got⟩ a w15 ⟨Z, I9, H⟩ hF
   unfold F_law23_HubOnly_l4 at hF
   try dsimp only at hF
   refine wp_seq ?_
   refine wp_seq (f_region Z ?_); clear Z; intro Z
   refine s_runk tHb4 Z 2 rfl rfl ?_; clear Z a; intro a Z
   refine s_end Z [3, 7, 8, 11, 91] rfl ?_; clear Z; intro Z
   refine p_then ?_
   refine f_cond Z rfl (fun hc6 => ?_) (fun hc6 => ?_)
   ·replace hF := ite_t hc6 hF
    refine wp_skip ?_
    refine p_then (wp_seq ?_)
    refine wp_block ?_
    refine wp_seq (f_region Z ?_); clear Z; intro Z
    refine h_alloc Z H (cl := [.slice none 0 0, .slice none 0 0, .slice none 0 0, .slice none 0 0]) (z := .agg #[.slice none 0 0, .slice none 0 0, .slice none 0 0, .slice none 0 0]) rfl rfl rfl (by decide) rfl (by kernel_rfl) rfl ?_; clear Z a H; intro a w16 b6 H Z
    replace H : Hf I D w I9 w16 [ArC 4 (SlC NEOut) 35 b6 (List.replicate 4 ([] : List EOut)), ArC 4 (PtC OEhub_Hub) 24 b1 h_4, ArC 16 (OwC NS 9) 30 b3 sent, ArC 16 (OwC NS 9) 30 b4 got] := H.arNew 0 (.slice none 0 0) ([] : List EOut) rfl rfl (fun H => H.slNil NEOut)
    refine s_end Z [3, 7, 8, 11, 12] rfl ?_; clear Z; intro Z
    refine p_then (wp_seq ?_)
    refine wp_seq (f_region Z ?_); clear Z; intro Z
    refine s_runk tHb4 Z 1 rfl rfl ?_; clear Z a; intro a Z
    refine s_end Z [3, 7, 8, 11, 12, 13] rfl ?_; clear Z; intro Z
    refine p_then (wp_block ?_)
    refine f_iter hF (fun sg a' w' => match sg with | (i_3, h_5, all) => Sl 195 [(3, .pointer (some ⟨b1, 0, none⟩)), (7, .pointer (some ⟨b3, 0, none⟩)), (8, .pointer (some ⟨b4, 0, none⟩)), (11, .int .i64 round), (12, .pointer (some ⟨b6, 0, none⟩)), (13, .int .i64 i_3)] a' ∧ ∃ I2, Hf I D w I2 w' [ArC 4 (PtC OEhub_Hub) 24 b1 h_5, ArC 16 (OwC NS 9) 30 b3 sent, ArC 16 (OwC NS 9) 30 b4 got, ArC 4 (SlC NEOut) 35 b6 all]) ⟨Z.sub (ts := [3, 7, 8, 11, 12, 13]) rfl, ⟨I9, (H.sub [(1, false), (1, false), (1, false), (0, false)] rfl).eq rfl⟩⟩ ?_
    clear Z H hF a
    rintro rc_4 ⟨i_3, h_5, all⟩ a w17 ⟨Z, I10, H⟩ hF
    unfold F_law23_HubOnly_l5 at hF
    try dsimp only at hF
    refine wp_seq ?_
    refine wp_seq (f_region Z ?_); clear Z; intro Z
    refine s_runk tHb4 Z 2 rfl rfl ?_; clear Z a; intro a Z
    refine s_end Z [3, 7, 8, 11, 12, 13, 95] rfl ?_; clear Z; intro Z
    refine p_then ?_
    refine f_cond Z rfl (fun hc7 => ?_) (fun hc7 => ?_)
    ·replace hF := ite_t hc7 hF
     refine wp_skip ?_
     refine p_then (wp_seq ?_)
     refine wp_block ?_
     obtain ⟨hg19, hF⟩ := chk_in hF
     have hb5 : 0 + (i_3).toNat * 1 < 4 := by omega
     obtain ⟨v6, vs5, hl5, hxl5, hv5, H⟩ := H.arOpen 0 rfl (0 + (i_3).toNat * 1) hb5 (none : Option Ehub_Hub)
     replace H : Hf I D w I10 w17 [PtC OEhub_Hub v6 (h_5.getD (0 + (i_3).toNat * 1) none), BxC b1 24 vs5, ArR (PtC OEhub_Hub) h_5 vs5 (0 + (i_3).toNat * 1), ArC 16 (OwC NS 9) 30 b3 sent, ArC 16 (OwC NS 9) 30 b4 got, ArC 4 (SlC NEOut) 35 b6 all] := H
     rcases optE_in hF with ⟨ho3, hF⟩ | ⟨x_3, ho3, hF⟩
     ·obtain ⟨hv, H⟩ := H.optN 0 rfl ho3
      subst hv
      replace H : Hf I D w I10 w17 [BxC b1 24 vs5, ArR (PtC OEhub_Hub) h_5 vs5 (0 + (i_3).toNat * 1), ArC 16 (OwC NS 9) 30 b3 sent, ArC 16 (OwC NS 9) 30 b4 got, ArC 4 (SlC NEOut) 35 b6 all] := H
      have hb6 : 0 + (i_3).toNat * 1 < 4 := by omega
      obtain ⟨v7, vs6, hl6, hxl6, hv6, H⟩ := H.arOpen 4 rfl (0 + (i_3).toNat * 1) hb6 ([] : List EOut)
      replace H : Hf I D w I10 w17 [SlC NEOut v7 (all.getD (0 + (i_3).toNat * 1) []), BxC b6 35 vs6, ArR (SlC NEOut) all vs6 (0 + (i_3).toNat * 1), BxC b1 24 vs5, ArR (PtC OEhub_Hub) h_5 vs5 (0 + (i_3).toNat * 1), ArC 16 (OwC NS 9) 30 b3 sent, ArC 16 (OwC NS 9) 30 b4 got] := H
      obtain ⟨n0_3, hx4, hF⟩ := bnd_in hF
      refine f_region Z ?_; clear Z; intro Z
      refine s_runk tHb4 Z 2 rfl rfl ?_; clear Z a; intro a Z
      refine s_ob Z (v := .pointer (some ⟨b1, 0 + (i_3).toNat * 1, none⟩)) rfl rfl (by decide) rfl (Ob_apix (m := 1) (i_3).toNat rfl rfl rfl Try.underlying24 (by kernel_rfl) (have h := hg19; by omega) (have h := hg19; by omega)) ?_; clear Z a; intro a Z
      refine s_ob Z (v := .pointer none) rfl rfl (by decide) rfl (Ob_load tHb4 rfl rfl rfl ((H.bx 3 rfl).cell _ hv5)) ?_; clear Z a; intro a Z
      refine h_call Z H (js := []) rfl (caps := #[]) fn_6_YHb4 rfl rfl rfl rfl rfl (by decide) rfl rfl (fun D1 hS => have hq := c_hub_Hub_Out_nil hx4 hS; hq) ?_; clear Z a; intro vv a w18 D2 hr hF2 Z
      obtain ⟨q2, hvv, I11, K⟩ := hr; obtain rfl := hvv.symm
      have H : Hf I D w I11 w18 [SlC NEOut q2 n0_3, SlC NEOut v7 (all.getD (0 + (i_3).toNat * 1) []), BxC b6 35 vs6, ArR (SlC NEOut) all vs6 (0 + (i_3).toNat * 1), BxC b1 24 vs5, ArR (PtC OEhub_Hub) h_5 vs5 (0 + (i_3).toNat * 1), ArC 16 (OwC NS 9) 30 b3 sent, ArC 16 (OwC NS 9) 30 b4 got] := hF2 K
      clear hF2 K
      refine s_ob Z (v := .pointer (some ⟨b6, 0 + (i_3).toNat * 1, none⟩)) rfl rfl (by decide) rfl (Ob_apix (m := 1) (i_3).toNat rfl rfl rfl Try.underlying35 (by kernel_rfl) (have h := hg19; by omega) (have h := hg19; by omega)) ?_; clear Z a; intro a Z
      refine h_store tHb4 Z H 2 rfl rfl rfl rfl rfl rfl (slS.cells (H.slshape 0 rfl)) rfl rfl (one_cons (slS.one (H.slshape 0 rfl)) one_nil) (by rw [hl6]; exact hb6) (putCells_one _ _ _) ?_; clear H; intro w19 H
      dsimp only [List.eraseIdx] at H
      refine s_end Z [3, 7, 8, 11, 12, 13] rfl ?_; clear Z; intro Z
      replace H : Hf I D w I11 w19 [PtC OEhub_Hub (.pointer none) none, BxC b6 35 (vs6.set (0 + (i_3).toNat * 1) (q2)), SlC NEOut q2 n0_3, SlC NEOut v7 (all.getD (0 + (i_3).toNat * 1) []), ArR (SlC NEOut) all vs6 (0 + (i_3).toNat * 1), BxC b1 24 vs5, ArR (PtC OEhub_Hub) h_5 vs5 (0 + (i_3).toNat * 1), ArC 16 (OwC NS 9) 30 b3 sent, ArC 16 (OwC NS 9) 30 b4 got] := H.mkN OEhub_Hub
      replace H : Hf I D w I11 w19 [ArC 4 (PtC OEhub_Hub) 24 b1 (h_5.set (0 + (i_3).toNat * 1) none), BxC b6 35 (vs6.set (0 + (i_3).toNat * 1) (q2)), SlC NEOut q2 n0_3, SlC NEOut v7 (all.getD (0 + (i_3).toNat * 1) []), ArR (SlC NEOut) all vs6 (0 + (i_3).toNat * 1), ArC 16 (OwC NS 9) 30 b3 sent, ArC 16 (OwC NS 9) 30 b4 got] := H.arShut0 hl5 hxl5 hb5 hv5 [(0, false), (4, false), (4, false)] rfl
      replace H : Hf I D w I11 w19 [ArC 4 (SlC NEOut) 35 b6 (all.set (0 + (i_3).toNat * 1) n0_3), ArC 4 (PtC OEhub_Hub) 24 b1 (h_5.set (0 + (i_3).toNat * 1) none), SlC NEOut q2 n0_3, SlC NEOut v7 (all.getD (0 + (i_3).toNat * 1) []), ArC 16 (OwC NS 9) 30 b3 sent, ArC 16 (OwC NS 9) 30 b4 got] := H.arShut hl6 hxl6 hb6 [(2, true), (1, false), (3, false)] rfl
      refine p_blk ?_
      refine p_then ?_
      obtain ⟨hg20, hF⟩ := chk_in hF
      refine f_region Z ?_; clear Z; intro Z
      refine s_runk tHb4 Z 1 rfl rfl ?_; clear Z a; intro a Z
      refine s_ob Z (v := .int .i64 (i_3 + 1)) rfl rfl (by decide) rfl (Ob_add rfl rfl rfl (wrI hg20)) ?_; clear Z a; intro a Z
      refine s_runk tHb4 Z 1 rfl rfl ?_; clear Z a; intro a Z
      refine s_end Z [3, 7, 8, 11, 12, 13] rfl ?_; clear Z; intro Z
      refine p_then ?_
      exact ⟨(i_3 + 1, (h_5.set (0 + (i_3).toNat * 1) none), (all.set (0 + (i_3).toNat * 1) n0_3)), ⟨Z.sub (ts := [3, 7, 8, 11, 12, 13]) rfl, ⟨I11, (H.sub [(1, false), (3, false), (3, false), (0, false)] rfl).eq rfl⟩⟩, hF⟩
     ·obtain ⟨b7, hv, H⟩ := H.optS 0 rfl ho3
      subst hv
      replace H : Hf I D w I10 w17 [OEhub_Hub b7 x_3, BxC b1 24 vs5, ArR (PtC OEhub_Hub) h_5 vs5 (0 + (i_3).toNat * 1), ArC 16 (OwC NS 9) 30 b3 sent, ArC 16 (OwC NS 9) 30 b4 got, ArC 4 (SlC NEOut) 35 b6 all] := H
      have hb7 : 0 + (i_3).toNat * 1 < 4 := by omega
      obtain ⟨v8, vs7, hl7, hxl7, hv7, H⟩ := H.arOpen 5 rfl (0 + (i_3).toNat * 1) hb7 ([] : List EOut)
      replace H : Hf I D w I10 w17 [SlC NEOut v8 (all.getD (0 + (i_3).toNat * 1) []), BxC b6 35 vs7, ArR (SlC NEOut) all vs7 (0 + (i_3).toNat * 1), OEhub_Hub b7 x_3, BxC b1 24 vs5, ArR (PtC OEhub_Hub) h_5 vs5 (0 + (i_3).toNat * 1), ArC 16 (OwC NS 9) 30 b3 sent, ArC 16 (OwC NS 9) 30 b4 got] := H
      obtain ⟨o, hx5, hF⟩ := bnd_in hF
      refine f_region Z ?_; clear Z; intro Z
      refine s_runk tHb4 Z 2 rfl rfl ?_; clear Z a; intro a Z
      refine s_ob Z (v := .pointer (some ⟨b1, 0 + (i_3).toNat * 1, none⟩)) rfl rfl (by decide) rfl (Ob_apix (m := 1) (i_3).toNat rfl rfl rfl Try.underlying24 (by kernel_rfl) (have h := hg19; by omega) (have h := hg19; by omega)) ?_; clear Z a; intro a Z
      refine s_ob Z (v := .pointer (some ⟨b7, 0, none⟩)) rfl rfl (by decide) rfl (Ob_load tHb4 rfl rfl rfl ((H.bx 4 rfl).cell _ hv5)) ?_; clear Z a; intro a Z
      refine h_call Z H (js := [(3, false)]) rfl (caps := #[]) fn_6_YHb4 rfl rfl rfl rfl rfl (by decide) rfl rfl (fun D1 hS => have hq := c_hub_Hub_Out hx5 hS; hq) ?_; clear Z a; intro vv a w20 D2 hr hF2 Z
      obtain ⟨q3, hvv, I12, K⟩ := hr; obtain rfl := hvv.symm
      have H : Hf I D w I12 w20 [OEhub_Hub b7 o.2, SlC NEOut q3 o.1, SlC NEOut v8 (all.getD (0 + (i_3).toNat * 1) []), BxC b6 35 vs7, ArR (SlC NEOut) all vs7 (0 + (i_3).toNat * 1), BxC b1 24 vs5, ArR (PtC OEhub_Hub) h_5 vs5 (0 + (i_3).toNat * 1), ArC 16 (OwC NS 9) 30 b3 sent, ArC 16 (OwC NS 9) 30 b4 got] := hF2 K
      clear hF2 K
      refine s_ob Z (v := .pointer (some ⟨b6, 0 + (i_3).toNat * 1, none⟩)) rfl rfl (by decide) rfl (Ob_apix (m := 1) (i_3).toNat rfl rfl rfl Try.underlying35 (by kernel_rfl) (have h := hg19; by omega) (have h := hg19; by omega)) ?_; clear Z a; intro a Z
      refine h_store tHb4 Z H 3 rfl rfl rfl rfl rfl rfl (slS.cells (H.slshape 1 rfl)) rfl rfl (one_cons (slS.one (H.slshape 1 rfl)) one_nil) (by rw [hl7]; exact hb7) (putCells_one _ _ _) ?_; clear H; intro w21 H
      dsimp only [List.eraseIdx] at H
      refine s_end Z [3, 7, 8, 11, 12, 13] rfl ?_; clear Z; intro Z
      replace H : Hf I D w I12 w21 [PtC OEhub_Hub (.pointer (some ⟨b7, 0, none⟩)) (some o.2), BxC b6 35 (vs7.set (0 + (i_3).toNat * 1) (q3)), SlC NEOut q3 o.1, SlC NEOut v8 (all.getD (0 + (i_3).toNat * 1) []), ArR (SlC NEOut) all vs7 (0 + (i_3).toNat * 1), BxC b1 24 vs5, ArR (PtC OEhub_Hub) h_5 vs5 (0 + (i_3).toNat * 1), ArC 16 (OwC NS 9) 30 b3 sent, ArC 16 (OwC NS 9) 30 b4 got] := H.mkS (K := OEhub_Hub) 1 rfl
      replace H : Hf I D w I12 w21 [ArC 4 (PtC OEhub_Hub) 24 b1 (h_5.set (0 + (i_3).toNat * 1) (some o.2)), BxC b6 35 (vs7.set (0 + (i_3).toNat * 1) (q3)), SlC NEOut q3 o.1, SlC NEOut v8 (all.getD (0 + (i_3).toNat * 1) []), ArR (SlC NEOut) all vs7 (0 + (i_3).toNat * 1), ArC 16 (OwC NS 9) 30 b3 sent, ArC 16 (OwC NS 9) 30 b4 got] := H.arShut0 hl5 hxl5 hb5 hv5 [(0, false), (4, false), (4, false)] rfl
      replace H : Hf I D w I12 w21 [ArC 4 (SlC NEOut) 35 b6 (all.set (0 + (i_3).toNat * 1) o.1), ArC 4 (PtC OEhub_Hub) 24 b1 (h_5.set (0 + (i_3).toNat * 1) (some o.2)), SlC NEOut q3 o.1, SlC NEOut v8 (all.getD (0 + (i_3).toNat * 1) []), ArC 16 (OwC NS 9) 30 b3 sent, ArC 16 (OwC NS 9) 30 b4 got] := H.arShut hl7 hxl7 hb7 [(2, true), (1, false), (3, false)] rfl
      refine p_blk ?_
      refine p_then ?_
      obtain ⟨hg21, hF⟩ := chk_in hF
      refine f_region Z ?_; clear Z; intro Z
      refine s_runk tHb4 Z 1 rfl rfl ?_; clear Z a; intro a Z
      refine s_ob Z (v := .int .i64 (i_3 + 1)) rfl rfl (by decide) rfl (Ob_add rfl rfl rfl (wrI hg21)) ?_; clear Z a; intro a Z
      refine s_runk tHb4 Z 1 rfl rfl ?_; clear Z a; intro a Z
      refine s_end Z [3, 7, 8, 11, 12, 13] rfl ?_; clear Z; intro Z
      refine p_then ?_
      exact ⟨(i_3 + 1, (h_5.set (0 + (i_3).toNat * 1) (some o.2)), (all.set (0 + (i_3).toNat * 1) o.1)), ⟨Z.sub (ts := [3, 7, 8, 11, 12, 13]) rfl, ⟨I12, (H.sub [(1, false), (3, false), (3, false), (0, false)] rfl).eq rfl⟩⟩, hF⟩
    ·replace hF := ite_f hc7 hF
     refine wp_exit ?_
     refine p_then_x ?_
     refine p_then_x ?_
     refine f_exit_here ?_
     refine p_then (wp_seq (f_region Z ?_)); clear Z; intro Z
     refine s_runk tHb4 Z 1 rfl rfl ?_; clear Z a; intro a Z
     refine s_end Z [3, 7, 8, 11, 12, 14] rfl ?_; clear Z; intro Z
     refine p_then (wp_block ?_)
     refine f_iter hF (fun sg a' w' => match sg with | (i_4, h_6, got_2) => Sl 195 [(3, .pointer (some ⟨b1, 0, none⟩)), (7, .pointer (some ⟨b3, 0, none⟩)), (8, .pointer (some ⟨b4, 0, none⟩)), (11, .int .i64 round), (12, .pointer (some ⟨b6, 0, none⟩)), (14, .int .i64 i_4)] a' ∧ ∃ I2, Hf I D w I2 w' [ArC 4 (PtC OEhub_Hub) 24 b1 h_6, ArC 16 (OwC NS 9) 30 b3 sent, ArC 16 (OwC NS 9) 30 b4 got_2, ArC 4 (SlC NEOut) 35 b6 all]) ⟨Z.sub (ts := [3, 7, 8, 11, 12, 14]) rfl, ⟨I10, (H.sub [(0, false), (0, false), (0, false), (0, false)] rfl).eq rfl⟩⟩ ?_
     clear Z H hF a
     rintro rc_5 ⟨i_4, h_6, got_2⟩ a w22 ⟨Z, I13, H⟩ hF
     unfold F_law23_HubOnly_l6 at hF
     try dsimp only at hF
     refine wp_seq ?_
     refine wp_seq (f_region Z ?_); clear Z; intro Z
     refine s_runk tHb4 Z 2 rfl rfl ?_; clear Z a; intro a Z
     refine s_end Z [3, 7, 8, 11, 12, 14, 105] rfl ?_; clear Z; intro Z
     refine p_then ?_
     refine f_cond Z rfl (fun hc8 => ?_) (fun hc8 => ?_)
     ·replace hF := ite_t hc8 hF
      refine wp_skip ?_
      refine p_then (wp_seq ?_)
      refine wp_block ?_
      refine wp_seq (f_region Z ?_); clear Z; intro Z
      refine s_runk tHb4 Z 1 rfl rfl ?_; clear Z a; intro a Z
      refine s_end Z [3, 7, 8, 11, 12, 14, 15] rfl ?_; clear Z; intro Z
      refine p_then (wp_block ?_)
      refine f_iter hF (fun sg a' w' => match sg with | (k, h_7, got_3) => Sl 195 [(3, .pointer (some ⟨b1, 0, none⟩)), (7, .pointer (some ⟨b3, 0, none⟩)), (8, .pointer (some ⟨b4, 0, none⟩)), (11, .int .i64 round), (12, .pointer (some ⟨b6, 0, none⟩)), (14, .int .i64 i_4), (15, .int .i64 k)] a' ∧ ∃ I2, Hf I D w I2 w' [ArC 4 (PtC OEhub_Hub) 24 b1 h_7, ArC 16 (OwC NS 9) 30 b3 sent, ArC 16 (OwC NS 9) 30 b4 got_3, ArC 4 (SlC NEOut) 35 b6 all]) ⟨Z.sub (ts := [3, 7, 8, 11, 12, 14, 15]) rfl, ⟨I13, (H.sub [(0, false), (0, false), (0, false), (0, false)] rfl).eq rfl⟩⟩ ?_
      clear Z H hF a
      rintro rc_6 ⟨k, h_7, got_3⟩ a w23 ⟨Z, I14, H⟩ hF
      unfold F_law23_HubOnly_l7 at hF
      try dsimp only at hF
      refine wp_seq ?_
      refine wp_seq ?_
      obtain ⟨hg22, hF⟩ := chk_in hF
      have hb8 : 0 + (i_4).toNat * 1 < 4 := by omega
      obtain ⟨v9, vs8, hl8, hxl8, hv8, H⟩ := H.arOpen 3 rfl (0 + (i_4).toNat * 1) hb8 ([] : List EOut)
      replace H : Hf I D w I14 w23 [SlC NEOut v9 (all.getD (0 + (i_4).toNat * 1) []), BxC b6 35 vs8, ArR (SlC NEOut) all vs8 (0 + (i_4).toNat * 1), ArC 4 (PtC OEhub_Hub) 24 b1 h_7, ArC 16 (OwC NS 9) 30 b3 sent, ArC 16 (OwC NS 9) 30 b4 got_3] := H
      refine f_region Z ?_; clear Z; intro Z
      refine s_runk tHb4 Z 2 rfl rfl ?_; clear Z a; intro a Z
      refine s_ob Z (v := .pointer (some ⟨b6, 0 + (i_4).toNat * 1, none⟩)) rfl rfl (by decide) rfl (Ob_apix (m := 1) (i_4).toNat rfl rfl rfl Try.underlying35 (by kernel_rfl) (have h := hg22; by omega) (have h := hg22; by omega)) ?_; clear Z a; intro a Z
      refine s_ob Z (v := v9) rfl rfl (by decide) rfl (Ob_load tHb4 rfl rfl rfl ((H.bx 1 rfl).cell _ hv8)) ?_; clear Z a; intro a Z
      refine s_ob Z (v := .int .i64 ((all.getD (0 + (i_4).toNat * 1) []).length : Int)) rfl rfl (by decide) rfl (Ob_slen tHb4 rfl rfl rfl (H.slshape 0 rfl)) ?_; clear Z a; intro a Z
      refine s_runk tHb4 Z 2 rfl rfl ?_; clear Z a; intro a Z
      refine g_ob Z (p := (decide (k < ((all.getD (0 + (i_4).toNat * 1) []).length : Int)))) (v := .int .i64 k) (S' := [(15, .int .i64 k)]) rfl rfl rfl (wantB_t _) rfl (by decide) (fun hp hS => hS.sub (ts := [15]) rfl) (fun hp => Ob_c tHb4 rfl) ?_; clear Z a; intro a Z
      refine g_ob Z (p := (decide (k < ((all.getD (0 + (i_4).toNat * 1) []).length : Int)))) (v := .bool (decide (k < 60))) (S' := [(115, .int .i64 k)]) rfl rfl rfl (wantB_t _) rfl (by decide) (fun hp hS => (hS.conv (t := 115) rfl (cond_t hp)).sub (ts := [115]) rfl) (fun hp => Ob_c tHb4 rfl) ?_; clear Z a; intro a Z
      refine s_ob Z (v := .bool ((decide (k < ((all.getD (0 + (i_4).toNat * 1) []).length : Int))) && (decide (k < 60)))) rfl rfl (by decide) rfl (Ob_pick rfl rfl rfl rfl (pick_and _ _)) ?_; clear Z a; intro a Z
      refine s_end Z [3, 7, 8, 11, 12, 14, 15, 117] rfl ?_; clear Z; intro Z
      replace H : Hf I D w I14 w23 [ArC 4 (SlC NEOut) 35 b6 all, SlC NEOut v9 (all.getD (0 + (i_4).toNat * 1) []), ArC 4 (PtC OEhub_Hub) 24 b1 h_7, ArC 16 (OwC NS 9) 30 b3 sent, ArC 16 (OwC NS 9) 30 b4 got_3] := H.arShutE hl8 hxl8 hb8 hv8 [(0, true), (1, false), (1, false)] rfl
      refine p_then ?_
      refine f_cond Z rfl (fun hc9 => ?_) (fun hc9 => ?_)
      ·replace hF := ite_t hc9 hF
       refine wp_skip ?_
       refine p_then (wp_seq ?_)
       refine wp_block ?_
       refine wp_seq ?_
       have hb9 : 0 + (i_4).toNat * 1 < 4 := by omega
       obtain ⟨v10, vs9, hl9, hxl9, hv9, H⟩ := H.arOpen 0 rfl (0 + (i_4).toNat * 1) hb9 ([] : List EOut)
       replace H : Hf I D w I14 w23 [SlC NEOut v10 (all.getD (0 + (i_4).toNat * 1) []), BxC b6 35 vs9, ArR (SlC NEOut) all vs9 (0 + (i_4).toNat * 1), SlC NEOut v9 (all.getD (0 + (i_4).toNat * 1) []), ArC 4 (PtC OEhub_Hub) 24 b1 h_7, ArC 16 (OwC NS 9) 30 b3 sent, ArC 16 (OwC NS 9) 30 b4 got_3] := H
       obtain ⟨hg23, hF⟩ := chk_in hF
       refine f_region Z ?_; clear Z; intro Z
       refine s_runk tHb4 Z 1 rfl rfl ?_; clear Z a; intro a Z
       refine s_ob Z (v := .pointer (some ⟨b6, 0 + (i_4).toNat * 1, none⟩)) rfl rfl (by decide) rfl (Ob_apix (m := 1) (i_4).toNat rfl rfl rfl Try.underlying35 (by kernel_rfl) (have h := hg22; by omega) (have h := hg22; by omega)) ?_; clear Z a; intro a Z
       refine s_ob Z (v := v10) rfl rfl (by decide) rfl (Ob_load tHb4 rfl rfl rfl ((H.bx 1 rfl).cell _ hv9)) ?_; clear Z a; intro a Z
       refine s_runk tHb4 Z 1 rfl rfl ?_; clear Z a; intro a Z
       refine s_ob Z (v := .pointer (some ⟨blkOf v10, oofOf v10 + (k).toNat * 2, none⟩)) rfl rfl (by decide) rfl (Ob_sidx tHb4 rfl rfl rfl rfl (slPl (H.sl 0 rfl) hg23) hg23) ?_; clear Z a; intro a Z
       refine s_runk tHb4 Z 1 rfl rfl ?_; clear Z a; intro a Z
       refine s_ob Z (v := .int .i64 (((all.getD (0 + (i_4).toNat * 1) []).getD (k).toNat default).to_)) rfl rfl (by decide) rfl (Ob_load tHb4 rfl rfl rfl ((slFl (H.sl 0 rfl) hg23) 0 _ rfl)) ?_; clear Z a; intro a Z
       refine s_runk tHb4 Z 1 rfl rfl ?_; clear Z a; intro a Z
       refine s_end Z [3, 7, 8, 11, 12, 14, 15, 16] rfl ?_; clear Z; intro Z
       replace H : Hf I D w I14 w23 [ArC 4 (SlC NEOut) 35 b6 all, SlC NEOut v10 (all.getD (0 + (i_4).toNat * 1) []), SlC NEOut v9 (all.getD (0 + (i_4).toNat * 1) []), ArC 4 (PtC OEhub_Hub) 24 b1 h_7, ArC 16 (OwC NS 9) 30 b3 sent, ArC 16 (OwC NS 9) 30 b4 got_3] := H.arShutE hl9 hxl9 hb9 hv9 [(0, true), (1, false), (1, false)] rfl
       refine p_then (wp_seq ?_)
       refine wp_seq (f_region Z ?_); clear Z; intro Z
       refine s_runk tHb4 Z 3 rfl rfl ?_; clear Z a; intro a Z
       refine g_ob Z (p := (!(decide (((all.getD (0 + (i_4).toNat * 1) []).getD (k).toNat default).to_ < 0)))) (v := .int .i64 (((all.getD (0 + (i_4).toNat * 1) []).getD (k).toNat default).to_)) (S' := [(16, .int .i64 (((all.getD (0 + (i_4).toNat * 1) []).getD (k).toNat default).to_))]) rfl rfl rfl (wantB_f _) rfl (by decide) (fun hp hS => hS.sub (ts := [16]) rfl) (fun hp => Ob_c tHb4 rfl) ?_; clear Z a; intro a Z
       refine g_ob Z (p := (!(decide (((all.getD (0 + (i_4).toNat * 1) []).getD (k).toNat default).to_ < 0)))) (v := .bool (decide (((all.getD (0 + (i_4).toNat * 1) []).getD (k).toNat default).to_ ≥ 4))) (S' := [(130, .int .i64 (((all.getD (0 + (i_4).toNat * 1) []).getD (k).toNat default).to_))]) rfl rfl rfl (wantB_f _) rfl (by decide) (fun hp hS => (hS.conv (t := 130) rfl (cond_t hp)).sub (ts := [130]) rfl) (fun hp => Ob_c tHb4 rfl) ?_; clear Z a; intro a Z
       refine s_ob Z (v := .bool ((decide (((all.getD (0 + (i_4).toNat * 1) []).getD (k).toNat default).to_ < 0)) || (decide (((all.getD (0 + (i_4).toNat * 1) []).getD (k).toNat default).to_ ≥ 4)))) rfl rfl (by decide) rfl (Ob_pick rfl rfl rfl rfl (pick_or _ _)) ?_; clear Z a; intro a Z
       refine s_runk tHb4 Z 1 rfl rfl ?_; clear Z a; intro a Z
       refine g_ob Z (p := (!((decide (((all.getD (0 + (i_4).toNat * 1) []).getD (k).toNat default).to_ < 0)) || (decide (((all.getD (0 + (i_4).toNat * 1) []).getD (k).toNat default).to_ ≥ 4))))) (v := .int .i64 (((all.getD (0 + (i_4).toNat * 1) []).getD (k).toNat default).to_)) (S' := [(16, .int .i64 (((all.getD (0 + (i_4).toNat * 1) []).getD (k).toNat default).to_))]) rfl rfl rfl (wantB_f _) rfl (by decide) (fun hp hS => hS.sub (ts := [16]) rfl) (fun hp => Ob_c tHb4 rfl) ?_; clear Z a; intro a Z
       refine g_ob Z (p := (!((decide (((all.getD (0 + (i_4).toNat * 1) []).getD (k).toNat default).to_ < 0)) || (decide (((all.getD (0 + (i_4).toNat * 1) []).getD (k).toNat default).to_ ≥ 4))))) (v := .int .i64 i_4) (S' := [(14, .int .i64 i_4)]) rfl rfl rfl (wantB_f _) rfl (by decide) (fun hp hS => hS.sub (ts := [14]) rfl) (fun hp => Ob_c tHb4 rfl) ?_; clear Z a; intro a Z
       refine g_ob Z (p := (!((decide (((all.getD (0 + (i_4).toNat * 1) []).getD (k).toNat default).to_ < 0)) || (decide (((all.getD (0 + (i_4).toNat * 1) []).getD (k).toNat default).to_ ≥ 4))))) (v := .bool ((((all.getD (0 + (i_4).toNat * 1) []).getD (k).toNat default).to_) == i_4)) (S' := [(134, .int .i64 (((all.getD (0 + (i_4).toNat * 1) []).getD (k).toNat default).to_)), (135, .int .i64 i_4)]) rfl rfl rfl (wantB_f _) rfl (by decide) (fun hp hS => ((hS.conv (t := 134) rfl (cond_t hp)).conv (t := 135) rfl (cond_t hp)).sub (ts := [134, 135]) rfl) (fun hp => Ob_c tHb4 rfl) ?_; clear Z a; intro a Z
       refine s_ob Z (v := .bool (((decide (((all.getD (0 + (i_4).toNat * 1) []).getD (k).toNat default).to_ < 0)) || (decide (((all.getD (0 + (i_4).toNat * 1) []).getD (k).toNat default).to_ ≥ 4))) || ((((all.getD (0 + (i_4).toNat * 1) []).getD (k).toNat default).to_) == i_4))) rfl rfl (by decide) rfl (Ob_pick rfl rfl rfl rfl (pick_or _ _)) ?_; clear Z a; intro a Z
       refine s_end Z [3, 7, 8, 11, 12, 14, 15, 16, 137] rfl ?_; clear Z; intro Z
       refine p_then ?_
       refine f_cond Z rfl (fun hc10 => ?_) (fun hc10 => ?_)
       ·replace hF := ite_t hc10 hF
        refine wp_seq (f_region Z ?_); clear Z; intro Z
        refine s_runk tHb4 Z 1 rfl rfl ?_; clear Z a; intro a Z
        refine s_end Z [2] rfl ?_; clear Z; intro Z
        refine p_then (wp_ret ?_)
        refine p_then_r ?_
        refine p_blk_r ?_
        refine p_then_r ?_
        refine p_then_r ?_
        refine p_blk_r ?_
        refine p_blk_r ?_
        refine p_then_r ?_
        refine p_then_r ?_
        refine p_blk_r ?_
        refine p_blk_r ?_
        refine p_then_r ?_
        refine p_then_r ?_
        refine p_blk_r ?_
        refine p_then_r ?_
        obtain rfl := some_in hF
        exact f_ret Z (run_results1 rfl Z rfl) ⟨rfl, I14, (H.sub [] rfl).eq rfl⟩
       ·replace hF := ite_f hc10 hF
        refine wp_skip ?_
        refine p_then (wp_seq ?_)
        obtain ⟨hg24, hF⟩ := chk_in hF
        have hb10 : 0 + (((all.getD (0 + (i_4).toNat * 1) []).getD (k).toNat default).to_).toNat * 1 < 4 := by omega
        obtain ⟨v11, vs10, hl10, hxl10, hv10, H⟩ := H.arOpen 3 rfl (0 + (((all.getD (0 + (i_4).toNat * 1) []).getD (k).toNat default).to_).toNat * 1) hb10 (none : Option Ehub_Hub)
        replace H : Hf I D w I14 w23 [PtC OEhub_Hub v11 (h_7.getD (0 + (((all.getD (0 + (i_4).toNat * 1) []).getD (k).toNat default).to_).toNat * 1) none), BxC b1 24 vs10, ArR (PtC OEhub_Hub) h_7 vs10 (0 + (((all.getD (0 + (i_4).toNat * 1) []).getD (k).toNat default).to_).toNat * 1), ArC 4 (SlC NEOut) 35 b6 all, SlC NEOut v10 (all.getD (0 + (i_4).toNat * 1) []), SlC NEOut v9 (all.getD (0 + (i_4).toNat * 1) []), ArC 16 (OwC NS 9) 30 b3 sent, ArC 16 (OwC NS 9) 30 b4 got_3] := H
        have hb11 : 0 + (i_4).toNat * 1 < 4 := by omega
        obtain ⟨v12, vs11, hl11, hxl11, hv11, H⟩ := H.arOpen 3 rfl (0 + (i_4).toNat * 1) hb11 ([] : List EOut)
        replace H : Hf I D w I14 w23 [SlC NEOut v12 (all.getD (0 + (i_4).toNat * 1) []), BxC b6 35 vs11, ArR (SlC NEOut) all vs11 (0 + (i_4).toNat * 1), PtC OEhub_Hub v11 (h_7.getD (0 + (((all.getD (0 + (i_4).toNat * 1) []).getD (k).toNat default).to_).toNat * 1) none), BxC b1 24 vs10, ArR (PtC OEhub_Hub) h_7 vs10 (0 + (((all.getD (0 + (i_4).toNat * 1) []).getD (k).toNat default).to_).toNat * 1), SlC NEOut v10 (all.getD (0 + (i_4).toNat * 1) []), SlC NEOut v9 (all.getD (0 + (i_4).toNat * 1) []), ArC 16 (OwC NS 9) 30 b3 sent, ArC 16 (OwC NS 9) 30 b4 got_3] := H
        rcases optE_in hF with ⟨ho4, hF⟩ | ⟨x_4, ho4, hF⟩
        ·obtain ⟨hv, H⟩ := H.optN 3 rfl ho4
         subst hv
         replace H : Hf I D w I14 w23 [SlC NEOut v12 (all.getD (0 + (i_4).toNat * 1) []), BxC b6 35 vs11, ArR (SlC NEOut) all vs11 (0 + (i_4).toNat * 1), BxC b1 24 vs10, ArR (PtC OEhub_Hub) h_7 vs10 (0 + (((all.getD (0 + (i_4).toNat * 1) []).getD (k).toNat default).to_).toNat * 1), SlC NEOut v10 (all.getD (0 + (i_4).toNat * 1) []), SlC NEOut v9 (all.getD (0 + (i_4).toNat * 1) []), ArC 16 (OwC NS 9) 30 b3 sent, ArC 16 (OwC NS 9) 30 b4 got_3] := H
         obtain ⟨hg25, hF⟩ := chk_in hF
         obtain ⟨n0_4, hx6, hF⟩ := bnd_in hF
         refine f_regionM Z (by kernel_rfl) (by kernel_rfl) (by decide) (by decide) [11] [(0, 0, 0), (1, 0, 0), (3, 0, 0), (0, 0, 0), (0, 0, 0), (16, 0, 0), (48, 0, 0), (0, 0, 0), (240, 0, 0), (496, 0, 0), (1008, 0, 0), (2047, 0, 0), (4095, 1, 1), (8191, 1, 1), (8191, 1, 1), (16383, 1, 1), (65535, 1, 1)] (by kernel_rfl) (fun jj => match jj with | 12 => 11 | 13 => 11 | 15 => 11 | _ => jj) (by kernel_rfl) (fun jj rv vv => cond (Nat.blt jj 8) (cond (Nat.blt jj 4) (cond (Nat.blt jj 2) (cond (Nat.blt jj 1) (vv = .int .i64 (((all.getD (0 + (i_4).toNat * 1) []).getD (k).toNat default).to_)) (vv = .pointer (some ⟨b1, 0 + (((all.getD (0 + (i_4).toNat * 1) []).getD (k).toNat default).to_).toNat * 1, none⟩))) (cond (Nat.blt jj 3) (vv = .pointer none) (vv = .int .i64 i_4))) (cond (Nat.blt jj 6) (cond (Nat.blt jj 5) (vv = .int .i64 i_4) (vv = .pointer (some ⟨b6, 0 + (i_4).toNat * 1, none⟩))) (cond (Nat.blt jj 7) (vv = v12) (vv = .int .i64 k)))) (cond (Nat.blt jj 12) (cond (Nat.blt jj 10) (cond (Nat.blt jj 9) (vv = .pointer (some ⟨blkOf v12, oofOf v12 + (k).toNat * 2, none⟩)) (vv = .pointer (some ⟨blkOf v12, oofOf v12 + (k).toNat * 2 + 1, none⟩))) (cond (Nat.blt jj 11) (vv = .string (((all.getD (0 + (i_4).toNat * 1) []).getD (k).toNat default).body)) (vv = .tuple #[(tupAt vv 0), .int .i64 n0_4.2]))) (cond (Nat.blt jj 14) (cond (Nat.blt jj 13) (vv = .tuple #[(tupAt rv 0), .int .i64 n0_4.2]) (vv = (tupAt rv 0))) (cond (Nat.blt jj 15) (vv = .int .i64 n0_4.2) (cond (Nat.blt jj 16) (vv = (tupAt rv 0)) (vv = .int .i64 n0_4.2)))))) (fun ss vals3 xw => match ss with | 0 => Gx I D w I14 w23 xw [SlC NEOut v12 (all.getD (0 + (i_4).toNat * 1) []), BxC b6 35 vs11, ArR (SlC NEOut) all vs11 (0 + (i_4).toNat * 1), BxC b1 24 vs10, ArR (PtC OEhub_Hub) h_7 vs10 (0 + (((all.getD (0 + (i_4).toNat * 1) []).getD (k).toNat default).to_).toNat * 1), SlC NEOut v10 (all.getD (0 + (i_4).toNat * 1) []), SlC NEOut v9 (all.getD (0 + (i_4).toNat * 1) []), ArC 16 (OwC NS 9) 30 b3 sent, ArC 16 (OwC NS 9) 30 b4 got_3] | _ => Gx I D w I14 w23 xw [SlC NS (tupAt (vals3 11) 0) n0_4.1, SlC NEOut v12 (all.getD (0 + (i_4).toNat * 1) []), BxC b6 35 vs11, ArR (SlC NEOut) all vs11 (0 + (i_4).toNat * 1), BxC b1 24 vs10, ArR (PtC OEhub_Hub) h_7 vs10 (0 + (((all.getD (0 + (i_4).toNat * 1) []).getD (k).toNat default).to_).toNat * 1), SlC NEOut v10 (all.getD (0 + (i_4).toNat * 1) []), SlC NEOut v9 (all.getD (0 + (i_4).toNat * 1) []), ArC 16 (OwC NS 9) 30 b3 sent, ArC 16 (OwC NS 9) 30 b4 got_3]) (fun _ => Gx.start H) ?_ ?_
         ·intro fr hfr hfe
          refine .cons (fun ss hlo hhi vals3 xw hG hV => ?_) ?_
          ·obtain rfl : ss = 0 := Nat.le_antisymm hhi hlo
           rw [← hfe]
           have hS := (hfr vals3).sub (ts := [16]) (S' := [(16, .int .i64 (((all.getD (0 + (i_4).toNat * 1) []).getD (k).toNat default).to_))]) rfl
           exact L_val hS rfl (Ob_c tHb4 rfl) ⟨rfl, hG⟩
          refine .cons (fun ss hlo hhi vals3 xw hG hV => ?_) ?_
          ·obtain rfl : ss = 0 := Nat.le_antisymm hhi hlo
           rw [← hfe]
           have hS := (hfr vals3).sub (ts := [139, 3]) (S' := [(139, vals3 0), (3, .pointer (some ⟨b1, 0, none⟩))]) rfl
           replace hS := hS.conv (t := 139) rfl (show (vals3 0) = .int .i64 (((all.getD (0 + (i_4).toNat * 1) []).getD (k).toNat default).to_) from hV 0 (by decide))
           exact L_val hS rfl (Ob_apix (m := 1) (((all.getD (0 + (i_4).toNat * 1) []).getD (k).toNat default).to_).toNat rfl rfl rfl Try.underlying24 (by kernel_rfl) (have h := hg24; by omega) (have h := hg24; by omega)) ⟨rfl, hG⟩
          refine .cons (fun ss hlo hhi vals3 xw hG hV => ?_) ?_
          ·obtain rfl : ss = 0 := Nat.le_antisymm hhi hlo
           rw [← hfe]
           have hS := (hfr vals3).sub (ts := [140]) (S' := [(140, vals3 1)]) rfl
           replace hS := hS.conv (t := 140) rfl (show (vals3 1) = .pointer (some ⟨b1, 0 + (((all.getD (0 + (i_4).toNat * 1) []).getD (k).toNat default).to_).toNat * 1, none⟩) from hV 1 (by decide))
           obtain ⟨I2, hI2, H⟩ := Gx.ex hG
           exact L_val hS rfl (Ob_load tHb4 rfl rfl rfl ((H.bx 3 rfl).cell _ hv10)) ⟨rfl, hG⟩
          refine .cons (fun ss hlo hhi vals3 xw hG hV => ?_) ?_
          ·obtain rfl : ss = 0 := Nat.le_antisymm hhi hlo
           rw [← hfe]
           have hS := (hfr vals3).sub (ts := [14]) (S' := [(14, .int .i64 i_4)]) rfl
           exact L_val hS rfl (Ob_c tHb4 rfl) ⟨rfl, hG⟩
          refine .cons (fun ss hlo hhi vals3 xw hG hV => ?_) ?_
          ·obtain rfl : ss = 0 := Nat.le_antisymm hhi hlo
           rw [← hfe]
           have hS := (hfr vals3).sub (ts := [14]) (S' := [(14, .int .i64 i_4)]) rfl
           exact L_val hS rfl (Ob_c tHb4 rfl) ⟨rfl, hG⟩
          refine .cons (fun ss hlo hhi vals3 xw hG hV => ?_) ?_
          ·obtain rfl : ss = 0 := Nat.le_antisymm hhi hlo
           rw [← hfe]
           have hS := (hfr vals3).sub (ts := [143, 12]) (S' := [(143, vals3 4), (12, .pointer (some ⟨b6, 0, none⟩))]) rfl
           replace hS := hS.conv (t := 143) rfl (show (vals3 4) = .int .i64 i_4 from hV 4 (by decide))
           exact L_val hS rfl (Ob_apix (m := 1) (i_4).toNat rfl rfl rfl Try.underlying35 (by kernel_rfl) (have h := hg22; by omega) (have h := hg22; by omega)) ⟨rfl, hG⟩
          refine .cons (fun ss hlo hhi vals3 xw hG hV => ?_) ?_
          ·obtain rfl : ss = 0 := Nat.le_antisymm hhi hlo
           rw [← hfe]
           have hS := (hfr vals3).sub (ts := [144]) (S' := [(144, vals3 5)]) rfl
           replace hS := hS.conv (t := 144) rfl (show (vals3 5) = .pointer (some ⟨b6, 0 + (i_4).toNat * 1, none⟩) from hV 5 (by decide))
           obtain ⟨I2, hI2, H⟩ := Gx.ex hG
           exact L_val hS rfl (Ob_load tHb4 rfl rfl rfl ((H.bx 1 rfl).cell _ hv11)) ⟨rfl, hG⟩
          refine .cons (fun ss hlo hhi vals3 xw hG hV => ?_) ?_
          ·obtain rfl : ss = 0 := Nat.le_antisymm hhi hlo
           rw [← hfe]
           have hS := (hfr vals3).sub (ts := [15]) (S' := [(15, .int .i64 k)]) rfl
           exact L_val hS rfl (Ob_c tHb4 rfl) ⟨rfl, hG⟩
          refine .cons (fun ss hlo hhi vals3 xw hG hV => ?_) ?_
          ·obtain rfl : ss = 0 := Nat.le_antisymm hhi hlo
           rw [← hfe]
           have hS := (hfr vals3).sub (ts := [145, 146]) (S' := [(145, vals3 6), (146, vals3 7)]) rfl
           replace hS := hS.conv (t := 145) rfl (show (vals3 6) = v12 from hV 6 (by decide))
           replace hS := hS.conv (t := 146) rfl (show (vals3 7) = .int .i64 k from hV 7 (by decide))
           obtain ⟨I2, hI2, H⟩ := Gx.ex hG
           exact L_val hS rfl (Ob_sidx tHb4 rfl rfl rfl rfl (slPl (H.sl 0 rfl) hg25) hg25) ⟨rfl, hG⟩
          refine .cons (fun ss hlo hhi vals3 xw hG hV => ?_) ?_
          ·obtain rfl : ss = 0 := Nat.le_antisymm hhi hlo
           rw [← hfe]
           have hS := (hfr vals3).sub (ts := [147]) (S' := [(147, vals3 8)]) rfl
           replace hS := hS.conv (t := 147) rfl (show (vals3 8) = .pointer (some ⟨blkOf v12, oofOf v12 + (k).toNat * 2, none⟩) from hV 8 (by decide))
           exact L_val hS rfl (Ob_c tHb4 rfl) ⟨rfl, hG⟩
          refine .cons (fun ss hlo hhi vals3 xw hG hV => ?_) ?_
          ·obtain rfl : ss = 0 := Nat.le_antisymm hhi hlo
           rw [← hfe]
           have hS := (hfr vals3).sub (ts := [148]) (S' := [(148, vals3 9)]) rfl
           replace hS := hS.conv (t := 148) rfl (show (vals3 9) = .pointer (some ⟨blkOf v12, oofOf v12 + (k).toNat * 2 + 1, none⟩) from hV 9 (by decide))
           obtain ⟨I2, hI2, H⟩ := Gx.ex hG
           exact L_val hS rfl (Ob_load tHb4 rfl rfl rfl ((slFl (H.sl 0 rfl) hg25) 1 _ rfl)) ⟨rfl, hG⟩
          refine .cons (fun ss hlo hhi vals3 xw hG hV => ?_) ?_
          ·obtain rfl : ss = 0 := Nat.le_antisymm hhi hlo
           rw [← hfe]
           have hS := (hfr vals3).sub (ts := [141, 142, 149]) (S' := [(141, vals3 2), (142, vals3 3), (149, vals3 10)]) rfl
           replace hS := hS.conv (t := 141) rfl (show (vals3 2) = .pointer none from hV 2 (by decide))
           replace hS := hS.conv (t := 142) rfl (show (vals3 3) = .int .i64 i_4 from hV 3 (by decide))
           replace hS := hS.conv (t := 149) rfl (show (vals3 10) = .string (((all.getD (0 + (i_4).toNat * 1) []).getD (k).toNat default).body) from hV 10 (by decide))
           obtain ⟨I2, hI2, H⟩ := Gx.ex hG
           refine L_hcall H (js := []) rfl (caps := #[]) hS fn_7_YHb4 rfl rfl rfl rfl rfl (fun D1 hS => have hq := c_hub_Hub_In_nil hx6 hS; hq) fun _ yw D1 hr hF2 => ?_
           obtain ⟨q0_, rfl, I3, K⟩ := hr
           obtain ⟨hK, H2⟩ := hF2 K
           exact ⟨rfl, Gx.go hG hI2 hK K.imm H2⟩
          refine .cons (fun ss hlo hhi vals3 xw hG hV => ?_) ?_
          ·obtain rfl : ss = 1 := Nat.le_antisymm hhi hlo
           rw [← hfe]
           have hS := (hfr vals3).sub (ts := [150]) (S' := [(150, vals3 11)]) rfl
           replace hS := hS.conv (t := 150) rfl (show (vals3 11) = .tuple #[(tupAt (vals3 11) 0), .int .i64 n0_4.2] from hV 11 (by decide))
           exact L_val hS rfl (Ob_c tHb4 rfl) ⟨rfl, hG⟩
          refine .cons (fun ss hlo hhi vals3 xw hG hV => ?_) ?_
          ·obtain rfl : ss = 1 := Nat.le_antisymm hhi hlo
           rw [← hfe]
           have hS := (hfr vals3).sub (ts := [138]) (S' := [(138, vals3 12)]) rfl
           replace hS := hS.conv (t := 138) rfl (show (vals3 12) = .tuple #[(tupAt (vals3 11) 0), .int .i64 n0_4.2] from hV 12 (by decide))
           exact L_val hS rfl (Ob_c tHb4 rfl) ⟨rfl, hG⟩
          refine .cons (fun ss hlo hhi vals3 xw hG hV => ?_) ?_
          ·obtain rfl : ss = 1 := Nat.le_antisymm hhi hlo
           rw [← hfe]
           have hS := (hfr vals3).sub (ts := [138]) (S' := [(138, vals3 12)]) rfl
           replace hS := hS.conv (t := 138) rfl (show (vals3 12) = .tuple #[(tupAt (vals3 11) 0), .int .i64 n0_4.2] from hV 12 (by decide))
           exact L_val hS rfl (Ob_c tHb4 rfl) ⟨rfl, hG⟩
          refine .cons (fun ss hlo hhi vals3 xw hG hV => ?_) ?_
          ·obtain rfl : ss = 1 := Nat.le_antisymm hhi hlo
           rw [← hfe]
           have hS := (hfr vals3).sub (ts := [151]) (S' := [(151, vals3 13)]) rfl
           replace hS := hS.conv (t := 151) rfl (show (vals3 13) = (tupAt (vals3 11) 0) from hV 13 (by decide))
           exact L_val hS rfl (Ob_c tHb4 rfl) ⟨rfl, hG⟩
          refine .cons (fun ss hlo hhi vals3 xw hG hV => ?_) ?_
          ·obtain rfl : ss = 1 := Nat.le_antisymm hhi hlo
           rw [← hfe]
           have hS := (hfr vals3).sub (ts := [152]) (S' := [(152, vals3 14)]) rfl
           replace hS := hS.conv (t := 152) rfl (show (vals3 14) = .int .i64 n0_4.2 from hV 14 (by decide))
           exact L_val hS rfl (Ob_c tHb4 rfl) ⟨rfl, hG⟩
          exact .nil
         ·intro vals3 a w24 Z hG hV
          replace Z := Z.sub (ts := [3, 7, 8, 11, 12, 14, 15, 16, 17, 18]) (S' := [(3, .pointer (some ⟨b1, 0, none⟩)), (7, .pointer (some ⟨b3, 0, none⟩)), (8, .pointer (some ⟨b4, 0, none⟩)), (11, .int .i64 round), (12, .pointer (some ⟨b6, 0, none⟩)), (14, .int .i64 i_4), (15, .int .i64 k), (16, .int .i64 (((all.getD (0 + (i_4).toNat * 1) []).getD (k).toNat default).to_)), (17, vals3 15), (18, vals3 16)]) rfl
          replace Z := Z.conv (t := 17) rfl (show (vals3 15) = (tupAt (vals3 11) 0) from hV 15 (by decide))
          replace Z := Z.conv (t := 18) rfl (show (vals3 16) = .int .i64 n0_4.2 from hV 16 (by decide))
          obtain ⟨I15, _, H⟩ := Gx.ex hG
          clear hG hV
          replace Z := Z.sub (ts := [3, 7, 8, 11, 12, 14, 15, 16, 17, 18]) rfl
          replace H : Hf I D w I15 w24 [SlC NS (tupAt (vals3 11) 0) n0_4.1, SlC NEOut v12 (all.getD (0 + (i_4).toNat * 1) []), BxC b6 35 vs11, ArR (SlC NEOut) all vs11 (0 + (i_4).toNat * 1), BxC b1 24 vs10, ArR (PtC OEhub_Hub) h_7 vs10 (0 + (((all.getD (0 + (i_4).toNat * 1) []).getD (k).toNat default).to_).toNat * 1), SlC NEOut v10 (all.getD (0 + (i_4).toNat * 1) []), SlC NEOut v9 (all.getD (0 + (i_4).toNat * 1) []), ArC 16 (OwC NS 9) 30 b3 sent, ArC 16 (OwC NS 9) 30 b4 got_3] := H
          replace H : Hf I D w I15 w24 [PtC OEhub_Hub (.pointer none) none, SlC NS (tupAt (vals3 11) 0) n0_4.1, SlC NEOut v12 (all.getD (0 + (i_4).toNat * 1) []), BxC b6 35 vs11, ArR (SlC NEOut) all vs11 (0 + (i_4).toNat * 1), BxC b1 24 vs10, ArR (PtC OEhub_Hub) h_7 vs10 (0 + (((all.getD (0 + (i_4).toNat * 1) []).getD (k).toNat default).to_).toNat * 1), SlC NEOut v10 (all.getD (0 + (i_4).toNat * 1) []), SlC NEOut v9 (all.getD (0 + (i_4).toNat * 1) []), ArC 16 (OwC NS 9) 30 b3 sent, ArC 16 (OwC NS 9) 30 b4 got_3] := H.mkN OEhub_Hub
          replace H : Hf I D w I15 w24 [ArC 4 (PtC OEhub_Hub) 24 b1 (h_7.set (0 + (((all.getD (0 + (i_4).toNat * 1) []).getD (k).toNat default).to_).toNat * 1) none), SlC NS (tupAt (vals3 11) 0) n0_4.1, SlC NEOut v12 (all.getD (0 + (i_4).toNat * 1) []), BxC b6 35 vs11, ArR (SlC NEOut) all vs11 (0 + (i_4).toNat * 1), SlC NEOut v10 (all.getD (0 + (i_4).toNat * 1) []), SlC NEOut v9 (all.getD (0 + (i_4).toNat * 1) []), ArC 16 (OwC NS 9) 30 b3 sent, ArC 16 (OwC NS 9) 30 b4 got_3] := H.arShut0 hl10 hxl10 hb10 hv10 [(0, false), (4, false), (4, false)] rfl
          replace H : Hf I D w I15 w24 [ArC 4 (SlC NEOut) 35 b6 all, ArC 4 (PtC OEhub_Hub) 24 b1 (h_7.set (0 + (((all.getD (0 + (i_4).toNat * 1) []).getD (k).toNat default).to_).toNat * 1) none), SlC NS (tupAt (vals3 11) 0) n0_4.1, SlC NEOut v12 (all.getD (0 + (i_4).toNat * 1) []), SlC NEOut v10 (all.getD (0 + (i_4).toNat * 1) []), SlC NEOut v9 (all.getD (0 + (i_4).toNat * 1) []), ArC 16 (OwC NS 9) 30 b3 sent, ArC 16 (OwC NS 9) 30 b4 got_3] := H.arShutE hl11 hxl11 hb11 hv11 [(2, true), (3, false), (3, false)] rfl
          refine p_then (wp_seq ?_)
          refine wp_seq (f_region Z ?_); clear Z; intro Z
          refine s_runk tHb4 Z 2 rfl rfl ?_; clear Z a; intro a Z
          refine s_end Z [3, 7, 8, 11, 12, 14, 15, 16, 17, 154] rfl ?_; clear Z; intro Z
          refine p_then ?_
          refine f_cond Z rfl (fun hc11 => ?_) (fun hc11 => ?_)
          ·replace hF := ite_t hc11 hF
           refine wp_seq (f_region Z ?_); clear Z; intro Z
           refine s_runk tHb4 Z 1 rfl rfl ?_; clear Z a; intro a Z
           refine s_end Z [2] rfl ?_; clear Z; intro Z
           refine p_then (wp_ret ?_)
           refine p_then_r ?_
           refine p_blk_r ?_
           refine p_then_r ?_
           refine p_then_r ?_
           refine p_blk_r ?_
           refine p_blk_r ?_
           refine p_then_r ?_
           refine p_then_r ?_
           refine p_blk_r ?_
           refine p_blk_r ?_
           refine p_then_r ?_
           refine p_then_r ?_
           refine p_blk_r ?_
           refine p_then_r ?_
           obtain rfl := some_in hF
           exact f_ret Z (run_results1 rfl Z rfl) ⟨rfl, I15, (H.sub [] rfl).eq rfl⟩
          ·replace hF := ite_f hc11 hF
           refine wp_skip ?_
           refine p_then ?_
           have hb12 : 0 + (i_4).toNat * 4 + (((all.getD (0 + (i_4).toNat * 1) []).getD (k).toNat default).to_).toNat * 1 < 16 := by omega
           obtain ⟨v13, vs12, hl12, hxl12, hv12, H⟩ := H.arOpen 7 rfl (0 + (i_4).toNat * 4 + (((all.getD (0 + (i_4).toNat * 1) []).getD (k).toNat default).to_).toNat * 1) hb12 ([] : List ByteArray)
           replace H : Hf I D w I15 w24 [OwC NS 9 v13 (got_3.getD (0 + (i_4).toNat * 4 + (((all.getD (0 + (i_4).toNat * 1) []).getD (k).toNat default).to_).toNat * 1) []), BxC b4 30 vs12, ArR (OwC NS 9) got_3 vs12 (0 + (i_4).toNat * 4 + (((all.getD (0 + (i_4).toNat * 1) []).getD (k).toNat default).to_).toNat * 1), ArC 4 (SlC NEOut) 35 b6 all, ArC 4 (PtC OEhub_Hub) 24 b1 (h_7.set (0 + (((all.getD (0 + (i_4).toNat * 1) []).getD (k).toNat default).to_).toNat * 1) none), SlC NS (tupAt (vals3 11) 0) n0_4.1, SlC NEOut v12 (all.getD (0 + (i_4).toNat * 1) []), SlC NEOut v10 (all.getD (0 + (i_4).toNat * 1) []), SlC NEOut v9 (all.getD (0 + (i_4).toNat * 1) []), ArC 16 (OwC NS 9) 30 b3 sent] := H
           obtain ⟨hg26, hF⟩ := chk_in hF
           refine f_regionL Z (by kernel_rfl) (by kernel_rfl) (by decide) (by decide) [8, 11] [(0, 0, 1), (0, 0, 1), (0, 0, 0), (0, 0, 0), (4, 0, 0), (28, 0, 0), (60, 0, 0), (0, 0, 0), (252, 0, 0), (1, 0, 1), (1023, 1, 1), (2047, 1, 1)] (by kernel_rfl) (fun jj vv => match jj with | 0 => vv = .int .i64 i_4 | 1 => vv = .int .i64 (((all.getD (0 + (i_4).toNat * 1) []).getD (k).toNat default).to_) | 2 => vv = .int .i64 i_4 | 3 => vv = .int .i64 (((all.getD (0 + (i_4).toNat * 1) []).getD (k).toNat default).to_) | 4 => vv = .pointer (some ⟨b4, 0 + (i_4).toNat * 4, none⟩) | 5 => vv = .pointer (some ⟨b4, 0 + (i_4).toNat * 4 + (((all.getD (0 + (i_4).toNat * 1) []).getD (k).toNat default).to_).toNat * 1, none⟩) | 6 => vv = v13 | 7 => vv = (tupAt (vals3 11) 0) | 8 => True | 9 => vv = .pointer (some ⟨b4, 0 + (i_4).toNat * 4, none⟩) | 10 => vv = .pointer (some ⟨b4, 0 + (i_4).toNat * 4 + (((all.getD (0 + (i_4).toNat * 1) []).getD (k).toNat default).to_).toNat * 1, none⟩) | 11 => True | _ => True) (fun ss vals4 xw => match ss with | 0 => Gx I D w I15 w24 xw [OwC NS 9 v13 (got_3.getD (0 + (i_4).toNat * 4 + (((all.getD (0 + (i_4).toNat * 1) []).getD (k).toNat default).to_).toNat * 1) []), BxC b4 30 vs12, ArR (OwC NS 9) got_3 vs12 (0 + (i_4).toNat * 4 + (((all.getD (0 + (i_4).toNat * 1) []).getD (k).toNat default).to_).toNat * 1), ArC 4 (SlC NEOut) 35 b6 all, ArC 4 (PtC OEhub_Hub) 24 b1 (h_7.set (0 + (((all.getD (0 + (i_4).toNat * 1) []).getD (k).toNat default).to_).toNat * 1) none), SlC NS (tupAt (vals3 11) 0) n0_4.1, SlC NEOut v12 (all.getD (0 + (i_4).toNat * 1) []), SlC NEOut v10 (all.getD (0 + (i_4).toNat * 1) []), SlC NEOut v9 (all.getD (0 + (i_4).toNat * 1) []), ArC 16 (OwC NS 9) 30 b3 sent] | 1 => Gx I D w I15 w24 xw [OwC NS 9 (vals4 8) ((got_3.getD (0 + (i_4).toNat * 4 + (((all.getD (0 + (i_4).toNat * 1) []).getD (k).toNat default).to_).toNat * 1) []) ++ n0_4.1), BxC b4 30 vs12, ArR (OwC NS 9) got_3 vs12 (0 + (i_4).toNat * 4 + (((all.getD (0 + (i_4).toNat * 1) []).getD (k).toNat default).to_).toNat * 1), ArC 4 (SlC NEOut) 35 b6 all, ArC 4 (PtC OEhub_Hub) 24 b1 (h_7.set (0 + (((all.getD (0 + (i_4).toNat * 1) []).getD (k).toNat default).to_).toNat * 1) none), SlC NS (tupAt (vals3 11) 0) n0_4.1, SlC NEOut v12 (all.getD (0 + (i_4).toNat * 1) []), SlC NEOut v10 (all.getD (0 + (i_4).toNat * 1) []), SlC NEOut v9 (all.getD (0 + (i_4).toNat * 1) []), ArC 16 (OwC NS 9) 30 b3 sent] | _ => Gx I D w I15 w24 xw [BxC b4 30 (vs12.set (0 + (i_4).toNat * 4 + (((all.getD (0 + (i_4).toNat * 1) []).getD (k).toNat default).to_).toNat * 1) ((vals4 8))), OwC NS 9 (vals4 8) ((got_3.getD (0 + (i_4).toNat * 4 + (((all.getD (0 + (i_4).toNat * 1) []).getD (k).toNat default).to_).toNat * 1) []) ++ n0_4.1), ArR (OwC NS 9) got_3 vs12 (0 + (i_4).toNat * 4 + (((all.getD (0 + (i_4).toNat * 1) []).getD (k).toNat default).to_).toNat * 1), ArC 4 (SlC NEOut) 35 b6 all, ArC 4 (PtC OEhub_Hub) 24 b1 (h_7.set (0 + (((all.getD (0 + (i_4).toNat * 1) []).getD (k).toNat default).to_).toNat * 1) none), SlC NS (tupAt (vals3 11) 0) n0_4.1, SlC NEOut v12 (all.getD (0 + (i_4).toNat * 1) []), SlC NEOut v10 (all.getD (0 + (i_4).toNat * 1) []), SlC NEOut v9 (all.getD (0 + (i_4).toNat * 1) []), ArC 16 (OwC NS 9) 30 b3 sent]) (fun _ => Gx.start H) ?_ ?_
           ·intro fr hfr hfe
            refine .cons (fun ss hlo hhi vals4 xw hG hV => ?_) ?_
            ·obtain rfl | rfl : ss = 0 ∨ ss = 1 := st1 hlo hhi
             all_goals
             ·rw [← hfe]
              have hS := (hfr vals4).sub (ts := [14]) (S' := [(14, .int .i64 i_4)]) rfl
              exact L_val hS rfl (Ob_c tHb4 rfl) ⟨rfl, hG⟩
            refine .cons (fun ss hlo hhi vals4 xw hG hV => ?_) ?_
            ·obtain rfl | rfl : ss = 0 ∨ ss = 1 := st1 hlo hhi
             all_goals
             ·rw [← hfe]
              have hS := (hfr vals4).sub (ts := [16]) (S' := [(16, .int .i64 (((all.getD (0 + (i_4).toNat * 1) []).getD (k).toNat default).to_))]) rfl
              exact L_val hS rfl (Ob_c tHb4 rfl) ⟨rfl, hG⟩
            refine .cons (fun ss hlo hhi vals4 xw hG hV => ?_) ?_
            ·obtain rfl : ss = 0 := Nat.le_antisymm hhi hlo
             rw [← hfe]
             have hS := (hfr vals4).sub (ts := [14]) (S' := [(14, .int .i64 i_4)]) rfl
             exact L_val hS rfl (Ob_c tHb4 rfl) ⟨rfl, hG⟩
            refine .cons (fun ss hlo hhi vals4 xw hG hV => ?_) ?_
            ·obtain rfl : ss = 0 := Nat.le_antisymm hhi hlo
             rw [← hfe]
             have hS := (hfr vals4).sub (ts := [16]) (S' := [(16, .int .i64 (((all.getD (0 + (i_4).toNat * 1) []).getD (k).toNat default).to_))]) rfl
             exact L_val hS rfl (Ob_c tHb4 rfl) ⟨rfl, hG⟩
            refine .cons (fun ss hlo hhi vals4 xw hG hV => ?_) ?_
            ·obtain rfl : ss = 0 := Nat.le_antisymm hhi hlo
             rw [← hfe]
             have hS := (hfr vals4).sub (ts := [157, 8]) (S' := [(157, vals4 2), (8, .pointer (some ⟨b4, 0, none⟩))]) rfl
             replace hS := hS.conv (t := 157) rfl (show (vals4 2) = .int .i64 i_4 from hV 2 (by decide))
             exact L_val hS rfl (Ob_apix (m := 4) (i_4).toNat rfl rfl rfl Try.underlying30 (by kernel_rfl) (have h := hg22; by omega) (have h := hg22; by omega)) ⟨rfl, hG⟩
            refine .cons (fun ss hlo hhi vals4 xw hG hV => ?_) ?_
            ·obtain rfl : ss = 0 := Nat.le_antisymm hhi hlo
             rw [← hfe]
             have hS := (hfr vals4).sub (ts := [159, 158]) (S' := [(159, vals4 4), (158, vals4 3)]) rfl
             replace hS := hS.conv (t := 159) rfl (show (vals4 4) = .pointer (some ⟨b4, 0 + (i_4).toNat * 4, none⟩) from hV 4 (by decide))
             replace hS := hS.conv (t := 158) rfl (show (vals4 3) = .int .i64 (((all.getD (0 + (i_4).toNat * 1) []).getD (k).toNat default).to_) from hV 3 (by decide))
             exact L_val hS rfl (Ob_apix (m := 1) (((all.getD (0 + (i_4).toNat * 1) []).getD (k).toNat default).to_).toNat rfl rfl rfl Try.underlying29 (by kernel_rfl) (have h := hg24; by omega) (have h := hg24; by omega)) ⟨rfl, hG⟩
            refine .cons (fun ss hlo hhi vals4 xw hG hV => ?_) ?_
            ·obtain rfl : ss = 0 := Nat.le_antisymm hhi hlo
             rw [← hfe]
             have hS := (hfr vals4).sub (ts := [160]) (S' := [(160, vals4 5)]) rfl
             replace hS := hS.conv (t := 160) rfl (show (vals4 5) = .pointer (some ⟨b4, 0 + (i_4).toNat * 4 + (((all.getD (0 + (i_4).toNat * 1) []).getD (k).toNat default).to_).toNat * 1, none⟩) from hV 5 (by decide))
             obtain ⟨I2, hI2, H⟩ := Gx.ex hG
             exact L_val hS rfl (Ob_load tHb4 rfl rfl rfl ((H.bx 1 rfl).cell _ hv12)) ⟨rfl, hG⟩
            refine .cons (fun ss hlo hhi vals4 xw hG hV => ?_) ?_
            ·obtain rfl : ss = 0 := Nat.le_antisymm hhi hlo
             rw [← hfe]
             have hS := (hfr vals4).sub (ts := [17]) (S' := [(17, (tupAt (vals3 11) 0))]) rfl
             exact L_val hS rfl (Ob_c tHb4 rfl) ⟨rfl, hG⟩
            refine .cons (fun ss hlo hhi vals4 xw hG hV => ?_) ?_
            ·obtain rfl : ss = 0 := Nat.le_antisymm hhi hlo
             rw [← hfe]
             have hS := (hfr vals4).sub (ts := [161, 162]) (S' := [(161, vals4 6), (162, vals4 7)]) rfl
             replace hS := hS.conv (t := 161) rfl (show (vals4 6) = v13 from hV 6 (by decide))
             replace hS := hS.conv (t := 162) rfl (show (vals4 7) = (tupAt (vals3 11) 0) from hV 7 (by decide))
             obtain ⟨I2, hI2, H⟩ := Gx.ex hG
             exact L_appO H 0 E_28_YHb4 n0_4.1 rfl rfl hS rfl rfl rfl rfl (H.sl2 5 rfl) hg26 (by decide) fun v yw hK H => ⟨trivial, Gx.go hG hI2 hK (fun _ h => h) H⟩
            refine .cons (fun ss hlo hhi vals4 xw hG hV => ?_) ?_
            ·obtain rfl | rfl : ss = 0 ∨ ss = 1 := st1 hlo hhi
             all_goals
             ·rw [← hfe]
              have hS := (hfr vals4).sub (ts := [155, 8]) (S' := [(155, vals4 0), (8, .pointer (some ⟨b4, 0, none⟩))]) rfl
              replace hS := hS.conv (t := 155) rfl (show (vals4 0) = .int .i64 i_4 from hV 0 (by decide))
              exact L_val hS rfl (Ob_apix (m := 4) (i_4).toNat rfl rfl rfl Try.underlying30 (by kernel_rfl) (have h := hg22; by omega) (have h := hg22; by omega)) ⟨rfl, hG⟩
            refine .cons (fun ss hlo hhi vals4 xw hG hV => ?_) ?_
            ·obtain rfl : ss = 1 := Nat.le_antisymm hhi hlo
             rw [← hfe]
             have hS := (hfr vals4).sub (ts := [164, 156]) (S' := [(164, vals4 9), (156, vals4 1)]) rfl
             replace hS := hS.conv (t := 164) rfl (show (vals4 9) = .pointer (some ⟨b4, 0 + (i_4).toNat * 4, none⟩) from hV 9 (by decide))
             replace hS := hS.conv (t := 156) rfl (show (vals4 1) = .int .i64 (((all.getD (0 + (i_4).toNat * 1) []).getD (k).toNat default).to_) from hV 1 (by decide))
             exact L_val hS rfl (Ob_apix (m := 1) (((all.getD (0 + (i_4).toNat * 1) []).getD (k).toNat default).to_).toNat rfl rfl rfl Try.underlying29 (by kernel_rfl) (have h := hg24; by omega) (have h := hg24; by omega)) ⟨rfl, hG⟩
            refine .cons (fun ss hlo hhi vals4 xw hG hV => ?_) ?_
            ·obtain rfl : ss = 1 := Nat.le_antisymm hhi hlo
             rw [← hfe]
             have hS := (hfr vals4).sub (ts := [165, 163]) (S' := [(165, vals4 10), (163, vals4 8)]) rfl
             replace hS := hS.conv (t := 165) rfl (show (vals4 10) = .pointer (some ⟨b4, 0 + (i_4).toNat * 4 + (((all.getD (0 + (i_4).toNat * 1) []).getD (k).toNat default).to_).toNat * 1, none⟩) from hV 10 (by decide))
             obtain ⟨I2, hI2, H⟩ := Gx.ex hG
             exact L_store tHb4 H 1 rfl hS rfl rfl rfl rfl rfl (slS.cells (H.owshape 0 rfl)) rfl rfl (one_cons (slS.one (H.owshape 0 rfl)) one_nil) (by rw [hl12]; exact hb12) (putCells_one _ _ _) fun yw hK H => ⟨trivial, Gx.go hG hI2 hK (fun _ h => h) H⟩
            exact .nil
           ·intro vals4 a w25 Z hG hV
            replace Z := Z.sub (ts := [3, 7, 8, 11, 12, 14, 15]) (S' := [(3, .pointer (some ⟨b1, 0, none⟩)), (7, .pointer (some ⟨b3, 0, none⟩)), (8, .pointer (some ⟨b4, 0, none⟩)), (11, .int .i64 round), (12, .pointer (some ⟨b6, 0, none⟩)), (14, .int .i64 i_4), (15, .int .i64 k)]) rfl
            obtain ⟨I16, _, H⟩ := Gx.ex hG
            clear hG hV
            replace Z := Z.sub (ts := [3, 7, 8, 11, 12, 14, 15]) rfl
            replace H : Hf I D w I16 w25 [BxC b4 30 (vs12.set (0 + (i_4).toNat * 4 + (((all.getD (0 + (i_4).toNat * 1) []).getD (k).toNat default).to_).toNat * 1) ((vals4 8))), OwC NS 9 (vals4 8) ((got_3.getD (0 + (i_4).toNat * 4 + (((all.getD (0 + (i_4).toNat * 1) []).getD (k).toNat default).to_).toNat * 1) []) ++ n0_4.1), ArR (OwC NS 9) got_3 vs12 (0 + (i_4).toNat * 4 + (((all.getD (0 + (i_4).toNat * 1) []).getD (k).toNat default).to_).toNat * 1), ArC 4 (SlC NEOut) 35 b6 all, ArC 4 (PtC OEhub_Hub) 24 b1 (h_7.set (0 + (((all.getD (0 + (i_4).toNat * 1) []).getD (k).toNat default).to_).toNat * 1) none), SlC NS (tupAt (vals3 11) 0) n0_4.1, SlC NEOut v12 (all.getD (0 + (i_4).toNat * 1) []), SlC NEOut v10 (all.getD (0 + (i_4).toNat * 1) []), SlC NEOut v9 (all.getD (0 + (i_4).toNat * 1) []), ArC 16 (OwC NS 9) 30 b3 sent] := H
            replace H : Hf I D w I16 w25 [ArC 16 (OwC NS 9) 30 b4 (got_3.set (0 + (i_4).toNat * 4 + (((all.getD (0 + (i_4).toNat * 1) []).getD (k).toNat default).to_).toNat * 1) ((got_3.getD (0 + (i_4).toNat * 4 + (((all.getD (0 + (i_4).toNat * 1) []).getD (k).toNat default).to_).toNat * 1) []) ++ n0_4.1)), ArC 4 (SlC NEOut) 35 b6 all, ArC 4 (PtC OEhub_Hub) 24 b1 (h_7.set (0 + (((all.getD (0 + (i_4).toNat * 1) []).getD (k).toNat default).to_).toNat * 1) none), SlC NS (tupAt (vals3 11) 0) n0_4.1, SlC NEOut v12 (all.getD (0 + (i_4).toNat * 1) []), SlC NEOut v10 (all.getD (0 + (i_4).toNat * 1) []), SlC NEOut v9 (all.getD (0 + (i_4).toNat * 1) []), ArC 16 (OwC NS 9) 30 b3 sent] := H.arShut hl12 hxl12 hb12 [(1, false), (0, false), (0, false)] rfl
            refine p_blk ?_
            refine p_then ?_
            obtain ⟨hg27, hF⟩ := chk_in hF
            refine f_region Z ?_; clear Z; intro Z
            refine s_runk tHb4 Z 1 rfl rfl ?_; clear Z a; intro a Z
            refine s_ob Z (v := .int .i64 (k + 1)) rfl rfl (by decide) rfl (Ob_add rfl rfl rfl (wrI hg27)) ?_; clear Z a; intro a Z
            refine s_runk tHb4 Z 1 rfl rfl ?_; clear Z a; intro a Z
            refine s_end Z [3, 7, 8, 11, 12, 14, 15] rfl ?_; clear Z; intro Z
            refine p_then ?_
            exact ⟨(k + 1, (h_7.set (0 + (((all.getD (0 + (i_4).toNat * 1) []).getD (k).toNat default).to_).toNat * 1) none), (got_3.set (0 + (i_4).toNat * 4 + (((all.getD (0 + (i_4).toNat * 1) []).getD (k).toNat default).to_).toNat * 1) ((got_3.getD (0 + (i_4).toNat * 4 + (((all.getD (0 + (i_4).toNat * 1) []).getD (k).toNat default).to_).toNat * 1) []) ++ n0_4.1))), ⟨Z.sub (ts := [3, 7, 8, 11, 12, 14, 15]) rfl, ⟨I16, (H.sub [(2, false), (6, false), (0, false), (0, false)] rfl).eq rfl⟩⟩, hF⟩
        ·obtain ⟨b8, hv, H⟩ := H.optS 3 rfl ho4
         subst hv
         replace H : Hf I D w I14 w23 [OEhub_Hub b8 x_4, SlC NEOut v12 (all.getD (0 + (i_4).toNat * 1) []), BxC b6 35 vs11, ArR (SlC NEOut) all vs11 (0 + (i_4).toNat * 1), BxC b1 24 vs10, ArR (PtC OEhub_Hub) h_7 vs10 (0 + (((all.getD (0 + (i_4).toNat * 1) []).getD (k).toNat default).to_).toNat * 1), SlC NEOut v10 (all.getD (0 + (i_4).toNat * 1) []), SlC NEOut v9 (all.getD (0 + (i_4).toNat * 1) []), ArC 16 (OwC NS 9) 30 b3 sent, ArC 16 (OwC NS 9) 30 b4 got_3] := H
         obtain ⟨hg28, hF⟩ := chk_in hF
         obtain ⟨i_5, hx7, hF⟩ := bnd_in hF
         refine f_regionM Z (by kernel_rfl) (by kernel_rfl) (by decide) (by decide) [11] [(0, 0, 0), (1, 0, 0), (3, 0, 0), (0, 0, 0), (0, 0, 0), (16, 0, 0), (48, 0, 0), (0, 0, 0), (240, 0, 0), (496, 0, 0), (1008, 0, 0), (2047, 0, 0), (4095, 1, 1), (8191, 1, 1), (8191, 1, 1), (16383, 1, 1), (65535, 1, 1)] (by kernel_rfl) (fun jj => match jj with | 12 => 11 | 13 => 11 | 15 => 11 | _ => jj) (by kernel_rfl) (fun jj rv vv => cond (Nat.blt jj 8) (cond (Nat.blt jj 4) (cond (Nat.blt jj 2) (cond (Nat.blt jj 1) (vv = .int .i64 (((all.getD (0 + (i_4).toNat * 1) []).getD (k).toNat default).to_)) (vv = .pointer (some ⟨b1, 0 + (((all.getD (0 + (i_4).toNat * 1) []).getD (k).toNat default).to_).toNat * 1, none⟩))) (cond (Nat.blt jj 3) (vv = .pointer (some ⟨b8, 0, none⟩)) (vv = .int .i64 i_4))) (cond (Nat.blt jj 6) (cond (Nat.blt jj 5) (vv = .int .i64 i_4) (vv = .pointer (some ⟨b6, 0 + (i_4).toNat * 1, none⟩))) (cond (Nat.blt jj 7) (vv = v12) (vv = .int .i64 k)))) (cond (Nat.blt jj 12) (cond (Nat.blt jj 10) (cond (Nat.blt jj 9) (vv = .pointer (some ⟨blkOf v12, oofOf v12 + (k).toNat * 2, none⟩)) (vv = .pointer (some ⟨blkOf v12, oofOf v12 + (k).toNat * 2 + 1, none⟩))) (cond (Nat.blt jj 11) (vv = .string (((all.getD (0 + (i_4).toNat * 1) []).getD (k).toNat default).body)) (vv = .tuple #[(tupAt vv 0), .int .i64 i_5.2.1]))) (cond (Nat.blt jj 14) (cond (Nat.blt jj 13) (vv = .tuple #[(tupAt rv 0), .int .i64 i_5.2.1]) (vv = (tupAt rv 0))) (cond (Nat.blt jj 15) (vv = .int .i64 i_5.2.1) (cond (Nat.blt jj 16) (vv = (tupAt rv 0)) (vv = .int .i64 i_5.2.1)))))) (fun ss vals5 xw => match ss with | 0 => Gx I D w I14 w23 xw [OEhub_Hub b8 x_4, SlC NEOut v12 (all.getD (0 + (i_4).toNat * 1) []), BxC b6 35 vs11, ArR (SlC NEOut) all vs11 (0 + (i_4).toNat * 1), BxC b1 24 vs10, ArR (PtC OEhub_Hub) h_7 vs10 (0 + (((all.getD (0 + (i_4).toNat * 1) []).getD (k).toNat default).to_).toNat * 1), SlC NEOut v10 (all.getD (0 + (i_4).toNat * 1) []), SlC NEOut v9 (all.getD (0 + (i_4).toNat * 1) []), ArC 16 (OwC NS 9) 30 b3 sent, ArC 16 (OwC NS 9) 30 b4 got_3] | _ => Gx I D w I14 w23 xw [OEhub_Hub b8 i_5.2.2, SlC NS (tupAt (vals5 11) 0) i_5.1, SlC NEOut v12 (all.getD (0 + (i_4).toNat * 1) []), BxC b6 35 vs11, ArR (SlC NEOut) all vs11 (0 + (i_4).toNat * 1), BxC b1 24 vs10, ArR (PtC OEhub_Hub) h_7 vs10 (0 + (((all.getD (0 + (i_4).toNat * 1) []).getD (k).toNat default).to_).toNat * 1), SlC NEOut v10 (all.getD (0 + (i_4).toNat * 1) []), SlC NEOut v9 (all.getD (0 + (i_4).toNat * 1) []), ArC 16 (OwC NS 9) 30 b3 sent, ArC 16 (OwC NS 9) 30 b4 got_3]) (fun _ => Gx.start H) ?_ ?_
         ·intro fr hfr hfe
          refine .cons (fun ss hlo hhi vals5 xw hG hV => ?_) ?_
          ·obtain rfl : ss = 0 := Nat.le_antisymm hhi hlo
           rw [← hfe]
           have hS := (hfr vals5).sub (ts := [16]) (S' := [(16, .int .i64 (((all.getD (0 + (i_4).toNat * 1) []).getD (k).toNat default).to_))]) rfl
           exact L_val hS rfl (Ob_c tHb4 rfl) ⟨rfl, hG⟩
          refine .cons (fun ss hlo hhi vals5 xw hG hV => ?_) ?_
          ·obtain rfl : ss = 0 := Nat.le_antisymm hhi hlo
           rw [← hfe]
           have hS := (hfr vals5).sub (ts := [139, 3]) (S' := [(139, vals5 0), (3, .pointer (some ⟨b1, 0, none⟩))]) rfl
           replace hS := hS.conv (t := 139) rfl (show (vals5 0) = .int .i64 (((all.getD (0 + (i_4).toNat * 1) []).getD (k).toNat default).to_) from hV 0 (by decide))
           exact L_val hS rfl (Ob_apix (m := 1) (((all.getD (0 + (i_4).toNat * 1) []).getD (k).toNat default).to_).toNat rfl rfl rfl Try.underlying24 (by kernel_rfl) (have h := hg24; by omega) (have h := hg24; by omega)) ⟨rfl, hG⟩
          refine .cons (fun ss hlo hhi vals5 xw hG hV => ?_) ?_
          ·obtain rfl : ss = 0 := Nat.le_antisymm hhi hlo
           rw [← hfe]
           have hS := (hfr vals5).sub (ts := [140]) (S' := [(140, vals5 1)]) rfl
           replace hS := hS.conv (t := 140) rfl (show (vals5 1) = .pointer (some ⟨b1, 0 + (((all.getD (0 + (i_4).toNat * 1) []).getD (k).toNat default).to_).toNat * 1, none⟩) from hV 1 (by decide))
           obtain ⟨I2, hI2, H⟩ := Gx.ex hG
           exact L_val hS rfl (Ob_load tHb4 rfl rfl rfl ((H.bx 4 rfl).cell _ hv10)) ⟨rfl, hG⟩
          refine .cons (fun ss hlo hhi vals5 xw hG hV => ?_) ?_
          ·obtain rfl : ss = 0 := Nat.le_antisymm hhi hlo
           rw [← hfe]
           have hS := (hfr vals5).sub (ts := [14]) (S' := [(14, .int .i64 i_4)]) rfl
           exact L_val hS rfl (Ob_c tHb4 rfl) ⟨rfl, hG⟩
          refine .cons (fun ss hlo hhi vals5 xw hG hV => ?_) ?_
          ·obtain rfl : ss = 0 := Nat.le_antisymm hhi hlo
           rw [← hfe]
           have hS := (hfr vals5).sub (ts := [14]) (S' := [(14, .int .i64 i_4)]) rfl
           exact L_val hS rfl (Ob_c tHb4 rfl) ⟨rfl, hG⟩
          refine .cons (fun ss hlo hhi vals5 xw hG hV => ?_) ?_
          ·obtain rfl : ss = 0 := Nat.le_antisymm hhi hlo
           rw [← hfe]
           have hS := (hfr vals5).sub (ts := [143, 12]) (S' := [(143, vals5 4), (12, .pointer (some ⟨b6, 0, none⟩))]) rfl
           replace hS := hS.conv (t := 143) rfl (show (vals5 4) = .int .i64 i_4 from hV 4 (by decide))
           exact L_val hS rfl (Ob_apix (m := 1) (i_4).toNat rfl rfl rfl Try.underlying35 (by kernel_rfl) (have h := hg22; by omega) (have h := hg22; by omega)) ⟨rfl, hG⟩
          refine .cons (fun ss hlo hhi vals5 xw hG hV => ?_) ?_
          ·obtain rfl : ss = 0 := Nat.le_antisymm hhi hlo
           rw [← hfe]
           have hS := (hfr vals5).sub (ts := [144]) (S' := [(144, vals5 5)]) rfl
           replace hS := hS.conv (t := 144) rfl (show (vals5 5) = .pointer (some ⟨b6, 0 + (i_4).toNat * 1, none⟩) from hV 5 (by decide))
           obtain ⟨I2, hI2, H⟩ := Gx.ex hG
           exact L_val hS rfl (Ob_load tHb4 rfl rfl rfl ((H.bx 2 rfl).cell _ hv11)) ⟨rfl, hG⟩
          refine .cons (fun ss hlo hhi vals5 xw hG hV => ?_) ?_
          ·obtain rfl : ss = 0 := Nat.le_antisymm hhi hlo
           rw [← hfe]
           have hS := (hfr vals5).sub (ts := [15]) (S' := [(15, .int .i64 k)]) rfl
           exact L_val hS rfl (Ob_c tHb4 rfl) ⟨rfl, hG⟩
          refine .cons (fun ss hlo hhi vals5 xw hG hV => ?_) ?_
          ·obtain rfl : ss = 0 := Nat.le_antisymm hhi hlo
           rw [← hfe]
           have hS := (hfr vals5).sub (ts := [145, 146]) (S' := [(145, vals5 6), (146, vals5 7)]) rfl
           replace hS := hS.conv (t := 145) rfl (show (vals5 6) = v12 from hV 6 (by decide))
           replace hS := hS.conv (t := 146) rfl (show (vals5 7) = .int .i64 k from hV 7 (by decide))
           obtain ⟨I2, hI2, H⟩ := Gx.ex hG
           exact L_val hS rfl (Ob_sidx tHb4 rfl rfl rfl rfl (slPl (H.sl 1 rfl) hg28) hg28) ⟨rfl, hG⟩
          refine .cons (fun ss hlo hhi vals5 xw hG hV => ?_) ?_
          ·obtain rfl : ss = 0 := Nat.le_antisymm hhi hlo
           rw [← hfe]
           have hS := (hfr vals5).sub (ts := [147]) (S' := [(147, vals5 8)]) rfl
           replace hS := hS.conv (t := 147) rfl (show (vals5 8) = .pointer (some ⟨blkOf v12, oofOf v12 + (k).toNat * 2, none⟩) from hV 8 (by decide))
           exact L_val hS rfl (Ob_c tHb4 rfl) ⟨rfl, hG⟩
          refine .cons (fun ss hlo hhi vals5 xw hG hV => ?_) ?_
          ·obtain rfl : ss = 0 := Nat.le_antisymm hhi hlo
           rw [← hfe]
           have hS := (hfr vals5).sub (ts := [148]) (S' := [(148, vals5 9)]) rfl
           replace hS := hS.conv (t := 148) rfl (show (vals5 9) = .pointer (some ⟨blkOf v12, oofOf v12 + (k).toNat * 2 + 1, none⟩) from hV 9 (by decide))
           obtain ⟨I2, hI2, H⟩ := Gx.ex hG
           exact L_val hS rfl (Ob_load tHb4 rfl rfl rfl ((slFl (H.sl 1 rfl) hg28) 1 _ rfl)) ⟨rfl, hG⟩
          refine .cons (fun ss hlo hhi vals5 xw hG hV => ?_) ?_
          ·obtain rfl : ss = 0 := Nat.le_antisymm hhi hlo
           rw [← hfe]
           have hS := (hfr vals5).sub (ts := [141, 142, 149]) (S' := [(141, vals5 2), (142, vals5 3), (149, vals5 10)]) rfl
           replace hS := hS.conv (t := 141) rfl (show (vals5 2) = .pointer (some ⟨b8, 0, none⟩) from hV 2 (by decide))
           replace hS := hS.conv (t := 142) rfl (show (vals5 3) = .int .i64 i_4 from hV 3 (by decide))
           replace hS := hS.conv (t := 149) rfl (show (vals5 10) = .string (((all.getD (0 + (i_4).toNat * 1) []).getD (k).toNat default).body) from hV 10 (by decide))
           obtain ⟨I2, hI2, H⟩ := Gx.ex hG
           refine L_hcall H (js := [(0, false)]) rfl (caps := #[]) hS fn_7_YHb4 rfl rfl rfl rfl rfl (fun D1 hS => have hq := c_hub_Hub_In hx7 hS; hq) fun _ yw D1 hr hF2 => ?_
           obtain ⟨q0_, rfl, I3, K⟩ := hr
           obtain ⟨hK, H2⟩ := hF2 K
           exact ⟨rfl, Gx.go hG hI2 hK K.imm H2⟩
          refine .cons (fun ss hlo hhi vals5 xw hG hV => ?_) ?_
          ·obtain rfl : ss = 1 := Nat.le_antisymm hhi hlo
           rw [← hfe]
           have hS := (hfr vals5).sub (ts := [150]) (S' := [(150, vals5 11)]) rfl
           replace hS := hS.conv (t := 150) rfl (show (vals5 11) = .tuple #[(tupAt (vals5 11) 0), .int .i64 i_5.2.1] from hV 11 (by decide))
           exact L_val hS rfl (Ob_c tHb4 rfl) ⟨rfl, hG⟩
          refine .cons (fun ss hlo hhi vals5 xw hG hV => ?_) ?_
          ·obtain rfl : ss = 1 := Nat.le_antisymm hhi hlo
           rw [← hfe]
           have hS := (hfr vals5).sub (ts := [138]) (S' := [(138, vals5 12)]) rfl
           replace hS := hS.conv (t := 138) rfl (show (vals5 12) = .tuple #[(tupAt (vals5 11) 0), .int .i64 i_5.2.1] from hV 12 (by decide))
           exact L_val hS rfl (Ob_c tHb4 rfl) ⟨rfl, hG⟩
          refine .cons (fun ss hlo hhi vals5 xw hG hV => ?_) ?_
          ·obtain rfl : ss = 1 := Nat.le_antisymm hhi hlo
           rw [← hfe]
           have hS := (hfr vals5).sub (ts := [138]) (S' := [(138, vals5 12)]) rfl
           replace hS := hS.conv (t := 138) rfl (show (vals5 12) = .tuple #[(tupAt (vals5 11) 0), .int .i64 i_5.2.1] from hV 12 (by decide))
           exact L_val hS rfl (Ob_c tHb4 rfl) ⟨rfl, hG⟩
          refine .cons (fun ss hlo hhi vals5 xw hG hV => ?_) ?_
          ·obtain rfl : ss = 1 := Nat.le_antisymm hhi hlo
           rw [← hfe]
           have hS := (hfr vals5).sub (ts := [151]) (S' := [(151, vals5 13)]) rfl
           replace hS := hS.conv (t := 151) rfl (show (vals5 13) = (tupAt (vals5 11) 0) from hV 13 (by decide))
           exact L_val hS rfl (Ob_c tHb4 rfl) ⟨rfl, hG⟩
          refine .cons (fun ss hlo hhi vals5 xw hG hV => ?_) ?_
          ·obtain rfl : ss = 1 := Nat.le_antisymm hhi hlo
           rw [← hfe]
           have hS := (hfr vals5).sub (ts := [152]) (S' := [(152, vals5 14)]) rfl
           replace hS := hS.conv (t := 152) rfl (show (vals5 14) = .int .i64 i_5.2.1 from hV 14 (by decide))
           exact L_val hS rfl (Ob_c tHb4 rfl) ⟨rfl, hG⟩
          exact .nil
         ·intro vals5 a w26 Z hG hV
          replace Z := Z.sub (ts := [3, 7, 8, 11, 12, 14, 15, 16, 17, 18]) (S' := [(3, .pointer (some ⟨b1, 0, none⟩)), (7, .pointer (some ⟨b3, 0, none⟩)), (8, .pointer (some ⟨b4, 0, none⟩)), (11, .int .i64 round), (12, .pointer (some ⟨b6, 0, none⟩)), (14, .int .i64 i_4), (15, .int .i64 k), (16, .int .i64 (((all.getD (0 + (i_4).toNat * 1) []).getD (k).toNat default).to_)), (17, vals5 15), (18, vals5 16)]) rfl
          replace Z := Z.conv (t := 17) rfl (show (vals5 15) = (tupAt (vals5 11) 0) from hV 15 (by decide))
          replace Z := Z.conv (t := 18) rfl (show (vals5 16) = .int .i64 i_5.2.1 from hV 16 (by decide))
          obtain ⟨I17, _, H⟩ := Gx.ex hG
          clear hG hV
          replace Z := Z.sub (ts := [3, 7, 8, 11, 12, 14, 15, 16, 17, 18]) rfl
          replace H : Hf I D w I17 w26 [OEhub_Hub b8 i_5.2.2, SlC NS (tupAt (vals5 11) 0) i_5.1, SlC NEOut v12 (all.getD (0 + (i_4).toNat * 1) []), BxC b6 35 vs11, ArR (SlC NEOut) all vs11 (0 + (i_4).toNat * 1), BxC b1 24 vs10, ArR (PtC OEhub_Hub) h_7 vs10 (0 + (((all.getD (0 + (i_4).toNat * 1) []).getD (k).toNat default).to_).toNat * 1), SlC NEOut v10 (all.getD (0 + (i_4).toNat * 1) []), SlC NEOut v9 (all.getD (0 + (i_4).toNat * 1) []), ArC 16 (OwC NS 9) 30 b3 sent, ArC 16 (OwC NS 9) 30 b4 got_3] := H
          replace H : Hf I D w I17 w26 [PtC OEhub_Hub (.pointer (some ⟨b8, 0, none⟩)) (some i_5.2.2), SlC NS (tupAt (vals5 11) 0) i_5.1, SlC NEOut v12 (all.getD (0 + (i_4).toNat * 1) []), BxC b6 35 vs11, ArR (SlC NEOut) all vs11 (0 + (i_4).toNat * 1), BxC b1 24 vs10, ArR (PtC OEhub_Hub) h_7 vs10 (0 + (((all.getD (0 + (i_4).toNat * 1) []).getD (k).toNat default).to_).toNat * 1), SlC NEOut v10 (all.getD (0 + (i_4).toNat * 1) []), SlC NEOut v9 (all.getD (0 + (i_4).toNat * 1) []), ArC 16 (OwC NS 9) 30 b3 sent, ArC 16 (OwC NS 9) 30 b4 got_3] := H.mkS (K := OEhub_Hub) 0 rfl
          replace H : Hf I D w I17 w26 [ArC 4 (PtC OEhub_Hub) 24 b1 (h_7.set (0 + (((all.getD (0 + (i_4).toNat * 1) []).getD (k).toNat default).to_).toNat * 1) (some i_5.2.2)), SlC NS (tupAt (vals5 11) 0) i_5.1, SlC NEOut v12 (all.getD (0 + (i_4).toNat * 1) []), BxC b6 35 vs11, ArR (SlC NEOut) all vs11 (0 + (i_4).toNat * 1), SlC NEOut v10 (all.getD (0 + (i_4).toNat * 1) []), SlC NEOut v9 (all.getD (0 + (i_4).toNat * 1) []), ArC 16 (OwC NS 9) 30 b3 sent, ArC 16 (OwC NS 9) 30 b4 got_3] := H.arShut0 hl10 hxl10 hb10 hv10 [(0, false), (4, false), (4, false)] rfl
          replace H : Hf I D w I17 w26 [ArC 4 (SlC NEOut) 35 b6 all, ArC 4 (PtC OEhub_Hub) 24 b1 (h_7.set (0 + (((all.getD (0 + (i_4).toNat * 1) []).getD (k).toNat default).to_).toNat * 1) (some i_5.2.2)), SlC NS (tupAt (vals5 11) 0) i_5.1, SlC NEOut v12 (all.getD (0 + (i_4).toNat * 1) []), SlC NEOut v10 (all.getD (0 + (i_4).toNat * 1) []), SlC NEOut v9 (all.getD (0 + (i_4).toNat * 1) []), ArC 16 (OwC NS 9) 30 b3 sent, ArC 16 (OwC NS 9) 30 b4 got_3] := H.arShutE hl11 hxl11 hb11 hv11 [(2, true), (3, false), (3, false)] rfl
          refine p_then (wp_seq ?_)
          refine wp_seq (f_region Z ?_); clear Z; intro Z
          refine s_runk tHb4 Z 2 rfl rfl ?_; clear Z a; intro a Z
          refine s_end Z [3, 7, 8, 11, 12, 14, 15, 16, 17, 154] rfl ?_; clear Z; intro Z
          refine p_then ?_
          refine f_cond Z rfl (fun hc12 => ?_) (fun hc12 => ?_)
          ·replace hF := ite_t hc12 hF
           refine wp_seq (f_region Z ?_); clear Z; intro Z
           refine s_runk tHb4 Z 1 rfl rfl ?_; clear Z a; intro a Z
           refine s_end Z [2] rfl ?_; clear Z; intro Z
           refine p_then (wp_ret ?_)
           refine p_then_r ?_
           refine p_blk_r ?_
           refine p_then_r ?_
           refine p_then_r ?_
           refine p_blk_r ?_
           refine p_blk_r ?_
           refine p_then_r ?_
           refine p_then_r ?_
           refine p_blk_r ?_
           refine p_blk_r ?_
           refine p_then_r ?_
           refine p_then_r ?_
           refine p_blk_r ?_
           refine p_then_r ?_
           obtain rfl := some_in hF
           exact f_ret Z (run_results1 rfl Z rfl) ⟨rfl, I17, (H.sub [] rfl).eq rfl⟩
          ·replace hF := ite_f hc12 hF
           refine wp_skip ?_
           refine p_then ?_
           have hb13 : 0 + (i_4).toNat * 4 + (((all.getD (0 + (i_4).toNat * 1) []).getD (k).toNat default).to_).toNat * 1 < 16 := by omega
           obtain ⟨v14, vs13, hl13, hxl13, hv13, H⟩ := H.arOpen 7 rfl (0 + (i_4).toNat * 4 + (((all.getD (0 + (i_4).toNat * 1) []).getD (k).toNat default).to_).toNat * 1) hb13 ([] : List ByteArray)
           replace H : Hf I D w I17 w26 [OwC NS 9 v14 (got_3.getD (0 + (i_4).toNat * 4 + (((all.getD (0 + (i_4).toNat * 1) []).getD (k).toNat default).to_).toNat * 1) []), BxC b4 30 vs13, ArR (OwC NS 9) got_3 vs13 (0 + (i_4).toNat * 4 + (((all.getD (0 + (i_4).toNat * 1) []).getD (k).toNat default).to_).toNat * 1), ArC 4 (SlC NEOut) 35 b6 all, ArC 4 (PtC OEhub_Hub) 24 b1 (h_7.set (0 + (((all.getD (0 + (i_4).toNat * 1) []).getD (k).toNat default).to_).toNat * 1) (some i_5.2.2)), SlC NS (tupAt (vals5 11) 0) i_5.1, SlC NEOut v12 (all.getD (0 + (i_4).toNat * 1) []), SlC NEOut v10 (all.getD (0 + (i_4).toNat * 1) []), SlC NEOut v9 (all.getD (0 + (i_4).toNat * 1) []), ArC 16 (OwC NS 9) 30 b3 sent] := H
           obtain ⟨hg29, hF⟩ := chk_in hF
           refine f_regionL Z (by kernel_rfl) (by kernel_rfl) (by decide) (by decide) [8, 11] [(0, 0, 1), (0, 0, 1), (0, 0, 0), (0, 0, 0), (4, 0, 0), (28, 0, 0), (60, 0, 0), (0, 0, 0), (252, 0, 0), (1, 0, 1), (1023, 1, 1), (2047, 1, 1)] (by kernel_rfl) (fun jj vv => match jj with | 0 => vv = .int .i64 i_4 | 1 => vv = .int .i64 (((all.getD (0 + (i_4).toNat * 1) []).getD (k).toNat default).to_) | 2 => vv = .int .i64 i_4 | 3 => vv = .int .i64 (((all.getD (0 + (i_4).toNat * 1) []).getD (k).toNat default).to_) | 4 => vv = .pointer (some ⟨b4, 0 + (i_4).toNat * 4, none⟩) | 5 => vv = .pointer (some ⟨b4, 0 + (i_4).toNat * 4 + (((all.getD (0 + (i_4).toNat * 1) []).getD (k).toNat default).to_).toNat * 1, none⟩) | 6 => vv = v14 | 7 => vv = (tupAt (vals5 11) 0) | 8 => True | 9 => vv = .pointer (some ⟨b4, 0 + (i_4).toNat * 4, none⟩) | 10 => vv = .pointer (some ⟨b4, 0 + (i_4).toNat * 4 + (((all.getD (0 + (i_4).toNat * 1) []).getD (k).toNat default).to_).toNat * 1, none⟩) | 11 => True | _ => True) (fun ss vals6 xw => match ss with | 0 => Gx I D w I17 w26 xw [OwC NS 9 v14 (got_3.getD (0 + (i_4).toNat * 4 + (((all.getD (0 + (i_4).toNat * 1) []).getD (k).toNat default).to_).toNat * 1) []), BxC b4 30 vs13, ArR (OwC NS 9) got_3 vs13 (0 + (i_4).toNat * 4 + (((all.getD (0 + (i_4).toNat * 1) []).getD (k).toNat default).to_).toNat * 1), ArC 4 (SlC NEOut) 35 b6 all, ArC 4 (PtC OEhub_Hub) 24 b1 (h_7.set (0 + (((all.getD (0 + (i_4).toNat * 1) []).getD (k).toNat default).to_).toNat * 1) (some i_5.2.2)), SlC NS (tupAt (vals5 11) 0) i_5.1, SlC NEOut v12 (all.getD (0 + (i_4).toNat * 1) []), SlC NEOut v10 (all.getD (0 + (i_4).toNat * 1) []), SlC NEOut v9 (all.getD (0 + (i_4).toNat * 1) []), ArC 16 (OwC NS 9) 30 b3 sent] | 1 => Gx I D w I17 w26 xw [OwC NS 9 (vals6 8) ((got_3.getD (0 + (i_4).toNat * 4 + (((all.getD (0 + (i_4).toNat * 1) []).getD (k).toNat default).to_).toNat * 1) []) ++ i_5.1), BxC b4 30 vs13, ArR (OwC NS 9) got_3 vs13 (0 + (i_4).toNat * 4 + (((all.getD (0 + (i_4).toNat * 1) []).getD (k).toNat default).to_).toNat * 1), ArC 4 (SlC NEOut) 35 b6 all, ArC 4 (PtC OEhub_Hub) 24 b1 (h_7.set (0 + (((all.getD (0 + (i_4).toNat * 1) []).getD (k).toNat default).to_).toNat * 1) (some i_5.2.2)), SlC NS (tupAt (vals5 11) 0) i_5.1, SlC NEOut v12 (all.getD (0 + (i_4).toNat * 1) []), SlC NEOut v10 (all.getD (0 + (i_4).toNat * 1) []), SlC NEOut v9 (all.getD (0 + (i_4).toNat * 1) []), ArC 16 (OwC NS 9) 30 b3 sent] | _ => Gx I D w I17 w26 xw [BxC b4 30 (vs13.set (0 + (i_4).toNat * 4 + (((all.getD (0 + (i_4).toNat * 1) []).getD (k).toNat default).to_).toNat * 1) ((vals6 8))), OwC NS 9 (vals6 8) ((got_3.getD (0 + (i_4).toNat * 4 + (((all.getD (0 + (i_4).toNat * 1) []).getD (k).toNat default).to_).toNat * 1) []) ++ i_5.1), ArR (OwC NS 9) got_3 vs13 (0 + (i_4).toNat * 4 + (((all.getD (0 + (i_4).toNat * 1) []).getD (k).toNat default).to_).toNat * 1), ArC 4 (SlC NEOut) 35 b6 all, ArC 4 (PtC OEhub_Hub) 24 b1 (h_7.set (0 + (((all.getD (0 + (i_4).toNat * 1) []).getD (k).toNat default).to_).toNat * 1) (some i_5.2.2)), SlC NS (tupAt (vals5 11) 0) i_5.1, SlC NEOut v12 (all.getD (0 + (i_4).toNat * 1) []), SlC NEOut v10 (all.getD (0 + (i_4).toNat * 1) []), SlC NEOut v9 (all.getD (0 + (i_4).toNat * 1) []), ArC 16 (OwC NS 9) 30 b3 sent]) (fun _ => Gx.start H) ?_ ?_
           ·intro fr hfr hfe
            refine .cons (fun ss hlo hhi vals6 xw hG hV => ?_) ?_
            ·obtain rfl | rfl : ss = 0 ∨ ss = 1 := st1 hlo hhi
             all_goals
             ·rw [← hfe]
              have hS := (hfr vals6).sub (ts := [14]) (S' := [(14, .int .i64 i_4)]) rfl
              exact L_val hS rfl (Ob_c tHb4 rfl) ⟨rfl, hG⟩
            refine .cons (fun ss hlo hhi vals6 xw hG hV => ?_) ?_
            ·obtain rfl | rfl : ss = 0 ∨ ss = 1 := st1 hlo hhi
             all_goals
             ·rw [← hfe]
              have hS := (hfr vals6).sub (ts := [16]) (S' := [(16, .int .i64 (((all.getD (0 + (i_4).toNat * 1) []).getD (k).toNat default).to_))]) rfl
              exact L_val hS rfl (Ob_c tHb4 rfl) ⟨rfl, hG⟩
            refine .cons (fun ss hlo hhi vals6 xw hG hV => ?_) ?_
            ·obtain rfl : ss = 0 := Nat.le_antisymm hhi hlo
             rw [← hfe]
             have hS := (hfr vals6).sub (ts := [14]) (S' := [(14, .int .i64 i_4)]) rfl
             exact L_val hS rfl (Ob_c tHb4 rfl) ⟨rfl, hG⟩
            refine .cons (fun ss hlo hhi vals6 xw hG hV => ?_) ?_
            ·obtain rfl : ss = 0 := Nat.le_antisymm hhi hlo
             rw [← hfe]
             have hS := (hfr vals6).sub (ts := [16]) (S' := [(16, .int .i64 (((all.getD (0 + (i_4).toNat * 1) []).getD (k).toNat default).to_))]) rfl
             exact L_val hS rfl (Ob_c tHb4 rfl) ⟨rfl, hG⟩
            refine .cons (fun ss hlo hhi vals6 xw hG hV => ?_) ?_
            ·obtain rfl : ss = 0 := Nat.le_antisymm hhi hlo
             rw [← hfe]
             have hS := (hfr vals6).sub (ts := [157, 8]) (S' := [(157, vals6 2), (8, .pointer (some ⟨b4, 0, none⟩))]) rfl
             replace hS := hS.conv (t := 157) rfl (show (vals6 2) = .int .i64 i_4 from hV 2 (by decide))
             exact L_val hS rfl (Ob_apix (m := 4) (i_4).toNat rfl rfl rfl Try.underlying30 (by kernel_rfl) (have h := hg22; by omega) (have h := hg22; by omega)) ⟨rfl, hG⟩
            refine .cons (fun ss hlo hhi vals6 xw hG hV => ?_) ?_
            ·obtain rfl : ss = 0 := Nat.le_antisymm hhi hlo
             rw [← hfe]
             have hS := (hfr vals6).sub (ts := [159, 158]) (S' := [(159, vals6 4), (158, vals6 3)]) rfl
             replace hS := hS.conv (t := 159) rfl (show (vals6 4) = .pointer (some ⟨b4, 0 + (i_4).toNat * 4, none⟩) from hV 4 (by decide))
             replace hS := hS.conv (t := 158) rfl (show (vals6 3) = .int .i64 (((all.getD (0 + (i_4).toNat * 1) []).getD (k).toNat default).to_) from hV 3 (by decide))
             exact L_val hS rfl (Ob_apix (m := 1) (((all.getD (0 + (i_4).toNat * 1) []).getD (k).toNat default).to_).toNat rfl rfl rfl Try.underlying29 (by kernel_rfl) (have h := hg24; by omega) (have h := hg24; by omega)) ⟨rfl, hG⟩
            refine .cons (fun ss hlo hhi vals6 xw hG hV => ?_) ?_
            ·obtain rfl : ss = 0 := Nat.le_antisymm hhi hlo
             rw [← hfe]
             have hS := (hfr vals6).sub (ts := [160]) (S' := [(160, vals6 5)]) rfl
             replace hS := hS.conv (t := 160) rfl (show (vals6 5) = .pointer (some ⟨b4, 0 + (i_4).toNat * 4 + (((all.getD (0 + (i_4).toNat * 1) []).getD (k).toNat default).to_).toNat * 1, none⟩) from hV 5 (by decide))
             obtain ⟨I2, hI2, H⟩ := Gx.ex hG
             exact L_val hS rfl (Ob_load tHb4 rfl rfl rfl ((H.bx 1 rfl).cell _ hv13)) ⟨rfl, hG⟩
            refine .cons (fun ss hlo hhi vals6 xw hG hV => ?_) ?_
            ·obtain rfl : ss = 0 := Nat.le_antisymm hhi hlo
             rw [← hfe]
             have hS := (hfr vals6).sub (ts := [17]) (S' := [(17, (tupAt (vals5 11) 0))]) rfl
             exact L_val hS rfl (Ob_c tHb4 rfl) ⟨rfl, hG⟩
            refine .cons (fun ss hlo hhi vals6 xw hG hV => ?_) ?_
            ·obtain rfl : ss = 0 := Nat.le_antisymm hhi hlo
             rw [← hfe]
             have hS := (hfr vals6).sub (ts := [161, 162]) (S' := [(161, vals6 6), (162, vals6 7)]) rfl
             replace hS := hS.conv (t := 161) rfl (show (vals6 6) = v14 from hV 6 (by decide))
             replace hS := hS.conv (t := 162) rfl (show (vals6 7) = (tupAt (vals5 11) 0) from hV 7 (by decide))
             obtain ⟨I2, hI2, H⟩ := Gx.ex hG
             exact L_appO H 0 E_28_YHb4 i_5.1 rfl rfl hS rfl rfl rfl rfl (H.sl2 5 rfl) hg29 (by decide) fun v yw hK H => ⟨trivial, Gx.go hG hI2 hK (fun _ h => h) H⟩
            refine .cons (fun ss hlo hhi vals6 xw hG hV => ?_) ?_
            ·obtain rfl | rfl : ss = 0 ∨ ss = 1 := st1 hlo hhi
             all_goals
             ·rw [← hfe]
              have hS := (hfr vals6).sub (ts := [155, 8]) (S' := [(155, vals6 0), (8, .pointer (some ⟨b4, 0, none⟩))]) rfl
              replace hS := hS.conv (t := 155) rfl (show (vals6 0) = .int .i64 i_4 from hV 0 (by decide))
              exact L_val hS rfl (Ob_apix (m := 4) (i_4).toNat rfl rfl rfl Try.underlying30 (by kernel_rfl) (have h := hg22; by omega) (have h := hg22; by omega)) ⟨rfl, hG⟩
            refine .cons (fun ss hlo hhi vals6 xw hG hV => ?_) ?_
            ·obtain rfl : ss = 1 := Nat.le_antisymm hhi hlo
             rw [← hfe]
             have hS := (hfr vals6).sub (ts := [164, 156]) (S' := [(164, vals6 9), (156, vals6 1)]) rfl
             replace hS := hS.conv (t := 164) rfl (show (vals6 9) = .pointer (some ⟨b4, 0 + (i_4).toNat * 4, none⟩) from hV 9 (by decide))
             replace hS := hS.conv (t := 156) rfl (show (vals6 1) = .int .i64 (((all.getD (0 + (i_4).toNat * 1) []).getD (k).toNat default).to_) from hV 1 (by decide))
             exact L_val hS rfl (Ob_apix (m := 1) (((all.getD (0 + (i_4).toNat * 1) []).getD (k).toNat default).to_).toNat rfl rfl rfl Try.underlying29 (by kernel_rfl) (have h := hg24; by omega) (have h := hg24; by omega)) ⟨rfl, hG⟩
            refine .cons (fun ss hlo hhi vals6 xw hG hV => ?_) ?_
            ·obtain rfl : ss = 1 := Nat.le_antisymm hhi hlo
             rw [← hfe]
             have hS := (hfr vals6).sub (ts := [165, 163]) (S' := [(165, vals6 10), (163, vals6 8)]) rfl
             replace hS := hS.conv (t := 165) rfl (show (vals6 10) = .pointer (some ⟨b4, 0 + (i_4).toNat * 4 + (((all.getD (0 + (i_4).toNat * 1) []).getD (k).toNat default).to_).toNat * 1, none⟩) from hV 10 (by decide))
             obtain ⟨I2, hI2, H⟩ := Gx.ex hG
             exact L_store tHb4 H 1 rfl hS rfl rfl rfl rfl rfl (slS.cells (H.owshape 0 rfl)) rfl rfl (one_cons (slS.one (H.owshape 0 rfl)) one_nil) (by rw [hl13]; exact hb13) (putCells_one _ _ _) fun yw hK H => ⟨trivial, Gx.go hG hI2 hK (fun _ h => h) H⟩
            exact .nil
           ·intro vals6 a w27 Z hG hV
            replace Z := Z.sub (ts := [3, 7, 8, 11, 12, 14, 15]) (S' := [(3, .pointer (some ⟨b1, 0, none⟩)), (7, .pointer (some ⟨b3, 0, none⟩)), (8, .pointer (some ⟨b4, 0, none⟩)), (11, .int .i64 round), (12, .pointer (some ⟨b6, 0, none⟩)), (14, .int .i64 i_4), (15, .int .i64 k)]) rfl
            obtain ⟨I18, _, H⟩ := Gx.ex hG
            clear hG hV
            replace Z := Z.sub (ts := [3, 7, 8, 11, 12, 14, 15]) rfl
            replace H : Hf I D w I18 w27 [BxC b4 30 (vs13.set (0 + (i_4).toNat * 4 + (((all.getD (0 + (i_4).toNat * 1) []).getD (k).toNat default).to_).toNat * 1) ((vals6 8))), OwC NS 9 (vals6 8) ((got_3.getD (0 + (i_4).toNat * 4 + (((all.getD (0 + (i_4).toNat * 1) []).getD (k).toNat default).to_).toNat * 1) []) ++ i_5.1), ArR (OwC NS 9) got_3 vs13 (0 + (i_4).toNat * 4 + (((all.getD (0 + (i_4).toNat * 1) []).getD (k).toNat default).to_).toNat * 1), ArC 4 (SlC NEOut) 35 b6 all, ArC 4 (PtC OEhub_Hub) 24 b1 (h_7.set (0 + (((all.getD (0 + (i_4).toNat * 1) []).getD (k).toNat default).to_).toNat * 1) (some i_5.2.2)), SlC NS (tupAt (vals5 11) 0) i_5.1, SlC NEOut v12 (all.getD (0 + (i_4).toNat * 1) []), SlC NEOut v10 (all.getD (0 + (i_4).toNat * 1) []), SlC NEOut v9 (all.getD (0 + (i_4).toNat * 1) []), ArC 16 (OwC NS 9) 30 b3 sent] := H
            replace H : Hf I D w I18 w27 [ArC 16 (OwC NS 9) 30 b4 (got_3.set (0 + (i_4).toNat * 4 + (((all.getD (0 + (i_4).toNat * 1) []).getD (k).toNat default).to_).toNat * 1) ((got_3.getD (0 + (i_4).toNat * 4 + (((all.getD (0 + (i_4).toNat * 1) []).getD (k).toNat default).to_).toNat * 1) []) ++ i_5.1)), ArC 4 (SlC NEOut) 35 b6 all, ArC 4 (PtC OEhub_Hub) 24 b1 (h_7.set (0 + (((all.getD (0 + (i_4).toNat * 1) []).getD (k).toNat default).to_).toNat * 1) (some i_5.2.2)), SlC NS (tupAt (vals5 11) 0) i_5.1, SlC NEOut v12 (all.getD (0 + (i_4).toNat * 1) []), SlC NEOut v10 (all.getD (0 + (i_4).toNat * 1) []), SlC NEOut v9 (all.getD (0 + (i_4).toNat * 1) []), ArC 16 (OwC NS 9) 30 b3 sent] := H.arShut hl13 hxl13 hb13 [(1, false), (0, false), (0, false)] rfl
            refine p_blk ?_
            refine p_then ?_
            obtain ⟨hg30, hF⟩ := chk_in hF
            refine f_region Z ?_; clear Z; intro Z
            refine s_runk tHb4 Z 1 rfl rfl ?_; clear Z a; intro a Z
            refine s_ob Z (v := .int .i64 (k + 1)) rfl rfl (by decide) rfl (Ob_add rfl rfl rfl (wrI hg30)) ?_; clear Z a; intro a Z
            refine s_runk tHb4 Z 1 rfl rfl ?_; clear Z a; intro a Z
            refine s_end Z [3, 7, 8, 11, 12, 14, 15] rfl ?_; clear Z; intro Z
            refine p_then ?_
            exact ⟨(k + 1, (h_7.set (0 + (((all.getD (0 + (i_4).toNat * 1) []).getD (k).toNat default).to_).toNat * 1) (some i_5.2.2)), (got_3.set (0 + (i_4).toNat * 4 + (((all.getD (0 + (i_4).toNat * 1) []).getD (k).toNat default).to_).toNat * 1) ((got_3.getD (0 + (i_4).toNat * 4 + (((all.getD (0 + (i_4).toNat * 1) []).getD (k).toNat default).to_).toNat * 1) []) ++ i_5.1))), ⟨Z.sub (ts := [3, 7, 8, 11, 12, 14, 15]) rfl, ⟨I18, (H.sub [(2, false), (6, false), (0, false), (0, false)] rfl).eq rfl⟩⟩, hF⟩
      ·replace hF := ite_f hc9 hF
       refine wp_exit ?_
       refine p_then_x ?_
       refine p_then_x ?_
       refine f_exit_here ?_
       refine p_blk ?_
       refine p_then ?_
       obtain ⟨hg31, hF⟩ := chk_in hF
       refine f_region Z ?_; clear Z; intro Z
       refine s_runk tHb4 Z 1 rfl rfl ?_; clear Z a; intro a Z
       refine s_ob Z (v := .int .i64 (i_4 + 1)) rfl rfl (by decide) rfl (Ob_add rfl rfl rfl (wrI hg31)) ?_; clear Z a; intro a Z
       refine s_runk tHb4 Z 1 rfl rfl ?_; clear Z a; intro a Z
       refine s_end Z [3, 7, 8, 11, 12, 14] rfl ?_; clear Z; intro Z
       refine p_then ?_
       exact ⟨(i_4 + 1, h_7, got_3), ⟨Z.sub (ts := [3, 7, 8, 11, 12, 14]) rfl, ⟨I14, (H.sub [(2, false), (2, false), (2, false), (0, false)] rfl).eq rfl⟩⟩, hF⟩
     ·replace hF := ite_f hc8 hF
      refine wp_exit ?_
      refine p_then_x ?_
      refine p_then_x ?_
      refine f_exit_here ?_
      refine p_blk ?_
      refine p_then ?_
      obtain ⟨hg32, hF⟩ := chk_in hF
      refine f_region Z ?_; clear Z; intro Z
      refine s_runk tHb4 Z 1 rfl rfl ?_; clear Z a; intro a Z
      refine s_ob Z (v := .int .i64 (round + 1)) rfl rfl (by decide) rfl (Ob_add rfl rfl rfl (wrI hg32)) ?_; clear Z a; intro a Z
      refine s_runk tHb4 Z 1 rfl rfl ?_; clear Z a; intro a Z
      refine s_end Z [3, 7, 8, 11] rfl ?_; clear Z; intro Z
      refine p_then ?_
      exact ⟨(round + 1, h_6, got_2), ⟨Z.sub (ts := [3, 7, 8, 11]) rfl, ⟨I13, (H.sub [(0, false), (0, false), (0, false)] rfl).eq rfl⟩⟩, hF⟩
   ·replace hF := ite_f hc6 hF
    refine wp_exit ?_
    refine p_then_x ?_
    refine p_then_x ?_
    refine f_exit_here ?_
    refine p_then (wp_seq ?_)
    refine wp_seq (f_region Z ?_); clear Z; intro Z
    refine s_runk tHb4 Z 1 rfl rfl ?_; clear Z a; intro a Z
    refine s_end Z [3, 7, 8, 19] rfl ?_; clear Z; intro Z
    refine p_then (wp_block ?_)
    refine f_iter hF (fun sg a' w' => match sg with | (i_6, h_8) => Sl 195 [(3, .pointer (some ⟨b1, 0, none⟩)), (7, .pointer (some ⟨b3, 0, none⟩)), (8, .pointer (some ⟨b4, 0, none⟩)), (19, .int .i64 i_6)] a' ∧ ∃ I2, Hf I D w I2 w' [ArC 4 (PtC OEhub_Hub) 24 b1 h_8, ArC 16 (OwC NS 9) 30 b3 sent, ArC 16 (OwC NS 9) 30 b4 got]) ⟨Z.sub (ts := [3, 7, 8, 19]) rfl, ⟨I9, (H.sub [(0, false), (0, false), (0, false)] rfl).eq rfl⟩⟩ ?_
    clear Z H hF a
    rintro rc_7 ⟨i_6, h_8⟩ a w28 ⟨Z, I19, H⟩ hF
    unfold F_law23_HubOnly_l8 at hF
    try dsimp only at hF
    refine wp_seq ?_
    refine wp_seq (f_region Z ?_); clear Z; intro Z
    refine s_runk tHb4 Z 2 rfl rfl ?_; clear Z a; intro a Z
    refine s_end Z [3, 7, 8, 19, 167] rfl ?_; clear Z; intro Z
    refine p_then ?_
    refine f_cond Z rfl (fun hc13 => ?_) (fun hc13 => ?_)
    ·replace hF := ite_t hc13 hF
     refine wp_skip ?_
     refine p_then (wp_seq ?_)
     refine wp_block ?_
     refine wp_seq (f_region Z ?_); clear Z; intro Z
     refine s_runk tHb4 Z 1 rfl rfl ?_; clear Z a; intro a Z
     refine s_end Z [3, 7, 8, 19, 20] rfl ?_; clear Z; intro Z
     refine p_then (wp_block ?_)
     refine f_iter hF (fun sg a' w' => match sg with | (k_2, h_9) => Sl 195 [(3, .pointer (some ⟨b1, 0, none⟩)), (7, .pointer (some ⟨b3, 0, none⟩)), (8, .pointer (some ⟨b4, 0, none⟩)), (19, .int .i64 i_6), (20, .int .i64 k_2)] a' ∧ ∃ I2, Hf I D w I2 w' [ArC 4 (PtC OEhub_Hub) 24 b1 h_9, ArC 16 (OwC NS 9) 30 b3 sent, ArC 16 (OwC NS 9) 30 b4 got]) ⟨Z.sub (ts := [3, 7, 8, 19, 20]) rfl, ⟨I19, (H.sub [(0, false), (0, false), (0, false)] rfl).eq rfl⟩⟩ ?_
     clear Z H hF a
     rintro rc_8 ⟨k_2, h_9⟩ a w29 ⟨Z, I20, H⟩ hF
     unfold F_law23_HubOnly_l9 at hF
     try dsimp only at hF
     refine wp_seq ?_
     refine wp_seq (f_region Z ?_); clear Z; intro Z
     refine s_runk tHb4 Z 2 rfl rfl ?_; clear Z a; intro a Z
     refine s_end Z [3, 7, 8, 19, 20, 171] rfl ?_; clear Z; intro Z
     refine p_then ?_
     refine f_cond Z rfl (fun hc14 => ?_) (fun hc14 => ?_)
     ·replace hF := ite_t hc14 hF
      refine wp_skip ?_
      refine p_then (wp_seq ?_)
      refine wp_block ?_
      refine wp_seq ?_
      obtain ⟨hg33, hF⟩ := chk_in hF
      obtain ⟨hg34, hF⟩ := chk_in hF
      have hb14 : 0 + (i_6).toNat * 4 + (k_2).toNat * 1 < 16 := by omega
      obtain ⟨v15, vs14, hl14, hxl14, hv14, H⟩ := H.arOpen 1 rfl (0 + (i_6).toNat * 4 + (k_2).toNat * 1) hb14 ([] : List ByteArray)
      replace H : Hf I D w I20 w29 [OwC NS 9 v15 (sent.getD (0 + (i_6).toNat * 4 + (k_2).toNat * 1) []), BxC b3 30 vs14, ArR (OwC NS 9) sent vs14 (0 + (i_6).toNat * 4 + (k_2).toNat * 1), ArC 4 (PtC OEhub_Hub) 24 b1 h_9, ArC 16 (OwC NS 9) 30 b4 got] := H
      have hb15 : 0 + (i_6).toNat * 4 + (k_2).toNat * 1 < 16 := by omega
      obtain ⟨v16, vs15, hl15, hxl15, hv15, H⟩ := H.arOpen 4 rfl (0 + (i_6).toNat * 4 + (k_2).toNat * 1) hb15 ([] : List ByteArray)
      replace H : Hf I D w I20 w29 [OwC NS 9 v16 (got.getD (0 + (i_6).toNat * 4 + (k_2).toNat * 1) []), BxC b4 30 vs15, ArR (OwC NS 9) got vs15 (0 + (i_6).toNat * 4 + (k_2).toNat * 1), OwC NS 9 v15 (sent.getD (0 + (i_6).toNat * 4 + (k_2).toNat * 1) []), BxC b3 30 vs14, ArR (OwC NS 9) sent vs14 (0 + (i_6).toNat * 4 + (k_2).toNat * 1), ArC 4 (PtC OEhub_Hub) 24 b1 h_9] := H
      have hb16 : 0 + (i_6).toNat * 1 < 4 := by omega
      obtain ⟨v17, vs16, hl16, hxl16, hv16, H⟩ := H.arOpen 6 rfl (0 + (i_6).toNat * 1) hb16 (none : Option Ehub_Hub)
      replace H : Hf I D w I20 w29 [PtC OEhub_Hub v17 (h_9.getD (0 + (i_6).toNat * 1) none), BxC b1 24 vs16, ArR (PtC OEhub_Hub) h_9 vs16 (0 + (i_6).toNat * 1), OwC NS 9 v16 (got.getD (0 + (i_6).toNat * 4 + (k_2).toNat * 1) []), BxC b4 30 vs15, ArR (OwC NS 9) got vs15 (0 + (i_6).toNat * 4 + (k_2).toNat * 1), OwC NS 9 v15 (sent.getD (0 + (i_6).toNat * 4 + (k_2).toNat * 1) []), BxC b3 30 vs14, ArR (OwC NS 9) sent vs14 (0 + (i_6).toNat * 4 + (k_2).toNat * 1)] := H
      rcases optE_in hF with ⟨ho5, hF⟩ | ⟨x_5, ho5, hF⟩
      ·obtain ⟨hv, H⟩ := H.optN 0 rfl ho5
       subst hv
       replace H : Hf I D w I20 w29 [BxC b1 24 vs16, ArR (PtC OEhub_Hub) h_9 vs16 (0 + (i_6).toNat * 1), OwC NS 9 v16 (got.getD (0 + (i_6).toNat * 4 + (k_2).toNat * 1) []), BxC b4 30 vs15, ArR (OwC NS 9) got vs15 (0 + (i_6).toNat * 4 + (k_2).toNat * 1), OwC NS 9 v15 (sent.getD (0 + (i_6).toNat * 4 + (k_2).toNat * 1) []), BxC b3 30 vs14, ArR (OwC NS 9) sent vs14 (0 + (i_6).toNat * 4 + (k_2).toNat * 1)] := H
       obtain ⟨s0_2, hx8, hF⟩ := bnd_in hF
       obtain ⟨n0_5, hx9, hF⟩ := bnd_in hF
       refine f_quietS 17 (by kernel_rfl) (by kernel_rfl) (by kernel_rfl) (by kernel_rfl) (by kernel_rfl) Z ?_; clear Z; intro Z
       refine q_runk tHb4 Z 2 rfl rfl ?_; clear Z a; intro a Z
       refine q_ob Z (v := .pointer (some ⟨b3, 0 + (i_6).toNat * 4, none⟩)) rfl rfl (by decide) rfl (fun _ hw => Ob_apix (m := 4) (i_6).toNat rfl rfl rfl Try.underlying30 (by kernel_rfl) (have h := hg33; by omega) (have h := hg33; by omega)) ?_; clear Z a; intro a Z
       refine q_ob Z (v := .pointer (some ⟨b3, 0 + (i_6).toNat * 4 + (k_2).toNat * 1, none⟩)) rfl rfl (by decide) rfl (fun _ hw => Ob_apix (m := 1) (k_2).toNat rfl rfl rfl Try.underlying29 (by kernel_rfl) (have h := hg34; by omega) (have h := hg34; by omega)) ?_; clear Z a; intro a Z
       refine q_ob Z (v := v15) rfl rfl (by decide) rfl (fun _ hw => Ob_load tHb4 rfl rfl rfl (((H.blw hw).bx 6 rfl).cell _ hv14)) ?_; clear Z a; intro a Z
       refine q_runk tHb4 Z 2 rfl rfl ?_; clear Z a; intro a Z
       refine q_ob Z (v := .pointer (some ⟨b4, 0 + (i_6).toNat * 4, none⟩)) rfl rfl (by decide) rfl (fun _ hw => Ob_apix (m := 4) (i_6).toNat rfl rfl rfl Try.underlying30 (by kernel_rfl) (have h := hg33; by omega) (have h := hg33; by omega)) ?_; clear Z a; intro a Z
       refine q_ob Z (v := .pointer (some ⟨b4, 0 + (i_6).toNat * 4 + (k_2).toNat * 1, none⟩)) rfl rfl (by decide) rfl (fun _ hw => Ob_apix (m := 1) (k_2).toNat rfl rfl rfl Try.underlying29 (by kernel_rfl) (have h := hg34; by omega) (have h := hg34; by omega)) ?_; clear Z a; intro a Z
       refine q_ob Z (v := v16) rfl rfl (by decide) rfl (fun _ hw => Ob_load tHb4 rfl rfl rfl (((H.blw hw).bx 3 rfl).cell _ hv15)) ?_; clear Z a; intro a Z
       refine q_call Z (caps := #[]) fn_8_YHb4 rfl rfl rfl rfl rfl (by decide) rfl rfl (fun _ hw => (have hq := c_ref05_Same hx8 (stS ((H.blw hw).owA 5 rfl) (stS ((H.blw hw).owA 2 rfl) (stB _))); plainC hq)) ?_; clear Z a; intro a Z
       refine q_runk tHb4 Z 2 rfl rfl ?_; clear Z a; intro a Z
       refine gq_ob Z (p := (!(!s0_2))) (v := .int .i64 i_6) (S' := [(19, .int .i64 i_6)]) rfl rfl rfl (wantB_f _) rfl (by decide) (fun hp hS => hS.sub (ts := [19]) rfl) (fun hp _ hw => Ob_c tHb4 rfl) ?_; clear Z a; intro a Z
       refine gq_ob Z (p := (!(!s0_2))) (v := .pointer (some ⟨b1, 0 + (i_6).toNat * 1, none⟩)) (S' := [(3, .pointer (some ⟨b1, 0, none⟩)), (187, .int .i64 i_6)]) rfl rfl rfl (wantB_f _) rfl (by decide) (fun hp hS => (hS.conv (t := 187) rfl (cond_t hp)).sub (ts := [3, 187]) rfl) (fun hp _ hw => Ob_apix (m := 1) (i_6).toNat rfl rfl rfl Try.underlying24 (by kernel_rfl) (have h := hg33; by omega) (have h := hg33; by omega)) ?_; clear Z a; intro a Z
       refine gq_ob Z (p := (!(!s0_2))) (v := .pointer none) (S' := [(188, .pointer (some ⟨b1, 0 + (i_6).toNat * 1, none⟩))]) rfl rfl rfl (wantB_f _) rfl (by decide) (fun hp hS => (hS.conv (t := 188) rfl (cond_t hp)).sub (ts := [188]) rfl) (fun hp _ hw => Ob_load tHb4 rfl rfl rfl (((H.blw hw).bx 0 rfl).cell _ hv16)) ?_; clear Z a; intro a Z
       refine gq_ob Z (p := (!(!s0_2))) (v := .int .i64 k_2) (S' := [(20, .int .i64 k_2)]) rfl rfl rfl (wantB_f _) rfl (by decide) (fun hp hS => hS.sub (ts := [20]) rfl) (fun hp _ hw => Ob_c tHb4 rfl) ?_; clear Z a; intro a Z
       refine q_endS Z [3, 7, 8, 19, 20, 171, 174, 175, 176, 177, 178, 179, 180, 181, 182, 183, 184, 185, 186, 187, 188, 189, 190] rfl ?_; clear Z; intro w30 hb Z
       replace H : Hf I D w I20 w30 [BxC b1 24 vs16, ArR (PtC OEhub_Hub) h_9 vs16 (0 + (i_6).toNat * 1), OwC NS 9 v16 (got.getD (0 + (i_6).toNat * 4 + (k_2).toNat * 1) []), BxC b4 30 vs15, ArR (OwC NS 9) got vs15 (0 + (i_6).toNat * 4 + (k_2).toNat * 1), OwC NS 9 v15 (sent.getD (0 + (i_6).toNat * 4 + (k_2).toNat * 1) []), BxC b3 30 vs14, ArR (OwC NS 9) sent vs14 (0 + (i_6).toNat * 4 + (k_2).toNat * 1)] := H.blw hb
       clear hb
       refine g_call Z (p := (!(!s0_2))) (v := .int .i64 n0_5) (S' := [(189, .pointer none), (190, .int .i64 k_2)]) (caps := #[]) fn_9_YHb4 rfl rfl rfl (wantB_f _) rfl (by decide) (fun hp hS => ((hS.conv (t := 189) rfl (cond_t hp)).conv (t := 190) rfl (cond_t hp)).sub (ts := [189, 190]) rfl) rfl rfl rfl rfl (fun hp => (have hq := c_hub_Hub_Waiting_nil (gif_in hx9 hp) ((H).pick0 (js := []) rfl rfl); plainC hq)) ?_; clear Z a; intro a w31 hb Z
       replace H : Hf I D w I20 w31 [BxC b1 24 vs16, ArR (PtC OEhub_Hub) h_9 vs16 (0 + (i_6).toNat * 1), OwC NS 9 v16 (got.getD (0 + (i_6).toNat * 4 + (k_2).toNat * 1) []), BxC b4 30 vs15, ArR (OwC NS 9) got vs15 (0 + (i_6).toNat * 4 + (k_2).toNat * 1), OwC NS 9 v15 (sent.getD (0 + (i_6).toNat * 4 + (k_2).toNat * 1) []), BxC b3 30 vs14, ArR (OwC NS 9) sent vs14 (0 + (i_6).toNat * 4 + (k_2).toNat * 1)] := H.blw hb
       clear hb
       refine g_ob Z (p := (!(!s0_2))) (v := .bool (n0_5 != 0)) (S' := [(191, .int .i64 n0_5)]) rfl rfl rfl (wantB_f _) rfl (by decide) (fun hp hS => (hS.conv (t := 191) rfl (cond_t hp)).sub (ts := [191]) rfl) (fun hp => Ob_c tHb4 rfl) ?_; clear Z a; intro a Z
       refine s_ob Z (v := .bool ((!s0_2) || (n0_5 != 0))) rfl rfl (by decide) rfl (Ob_pick rfl rfl rfl rfl (pick_or _ _)) ?_; clear Z a; intro a Z
       refine s_end Z [3, 7, 8, 19, 20, 193] rfl ?_; clear Z; intro Z
       replace H : Hf I D w I20 w31 [ArC 16 (OwC NS 9) 30 b3 sent, BxC b1 24 vs16, ArR (PtC OEhub_Hub) h_9 vs16 (0 + (i_6).toNat * 1), OwC NS 9 v16 (got.getD (0 + (i_6).toNat * 4 + (k_2).toNat * 1) []), BxC b4 30 vs15, ArR (OwC NS 9) got vs15 (0 + (i_6).toNat * 4 + (k_2).toNat * 1)] := H.arShutE hl14 hxl14 hb14 hv14 [(5, false), (5, false), (5, false)] rfl
       replace H : Hf I D w I20 w31 [ArC 16 (OwC NS 9) 30 b4 got, ArC 16 (OwC NS 9) 30 b3 sent, BxC b1 24 vs16, ArR (PtC OEhub_Hub) h_9 vs16 (0 + (i_6).toNat * 1)] := H.arShutE hl15 hxl15 hb15 hv15 [(3, false), (3, false), (3, false)] rfl
       replace H : Hf I D w I20 w31 [PtC OEhub_Hub (.pointer none) none, ArC 16 (OwC NS 9) 30 b4 got, ArC 16 (OwC NS 9) 30 b3 sent, BxC b1 24 vs16, ArR (PtC OEhub_Hub) h_9 vs16 (0 + (i_6).toNat * 1)] := H.mkN OEhub_Hub
       replace H : Hf I D w I20 w31 [ArC 4 (PtC OEhub_Hub) 24 b1 (h_9.set (0 + (i_6).toNat * 1) none), ArC 16 (OwC NS 9) 30 b4 got, ArC 16 (OwC NS 9) 30 b3 sent] := H.arShut0 hl16 hxl16 hb16 hv16 [(0, false), (2, false), (2, false)] rfl
       refine p_then ?_
       refine f_cond Z rfl (fun hc15 => ?_) (fun hc15 => ?_)
       ·replace hF := ite_t hc15 hF
        refine wp_seq (f_region Z ?_); clear Z; intro Z
        refine s_runk tHb4 Z 1 rfl rfl ?_; clear Z a; intro a Z
        refine s_end Z [2] rfl ?_; clear Z; intro Z
        refine p_then (wp_ret ?_)
        refine p_blk_r ?_
        refine p_then_r ?_
        refine p_then_r ?_
        refine p_blk_r ?_
        refine p_blk_r ?_
        refine p_then_r ?_
        refine p_then_r ?_
        refine p_blk_r ?_
        refine p_then_r ?_
        obtain rfl := some_in hF
        exact f_ret Z (run_results1 rfl Z rfl) ⟨rfl, I20, (H.sub [] rfl).eq rfl⟩
       ·replace hF := ite_f hc15 hF
        refine wp_skip ?_
        refine p_blk ?_
        refine p_then ?_
        obtain ⟨hg35, hF⟩ := chk_in hF
        refine f_region Z ?_; clear Z; intro Z
        refine s_runk tHb4 Z 1 rfl rfl ?_; clear Z a; intro a Z
        refine s_ob Z (v := .int .i64 (k_2 + 1)) rfl rfl (by decide) rfl (Ob_add rfl rfl rfl (wrI hg35)) ?_; clear Z a; intro a Z
        refine s_runk tHb4 Z 1 rfl rfl ?_; clear Z a; intro a Z
        refine s_end Z [3, 7, 8, 19, 20] rfl ?_; clear Z; intro Z
        refine p_then ?_
        exact ⟨(k_2 + 1, (h_9.set (0 + (i_6).toNat * 1) none)), ⟨Z.sub (ts := [3, 7, 8, 19, 20]) rfl, ⟨I20, (H.sub [(0, false), (1, false), (0, false)] rfl).eq rfl⟩⟩, hF⟩
      ·obtain ⟨b9, hv, H⟩ := H.optS 0 rfl ho5
       subst hv
       replace H : Hf I D w I20 w29 [OEhub_Hub b9 x_5, BxC b1 24 vs16, ArR (PtC OEhub_Hub) h_9 vs16 (0 + (i_6).toNat * 1), OwC NS 9 v16 (got.getD (0 + (i_6).toNat * 4 + (k_2).toNat * 1) []), BxC b4 30 vs15, ArR (OwC NS 9) got vs15 (0 + (i_6).toNat * 4 + (k_2).toNat * 1), OwC NS 9 v15 (sent.getD (0 + (i_6).toNat * 4 + (k_2).toNat * 1) []), BxC b3 30 vs14, ArR (OwC NS 9) sent vs14 (0 + (i_6).toNat * 4 + (k_2).toNat * 1)] := H
       obtain ⟨s0_3, hx10, hF⟩ := bnd_in hF
       obtain ⟨w0, hx11, hF⟩ := bnd_in hF
       refine f_quietS 17 (by kernel_rfl) (by kernel_rfl) (by kernel_rfl) (by kernel_rfl) (by kernel_rfl) Z ?_; clear Z; intro Z
       refine q_runk tHb4 Z 2 rfl rfl ?_; clear Z a; intro a Z
       refine q_ob Z (v := .pointer (some ⟨b3, 0 + (i_6).toNat * 4, none⟩)) rfl rfl (by decide) rfl (fun _ hw => Ob_apix (m := 4) (i_6).toNat rfl rfl rfl Try.underlying30 (by kernel_rfl) (have h := hg33; by omega) (have h := hg33; by omega)) ?_; clear Z a; intro a Z
       refine q_ob Z (v := .pointer (some ⟨b3, 0 + (i_6).toNat * 4 + (k_2).toNat * 1, none⟩)) rfl rfl (by decide) rfl (fun _ hw => Ob_apix (m := 1) (k_2).toNat rfl rfl rfl Try.underlying29 (by kernel_rfl) (have h := hg34; by omega) (have h := hg34; by omega)) ?_; clear Z a; intro a Z
       refine q_ob Z (v := v15) rfl rfl (by decide) rfl (fun _ hw => Ob_load tHb4 rfl rfl rfl (((H.blw hw).bx 7 rfl).cell _ hv14)) ?_; clear Z a; intro a Z
       refine q_runk tHb4 Z 2 rfl rfl ?_; clear Z a; intro a Z
       refine q_ob Z (v := .pointer (some ⟨b4, 0 + (i_6).toNat * 4, none⟩)) rfl rfl (by decide) rfl (fun _ hw => Ob_apix (m := 4) (i_6).toNat rfl rfl rfl Try.underlying30 (by kernel_rfl) (have h := hg33; by omega) (have h := hg33; by omega)) ?_; clear Z a; intro a Z
       refine q_ob Z (v := .pointer (some ⟨b4, 0 + (i_6).toNat * 4 + (k_2).toNat * 1, none⟩)) rfl rfl (by decide) rfl (fun _ hw => Ob_apix (m := 1) (k_2).toNat rfl rfl rfl Try.underlying29 (by kernel_rfl) (have h := hg34; by omega) (have h := hg34; by omega)) ?_; clear Z a; intro a Z
       refine q_ob Z (v := v16) rfl rfl (by decide) rfl (fun _ hw => Ob_load tHb4 rfl rfl rfl (((H.blw hw).bx 4 rfl).cell _ hv15)) ?_; clear Z a; intro a Z
       refine q_call Z (caps := #[]) fn_8_YHb4 rfl rfl rfl rfl rfl (by decide) rfl rfl (fun _ hw => (have hq := c_ref05_Same hx10 (stS ((H.blw hw).owA 6 rfl) (stS ((H.blw hw).owA 3 rfl) (stB _))); plainC hq)) ?_; clear Z a; intro a Z
       refine q_runk tHb4 Z 2 rfl rfl ?_; clear Z a; intro a Z
       refine gq_ob Z (p := (!(!s0_3))) (v := .int .i64 i_6) (S' := [(19, .int .i64 i_6)]) rfl rfl rfl (wantB_f _) rfl (by decide) (fun hp hS => hS.sub (ts := [19]) rfl) (fun hp _ hw => Ob_c tHb4 rfl) ?_; clear Z a; intro a Z
       refine gq_ob Z (p := (!(!s0_3))) (v := .pointer (some ⟨b1, 0 + (i_6).toNat * 1, none⟩)) (S' := [(3, .pointer (some ⟨b1, 0, none⟩)), (187, .int .i64 i_6)]) rfl rfl rfl (wantB_f _) rfl (by decide) (fun hp hS => (hS.conv (t := 187) rfl (cond_t hp)).sub (ts := [3, 187]) rfl) (fun hp _ hw => Ob_apix (m := 1) (i_6).toNat rfl rfl rfl Try.underlying24 (by kernel_rfl) (have h := hg33; by omega) (have h := hg33; by omega)) ?_; clear Z a; intro a Z
       refine gq_ob Z (p := (!(!s0_3))) (v := .pointer (some ⟨b9, 0, none⟩)) (S' := [(188, .pointer (some ⟨b1, 0 + (i_6).toNat * 1, none⟩))]) rfl rfl rfl (wantB_f _) rfl (by decide) (fun hp hS => (hS.conv (t := 188) rfl (cond_t hp)).sub (ts := [188]) rfl) (fun hp _ hw => Ob_load tHb4 rfl rfl rfl (((H.blw hw).bx 1 rfl).cell _ hv16)) ?_; clear Z a; intro a Z
       refine gq_ob Z (p := (!(!s0_3))) (v := .int .i64 k_2) (S' := [(20, .int .i64 k_2)]) rfl rfl rfl (wantB_f _) rfl (by decide) (fun hp hS => hS.sub (ts := [20]) rfl) (fun hp _ hw => Ob_c tHb4 rfl) ?_; clear Z a; intro a Z
       refine q_endS Z [3, 7, 8, 19, 20, 171, 174, 175, 176, 177, 178, 179, 180, 181, 182, 183, 184, 185, 186, 187, 188, 189, 190] rfl ?_; clear Z; intro w32 hb Z
       replace H : Hf I D w I20 w32 [OEhub_Hub b9 x_5, BxC b1 24 vs16, ArR (PtC OEhub_Hub) h_9 vs16 (0 + (i_6).toNat * 1), OwC NS 9 v16 (got.getD (0 + (i_6).toNat * 4 + (k_2).toNat * 1) []), BxC b4 30 vs15, ArR (OwC NS 9) got vs15 (0 + (i_6).toNat * 4 + (k_2).toNat * 1), OwC NS 9 v15 (sent.getD (0 + (i_6).toNat * 4 + (k_2).toNat * 1) []), BxC b3 30 vs14, ArR (OwC NS 9) sent vs14 (0 + (i_6).toNat * 4 + (k_2).toNat * 1)] := H.blw hb
       clear hb
       refine h_gcall Z H (js := [(0, false)]) rfl (p := (!(!s0_3))) (v := .int .i64 w0.1) (S' := [(189, .pointer (some ⟨b9, 0, none⟩)), (190, .int .i64 k_2)]) (caps := #[]) (fun qq => [OEhub_Hub b9 (cond qq w0.2 x_5)]) fn_9_YHb4 rfl rfl rfl (wantB_f _) rfl (by decide) (fun hp hS => ((hS.conv (t := 189) rfl (cond_t hp)).conv (t := 190) rfl (cond_t hp)).sub (ts := [189, 190]) rfl) rfl rfl rfl rfl (fun hp D1 hS => have hq := c_hub_Hub_Waiting (gif_in hx11 hp) hS; hq) (fun hp => H.sub [(0, false), (0, false), (0, false), (0, false), (0, false), (0, false), (0, false), (0, false), (0, false)] rfl) ?_; clear Z a H; intro a w33 I21 H Z
       replace H : Hf I D w I21 w33 [OEhub_Hub b9 (cond (!(!s0_3)) w0.2 x_5), BxC b1 24 vs16, ArR (PtC OEhub_Hub) h_9 vs16 (0 + (i_6).toNat * 1), OwC NS 9 v16 (got.getD (0 + (i_6).toNat * 4 + (k_2).toNat * 1) []), BxC b4 30 vs15, ArR (OwC NS 9) got vs15 (0 + (i_6).toNat * 4 + (k_2).toNat * 1), OwC NS 9 v15 (sent.getD (0 + (i_6).toNat * 4 + (k_2).toNat * 1) []), BxC b3 30 vs14, ArR (OwC NS 9) sent vs14 (0 + (i_6).toNat * 4 + (k_2).toNat * 1)] := H
       refine g_ob Z (p := (!(!s0_3))) (v := .bool (w0.1 != 0)) (S' := [(191, .int .i64 w0.1)]) rfl rfl rfl (wantB_f _) rfl (by decide) (fun hp hS => (hS.conv (t := 191) rfl (cond_t hp)).sub (ts := [191]) rfl) (fun hp => Ob_c tHb4 rfl) ?_; clear Z a; intro a Z
       refine s_ob Z (v := .bool ((!s0_3) || (w0.1 != 0))) rfl rfl (by decide) rfl (Ob_pick rfl rfl rfl rfl (pick_or _ _)) ?_; clear Z a; intro a Z
       refine s_end Z [3, 7, 8, 19, 20, 193] rfl ?_; clear Z; intro Z
       replace H : Hf I D w I21 w33 [ArC 16 (OwC NS 9) 30 b3 sent, OEhub_Hub b9 (cond (!(!s0_3)) w0.2 x_5), BxC b1 24 vs16, ArR (PtC OEhub_Hub) h_9 vs16 (0 + (i_6).toNat * 1), OwC NS 9 v16 (got.getD (0 + (i_6).toNat * 4 + (k_2).toNat * 1) []), BxC b4 30 vs15, ArR (OwC NS 9) got vs15 (0 + (i_6).toNat * 4 + (k_2).toNat * 1)] := H.arShutE hl14 hxl14 hb14 hv14 [(6, false), (6, false), (6, false)] rfl
       replace H : Hf I D w I21 w33 [ArC 16 (OwC NS 9) 30 b4 got, ArC 16 (OwC NS 9) 30 b3 sent, OEhub_Hub b9 (cond (!(!s0_3)) w0.2 x_5), BxC b1 24 vs16, ArR (PtC OEhub_Hub) h_9 vs16 (0 + (i_6).toNat * 1)] := H.arShutE hl15 hxl15 hb15 hv15 [(4, false), (4, false), (4, false)] rfl
       replace H : Hf I D w I21 w33 [PtC OEhub_Hub (.pointer (some ⟨b9, 0, none⟩)) (some (cond (!(!s0_3)) w0.2 x_5)), ArC 16 (OwC NS 9) 30 b4 got, ArC 16 (OwC NS 9) 30 b3 sent, BxC b1 24 vs16, ArR (PtC OEhub_Hub) h_9 vs16 (0 + (i_6).toNat * 1)] := H.mkS (K := OEhub_Hub) 2 rfl
       replace H : Hf I D w I21 w33 [ArC 4 (PtC OEhub_Hub) 24 b1 (h_9.set (0 + (i_6).toNat * 1) (some (cond (!(!s0_3)) w0.2 x_5))), ArC 16 (OwC NS 9) 30 b4 got, ArC 16 (OwC NS 9) 30 b3 sent] := H.arShut0 hl16 hxl16 hb16 hv16 [(0, false), (2, false), (2, false)] rfl
       refine p_then ?_
       refine f_cond Z rfl (fun hc16 => ?_) (fun hc16 => ?_)
       ·replace hF := ite_t hc16 hF
        refine wp_seq (f_region Z ?_); clear Z; intro Z
        refine s_runk tHb4 Z 1 rfl rfl ?_; clear Z a; intro a Z
        refine s_end Z [2] rfl ?_; clear Z; intro Z
        refine p_then (wp_ret ?_)
        refine p_blk_r ?_
        refine p_then_r ?_
        refine p_then_r ?_
        refine p_blk_r ?_
        refine p_blk_r ?_
        refine p_then_r ?_
        refine p_then_r ?_
        refine p_blk_r ?_
        refine p_then_r ?_
        obtain rfl := some_in hF
        exact f_ret Z (run_results1 rfl Z rfl) ⟨rfl, I21, (H.sub [] rfl).eq rfl⟩
       ·replace hF := ite_f hc16 hF
        refine wp_skip ?_
        refine p_blk ?_
        refine p_then ?_
        obtain ⟨hg36, hF⟩ := chk_in hF
        refine f_region Z ?_; clear Z; intro Z
        refine s_runk tHb4 Z 1 rfl rfl ?_; clear Z a; intro a Z
        refine s_ob Z (v := .int .i64 (k_2 + 1)) rfl rfl (by decide) rfl (Ob_add rfl rfl rfl (wrI hg36)) ?_; clear Z a; intro a Z
        refine s_runk tHb4 Z 1 rfl rfl ?_; clear Z a; intro a Z
        refine s_end Z [3, 7, 8, 19, 20] rfl ?_; clear Z; intro Z
        refine p_then ?_
        exact ⟨(k_2 + 1, (h_9.set (0 + (i_6).toNat * 1) (some (cond (!(!s0_3)) w0.2 x_5)))), ⟨Z.sub (ts := [3, 7, 8, 19, 20]) rfl, ⟨I21, (H.sub [(0, false), (1, false), (0, false)] rfl).eq rfl⟩⟩, hF⟩
     ·replace hF := ite_f hc14 hF
      refine wp_exit ?_
      refine p_then_x ?_
      refine p_then_x ?_
      refine f_exit_here ?_
      refine p_blk ?_
      refine p_then ?_
      obtain ⟨hg37, hF⟩ := chk_in hF
      refine f_region Z ?_; clear Z; intro Z
      refine s_runk tHb4 Z 1 rfl rfl ?_; clear Z a; intro a Z
      refine s_ob Z (v := .int .i64 (i_6 + 1)) rfl rfl (by decide) rfl (Ob_add rfl rfl rfl (wrI hg37)) ?_; clear Z a; intro a Z
      refine s_runk tHb4 Z 1 rfl rfl ?_; clear Z a; intro a Z
      refine s_end Z [3, 7, 8, 19] rfl ?_; clear Z; intro Z
      refine p_then ?_
      exact ⟨(i_6 + 1, h_9), ⟨Z.sub (ts := [3, 7, 8, 19]) rfl, ⟨I20, (H.sub [(0, false), (0, false), (0, false)] rfl).eq rfl⟩⟩, hF⟩
    ·replace hF := ite_f hc13 hF
     refine wp_exit ?_
     refine p_then_x ?_
     refine p_then_x ?_
     refine f_exit_here ?_
     refine p_then (wp_seq ?_)
     obtain ⟨a0, hx12, hF⟩ := bnd_in hF
     refine f_region Z ?_; clear Z; intro Z
     refine h_call Z H (js := []) rfl (caps := #[]) fn_10_YHb4 rfl rfl rfl rfl rfl (by decide) rfl rfl (fun D1 hS => have hq := c_law23_awake hx12 hS; hq) ?_; clear Z a; intro vv a w34 D2 hr hF2 Z
     obtain ⟨rfl, I22, K⟩ := hr
     have H : Hf I D w I22 w34 [ArC 4 (PtC OEhub_Hub) 24 b1 h_8, ArC 16 (OwC NS 9) 30 b3 sent, ArC 16 (OwC NS 9) 30 b4 got] := hF2 K
     clear hF2 K
     refine s_runk tHb4 Z 1 rfl rfl ?_; clear Z a; intro a Z
     refine s_end Z [2] rfl ?_; clear Z; intro Z
     refine p_then (wp_ret ?_)
     obtain rfl := some_in hF
     exact f_ret Z (run_results1 rfl Z rfl) ⟨rfl, I22, (H.sub [] rfl).eq rfl⟩

end Go.Proofs.Ytghkhndlpfmpfaa
