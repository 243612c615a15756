/- A hub: what goes out. -/
import Derived.Test.YtghkhndlpfmpfaaYHb1
import Derived.Test.YtghkhndlpfmpfaaYR
namespace Go.Proofs.Ytghkhndlpfmpfaa
open Go.RowKit
def tHb2L : TabL := ⟨[(49152, 0)], [], [], [(34, (38, 2)), (55, (58, 8))], [(45, (1, false)), (46, (4, true)), (58, (8, true))]⟩

def tHb2 : Tab Try.prog := ⟨tHb2L, by kernel_rfl⟩

theorem fn_16_YHb2 : IsFn Try.prog 16 := ⟨_, Try.func16, by kernel_rfl, by kernel_rfl⟩

theorem fn_17_YHb2 : IsFn Try.prog 17 := ⟨_, Try.func17, by kernel_rfl, by kernel_rfl⟩

theorem fn_18_YHb2 : IsFn Try.prog 18 := ⟨_, Try.func18, by kernel_rfl, by kernel_rfl⟩

theorem fn_24_YHb2 : IsFn Try.prog 24 := ⟨_, Try.func24, by kernel_rfl, by kernel_rfl⟩

theorem E_34_YHb2 : Elem Try.prog 34 38 2 24 := ⟨Try.underlying34, by
 have h : (Try.prog.info? 38).map (fun i => (i.zero, i.size, i.bytes)) = some (some (.agg #[.int .i64 0, .string ByteArray.empty]), 2, 24) := by kernel_rfl
 obtain ⟨i, hi, h1⟩ := Option.map_eq_some_iff.1 h
 simp only [Prod.mk.injEq] at h1
 exact ⟨i, _, hi, h1.1, h1.2.1, h1.2.2, by rfl⟩, by decide⟩

def F_link_Link_Out_nil (again : Bool) : Option (List ESeg) := (F_link_Link_none_nil).bind fun n0 => (if (n0) = true then (some ([] : List ESeg)) else (none))

set_option maxHeartbeats 1000000 in
theorem c_link_Link_Out_nil {I D : Dm} {again : Bool} {w : World} {rr : List ESeg} (hF : F_link_Link_Out_nil again = some rr) (H : St I D w []) :
  Calls Try.prog 17 #[.pointer none, .bool again] w (Ret fun vv w' => ∃ q1 : Value, vv = q1 ∧ ∃ I', Hf I D w I' w' [SlC NESeg q1 rr]) := by
 replace H := H.hf
 unfold F_link_Link_Out_nil at hF
 refine f_enterM 59 Try.func17 rfl rfl (Nat.le_of_ble_eq_true rfl) fun a Z => ?_
 replace Z := Z.sub (ts := [0, 1]) rfl
 refine wp_seq (f_region Z ?_); clear Z; intro Z
 refine s_runk tHb2 Z 1 rfl rfl ?_; clear Z a; intro a Z
 refine s_end Z [0, 1, 4] rfl ?_; clear Z; intro Z
 refine p_then (wp_seq ?_)
 refine wp_seq ?_
 obtain ⟨n0, hx1, hF⟩ := bnd_in hF
 refine f_region Z ?_; clear Z; intro Z
 refine s_runk tHb2 Z 1 rfl rfl ?_; clear Z a; intro a Z
 refine h_call Z H (js := []) rfl (caps := #[]) fn_24_YHb2 rfl rfl rfl rfl rfl (by decide) rfl rfl (fun D1 hS => have hq := c_link_Link_none_nil hx1 hS; hq) ?_; clear Z a; intro vv a w1 D2 hr hF2 Z
 obtain ⟨rfl, I1, K⟩ := hr
 have H : Hf I D w I1 w1 [] := hF2 K
 clear hF2 K
 refine s_end Z [0, 1, 4, 9] rfl ?_; clear Z; intro Z
 refine p_then ?_
 refine f_cond Z rfl (fun hc1 => ?_) (fun hc1 => ?_)
 ·replace hF := ite_t hc1 hF
  refine wp_seq (f_region Z ?_); clear Z; intro Z
  refine s_runk tHb2 Z 1 rfl rfl ?_; clear Z a; intro a Z
  refine s_end Z [4] rfl ?_; clear Z; intro Z
  refine p_then (wp_ret ?_)
  refine p_then_r ?_
  replace H : Hf I D w I1 w1 [SlC NESeg (.slice none 0 0) ([] : List ESeg)] := H.slNil NESeg
  obtain rfl := some_in hF
  exact f_retM0 Z (run_results1 rfl Z rfl) ⟨.slice none 0 0, rfl, I1, (H.sub [(0, true)] rfl).eq rfl⟩
 ·replace hF := ite_f hc1 hF
  refine wp_skip ?_
  refine p_then (wp_seq ?_)
  cases hF

def F_hub_Hub_Out_k3 (x_5 : Int) (rc_2 : ((List EOut) × Int) → Option ((List EOut) × Ehub_Hub)) (out_3 : List EOut) : Option ((List EOut) × Ehub_Hub) := chk (inI (x_5 + 1)) (rc_2 (out_3, x_5 + 1))

def F_hub_Hub_Out_l2 (x_1 : Option Elink_Link) (x_2 : Option Elink_Link) (x_3 : Option Elink_Link) (x : Int) (rc : ((List EOut) × (Option Elink_Link) × (Option Elink_Link) × (Option Elink_Link) × (Option Elink_Link) × Int) → Option ((List EOut) × Ehub_Hub)) (n0_2 : List ESeg) (rc_2 : ((List EOut) × Int) → Option ((List EOut) × Ehub_Hub)) (sg : (List EOut) × Int) : Option ((List EOut) × Ehub_Hub) := match sg with | (out_2, x_5) => if (decide (x_5 < (n0_2.length : Int))) = true then (chk ((0 : Int) ≤ x_5 ∧ x_5 < (n0_2.length : Int)) ((F_link_Put (n0_2.getD (x_5).toNat default)).bind fun p => (if (p.2 == 0) = true then (chk (((out_2.length + [({ to_ := x, body := p.1 } : EOut)].length : Nat) : Int) * 24 ≤ 140737488355328) (F_hub_Hub_Out_k3 x_5 rc_2 (out_2 ++ [({ to_ := x, body := p.1 } : EOut)]))) else (F_hub_Hub_Out_k3 x_5 rc_2 out_2)))) else (chk (inI (x + 1)) (rc (out_2, none, x_1, x_2, x_3, x + 1)))

def F_hub_Hub_Out_k5 (x_6 : Int) (rc_3 : ((List EOut) × Int) → Option ((List EOut) × Ehub_Hub)) (out_5 : List EOut) : Option ((List EOut) × Ehub_Hub) := chk (inI (x_6 + 1)) (rc_3 (out_5, x_6 + 1))

def F_hub_Hub_Out_l4 (x_1 : Option Elink_Link) (x_2 : Option Elink_Link) (x_3 : Option Elink_Link) (x : Int) (rc : ((List EOut) × (Option Elink_Link) × (Option Elink_Link) × (Option Elink_Link) × (Option Elink_Link) × Int) → Option ((List EOut) × Ehub_Hub)) (o : (List ESeg) × Elink_Link) (rc_3 : ((List EOut) × Int) → Option ((List EOut) × Ehub_Hub)) (sg : (List EOut) × Int) : Option ((List EOut) × Ehub_Hub) := match sg with | (out_4, x_6) => if (decide (x_6 < (o.1.length : Int))) = true then (chk ((0 : Int) ≤ x_6 ∧ x_6 < (o.1.length : Int)) ((F_link_Put (o.1.getD (x_6).toNat default)).bind fun p_2 => (if (p_2.2 == 0) = true then (chk (((out_4.length + [({ to_ := x, body := p_2.1 } : EOut)].length : Nat) : Int) * 24 ≤ 140737488355328) (F_hub_Hub_Out_k5 x_6 rc_3 (out_4 ++ [({ to_ := x, body := p_2.1 } : EOut)]))) else (F_hub_Hub_Out_k5 x_6 rc_3 out_4)))) else (chk (inI (x + 1)) (rc (out_4, some o.2, x_1, x_2, x_3, x + 1)))

def F_hub_Hub_Out_k7 (x_8 : Int) (rc_4 : ((List EOut) × Int) → Option ((List EOut) × Ehub_Hub)) (out_7 : List EOut) : Option ((List EOut) × Ehub_Hub) := chk (inI (x_8 + 1)) (rc_4 (out_7, x_8 + 1))

def F_hub_Hub_Out_l6 (x_0 : Option Elink_Link) (x_2 : Option Elink_Link) (x_3 : Option Elink_Link) (x : Int) (rc : ((List EOut) × (Option Elink_Link) × (Option Elink_Link) × (Option Elink_Link) × (Option Elink_Link) × Int) → Option ((List EOut) × Ehub_Hub)) (n0_3 : List ESeg) (rc_4 : ((List EOut) × Int) → Option ((List EOut) × Ehub_Hub)) (sg : (List EOut) × Int) : Option ((List EOut) × Ehub_Hub) := match sg with | (out_6, x_8) => if (decide (x_8 < (n0_3.length : Int))) = true then (chk ((0 : Int) ≤ x_8 ∧ x_8 < (n0_3.length : Int)) ((F_link_Put (n0_3.getD (x_8).toNat default)).bind fun p_3 => (if (p_3.2 == 0) = true then (chk (((out_6.length + [({ to_ := x, body := p_3.1 } : EOut)].length : Nat) : Int) * 24 ≤ 140737488355328) (F_hub_Hub_Out_k7 x_8 rc_4 (out_6 ++ [({ to_ := x, body := p_3.1 } : EOut)]))) else (F_hub_Hub_Out_k7 x_8 rc_4 out_6)))) else (chk (inI (x + 1)) (rc (out_6, x_0, none, x_2, x_3, x + 1)))

def F_hub_Hub_Out_k9 (x_9 : Int) (rc_5 : ((List EOut) × Int) → Option ((List EOut) × Ehub_Hub)) (out_9 : List EOut) : Option ((List EOut) × Ehub_Hub) := chk (inI (x_9 + 1)) (rc_5 (out_9, x_9 + 1))

def F_hub_Hub_Out_l8 (x_0 : Option Elink_Link) (x_2 : Option Elink_Link) (x_3 : Option Elink_Link) (x : Int) (rc : ((List EOut) × (Option Elink_Link) × (Option Elink_Link) × (Option Elink_Link) × (Option Elink_Link) × Int) → Option ((List EOut) × Ehub_Hub)) (o_2 : (List ESeg) × Elink_Link) (rc_5 : ((List EOut) × Int) → Option ((List EOut) × Ehub_Hub)) (sg : (List EOut) × Int) : Option ((List EOut) × Ehub_Hub) := match sg with | (out_8, x_9) => if (decide (x_9 < (o_2.1.length : Int))) = true then (chk ((0 : Int) ≤ x_9 ∧ x_9 < (o_2.1.length : Int)) ((F_link_Put (o_2.1.getD (x_9).toNat default)).bind fun p_4 => (if (p_4.2 == 0) = true then (chk (((out_8.length + [({ to_ := x, body := p_4.1 } : EOut)].length : Nat) : Int) * 24 ≤ 140737488355328) (F_hub_Hub_Out_k9 x_9 rc_5 (out_8 ++ [({ to_ := x, body := p_4.1 } : EOut)]))) else (F_hub_Hub_Out_k9 x_9 rc_5 out_8)))) else (chk (inI (x + 1)) (rc (out_8, x_0, some o_2.2, x_2, x_3, x + 1)))

def F_hub_Hub_Out_k11 (x_11 : Int) (rc_6 : ((List EOut) × Int) → Option ((List EOut) × Ehub_Hub)) (out_11 : List EOut) : Option ((List EOut) × Ehub_Hub) := chk (inI (x_11 + 1)) (rc_6 (out_11, x_11 + 1))

def F_hub_Hub_Out_l10 (x_0 : Option Elink_Link) (x_1 : Option Elink_Link) (x_3 : Option Elink_Link) (x : Int) (rc : ((List EOut) × (Option Elink_Link) × (Option Elink_Link) × (Option Elink_Link) × (Option Elink_Link) × Int) → Option ((List EOut) × Ehub_Hub)) (n0_4 : List ESeg) (rc_6 : ((List EOut) × Int) → Option ((List EOut) × Ehub_Hub)) (sg : (List EOut) × Int) : Option ((List EOut) × Ehub_Hub) := match sg with | (out_10, x_11) => if (decide (x_11 < (n0_4.length : Int))) = true then (chk ((0 : Int) ≤ x_11 ∧ x_11 < (n0_4.length : Int)) ((F_link_Put (n0_4.getD (x_11).toNat default)).bind fun p_5 => (if (p_5.2 == 0) = true then (chk (((out_10.length + [({ to_ := x, body := p_5.1 } : EOut)].length : Nat) : Int) * 24 ≤ 140737488355328) (F_hub_Hub_Out_k11 x_11 rc_6 (out_10 ++ [({ to_ := x, body := p_5.1 } : EOut)]))) else (F_hub_Hub_Out_k11 x_11 rc_6 out_10)))) else (chk (inI (x + 1)) (rc (out_10, x_0, x_1, none, x_3, x + 1)))

def F_hub_Hub_Out_k13 (x_12 : Int) (rc_7 : ((List EOut) × Int) → Option ((List EOut) × Ehub_Hub)) (out_13 : List EOut) : Option ((List EOut) × Ehub_Hub) := chk (inI (x_12 + 1)) (rc_7 (out_13, x_12 + 1))

def F_hub_Hub_Out_l12 (x_0 : Option Elink_Link) (x_1 : Option Elink_Link) (x_3 : Option Elink_Link) (x : Int) (rc : ((List EOut) × (Option Elink_Link) × (Option Elink_Link) × (Option Elink_Link) × (Option Elink_Link) × Int) → Option ((List EOut) × Ehub_Hub)) (o_3 : (List ESeg) × Elink_Link) (rc_7 : ((List EOut) × Int) → Option ((List EOut) × Ehub_Hub)) (sg : (List EOut) × Int) : Option ((List EOut) × Ehub_Hub) := match sg with | (out_12, x_12) => if (decide (x_12 < (o_3.1.length : Int))) = true then (chk ((0 : Int) ≤ x_12 ∧ x_12 < (o_3.1.length : Int)) ((F_link_Put (o_3.1.getD (x_12).toNat default)).bind fun p_6 => (if (p_6.2 == 0) = true then (chk (((out_12.length + [({ to_ := x, body := p_6.1 } : EOut)].length : Nat) : Int) * 24 ≤ 140737488355328) (F_hub_Hub_Out_k13 x_12 rc_7 (out_12 ++ [({ to_ := x, body := p_6.1 } : EOut)]))) else (F_hub_Hub_Out_k13 x_12 rc_7 out_12)))) else (chk (inI (x + 1)) (rc (out_12, x_0, x_1, some o_3.2, x_3, x + 1)))

def F_hub_Hub_Out_k15 (x_14 : Int) (rc_8 : ((List EOut) × Int) → Option ((List EOut) × Ehub_Hub)) (out_15 : List EOut) : Option ((List EOut) × Ehub_Hub) := chk (inI (x_14 + 1)) (rc_8 (out_15, x_14 + 1))

def F_hub_Hub_Out_l14 (x_0 : Option Elink_Link) (x_1 : Option Elink_Link) (x_2 : Option Elink_Link) (x : Int) (rc : ((List EOut) × (Option Elink_Link) × (Option Elink_Link) × (Option Elink_Link) × (Option Elink_Link) × Int) → Option ((List EOut) × Ehub_Hub)) (n0_5 : List ESeg) (rc_8 : ((List EOut) × Int) → Option ((List EOut) × Ehub_Hub)) (sg : (List EOut) × Int) : Option ((List EOut) × Ehub_Hub) := match sg with | (out_14, x_14) => if (decide (x_14 < (n0_5.length : Int))) = true then (chk ((0 : Int) ≤ x_14 ∧ x_14 < (n0_5.length : Int)) ((F_link_Put (n0_5.getD (x_14).toNat default)).bind fun p_7 => (if (p_7.2 == 0) = true then (chk (((out_14.length + [({ to_ := x, body := p_7.1 } : EOut)].length : Nat) : Int) * 24 ≤ 140737488355328) (F_hub_Hub_Out_k15 x_14 rc_8 (out_14 ++ [({ to_ := x, body := p_7.1 } : EOut)]))) else (F_hub_Hub_Out_k15 x_14 rc_8 out_14)))) else (chk (inI (x + 1)) (rc (out_14, x_0, x_1, x_2, none, x + 1)))

def F_hub_Hub_Out_k17 (x_15 : Int) (rc_9 : ((List EOut) × Int) → Option ((List EOut) × Ehub_Hub)) (out_17 : List EOut) : Option ((List EOut) × Ehub_Hub) := chk (inI (x_15 + 1)) (rc_9 (out_17, x_15 + 1))

def F_hub_Hub_Out_l16 (x_0 : Option Elink_Link) (x_1 : Option Elink_Link) (x_2 : Option Elink_Link) (x : Int) (rc : ((List EOut) × (Option Elink_Link) × (Option Elink_Link) × (Option Elink_Link) × (Option Elink_Link) × Int) → Option ((List EOut) × Ehub_Hub)) (o_4 : (List ESeg) × Elink_Link) (rc_9 : ((List EOut) × Int) → Option ((List EOut) × Ehub_Hub)) (sg : (List EOut) × Int) : Option ((List EOut) × Ehub_Hub) := match sg with | (out_16, x_15) => if (decide (x_15 < (o_4.1.length : Int))) = true then (chk ((0 : Int) ≤ x_15 ∧ x_15 < (o_4.1.length : Int)) ((F_link_Put (o_4.1.getD (x_15).toNat default)).bind fun p_8 => (if (p_8.2 == 0) = true then (chk (((out_16.length + [({ to_ := x, body := p_8.1 } : EOut)].length : Nat) : Int) * 24 ≤ 140737488355328) (F_hub_Hub_Out_k17 x_15 rc_9 (out_16 ++ [({ to_ := x, body := p_8.1 } : EOut)]))) else (F_hub_Hub_Out_k17 x_15 rc_9 out_16)))) else (chk (inI (x + 1)) (rc (out_16, x_0, x_1, x_2, some o_4.2, x + 1)))

def F_hub_Hub_Out_l1 (h : Ehub_Hub) (again : Bool) (rc : ((List EOut) × (Option Elink_Link) × (Option Elink_Link) × (Option Elink_Link) × (Option Elink_Link) × Int) → Option ((List EOut) × Ehub_Hub)) (sg : (List EOut) × (Option Elink_Link) × (Option Elink_Link) × (Option Elink_Link) × (Option Elink_Link) × Int) : Option ((List EOut) × Ehub_Hub) := match sg with | (out, x_0, x_1, x_2, x_3, x) => if (decide (x < 4)) = true then (if (x == 0) = true then (optE x_0 ((F_link_Link_Out_nil again).bind fun n0_2 => (iter (F_hub_Hub_Out_l2 x_1 x_2 x_3 x rc n0_2) FU (out, 0))) (fun x_4 => (F_link_Link_Out x_4 again).bind fun o => (iter (F_hub_Hub_Out_l4 x_1 x_2 x_3 x rc o) FU (out, 0)))) else if (x == 1) = true then (optE x_1 ((F_link_Link_Out_nil again).bind fun n0_3 => (iter (F_hub_Hub_Out_l6 x_0 x_2 x_3 x rc n0_3) FU (out, 0))) (fun x_7 => (F_link_Link_Out x_7 again).bind fun o_2 => (iter (F_hub_Hub_Out_l8 x_0 x_2 x_3 x rc o_2) FU (out, 0)))) else if (x == 2) = true then (optE x_2 ((F_link_Link_Out_nil again).bind fun n0_4 => (iter (F_hub_Hub_Out_l10 x_0 x_1 x_3 x rc n0_4) FU (out, 0))) (fun x_10 => (F_link_Link_Out x_10 again).bind fun o_3 => (iter (F_hub_Hub_Out_l12 x_0 x_1 x_3 x rc o_3) FU (out, 0)))) else if (x == 3) = true then (optE x_3 ((F_link_Link_Out_nil again).bind fun n0_5 => (iter (F_hub_Hub_Out_l14 x_0 x_1 x_2 x rc n0_5) FU (out, 0))) (fun x_13 => (F_link_Link_Out x_13 again).bind fun o_4 => (iter (F_hub_Hub_Out_l16 x_0 x_1 x_2 x rc o_4) FU (out, 0)))) else none) else (some (out, ({ h with l := [x_0, x_1, x_2, x_3] } : Ehub_Hub)))

def F_hub_Hub_Out (h : Ehub_Hub) (again : Bool) : Option ((List EOut) × Ehub_Hub) := (F_hub_Hub_none h).bind fun n0 => (if (n0) = true then (some (([] : List EOut), h)) else (iter (F_hub_Hub_Out_l1 h again) FU (([] : List EOut), (h.l.getD 0 none), (h.l.getD 1 none), (h.l.getD 2 none), (h.l.getD 3 none), 0)))

set_option maxHeartbeats 1000000 in
theorem c_hub_Hub_Out {I D : Dm} {b_h : Nat} {h : Ehub_Hub} {again : Bool} {w : World} {rr : (List EOut) × Ehub_Hub} (hF : F_hub_Hub_Out h again = some rr) (H : St I D w [OEhub_Hub b_h h]) :
  Calls Try.prog 6 #[.pointer (some ⟨b_h, 0, none⟩), .bool again] w (Ret fun vv w' => ∃ q1 : Value, vv = q1 ∧ ∃ I', Hf I D w I' w' [OEhub_Hub b_h rr.2, SlC NEOut q1 rr.1]) := by
 replace H := H.hf
 unfold F_hub_Hub_Out at hF
 refine f_enter 46 Try.func6 rfl rfl (Nat.le_of_ble_eq_true rfl) fun a Z => ?_
 replace Z := Z.sub (ts := [0, 1]) rfl
 refine wp_seq (f_region Z ?_); clear Z; intro Z
 refine s_runk tHb2 Z 1 rfl rfl ?_; clear Z a; intro a Z
 refine s_end Z [0, 1] rfl ?_; clear Z; intro Z
 refine p_then (wp_seq ?_)
 refine wp_seq ?_
 obtain ⟨n0, hx1, hF⟩ := bnd_in hF
 refine f_region Z ?_; clear Z; intro Z
 refine s_runk tHb2 Z 1 rfl rfl ?_; clear Z a; intro a Z
 refine h_call Z H (js := [(0, false)]) rfl (caps := #[]) fn_16_YHb2 rfl rfl rfl rfl rfl (by decide) rfl rfl (fun D1 hS => have hq := c_hub_Hub_none hx1 hS; hq) ?_; clear Z a; intro vv a w1 D2 hr hF2 Z
 obtain ⟨rfl, I1, K⟩ := hr
 have H : Hf I D w I1 w1 [OEhub_Hub b_h h] := hF2 K
 clear hF2 K
 refine s_end Z [0, 1, 13] rfl ?_; clear Z; intro Z
 refine p_then ?_
 refine f_cond Z rfl (fun hc1 => ?_) (fun hc1 => ?_)
 ·replace hF := ite_t hc1 hF
  refine wp_seq (f_region Z ?_); clear Z; intro Z
  refine s_runk tHb2 Z 1 rfl rfl ?_; clear Z a; intro a Z
  refine s_end Z [4] rfl ?_; clear Z; intro Z
  refine p_then (wp_ret ?_)
  refine p_then_r ?_
  replace H : Hf I D w I1 w1 [SlC NEOut (.slice none 0 0) ([] : List EOut), OEhub_Hub b_h h] := H.slNil NEOut
  obtain rfl := some_in hF
  exact f_ret Z (run_results1 rfl Z rfl) ⟨.slice none 0 0, rfl, I1, (H.sub [(1, false), (0, true)] rfl).eq rfl⟩
 ·replace hF := ite_f hc1 hF
  refine wp_skip ?_
  refine p_then (wp_seq (f_region Z ?_)); clear Z; intro Z
  refine s_runk tHb2 Z 1 rfl rfl ?_; clear Z a; intro a Z
  refine s_end Z [0, 1, 5] rfl ?_; clear Z; intro Z
  refine p_then (wp_seq ?_)
  refine wp_seq (f_region Z ?_); clear Z; intro Z
  refine s_runk tHb2 Z 3 rfl rfl ?_; clear Z a; intro a Z
  obtain ⟨⟨v1, v2, v3, v4⟩, H⟩ := H.openX 0 rfl
  replace H : Hf I D w I1 w1 [BxC b_h 48 [v1, v2, v3, v4, .bool h.made], PtC OElink_Link v1 (h.l.getD 0 none), PtC OElink_Link v2 (h.l.getD 1 none), PtC OElink_Link v3 (h.l.getD 2 none), PtC OElink_Link v4 (h.l.getD 3 none)] := H
  refine s_ob Z (v := .agg #[v1, v2, v3, v4]) rfl rfl (by decide) rfl (Ob_loads tHb2 rfl rfl rfl ((H.bx 0 rfl).part 0 rfl)) ?_; clear Z a; intro a Z
  refine s_runk tHb2 Z 1 rfl rfl ?_; clear Z a; intro a Z
  refine s_end Z [1, 5, 17, 18] rfl ?_; clear Z; intro Z
  refine p_then (wp_block ?_)
  replace H : Hf I D w I1 w1 [OwC NEOut 38 (.slice none 0 0) ([] : List EOut), BxC b_h 48 [v1, v2, v3, v4, .bool h.made], PtC OElink_Link v1 (h.l.getD 0 none), PtC OElink_Link v2 (h.l.getD 1 none), PtC OElink_Link v3 (h.l.getD 2 none), PtC OElink_Link v4 (h.l.getD 3 none)] := H.nilow NEOut 38
  refine f_iter hF (fun sg a' w' => match sg with | (out, x_0, x_1, x_2, x_3, x) => ∃ v5 v6 v7 v8 v9 : Value, Sl 46 [(1, .bool again), (5, v5), (17, .agg #[v6, v7, v8, v9]), (18, .int .i64 x)] a' ∧ ∃ I2, Hf I D w I2 w' [BxC b_h 48 [v6, v7, v8, v9, .bool h.made], OwC NEOut 38 v5 out, PtC OElink_Link v6 x_0, PtC OElink_Link v7 x_1, PtC OElink_Link v8 x_2, PtC OElink_Link v9 x_3]) ⟨.slice none 0 0, v1, v2, v3, v4, Z.sub (ts := [1, 5, 17, 18]) rfl, ⟨I1, (H.sub [(1, false), (0, false), (0, false), (0, false), (0, false), (0, false)] rfl).eq rfl⟩⟩ ?_
  clear Z H hF a
  rintro rc ⟨out, x_0, x_1, x_2, x_3, x⟩ a w2 ⟨v5, v6, v7, v8, v9, Z, I2, H⟩ hF
  unfold F_hub_Hub_Out_l1 at hF
  try dsimp only at hF
  refine wp_seq (f_region Z ?_); clear Z; intro Z
  refine s_runk tHb2 Z 1 rfl rfl ?_; clear Z a; intro a Z
  refine s_end Z [1, 5, 17, 18, 19] rfl ?_; clear Z; intro Z
  refine p_then (wp_seq ?_)
  refine f_cond Z rfl (fun hc2 => ?_) (fun hc2 => ?_)
  ·replace hF := ite_t hc2 hF
   refine wp_skip ?_
   refine p_then (wp_seq ?_)
   refine wp_block ?_
   refine wp_seq ?_
   refine bsplit (x == 0) (fun hi1 => ?_) (fun hi1 => ?_)
   ·replace hF := ite_t hi1 hF
    refine f_region Z ?_; clear Z; intro Z
    refine s_runk tHb2 Z 1 rfl rfl ?_; clear Z a; intro a Z
    refine s_ob Z (v := v6) rfl rfl (by decide) rfl (Ob_aixv tHb2 0 rfl rfl rfl Try.underlying46 rfl (eq_of_beq hi1) (by decide) rfl) ?_; clear Z a; intro a Z
    refine s_runk tHb2 Z 2 rfl rfl ?_; clear Z a; intro a Z
    refine s_end Z [1, 5, 17, 18, 6, 7] rfl ?_; clear Z; intro Z
    rcases optE_in hF with ⟨ho1, hF⟩ | ⟨x_4, ho1, hF⟩
    ·obtain ⟨hv, H⟩ := H.optN 2 rfl ho1
     subst hv
     replace H : Hf I D w I2 w2 [BxC b_h 48 [.pointer none, v7, v8, v9, .bool h.made], OwC NEOut 38 v5 out, PtC OElink_Link v7 x_1, PtC OElink_Link v8 x_2, PtC OElink_Link v9 x_3] := H
     refine p_then (wp_seq ?_)
     obtain ⟨n0_2, hx2, hF⟩ := bnd_in hF
     refine f_region Z ?_; clear Z; intro Z
     refine s_runk tHb2 Z 2 rfl rfl ?_; clear Z a; intro a Z
     refine h_call Z H (js := []) rfl (caps := #[]) fn_17_YHb2 rfl rfl rfl rfl rfl (by decide) rfl rfl (fun D1 hS => have hq := c_link_Link_Out_nil hx2 hS; hq) ?_; clear Z a; intro vv a w3 D2 hr hF2 Z
     obtain ⟨q1, hvv, I3, K⟩ := hr; obtain rfl := hvv.symm
     have H : Hf I D w I3 w3 [SlC NESeg q1 n0_2, BxC b_h 48 [.pointer none, v7, v8, v9, .bool h.made], OwC NEOut 38 v5 out, PtC OElink_Link v7 x_1, PtC OElink_Link v8 x_2, PtC OElink_Link v9 x_3] := hF2 K
     clear hF2 K
     refine s_ob Z (v := .int .i64 (n0_2.length : Int)) rfl rfl (by decide) rfl (Ob_slen tHb2 rfl rfl rfl (H.slshape 0 rfl)) ?_; clear Z a; intro a Z
     refine s_runk tHb2 Z 1 rfl rfl ?_; clear Z a; intro a Z
     refine s_end Z [1, 5, 17, 18, 6, 24, 25, 26] rfl ?_; clear Z; intro Z
     refine p_then (wp_block ?_)
     refine f_iter hF (fun sg a' w' => match sg with | (out_2, x_5) => ∃ v10 : Value, Sl 46 [(1, .bool again), (5, v10), (6, .int .i64 x), (17, .agg #[.pointer none, v7, v8, v9]), (18, .int .i64 x), (24, q1), (25, .int .i64 (n0_2.length : Int)), (26, .int .i64 x_5)] a' ∧ ∃ I2, Hf I D w I2 w' [BxC b_h 48 [.pointer none, v7, v8, v9, .bool h.made], SlC NESeg q1 n0_2, PtC OElink_Link v7 x_1, PtC OElink_Link v8 x_2, PtC OElink_Link v9 x_3, OwC NEOut 38 v10 out_2]) ⟨v5, Z.sub (ts := [1, 5, 6, 17, 18, 24, 25, 26]) rfl, ⟨I3, (H.sub [(1, false), (0, true), (2, false), (2, false), (2, false), (1, false)] rfl).eq rfl⟩⟩ ?_
     clear Z H hF a
     rintro rc_2 ⟨out_2, x_5⟩ a w4 ⟨v10, Z, I4, H⟩ hF
     unfold F_hub_Hub_Out_l2 at hF
     try dsimp only at hF
     refine wp_seq (f_region Z ?_); clear Z; intro Z
     refine s_runk tHb2 Z 1 rfl rfl ?_; clear Z a; intro a Z
     refine s_end Z [1, 5, 6, 17, 18, 24, 25, 26, 27] rfl ?_; clear Z; intro Z
     refine p_then (wp_seq ?_)
     refine f_cond Z rfl (fun hc3 => ?_) (fun hc3 => ?_)
     ·replace hF := ite_t hc3 hF
      refine wp_skip ?_
      refine p_then ?_
      refine f_cut (fun a' w' => ∃ (out_3 : List EOut), ∃ v11 : Value, Sl 46 [(1, .bool again), (5, v11), (6, .int .i64 x), (17, .agg #[.pointer none, v7, v8, v9]), (18, .int .i64 x), (24, q1), (25, .int .i64 (n0_2.length : Int)), (26, .int .i64 x_5)] a' ∧ (∃ I2, Hf I D w I2 w' [BxC b_h 48 [.pointer none, v7, v8, v9, .bool h.made], SlC NESeg q1 n0_2, PtC OElink_Link v7 x_1, PtC OElink_Link v8 x_2, PtC OElink_Link v9 x_3, OwC NEOut 38 v11 out_3]) ∧ F_hub_Hub_Out_k3 x_5 rc_2 out_3 = some rr) ?_ ?_
      ·rintro a w5 ⟨out_3, v11, Z, ⟨I5, H⟩, hF⟩
       unfold F_hub_Hub_Out_k3 at hF
       try dsimp only at hF
       obtain ⟨hg1, hF⟩ := chk_in hF
       refine f_region Z ?_; clear Z; intro Z
       refine s_ob Z (v := .int .i64 (x_5 + 1)) rfl rfl (by decide) rfl (Ob_add rfl rfl rfl (wrI hg1)) ?_; clear Z a; intro a Z
       refine s_runk tHb2 Z 1 rfl rfl ?_; clear Z a; intro a Z
       refine s_end Z [1, 5, 6, 17, 18, 24, 25, 26] rfl ?_; clear Z; intro Z
       refine p_then ?_
       exact ⟨(out_3, x_5 + 1), ⟨v11, Z.sub (ts := [1, 5, 6, 17, 18, 24, 25, 26]) rfl, ⟨I5, (H.sub [(0, false), (0, true), (1, false), (1, false), (1, false), (1, false)] rfl).eq rfl⟩⟩, hF⟩
      ·skip
       refine wp_block ?_
       refine wp_seq ?_
       obtain ⟨hg2, hF⟩ := chk_in hF
       refine f_region Z ?_; clear Z; intro Z
       refine s_ob Z (v := .pointer (some ⟨blkOf q1, oofOf q1 + (x_5).toNat * 8, none⟩)) rfl rfl (by decide) rfl (Ob_sidx tHb2 rfl rfl rfl rfl (slPl (H.sl 1 rfl) hg2) hg2) ?_; clear Z a; intro a Z
       refine s_ob Z (v := .agg #[.int .i64 ((n0_2.getD (x_5).toNat default).boot), .int .i64 ((n0_2.getD (x_5).toNat default).stream), .int .i64 ((n0_2.getD (x_5).toNat default).seq), .int .i64 ((n0_2.getD (x_5).toNat default).ackBoot), .int .i64 ((n0_2.getD (x_5).toNat default).ackStream), .int .i64 ((n0_2.getD (x_5).toNat default).ackSeq), .bool ((n0_2.getD (x_5).toNat default).has), .string ((n0_2.getD (x_5).toNat default).body)]) rfl rfl (by decide) rfl (Ob_loads tHb2 rfl rfl rfl ((slFl (H.sl 1 rfl) hg2).part 0 rfl)) ?_; clear Z a; intro a Z
       refine h_alloc Z H (cl := [.int .i64 0, .int .i64 0, .int .i64 0, .int .i64 0, .int .i64 0, .int .i64 0, .bool false, .string ByteArray.empty]) (z := .agg #[.int .i64 0, .int .i64 0, .int .i64 0, .int .i64 0, .int .i64 0, .int .i64 0, .bool false, .string ByteArray.empty]) rfl rfl rfl (by decide) rfl (by kernel_rfl) rfl ?_; clear Z a H; intro a w6 b2 H Z
       refine h_store tHb2 Z H 0 rfl rfl rfl rfl rfl rfl rfl rfl rfl (one_cons rfl (one_cons rfl (one_cons rfl (one_cons rfl (one_cons rfl (one_cons rfl (one_cons rfl (one_cons rfl one_nil)))))))) (Nat.le_of_ble_eq_true rfl) rfl ?_; clear H; intro w7 H
       dsimp only [List.eraseIdx] at H
       refine s_end Z [1, 5, 6, 17, 18, 24, 25, 26, 9] rfl ?_; clear Z; intro Z
       refine p_then (wp_seq ?_)
       obtain ⟨p, hx3, hF⟩ := bnd_in hF
       refine f_region Z ?_; clear Z; intro Z
       refine s_ob Z (v := .agg #[.int .i64 ((n0_2.getD (x_5).toNat default).boot), .int .i64 ((n0_2.getD (x_5).toNat default).stream), .int .i64 ((n0_2.getD (x_5).toNat default).seq), .int .i64 ((n0_2.getD (x_5).toNat default).ackBoot), .int .i64 ((n0_2.getD (x_5).toNat default).ackStream), .int .i64 ((n0_2.getD (x_5).toNat default).ackSeq), .bool ((n0_2.getD (x_5).toNat default).has), .string ((n0_2.getD (x_5).toNat default).body)]) rfl rfl (by decide) rfl (Ob_loads tHb2 rfl rfl rfl ((H.bx 0 rfl).part 0 rfl)) ?_; clear Z a; intro a Z
       refine h_call Z H (js := []) rfl (caps := #[]) fn_18_YHb2 rfl rfl rfl rfl rfl (by decide) rfl rfl (fun D1 hS => have hq := c_link_Put hx3 hS; hq) ?_; clear Z a; intro vv a w8 D2 hr hF2 Z
       obtain ⟨rfl, I6, K⟩ := hr
       have H : Hf I D w I6 w8 [BxC b2 58 [.int .i64 ((n0_2.getD (x_5).toNat default).boot), .int .i64 ((n0_2.getD (x_5).toNat default).stream), .int .i64 ((n0_2.getD (x_5).toNat default).seq), .int .i64 ((n0_2.getD (x_5).toNat default).ackBoot), .int .i64 ((n0_2.getD (x_5).toNat default).ackStream), .int .i64 ((n0_2.getD (x_5).toNat default).ackSeq), .bool ((n0_2.getD (x_5).toNat default).has), .string ((n0_2.getD (x_5).toNat default).body)], BxC b_h 48 [.pointer none, v7, v8, v9, .bool h.made], SlC NESeg q1 n0_2, PtC OElink_Link v7 x_1, PtC OElink_Link v8 x_2, PtC OElink_Link v9 x_3, OwC NEOut 38 v10 out_2] := hF2 K
       clear hF2 K
       refine s_runk tHb2 Z 5 rfl rfl ?_; clear Z a; intro a Z
       refine s_end Z [1, 5, 6, 17, 18, 24, 25, 26, 10, 11] rfl ?_; clear Z; intro Z
       refine p_then (wp_seq (f_region Z ?_)); clear Z; intro Z
       refine s_runk tHb2 Z 2 rfl rfl ?_; clear Z a; intro a Z
       refine s_end Z [1, 5, 6, 17, 18, 24, 25, 26, 10, 36] rfl ?_; clear Z; intro Z
       refine p_then ?_
       refine f_cond Z rfl (fun hc4 => ?_) (fun hc4 => ?_)
       ·replace hF := ite_t hc4 hF
        obtain ⟨hg3, hF⟩ := chk_in hF
        refine f_region Z ?_; clear Z; intro Z
        refine s_runk tHb2 Z 3 rfl rfl ?_; clear Z a; intro a Z
        refine s_ob Z (v := .agg #[.int .i64 x, .string p.1]) rfl rfl (by decide) rfl (Ob_build (vs := [(0, .int .i64 x), (1, .string p.1)]) rfl rfl (by go_simp <;> rfl)) ?_; clear Z a; intro a Z
        refine h_bslice Z H (vs := [(0, .agg #[.int .i64 x, .string p.1])]) (cl := [.int .i64 x, .string p.1]) (e := 38) rfl rfl rfl (by decide) rfl rfl (fun w => run_bslice (z := .agg #[.int .i64 0, .string ByteArray.empty]) (m := 2) Try.underlying34 (by kernel_rfl) rfl rfl (by decide) (by simp [Instr.fill, Value.cells]) w) ?_; clear Z a H; intro a w9 b3 H Z
        refine h_appO Z H 7 E_34_YHb2 [({ to_ := x, body := p.1 } : EOut)] rfl rfl rfl rfl rfl (by decide) rfl rfl rfl (slRep2.box1 (H.bx 0 rfl) ⟨rfl, trivial⟩) hg3 (by decide) ?_; clear Z a H; intro v12 a w10 H Z
        dsimp only [List.eraseIdx] at H
        replace H : Hf I D w I6 w10 [OwC NEOut 38 v12 (out_2 ++ [({ to_ := x, body := p.1 } : EOut)]), BxC b2 58 [.int .i64 ((n0_2.getD (x_5).toNat default).boot), .int .i64 ((n0_2.getD (x_5).toNat default).stream), .int .i64 ((n0_2.getD (x_5).toNat default).seq), .int .i64 ((n0_2.getD (x_5).toNat default).ackBoot), .int .i64 ((n0_2.getD (x_5).toNat default).ackStream), .int .i64 ((n0_2.getD (x_5).toNat default).ackSeq), .bool ((n0_2.getD (x_5).toNat default).has), .string ((n0_2.getD (x_5).toNat default).body)], BxC b_h 48 [.pointer none, v7, v8, v9, .bool h.made], SlC NESeg q1 n0_2, PtC OElink_Link v7 x_1, PtC OElink_Link v8 x_2, PtC OElink_Link v9 x_3] := H.sub [(0, false), (1, false), (1, false), (1, true), (2, false), (2, false), (2, false)] rfl
        refine s_runk tHb2 Z 1 rfl rfl ?_; clear Z a; intro a Z
        refine s_end Z [1, 5, 6, 17, 18, 24, 25, 26] rfl ?_; clear Z; intro Z
        refine p_blk ?_
        refine p_then ?_
        exact ⟨out_2 ++ [({ to_ := x, body := p.1 } : EOut)], v12, Z.sub (ts := [1, 5, 6, 17, 18, 24, 25, 26]) rfl, ⟨I6, (H.sub [(2, false), (2, true), (3, false), (3, false), (3, false), (0, false)] rfl).eq rfl⟩, hF⟩
       ·replace hF := ite_f hc4 hF
        refine wp_skip ?_
        refine p_blk ?_
        refine p_then ?_
        exact ⟨out_2, v10, Z.sub (ts := [1, 5, 6, 17, 18, 24, 25, 26]) rfl, ⟨I6, (H.sub [(1, false), (1, true), (2, false), (2, false), (2, false), (2, false)] rfl).eq rfl⟩, hF⟩
     ·replace hF := ite_f hc3 hF
      refine wp_exit ?_
      refine p_then_x ?_
      refine p_then_x ?_
      refine f_exit_here ?_
      refine p_blk ?_
      refine p_then ?_
      obtain ⟨hg4, hF⟩ := chk_in hF
      refine f_region Z ?_; clear Z; intro Z
      refine s_ob Z (v := .int .i64 (x + 1)) rfl rfl (by decide) rfl (Ob_add rfl rfl rfl (wrI hg4)) ?_; clear Z a; intro a Z
      refine s_runk tHb2 Z 1 rfl rfl ?_; clear Z a; intro a Z
      refine s_end Z [1, 5, 17, 18] rfl ?_; clear Z; intro Z
      refine p_then ?_
      replace H : Hf I D w I4 w4 [PtC OElink_Link (.pointer none) none, BxC b_h 48 [.pointer none, v7, v8, v9, .bool h.made], SlC NESeg q1 n0_2, PtC OElink_Link v7 x_1, PtC OElink_Link v8 x_2, PtC OElink_Link v9 x_3, OwC NEOut 38 v10 out_2] := H.mkN OElink_Link
      exact ⟨(out_2, none, x_1, x_2, x_3, x + 1), ⟨v10, .pointer none, v7, v8, v9, Z.sub (ts := [1, 5, 17, 18]) rfl, ⟨I4, (H.sub [(1, false), (5, false), (0, false), (1, false), (1, false), (1, false)] rfl).eq rfl⟩⟩, hF⟩
    ·obtain ⟨b1, hv, H⟩ := H.optS 2 rfl ho1
     subst hv
     replace H : Hf I D w I2 w2 [OElink_Link b1 x_4, BxC b_h 48 [.pointer (some ⟨b1, 0, none⟩), v7, v8, v9, .bool h.made], OwC NEOut 38 v5 out, PtC OElink_Link v7 x_1, PtC OElink_Link v8 x_2, PtC OElink_Link v9 x_3] := H
     refine p_then (wp_seq ?_)
     obtain ⟨o, hx4, hF⟩ := bnd_in hF
     refine f_region Z ?_; clear Z; intro Z
     refine s_runk tHb2 Z 2 rfl rfl ?_; clear Z a; intro a Z
     refine h_call Z H (js := [(0, false)]) rfl (caps := #[]) fn_17_YHb2 rfl rfl rfl rfl rfl (by decide) rfl rfl (fun D1 hS => have hq := c_link_Link_Out hx4 hS; hq) ?_; clear Z a; intro vv a w11 D2 hr hF2 Z
     obtain ⟨q2, hvv, I7, K⟩ := hr; obtain rfl := hvv.symm
     have H : Hf I D w I7 w11 [OElink_Link b1 o.2, SlC NESeg q2 o.1, BxC b_h 48 [.pointer (some ⟨b1, 0, none⟩), v7, v8, v9, .bool h.made], OwC NEOut 38 v5 out, PtC OElink_Link v7 x_1, PtC OElink_Link v8 x_2, PtC OElink_Link v9 x_3] := hF2 K
     clear hF2 K
     refine s_ob Z (v := .int .i64 (o.1.length : Int)) rfl rfl (by decide) rfl (Ob_slen tHb2 rfl rfl rfl (H.slshape 1 rfl)) ?_; clear Z a; intro a Z
     refine s_runk tHb2 Z 1 rfl rfl ?_; clear Z a; intro a Z
     refine s_end Z [1, 5, 17, 18, 6, 24, 25, 26] rfl ?_; clear Z; intro Z
     refine p_then (wp_block ?_)
     refine f_iter hF (fun sg a' w' => match sg with | (out_4, x_6) => ∃ v13 : Value, Sl 46 [(1, .bool again), (5, v13), (6, .int .i64 x), (17, .agg #[.pointer (some ⟨b1, 0, none⟩), v7, v8, v9]), (18, .int .i64 x), (24, q2), (25, .int .i64 (o.1.length : Int)), (26, .int .i64 x_6)] a' ∧ ∃ I2, Hf I D w I2 w' [BxC b_h 48 [.pointer (some ⟨b1, 0, none⟩), v7, v8, v9, .bool h.made], OElink_Link b1 o.2, SlC NESeg q2 o.1, PtC OElink_Link v7 x_1, PtC OElink_Link v8 x_2, PtC OElink_Link v9 x_3, OwC NEOut 38 v13 out_4]) ⟨v5, Z.sub (ts := [1, 5, 6, 17, 18, 24, 25, 26]) rfl, ⟨I7, (H.sub [(2, false), (0, false), (0, true), (2, false), (2, false), (2, false), (1, false)] rfl).eq rfl⟩⟩ ?_
     clear Z H hF a
     rintro rc_3 ⟨out_4, x_6⟩ a w12 ⟨v13, Z, I8, H⟩ hF
     unfold F_hub_Hub_Out_l4 at hF
     try dsimp only at hF
     refine wp_seq (f_region Z ?_); clear Z; intro Z
     refine s_runk tHb2 Z 1 rfl rfl ?_; clear Z a; intro a Z
     refine s_end Z [1, 5, 6, 17, 18, 24, 25, 26, 27] rfl ?_; clear Z; intro Z
     refine p_then (wp_seq ?_)
     refine f_cond Z rfl (fun hc5 => ?_) (fun hc5 => ?_)
     ·replace hF := ite_t hc5 hF
      refine wp_skip ?_
      refine p_then ?_
      refine f_cut (fun a' w' => ∃ (out_5 : List EOut), ∃ v14 : Value, Sl 46 [(1, .bool again), (5, v14), (6, .int .i64 x), (17, .agg #[.pointer (some ⟨b1, 0, none⟩), v7, v8, v9]), (18, .int .i64 x), (24, q2), (25, .int .i64 (o.1.length : Int)), (26, .int .i64 x_6)] a' ∧ (∃ I2, Hf I D w I2 w' [BxC b_h 48 [.pointer (some ⟨b1, 0, none⟩), v7, v8, v9, .bool h.made], OElink_Link b1 o.2, SlC NESeg q2 o.1, PtC OElink_Link v7 x_1, PtC OElink_Link v8 x_2, PtC OElink_Link v9 x_3, OwC NEOut 38 v14 out_5]) ∧ F_hub_Hub_Out_k5 x_6 rc_3 out_5 = some rr) ?_ ?_
      ·rintro a w13 ⟨out_5, v14, Z, ⟨I9, H⟩, hF⟩
       unfold F_hub_Hub_Out_k5 at hF
       try dsimp only at hF
       obtain ⟨hg5, hF⟩ := chk_in hF
       refine f_region Z ?_; clear Z; intro Z
       refine s_ob Z (v := .int .i64 (x_6 + 1)) rfl rfl (by decide) rfl (Ob_add rfl rfl rfl (wrI hg5)) ?_; clear Z a; intro a Z
       refine s_runk tHb2 Z 1 rfl rfl ?_; clear Z a; intro a Z
       refine s_end Z [1, 5, 6, 17, 18, 24, 25, 26] rfl ?_; clear Z; intro Z
       refine p_then ?_
       exact ⟨(out_5, x_6 + 1), ⟨v14, Z.sub (ts := [1, 5, 6, 17, 18, 24, 25, 26]) rfl, ⟨I9, (H.sub [(0, false), (0, false), (0, true), (1, false), (1, false), (1, false), (1, false)] rfl).eq rfl⟩⟩, hF⟩
      ·skip
       refine wp_block ?_
       refine wp_seq ?_
       obtain ⟨hg6, hF⟩ := chk_in hF
       refine f_region Z ?_; clear Z; intro Z
       refine s_ob Z (v := .pointer (some ⟨blkOf q2, oofOf q2 + (x_6).toNat * 8, none⟩)) rfl rfl (by decide) rfl (Ob_sidx tHb2 rfl rfl rfl rfl (slPl (H.sl 2 rfl) hg6) hg6) ?_; clear Z a; intro a Z
       refine s_ob Z (v := .agg #[.int .i64 ((o.1.getD (x_6).toNat default).boot), .int .i64 ((o.1.getD (x_6).toNat default).stream), .int .i64 ((o.1.getD (x_6).toNat default).seq), .int .i64 ((o.1.getD (x_6).toNat default).ackBoot), .int .i64 ((o.1.getD (x_6).toNat default).ackStream), .int .i64 ((o.1.getD (x_6).toNat default).ackSeq), .bool ((o.1.getD (x_6).toNat default).has), .string ((o.1.getD (x_6).toNat default).body)]) rfl rfl (by decide) rfl (Ob_loads tHb2 rfl rfl rfl ((slFl (H.sl 2 rfl) hg6).part 0 rfl)) ?_; clear Z a; intro a Z
       refine h_alloc Z H (cl := [.int .i64 0, .int .i64 0, .int .i64 0, .int .i64 0, .int .i64 0, .int .i64 0, .bool false, .string ByteArray.empty]) (z := .agg #[.int .i64 0, .int .i64 0, .int .i64 0, .int .i64 0, .int .i64 0, .int .i64 0, .bool false, .string ByteArray.empty]) rfl rfl rfl (by decide) rfl (by kernel_rfl) rfl ?_; clear Z a H; intro a w14 b4 H Z
       refine h_store tHb2 Z H 0 rfl rfl rfl rfl rfl rfl rfl rfl rfl (one_cons rfl (one_cons rfl (one_cons rfl (one_cons rfl (one_cons rfl (one_cons rfl (one_cons rfl (one_cons rfl one_nil)))))))) (Nat.le_of_ble_eq_true rfl) rfl ?_; clear H; intro w15 H
       dsimp only [List.eraseIdx] at H
       refine s_end Z [1, 5, 6, 17, 18, 24, 25, 26, 9] rfl ?_; clear Z; intro Z
       refine p_then (wp_seq ?_)
       obtain ⟨p_2, hx5, hF⟩ := bnd_in hF
       refine f_region Z ?_; clear Z; intro Z
       refine s_ob Z (v := .agg #[.int .i64 ((o.1.getD (x_6).toNat default).boot), .int .i64 ((o.1.getD (x_6).toNat default).stream), .int .i64 ((o.1.getD (x_6).toNat default).seq), .int .i64 ((o.1.getD (x_6).toNat default).ackBoot), .int .i64 ((o.1.getD (x_6).toNat default).ackStream), .int .i64 ((o.1.getD (x_6).toNat default).ackSeq), .bool ((o.1.getD (x_6).toNat default).has), .string ((o.1.getD (x_6).toNat default).body)]) rfl rfl (by decide) rfl (Ob_loads tHb2 rfl rfl rfl ((H.bx 0 rfl).part 0 rfl)) ?_; clear Z a; intro a Z
       refine h_call Z H (js := []) rfl (caps := #[]) fn_18_YHb2 rfl rfl rfl rfl rfl (by decide) rfl rfl (fun D1 hS => have hq := c_link_Put hx5 hS; hq) ?_; clear Z a; intro vv a w16 D2 hr hF2 Z
       obtain ⟨rfl, I10, K⟩ := hr
       have H : Hf I D w I10 w16 [BxC b4 58 [.int .i64 ((o.1.getD (x_6).toNat default).boot), .int .i64 ((o.1.getD (x_6).toNat default).stream), .int .i64 ((o.1.getD (x_6).toNat default).seq), .int .i64 ((o.1.getD (x_6).toNat default).ackBoot), .int .i64 ((o.1.getD (x_6).toNat default).ackStream), .int .i64 ((o.1.getD (x_6).toNat default).ackSeq), .bool ((o.1.getD (x_6).toNat default).has), .string ((o.1.getD (x_6).toNat default).body)], BxC b_h 48 [.pointer (some ⟨b1, 0, none⟩), v7, v8, v9, .bool h.made], OElink_Link b1 o.2, SlC NESeg q2 o.1, PtC OElink_Link v7 x_1, PtC OElink_Link v8 x_2, PtC OElink_Link v9 x_3, OwC NEOut 38 v13 out_4] := hF2 K
       clear hF2 K
       refine s_runk tHb2 Z 5 rfl rfl ?_; clear Z a; intro a Z
       refine s_end Z [1, 5, 6, 17, 18, 24, 25, 26, 10, 11] rfl ?_; clear Z; intro Z
       refine p_then (wp_seq (f_region Z ?_)); clear Z; intro Z
       refine s_runk tHb2 Z 2 rfl rfl ?_; clear Z a; intro a Z
       refine s_end Z [1, 5, 6, 17, 18, 24, 25, 26, 10, 36] rfl ?_; clear Z; intro Z
       refine p_then ?_
       refine f_cond Z rfl (fun hc6 => ?_) (fun hc6 => ?_)
       ·replace hF := ite_t hc6 hF
        obtain ⟨hg7, hF⟩ := chk_in hF
        refine f_region Z ?_; clear Z; intro Z
        refine s_runk tHb2 Z 3 rfl rfl ?_; clear Z a; intro a Z
        refine s_ob Z (v := .agg #[.int .i64 x, .string p_2.1]) rfl rfl (by decide) rfl (Ob_build (vs := [(0, .int .i64 x), (1, .string p_2.1)]) rfl rfl (by go_simp <;> rfl)) ?_; clear Z a; intro a Z
        refine h_bslice Z H (vs := [(0, .agg #[.int .i64 x, .string p_2.1])]) (cl := [.int .i64 x, .string p_2.1]) (e := 38) rfl rfl rfl (by decide) rfl rfl (fun w => run_bslice (z := .agg #[.int .i64 0, .string ByteArray.empty]) (m := 2) Try.underlying34 (by kernel_rfl) rfl rfl (by decide) (by simp [Instr.fill, Value.cells]) w) ?_; clear Z a H; intro a w17 b5 H Z
        refine h_appO Z H 8 E_34_YHb2 [({ to_ := x, body := p_2.1 } : EOut)] rfl rfl rfl rfl rfl (by decide) rfl rfl rfl (slRep2.box1 (H.bx 0 rfl) ⟨rfl, trivial⟩) hg7 (by decide) ?_; clear Z a H; intro v15 a w18 H Z
        dsimp only [List.eraseIdx] at H
        replace H : Hf I D w I10 w18 [OwC NEOut 38 v15 (out_4 ++ [({ to_ := x, body := p_2.1 } : EOut)]), BxC b4 58 [.int .i64 ((o.1.getD (x_6).toNat default).boot), .int .i64 ((o.1.getD (x_6).toNat default).stream), .int .i64 ((o.1.getD (x_6).toNat default).seq), .int .i64 ((o.1.getD (x_6).toNat default).ackBoot), .int .i64 ((o.1.getD (x_6).toNat default).ackStream), .int .i64 ((o.1.getD (x_6).toNat default).ackSeq), .bool ((o.1.getD (x_6).toNat default).has), .string ((o.1.getD (x_6).toNat default).body)], BxC b_h 48 [.pointer (some ⟨b1, 0, none⟩), v7, v8, v9, .bool h.made], OElink_Link b1 o.2, SlC NESeg q2 o.1, PtC OElink_Link v7 x_1, PtC OElink_Link v8 x_2, PtC OElink_Link v9 x_3] := H.sub [(0, false), (1, false), (1, false), (1, false), (1, true), (2, false), (2, false), (2, false)] rfl
        refine s_runk tHb2 Z 1 rfl rfl ?_; clear Z a; intro a Z
        refine s_end Z [1, 5, 6, 17, 18, 24, 25, 26] rfl ?_; clear Z; intro Z
        refine p_blk ?_
        refine p_then ?_
        exact ⟨out_4 ++ [({ to_ := x, body := p_2.1 } : EOut)], v15, Z.sub (ts := [1, 5, 6, 17, 18, 24, 25, 26]) rfl, ⟨I10, (H.sub [(2, false), (2, false), (2, true), (3, false), (3, false), (3, false), (0, false)] rfl).eq rfl⟩, hF⟩
       ·replace hF := ite_f hc6 hF
        refine wp_skip ?_
        refine p_blk ?_
        refine p_then ?_
        exact ⟨out_4, v13, Z.sub (ts := [1, 5, 6, 17, 18, 24, 25, 26]) rfl, ⟨I10, (H.sub [(1, false), (1, false), (1, true), (2, false), (2, false), (2, false), (2, false)] rfl).eq rfl⟩, hF⟩
     ·replace hF := ite_f hc5 hF
      refine wp_exit ?_
      refine p_then_x ?_
      refine p_then_x ?_
      refine f_exit_here ?_
      refine p_blk ?_
      refine p_then ?_
      obtain ⟨hg8, hF⟩ := chk_in hF
      refine f_region Z ?_; clear Z; intro Z
      refine s_ob Z (v := .int .i64 (x + 1)) rfl rfl (by decide) rfl (Ob_add rfl rfl rfl (wrI hg8)) ?_; clear Z a; intro a Z
      refine s_runk tHb2 Z 1 rfl rfl ?_; clear Z a; intro a Z
      refine s_end Z [1, 5, 17, 18] rfl ?_; clear Z; intro Z
      refine p_then ?_
      replace H : Hf I D w I8 w12 [PtC OElink_Link (.pointer (some ⟨b1, 0, none⟩)) (some o.2), BxC b_h 48 [.pointer (some ⟨b1, 0, none⟩), v7, v8, v9, .bool h.made], SlC NESeg q2 o.1, PtC OElink_Link v7 x_1, PtC OElink_Link v8 x_2, PtC OElink_Link v9 x_3, OwC NEOut 38 v13 out_4] := H.mkS (K := OElink_Link) 1 rfl
      exact ⟨(out_4, some o.2, x_1, x_2, x_3, x + 1), ⟨v13, .pointer (some ⟨b1, 0, none⟩), v7, v8, v9, Z.sub (ts := [1, 5, 17, 18]) rfl, ⟨I8, (H.sub [(1, false), (5, false), (0, false), (1, false), (1, false), (1, false)] rfl).eq rfl⟩⟩, hF⟩
   replace hF := ite_f hi1 hF
   refine bsplit (x == 1) (fun hi2 => ?_) (fun hi2 => ?_)
   ·replace hF := ite_t hi2 hF
    refine f_region Z ?_; clear Z; intro Z
    refine s_runk tHb2 Z 1 rfl rfl ?_; clear Z a; intro a Z
    refine s_ob Z (v := v7) rfl rfl (by decide) rfl (Ob_aixv tHb2 1 rfl rfl rfl Try.underlying46 rfl (eq_of_beq hi2) (by decide) rfl) ?_; clear Z a; intro a Z
    refine s_runk tHb2 Z 2 rfl rfl ?_; clear Z a; intro a Z
    refine s_end Z [1, 5, 17, 18, 6, 7] rfl ?_; clear Z; intro Z
    rcases optE_in hF with ⟨ho2, hF⟩ | ⟨x_7, ho2, hF⟩
    ·obtain ⟨hv, H⟩ := H.optN 3 rfl ho2
     subst hv
     replace H : Hf I D w I2 w2 [BxC b_h 48 [v6, .pointer none, v8, v9, .bool h.made], OwC NEOut 38 v5 out, PtC OElink_Link v6 x_0, PtC OElink_Link v8 x_2, PtC OElink_Link v9 x_3] := H
     refine p_then (wp_seq ?_)
     obtain ⟨n0_3, hx6, hF⟩ := bnd_in hF
     refine f_region Z ?_; clear Z; intro Z
     refine s_runk tHb2 Z 2 rfl rfl ?_; clear Z a; intro a Z
     refine h_call Z H (js := []) rfl (caps := #[]) fn_17_YHb2 rfl rfl rfl rfl rfl (by decide) rfl rfl (fun D1 hS => have hq := c_link_Link_Out_nil hx6 hS; hq) ?_; clear Z a; intro vv a w19 D2 hr hF2 Z
     obtain ⟨q3, hvv, I11, K⟩ := hr; obtain rfl := hvv.symm
     have H : Hf I D w I11 w19 [SlC NESeg q3 n0_3, BxC b_h 48 [v6, .pointer none, v8, v9, .bool h.made], OwC NEOut 38 v5 out, PtC OElink_Link v6 x_0, PtC OElink_Link v8 x_2, PtC OElink_Link v9 x_3] := hF2 K
     clear hF2 K
     refine s_ob Z (v := .int .i64 (n0_3.length : Int)) rfl rfl (by decide) rfl (Ob_slen tHb2 rfl rfl rfl (H.slshape 0 rfl)) ?_; clear Z a; intro a Z
     refine s_runk tHb2 Z 1 rfl rfl ?_; clear Z a; intro a Z
     refine s_end Z [1, 5, 17, 18, 6, 24, 25, 26] rfl ?_; clear Z; intro Z
     refine p_then (wp_block ?_)
     refine f_iter hF (fun sg a' w' => match sg with | (out_6, x_8) => ∃ v16 : Value, Sl 46 [(1, .bool again), (5, v16), (6, .int .i64 x), (17, .agg #[v6, .pointer none, v8, v9]), (18, .int .i64 x), (24, q3), (25, .int .i64 (n0_3.length : Int)), (26, .int .i64 x_8)] a' ∧ ∃ I2, Hf I D w I2 w' [BxC b_h 48 [v6, .pointer none, v8, v9, .bool h.made], SlC NESeg q3 n0_3, PtC OElink_Link v6 x_0, PtC OElink_Link v8 x_2, PtC OElink_Link v9 x_3, OwC NEOut 38 v16 out_6]) ⟨v5, Z.sub (ts := [1, 5, 6, 17, 18, 24, 25, 26]) rfl, ⟨I11, (H.sub [(1, false), (0, true), (2, false), (2, false), (2, false), (1, false)] rfl).eq rfl⟩⟩ ?_
     clear Z H hF a
     rintro rc_4 ⟨out_6, x_8⟩ a w20 ⟨v16, Z, I12, H⟩ hF
     unfold F_hub_Hub_Out_l6 at hF
     try dsimp only at hF
     refine wp_seq (f_region Z ?_); clear Z; intro Z
     refine s_runk tHb2 Z 1 rfl rfl ?_; clear Z a; intro a Z
     refine s_end Z [1, 5, 6, 17, 18, 24, 25, 26, 27] rfl ?_; clear Z; intro Z
     refine p_then (wp_seq ?_)
     refine f_cond Z rfl (fun hc7 => ?_) (fun hc7 => ?_)
     ·replace hF := ite_t hc7 hF
      refine wp_skip ?_
      refine p_then ?_
      refine f_cut (fun a' w' => ∃ (out_7 : List EOut), ∃ v17 : Value, Sl 46 [(1, .bool again), (5, v17), (6, .int .i64 x), (17, .agg #[v6, .pointer none, v8, v9]), (18, .int .i64 x), (24, q3), (25, .int .i64 (n0_3.length : Int)), (26, .int .i64 x_8)] a' ∧ (∃ I2, Hf I D w I2 w' [BxC b_h 48 [v6, .pointer none, v8, v9, .bool h.made], SlC NESeg q3 n0_3, PtC OElink_Link v6 x_0, PtC OElink_Link v8 x_2, PtC OElink_Link v9 x_3, OwC NEOut 38 v17 out_7]) ∧ F_hub_Hub_Out_k7 x_8 rc_4 out_7 = some rr) ?_ ?_
      ·rintro a w21 ⟨out_7, v17, Z, ⟨I13, H⟩, hF⟩
       unfold F_hub_Hub_Out_k7 at hF
       try dsimp only at hF
       obtain ⟨hg9, hF⟩ := chk_in hF
       refine f_region Z ?_; clear Z; intro Z
       refine s_ob Z (v := .int .i64 (x_8 + 1)) rfl rfl (by decide) rfl (Ob_add rfl rfl rfl (wrI hg9)) ?_; clear Z a; intro a Z
       refine s_runk tHb2 Z 1 rfl rfl ?_; clear Z a; intro a Z
       refine s_end Z [1, 5, 6, 17, 18, 24, 25, 26] rfl ?_; clear Z; intro Z
       refine p_then ?_
       exact ⟨(out_7, x_8 + 1), ⟨v17, Z.sub (ts := [1, 5, 6, 17, 18, 24, 25, 26]) rfl, ⟨I13, (H.sub [(0, false), (0, true), (1, false), (1, false), (1, false), (1, false)] rfl).eq rfl⟩⟩, hF⟩
      ·skip
       refine wp_block ?_
       refine wp_seq ?_
       obtain ⟨hg10, hF⟩ := chk_in hF
       refine f_region Z ?_; clear Z; intro Z
       refine s_ob Z (v := .pointer (some ⟨blkOf q3, oofOf q3 + (x_8).toNat * 8, none⟩)) rfl rfl (by decide) rfl (Ob_sidx tHb2 rfl rfl rfl rfl (slPl (H.sl 1 rfl) hg10) hg10) ?_; clear Z a; intro a Z
       refine s_ob Z (v := .agg #[.int .i64 ((n0_3.getD (x_8).toNat default).boot), .int .i64 ((n0_3.getD (x_8).toNat default).stream), .int .i64 ((n0_3.getD (x_8).toNat default).seq), .int .i64 ((n0_3.getD (x_8).toNat default).ackBoot), .int .i64 ((n0_3.getD (x_8).toNat default).ackStream), .int .i64 ((n0_3.getD (x_8).toNat default).ackSeq), .bool ((n0_3.getD (x_8).toNat default).has), .string ((n0_3.getD (x_8).toNat default).body)]) rfl rfl (by decide) rfl (Ob_loads tHb2 rfl rfl rfl ((slFl (H.sl 1 rfl) hg10).part 0 rfl)) ?_; clear Z a; intro a Z
       refine h_alloc Z H (cl := [.int .i64 0, .int .i64 0, .int .i64 0, .int .i64 0, .int .i64 0, .int .i64 0, .bool false, .string ByteArray.empty]) (z := .agg #[.int .i64 0, .int .i64 0, .int .i64 0, .int .i64 0, .int .i64 0, .int .i64 0, .bool false, .string ByteArray.empty]) rfl rfl rfl (by decide) rfl (by kernel_rfl) rfl ?_; clear Z a H; intro a w22 b7 H Z
       refine h_store tHb2 Z H 0 rfl rfl rfl rfl rfl rfl rfl rfl rfl (one_cons rfl (one_cons rfl (one_cons rfl (one_cons rfl (one_cons rfl (one_cons rfl (one_cons rfl (one_cons rfl one_nil)))))))) (Nat.le_of_ble_eq_true rfl) rfl ?_; clear H; intro w23 H
       dsimp only [List.eraseIdx] at H
       refine s_end Z [1, 5, 6, 17, 18, 24, 25, 26, 9] rfl ?_; clear Z; intro Z
       refine p_then (wp_seq ?_)
       obtain ⟨p_3, hx7, hF⟩ := bnd_in hF
       refine f_region Z ?_; clear Z; intro Z
       refine s_ob Z (v := .agg #[.int .i64 ((n0_3.getD (x_8).toNat default).boot), .int .i64 ((n0_3.getD (x_8).toNat default).stream), .int .i64 ((n0_3.getD (x_8).toNat default).seq), .int .i64 ((n0_3.getD (x_8).toNat default).ackBoot), .int .i64 ((n0_3.getD (x_8).toNat default).ackStream), .int .i64 ((n0_3.getD (x_8).toNat default).ackSeq), .bool ((n0_3.getD (x_8).toNat default).has), .string ((n0_3.getD (x_8).toNat default).body)]) rfl rfl (by decide) rfl (Ob_loads tHb2 rfl rfl rfl ((H.bx 0 rfl).part 0 rfl)) ?_; clear Z a; intro a Z
       refine h_call Z H (js := []) rfl (caps := #[]) fn_18_YHb2 rfl rfl rfl rfl rfl (by decide) rfl rfl (fun D1 hS => have hq := c_link_Put hx7 hS; hq) ?_; clear Z a; intro vv a w24 D2 hr hF2 Z
       obtain ⟨rfl, I14, K⟩ := hr
       have H : Hf I D w I14 w24 [BxC b7 58 [.int .i64 ((n0_3.getD (x_8).toNat default).boot), .int .i64 ((n0_3.getD (x_8).toNat default).stream), .int .i64 ((n0_3.getD (x_8).toNat default).seq), .int .i64 ((n0_3.getD (x_8).toNat default).ackBoot), .int .i64 ((n0_3.getD (x_8).toNat default).ackStream), .int .i64 ((n0_3.getD (x_8).toNat default).ackSeq), .bool ((n0_3.getD (x_8).toNat default).has), .string ((n0_3.getD (x_8).toNat default).body)], BxC b_h 48 [v6, .pointer none, v8, v9, .bool h.made], SlC NESeg q3 n0_3, PtC OElink_Link v6 x_0, PtC OElink_Link v8 x_2, PtC OElink_Link v9 x_3, OwC NEOut 38 v16 out_6] := hF2 K
       clear hF2 K
       refine s_runk tHb2 Z 5 rfl rfl ?_; clear Z a; intro a Z
       refine s_end Z [1, 5, 6, 17, 18, 24, 25, 26, 10, 11] rfl ?_; clear Z; intro Z
       refine p_then (wp_seq (f_region Z ?_)); clear Z; intro Z
       refine s_runk tHb2 Z 2 rfl rfl ?_; clear Z a; intro a Z
       refine s_end Z [1, 5, 6, 17, 18, 24, 25, 26, 10, 36] rfl ?_; clear Z; intro Z
       refine p_then ?_
       refine f_cond Z rfl (fun hc8 => ?_) (fun hc8 => ?_)
       ·replace hF := ite_t hc8 hF
        obtain ⟨hg11, hF⟩ := chk_in hF
        refine f_region Z ?_; clear Z; intro Z
        refine s_runk tHb2 Z 3 rfl rfl ?_; clear Z a; intro a Z
        refine s_ob Z (v := .agg #[.int .i64 x, .string p_3.1]) rfl rfl (by decide) rfl (Ob_build (vs := [(0, .int .i64 x), (1, .string p_3.1)]) rfl rfl (by go_simp <;> rfl)) ?_; clear Z a; intro a Z
        refine h_bslice Z H (vs := [(0, .agg #[.int .i64 x, .string p_3.1])]) (cl := [.int .i64 x, .string p_3.1]) (e := 38) rfl rfl rfl (by decide) rfl rfl (fun w => run_bslice (z := .agg #[.int .i64 0, .string ByteArray.empty]) (m := 2) Try.underlying34 (by kernel_rfl) rfl rfl (by decide) (by simp [Instr.fill, Value.cells]) w) ?_; clear Z a H; intro a w25 b8 H Z
        refine h_appO Z H 7 E_34_YHb2 [({ to_ := x, body := p_3.1 } : EOut)] rfl rfl rfl rfl rfl (by decide) rfl rfl rfl (slRep2.box1 (H.bx 0 rfl) ⟨rfl, trivial⟩) hg11 (by decide) ?_; clear Z a H; intro v18 a w26 H Z
        dsimp only [List.eraseIdx] at H
        replace H : Hf I D w I14 w26 [OwC NEOut 38 v18 (out_6 ++ [({ to_ := x, body := p_3.1 } : EOut)]), BxC b7 58 [.int .i64 ((n0_3.getD (x_8).toNat default).boot), .int .i64 ((n0_3.getD (x_8).toNat default).stream), .int .i64 ((n0_3.getD (x_8).toNat default).seq), .int .i64 ((n0_3.getD (x_8).toNat default).ackBoot), .int .i64 ((n0_3.getD (x_8).toNat default).ackStream), .int .i64 ((n0_3.getD (x_8).toNat default).ackSeq), .bool ((n0_3.getD (x_8).toNat default).has), .string ((n0_3.getD (x_8).toNat default).body)], BxC b_h 48 [v6, .pointer none, v8, v9, .bool h.made], SlC NESeg q3 n0_3, PtC OElink_Link v6 x_0, PtC OElink_Link v8 x_2, PtC OElink_Link v9 x_3] := H.sub [(0, false), (1, false), (1, false), (1, true), (2, false), (2, false), (2, false)] rfl
        refine s_runk tHb2 Z 1 rfl rfl ?_; clear Z a; intro a Z
        refine s_end Z [1, 5, 6, 17, 18, 24, 25, 26] rfl ?_; clear Z; intro Z
        refine p_blk ?_
        refine p_then ?_
        exact ⟨out_6 ++ [({ to_ := x, body := p_3.1 } : EOut)], v18, Z.sub (ts := [1, 5, 6, 17, 18, 24, 25, 26]) rfl, ⟨I14, (H.sub [(2, false), (2, true), (3, false), (3, false), (3, false), (0, false)] rfl).eq rfl⟩, hF⟩
       ·replace hF := ite_f hc8 hF
        refine wp_skip ?_
        refine p_blk ?_
        refine p_then ?_
        exact ⟨out_6, v16, Z.sub (ts := [1, 5, 6, 17, 18, 24, 25, 26]) rfl, ⟨I14, (H.sub [(1, false), (1, true), (2, false), (2, false), (2, false), (2, false)] rfl).eq rfl⟩, hF⟩
     ·replace hF := ite_f hc7 hF
      refine wp_exit ?_
      refine p_then_x ?_
      refine p_then_x ?_
      refine f_exit_here ?_
      refine p_blk ?_
      refine p_then ?_
      obtain ⟨hg12, hF⟩ := chk_in hF
      refine f_region Z ?_; clear Z; intro Z
      refine s_ob Z (v := .int .i64 (x + 1)) rfl rfl (by decide) rfl (Ob_add rfl rfl rfl (wrI hg12)) ?_; clear Z a; intro a Z
      refine s_runk tHb2 Z 1 rfl rfl ?_; clear Z a; intro a Z
      refine s_end Z [1, 5, 17, 18] rfl ?_; clear Z; intro Z
      refine p_then ?_
      replace H : Hf I D w I12 w20 [PtC OElink_Link (.pointer none) none, BxC b_h 48 [v6, .pointer none, v8, v9, .bool h.made], SlC NESeg q3 n0_3, PtC OElink_Link v6 x_0, PtC OElink_Link v8 x_2, PtC OElink_Link v9 x_3, OwC NEOut 38 v16 out_6] := H.mkN OElink_Link
      exact ⟨(out_6, x_0, none, x_2, x_3, x + 1), ⟨v16, v6, .pointer none, v8, v9, Z.sub (ts := [1, 5, 17, 18]) rfl, ⟨I12, (H.sub [(1, false), (5, false), (2, false), (0, false), (1, false), (1, false)] rfl).eq rfl⟩⟩, hF⟩
    ·obtain ⟨b6, hv, H⟩ := H.optS 3 rfl ho2
     subst hv
     replace H : Hf I D w I2 w2 [OElink_Link b6 x_7, BxC b_h 48 [v6, .pointer (some ⟨b6, 0, none⟩), v8, v9, .bool h.made], OwC NEOut 38 v5 out, PtC OElink_Link v6 x_0, PtC OElink_Link v8 x_2, PtC OElink_Link v9 x_3] := H
     refine p_then (wp_seq ?_)
     obtain ⟨o_2, hx8, hF⟩ := bnd_in hF
     refine f_region Z ?_; clear Z; intro Z
     refine s_runk tHb2 Z 2 rfl rfl ?_; clear Z a; intro a Z
     refine h_call Z H (js := [(0, false)]) rfl (caps := #[]) fn_17_YHb2 rfl rfl rfl rfl rfl (by decide) rfl rfl (fun D1 hS => have hq := c_link_Link_Out hx8 hS; hq) ?_; clear Z a; intro vv a w27 D2 hr hF2 Z
     obtain ⟨q4, hvv, I15, K⟩ := hr; obtain rfl := hvv.symm
     have H : Hf I D w I15 w27 [OElink_Link b6 o_2.2, SlC NESeg q4 o_2.1, BxC b_h 48 [v6, .pointer (some ⟨b6, 0, none⟩), v8, v9, .bool h.made], OwC NEOut 38 v5 out, PtC OElink_Link v6 x_0, PtC OElink_Link v8 x_2, PtC OElink_Link v9 x_3] := hF2 K
     clear hF2 K
     refine s_ob Z (v := .int .i64 (o_2.1.length : Int)) rfl rfl (by decide) rfl (Ob_slen tHb2 rfl rfl rfl (H.slshape 1 rfl)) ?_; clear Z a; intro a Z
     refine s_runk tHb2 Z 1 rfl rfl ?_; clear Z a; intro a Z
     refine s_end Z [1, 5, 17, 18, 6, 24, 25, 26] rfl ?_; clear Z; intro Z
     refine p_then (wp_block ?_)
     refine f_iter hF (fun sg a' w' => match sg with | (out_8, x_9) => ∃ v19 : Value, Sl 46 [(1, .bool again), (5, v19), (6, .int .i64 x), (17, .agg #[v6, .pointer (some ⟨b6, 0, none⟩), v8, v9]), (18, .int .i64 x), (24, q4), (25, .int .i64 (o_2.1.length : Int)), (26, .int .i64 x_9)] a' ∧ ∃ I2, Hf I D w I2 w' [BxC b_h 48 [v6, .pointer (some ⟨b6, 0, none⟩), v8, v9, .bool h.made], OElink_Link b6 o_2.2, SlC NESeg q4 o_2.1, PtC OElink_Link v6 x_0, PtC OElink_Link v8 x_2, PtC OElink_Link v9 x_3, OwC NEOut 38 v19 out_8]) ⟨v5, Z.sub (ts := [1, 5, 6, 17, 18, 24, 25, 26]) rfl, ⟨I15, (H.sub [(2, false), (0, false), (0, true), (2, false), (2, false), (2, false), (1, false)] rfl).eq rfl⟩⟩ ?_
     clear Z H hF a
     rintro rc_5 ⟨out_8, x_9⟩ a w28 ⟨v19, Z, I16, H⟩ hF
     unfold F_hub_Hub_Out_l8 at hF
     try dsimp only at hF
     refine wp_seq (f_region Z ?_); clear Z; intro Z
     refine s_runk tHb2 Z 1 rfl rfl ?_; clear Z a; intro a Z
     refine s_end Z [1, 5, 6, 17, 18, 24, 25, 26, 27] rfl ?_; clear Z; intro Z
     refine p_then (wp_seq ?_)
     refine f_cond Z rfl (fun hc9 => ?_) (fun hc9 => ?_)
     ·replace hF := ite_t hc9 hF
      refine wp_skip ?_
      refine p_then ?_
      refine f_cut (fun a' w' => ∃ (out_9 : List EOut), ∃ v20 : Value, Sl 46 [(1, .bool again), (5, v20), (6, .int .i64 x), (17, .agg #[v6, .pointer (some ⟨b6, 0, none⟩), v8, v9]), (18, .int .i64 x), (24, q4), (25, .int .i64 (o_2.1.length : Int)), (26, .int .i64 x_9)] a' ∧ (∃ I2, Hf I D w I2 w' [BxC b_h 48 [v6, .pointer (some ⟨b6, 0, none⟩), v8, v9, .bool h.made], OElink_Link b6 o_2.2, SlC NESeg q4 o_2.1, PtC OElink_Link v6 x_0, PtC OElink_Link v8 x_2, PtC OElink_Link v9 x_3, OwC NEOut 38 v20 out_9]) ∧ F_hub_Hub_Out_k9 x_9 rc_5 out_9 = some rr) ?_ ?_
      ·rintro a w29 ⟨out_9, v20, Z, ⟨I17, H⟩, hF⟩
       unfold F_hub_Hub_Out_k9 at hF
       try dsimp only at hF
       obtain ⟨hg13, hF⟩ := chk_in hF
       refine f_region Z ?_; clear Z; intro Z
       refine s_ob Z (v := .int .i64 (x_9 + 1)) rfl rfl (by decide) rfl (Ob_add rfl rfl rfl (wrI hg13)) ?_; clear Z a; intro a Z
       refine s_runk tHb2 Z 1 rfl rfl ?_; clear Z a; intro a Z
       refine s_end Z [1, 5, 6, 17, 18, 24, 25, 26] rfl ?_; clear Z; intro Z
       refine p_then ?_
       exact ⟨(out_9, x_9 + 1), ⟨v20, Z.sub (ts := [1, 5, 6, 17, 18, 24, 25, 26]) rfl, ⟨I17, (H.sub [(0, false), (0, false), (0, true), (1, false), (1, false), (1, false), (1, false)] rfl).eq rfl⟩⟩, hF⟩
      ·skip
       refine wp_block ?_
       refine wp_seq ?_
       obtain ⟨hg14, hF⟩ := chk_in hF
       refine f_region Z ?_; clear Z; intro Z
       refine s_ob Z (v := .pointer (some ⟨blkOf q4, oofOf q4 + (x_9).toNat * 8, none⟩)) rfl rfl (by decide) rfl (Ob_sidx tHb2 rfl rfl rfl rfl (slPl (H.sl 2 rfl) hg14) hg14) ?_; clear Z a; intro a Z
       refine s_ob Z (v := .agg #[.int .i64 ((o_2.1.getD (x_9).toNat default).boot), .int .i64 ((o_2.1.getD (x_9).toNat default).stream), .int .i64 ((o_2.1.getD (x_9).toNat default).seq), .int .i64 ((o_2.1.getD (x_9).toNat default).ackBoot), .int .i64 ((o_2.1.getD (x_9).toNat default).ackStream), .int .i64 ((o_2.1.getD (x_9).toNat default).ackSeq), .bool ((o_2.1.getD (x_9).toNat default).has), .string ((o_2.1.getD (x_9).toNat default).body)]) rfl rfl (by decide) rfl (Ob_loads tHb2 rfl rfl rfl ((slFl (H.sl 2 rfl) hg14).part 0 rfl)) ?_; clear Z a; intro a Z
       refine h_alloc Z H (cl := [.int .i64 0, .int .i64 0, .int .i64 0, .int .i64 0, .int .i64 0, .int .i64 0, .bool false, .string ByteArray.empty]) (z := .agg #[.int .i64 0, .int .i64 0, .int .i64 0, .int .i64 0, .int .i64 0, .int .i64 0, .bool false, .string ByteArray.empty]) rfl rfl rfl (by decide) rfl (by kernel_rfl) rfl ?_; clear Z a H; intro a w30 b9 H Z
       refine h_store tHb2 Z H 0 rfl rfl rfl rfl rfl rfl rfl rfl rfl (one_cons rfl (one_cons rfl (one_cons rfl (one_cons rfl (one_cons rfl (one_cons rfl (one_cons rfl (one_cons rfl one_nil)))))))) (Nat.le_of_ble_eq_true rfl) rfl ?_; clear H; intro w31 H
       dsimp only [List.eraseIdx] at H
       refine s_end Z [1, 5, 6, 17, 18, 24, 25, 26, 9] rfl ?_; clear Z; intro Z
       refine p_then (wp_seq ?_)
       obtain ⟨p_4, hx9, hF⟩ := bnd_in hF
       refine f_region Z ?_; clear Z; intro Z
       refine s_ob Z (v := .agg #[.int .i64 ((o_2.1.getD (x_9).toNat default).boot), .int .i64 ((o_2.1.getD (x_9).toNat default).stream), .int .i64 ((o_2.1.getD (x_9).toNat default).seq), .int .i64 ((o_2.1.getD (x_9).toNat default).ackBoot), .int .i64 ((o_2.1.getD (x_9).toNat default).ackStream), .int .i64 ((o_2.1.getD (x_9).toNat default).ackSeq), .bool ((o_2.1.getD (x_9).toNat default).has), .string ((o_2.1.getD (x_9).toNat default).body)]) rfl rfl (by decide) rfl (Ob_loads tHb2 rfl rfl rfl ((H.bx 0 rfl).part 0 rfl)) ?_; clear Z a; intro a Z
       refine h_call Z H (js := []) rfl (caps := #[]) fn_18_YHb2 rfl rfl rfl rfl rfl (by decide) rfl rfl (fun D1 hS => have hq := c_link_Put hx9 hS; hq) ?_; clear Z a; intro vv a w32 D2 hr hF2 Z
       obtain ⟨rfl, I18, K⟩ := hr
       have H : Hf I D w I18 w32 [BxC b9 58 [.int .i64 ((o_2.1.getD (x_9).toNat default).boot), .int .i64 ((o_2.1.getD (x_9).toNat default).stream), .int .i64 ((o_2.1.getD (x_9).toNat default).seq), .int .i64 ((o_2.1.getD (x_9).toNat default).ackBoot), .int .i64 ((o_2.1.getD (x_9).toNat default).ackStream), .int .i64 ((o_2.1.getD (x_9).toNat default).ackSeq), .bool ((o_2.1.getD (x_9).toNat default).has), .string ((o_2.1.getD (x_9).toNat default).body)], BxC b_h 48 [v6, .pointer (some ⟨b6, 0, none⟩), v8, v9, .bool h.made], OElink_Link b6 o_2.2, SlC NESeg q4 o_2.1, PtC OElink_Link v6 x_0, PtC OElink_Link v8 x_2, PtC OElink_Link v9 x_3, OwC NEOut 38 v19 out_8] := hF2 K
       clear hF2 K
       refine s_runk tHb2 Z 5 rfl rfl ?_; clear Z a; intro a Z
       refine s_end Z [1, 5, 6, 17, 18, 24, 25, 26, 10, 11] rfl ?_; clear Z; intro Z
       refine p_then (wp_seq (f_region Z ?_)); clear Z; intro Z
       refine s_runk tHb2 Z 2 rfl rfl ?_; clear Z a; intro a Z
       refine s_end Z [1, 5, 6, 17, 18, 24, 25, 26, 10, 36] rfl ?_; clear Z; intro Z
       refine p_then ?_
       refine f_cond Z rfl (fun hc10 => ?_) (fun hc10 => ?_)
       ·replace hF := ite_t hc10 hF
        obtain ⟨hg15, hF⟩ := chk_in hF
        refine f_region Z ?_; clear Z; intro Z
        refine s_runk tHb2 Z 3 rfl rfl ?_; clear Z a; intro a Z
        refine s_ob Z (v := .agg #[.int .i64 x, .string p_4.1]) rfl rfl (by decide) rfl (Ob_build (vs := [(0, .int .i64 x), (1, .string p_4.1)]) rfl rfl (by go_simp <;> rfl)) ?_; clear Z a; intro a Z
        refine h_bslice Z H (vs := [(0, .agg #[.int .i64 x, .string p_4.1])]) (cl := [.int .i64 x, .string p_4.1]) (e := 38) rfl rfl rfl (by decide) rfl rfl (fun w => run_bslice (z := .agg #[.int .i64 0, .string ByteArray.empty]) (m := 2) Try.underlying34 (by kernel_rfl) rfl rfl (by decide) (by simp [Instr.fill, Value.cells]) w) ?_; clear Z a H; intro a w33 b10 H Z
        refine h_appO Z H 8 E_34_YHb2 [({ to_ := x, body := p_4.1 } : EOut)] rfl rfl rfl rfl rfl (by decide) rfl rfl rfl (slRep2.box1 (H.bx 0 rfl) ⟨rfl, trivial⟩) hg15 (by decide) ?_; clear Z a H; intro v21 a w34 H Z
        dsimp only [List.eraseIdx] at H
        replace H : Hf I D w I18 w34 [OwC NEOut 38 v21 (out_8 ++ [({ to_ := x, body := p_4.1 } : EOut)]), BxC b9 58 [.int .i64 ((o_2.1.getD (x_9).toNat default).boot), .int .i64 ((o_2.1.getD (x_9).toNat default).stream), .int .i64 ((o_2.1.getD (x_9).toNat default).seq), .int .i64 ((o_2.1.getD (x_9).toNat default).ackBoot), .int .i64 ((o_2.1.getD (x_9).toNat default).ackStream), .int .i64 ((o_2.1.getD (x_9).toNat default).ackSeq), .bool ((o_2.1.getD (x_9).toNat default).has), .string ((o_2.1.getD (x_9).toNat default).body)], BxC b_h 48 [v6, .pointer (some ⟨b6, 0, none⟩), v8, v9, .bool h.made], OElink_Link b6 o_2.2, SlC NESeg q4 o_2.1, PtC OElink_Link v6 x_0, PtC OElink_Link v8 x_2, PtC OElink_Link v9 x_3] := H.sub [(0, false), (1, false), (1, false), (1, false), (1, true), (2, false), (2, false), (2, false)] rfl
        refine s_runk tHb2 Z 1 rfl rfl ?_; clear Z a; intro a Z
        refine s_end Z [1, 5, 6, 17, 18, 24, 25, 26] rfl ?_; clear Z; intro Z
        refine p_blk ?_
        refine p_then ?_
        exact ⟨out_8 ++ [({ to_ := x, body := p_4.1 } : EOut)], v21, Z.sub (ts := [1, 5, 6, 17, 18, 24, 25, 26]) rfl, ⟨I18, (H.sub [(2, false), (2, false), (2, true), (3, false), (3, false), (3, false), (0, false)] rfl).eq rfl⟩, hF⟩
       ·replace hF := ite_f hc10 hF
        refine wp_skip ?_
        refine p_blk ?_
        refine p_then ?_
        exact ⟨out_8, v19, Z.sub (ts := [1, 5, 6, 17, 18, 24, 25, 26]) rfl, ⟨I18, (H.sub [(1, false), (1, false), (1, true), (2, false), (2, false), (2, false), (2, false)] rfl).eq rfl⟩, hF⟩
     ·replace hF := ite_f hc9 hF
      refine wp_exit ?_
      refine p_then_x ?_
      refine p_then_x ?_
      refine f_exit_here ?_
      refine p_blk ?_
      refine p_then ?_
      obtain ⟨hg16, hF⟩ := chk_in hF
      refine f_region Z ?_; clear Z; intro Z
      refine s_ob Z (v := .int .i64 (x + 1)) rfl rfl (by decide) rfl (Ob_add rfl rfl rfl (wrI hg16)) ?_; clear Z a; intro a Z
      refine s_runk tHb2 Z 1 rfl rfl ?_; clear Z a; intro a Z
      refine s_end Z [1, 5, 17, 18] rfl ?_; clear Z; intro Z
      refine p_then ?_
      replace H : Hf I D w I16 w28 [PtC OElink_Link (.pointer (some ⟨b6, 0, none⟩)) (some o_2.2), BxC b_h 48 [v6, .pointer (some ⟨b6, 0, none⟩), v8, v9, .bool h.made], SlC NESeg q4 o_2.1, PtC OElink_Link v6 x_0, PtC OElink_Link v8 x_2, PtC OElink_Link v9 x_3, OwC NEOut 38 v19 out_8] := H.mkS (K := OElink_Link) 1 rfl
      exact ⟨(out_8, x_0, some o_2.2, x_2, x_3, x + 1), ⟨v19, v6, .pointer (some ⟨b6, 0, none⟩), v8, v9, Z.sub (ts := [1, 5, 17, 18]) rfl, ⟨I16, (H.sub [(1, false), (5, false), (2, false), (0, false), (1, false), (1, false)] rfl).eq rfl⟩⟩, hF⟩
   replace hF := ite_f hi2 hF
   refine bsplit (x == 2) (fun hi3 => ?_) (fun hi3 => ?_)
   ·replace hF := ite_t hi3 hF
    refine f_region Z ?_; clear Z; intro Z
    refine s_runk tHb2 Z 1 rfl rfl ?_; clear Z a; intro a Z
    refine s_ob Z (v := v8) rfl rfl (by decide) rfl (Ob_aixv tHb2 2 rfl rfl rfl Try.underlying46 rfl (eq_of_beq hi3) (by decide) rfl) ?_; clear Z a; intro a Z
    refine s_runk tHb2 Z 2 rfl rfl ?_; clear Z a; intro a Z
    refine s_end Z [1, 5, 17, 18, 6, 7] rfl ?_; clear Z; intro Z
    rcases optE_in hF with ⟨ho3, hF⟩ | ⟨x_10, ho3, hF⟩
    ·obtain ⟨hv, H⟩ := H.optN 4 rfl ho3
     subst hv
     replace H : Hf I D w I2 w2 [BxC b_h 48 [v6, v7, .pointer none, v9, .bool h.made], OwC NEOut 38 v5 out, PtC OElink_Link v6 x_0, PtC OElink_Link v7 x_1, PtC OElink_Link v9 x_3] := H
     refine p_then (wp_seq ?_)
     obtain ⟨n0_4, hx10, hF⟩ := bnd_in hF
     refine f_region Z ?_; clear Z; intro Z
     refine s_runk tHb2 Z 2 rfl rfl ?_; clear Z a; intro a Z
     refine h_call Z H (js := []) rfl (caps := #[]) fn_17_YHb2 rfl rfl rfl rfl rfl (by decide) rfl rfl (fun D1 hS => have hq := c_link_Link_Out_nil hx10 hS; hq) ?_; clear Z a; intro vv a w35 D2 hr hF2 Z
     obtain ⟨q5, hvv, I19, K⟩ := hr; obtain rfl := hvv.symm
     have H : Hf I D w I19 w35 [SlC NESeg q5 n0_4, BxC b_h 48 [v6, v7, .pointer none, v9, .bool h.made], OwC NEOut 38 v5 out, PtC OElink_Link v6 x_0, PtC OElink_Link v7 x_1, PtC OElink_Link v9 x_3] := hF2 K
     clear hF2 K
     refine s_ob Z (v := .int .i64 (n0_4.length : Int)) rfl rfl (by decide) rfl (Ob_slen tHb2 rfl rfl rfl (H.slshape 0 rfl)) ?_; clear Z a; intro a Z
     refine s_runk tHb2 Z 1 rfl rfl ?_; clear Z a; intro a Z
     refine s_end Z [1, 5, 17, 18, 6, 24, 25, 26] rfl ?_; clear Z; intro Z
     refine p_then (wp_block ?_)
     refine f_iter hF (fun sg a' w' => match sg with | (out_10, x_11) => ∃ v22 : Value, Sl 46 [(1, .bool again), (5, v22), (6, .int .i64 x), (17, .agg #[v6, v7, .pointer none, v9]), (18, .int .i64 x), (24, q5), (25, .int .i64 (n0_4.length : Int)), (26, .int .i64 x_11)] a' ∧ ∃ I2, Hf I D w I2 w' [BxC b_h 48 [v6, v7, .pointer none, v9, .bool h.made], SlC NESeg q5 n0_4, PtC OElink_Link v6 x_0, PtC OElink_Link v7 x_1, PtC OElink_Link v9 x_3, OwC NEOut 38 v22 out_10]) ⟨v5, Z.sub (ts := [1, 5, 6, 17, 18, 24, 25, 26]) rfl, ⟨I19, (H.sub [(1, false), (0, true), (2, false), (2, false), (2, false), (1, false)] rfl).eq rfl⟩⟩ ?_
     clear Z H hF a
     rintro rc_6 ⟨out_10, x_11⟩ a w36 ⟨v22, Z, I20, H⟩ hF
     unfold F_hub_Hub_Out_l10 at hF
     try dsimp only at hF
     refine wp_seq (f_region Z ?_); clear Z; intro Z
     refine s_runk tHb2 Z 1 rfl rfl ?_; clear Z a; intro a Z
     refine s_end Z [1, 5, 6, 17, 18, 24, 25, 26, 27] rfl ?_; clear Z; intro Z
     refine p_then (wp_seq ?_)
     refine f_cond Z rfl (fun hc11 => ?_) (fun hc11 => ?_)
     ·replace hF := ite_t hc11 hF
      refine wp_skip ?_
      refine p_then ?_
      refine f_cut (fun a' w' => ∃ (out_11 : List EOut), ∃ v23 : Value, Sl 46 [(1, .bool again), (5, v23), (6, .int .i64 x), (17, .agg #[v6, v7, .pointer none, v9]), (18, .int .i64 x), (24, q5), (25, .int .i64 (n0_4.length : Int)), (26, .int .i64 x_11)] a' ∧ (∃ I2, Hf I D w I2 w' [BxC b_h 48 [v6, v7, .pointer none, v9, .bool h.made], SlC NESeg q5 n0_4, PtC OElink_Link v6 x_0, PtC OElink_Link v7 x_1, PtC OElink_Link v9 x_3, OwC NEOut 38 v23 out_11]) ∧ F_hub_Hub_Out_k11 x_11 rc_6 out_11 = some rr) ?_ ?_
      ·rintro a w37 ⟨out_11, v23, Z, ⟨I21, H⟩, hF⟩
       unfold F_hub_Hub_Out_k11 at hF
       try dsimp only at hF
       obtain ⟨hg17, hF⟩ := chk_in hF
       refine f_region Z ?_; clear Z; intro Z
       refine s_ob Z (v := .int .i64 (x_11 + 1)) rfl rfl (by decide) rfl (Ob_add rfl rfl rfl (wrI hg17)) ?_; clear Z a; intro a Z
       refine s_runk tHb2 Z 1 rfl rfl ?_; clear Z a; intro a Z
       refine s_end Z [1, 5, 6, 17, 18, 24, 25, 26] rfl ?_; clear Z; intro Z
       refine p_then ?_
       exact ⟨(out_11, x_11 + 1), ⟨v23, Z.sub (ts := [1, 5, 6, 17, 18, 24, 25, 26]) rfl, ⟨I21, (H.sub [(0, false), (0, true), (1, false), (1, false), (1, false), (1, false)] rfl).eq rfl⟩⟩, hF⟩
      ·skip
       refine wp_block ?_
       refine wp_seq ?_
       obtain ⟨hg18, hF⟩ := chk_in hF
       refine f_region Z ?_; clear Z; intro Z
       refine s_ob Z (v := .pointer (some ⟨blkOf q5, oofOf q5 + (x_11).toNat * 8, none⟩)) rfl rfl (by decide) rfl (Ob_sidx tHb2 rfl rfl rfl rfl (slPl (H.sl 1 rfl) hg18) hg18) ?_; clear Z a; intro a Z
       refine s_ob Z (v := .agg #[.int .i64 ((n0_4.getD (x_11).toNat default).boot), .int .i64 ((n0_4.getD (x_11).toNat default).stream), .int .i64 ((n0_4.getD (x_11).toNat default).seq), .int .i64 ((n0_4.getD (x_11).toNat default).ackBoot), .int .i64 ((n0_4.getD (x_11).toNat default).ackStream), .int .i64 ((n0_4.getD (x_11).toNat default).ackSeq), .bool ((n0_4.getD (x_11).toNat default).has), .string ((n0_4.getD (x_11).toNat default).body)]) rfl rfl (by decide) rfl (Ob_loads tHb2 rfl rfl rfl ((slFl (H.sl 1 rfl) hg18).part 0 rfl)) ?_; clear Z a; intro a Z
       refine h_alloc Z H (cl := [.int .i64 0, .int .i64 0, .int .i64 0, .int .i64 0, .int .i64 0, .int .i64 0, .bool false, .string ByteArray.empty]) (z := .agg #[.int .i64 0, .int .i64 0, .int .i64 0, .int .i64 0, .int .i64 0, .int .i64 0, .bool false, .string ByteArray.empty]) rfl rfl rfl (by decide) rfl (by kernel_rfl) rfl ?_; clear Z a H; intro a w38 b12 H Z
       refine h_store tHb2 Z H 0 rfl rfl rfl rfl rfl rfl rfl rfl rfl (one_cons rfl (one_cons rfl (one_cons rfl (one_cons rfl (one_cons rfl (one_cons rfl (one_cons rfl (one_cons rfl one_nil)))))))) (Nat.le_of_ble_eq_true rfl) rfl ?_; clear H; intro w39 H
       dsimp only [List.eraseIdx] at H
       refine s_end Z [1, 5, 6, 17, 18, 24, 25, 26, 9] rfl ?_; clear Z; intro Z
       refine p_then (wp_seq ?_)
       obtain ⟨p_5, hx11, hF⟩ := bnd_in hF
       refine f_region Z ?_; clear Z; intro Z
       refine s_ob Z (v := .agg #[.int .i64 ((n0_4.getD (x_11).toNat default).boot), .int .i64 ((n0_4.getD (x_11).toNat default).stream), .int .i64 ((n0_4.getD (x_11).toNat default).seq), .int .i64 ((n0_4.getD (x_11).toNat default).ackBoot), .int .i64 ((n0_4.getD (x_11).toNat default).ackStream), .int .i64 ((n0_4.getD (x_11).toNat default).ackSeq), .bool ((n0_4.getD (x_11).toNat default).has), .string ((n0_4.getD (x_11).toNat default).body)]) rfl rfl (by decide) rfl (Ob_loads tHb2 rfl rfl rfl ((H.bx 0 rfl).part 0 rfl)) ?_; clear Z a; intro a Z
       refine h_call Z H (js := []) rfl (caps := #[]) fn_18_YHb2 rfl rfl rfl rfl rfl (by decide) rfl rfl (fun D1 hS => have hq := c_link_Put hx11 hS; hq) ?_; clear Z a; intro vv a w40 D2 hr hF2 Z
       obtain ⟨rfl, I22, K⟩ := hr
       have H : Hf I D w I22 w40 [BxC b12 58 [.int .i64 ((n0_4.getD (x_11).toNat default).boot), .int .i64 ((n0_4.getD (x_11).toNat default).stream), .int .i64 ((n0_4.getD (x_11).toNat default).seq), .int .i64 ((n0_4.getD (x_11).toNat default).ackBoot), .int .i64 ((n0_4.getD (x_11).toNat default).ackStream), .int .i64 ((n0_4.getD (x_11).toNat default).ackSeq), .bool ((n0_4.getD (x_11).toNat default).has), .string ((n0_4.getD (x_11).toNat default).body)], BxC b_h 48 [v6, v7, .pointer none, v9, .bool h.made], SlC NESeg q5 n0_4, PtC OElink_Link v6 x_0, PtC OElink_Link v7 x_1, PtC OElink_Link v9 x_3, OwC NEOut 38 v22 out_10] := hF2 K
       clear hF2 K
       refine s_runk tHb2 Z 5 rfl rfl ?_; clear Z a; intro a Z
       refine s_end Z [1, 5, 6, 17, 18, 24, 25, 26, 10, 11] rfl ?_; clear Z; intro Z
       refine p_then (wp_seq (f_region Z ?_)); clear Z; intro Z
       refine s_runk tHb2 Z 2 rfl rfl ?_; clear Z a; intro a Z
       refine s_end Z [1, 5, 6, 17, 18, 24, 25, 26, 10, 36] rfl ?_; clear Z; intro Z
       refine p_then ?_
       refine f_cond Z rfl (fun hc12 => ?_) (fun hc12 => ?_)
       ·replace hF := ite_t hc12 hF
        obtain ⟨hg19, hF⟩ := chk_in hF
        refine f_region Z ?_; clear Z; intro Z
        refine s_runk tHb2 Z 3 rfl rfl ?_; clear Z a; intro a Z
        refine s_ob Z (v := .agg #[.int .i64 x, .string p_5.1]) rfl rfl (by decide) rfl (Ob_build (vs := [(0, .int .i64 x), (1, .string p_5.1)]) rfl rfl (by go_simp <;> rfl)) ?_; clear Z a; intro a Z
        refine h_bslice Z H (vs := [(0, .agg #[.int .i64 x, .string p_5.1])]) (cl := [.int .i64 x, .string p_5.1]) (e := 38) rfl rfl rfl (by decide) rfl rfl (fun w => run_bslice (z := .agg #[.int .i64 0, .string ByteArray.empty]) (m := 2) Try.underlying34 (by kernel_rfl) rfl rfl (by decide) (by simp [Instr.fill, Value.cells]) w) ?_; clear Z a H; intro a w41 b13 H Z
        refine h_appO Z H 7 E_34_YHb2 [({ to_ := x, body := p_5.1 } : EOut)] rfl rfl rfl rfl rfl (by decide) rfl rfl rfl (slRep2.box1 (H.bx 0 rfl) ⟨rfl, trivial⟩) hg19 (by decide) ?_; clear Z a H; intro v24 a w42 H Z
        dsimp only [List.eraseIdx] at H
        replace H : Hf I D w I22 w42 [OwC NEOut 38 v24 (out_10 ++ [({ to_ := x, body := p_5.1 } : EOut)]), BxC b12 58 [.int .i64 ((n0_4.getD (x_11).toNat default).boot), .int .i64 ((n0_4.getD (x_11).toNat default).stream), .int .i64 ((n0_4.getD (x_11).toNat default).seq), .int .i64 ((n0_4.getD (x_11).toNat default).ackBoot), .int .i64 ((n0_4.getD (x_11).toNat default).ackStream), .int .i64 ((n0_4.getD (x_11).toNat default).ackSeq), .bool ((n0_4.getD (x_11).toNat default).has), .string ((n0_4.getD (x_11).toNat default).body)], BxC b_h 48 [v6, v7, .pointer none, v9, .bool h.made], SlC NESeg q5 n0_4, PtC OElink_Link v6 x_0, PtC OElink_Link v7 x_1, PtC OElink_Link v9 x_3] := H.sub [(0, false), (1, false), (1, false), (1, true), (2, false), (2, false), (2, false)] rfl
        refine s_runk tHb2 Z 1 rfl rfl ?_; clear Z a; intro a Z
        refine s_end Z [1, 5, 6, 17, 18, 24, 25, 26] rfl ?_; clear Z; intro Z
        refine p_blk ?_
        refine p_then ?_
        exact ⟨out_10 ++ [({ to_ := x, body := p_5.1 } : EOut)], v24, Z.sub (ts := [1, 5, 6, 17, 18, 24, 25, 26]) rfl, ⟨I22, (H.sub [(2, false), (2, true), (3, false), (3, false), (3, false), (0, false)] rfl).eq rfl⟩, hF⟩
       ·replace hF := ite_f hc12 hF
        refine wp_skip ?_
        refine p_blk ?_
        refine p_then ?_
        exact ⟨out_10, v22, Z.sub (ts := [1, 5, 6, 17, 18, 24, 25, 26]) rfl, ⟨I22, (H.sub [(1, false), (1, true), (2, false), (2, false), (2, false), (2, false)] rfl).eq rfl⟩, hF⟩
     ·replace hF := ite_f hc11 hF
      refine wp_exit ?_
      refine p_then_x ?_
      refine p_then_x ?_
      refine f_exit_here ?_
      refine p_blk ?_
      refine p_then ?_
      obtain ⟨hg20, hF⟩ := chk_in hF
      refine f_region Z ?_; clear Z; intro Z
      refine s_ob Z (v := .int .i64 (x + 1)) rfl rfl (by decide) rfl (Ob_add rfl rfl rfl (wrI hg20)) ?_; clear Z a; intro a Z
      refine s_runk tHb2 Z 1 rfl rfl ?_; clear Z a; intro a Z
      refine s_end Z [1, 5, 17, 18] rfl ?_; clear Z; intro Z
      refine p_then ?_
      replace H : Hf I D w I20 w36 [PtC OElink_Link (.pointer none) none, BxC b_h 48 [v6, v7, .pointer none, v9, .bool h.made], SlC NESeg q5 n0_4, PtC OElink_Link v6 x_0, PtC OElink_Link v7 x_1, PtC OElink_Link v9 x_3, OwC NEOut 38 v22 out_10] := H.mkN OElink_Link
      exact ⟨(out_10, x_0, x_1, none, x_3, x + 1), ⟨v22, v6, v7, .pointer none, v9, Z.sub (ts := [1, 5, 17, 18]) rfl, ⟨I20, (H.sub [(1, false), (5, false), (2, false), (2, false), (0, false), (1, false)] rfl).eq rfl⟩⟩, hF⟩
    ·obtain ⟨b11, hv, H⟩ := H.optS 4 rfl ho3
     subst hv
     replace H : Hf I D w I2 w2 [OElink_Link b11 x_10, BxC b_h 48 [v6, v7, .pointer (some ⟨b11, 0, none⟩), v9, .bool h.made], OwC NEOut 38 v5 out, PtC OElink_Link v6 x_0, PtC OElink_Link v7 x_1, PtC OElink_Link v9 x_3] := H
     refine p_then (wp_seq ?_)
     obtain ⟨o_3, hx12, hF⟩ := bnd_in hF
     refine f_region Z ?_; clear Z; intro Z
     refine s_runk tHb2 Z 2 rfl rfl ?_; clear Z a; intro a Z
     refine h_call Z H (js := [(0, false)]) rfl (caps := #[]) fn_17_YHb2 rfl rfl rfl rfl rfl (by decide) rfl rfl (fun D1 hS => have hq := c_link_Link_Out hx12 hS; hq) ?_; clear Z a; intro vv a w43 D2 hr hF2 Z
     obtain ⟨q6, hvv, I23, K⟩ := hr; obtain rfl := hvv.symm
     have H : Hf I D w I23 w43 [OElink_Link b11 o_3.2, SlC NESeg q6 o_3.1, BxC b_h 48 [v6, v7, .pointer (some ⟨b11, 0, none⟩), v9, .bool h.made], OwC NEOut 38 v5 out, PtC OElink_Link v6 x_0, PtC OElink_Link v7 x_1, PtC OElink_Link v9 x_3] := hF2 K
     clear hF2 K
     refine s_ob Z (v := .int .i64 (o_3.1.length : Int)) rfl rfl (by decide) rfl (Ob_slen tHb2 rfl rfl rfl (H.slshape 1 rfl)) ?_; clear Z a; intro a Z
     refine s_runk tHb2 Z 1 rfl rfl ?_; clear Z a; intro a Z
     refine s_end Z [1, 5, 17, 18, 6, 24, 25, 26] rfl ?_; clear Z; intro Z
     refine p_then (wp_block ?_)
     refine f_iter hF (fun sg a' w' => match sg with | (out_12, x_12) => ∃ v25 : Value, Sl 46 [(1, .bool again), (5, v25), (6, .int .i64 x), (17, .agg #[v6, v7, .pointer (some ⟨b11, 0, none⟩), v9]), (18, .int .i64 x), (24, q6), (25, .int .i64 (o_3.1.length : Int)), (26, .int .i64 x_12)] a' ∧ ∃ I2, Hf I D w I2 w' [BxC b_h 48 [v6, v7, .pointer (some ⟨b11, 0, none⟩), v9, .bool h.made], OElink_Link b11 o_3.2, SlC NESeg q6 o_3.1, PtC OElink_Link v6 x_0, PtC OElink_Link v7 x_1, PtC OElink_Link v9 x_3, OwC NEOut 38 v25 out_12]) ⟨v5, Z.sub (ts := [1, 5, 6, 17, 18, 24, 25, 26]) rfl, ⟨I23, (H.sub [(2, false), (0, false), (0, true), (2, false), (2, false), (2, false), (1, false)] rfl).eq rfl⟩⟩ ?_
     clear Z H hF a
     rintro rc_7 ⟨out_12, x_12⟩ a w44 ⟨v25, Z, I24, H⟩ hF
     unfold F_hub_Hub_Out_l12 at hF
     try dsimp only at hF
     refine wp_seq (f_region Z ?_); clear Z; intro Z
     refine s_runk tHb2 Z 1 rfl rfl ?_; clear Z a; intro a Z
     refine s_end Z [1, 5, 6, 17, 18, 24, 25, 26, 27] rfl ?_; clear Z; intro Z
     refine p_then (wp_seq ?_)
     refine f_cond Z rfl (fun hc13 => ?_) (fun hc13 => ?_)
     ·replace hF := ite_t hc13 hF
      refine wp_skip ?_
      refine p_then ?_
      refine f_cut (fun a' w' => ∃ (out_13 : List EOut), ∃ v26 : Value, Sl 46 [(1, .bool again), (5, v26), (6, .int .i64 x), (17, .agg #[v6, v7, .pointer (some ⟨b11, 0, none⟩), v9]), (18, .int .i64 x), (24, q6), (25, .int .i64 (o_3.1.length : Int)), (26, .int .i64 x_12)] a' ∧ (∃ I2, Hf I D w I2 w' [BxC b_h 48 [v6, v7, .pointer (some ⟨b11, 0, none⟩), v9, .bool h.made], OElink_Link b11 o_3.2, SlC NESeg q6 o_3.1, PtC OElink_Link v6 x_0, PtC OElink_Link v7 x_1, PtC OElink_Link v9 x_3, OwC NEOut 38 v26 out_13]) ∧ F_hub_Hub_Out_k13 x_12 rc_7 out_13 = some rr) ?_ ?_
      ·rintro a w45 ⟨out_13, v26, Z, ⟨I25, H⟩, hF⟩
       unfold F_hub_Hub_Out_k13 at hF
       try dsimp only at hF
       obtain ⟨hg21, hF⟩ := chk_in hF
       refine f_region Z ?_; clear Z; intro Z
       refine s_ob Z (v := .int .i64 (x_12 + 1)) rfl rfl (by decide) rfl (Ob_add rfl rfl rfl (wrI hg21)) ?_; clear Z a; intro a Z
       refine s_runk tHb2 Z 1 rfl rfl ?_; clear Z a; intro a Z
       refine s_end Z [1, 5, 6, 17, 18, 24, 25, 26] rfl ?_; clear Z; intro Z
       refine p_then ?_
       exact ⟨(out_13, x_12 + 1), ⟨v26, Z.sub (ts := [1, 5, 6, 17, 18, 24, 25, 26]) rfl, ⟨I25, (H.sub [(0, false), (0, false), (0, true), (1, false), (1, false), (1, false), (1, false)] rfl).eq rfl⟩⟩, hF⟩
      ·skip
       refine wp_block ?_
       refine wp_seq ?_
       obtain ⟨hg22, hF⟩ := chk_in hF
       refine f_region Z ?_; clear Z; intro Z
       refine s_ob Z (v := .pointer (some ⟨blkOf q6, oofOf q6 + (x_12).toNat * 8, none⟩)) rfl rfl (by decide) rfl (Ob_sidx tHb2 rfl rfl rfl rfl (slPl (H.sl 2 rfl) hg22) hg22) ?_; clear Z a; intro a Z
       refine s_ob Z (v := .agg #[.int .i64 ((o_3.1.getD (x_12).toNat default).boot), .int .i64 ((o_3.1.getD (x_12).toNat default).stream), .int .i64 ((o_3.1.getD (x_12).toNat default).seq), .int .i64 ((o_3.1.getD (x_12).toNat default).ackBoot), .int .i64 ((o_3.1.getD (x_12).toNat default).ackStream), .int .i64 ((o_3.1.getD (x_12).toNat default).ackSeq), .bool ((o_3.1.getD (x_12).toNat default).has), .string ((o_3.1.getD (x_12).toNat default).body)]) rfl rfl (by decide) rfl (Ob_loads tHb2 rfl rfl rfl ((slFl (H.sl 2 rfl) hg22).part 0 rfl)) ?_; clear Z a; intro a Z
       refine h_alloc Z H (cl := [.int .i64 0, .int .i64 0, .int .i64 0, .int .i64 0, .int .i64 0, .int .i64 0, .bool false, .string ByteArray.empty]) (z := .agg #[.int .i64 0, .int .i64 0, .int .i64 0, .int .i64 0, .int .i64 0, .int .i64 0, .bool false, .string ByteArray.empty]) rfl rfl rfl (by decide) rfl (by kernel_rfl) rfl ?_; clear Z a H; intro a w46 b14 H Z
       refine h_store tHb2 Z H 0 rfl rfl rfl rfl rfl rfl rfl rfl rfl (one_cons rfl (one_cons rfl (one_cons rfl (one_cons rfl (one_cons rfl (one_cons rfl (one_cons rfl (one_cons rfl one_nil)))))))) (Nat.le_of_ble_eq_true rfl) rfl ?_; clear H; intro w47 H
       dsimp only [List.eraseIdx] at H
       refine s_end Z [1, 5, 6, 17, 18, 24, 25, 26, 9] rfl ?_; clear Z; intro Z
       refine p_then (wp_seq ?_)
       obtain ⟨p_6, hx13, hF⟩ := bnd_in hF
       refine f_region Z ?_; clear Z; intro Z
       refine s_ob Z (v := .agg #[.int .i64 ((o_3.1.getD (x_12).toNat default).boot), .int .i64 ((o_3.1.getD (x_12).toNat default).stream), .int .i64 ((o_3.1.getD (x_12).toNat default).seq), .int .i64 ((o_3.1.getD (x_12).toNat default).ackBoot), .int .i64 ((o_3.1.getD (x_12).toNat default).ackStream), .int .i64 ((o_3.1.getD (x_12).toNat default).ackSeq), .bool ((o_3.1.getD (x_12).toNat default).has), .string ((o_3.1.getD (x_12).toNat default).body)]) rfl rfl (by decide) rfl (Ob_loads tHb2 rfl rfl rfl ((H.bx 0 rfl).part 0 rfl)) ?_; clear Z a; intro a Z
       refine h_call Z H (js := []) rfl (caps := #[]) fn_18_YHb2 rfl rfl rfl rfl rfl (by decide) rfl rfl (fun D1 hS => have hq := c_link_Put hx13 hS; hq) ?_; clear Z a; intro vv a w48 D2 hr hF2 Z
       obtain ⟨rfl, I26, K⟩ := hr
       have H : Hf I D w I26 w48 [BxC b14 58 [.int .i64 ((o_3.1.getD (x_12).toNat default).boot), .int .i64 ((o_3.1.getD (x_12).toNat default).stream), .int .i64 ((o_3.1.getD (x_12).toNat default).seq), .int .i64 ((o_3.1.getD (x_12).toNat default).ackBoot), .int .i64 ((o_3.1.getD (x_12).toNat default).ackStream), .int .i64 ((o_3.1.getD (x_12).toNat default).ackSeq), .bool ((o_3.1.getD (x_12).toNat default).has), .string ((o_3.1.getD (x_12).toNat default).body)], BxC b_h 48 [v6, v7, .pointer (some ⟨b11, 0, none⟩), v9, .bool h.made], OElink_Link b11 o_3.2, SlC NESeg q6 o_3.1, PtC OElink_Link v6 x_0, PtC OElink_Link v7 x_1, PtC OElink_Link v9 x_3, OwC NEOut 38 v25 out_12] := hF2 K
       clear hF2 K
       refine s_runk tHb2 Z 5 rfl rfl ?_; clear Z a; intro a Z
       refine s_end Z [1, 5, 6, 17, 18, 24, 25, 26, 10, 11] rfl ?_; clear Z; intro Z
       refine p_then (wp_seq (f_region Z ?_)); clear Z; intro Z
       refine s_runk tHb2 Z 2 rfl rfl ?_; clear Z a; intro a Z
       refine s_end Z [1, 5, 6, 17, 18, 24, 25, 26, 10, 36] rfl ?_; clear Z; intro Z
       refine p_then ?_
       refine f_cond Z rfl (fun hc14 => ?_) (fun hc14 => ?_)
       ·replace hF := ite_t hc14 hF
        obtain ⟨hg23, hF⟩ := chk_in hF
        refine f_region Z ?_; clear Z; intro Z
        refine s_runk tHb2 Z 3 rfl rfl ?_; clear Z a; intro a Z
        refine s_ob Z (v := .agg #[.int .i64 x, .string p_6.1]) rfl rfl (by decide) rfl (Ob_build (vs := [(0, .int .i64 x), (1, .string p_6.1)]) rfl rfl (by go_simp <;> rfl)) ?_; clear Z a; intro a Z
        refine h_bslice Z H (vs := [(0, .agg #[.int .i64 x, .string p_6.1])]) (cl := [.int .i64 x, .string p_6.1]) (e := 38) rfl rfl rfl (by decide) rfl rfl (fun w => run_bslice (z := .agg #[.int .i64 0, .string ByteArray.empty]) (m := 2) Try.underlying34 (by kernel_rfl) rfl rfl (by decide) (by simp [Instr.fill, Value.cells]) w) ?_; clear Z a H; intro a w49 b15 H Z
        refine h_appO Z H 8 E_34_YHb2 [({ to_ := x, body := p_6.1 } : EOut)] rfl rfl rfl rfl rfl (by decide) rfl rfl rfl (slRep2.box1 (H.bx 0 rfl) ⟨rfl, trivial⟩) hg23 (by decide) ?_; clear Z a H; intro v27 a w50 H Z
        dsimp only [List.eraseIdx] at H
        replace H : Hf I D w I26 w50 [OwC NEOut 38 v27 (out_12 ++ [({ to_ := x, body := p_6.1 } : EOut)]), BxC b14 58 [.int .i64 ((o_3.1.getD (x_12).toNat default).boot), .int .i64 ((o_3.1.getD (x_12).toNat default).stream), .int .i64 ((o_3.1.getD (x_12).toNat default).seq), .int .i64 ((o_3.1.getD (x_12).toNat default).ackBoot), .int .i64 ((o_3.1.getD (x_12).toNat default).ackStream), .int .i64 ((o_3.1.getD (x_12).toNat default).ackSeq), .bool ((o_3.1.getD (x_12).toNat default).has), .string ((o_3.1.getD (x_12).toNat default).body)], BxC b_h 48 [v6, v7, .pointer (some ⟨b11, 0, none⟩), v9, .bool h.made], OElink_Link b11 o_3.2, SlC NESeg q6 o_3.1, PtC OElink_Link v6 x_0, PtC OElink_Link v7 x_1, PtC OElink_Link v9 x_3] := H.sub [(0, false), (1, false), (1, false), (1, false), (1, true), (2, false), (2, false), (2, false)] rfl
        refine s_runk tHb2 Z 1 rfl rfl ?_; clear Z a; intro a Z
        refine s_end Z [1, 5, 6, 17, 18, 24, 25, 26] rfl ?_; clear Z; intro Z
        refine p_blk ?_
        refine p_then ?_
        exact ⟨out_12 ++ [({ to_ := x, body := p_6.1 } : EOut)], v27, Z.sub (ts := [1, 5, 6, 17, 18, 24, 25, 26]) rfl, ⟨I26, (H.sub [(2, false), (2, false), (2, true), (3, false), (3, false), (3, false), (0, false)] rfl).eq rfl⟩, hF⟩
       ·replace hF := ite_f hc14 hF
        refine wp_skip ?_
        refine p_blk ?_
        refine p_then ?_
        exact ⟨out_12, v25, Z.sub (ts := [1, 5, 6, 17, 18, 24, 25, 26]) rfl, ⟨I26, (H.sub [(1, false), (1, false), (1, true), (2, false), (2, false), (2, false), (2, false)] rfl).eq rfl⟩, hF⟩
     ·replace hF := ite_f hc13 hF
      refine wp_exit ?_
      refine p_then_x ?_
      refine p_then_x ?_
      refine f_exit_here ?_
      refine p_blk ?_
      refine p_then ?_
      obtain ⟨hg24, hF⟩ := chk_in hF
      refine f_region Z ?_; clear Z; intro Z
      refine s_ob Z (v := .int .i64 (x + 1)) rfl rfl (by decide) rfl (Ob_add rfl rfl rfl (wrI hg24)) ?_; clear Z a; intro a Z
      refine s_runk tHb2 Z 1 rfl rfl ?_; clear Z a; intro a Z
      refine s_end Z [1, 5, 17, 18] rfl ?_; clear Z; intro Z
      refine p_then ?_
      replace H : Hf I D w I24 w44 [PtC OElink_Link (.pointer (some ⟨b11, 0, none⟩)) (some o_3.2), BxC b_h 48 [v6, v7, .pointer (some ⟨b11, 0, none⟩), v9, .bool h.made], SlC NESeg q6 o_3.1, PtC OElink_Link v6 x_0, PtC OElink_Link v7 x_1, PtC OElink_Link v9 x_3, OwC NEOut 38 v25 out_12] := H.mkS (K := OElink_Link) 1 rfl
      exact ⟨(out_12, x_0, x_1, some o_3.2, x_3, x + 1), ⟨v25, v6, v7, .pointer (some ⟨b11, 0, none⟩), v9, Z.sub (ts := [1, 5, 17, 18]) rfl, ⟨I24, (H.sub [(1, false), (5, false), (2, false), (2, false), (0, false), (1, false)] rfl).eq rfl⟩⟩, hF⟩
   replace hF := ite_f hi3 hF
   refine bsplit (x == 3) (fun hi4 => ?_) (fun hi4 => ?_)
   ·replace hF := ite_t hi4 hF
    refine f_region Z ?_; clear Z; intro Z
    refine s_runk tHb2 Z 1 rfl rfl ?_; clear Z a; intro a Z
    refine s_ob Z (v := v9) rfl rfl (by decide) rfl (Ob_aixv tHb2 3 rfl rfl rfl Try.underlying46 rfl (eq_of_beq hi4) (by decide) rfl) ?_; clear Z a; intro a Z
    refine s_runk tHb2 Z 2 rfl rfl ?_; clear Z a; intro a Z
    refine s_end Z [1, 5, 17, 18, 6, 7] rfl ?_; clear Z; intro Z
    rcases optE_in hF with ⟨ho4, hF⟩ | ⟨x_13, ho4, hF⟩
    ·obtain ⟨hv, H⟩ := H.optN 5 rfl ho4
     subst hv
     replace H : Hf I D w I2 w2 [BxC b_h 48 [v6, v7, v8, .pointer none, .bool h.made], OwC NEOut 38 v5 out, PtC OElink_Link v6 x_0, PtC OElink_Link v7 x_1, PtC OElink_Link v8 x_2] := H
     refine p_then (wp_seq ?_)
     obtain ⟨n0_5, hx14, hF⟩ := bnd_in hF
     refine f_region Z ?_; clear Z; intro Z
     refine s_runk tHb2 Z 2 rfl rfl ?_; clear Z a; intro a Z
     refine h_call Z H (js := []) rfl (caps := #[]) fn_17_YHb2 rfl rfl rfl rfl rfl (by decide) rfl rfl (fun D1 hS => have hq := c_link_Link_Out_nil hx14 hS; hq) ?_; clear Z a; intro vv a w51 D2 hr hF2 Z
     obtain ⟨q7, hvv, I27, K⟩ := hr; obtain rfl := hvv.symm
     have H : Hf I D w I27 w51 [SlC NESeg q7 n0_5, BxC b_h 48 [v6, v7, v8, .pointer none, .bool h.made], OwC NEOut 38 v5 out, PtC OElink_Link v6 x_0, PtC OElink_Link v7 x_1, PtC OElink_Link v8 x_2] := hF2 K
     clear hF2 K
     refine s_ob Z (v := .int .i64 (n0_5.length : Int)) rfl rfl (by decide) rfl (Ob_slen tHb2 rfl rfl rfl (H.slshape 0 rfl)) ?_; clear Z a; intro a Z
     refine s_runk tHb2 Z 1 rfl rfl ?_; clear Z a; intro a Z
     refine s_end Z [1, 5, 17, 18, 6, 24, 25, 26] rfl ?_; clear Z; intro Z
     refine p_then (wp_block ?_)
     refine f_iter hF (fun sg a' w' => match sg with | (out_14, x_14) => ∃ v28 : Value, Sl 46 [(1, .bool again), (5, v28), (6, .int .i64 x), (17, .agg #[v6, v7, v8, .pointer none]), (18, .int .i64 x), (24, q7), (25, .int .i64 (n0_5.length : Int)), (26, .int .i64 x_14)] a' ∧ ∃ I2, Hf I D w I2 w' [BxC b_h 48 [v6, v7, v8, .pointer none, .bool h.made], SlC NESeg q7 n0_5, PtC OElink_Link v6 x_0, PtC OElink_Link v7 x_1, PtC OElink_Link v8 x_2, OwC NEOut 38 v28 out_14]) ⟨v5, Z.sub (ts := [1, 5, 6, 17, 18, 24, 25, 26]) rfl, ⟨I27, (H.sub [(1, false), (0, true), (2, false), (2, false), (2, false), (1, false)] rfl).eq rfl⟩⟩ ?_
     clear Z H hF a
     rintro rc_8 ⟨out_14, x_14⟩ a w52 ⟨v28, Z, I28, H⟩ hF
     unfold F_hub_Hub_Out_l14 at hF
     try dsimp only at hF
     refine wp_seq (f_region Z ?_); clear Z; intro Z
     refine s_runk tHb2 Z 1 rfl rfl ?_; clear Z a; intro a Z
     refine s_end Z [1, 5, 6, 17, 18, 24, 25, 26, 27] rfl ?_; clear Z; intro Z
     refine p_then (wp_seq ?_)
     refine f_cond Z rfl (fun hc15 => ?_) (fun hc15 => ?_)
     ·replace hF := ite_t hc15 hF
      refine wp_skip ?_
      refine p_then ?_
      refine f_cut (fun a' w' => ∃ (out_15 : List EOut), ∃ v29 : Value, Sl 46 [(1, .bool again), (5, v29), (6, .int .i64 x), (17, .agg #[v6, v7, v8, .pointer none]), (18, .int .i64 x), (24, q7), (25, .int .i64 (n0_5.length : Int)), (26, .int .i64 x_14)] a' ∧ (∃ I2, Hf I D w I2 w' [BxC b_h 48 [v6, v7, v8, .pointer none, .bool h.made], SlC NESeg q7 n0_5, PtC OElink_Link v6 x_0, PtC OElink_Link v7 x_1, PtC OElink_Link v8 x_2, OwC NEOut 38 v29 out_15]) ∧ F_hub_Hub_Out_k15 x_14 rc_8 out_15 = some rr) ?_ ?_
      ·rintro a w53 ⟨out_15, v29, Z, ⟨I29, H⟩, hF⟩
       unfold F_hub_Hub_Out_k15 at hF
       try dsimp only at hF
       obtain ⟨hg25, hF⟩ := chk_in hF
       refine f_region Z ?_; clear Z; intro Z
       refine s_ob Z (v := .int .i64 (x_14 + 1)) rfl rfl (by decide) rfl (Ob_add rfl rfl rfl (wrI hg25)) ?_; clear Z a; intro a Z
       refine s_runk tHb2 Z 1 rfl rfl ?_; clear Z a; intro a Z
       refine s_end Z [1, 5, 6, 17, 18, 24, 25, 26] rfl ?_; clear Z; intro Z
       refine p_then ?_
       exact ⟨(out_15, x_14 + 1), ⟨v29, Z.sub (ts := [1, 5, 6, 17, 18, 24, 25, 26]) rfl, ⟨I29, (H.sub [(0, false), (0, true), (1, false), (1, false), (1, false), (1, false)] rfl).eq rfl⟩⟩, hF⟩
      ·skip
       refine wp_block ?_
       refine wp_seq ?_
       obtain ⟨hg26, hF⟩ := chk_in hF
       refine f_region Z ?_; clear Z; intro Z
       refine s_ob Z (v := .pointer (some ⟨blkOf q7, oofOf q7 + (x_14).toNat * 8, none⟩)) rfl rfl (by decide) rfl (Ob_sidx tHb2 rfl rfl rfl rfl (slPl (H.sl 1 rfl) hg26) hg26) ?_; clear Z a; intro a Z
       refine s_ob Z (v := .agg #[.int .i64 ((n0_5.getD (x_14).toNat default).boot), .int .i64 ((n0_5.getD (x_14).toNat default).stream), .int .i64 ((n0_5.getD (x_14).toNat default).seq), .int .i64 ((n0_5.getD (x_14).toNat default).ackBoot), .int .i64 ((n0_5.getD (x_14).toNat default).ackStream), .int .i64 ((n0_5.getD (x_14).toNat default).ackSeq), .bool ((n0_5.getD (x_14).toNat default).has), .string ((n0_5.getD (x_14).toNat default).body)]) rfl rfl (by decide) rfl (Ob_loads tHb2 rfl rfl rfl ((slFl (H.sl 1 rfl) hg26).part 0 rfl)) ?_; clear Z a; intro a Z
       refine h_alloc Z H (cl := [.int .i64 0, .int .i64 0, .int .i64 0, .int .i64 0, .int .i64 0, .int .i64 0, .bool false, .string ByteArray.empty]) (z := .agg #[.int .i64 0, .int .i64 0, .int .i64 0, .int .i64 0, .int .i64 0, .int .i64 0, .bool false, .string ByteArray.empty]) rfl rfl rfl (by decide) rfl (by kernel_rfl) rfl ?_; clear Z a H; intro a w54 b17 H Z
       refine h_store tHb2 Z H 0 rfl rfl rfl rfl rfl rfl rfl rfl rfl (one_cons rfl (one_cons rfl (one_cons rfl (one_cons rfl (one_cons rfl (one_cons rfl (one_cons rfl (one_cons rfl one_nil)))))))) (Nat.le_of_ble_eq_true rfl) rfl ?_; clear H; intro w55 H
       dsimp only [List.eraseIdx] at H
       refine s_end Z [1, 5, 6, 17, 18, 24, 25, 26, 9] rfl ?_; clear Z; intro Z
       refine p_then (wp_seq ?_)
       obtain ⟨p_7, hx15, hF⟩ := bnd_in hF
       refine f_region Z ?_; clear Z; intro Z
       refine s_ob Z (v := .agg #[.int .i64 ((n0_5.getD (x_14).toNat default).boot), .int .i64 ((n0_5.getD (x_14).toNat default).stream), .int .i64 ((n0_5.getD (x_14).toNat default).seq), .int .i64 ((n0_5.getD (x_14).toNat default).ackBoot), .int .i64 ((n0_5.getD (x_14).toNat default).ackStream), .int .i64 ((n0_5.getD (x_14).toNat default).ackSeq), .bool ((n0_5.getD (x_14).toNat default).has), .string ((n0_5.getD (x_14).toNat default).body)]) rfl rfl (by decide) rfl (Ob_loads tHb2 rfl rfl rfl ((H.bx 0 rfl).part 0 rfl)) ?_; clear Z a; intro a Z
       refine h_call Z H (js := []) rfl (caps := #[]) fn_18_YHb2 rfl rfl rfl rfl rfl (by decide) rfl rfl (fun D1 hS => have hq := c_link_Put hx15 hS; hq) ?_; clear Z a; intro vv a w56 D2 hr hF2 Z
       obtain ⟨rfl, I30, K⟩ := hr
       have H : Hf I D w I30 w56 [BxC b17 58 [.int .i64 ((n0_5.getD (x_14).toNat default).boot), .int .i64 ((n0_5.getD (x_14).toNat default).stream), .int .i64 ((n0_5.getD (x_14).toNat default).seq), .int .i64 ((n0_5.getD (x_14).toNat default).ackBoot), .int .i64 ((n0_5.getD (x_14).toNat default).ackStream), .int .i64 ((n0_5.getD (x_14).toNat default).ackSeq), .bool ((n0_5.getD (x_14).toNat default).has), .string ((n0_5.getD (x_14).toNat default).body)], BxC b_h 48 [v6, v7, v8, .pointer none, .bool h.made], SlC NESeg q7 n0_5, PtC OElink_Link v6 x_0, PtC OElink_Link v7 x_1, PtC OElink_Link v8 x_2, OwC NEOut 38 v28 out_14] := hF2 K
       clear hF2 K
       refine s_runk tHb2 Z 5 rfl rfl ?_; clear Z a; intro a Z
       refine s_end Z [1, 5, 6, 17, 18, 24, 25, 26, 10, 11] rfl ?_; clear Z; intro Z
       refine p_then (wp_seq (f_region Z ?_)); clear Z; intro Z
       refine s_runk tHb2 Z 2 rfl rfl ?_; clear Z a; intro a Z
       refine s_end Z [1, 5, 6, 17, 18, 24, 25, 26, 10, 36] rfl ?_; clear Z; intro Z
       refine p_then ?_
       refine f_cond Z rfl (fun hc16 => ?_) (fun hc16 => ?_)
       ·replace hF := ite_t hc16 hF
        obtain ⟨hg27, hF⟩ := chk_in hF
        refine f_region Z ?_; clear Z; intro Z
        refine s_runk tHb2 Z 3 rfl rfl ?_; clear Z a; intro a Z
        refine s_ob Z (v := .agg #[.int .i64 x, .string p_7.1]) rfl rfl (by decide) rfl (Ob_build (vs := [(0, .int .i64 x), (1, .string p_7.1)]) rfl rfl (by go_simp <;> rfl)) ?_; clear Z a; intro a Z
        refine h_bslice Z H (vs := [(0, .agg #[.int .i64 x, .string p_7.1])]) (cl := [.int .i64 x, .string p_7.1]) (e := 38) rfl rfl rfl (by decide) rfl rfl (fun w => run_bslice (z := .agg #[.int .i64 0, .string ByteArray.empty]) (m := 2) Try.underlying34 (by kernel_rfl) rfl rfl (by decide) (by simp [Instr.fill, Value.cells]) w) ?_; clear Z a H; intro a w57 b18 H Z
        refine h_appO Z H 7 E_34_YHb2 [({ to_ := x, body := p_7.1 } : EOut)] rfl rfl rfl rfl rfl (by decide) rfl rfl rfl (slRep2.box1 (H.bx 0 rfl) ⟨rfl, trivial⟩) hg27 (by decide) ?_; clear Z a H; intro v30 a w58 H Z
        dsimp only [List.eraseIdx] at H
        replace H : Hf I D w I30 w58 [OwC NEOut 38 v30 (out_14 ++ [({ to_ := x, body := p_7.1 } : EOut)]), BxC b17 58 [.int .i64 ((n0_5.getD (x_14).toNat default).boot), .int .i64 ((n0_5.getD (x_14).toNat default).stream), .int .i64 ((n0_5.getD (x_14).toNat default).seq), .int .i64 ((n0_5.getD (x_14).toNat default).ackBoot), .int .i64 ((n0_5.getD (x_14).toNat default).ackStream), .int .i64 ((n0_5.getD (x_14).toNat default).ackSeq), .bool ((n0_5.getD (x_14).toNat default).has), .string ((n0_5.getD (x_14).toNat default).body)], BxC b_h 48 [v6, v7, v8, .pointer none, .bool h.made], SlC NESeg q7 n0_5, PtC OElink_Link v6 x_0, PtC OElink_Link v7 x_1, PtC OElink_Link v8 x_2] := H.sub [(0, false), (1, false), (1, false), (1, true), (2, false), (2, false), (2, false)] rfl
        refine s_runk tHb2 Z 1 rfl rfl ?_; clear Z a; intro a Z
        refine s_end Z [1, 5, 6, 17, 18, 24, 25, 26] rfl ?_; clear Z; intro Z
        refine p_blk ?_
        refine p_then ?_
        exact ⟨out_14 ++ [({ to_ := x, body := p_7.1 } : EOut)], v30, Z.sub (ts := [1, 5, 6, 17, 18, 24, 25, 26]) rfl, ⟨I30, (H.sub [(2, false), (2, true), (3, false), (3, false), (3, false), (0, false)] rfl).eq rfl⟩, hF⟩
       ·replace hF := ite_f hc16 hF
        refine wp_skip ?_
        refine p_blk ?_
        refine p_then ?_
        exact ⟨out_14, v28, Z.sub (ts := [1, 5, 6, 17, 18, 24, 25, 26]) rfl, ⟨I30, (H.sub [(1, false), (1, true), (2, false), (2, false), (2, false), (2, false)] rfl).eq rfl⟩, hF⟩
     ·replace hF := ite_f hc15 hF
      refine wp_exit ?_
      refine p_then_x ?_
      refine p_then_x ?_
      refine f_exit_here ?_
      refine p_blk ?_
      refine p_then ?_
      obtain ⟨hg28, hF⟩ := chk_in hF
      refine f_region Z ?_; clear Z; intro Z
      refine s_ob Z (v := .int .i64 (x + 1)) rfl rfl (by decide) rfl (Ob_add rfl rfl rfl (wrI hg28)) ?_; clear Z a; intro a Z
      refine s_runk tHb2 Z 1 rfl rfl ?_; clear Z a; intro a Z
      refine s_end Z [1, 5, 17, 18] rfl ?_; clear Z; intro Z
      refine p_then ?_
      replace H : Hf I D w I28 w52 [PtC OElink_Link (.pointer none) none, BxC b_h 48 [v6, v7, v8, .pointer none, .bool h.made], SlC NESeg q7 n0_5, PtC OElink_Link v6 x_0, PtC OElink_Link v7 x_1, PtC OElink_Link v8 x_2, OwC NEOut 38 v28 out_14] := H.mkN OElink_Link
      exact ⟨(out_14, x_0, x_1, x_2, none, x + 1), ⟨v28, v6, v7, v8, .pointer none, Z.sub (ts := [1, 5, 17, 18]) rfl, ⟨I28, (H.sub [(1, false), (5, false), (2, false), (2, false), (2, false), (0, false)] rfl).eq rfl⟩⟩, hF⟩
    ·obtain ⟨b16, hv, H⟩ := H.optS 5 rfl ho4
     subst hv
     replace H : Hf I D w I2 w2 [OElink_Link b16 x_13, BxC b_h 48 [v6, v7, v8, .pointer (some ⟨b16, 0, none⟩), .bool h.made], OwC NEOut 38 v5 out, PtC OElink_Link v6 x_0, PtC OElink_Link v7 x_1, PtC OElink_Link v8 x_2] := H
     refine p_then (wp_seq ?_)
     obtain ⟨o_4, hx16, hF⟩ := bnd_in hF
     refine f_region Z ?_; clear Z; intro Z
     refine s_runk tHb2 Z 2 rfl rfl ?_; clear Z a; intro a Z
     refine h_call Z H (js := [(0, false)]) rfl (caps := #[]) fn_17_YHb2 rfl rfl rfl rfl rfl (by decide) rfl rfl (fun D1 hS => have hq := c_link_Link_Out hx16 hS; hq) ?_; clear Z a; intro vv a w59 D2 hr hF2 Z
     obtain ⟨q8, hvv, I31, K⟩ := hr; obtain rfl := hvv.symm
     have H : Hf I D w I31 w59 [OElink_Link b16 o_4.2, SlC NESeg q8 o_4.1, BxC b_h 48 [v6, v7, v8, .pointer (some ⟨b16, 0, none⟩), .bool h.made], OwC NEOut 38 v5 out, PtC OElink_Link v6 x_0, PtC OElink_Link v7 x_1, PtC OElink_Link v8 x_2] := hF2 K
     clear hF2 K
     refine s_ob Z (v := .int .i64 (o_4.1.length : Int)) rfl rfl (by decide) rfl (Ob_slen tHb2 rfl rfl rfl (H.slshape 1 rfl)) ?_; clear Z a; intro a Z
     refine s_runk tHb2 Z 1 rfl rfl ?_; clear Z a; intro a Z
     refine s_end Z [1, 5, 17, 18, 6, 24, 25, 26] rfl ?_; clear Z; intro Z
     refine p_then (wp_block ?_)
     refine f_iter hF (fun sg a' w' => match sg with | (out_16, x_15) => ∃ v31 : Value, Sl 46 [(1, .bool again), (5, v31), (6, .int .i64 x), (17, .agg #[v6, v7, v8, .pointer (some ⟨b16, 0, none⟩)]), (18, .int .i64 x), (24, q8), (25, .int .i64 (o_4.1.length : Int)), (26, .int .i64 x_15)] a' ∧ ∃ I2, Hf I D w I2 w' [BxC b_h 48 [v6, v7, v8, .pointer (some ⟨b16, 0, none⟩), .bool h.made], OElink_Link b16 o_4.2, SlC NESeg q8 o_4.1, PtC OElink_Link v6 x_0, PtC OElink_Link v7 x_1, PtC OElink_Link v8 x_2, OwC NEOut 38 v31 out_16]) ⟨v5, Z.sub (ts := [1, 5, 6, 17, 18, 24, 25, 26]) rfl, ⟨I31, (H.sub [(2, false), (0, false), (0, true), (2, false), (2, false), (2, false), (1, false)] rfl).eq rfl⟩⟩ ?_
     clear Z H hF a
     rintro rc_9 ⟨out_16, x_15⟩ a w60 ⟨v31, Z, I32, H⟩ hF
     unfold F_hub_Hub_Out_l16 at hF
     try dsimp only at hF
     refine wp_seq (f_region Z ?_); clear Z; intro Z
     refine s_runk tHb2 Z 1 rfl rfl ?_; clear Z a; intro a Z
     refine s_end Z [1, 5, 6, 17, 18, 24, 25, 26, 27] rfl ?_; clear Z; intro Z
     refine p_then (wp_seq ?_)
     refine f_cond Z rfl (fun hc17 => ?_) (fun hc17 => ?_)
     ·replace hF := ite_t hc17 hF
      refine wp_skip ?_
      refine p_then ?_
      refine f_cut (fun a' w' => ∃ (out_17 : List EOut), ∃ v32 : Value, Sl 46 [(1, .bool again), (5, v32), (6, .int .i64 x), (17, .agg #[v6, v7, v8, .pointer (some ⟨b16, 0, none⟩)]), (18, .int .i64 x), (24, q8), (25, .int .i64 (o_4.1.length : Int)), (26, .int .i64 x_15)] a' ∧ (∃ I2, Hf I D w I2 w' [BxC b_h 48 [v6, v7, v8, .pointer (some ⟨b16, 0, none⟩), .bool h.made], OElink_Link b16 o_4.2, SlC NESeg q8 o_4.1, PtC OElink_Link v6 x_0, PtC OElink_Link v7 x_1, PtC OElink_Link v8 x_2, OwC NEOut 38 v32 out_17]) ∧ F_hub_Hub_Out_k17 x_15 rc_9 out_17 = some rr) ?_ ?_
      ·rintro a w61 ⟨out_17, v32, Z, ⟨I33, H⟩, hF⟩
       unfold F_hub_Hub_Out_k17 at hF
       try dsimp only at hF
       obtain ⟨hg29, hF⟩ := chk_in hF
       refine f_region Z ?_; clear Z; intro Z
       refine s_ob Z (v := .int .i64 (x_15 + 1)) rfl rfl (by decide) rfl (Ob_add rfl rfl rfl (wrI hg29)) ?_; clear Z a; intro a Z
       refine s_runk tHb2 Z 1 rfl rfl ?_; clear Z a; intro a Z
       refine s_end Z [1, 5, 6, 17, 18, 24, 25, 26] rfl ?_; clear Z; intro Z
       refine p_then ?_
       exact ⟨(out_17, x_15 + 1), ⟨v32, Z.sub (ts := [1, 5, 6, 17, 18, 24, 25, 26]) rfl, ⟨I33, (H.sub [(0, false), (0, false), (0, true), (1, false), (1, false), (1, false), (1, false)] rfl).eq rfl⟩⟩, hF⟩
      ·skip
       refine wp_block ?_
       refine wp_seq ?_
       obtain ⟨hg30, hF⟩ := chk_in hF
       refine f_region Z ?_; clear Z; intro Z
       refine s_ob Z (v := .pointer (some ⟨blkOf q8, oofOf q8 + (x_15).toNat * 8, none⟩)) rfl rfl (by decide) rfl (Ob_sidx tHb2 rfl rfl rfl rfl (slPl (H.sl 2 rfl) hg30) hg30) ?_; clear Z a; intro a Z
       refine s_ob Z (v := .agg #[.int .i64 ((o_4.1.getD (x_15).toNat default).boot), .int .i64 ((o_4.1.getD (x_15).toNat default).stream), .int .i64 ((o_4.1.getD (x_15).toNat default).seq), .int .i64 ((o_4.1.getD (x_15).toNat default).ackBoot), .int .i64 ((o_4.1.getD (x_15).toNat default).ackStream), .int .i64 ((o_4.1.getD (x_15).toNat default).ackSeq), .bool ((o_4.1.getD (x_15).toNat default).has), .string ((o_4.1.getD (x_15).toNat default).body)]) rfl rfl (by decide) rfl (Ob_loads tHb2 rfl rfl rfl ((slFl (H.sl 2 rfl) hg30).part 0 rfl)) ?_; clear Z a; intro a Z
       refine h_alloc Z H (cl := [.int .i64 0, .int .i64 0, .int .i64 0, .int .i64 0, .int .i64 0, .int .i64 0, .bool false, .string ByteArray.empty]) (z := .agg #[.int .i64 0, .int .i64 0, .int .i64 0, .int .i64 0, .int .i64 0, .int .i64 0, .bool false, .string ByteArray.empty]) rfl rfl rfl (by decide) rfl (by kernel_rfl) rfl ?_; clear Z a H; intro a w62 b19 H Z
       refine h_store tHb2 Z H 0 rfl rfl rfl rfl rfl rfl rfl rfl rfl (one_cons rfl (one_cons rfl (one_cons rfl (one_cons rfl (one_cons rfl (one_cons rfl (one_cons rfl (one_cons rfl one_nil)))))))) (Nat.le_of_ble_eq_true rfl) rfl ?_; clear H; intro w63 H
       dsimp only [List.eraseIdx] at H
       refine s_end Z [1, 5, 6, 17, 18, 24, 25, 26, 9] rfl ?_; clear Z; intro Z
       refine p_then (wp_seq ?_)
       obtain ⟨p_8, hx17, hF⟩ := bnd_in hF
       refine f_region Z ?_; clear Z; intro Z
       refine s_ob Z (v := .agg #[.int .i64 ((o_4.1.getD (x_15).toNat default).boot), .int .i64 ((o_4.1.getD (x_15).toNat default).stream), .int .i64 ((o_4.1.getD (x_15).toNat default).seq), .int .i64 ((o_4.1.getD (x_15).toNat default).ackBoot), .int .i64 ((o_4.1.getD (x_15).toNat default).ackStream), .int .i64 ((o_4.1.getD (x_15).toNat default).ackSeq), .bool ((o_4.1.getD (x_15).toNat default).has), .string ((o_4.1.getD (x_15).toNat default).body)]) rfl rfl (by decide) rfl (Ob_loads tHb2 rfl rfl rfl ((H.bx 0 rfl).part 0 rfl)) ?_; clear Z a; intro a Z
       refine h_call Z H (js := []) rfl (caps := #[]) fn_18_YHb2 rfl rfl rfl rfl rfl (by decide) rfl rfl (fun D1 hS => have hq := c_link_Put hx17 hS; hq) ?_; clear Z a; intro vv a w64 D2 hr hF2 Z
       obtain ⟨rfl, I34, K⟩ := hr
       have H : Hf I D w I34 w64 [BxC b19 58 [.int .i64 ((o_4.1.getD (x_15).toNat default).boot), .int .i64 ((o_4.1.getD (x_15).toNat default).stream), .int .i64 ((o_4.1.getD (x_15).toNat default).seq), .int .i64 ((o_4.1.getD (x_15).toNat default).ackBoot), .int .i64 ((o_4.1.getD (x_15).toNat default).ackStream), .int .i64 ((o_4.1.getD (x_15).toNat default).ackSeq), .bool ((o_4.1.getD (x_15).toNat default).has), .string ((o_4.1.getD (x_15).toNat default).body)], BxC b_h 48 [v6, v7, v8, .pointer (some ⟨b16, 0, none⟩), .bool h.made], OElink_Link b16 o_4.2, SlC NESeg q8 o_4.1, PtC OElink_Link v6 x_0, PtC OElink_Link v7 x_1, PtC OElink_Link v8 x_2, OwC NEOut 38 v31 out_16] := hF2 K
       clear hF2 K
       refine s_runk tHb2 Z 5 rfl rfl ?_; clear Z a; intro a Z
       refine s_end Z [1, 5, 6, 17, 18, 24, 25, 26, 10, 11] rfl ?_; clear Z; intro Z
       refine p_then (wp_seq (f_region Z ?_)); clear Z; intro Z
       refine s_runk tHb2 Z 2 rfl rfl ?_; clear Z a; intro a Z
       refine s_end Z [1, 5, 6, 17, 18, 24, 25, 26, 10, 36] rfl ?_; clear Z; intro Z
       refine p_then ?_
       refine f_cond Z rfl (fun hc18 => ?_) (fun hc18 => ?_)
       ·replace hF := ite_t hc18 hF
        obtain ⟨hg31, hF⟩ := chk_in hF
        refine f_region Z ?_; clear Z; intro Z
        refine s_runk tHb2 Z 3 rfl rfl ?_; clear Z a; intro a Z
        refine s_ob Z (v := .agg #[.int .i64 x, .string p_8.1]) rfl rfl (by decide) rfl (Ob_build (vs := [(0, .int .i64 x), (1, .string p_8.1)]) rfl rfl (by go_simp <;> rfl)) ?_; clear Z a; intro a Z
        refine h_bslice Z H (vs := [(0, .agg #[.int .i64 x, .string p_8.1])]) (cl := [.int .i64 x, .string p_8.1]) (e := 38) rfl rfl rfl (by decide) rfl rfl (fun w => run_bslice (z := .agg #[.int .i64 0, .string ByteArray.empty]) (m := 2) Try.underlying34 (by kernel_rfl) rfl rfl (by decide) (by simp [Instr.fill, Value.cells]) w) ?_; clear Z a H; intro a w65 b20 H Z
        refine h_appO Z H 8 E_34_YHb2 [({ to_ := x, body := p_8.1 } : EOut)] rfl rfl rfl rfl rfl (by decide) rfl rfl rfl (slRep2.box1 (H.bx 0 rfl) ⟨rfl, trivial⟩) hg31 (by decide) ?_; clear Z a H; intro v33 a w66 H Z
        dsimp only [List.eraseIdx] at H
        replace H : Hf I D w I34 w66 [OwC NEOut 38 v33 (out_16 ++ [({ to_ := x, body := p_8.1 } : EOut)]), BxC b19 58 [.int .i64 ((o_4.1.getD (x_15).toNat default).boot), .int .i64 ((o_4.1.getD (x_15).toNat default).stream), .int .i64 ((o_4.1.getD (x_15).toNat default).seq), .int .i64 ((o_4.1.getD (x_15).toNat default).ackBoot), .int .i64 ((o_4.1.getD (x_15).toNat default).ackStream), .int .i64 ((o_4.1.getD (x_15).toNat default).ackSeq), .bool ((o_4.1.getD (x_15).toNat default).has), .string ((o_4.1.getD (x_15).toNat default).body)], BxC b_h 48 [v6, v7, v8, .pointer (some ⟨b16, 0, none⟩), .bool h.made], OElink_Link b16 o_4.2, SlC NESeg q8 o_4.1, PtC OElink_Link v6 x_0, PtC OElink_Link v7 x_1, PtC OElink_Link v8 x_2] := H.sub [(0, false), (1, false), (1, false), (1, false), (1, true), (2, false), (2, false), (2, false)] rfl
        refine s_runk tHb2 Z 1 rfl rfl ?_; clear Z a; intro a Z
        refine s_end Z [1, 5, 6, 17, 18, 24, 25, 26] rfl ?_; clear Z; intro Z
        refine p_blk ?_
        refine p_then ?_
        exact ⟨out_16 ++ [({ to_ := x, body := p_8.1 } : EOut)], v33, Z.sub (ts := [1, 5, 6, 17, 18, 24, 25, 26]) rfl, ⟨I34, (H.sub [(2, false), (2, false), (2, true), (3, false), (3, false), (3, false), (0, false)] rfl).eq rfl⟩, hF⟩
       ·replace hF := ite_f hc18 hF
        refine wp_skip ?_
        refine p_blk ?_
        refine p_then ?_
        exact ⟨out_16, v31, Z.sub (ts := [1, 5, 6, 17, 18, 24, 25, 26]) rfl, ⟨I34, (H.sub [(1, false), (1, false), (1, true), (2, false), (2, false), (2, false), (2, false)] rfl).eq rfl⟩, hF⟩
     ·replace hF := ite_f hc17 hF
      refine wp_exit ?_
      refine p_then_x ?_
      refine p_then_x ?_
      refine f_exit_here ?_
      refine p_blk ?_
      refine p_then ?_
      obtain ⟨hg32, hF⟩ := chk_in hF
      refine f_region Z ?_; clear Z; intro Z
      refine s_ob Z (v := .int .i64 (x + 1)) rfl rfl (by decide) rfl (Ob_add rfl rfl rfl (wrI hg32)) ?_; clear Z a; intro a Z
      refine s_runk tHb2 Z 1 rfl rfl ?_; clear Z a; intro a Z
      refine s_end Z [1, 5, 17, 18] rfl ?_; clear Z; intro Z
      refine p_then ?_
      replace H : Hf I D w I32 w60 [PtC OElink_Link (.pointer (some ⟨b16, 0, none⟩)) (some o_4.2), BxC b_h 48 [v6, v7, v8, .pointer (some ⟨b16, 0, none⟩), .bool h.made], SlC NESeg q8 o_4.1, PtC OElink_Link v6 x_0, PtC OElink_Link v7 x_1, PtC OElink_Link v8 x_2, OwC NEOut 38 v31 out_16] := H.mkS (K := OElink_Link) 1 rfl
      exact ⟨(out_16, x_0, x_1, x_2, some o_4.2, x + 1), ⟨v31, v6, v7, v8, .pointer (some ⟨b16, 0, none⟩), Z.sub (ts := [1, 5, 17, 18]) rfl, ⟨I32, (H.sub [(1, false), (5, false), (2, false), (2, false), (2, false), (0, false)] rfl).eq rfl⟩⟩, hF⟩
   replace hF := ite_f hi4 hF
   cases hF
  ·replace hF := ite_f hc2 hF
   refine wp_exit ?_
   refine p_then_x ?_
   refine p_then_x ?_
   refine f_exit_here ?_
   refine p_then (wp_seq (f_region Z ?_)); clear Z; intro Z
   refine s_runk tHb2 Z 2 rfl rfl ?_; clear Z a; intro a Z
   refine s_end Z [4] rfl ?_; clear Z; intro Z
   refine p_then (wp_ret ?_)
   obtain ⟨I35, _, H⟩ := H.frzow 1 rfl
   replace H : Hf I D w I35 w2 [SlC NEOut v5 out, BxC b_h 48 [v6, v7, v8, v9, .bool h.made], PtC OElink_Link v6 x_0, PtC OElink_Link v7 x_1, PtC OElink_Link v8 x_2, PtC OElink_Link v9 x_3] := H
   replace H : Hf I D w I35 w2 [OEhub_Hub b_h ({ h with l := [x_0, x_1, x_2, x_3] } : Ehub_Hub), SlC NEOut v5 out] := H.shutX (v6, v7, v8, v9) [(1, false), (1, false), (1, false), (1, false), (1, false)] rfl
   obtain rfl := some_in hF
   exact f_ret Z (run_results1 rfl Z rfl) ⟨v5, rfl, I35, (H.sub [(0, false), (0, true)] rfl).eq rfl⟩

end Go.Proofs.Ytghkhndlpfmpfaa
