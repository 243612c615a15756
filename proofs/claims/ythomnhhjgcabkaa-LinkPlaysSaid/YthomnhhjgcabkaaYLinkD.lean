/- Links: LinkPlays. -/
import Derived.Test.YthomnhhjgcabkaaYLinkC
namespace Go.Proofs.Ythomnhhjgcabkaa
open Go.RowKit
def tLinkDL : TabL := ⟨[(33792, 0), (33793, 1), (33794, 2), (33795, 3), (48131, 3), (48133, 5)], [], [4], [(22, (33, 11)), (39, (9, 1))], [(3, (1, false)), (4, (1, false)), (9, (1, false)), (31, (8, true)), (39, (1, false))]⟩

def tLinkD : Tab Try.prog := ⟨tLinkDL, by kernel_rfl⟩

theorem fn_8_YLinkD : IsFn Try.prog 8 := ⟨_, Try.func8, by kernel_rfl, by kernel_rfl⟩

theorem fn_9_YLinkD : IsFn Try.prog 9 := ⟨_, Try.func9, by kernel_rfl, by kernel_rfl⟩

theorem fn_10_YLinkD : IsFn Try.prog 10 := ⟨_, Try.func10, by kernel_rfl, by kernel_rfl⟩

theorem fn_11_YLinkD : IsFn Try.prog 11 := ⟨_, Try.func11, by kernel_rfl, by kernel_rfl⟩

theorem fn_12_YLinkD : IsFn Try.prog 12 := ⟨_, Try.func12, by kernel_rfl, by kernel_rfl⟩

theorem fn_13_YLinkD : IsFn Try.prog 13 := ⟨_, Try.func13, by kernel_rfl, by kernel_rfl⟩

theorem fn_14_YLinkD : IsFn Try.prog 14 := ⟨_, Try.func14, by kernel_rfl, by kernel_rfl⟩

theorem fn_15_YLinkD : IsFn Try.prog 15 := ⟨_, Try.func15, by kernel_rfl, by kernel_rfl⟩

theorem fn_16_YLinkD : IsFn Try.prog 16 := ⟨_, Try.func16, by kernel_rfl, by kernel_rfl⟩

theorem fn_17_YLinkD : IsFn Try.prog 17 := ⟨_, Try.func17, by kernel_rfl, by kernel_rfl⟩

theorem fn_18_YLinkD : IsFn Try.prog 18 := ⟨_, Try.func18, by kernel_rfl, by kernel_rfl⟩

theorem fn_19_YLinkD : IsFn Try.prog 19 := ⟨_, Try.func19, by kernel_rfl, by kernel_rfl⟩

theorem fn_20_YLinkD : IsFn Try.prog 20 := ⟨_, Try.func20, by kernel_rfl, by kernel_rfl⟩

def F_law22_LinkPlays_l1 (rc : Unit → Option Bool) (sg : Unit) : Option Bool := match sg with | _ => (F_law22_awake).bind fun a0 => (some a0)

def F_law22_LinkPlays_k3 (i : Int) (rc_2 : (Int × Eref22_Link) → Option Bool) (ok : Bool) (x_4 : Eref22_Link) : Option Bool := (gif (!!ok) (F_link_Link_Waiting_nil) default).bind fun n0_3 => ((gif (!(!ok || (n0_3 != (x_4.queue.length : Int)))) (F_link_Link_Knows_nil) default).bind fun n0_4 => (if ((!ok || (n0_3 != (x_4.queue.length : Int))) || (n0_4 != x_4.peer)) = true then (some false) else (chk (inI (i + 1)) (rc_2 (i + 1, x_4)))))

def F_law22_LinkPlays_k4 (l : List Elaw22_Act) (i : Int) (x_3 : Eref22_Link) (rc_2 : (Int × Eref22_Link) → Option Bool) (x_5 : Bool) : Option Bool := if (x_5) = true then (chk ((0 : Int) ≤ i ∧ i < (l.length : Int)) ((F_link_Link_Out_nil ((l.getD (i).toNat default).again)).bind fun n0_6 => (chk ((0 : Int) ≤ i ∧ i < (l.length : Int)) ((F_ref22_Link_Out x_3 ((l.getD (i).toNat default).again)).bind fun o => ((F_ref22_SameSegs n0_6 o.1).bind fun s0_2 => (F_law22_LinkPlays_k3 i rc_2 s0_2 o.2)))))) else (chk ((0 : Int) ≤ i ∧ i < (l.length : Int)) ((F_link_Link_In_nil ({ boot := ((l.getD (i).toNat default).seg).boot, stream := ((l.getD (i).toNat default).seg).stream, seq := ((l.getD (i).toNat default).seg).seq, ackBoot := ((l.getD (i).toNat default).seg).ackBoot, ackStream := ((l.getD (i).toNat default).seg).ackStream, ackSeq := ((l.getD (i).toNat default).seg).ackSeq, has := ((l.getD (i).toNat default).seg).has, body := ((l.getD (i).toNat default).seg).body } : ESeg)).bind fun n0_7 => (chk ((0 : Int) ≤ i ∧ i < (l.length : Int)) ((F_ref22_Link_In x_3 ({ boot := ((l.getD (i).toNat default).seg).boot, stream := ((l.getD (i).toNat default).seg).stream, seq := ((l.getD (i).toNat default).seg).seq, ackBoot := ((l.getD (i).toNat default).seg).ackBoot, ackStream := ((l.getD (i).toNat default).seg).ackStream, ackSeq := ((l.getD (i).toNat default).seg).ackSeq, has := ((l.getD (i).toNat default).seg).has, body := ((l.getD (i).toNat default).seg).body } : ESeg)).bind fun i_2 => ((F_ref05_Same n0_7.1 i_2.1).bind fun s0_3 => (F_law22_LinkPlays_k3 i rc_2 (s0_3 && (n0_7.2 == i_2.2.1)) i_2.2.2))))))

def F_law22_LinkPlays_l2 (l : List Elaw22_Act) (rc_2 : (Int × Eref22_Link) → Option Bool) (sg : Int × Eref22_Link) : Option Bool := match sg with | (i, x_3) => if (((decide (i < (l.length : Int))) && (decide (i < 40))) && true) = true then (chk ((0 : Int) ≤ i ∧ i < (l.length : Int)) (if (((l.getD (i).toNat default).k) == 0) = true then (chk ((0 : Int) ≤ i ∧ i < (l.length : Int)) ((F_link_Link_Send_nil ((l.getD (i).toNat default).s)).bind fun n0_5 => (chk ((0 : Int) ≤ i ∧ i < (l.length : Int)) ((F_ref22_Link_Send x_3 ((l.getD (i).toNat default).s)).bind fun s0 => (F_law22_LinkPlays_k3 i rc_2 (n0_5 == s0.1) s0.2))))) else (if (((l.getD (i).toNat default).k) == 1) = true then (F_law22_LinkPlays_k4 l i x_3 rc_2 (((l.getD (i).toNat default).k) == 1)) else (F_law22_LinkPlays_k4 l i x_3 rc_2 (((l.getD (i).toNat default).k) == 2))))) else ((F_law22_awake).bind fun a0_2 => (some a0_2))

def F_law22_LinkPlays_l5 (rc_3 : Unit → Option Bool) (sg : Unit) : Option Bool := match sg with | _ => (F_law22_awake).bind fun a0_3 => (some a0_3)

def F_law22_LinkPlays_k7 (i_3 : Int) (rc_4 : (Int × Elink_Link × Eref22_Link) → Option Bool) (ok_2 : Bool) (a0_5 : Elink_Link) (x_8 : Eref22_Link) : Option Bool := (gif (!!ok_2) (F_link_Link_Waiting a0_5) default).bind fun w0 => ((gif (!(!ok_2 || (w0 != (x_8.queue.length : Int)))) (F_link_Link_Knows a0_5) default).bind fun k => (if ((!ok_2 || (w0 != (x_8.queue.length : Int))) || (k != x_8.peer)) = true then (some false) else (chk (inI (i_3 + 1)) (rc_4 (i_3 + 1, a0_5, x_8)))))

def F_law22_LinkPlays_k8 (l : List Elaw22_Act) (i_3 : Int) (a0_4 : Elink_Link) (x_7 : Eref22_Link) (rc_4 : (Int × Elink_Link × Eref22_Link) → Option Bool) (x_9 : Bool) : Option Bool := if (x_9) = true then (chk ((0 : Int) ≤ i_3 ∧ i_3 < (l.length : Int)) ((F_link_Link_Out a0_4 ((l.getD (i_3).toNat default).again)).bind fun o_2 => (chk ((0 : Int) ≤ i_3 ∧ i_3 < (l.length : Int)) ((F_ref22_Link_Out x_7 ((l.getD (i_3).toNat default).again)).bind fun o_3 => ((F_ref22_SameSegs o_2.1 o_3.1).bind fun s0_6 => (F_law22_LinkPlays_k7 i_3 rc_4 s0_6 o_2.2 o_3.2)))))) else (chk ((0 : Int) ≤ i_3 ∧ i_3 < (l.length : Int)) ((F_link_Link_In a0_4 ({ boot := ((l.getD (i_3).toNat default).seg).boot, stream := ((l.getD (i_3).toNat default).seg).stream, seq := ((l.getD (i_3).toNat default).seg).seq, ackBoot := ((l.getD (i_3).toNat default).seg).ackBoot, ackStream := ((l.getD (i_3).toNat default).seg).ackStream, ackSeq := ((l.getD (i_3).toNat default).seg).ackSeq, has := ((l.getD (i_3).toNat default).seg).has, body := ((l.getD (i_3).toNat default).seg).body } : ESeg)).bind fun i_4 => (chk ((0 : Int) ≤ i_3 ∧ i_3 < (l.length : Int)) ((F_ref22_Link_In x_7 ({ boot := ((l.getD (i_3).toNat default).seg).boot, stream := ((l.getD (i_3).toNat default).seg).stream, seq := ((l.getD (i_3).toNat default).seg).seq, ackBoot := ((l.getD (i_3).toNat default).seg).ackBoot, ackStream := ((l.getD (i_3).toNat default).seg).ackStream, ackSeq := ((l.getD (i_3).toNat default).seg).ackSeq, has := ((l.getD (i_3).toNat default).seg).has, body := ((l.getD (i_3).toNat default).seg).body } : ESeg)).bind fun i_5 => ((F_ref05_Same i_4.1 i_5.1).bind fun s0_7 => (F_law22_LinkPlays_k7 i_3 rc_4 (s0_7 && (i_4.2.1 == i_5.2.1)) i_4.2.2 i_5.2.2))))))

def F_law22_LinkPlays_l6 (l : List Elaw22_Act) (rc_4 : (Int × Elink_Link × Eref22_Link) → Option Bool) (sg : Int × Elink_Link × Eref22_Link) : Option Bool := match sg with | (i_3, a0_4, x_7) => if (((decide (i_3 < (l.length : Int))) && (decide (i_3 < 40))) && true) = true then (chk ((0 : Int) ≤ i_3 ∧ i_3 < (l.length : Int)) (if (((l.getD (i_3).toNat default).k) == 0) = true then (chk ((0 : Int) ≤ i_3 ∧ i_3 < (l.length : Int)) ((F_link_Link_Send a0_4 ((l.getD (i_3).toNat default).s)).bind fun s0_4 => (chk ((0 : Int) ≤ i_3 ∧ i_3 < (l.length : Int)) ((F_ref22_Link_Send x_7 ((l.getD (i_3).toNat default).s)).bind fun s0_5 => (F_law22_LinkPlays_k7 i_3 rc_4 (s0_4.1 == s0_5.1) s0_4.2 s0_5.2))))) else (if (((l.getD (i_3).toNat default).k) == 1) = true then (F_law22_LinkPlays_k8 l i_3 a0_4 x_7 rc_4 (((l.getD (i_3).toNat default).k) == 1)) else (F_law22_LinkPlays_k8 l i_3 a0_4 x_7 rc_4 (((l.getD (i_3).toNat default).k) == 2))))) else ((F_law22_awake).bind fun a0_6 => (some a0_6))

def F_law22_LinkPlays (boot : Int) (l : List Elaw22_Act) : Option Bool := (F_link_New boot).bind fun n0 => (optE n0.1 ((F_ref22_New boot).bind fun n0_2 => (optE n0_2.1 (if ((n0.2 != n0_2.2) || (!(true == true))) = true then (some false) else (iter (F_law22_LinkPlays_l1) FU ())) (fun x_2 => if ((n0.2 != n0_2.2) || (!(true == false))) = true then (some false) else (iter (F_law22_LinkPlays_l2 l) FU (0, x_2))))) (fun x => (F_ref22_New boot).bind fun n0_8 => (optE n0_8.1 (if ((n0.2 != n0_8.2) || (!(false == true))) = true then (some false) else (iter (F_law22_LinkPlays_l5) FU ())) (fun x_6 => if ((n0.2 != n0_8.2) || (!(false == false))) = true then (some false) else (iter (F_law22_LinkPlays_l6 l) FU (0, x, x_6))))))

set_option maxHeartbeats 1000000 in
theorem c_law22_LinkPlays {I D : Dm} {boot : Int} {l : List Elaw22_Act} {v1_l : Value} {w : World} {rr : Bool} (hF : F_law22_LinkPlays boot l = some rr) (H : St I D w [SlC NElaw22_Act v1_l l]) :
  Calls Try.prog 3 #[.int .i64 boot, v1_l] w (Ret fun vv w' => vv = .bool rr ∧ ∃ I', Hf I D w I' w' []) := by
 replace H := H.hf
 unfold F_law22_LinkPlays at hF
 refine f_enter 139 Try.func3 rfl rfl (Nat.le_of_ble_eq_true rfl) fun a Z => ?_
 replace Z := Z.sub (ts := [0, 1]) rfl
 refine wp_seq (f_region Z ?_); clear Z; intro Z
 refine s_runk tLinkD Z 1 rfl rfl ?_; clear Z a; intro a Z
 refine s_end Z [0, 1, 4] rfl ?_; clear Z; intro Z
 refine p_then (wp_seq ?_)
 obtain ⟨n0, hx1, hF⟩ := bnd_in hF
 refine f_region Z ?_; clear Z; intro Z
 refine s_runk tLinkD Z 1 rfl rfl ?_; clear Z a; intro a Z
 refine h_call Z H (js := []) rfl (caps := #[]) fn_8_YLinkD rfl rfl rfl rfl rfl (by decide) rfl rfl (fun D1 hS => have hq := c_link_New hx1 hS; hq) ?_; clear Z a; intro vv a w1 D2 hr hF2 Z
 obtain ⟨q1, rfl, I1, K⟩ := hr
 have H : Hf I D w I1 w1 [PtC OElink_Link q1 n0.1, SlC NElaw22_Act v1_l l] := hF2 K
 clear hF2 K
 refine s_runk tLinkD Z 5 rfl rfl ?_; clear Z a; intro a Z
 refine s_end Z [0, 1, 4, 5, 6] rfl ?_; clear Z; intro Z
 rcases optE_in hF with ⟨ho1, hF⟩ | ⟨x, ho1, hF⟩
 ·obtain ⟨hv, H⟩ := H.optN 0 rfl ho1
  subst hv
  replace H : Hf I D w I1 w1 [SlC NElaw22_Act v1_l l] := H
  refine p_then (wp_seq ?_)
  obtain ⟨n0_2, hx2, hF⟩ := bnd_in hF
  refine f_region Z ?_; clear Z; intro Z
  refine s_runk tLinkD Z 1 rfl rfl ?_; clear Z a; intro a Z
  refine h_call Z H (js := []) rfl (caps := #[]) fn_9_YLinkD rfl rfl rfl rfl rfl (by decide) rfl rfl (fun D1 hS => have hq := c_ref22_New hx2 hS; hq) ?_; clear Z a; intro vv a w2 D2 hr hF2 Z
  obtain ⟨q2, rfl, I2, K⟩ := hr
  have H : Hf I D w I2 w2 [PtC OEref22_Link q2 n0_2.1, SlC NElaw22_Act v1_l l] := hF2 K
  clear hF2 K
  refine s_runk tLinkD Z 5 rfl rfl ?_; clear Z a; intro a Z
  refine s_end Z [1, 4, 5, 6, 7, 8] rfl ?_; clear Z; intro Z
  rcases optE_in hF with ⟨ho2, hF⟩ | ⟨x_2, ho2, hF⟩
  ·obtain ⟨hv, H⟩ := H.optN 0 rfl ho2
   subst hv
   replace H : Hf I D w I2 w2 [SlC NElaw22_Act v1_l l] := H
   refine p_then (wp_seq ?_)
   refine wp_seq (f_region Z ?_); clear Z; intro Z
   refine s_runk tLinkD Z 4 rfl rfl ?_; clear Z a; intro a Z
   refine g_ob Z (p := (!(n0.2 != n0_2.2))) (v := .pointer none) (S' := [(5, .pointer none)]) rfl rfl rfl (wantB_f _) rfl (by decide) (fun hp hS => hS.sub (ts := [5]) rfl) (fun hp => Ob_c tLinkD rfl) ?_; clear Z a; intro a Z
   refine g_ob Z (p := (!(n0.2 != n0_2.2))) (v := .bool true) (S' := [(29, .pointer none)]) rfl rfl rfl (wantB_f _) rfl (by decide) (fun hp hS => (hS.conv (t := 29) rfl (cond_t hp)).sub (ts := [29]) rfl) (fun hp => Ob_pnil rfl rfl rfl Try.underlying23 (.inl ⟨rfl, rfl⟩)) ?_; clear Z a; intro a Z
   refine g_ob Z (p := (!(n0.2 != n0_2.2))) (v := .pointer none) (S' := [(7, .pointer none)]) rfl rfl rfl (wantB_f _) rfl (by decide) (fun hp hS => hS.sub (ts := [7]) rfl) (fun hp => Ob_c tLinkD rfl) ?_; clear Z a; intro a Z
   refine g_ob Z (p := (!(n0.2 != n0_2.2))) (v := .bool true) (S' := [(31, .pointer none)]) rfl rfl rfl (wantB_f _) rfl (by decide) (fun hp hS => (hS.conv (t := 31) rfl (cond_t hp)).sub (ts := [31]) rfl) (fun hp => Ob_pnil rfl rfl rfl Try.underlying27 (.inl ⟨rfl, rfl⟩)) ?_; clear Z a; intro a Z
   refine g_ob Z (p := (!(n0.2 != n0_2.2))) (v := .bool (!(true == true))) (S' := [(30, .bool true), (32, .bool true)]) rfl rfl rfl (wantB_f _) rfl (by decide) (fun hp hS => ((hS.conv (t := 30) rfl (cond_t hp)).conv (t := 32) rfl (cond_t hp)).sub (ts := [30, 32]) rfl) (fun hp => Ob_c tLinkD rfl) ?_; clear Z a; intro a Z
   refine s_ob Z (v := .bool ((n0.2 != n0_2.2) || (!(true == true)))) rfl rfl (by decide) rfl (Ob_pick rfl rfl rfl rfl (pick_or _ _)) ?_; clear Z a; intro a Z
   refine s_end Z [1, 4, 5, 7, 34] rfl ?_; clear Z; intro Z
   refine p_then ?_
   refine f_cond Z rfl (fun hc1 => ?_) (fun hc1 => ?_)
   ·replace hF := ite_t hc1 hF
    refine wp_seq (f_region Z ?_); clear Z; intro Z
    refine s_runk tLinkD Z 1 rfl rfl ?_; clear Z a; intro a Z
    refine s_end Z [1, 4, 5, 7] rfl ?_; clear Z; intro Z
    refine p_then (wp_ret ?_)
    refine p_then_r ?_
    obtain rfl := some_in hF
    exact f_ret Z (run_results1 rfl Z rfl) ⟨rfl, I2, (H.sub [] rfl).eq rfl⟩
   ·replace hF := ite_f hc1 hF
    refine wp_skip ?_
    refine p_then (wp_seq ?_)
    refine wp_seq (f_region Z ?_); clear Z; intro Z
    refine s_runk tLinkD Z 1 rfl rfl ?_; clear Z a; intro a Z
    refine s_end Z [1, 4, 5, 7, 9] rfl ?_; clear Z; intro Z
    refine p_then (wp_block ?_)
    refine f_iter hF (fun sg a' w' => match sg with | _ => Sl 139 [(1, v1_l), (4, .bool false), (5, .pointer none), (7, .pointer none), (9, .int .i64 0)] a' ∧ ∃ I2, Hf I D w I2 w' [SlC NElaw22_Act v1_l l]) ⟨Z.sub (ts := [1, 4, 5, 7, 9]) rfl, ⟨I2, (H.sub [(0, true)] rfl).eq rfl⟩⟩ ?_
    clear Z H hF a
    rintro rc _ a w3 ⟨Z, I3, H⟩ hF
    unfold F_law22_LinkPlays_l1 at hF
    try dsimp only at hF
    refine wp_seq ?_
    refine wp_seq (f_region Z ?_); clear Z; intro Z
    refine s_runk tLinkD Z 2 rfl rfl ?_; clear Z a; intro a Z
    refine s_ob Z (v := .int .i64 (l.length : Int)) rfl rfl (by decide) rfl (Ob_slen tLinkD rfl rfl rfl (H.slshape 0 rfl)) ?_; clear Z a; intro a Z
    refine s_runk tLinkD Z 2 rfl rfl ?_; clear Z a; intro a Z
    refine g_ob Z (p := (decide (0 < (l.length : Int)))) (v := .int .i64 0) (S' := [(9, .int .i64 0)]) rfl rfl rfl (wantB_t _) rfl (by decide) (fun hp hS => hS.sub (ts := [9]) rfl) (fun hp => Ob_c tLinkD rfl) ?_; clear Z a; intro a Z
    refine g_ob Z (p := (decide (0 < (l.length : Int)))) (v := .bool (decide ((0 : Int) < 40))) (S' := [(40, .int .i64 0)]) rfl rfl rfl (wantB_t _) rfl (by decide) (fun hp hS => (hS.conv (t := 40) rfl (cond_t hp)).sub (ts := [40]) rfl) (fun hp => Ob_c tLinkD rfl) ?_; clear Z a; intro a Z
    refine s_ob Z (v := .bool ((decide (0 < (l.length : Int))) && (decide ((0 : Int) < 40)))) rfl rfl (by decide) rfl (Ob_pick rfl rfl rfl rfl (pick_and _ _)) ?_; clear Z a; intro a Z
    refine s_runk tLinkD Z 1 rfl rfl ?_; clear Z a; intro a Z
    refine g_ob Z (p := ((decide (0 < (l.length : Int))) && (decide ((0 : Int) < 40)))) (v := .pointer none) (S' := [(7, .pointer none)]) rfl rfl rfl (wantB_t _) rfl (by decide) (fun hp hS => hS.sub (ts := [7]) rfl) (fun hp => Ob_c tLinkD rfl) ?_; clear Z a; intro a Z
    refine g_ob Z (p := ((decide (0 < (l.length : Int))) && (decide ((0 : Int) < 40)))) (v := .bool false) (S' := [(44, .pointer none)]) rfl rfl rfl (wantB_t _) rfl (by decide) (fun hp hS => (hS.conv (t := 44) rfl (cond_t hp)).sub (ts := [44]) rfl) (fun hp => Ob_pnil rfl rfl rfl Try.underlying27 (.inr ⟨rfl, rfl⟩)) ?_; clear Z a; intro a Z
    refine s_ob Z (v := .bool false) rfl rfl (by decide) rfl (Ob_pick rfl rfl rfl rfl (pick_and0 _)) ?_; clear Z a; intro a Z
    refine s_end Z [1, 4, 5, 7, 9, 35, 36, 37, 38, 39, 42, 43, 46] rfl ?_; clear Z; intro Z
    refine p_then ?_
    refine wp_cond_false (Z.ev rfl) ?_
    refine wp_exit ?_
    refine p_then_x ?_
    refine p_then_x ?_
    refine f_exit_here ?_
    refine p_then (wp_seq ?_)
    obtain ⟨a0, hx3, hF⟩ := bnd_in hF
    refine f_region Z ?_; clear Z; intro Z
    refine h_call Z H (js := []) rfl (caps := #[]) fn_20_YLinkD rfl rfl rfl rfl rfl (by decide) rfl rfl (fun D1 hS => have hq := c_law22_awake hx3 hS; hq) ?_; clear Z a; intro vv a w4 D2 hr hF2 Z
    obtain ⟨rfl, I4, K⟩ := hr
    have H : Hf I D w I4 w4 [SlC NElaw22_Act v1_l l] := hF2 K
    clear hF2 K
    refine s_runk tLinkD Z 1 rfl rfl ?_; clear Z a; intro a Z
    refine s_end Z [4] rfl ?_; clear Z; intro Z
    refine p_then (wp_ret ?_)
    obtain rfl := some_in hF
    exact f_ret Z (run_results1 rfl Z rfl) ⟨rfl, I4, (H.sub [] rfl).eq rfl⟩
  ·obtain ⟨b2, hv, H⟩ := H.optS 0 rfl ho2
   subst hv
   replace H : Hf I D w I2 w2 [OEref22_Link b2 x_2, SlC NElaw22_Act v1_l l] := H
   refine p_then (wp_seq ?_)
   refine wp_seq (f_region Z ?_); clear Z; intro Z
   refine s_runk tLinkD Z 4 rfl rfl ?_; clear Z a; intro a Z
   refine g_ob Z (p := (!(n0.2 != n0_2.2))) (v := .pointer none) (S' := [(5, .pointer none)]) rfl rfl rfl (wantB_f _) rfl (by decide) (fun hp hS => hS.sub (ts := [5]) rfl) (fun hp => Ob_c tLinkD rfl) ?_; clear Z a; intro a Z
   refine g_ob Z (p := (!(n0.2 != n0_2.2))) (v := .bool true) (S' := [(29, .pointer none)]) rfl rfl rfl (wantB_f _) rfl (by decide) (fun hp hS => (hS.conv (t := 29) rfl (cond_t hp)).sub (ts := [29]) rfl) (fun hp => Ob_pnil rfl rfl rfl Try.underlying23 (.inl ⟨rfl, rfl⟩)) ?_; clear Z a; intro a Z
   refine g_ob Z (p := (!(n0.2 != n0_2.2))) (v := .pointer (some ⟨b2, 0, none⟩)) (S' := [(7, .pointer (some ⟨b2, 0, none⟩))]) rfl rfl rfl (wantB_f _) rfl (by decide) (fun hp hS => hS.sub (ts := [7]) rfl) (fun hp => Ob_c tLinkD rfl) ?_; clear Z a; intro a Z
   refine g_ob Z (p := (!(n0.2 != n0_2.2))) (v := .bool false) (S' := [(31, .pointer (some ⟨b2, 0, none⟩))]) rfl rfl rfl (wantB_f _) rfl (by decide) (fun hp hS => (hS.conv (t := 31) rfl (cond_t hp)).sub (ts := [31]) rfl) (fun hp => Ob_pnil rfl rfl rfl Try.underlying27 (.inl ⟨rfl, rfl⟩)) ?_; clear Z a; intro a Z
   refine g_ob Z (p := (!(n0.2 != n0_2.2))) (v := .bool (!(true == false))) (S' := [(30, .bool true), (32, .bool false)]) rfl rfl rfl (wantB_f _) rfl (by decide) (fun hp hS => ((hS.conv (t := 30) rfl (cond_t hp)).conv (t := 32) rfl (cond_t hp)).sub (ts := [30, 32]) rfl) (fun hp => Ob_c tLinkD rfl) ?_; clear Z a; intro a Z
   refine s_ob Z (v := .bool ((n0.2 != n0_2.2) || (!(true == false)))) rfl rfl (by decide) rfl (Ob_pick rfl rfl rfl rfl (pick_or _ _)) ?_; clear Z a; intro a Z
   refine s_end Z [1, 4, 5, 7, 34] rfl ?_; clear Z; intro Z
   refine p_then ?_
   refine f_cond Z rfl (fun hc2 => ?_) (fun hc2 => ?_)
   ·replace hF := ite_t hc2 hF
    refine wp_seq (f_region Z ?_); clear Z; intro Z
    refine s_runk tLinkD Z 1 rfl rfl ?_; clear Z a; intro a Z
    refine s_end Z [1, 4, 5, 7] rfl ?_; clear Z; intro Z
    refine p_then (wp_ret ?_)
    refine p_then_r ?_
    obtain rfl := some_in hF
    exact f_ret Z (run_results1 rfl Z rfl) ⟨rfl, I2, (H.sub [] rfl).eq rfl⟩
   ·replace hF := ite_f hc2 hF
    refine wp_skip ?_
    refine p_then (wp_seq ?_)
    refine wp_seq (f_region Z ?_); clear Z; intro Z
    refine s_runk tLinkD Z 1 rfl rfl ?_; clear Z a; intro a Z
    refine s_end Z [1, 4, 5, 7, 9] rfl ?_; clear Z; intro Z
    refine p_then (wp_block ?_)
    refine f_iter hF (fun sg a' w' => match sg with | (i, x_3) => Sl 139 [(1, v1_l), (4, .bool false), (5, .pointer none), (7, .pointer (some ⟨b2, 0, none⟩)), (9, .int .i64 i)] a' ∧ ∃ I2, Hf I D w I2 w' [OEref22_Link b2 x_3, SlC NElaw22_Act v1_l l]) ⟨Z.sub (ts := [1, 4, 5, 7, 9]) rfl, ⟨I2, (H.sub [(0, false), (0, true)] rfl).eq rfl⟩⟩ ?_
    clear Z H hF a
    rintro rc_2 ⟨i, x_3⟩ a w5 ⟨Z, I5, H⟩ hF
    unfold F_law22_LinkPlays_l2 at hF
    try dsimp only at hF
    refine wp_seq ?_
    refine wp_seq (f_region Z ?_); clear Z; intro Z
    refine s_runk tLinkD Z 2 rfl rfl ?_; clear Z a; intro a Z
    refine s_ob Z (v := .int .i64 (l.length : Int)) rfl rfl (by decide) rfl (Ob_slen tLinkD rfl rfl rfl (H.slshape 1 rfl)) ?_; clear Z a; intro a Z
    refine s_runk tLinkD Z 2 rfl rfl ?_; clear Z a; intro a Z
    refine g_ob Z (p := (decide (i < (l.length : Int)))) (v := .int .i64 i) (S' := [(9, .int .i64 i)]) rfl rfl rfl (wantB_t _) rfl (by decide) (fun hp hS => hS.sub (ts := [9]) rfl) (fun hp => Ob_c tLinkD rfl) ?_; clear Z a; intro a Z
    refine g_ob Z (p := (decide (i < (l.length : Int)))) (v := .bool (decide (i < 40))) (S' := [(40, .int .i64 i)]) rfl rfl rfl (wantB_t _) rfl (by decide) (fun hp hS => (hS.conv (t := 40) rfl (cond_t hp)).sub (ts := [40]) rfl) (fun hp => Ob_c tLinkD rfl) ?_; clear Z a; intro a Z
    refine s_ob Z (v := .bool ((decide (i < (l.length : Int))) && (decide (i < 40)))) rfl rfl (by decide) rfl (Ob_pick rfl rfl rfl rfl (pick_and _ _)) ?_; clear Z a; intro a Z
    refine s_runk tLinkD Z 1 rfl rfl ?_; clear Z a; intro a Z
    refine g_ob Z (p := ((decide (i < (l.length : Int))) && (decide (i < 40)))) (v := .pointer (some ⟨b2, 0, none⟩)) (S' := [(7, .pointer (some ⟨b2, 0, none⟩))]) rfl rfl rfl (wantB_t _) rfl (by decide) (fun hp hS => hS.sub (ts := [7]) rfl) (fun hp => Ob_c tLinkD rfl) ?_; clear Z a; intro a Z
    refine g_ob Z (p := ((decide (i < (l.length : Int))) && (decide (i < 40)))) (v := .bool true) (S' := [(44, .pointer (some ⟨b2, 0, none⟩))]) rfl rfl rfl (wantB_t _) rfl (by decide) (fun hp hS => (hS.conv (t := 44) rfl (cond_t hp)).sub (ts := [44]) rfl) (fun hp => Ob_pnil rfl rfl rfl Try.underlying27 (.inr ⟨rfl, rfl⟩)) ?_; clear Z a; intro a Z
    refine s_ob Z (v := .bool (((decide (i < (l.length : Int))) && (decide (i < 40))) && true)) rfl rfl (by decide) rfl (Ob_pick rfl rfl rfl rfl (pick_and _ _)) ?_; clear Z a; intro a Z
    refine s_end Z [1, 4, 5, 7, 9, 35, 36, 37, 38, 39, 42, 43, 46] rfl ?_; clear Z; intro Z
    refine p_then ?_
    refine f_cond Z rfl (fun hc3 => ?_) (fun hc3 => ?_)
    ·replace hF := ite_t hc3 hF
     refine wp_skip ?_
     refine p_then (wp_seq ?_)
     refine wp_block ?_
     refine wp_seq (f_region Z ?_); clear Z; intro Z
     refine s_runk tLinkD Z 1 rfl rfl ?_; clear Z a; intro a Z
     refine s_end Z [1, 4, 5, 7, 9, 35, 36, 37, 38, 39, 42, 43, 46, 10] rfl ?_; clear Z; intro Z
     refine p_then ?_
     refine f_cut (fun a' w' => ∃ (ok : Bool) (x_4 : Eref22_Link), Sl 139 [(1, v1_l), (4, .bool false), (5, .pointer none), (7, .pointer (some ⟨b2, 0, none⟩)), (9, .int .i64 i), (10, .bool ok), (35, .int .i64 i), (36, v1_l), (37, .int .i64 (l.length : Int)), (38, .bool (decide (i < (l.length : Int)))), (39, .bool (decide (i < (l.length : Int)))), (42, .bool ((decide (i < (l.length : Int))) && (decide (i < 40)))), (43, .bool ((decide (i < (l.length : Int))) && (decide (i < 40)))), (46, .bool (((decide (i < (l.length : Int))) && (decide (i < 40))) && true)), (49, v1_l), (50, .int .i64 i), (51, .pointer (some ⟨blkOf v1_l, oofOf v1_l + (i).toNat * 11, none⟩)), (52, .pointer (some ⟨blkOf v1_l, oofOf v1_l + (i).toNat * 11, none⟩)), (53, .int .i64 ((l.getD (i).toNat default).k)), (82, .bool (((l.getD (i).toNat default).k) == 0)), (83, .bool (((l.getD (i).toNat default).k) == 0))] a' ∧ (∃ I2, Hf I D w I2 w' [OEref22_Link b2 x_4, SlC NElaw22_Act v1_l l]) ∧ F_law22_LinkPlays_k3 i rc_2 ok x_4 = some rr) ?_ ?_
     ·rintro a w6 ⟨ok, x_4, Z, ⟨I6, H⟩, hF⟩
      unfold F_law22_LinkPlays_k3 at hF
      try dsimp only at hF
      refine wp_seq ?_
      obtain ⟨n0_3, hx4, hF⟩ := bnd_in hF
      obtain ⟨v2, H⟩ := H.openX 0 rfl
      replace H : Hf I D w I6 w6 [BxC b2 47 (cEref22_Link x_4 v2), SlC NS v2 x_4.queue, SlC NElaw22_Act v1_l l] := H
      obtain ⟨n0_4, hx5, hF⟩ := bnd_in hF
      refine f_regionL Z (by kernel_rfl) (by kernel_rfl) (by decide) (by decide) [] [(0, 0, 0), (1, 0, 0), (3, 0, 0), (7, 0, 0), (15, 0, 0), (7, 0, 0), (39, 0, 0), (103, 0, 0), (231, 0, 0), (487, 0, 0), (1023, 0, 0), (2047, 0, 0), (4095, 0, 0), (8191, 0, 0), (16383, 0, 0), (8191, 0, 0), (40959, 0, 0), (106495, 0, 0), (237567, 0, 0), (524287, 0, 0), (1048575, 0, 0)] (by kernel_rfl) (fun jj vv => cond (Nat.blt jj 10) (cond (Nat.blt jj 5) (cond (Nat.blt jj 2) (cond (Nat.blt jj 1) (vv = .bool ok) (vv = .bool !ok)) (cond (Nat.blt jj 3) (vv = .bool !ok) (cond (Nat.blt jj 4) (vv = cond (!!ok) (.pointer none) undef) (vv = cond (!!ok) (.int .i64 n0_3) undef)))) (cond (Nat.blt jj 7) (cond (Nat.blt jj 6) (vv = cond (!!ok) (.pointer (some ⟨b2, 0, none⟩)) undef) (vv = cond (!!ok) (.pointer (some ⟨b2, 0, none⟩)) undef)) (cond (Nat.blt jj 8) (vv = cond (!!ok) (.pointer (some ⟨b2, 3, none⟩)) undef) (cond (Nat.blt jj 9) (vv = cond (!!ok) (v2) undef) (vv = cond (!!ok) (.int .i64 (x_4.queue.length : Int)) undef))))) (cond (Nat.blt jj 15) (cond (Nat.blt jj 12) (cond (Nat.blt jj 11) (vv = cond (!!ok) (.bool (n0_3 != (x_4.queue.length : Int))) undef) (vv = .bool (!ok || (n0_3 != (x_4.queue.length : Int))))) (cond (Nat.blt jj 13) (vv = .bool (!ok || (n0_3 != (x_4.queue.length : Int)))) (cond (Nat.blt jj 14) (vv = cond (!(!ok || (n0_3 != (x_4.queue.length : Int)))) (.pointer none) undef) (vv = cond (!(!ok || (n0_3 != (x_4.queue.length : Int)))) (.int .i64 n0_4) undef)))) (cond (Nat.blt jj 18) (cond (Nat.blt jj 16) (vv = cond (!(!ok || (n0_3 != (x_4.queue.length : Int)))) (.pointer (some ⟨b2, 0, none⟩)) undef) (cond (Nat.blt jj 17) (vv = cond (!(!ok || (n0_3 != (x_4.queue.length : Int)))) (.pointer (some ⟨b2, 0, none⟩)) undef) (vv = cond (!(!ok || (n0_3 != (x_4.queue.length : Int)))) (.pointer (some ⟨b2, 5, none⟩)) undef))) (cond (Nat.blt jj 19) (vv = cond (!(!ok || (n0_3 != (x_4.queue.length : Int)))) (.int .i64 x_4.peer) undef) (cond (Nat.blt jj 20) (vv = cond (!(!ok || (n0_3 != (x_4.queue.length : Int)))) (.bool (n0_4 != x_4.peer)) undef) (vv = .bool ((!ok || (n0_3 != (x_4.queue.length : Int))) || (n0_4 != x_4.peer)))))))) (fun ss vals1 xw => match ss with | _ => Gx I D w I6 w6 xw [BxC b2 47 (cEref22_Link x_4 v2), SlC NS v2 x_4.queue, SlC NElaw22_Act v1_l l]) (fun _ => Gx.start H) ?_ ?_
      ·intro fr hfr hfe
       refine .cons (fun ss hlo hhi vals1 xw hG hV => ?_) ?_
       ·obtain rfl : ss = 0 := Nat.le_antisymm hhi hlo
        rw [← hfe]
        have hS := (hfr vals1).sub (ts := [10]) (S' := [(10, .bool ok)]) rfl
        exact L_val hS rfl (Ob_c tLinkD rfl) ⟨rfl, hG⟩
       refine .cons (fun ss hlo hhi vals1 xw hG hV => ?_) ?_
       ·obtain rfl : ss = 0 := Nat.le_antisymm hhi hlo
        rw [← hfe]
        have hS := (hfr vals1).sub (ts := [117]) (S' := [(117, vals1 0)]) rfl
        replace hS := hS.conv (t := 117) rfl (show (vals1 0) = .bool ok from hV 0 (by decide))
        exact L_val hS rfl (Ob_c tLinkD rfl) ⟨rfl, hG⟩
       refine .cons (fun ss hlo hhi vals1 xw hG hV => ?_) ?_
       ·obtain rfl : ss = 0 := Nat.le_antisymm hhi hlo
        rw [← hfe]
        have hS := (hfr vals1).sub (ts := [118]) (S' := [(118, vals1 1)]) rfl
        replace hS := hS.conv (t := 118) rfl (show (vals1 1) = .bool !ok from hV 1 (by decide))
        exact L_val hS rfl (Ob_c tLinkD rfl) ⟨rfl, hG⟩
       refine .cons (fun ss hlo hhi vals1 xw hG hV => ?_) ?_
       ·obtain rfl : ss = 0 := Nat.le_antisymm hhi hlo
        rw [← hfe]
        have hS := (hfr vals1).sub (ts := [119, 5]) (S' := [(119, vals1 2), (5, .pointer none)]) rfl
        replace hS := hS.conv (t := 119) rfl (show (vals1 2) = .bool !ok from hV 2 (by decide))
        refine L_gw (p := (!!ok)) hS rfl rfl rfl (wantB_f _) (fun hp => ?_) (fun hp => ⟨by rw [hp]; rfl, hG⟩)
        exact L_val hS rfl (Ob_c tLinkD rfl) ⟨(by rw [hp]; rfl), hG⟩
       refine .cons (fun ss hlo hhi vals1 xw hG hV => ?_) ?_
       ·obtain rfl : ss = 0 := Nat.le_antisymm hhi hlo
        rw [← hfe]
        have hS := (hfr vals1).sub (ts := [120, 119]) (S' := [(120, vals1 3), (119, vals1 2)]) rfl
        replace hS := hS.conv (t := 120) rfl (show (vals1 3) = cond (!!ok) (.pointer none) undef from hV 3 (by decide))
        replace hS := hS.conv (t := 119) rfl (show (vals1 2) = .bool !ok from hV 2 (by decide))
        refine L_gw (p := (!!ok)) hS rfl rfl rfl (wantB_f _) (fun hp => ?_) (fun hp => ⟨by rw [hp]; rfl, hG⟩)
        replace hS := hS.conv (t := 120) rfl (cond_t hp)
        obtain ⟨I2, hI2, H⟩ := Gx.ex hG
        refine L_call (caps := #[]) hS fn_18_YLinkD rfl rfl rfl rfl rfl ((have hq := c_link_Link_Waiting_nil (gif_in hx4 hp) ((H).pick0 (js := []) rfl rfl); plainC hq)) fun r yw hr => ?_
        obtain ⟨rfl, hb⟩ := hr
        exact ⟨(by rw [hp]; rfl), Gx.blw hG hb⟩
       refine .cons (fun ss hlo hhi vals1 xw hG hV => ?_) ?_
       ·obtain rfl : ss = 0 := Nat.le_antisymm hhi hlo
        rw [← hfe]
        have hS := (hfr vals1).sub (ts := [119, 7]) (S' := [(119, vals1 2), (7, .pointer (some ⟨b2, 0, none⟩))]) rfl
        replace hS := hS.conv (t := 119) rfl (show (vals1 2) = .bool !ok from hV 2 (by decide))
        refine L_gw (p := (!!ok)) hS rfl rfl rfl (wantB_f _) (fun hp => ?_) (fun hp => ⟨by rw [hp]; rfl, hG⟩)
        exact L_val hS rfl (Ob_c tLinkD rfl) ⟨(by rw [hp]; rfl), hG⟩
       refine .cons (fun ss hlo hhi vals1 xw hG hV => ?_) ?_
       ·obtain rfl : ss = 0 := Nat.le_antisymm hhi hlo
        rw [← hfe]
        have hS := (hfr vals1).sub (ts := [122, 119]) (S' := [(122, vals1 5), (119, vals1 2)]) rfl
        replace hS := hS.conv (t := 122) rfl (show (vals1 5) = cond (!!ok) (.pointer (some ⟨b2, 0, none⟩)) undef from hV 5 (by decide))
        replace hS := hS.conv (t := 119) rfl (show (vals1 2) = .bool !ok from hV 2 (by decide))
        refine L_gw (p := (!!ok)) hS rfl rfl rfl (wantB_f _) (fun hp => ?_) (fun hp => ⟨by rw [hp]; rfl, hG⟩)
        replace hS := hS.conv (t := 122) rfl (cond_t hp)
        exact L_val hS rfl (Ob_c tLinkD rfl) ⟨(by rw [hp]; rfl), hG⟩
       refine .cons (fun ss hlo hhi vals1 xw hG hV => ?_) ?_
       ·obtain rfl : ss = 0 := Nat.le_antisymm hhi hlo
        rw [← hfe]
        have hS := (hfr vals1).sub (ts := [123, 119]) (S' := [(123, vals1 6), (119, vals1 2)]) rfl
        replace hS := hS.conv (t := 123) rfl (show (vals1 6) = cond (!!ok) (.pointer (some ⟨b2, 0, none⟩)) undef from hV 6 (by decide))
        replace hS := hS.conv (t := 119) rfl (show (vals1 2) = .bool !ok from hV 2 (by decide))
        refine L_gw (p := (!!ok)) hS rfl rfl rfl (wantB_f _) (fun hp => ?_) (fun hp => ⟨by rw [hp]; rfl, hG⟩)
        replace hS := hS.conv (t := 123) rfl (cond_t hp)
        exact L_val hS rfl (Ob_c tLinkD rfl) ⟨(by rw [hp]; rfl), hG⟩
       refine .cons (fun ss hlo hhi vals1 xw hG hV => ?_) ?_
       ·obtain rfl : ss = 0 := Nat.le_antisymm hhi hlo
        rw [← hfe]
        have hS := (hfr vals1).sub (ts := [124, 119]) (S' := [(124, vals1 7), (119, vals1 2)]) rfl
        replace hS := hS.conv (t := 124) rfl (show (vals1 7) = cond (!!ok) (.pointer (some ⟨b2, 3, none⟩)) undef from hV 7 (by decide))
        replace hS := hS.conv (t := 119) rfl (show (vals1 2) = .bool !ok from hV 2 (by decide))
        refine L_gw (p := (!!ok)) hS rfl rfl rfl (wantB_f _) (fun hp => ?_) (fun hp => ⟨by rw [hp]; rfl, hG⟩)
        replace hS := hS.conv (t := 124) rfl (cond_t hp)
        obtain ⟨I2, hI2, H⟩ := Gx.ex hG
        exact L_val hS rfl (Ob_load tLinkD rfl rfl rfl ((H.bx 0 rfl).cell 3 rfl)) ⟨(by rw [hp]; rfl), hG⟩
       refine .cons (fun ss hlo hhi vals1 xw hG hV => ?_) ?_
       ·obtain rfl : ss = 0 := Nat.le_antisymm hhi hlo
        rw [← hfe]
        have hS := (hfr vals1).sub (ts := [125, 119]) (S' := [(125, vals1 8), (119, vals1 2)]) rfl
        replace hS := hS.conv (t := 125) rfl (show (vals1 8) = cond (!!ok) (v2) undef from hV 8 (by decide))
        replace hS := hS.conv (t := 119) rfl (show (vals1 2) = .bool !ok from hV 2 (by decide))
        refine L_gw (p := (!!ok)) hS rfl rfl rfl (wantB_f _) (fun hp => ?_) (fun hp => ⟨by rw [hp]; rfl, hG⟩)
        replace hS := hS.conv (t := 125) rfl (cond_t hp)
        obtain ⟨I2, hI2, H⟩ := Gx.ex hG
        exact L_val hS rfl (Ob_slen tLinkD rfl rfl rfl (H.slshape 1 rfl)) ⟨(by rw [hp]; rfl), hG⟩
       refine .cons (fun ss hlo hhi vals1 xw hG hV => ?_) ?_
       ·obtain rfl : ss = 0 := Nat.le_antisymm hhi hlo
        rw [← hfe]
        have hS := (hfr vals1).sub (ts := [121, 126, 119]) (S' := [(121, vals1 4), (126, vals1 9), (119, vals1 2)]) rfl
        replace hS := hS.conv (t := 121) rfl (show (vals1 4) = cond (!!ok) (.int .i64 n0_3) undef from hV 4 (by decide))
        replace hS := hS.conv (t := 126) rfl (show (vals1 9) = cond (!!ok) (.int .i64 (x_4.queue.length : Int)) undef from hV 9 (by decide))
        replace hS := hS.conv (t := 119) rfl (show (vals1 2) = .bool !ok from hV 2 (by decide))
        refine L_gw (p := (!!ok)) hS rfl rfl rfl (wantB_f _) (fun hp => ?_) (fun hp => ⟨by rw [hp]; rfl, hG⟩)
        replace hS := hS.conv (t := 121) rfl (cond_t hp)
        replace hS := hS.conv (t := 126) rfl (cond_t hp)
        exact L_val hS rfl (Ob_c tLinkD rfl) ⟨(by rw [hp]; rfl), hG⟩
       refine .cons (fun ss hlo hhi vals1 xw hG hV => ?_) ?_
       ·obtain rfl : ss = 0 := Nat.le_antisymm hhi hlo
        rw [← hfe]
        have hS := (hfr vals1).sub (ts := [119, 127]) (S' := [(119, vals1 2), (127, vals1 10)]) rfl
        replace hS := hS.conv (t := 119) rfl (show (vals1 2) = .bool !ok from hV 2 (by decide))
        replace hS := hS.conv (t := 127) rfl (show (vals1 10) = cond (!!ok) (.bool (n0_3 != (x_4.queue.length : Int))) undef from hV 10 (by decide))
        exact L_val hS rfl (Ob_pick rfl rfl rfl rfl (pick_or _ _)) ⟨rfl, hG⟩
       refine .cons (fun ss hlo hhi vals1 xw hG hV => ?_) ?_
       ·obtain rfl : ss = 0 := Nat.le_antisymm hhi hlo
        rw [← hfe]
        have hS := (hfr vals1).sub (ts := [128]) (S' := [(128, vals1 11)]) rfl
        replace hS := hS.conv (t := 128) rfl (show (vals1 11) = .bool (!ok || (n0_3 != (x_4.queue.length : Int))) from hV 11 (by decide))
        exact L_val hS rfl (Ob_c tLinkD rfl) ⟨rfl, hG⟩
       refine .cons (fun ss hlo hhi vals1 xw hG hV => ?_) ?_
       ·obtain rfl : ss = 0 := Nat.le_antisymm hhi hlo
        rw [← hfe]
        have hS := (hfr vals1).sub (ts := [129, 5]) (S' := [(129, vals1 12), (5, .pointer none)]) rfl
        replace hS := hS.conv (t := 129) rfl (show (vals1 12) = .bool (!ok || (n0_3 != (x_4.queue.length : Int))) from hV 12 (by decide))
        refine L_gw (p := (!(!ok || (n0_3 != (x_4.queue.length : Int))))) hS rfl rfl rfl (wantB_f _) (fun hp => ?_) (fun hp => ⟨by rw [hp]; rfl, hG⟩)
        exact L_val hS rfl (Ob_c tLinkD rfl) ⟨(by rw [hp]; rfl), hG⟩
       refine .cons (fun ss hlo hhi vals1 xw hG hV => ?_) ?_
       ·obtain rfl : ss = 0 := Nat.le_antisymm hhi hlo
        rw [← hfe]
        have hS := (hfr vals1).sub (ts := [130, 129]) (S' := [(130, vals1 13), (129, vals1 12)]) rfl
        replace hS := hS.conv (t := 130) rfl (show (vals1 13) = cond (!(!ok || (n0_3 != (x_4.queue.length : Int)))) (.pointer none) undef from hV 13 (by decide))
        replace hS := hS.conv (t := 129) rfl (show (vals1 12) = .bool (!ok || (n0_3 != (x_4.queue.length : Int))) from hV 12 (by decide))
        refine L_gw (p := (!(!ok || (n0_3 != (x_4.queue.length : Int))))) hS rfl rfl rfl (wantB_f _) (fun hp => ?_) (fun hp => ⟨by rw [hp]; rfl, hG⟩)
        replace hS := hS.conv (t := 130) rfl (cond_t hp)
        obtain ⟨I2, hI2, H⟩ := Gx.ex hG
        refine L_call (caps := #[]) hS fn_19_YLinkD rfl rfl rfl rfl rfl ((have hq := c_link_Link_Knows_nil (gif_in hx5 hp) ((H).pick0 (js := []) rfl rfl); plainC hq)) fun r yw hr => ?_
        obtain ⟨rfl, hb⟩ := hr
        exact ⟨(by rw [hp]; rfl), Gx.blw hG hb⟩
       refine .cons (fun ss hlo hhi vals1 xw hG hV => ?_) ?_
       ·obtain rfl : ss = 0 := Nat.le_antisymm hhi hlo
        rw [← hfe]
        have hS := (hfr vals1).sub (ts := [129, 7]) (S' := [(129, vals1 12), (7, .pointer (some ⟨b2, 0, none⟩))]) rfl
        replace hS := hS.conv (t := 129) rfl (show (vals1 12) = .bool (!ok || (n0_3 != (x_4.queue.length : Int))) from hV 12 (by decide))
        refine L_gw (p := (!(!ok || (n0_3 != (x_4.queue.length : Int))))) hS rfl rfl rfl (wantB_f _) (fun hp => ?_) (fun hp => ⟨by rw [hp]; rfl, hG⟩)
        exact L_val hS rfl (Ob_c tLinkD rfl) ⟨(by rw [hp]; rfl), hG⟩
       refine .cons (fun ss hlo hhi vals1 xw hG hV => ?_) ?_
       ·obtain rfl : ss = 0 := Nat.le_antisymm hhi hlo
        rw [← hfe]
        have hS := (hfr vals1).sub (ts := [132, 129]) (S' := [(132, vals1 15), (129, vals1 12)]) rfl
        replace hS := hS.conv (t := 132) rfl (show (vals1 15) = cond (!(!ok || (n0_3 != (x_4.queue.length : Int)))) (.pointer (some ⟨b2, 0, none⟩)) undef from hV 15 (by decide))
        replace hS := hS.conv (t := 129) rfl (show (vals1 12) = .bool (!ok || (n0_3 != (x_4.queue.length : Int))) from hV 12 (by decide))
        refine L_gw (p := (!(!ok || (n0_3 != (x_4.queue.length : Int))))) hS rfl rfl rfl (wantB_f _) (fun hp => ?_) (fun hp => ⟨by rw [hp]; rfl, hG⟩)
        replace hS := hS.conv (t := 132) rfl (cond_t hp)
        exact L_val hS rfl (Ob_c tLinkD rfl) ⟨(by rw [hp]; rfl), hG⟩
       refine .cons (fun ss hlo hhi vals1 xw hG hV => ?_) ?_
       ·obtain rfl : ss = 0 := Nat.le_antisymm hhi hlo
        rw [← hfe]
        have hS := (hfr vals1).sub (ts := [133, 129]) (S' := [(133, vals1 16), (129, vals1 12)]) rfl
        replace hS := hS.conv (t := 133) rfl (show (vals1 16) = cond (!(!ok || (n0_3 != (x_4.queue.length : Int)))) (.pointer (some ⟨b2, 0, none⟩)) undef from hV 16 (by decide))
        replace hS := hS.conv (t := 129) rfl (show (vals1 12) = .bool (!ok || (n0_3 != (x_4.queue.length : Int))) from hV 12 (by decide))
        refine L_gw (p := (!(!ok || (n0_3 != (x_4.queue.length : Int))))) hS rfl rfl rfl (wantB_f _) (fun hp => ?_) (fun hp => ⟨by rw [hp]; rfl, hG⟩)
        replace hS := hS.conv (t := 133) rfl (cond_t hp)
        exact L_val hS rfl (Ob_c tLinkD rfl) ⟨(by rw [hp]; rfl), hG⟩
       refine .cons (fun ss hlo hhi vals1 xw hG hV => ?_) ?_
       ·obtain rfl : ss = 0 := Nat.le_antisymm hhi hlo
        rw [← hfe]
        have hS := (hfr vals1).sub (ts := [134, 129]) (S' := [(134, vals1 17), (129, vals1 12)]) rfl
        replace hS := hS.conv (t := 134) rfl (show (vals1 17) = cond (!(!ok || (n0_3 != (x_4.queue.length : Int)))) (.pointer (some ⟨b2, 5, none⟩)) undef from hV 17 (by decide))
        replace hS := hS.conv (t := 129) rfl (show (vals1 12) = .bool (!ok || (n0_3 != (x_4.queue.length : Int))) from hV 12 (by decide))
        refine L_gw (p := (!(!ok || (n0_3 != (x_4.queue.length : Int))))) hS rfl rfl rfl (wantB_f _) (fun hp => ?_) (fun hp => ⟨by rw [hp]; rfl, hG⟩)
        replace hS := hS.conv (t := 134) rfl (cond_t hp)
        obtain ⟨I2, hI2, H⟩ := Gx.ex hG
        exact L_val hS rfl (Ob_load tLinkD rfl rfl rfl ((H.bx 0 rfl).cell 5 rfl)) ⟨(by rw [hp]; rfl), hG⟩
       refine .cons (fun ss hlo hhi vals1 xw hG hV => ?_) ?_
       ·obtain rfl : ss = 0 := Nat.le_antisymm hhi hlo
        rw [← hfe]
        have hS := (hfr vals1).sub (ts := [131, 135, 129]) (S' := [(131, vals1 14), (135, vals1 18), (129, vals1 12)]) rfl
        replace hS := hS.conv (t := 131) rfl (show (vals1 14) = cond (!(!ok || (n0_3 != (x_4.queue.length : Int)))) (.int .i64 n0_4) undef from hV 14 (by decide))
        replace hS := hS.conv (t := 135) rfl (show (vals1 18) = cond (!(!ok || (n0_3 != (x_4.queue.length : Int)))) (.int .i64 x_4.peer) undef from hV 18 (by decide))
        replace hS := hS.conv (t := 129) rfl (show (vals1 12) = .bool (!ok || (n0_3 != (x_4.queue.length : Int))) from hV 12 (by decide))
        refine L_gw (p := (!(!ok || (n0_3 != (x_4.queue.length : Int))))) hS rfl rfl rfl (wantB_f _) (fun hp => ?_) (fun hp => ⟨by rw [hp]; rfl, hG⟩)
        replace hS := hS.conv (t := 131) rfl (cond_t hp)
        replace hS := hS.conv (t := 135) rfl (cond_t hp)
        exact L_val hS rfl (Ob_c tLinkD rfl) ⟨(by rw [hp]; rfl), hG⟩
       refine .cons (fun ss hlo hhi vals1 xw hG hV => ?_) ?_
       ·obtain rfl : ss = 0 := Nat.le_antisymm hhi hlo
        rw [← hfe]
        have hS := (hfr vals1).sub (ts := [129, 136]) (S' := [(129, vals1 12), (136, vals1 19)]) rfl
        replace hS := hS.conv (t := 129) rfl (show (vals1 12) = .bool (!ok || (n0_3 != (x_4.queue.length : Int))) from hV 12 (by decide))
        replace hS := hS.conv (t := 136) rfl (show (vals1 19) = cond (!(!ok || (n0_3 != (x_4.queue.length : Int)))) (.bool (n0_4 != x_4.peer)) undef from hV 19 (by decide))
        exact L_val hS rfl (Ob_pick rfl rfl rfl rfl (pick_or _ _)) ⟨rfl, hG⟩
       exact .nil
      ·intro vals1 a w7 Z hG hV
       replace Z := Z.sub (ts := [1, 4, 5, 7, 9, 10, 35, 36, 37, 38, 39, 42, 43, 46, 49, 50, 51, 52, 53, 82, 83, 117, 118, 119, 128, 129, 137]) (S' := [(1, v1_l), (4, .bool false), (5, .pointer none), (7, .pointer (some ⟨b2, 0, none⟩)), (9, .int .i64 i), (10, .bool ok), (35, .int .i64 i), (36, v1_l), (37, .int .i64 (l.length : Int)), (38, .bool (decide (i < (l.length : Int)))), (39, .bool (decide (i < (l.length : Int)))), (42, .bool ((decide (i < (l.length : Int))) && (decide (i < 40)))), (43, .bool ((decide (i < (l.length : Int))) && (decide (i < 40)))), (46, .bool (((decide (i < (l.length : Int))) && (decide (i < 40))) && true)), (49, v1_l), (50, .int .i64 i), (51, .pointer (some ⟨blkOf v1_l, oofOf v1_l + (i).toNat * 11, none⟩)), (52, .pointer (some ⟨blkOf v1_l, oofOf v1_l + (i).toNat * 11, none⟩)), (53, .int .i64 ((l.getD (i).toNat default).k)), (82, .bool (((l.getD (i).toNat default).k) == 0)), (83, .bool (((l.getD (i).toNat default).k) == 0)), (117, vals1 0), (118, vals1 1), (119, vals1 2), (128, vals1 11), (129, vals1 12), (137, vals1 20)]) rfl
       replace Z := Z.conv (t := 117) rfl (show (vals1 0) = .bool ok from hV 0 (by decide))
       replace Z := Z.conv (t := 118) rfl (show (vals1 1) = .bool !ok from hV 1 (by decide))
       replace Z := Z.conv (t := 119) rfl (show (vals1 2) = .bool !ok from hV 2 (by decide))
       replace Z := Z.conv (t := 128) rfl (show (vals1 11) = .bool (!ok || (n0_3 != (x_4.queue.length : Int))) from hV 11 (by decide))
       replace Z := Z.conv (t := 129) rfl (show (vals1 12) = .bool (!ok || (n0_3 != (x_4.queue.length : Int))) from hV 12 (by decide))
       replace Z := Z.conv (t := 137) rfl (show (vals1 20) = .bool ((!ok || (n0_3 != (x_4.queue.length : Int))) || (n0_4 != x_4.peer)) from hV 20 (by decide))
       obtain ⟨I7, _, H⟩ := Gx.ex hG
       clear hG hV
       replace Z := Z.sub (ts := [1, 4, 5, 7, 9, 10, 35, 36, 37, 38, 39, 42, 43, 46, 49, 50, 51, 52, 53, 82, 83, 117, 118, 119, 128, 129, 137]) rfl
       replace H : Hf I D w I7 w7 [BxC b2 47 (cEref22_Link x_4 v2), SlC NS v2 x_4.queue, SlC NElaw22_Act v1_l l] := H
       refine p_then ?_
       refine f_cond Z rfl (fun hc4 => ?_) (fun hc4 => ?_)
       ·replace hF := ite_t hc4 hF
        refine wp_seq (f_region Z ?_); clear Z; intro Z
        refine s_runk tLinkD Z 1 rfl rfl ?_; clear Z a; intro a Z
        refine s_end Z [1, 4, 5, 7, 9, 10, 35, 36, 37, 38, 39, 42, 43, 46, 49, 50, 51, 52, 53, 82, 83, 117, 118, 119, 128, 129, 137] rfl ?_; clear Z; intro Z
        refine p_then (wp_ret ?_)
        refine p_blk_r ?_
        refine p_then_r ?_
        refine p_then_r ?_
        refine p_blk_r ?_
        refine p_then_r ?_
        obtain rfl := some_in hF
        exact f_ret Z (run_results1 rfl Z rfl) ⟨rfl, I7, (H.sub [] rfl).eq rfl⟩
       ·replace hF := ite_f hc4 hF
        refine wp_skip ?_
        refine p_blk ?_
        refine p_then ?_
        obtain ⟨hg1, hF⟩ := chk_in hF
        refine f_region Z ?_; clear Z; intro Z
        refine s_runk tLinkD Z 1 rfl rfl ?_; clear Z a; intro a Z
        refine s_ob Z (v := .int .i64 (i + 1)) rfl rfl (by decide) rfl (Ob_add rfl rfl rfl (wrI hg1)) ?_; clear Z a; intro a Z
        refine s_runk tLinkD Z 1 rfl rfl ?_; clear Z a; intro a Z
        refine s_end Z [1, 4, 5, 7, 9, 10, 35, 36, 37, 38, 39, 42, 43, 46, 49, 50, 51, 52, 53, 82, 83, 117, 118, 119, 128, 129, 137, 47, 48] rfl ?_; clear Z; intro Z
        refine p_then ?_
        replace H : Hf I D w I7 w7 [OEref22_Link b2 x_4, SlC NS v2 x_4.queue, SlC NElaw22_Act v1_l l] := H.shutX (v2) [(0, false), (0, true)] rfl
        exact ⟨(i + 1, x_4), ⟨Z.sub (ts := [1, 4, 5, 7, 9]) rfl, ⟨I7, (H.sub [(0, false), (1, true)] rfl).eq rfl⟩⟩, hF⟩
     ·skip
      refine wp_seq ?_
      obtain ⟨hg2, hF⟩ := chk_in hF
      refine f_region Z ?_; clear Z; intro Z
      refine s_runk tLinkD Z 2 rfl rfl ?_; clear Z a; intro a Z
      refine s_ob Z (v := .pointer (some ⟨blkOf v1_l, oofOf v1_l + (i).toNat * 11, none⟩)) rfl rfl (by decide) rfl (Ob_sidx tLinkD rfl rfl rfl rfl (slPl (H.sl 1 rfl) hg2) hg2) ?_; clear Z a; intro a Z
      refine s_runk tLinkD Z 1 rfl rfl ?_; clear Z a; intro a Z
      refine s_ob Z (v := .int .i64 ((l.getD (i).toNat default).k)) rfl rfl (by decide) rfl (Ob_load tLinkD rfl rfl rfl ((slFl (H.sl 1 rfl) hg2) 0 _ rfl)) ?_; clear Z a; intro a Z
      refine s_end Z [1, 4, 5, 7, 9, 35, 36, 37, 38, 39, 42, 43, 46, 10, 49, 50, 51, 52, 53] rfl ?_; clear Z; intro Z
      refine p_then (wp_block ?_)
      refine wp_seq (f_region Z ?_); clear Z; intro Z
      refine s_runk tLinkD Z 2 rfl rfl ?_; clear Z a; intro a Z
      refine s_end Z [1, 4, 5, 7, 9, 35, 36, 37, 38, 39, 42, 43, 46, 10, 49, 50, 51, 52, 53, 83, 82] rfl ?_; clear Z; intro Z
      refine p_then ?_
      refine f_cond Z rfl (fun hc5 => ?_) (fun hc5 => ?_)
      ·replace hF := ite_t hc5 hF
       obtain ⟨hg3, hF⟩ := chk_in hF
       obtain ⟨n0_5, hx6, hF⟩ := bnd_in hF
       obtain ⟨hg4, hF⟩ := chk_in hF
       obtain ⟨s0, hx7, hF⟩ := bnd_in hF
       refine f_regionL Z (by kernel_rfl) (by kernel_rfl) (by decide) (by decide) [13] [(0, 0, 0), (0, 0, 0), (0, 0, 0), (6, 0, 0), (14, 0, 0), (30, 0, 0), (63, 0, 0), (0, 0, 0), (0, 0, 0), (0, 0, 0), (768, 0, 0), (1792, 0, 0), (3840, 0, 0), (8191, 0, 0), (16383, 1, 1), (32767, 1, 1)] (by kernel_rfl) (fun jj vv => cond (Nat.blt jj 8) (cond (Nat.blt jj 4) (cond (Nat.blt jj 2) (cond (Nat.blt jj 1) (vv = .pointer none) (vv = v1_l)) (cond (Nat.blt jj 3) (vv = .int .i64 i) (vv = .pointer (some ⟨blkOf v1_l, oofOf v1_l + (i).toNat * 11, none⟩)))) (cond (Nat.blt jj 6) (cond (Nat.blt jj 5) (vv = .pointer (some ⟨blkOf v1_l, oofOf v1_l + (i).toNat * 11 + 1, none⟩)) (vv = .string ((l.getD (i).toNat default).s))) (cond (Nat.blt jj 7) (vv = .int .i64 n0_5) (vv = .pointer (some ⟨b2, 0, none⟩))))) (cond (Nat.blt jj 12) (cond (Nat.blt jj 10) (cond (Nat.blt jj 9) (vv = v1_l) (vv = .int .i64 i)) (cond (Nat.blt jj 11) (vv = .pointer (some ⟨blkOf v1_l, oofOf v1_l + (i).toNat * 11, none⟩)) (vv = .pointer (some ⟨blkOf v1_l, oofOf v1_l + (i).toNat * 11 + 1, none⟩)))) (cond (Nat.blt jj 14) (cond (Nat.blt jj 13) (vv = .string ((l.getD (i).toNat default).s)) (vv = .int .i64 s0.1)) (cond (Nat.blt jj 15) (vv = .bool (n0_5 == s0.1)) (vv = .bool (n0_5 == s0.1)))))) (fun ss vals2 xw => match ss with | 0 => Gx I D w I5 w5 xw [OEref22_Link b2 x_3, SlC NElaw22_Act v1_l l] | _ => Gx I D w I5 w5 xw [OEref22_Link b2 s0.2, SlC NElaw22_Act v1_l l]) (fun _ => Gx.start H) ?_ ?_
       ·intro fr hfr hfe
        refine .cons (fun ss hlo hhi vals2 xw hG hV => ?_) ?_
        ·obtain rfl : ss = 0 := Nat.le_antisymm hhi hlo
         rw [← hfe]
         have hS := (hfr vals2).sub (ts := [5]) (S' := [(5, .pointer none)]) rfl
         exact L_val hS rfl (Ob_c tLinkD rfl) ⟨rfl, hG⟩
        refine .cons (fun ss hlo hhi vals2 xw hG hV => ?_) ?_
        ·obtain rfl : ss = 0 := Nat.le_antisymm hhi hlo
         rw [← hfe]
         have hS := (hfr vals2).sub (ts := [1]) (S' := [(1, v1_l)]) rfl
         exact L_val hS rfl (Ob_c tLinkD rfl) ⟨rfl, hG⟩
        refine .cons (fun ss hlo hhi vals2 xw hG hV => ?_) ?_
        ·obtain rfl : ss = 0 := Nat.le_antisymm hhi hlo
         rw [← hfe]
         have hS := (hfr vals2).sub (ts := [9]) (S' := [(9, .int .i64 i)]) rfl
         exact L_val hS rfl (Ob_c tLinkD rfl) ⟨rfl, hG⟩
        refine .cons (fun ss hlo hhi vals2 xw hG hV => ?_) ?_
        ·obtain rfl : ss = 0 := Nat.le_antisymm hhi hlo
         rw [← hfe]
         have hS := (hfr vals2).sub (ts := [85, 86]) (S' := [(85, vals2 1), (86, vals2 2)]) rfl
         replace hS := hS.conv (t := 85) rfl (show (vals2 1) = v1_l from hV 1 (by decide))
         replace hS := hS.conv (t := 86) rfl (show (vals2 2) = .int .i64 i from hV 2 (by decide))
         obtain ⟨I2, hI2, H⟩ := Gx.ex hG
         exact L_val hS rfl (Ob_sidx tLinkD rfl rfl rfl rfl (slPl (H.sl 1 rfl) hg3) hg3) ⟨rfl, hG⟩
        refine .cons (fun ss hlo hhi vals2 xw hG hV => ?_) ?_
        ·obtain rfl : ss = 0 := Nat.le_antisymm hhi hlo
         rw [← hfe]
         have hS := (hfr vals2).sub (ts := [87]) (S' := [(87, vals2 3)]) rfl
         replace hS := hS.conv (t := 87) rfl (show (vals2 3) = .pointer (some ⟨blkOf v1_l, oofOf v1_l + (i).toNat * 11, none⟩) from hV 3 (by decide))
         exact L_val hS rfl (Ob_c tLinkD rfl) ⟨rfl, hG⟩
        refine .cons (fun ss hlo hhi vals2 xw hG hV => ?_) ?_
        ·obtain rfl : ss = 0 := Nat.le_antisymm hhi hlo
         rw [← hfe]
         have hS := (hfr vals2).sub (ts := [88]) (S' := [(88, vals2 4)]) rfl
         replace hS := hS.conv (t := 88) rfl (show (vals2 4) = .pointer (some ⟨blkOf v1_l, oofOf v1_l + (i).toNat * 11 + 1, none⟩) from hV 4 (by decide))
         obtain ⟨I2, hI2, H⟩ := Gx.ex hG
         exact L_val hS rfl (Ob_load tLinkD rfl rfl rfl ((slFl (H.sl 1 rfl) hg3) 1 _ rfl)) ⟨rfl, hG⟩
        refine .cons (fun ss hlo hhi vals2 xw hG hV => ?_) ?_
        ·obtain rfl : ss = 0 := Nat.le_antisymm hhi hlo
         rw [← hfe]
         have hS := (hfr vals2).sub (ts := [84, 89]) (S' := [(84, vals2 0), (89, vals2 5)]) rfl
         replace hS := hS.conv (t := 84) rfl (show (vals2 0) = .pointer none from hV 0 (by decide))
         replace hS := hS.conv (t := 89) rfl (show (vals2 5) = .string ((l.getD (i).toNat default).s) from hV 5 (by decide))
         obtain ⟨I2, hI2, H⟩ := Gx.ex hG
         refine L_call (caps := #[]) hS fn_10_YLinkD rfl rfl rfl rfl rfl ((have hq := c_link_Link_Send_nil hx6 ((H).pick0 (js := []) rfl rfl); plainC hq)) fun r yw hr => ?_
         obtain ⟨rfl, hb⟩ := hr
         exact ⟨rfl, Gx.blw hG hb⟩
        refine .cons (fun ss hlo hhi vals2 xw hG hV => ?_) ?_
        ·obtain rfl : ss = 0 := Nat.le_antisymm hhi hlo
         rw [← hfe]
         have hS := (hfr vals2).sub (ts := [7]) (S' := [(7, .pointer (some ⟨b2, 0, none⟩))]) rfl
         exact L_val hS rfl (Ob_c tLinkD rfl) ⟨rfl, hG⟩
        refine .cons (fun ss hlo hhi vals2 xw hG hV => ?_) ?_
        ·obtain rfl : ss = 0 := Nat.le_antisymm hhi hlo
         rw [← hfe]
         have hS := (hfr vals2).sub (ts := [1]) (S' := [(1, v1_l)]) rfl
         exact L_val hS rfl (Ob_c tLinkD rfl) ⟨rfl, hG⟩
        refine .cons (fun ss hlo hhi vals2 xw hG hV => ?_) ?_
        ·obtain rfl : ss = 0 := Nat.le_antisymm hhi hlo
         rw [← hfe]
         have hS := (hfr vals2).sub (ts := [9]) (S' := [(9, .int .i64 i)]) rfl
         exact L_val hS rfl (Ob_c tLinkD rfl) ⟨rfl, hG⟩
        refine .cons (fun ss hlo hhi vals2 xw hG hV => ?_) ?_
        ·obtain rfl : ss = 0 := Nat.le_antisymm hhi hlo
         rw [← hfe]
         have hS := (hfr vals2).sub (ts := [92, 93]) (S' := [(92, vals2 8), (93, vals2 9)]) rfl
         replace hS := hS.conv (t := 92) rfl (show (vals2 8) = v1_l from hV 8 (by decide))
         replace hS := hS.conv (t := 93) rfl (show (vals2 9) = .int .i64 i from hV 9 (by decide))
         obtain ⟨I2, hI2, H⟩ := Gx.ex hG
         exact L_val hS rfl (Ob_sidx tLinkD rfl rfl rfl rfl (slPl (H.sl 1 rfl) hg4) hg4) ⟨rfl, hG⟩
        refine .cons (fun ss hlo hhi vals2 xw hG hV => ?_) ?_
        ·obtain rfl : ss = 0 := Nat.le_antisymm hhi hlo
         rw [← hfe]
         have hS := (hfr vals2).sub (ts := [94]) (S' := [(94, vals2 10)]) rfl
         replace hS := hS.conv (t := 94) rfl (show (vals2 10) = .pointer (some ⟨blkOf v1_l, oofOf v1_l + (i).toNat * 11, none⟩) from hV 10 (by decide))
         exact L_val hS rfl (Ob_c tLinkD rfl) ⟨rfl, hG⟩
        refine .cons (fun ss hlo hhi vals2 xw hG hV => ?_) ?_
        ·obtain rfl : ss = 0 := Nat.le_antisymm hhi hlo
         rw [← hfe]
         have hS := (hfr vals2).sub (ts := [95]) (S' := [(95, vals2 11)]) rfl
         replace hS := hS.conv (t := 95) rfl (show (vals2 11) = .pointer (some ⟨blkOf v1_l, oofOf v1_l + (i).toNat * 11 + 1, none⟩) from hV 11 (by decide))
         obtain ⟨I2, hI2, H⟩ := Gx.ex hG
         exact L_val hS rfl (Ob_load tLinkD rfl rfl rfl ((slFl (H.sl 1 rfl) hg4) 1 _ rfl)) ⟨rfl, hG⟩
        refine .cons (fun ss hlo hhi vals2 xw hG hV => ?_) ?_
        ·obtain rfl : ss = 0 := Nat.le_antisymm hhi hlo
         rw [← hfe]
         have hS := (hfr vals2).sub (ts := [91, 96]) (S' := [(91, vals2 7), (96, vals2 12)]) rfl
         replace hS := hS.conv (t := 91) rfl (show (vals2 7) = .pointer (some ⟨b2, 0, none⟩) from hV 7 (by decide))
         replace hS := hS.conv (t := 96) rfl (show (vals2 12) = .string ((l.getD (i).toNat default).s) from hV 12 (by decide))
         obtain ⟨I2, hI2, H⟩ := Gx.ex hG
         refine L_hcall H (js := [(0, false)]) rfl (caps := #[]) hS fn_11_YLinkD rfl rfl rfl rfl rfl (fun D1 hS => have hq := c_ref22_Link_Send hx7 hS; hq) fun _ yw D1 hr hF2 => ?_
         obtain ⟨rfl, I3, K⟩ := hr
         obtain ⟨hK, H2⟩ := hF2 K
         exact ⟨rfl, Gx.go hG hI2 hK K.imm H2⟩
        refine .cons (fun ss hlo hhi vals2 xw hG hV => ?_) ?_
        ·obtain rfl : ss = 1 := Nat.le_antisymm hhi hlo
         rw [← hfe]
         have hS := (hfr vals2).sub (ts := [90, 97]) (S' := [(90, vals2 6), (97, vals2 13)]) rfl
         replace hS := hS.conv (t := 90) rfl (show (vals2 6) = .int .i64 n0_5 from hV 6 (by decide))
         replace hS := hS.conv (t := 97) rfl (show (vals2 13) = .int .i64 s0.1 from hV 13 (by decide))
         exact L_val hS rfl (Ob_c tLinkD rfl) ⟨rfl, hG⟩
        refine .cons (fun ss hlo hhi vals2 xw hG hV => ?_) ?_
        ·obtain rfl : ss = 1 := Nat.le_antisymm hhi hlo
         rw [← hfe]
         have hS := (hfr vals2).sub (ts := [98]) (S' := [(98, vals2 14)]) rfl
         replace hS := hS.conv (t := 98) rfl (show (vals2 14) = .bool (n0_5 == s0.1) from hV 14 (by decide))
         exact L_val hS rfl (Ob_c tLinkD rfl) ⟨rfl, hG⟩
        exact .nil
       ·intro vals2 a w8 Z hG hV
        replace Z := Z.sub (ts := [1, 4, 5, 7, 9, 35, 36, 37, 38, 39, 42, 43, 46, 10, 49, 50, 51, 52, 53, 83, 82, 84, 85, 86, 87, 88, 89, 90, 91, 92, 93, 94, 95, 96, 97, 98]) (S' := [(1, v1_l), (4, .bool false), (5, .pointer none), (7, .pointer (some ⟨b2, 0, none⟩)), (9, .int .i64 i), (35, .int .i64 i), (36, v1_l), (37, .int .i64 (l.length : Int)), (38, .bool (decide (i < (l.length : Int)))), (39, .bool (decide (i < (l.length : Int)))), (42, .bool ((decide (i < (l.length : Int))) && (decide (i < 40)))), (43, .bool ((decide (i < (l.length : Int))) && (decide (i < 40)))), (46, .bool (((decide (i < (l.length : Int))) && (decide (i < 40))) && true)), (10, vals2 15), (49, v1_l), (50, .int .i64 i), (51, .pointer (some ⟨blkOf v1_l, oofOf v1_l + (i).toNat * 11, none⟩)), (52, .pointer (some ⟨blkOf v1_l, oofOf v1_l + (i).toNat * 11, none⟩)), (53, .int .i64 ((l.getD (i).toNat default).k)), (83, .bool (((l.getD (i).toNat default).k) == 0)), (82, .bool (((l.getD (i).toNat default).k) == 0)), (84, vals2 0), (85, vals2 1), (86, vals2 2), (87, vals2 3), (88, vals2 4), (89, vals2 5), (90, vals2 6), (91, vals2 7), (92, vals2 8), (93, vals2 9), (94, vals2 10), (95, vals2 11), (96, vals2 12), (97, vals2 13), (98, vals2 14)]) rfl
        replace Z := Z.conv (t := 10) rfl (show (vals2 15) = .bool (n0_5 == s0.1) from hV 15 (by decide))
        replace Z := Z.conv (t := 84) rfl (show (vals2 0) = .pointer none from hV 0 (by decide))
        replace Z := Z.conv (t := 85) rfl (show (vals2 1) = v1_l from hV 1 (by decide))
        replace Z := Z.conv (t := 86) rfl (show (vals2 2) = .int .i64 i from hV 2 (by decide))
        replace Z := Z.conv (t := 87) rfl (show (vals2 3) = .pointer (some ⟨blkOf v1_l, oofOf v1_l + (i).toNat * 11, none⟩) from hV 3 (by decide))
        replace Z := Z.conv (t := 88) rfl (show (vals2 4) = .pointer (some ⟨blkOf v1_l, oofOf v1_l + (i).toNat * 11 + 1, none⟩) from hV 4 (by decide))
        replace Z := Z.conv (t := 89) rfl (show (vals2 5) = .string ((l.getD (i).toNat default).s) from hV 5 (by decide))
        replace Z := Z.conv (t := 90) rfl (show (vals2 6) = .int .i64 n0_5 from hV 6 (by decide))
        replace Z := Z.conv (t := 91) rfl (show (vals2 7) = .pointer (some ⟨b2, 0, none⟩) from hV 7 (by decide))
        replace Z := Z.conv (t := 92) rfl (show (vals2 8) = v1_l from hV 8 (by decide))
        replace Z := Z.conv (t := 93) rfl (show (vals2 9) = .int .i64 i from hV 9 (by decide))
        replace Z := Z.conv (t := 94) rfl (show (vals2 10) = .pointer (some ⟨blkOf v1_l, oofOf v1_l + (i).toNat * 11, none⟩) from hV 10 (by decide))
        replace Z := Z.conv (t := 95) rfl (show (vals2 11) = .pointer (some ⟨blkOf v1_l, oofOf v1_l + (i).toNat * 11 + 1, none⟩) from hV 11 (by decide))
        replace Z := Z.conv (t := 96) rfl (show (vals2 12) = .string ((l.getD (i).toNat default).s) from hV 12 (by decide))
        replace Z := Z.conv (t := 97) rfl (show (vals2 13) = .int .i64 s0.1 from hV 13 (by decide))
        replace Z := Z.conv (t := 98) rfl (show (vals2 14) = .bool (n0_5 == s0.1) from hV 14 (by decide))
        obtain ⟨I8, _, H⟩ := Gx.ex hG
        clear hG hV
        replace Z := Z.sub (ts := [1, 4, 5, 7, 9, 35, 36, 37, 38, 39, 42, 43, 46, 10, 49, 50, 51, 52, 53, 83, 82, 84, 85, 86, 87, 88, 89, 90, 91, 92, 93, 94, 95, 96, 97, 98]) rfl
        replace H : Hf I D w I8 w8 [OEref22_Link b2 s0.2, SlC NElaw22_Act v1_l l] := H
        refine p_blk ?_
        refine p_then ?_
        exact ⟨n0_5 == s0.1, s0.2, Z.sub (ts := [1, 4, 5, 7, 9, 10, 35, 36, 37, 38, 39, 42, 43, 46, 49, 50, 51, 52, 53, 82, 83]) rfl, ⟨I8, (H.sub [(0, false), (0, true)] rfl).eq rfl⟩, hF⟩
      ·replace hF := ite_f hc5 hF
       refine f_cut (fun a' w' => ∃ (x_5 : Bool), Sl 139 [(1, v1_l), (4, .bool false), (5, .pointer none), (7, .pointer (some ⟨b2, 0, none⟩)), (9, .int .i64 i), (10, .bool true), (35, .int .i64 i), (36, v1_l), (37, .int .i64 (l.length : Int)), (38, .bool (decide (i < (l.length : Int)))), (39, .bool (decide (i < (l.length : Int)))), (42, .bool ((decide (i < (l.length : Int))) && (decide (i < 40)))), (43, .bool ((decide (i < (l.length : Int))) && (decide (i < 40)))), (46, .bool (((decide (i < (l.length : Int))) && (decide (i < 40))) && true)), (49, v1_l), (50, .int .i64 i), (51, .pointer (some ⟨blkOf v1_l, oofOf v1_l + (i).toNat * 11, none⟩)), (52, .pointer (some ⟨blkOf v1_l, oofOf v1_l + (i).toNat * 11, none⟩)), (53, .int .i64 ((l.getD (i).toNat default).k)), (82, .bool (((l.getD (i).toNat default).k) == 0)), (83, .bool (((l.getD (i).toNat default).k) == 0)), (99, .bool x_5), (100, .bool (((l.getD (i).toNat default).k) == 1))] a' ∧ (∃ I2, Hf I D w I2 w' [OEref22_Link b2 x_3, SlC NElaw22_Act v1_l l]) ∧ F_law22_LinkPlays_k4 l i x_3 rc_2 x_5 = some rr) ?_ ?_
       ·rintro a w9 ⟨x_5, Z, ⟨I9, H⟩, hF⟩
        unfold F_law22_LinkPlays_k4 at hF
        try dsimp only at hF
        refine f_cond Z rfl (fun hc6 => ?_) (fun hc6 => ?_)
        ·replace hF := ite_t hc6 hF
         obtain ⟨hg5, hF⟩ := chk_in hF
         obtain ⟨n0_6, hx8, hF⟩ := bnd_in hF
         obtain ⟨hg6, hF⟩ := chk_in hF
         obtain ⟨o, hx9, hF⟩ := bnd_in hF
         obtain ⟨s0_2, hx10, hF⟩ := bnd_in hF
         refine f_regionL Z (by kernel_rfl) (by kernel_rfl) (by decide) (by decide) [6, 13] [(0, 0, 0), (0, 0, 0), (0, 0, 0), (6, 0, 0), (14, 0, 0), (30, 0, 0), (63, 0, 0), (0, 0, 1), (0, 0, 1), (0, 0, 1), (768, 0, 1), (1792, 0, 1), (3840, 0, 1), (8191, 1, 1), (16383, 2, 2), (32767, 2, 2)] (by kernel_rfl) (fun jj vv => cond (Nat.blt jj 8) (cond (Nat.blt jj 4) (cond (Nat.blt jj 2) (cond (Nat.blt jj 1) (vv = .pointer none) (vv = v1_l)) (cond (Nat.blt jj 3) (vv = .int .i64 i) (vv = .pointer (some ⟨blkOf v1_l, oofOf v1_l + (i).toNat * 11, none⟩)))) (cond (Nat.blt jj 6) (cond (Nat.blt jj 5) (vv = .pointer (some ⟨blkOf v1_l, oofOf v1_l + (i).toNat * 11 + 2, none⟩)) (vv = .bool ((l.getD (i).toNat default).again))) (cond (Nat.blt jj 7) (True) (vv = .pointer (some ⟨b2, 0, none⟩))))) (cond (Nat.blt jj 12) (cond (Nat.blt jj 10) (cond (Nat.blt jj 9) (vv = v1_l) (vv = .int .i64 i)) (cond (Nat.blt jj 11) (vv = .pointer (some ⟨blkOf v1_l, oofOf v1_l + (i).toNat * 11, none⟩)) (vv = .pointer (some ⟨blkOf v1_l, oofOf v1_l + (i).toNat * 11 + 2, none⟩)))) (cond (Nat.blt jj 14) (cond (Nat.blt jj 13) (vv = .bool ((l.getD (i).toNat default).again)) (True)) (cond (Nat.blt jj 15) (vv = .bool s0_2) (vv = .bool s0_2))))) (fun ss vals3 xw => match ss with | 0 => Gx I D w I9 w9 xw [OEref22_Link b2 x_3, SlC NElaw22_Act v1_l l] | 1 => Gx I D w I9 w9 xw [SlC NESeg (vals3 6) n0_6, OEref22_Link b2 x_3, SlC NElaw22_Act v1_l l] | _ => Gx I D w I9 w9 xw [OEref22_Link b2 o.2, SlC NESeg (vals3 13) o.1, SlC NESeg (vals3 6) n0_6, SlC NElaw22_Act v1_l l]) (fun _ => Gx.start H) ?_ ?_
         ·intro fr hfr hfe
          refine .cons (fun ss hlo hhi vals3 xw hG hV => ?_) ?_
          ·obtain rfl : ss = 0 := Nat.le_antisymm hhi hlo
           rw [← hfe]
           have hS := (hfr vals3).sub (ts := [5]) (S' := [(5, .pointer none)]) rfl
           exact L_val hS rfl (Ob_c tLinkD rfl) ⟨rfl, hG⟩
          refine .cons (fun ss hlo hhi vals3 xw hG hV => ?_) ?_
          ·obtain rfl : ss = 0 := Nat.le_antisymm hhi hlo
           rw [← hfe]
           have hS := (hfr vals3).sub (ts := [1]) (S' := [(1, v1_l)]) rfl
           exact L_val hS rfl (Ob_c tLinkD rfl) ⟨rfl, hG⟩
          refine .cons (fun ss hlo hhi vals3 xw hG hV => ?_) ?_
          ·obtain rfl : ss = 0 := Nat.le_antisymm hhi hlo
           rw [← hfe]
           have hS := (hfr vals3).sub (ts := [9]) (S' := [(9, .int .i64 i)]) rfl
           exact L_val hS rfl (Ob_c tLinkD rfl) ⟨rfl, hG⟩
          refine .cons (fun ss hlo hhi vals3 xw hG hV => ?_) ?_
          ·obtain rfl : ss = 0 := Nat.le_antisymm hhi hlo
           rw [← hfe]
           have hS := (hfr vals3).sub (ts := [103, 104]) (S' := [(103, vals3 1), (104, vals3 2)]) rfl
           replace hS := hS.conv (t := 103) rfl (show (vals3 1) = v1_l from hV 1 (by decide))
           replace hS := hS.conv (t := 104) rfl (show (vals3 2) = .int .i64 i from hV 2 (by decide))
           obtain ⟨I2, hI2, H⟩ := Gx.ex hG
           exact L_val hS rfl (Ob_sidx tLinkD rfl rfl rfl rfl (slPl (H.sl 1 rfl) hg5) hg5) ⟨rfl, hG⟩
          refine .cons (fun ss hlo hhi vals3 xw hG hV => ?_) ?_
          ·obtain rfl : ss = 0 := Nat.le_antisymm hhi hlo
           rw [← hfe]
           have hS := (hfr vals3).sub (ts := [105]) (S' := [(105, vals3 3)]) rfl
           replace hS := hS.conv (t := 105) rfl (show (vals3 3) = .pointer (some ⟨blkOf v1_l, oofOf v1_l + (i).toNat * 11, none⟩) from hV 3 (by decide))
           exact L_val hS rfl (Ob_c tLinkD rfl) ⟨rfl, hG⟩
          refine .cons (fun ss hlo hhi vals3 xw hG hV => ?_) ?_
          ·obtain rfl : ss = 0 := Nat.le_antisymm hhi hlo
           rw [← hfe]
           have hS := (hfr vals3).sub (ts := [106]) (S' := [(106, vals3 4)]) rfl
           replace hS := hS.conv (t := 106) rfl (show (vals3 4) = .pointer (some ⟨blkOf v1_l, oofOf v1_l + (i).toNat * 11 + 2, none⟩) from hV 4 (by decide))
           obtain ⟨I2, hI2, H⟩ := Gx.ex hG
           exact L_val hS rfl (Ob_load tLinkD rfl rfl rfl ((slFl (H.sl 1 rfl) hg5) 2 _ rfl)) ⟨rfl, hG⟩
          refine .cons (fun ss hlo hhi vals3 xw hG hV => ?_) ?_
          ·obtain rfl : ss = 0 := Nat.le_antisymm hhi hlo
           rw [← hfe]
           have hS := (hfr vals3).sub (ts := [102, 107]) (S' := [(102, vals3 0), (107, vals3 5)]) rfl
           replace hS := hS.conv (t := 102) rfl (show (vals3 0) = .pointer none from hV 0 (by decide))
           replace hS := hS.conv (t := 107) rfl (show (vals3 5) = .bool ((l.getD (i).toNat default).again) from hV 5 (by decide))
           obtain ⟨I2, hI2, H⟩ := Gx.ex hG
           refine L_hcall H (js := []) rfl (caps := #[]) hS fn_13_YLinkD rfl rfl rfl rfl rfl (fun D1 hS => have hq := c_link_Link_Out_nil hx8 hS; hq) fun _ yw D1 hr hF2 => ?_
           obtain ⟨q0_, rfl, I3, K⟩ := hr
           obtain ⟨hK, H2⟩ := hF2 K
           exact ⟨trivial, Gx.go hG hI2 hK K.imm H2⟩
          refine .cons (fun ss hlo hhi vals3 xw hG hV => ?_) ?_
          ·obtain rfl | rfl : ss = 0 ∨ ss = 1 := st1 hlo hhi
           all_goals
           ·rw [← hfe]
            have hS := (hfr vals3).sub (ts := [7]) (S' := [(7, .pointer (some ⟨b2, 0, none⟩))]) rfl
            exact L_val hS rfl (Ob_c tLinkD rfl) ⟨rfl, hG⟩
          refine .cons (fun ss hlo hhi vals3 xw hG hV => ?_) ?_
          ·obtain rfl | rfl : ss = 0 ∨ ss = 1 := st1 hlo hhi
           all_goals
           ·rw [← hfe]
            have hS := (hfr vals3).sub (ts := [1]) (S' := [(1, v1_l)]) rfl
            exact L_val hS rfl (Ob_c tLinkD rfl) ⟨rfl, hG⟩
          refine .cons (fun ss hlo hhi vals3 xw hG hV => ?_) ?_
          ·obtain rfl | rfl : ss = 0 ∨ ss = 1 := st1 hlo hhi
           all_goals
           ·rw [← hfe]
            have hS := (hfr vals3).sub (ts := [9]) (S' := [(9, .int .i64 i)]) rfl
            exact L_val hS rfl (Ob_c tLinkD rfl) ⟨rfl, hG⟩
          refine .cons (fun ss hlo hhi vals3 xw hG hV => ?_) ?_
          ·obtain rfl | rfl : ss = 0 ∨ ss = 1 := st1 hlo hhi
           ·rw [← hfe]
            have hS := (hfr vals3).sub (ts := [110, 111]) (S' := [(110, vals3 8), (111, vals3 9)]) rfl
            replace hS := hS.conv (t := 110) rfl (show (vals3 8) = v1_l from hV 8 (by decide))
            replace hS := hS.conv (t := 111) rfl (show (vals3 9) = .int .i64 i from hV 9 (by decide))
            obtain ⟨I2, hI2, H⟩ := Gx.ex hG
            exact L_val hS rfl (Ob_sidx tLinkD rfl rfl rfl rfl (slPl (H.sl 1 rfl) hg6) hg6) ⟨rfl, hG⟩
           ·rw [← hfe]
            have hS := (hfr vals3).sub (ts := [110, 111]) (S' := [(110, vals3 8), (111, vals3 9)]) rfl
            replace hS := hS.conv (t := 110) rfl (show (vals3 8) = v1_l from hV 8 (by decide))
            replace hS := hS.conv (t := 111) rfl (show (vals3 9) = .int .i64 i from hV 9 (by decide))
            obtain ⟨I2, hI2, H⟩ := Gx.ex hG
            exact L_val hS rfl (Ob_sidx tLinkD rfl rfl rfl rfl (slPl (H.sl 2 rfl) hg6) hg6) ⟨rfl, hG⟩
          refine .cons (fun ss hlo hhi vals3 xw hG hV => ?_) ?_
          ·obtain rfl | rfl : ss = 0 ∨ ss = 1 := st1 hlo hhi
           all_goals
           ·rw [← hfe]
            have hS := (hfr vals3).sub (ts := [112]) (S' := [(112, vals3 10)]) rfl
            replace hS := hS.conv (t := 112) rfl (show (vals3 10) = .pointer (some ⟨blkOf v1_l, oofOf v1_l + (i).toNat * 11, none⟩) from hV 10 (by decide))
            exact L_val hS rfl (Ob_c tLinkD rfl) ⟨rfl, hG⟩
          refine .cons (fun ss hlo hhi vals3 xw hG hV => ?_) ?_
          ·obtain rfl | rfl : ss = 0 ∨ ss = 1 := st1 hlo hhi
           ·rw [← hfe]
            have hS := (hfr vals3).sub (ts := [113]) (S' := [(113, vals3 11)]) rfl
            replace hS := hS.conv (t := 113) rfl (show (vals3 11) = .pointer (some ⟨blkOf v1_l, oofOf v1_l + (i).toNat * 11 + 2, none⟩) from hV 11 (by decide))
            obtain ⟨I2, hI2, H⟩ := Gx.ex hG
            exact L_val hS rfl (Ob_load tLinkD rfl rfl rfl ((slFl (H.sl 1 rfl) hg6) 2 _ rfl)) ⟨rfl, hG⟩
           ·rw [← hfe]
            have hS := (hfr vals3).sub (ts := [113]) (S' := [(113, vals3 11)]) rfl
            replace hS := hS.conv (t := 113) rfl (show (vals3 11) = .pointer (some ⟨blkOf v1_l, oofOf v1_l + (i).toNat * 11 + 2, none⟩) from hV 11 (by decide))
            obtain ⟨I2, hI2, H⟩ := Gx.ex hG
            exact L_val hS rfl (Ob_load tLinkD rfl rfl rfl ((slFl (H.sl 2 rfl) hg6) 2 _ rfl)) ⟨rfl, hG⟩
          refine .cons (fun ss hlo hhi vals3 xw hG hV => ?_) ?_
          ·obtain rfl : ss = 1 := Nat.le_antisymm hhi hlo
           rw [← hfe]
           have hS := (hfr vals3).sub (ts := [109, 114]) (S' := [(109, vals3 7), (114, vals3 12)]) rfl
           replace hS := hS.conv (t := 109) rfl (show (vals3 7) = .pointer (some ⟨b2, 0, none⟩) from hV 7 (by decide))
           replace hS := hS.conv (t := 114) rfl (show (vals3 12) = .bool ((l.getD (i).toNat default).again) from hV 12 (by decide))
           obtain ⟨I2, hI2, H⟩ := Gx.ex hG
           refine L_hcall H (js := [(1, false)]) rfl (caps := #[]) hS fn_14_YLinkD rfl rfl rfl rfl rfl (fun D1 hS => have hq := c_ref22_Link_Out hx9 hS; hq) fun _ yw D1 hr hF2 => ?_
           obtain ⟨q0_, rfl, I3, K⟩ := hr
           obtain ⟨hK, H2⟩ := hF2 K
           exact ⟨trivial, Gx.go hG hI2 hK K.imm H2⟩
          refine .cons (fun ss hlo hhi vals3 xw hG hV => ?_) ?_
          ·obtain rfl : ss = 2 := Nat.le_antisymm hhi hlo
           rw [← hfe]
           have hS := (hfr vals3).sub (ts := [108, 115]) (S' := [(108, vals3 6), (115, vals3 13)]) rfl
           obtain ⟨I2, hI2, H⟩ := Gx.ex hG
           refine L_call (caps := #[]) hS fn_12_YLinkD rfl rfl rfl rfl rfl ((have hq := c_ref22_SameSegs hx10 ((H).pick0 (js := [(2, true), (1, true)]) rfl rfl); plainC hq)) fun r yw hr => ?_
           obtain ⟨rfl, hb⟩ := hr
           exact ⟨rfl, Gx.blw hG hb⟩
          refine .cons (fun ss hlo hhi vals3 xw hG hV => ?_) ?_
          ·obtain rfl : ss = 2 := Nat.le_antisymm hhi hlo
           rw [← hfe]
           have hS := (hfr vals3).sub (ts := [116]) (S' := [(116, vals3 14)]) rfl
           replace hS := hS.conv (t := 116) rfl (show (vals3 14) = .bool s0_2 from hV 14 (by decide))
           exact L_val hS rfl (Ob_c tLinkD rfl) ⟨rfl, hG⟩
          exact .nil
         ·intro vals3 a w10 Z hG hV
          replace Z := Z.sub (ts := [1, 4, 5, 7, 9, 10, 35, 36, 37, 38, 39, 42, 43, 46, 49, 50, 51, 52, 53, 82, 83, 99, 100, 102, 103, 104, 105, 106, 107, 108, 109, 110, 111, 112, 113, 114, 115, 116]) (S' := [(1, v1_l), (4, .bool false), (5, .pointer none), (7, .pointer (some ⟨b2, 0, none⟩)), (9, .int .i64 i), (10, vals3 15), (35, .int .i64 i), (36, v1_l), (37, .int .i64 (l.length : Int)), (38, .bool (decide (i < (l.length : Int)))), (39, .bool (decide (i < (l.length : Int)))), (42, .bool ((decide (i < (l.length : Int))) && (decide (i < 40)))), (43, .bool ((decide (i < (l.length : Int))) && (decide (i < 40)))), (46, .bool (((decide (i < (l.length : Int))) && (decide (i < 40))) && true)), (49, v1_l), (50, .int .i64 i), (51, .pointer (some ⟨blkOf v1_l, oofOf v1_l + (i).toNat * 11, none⟩)), (52, .pointer (some ⟨blkOf v1_l, oofOf v1_l + (i).toNat * 11, none⟩)), (53, .int .i64 ((l.getD (i).toNat default).k)), (82, .bool (((l.getD (i).toNat default).k) == 0)), (83, .bool (((l.getD (i).toNat default).k) == 0)), (99, .bool x_5), (100, .bool (((l.getD (i).toNat default).k) == 1)), (102, vals3 0), (103, vals3 1), (104, vals3 2), (105, vals3 3), (106, vals3 4), (107, vals3 5), (108, vals3 6), (109, vals3 7), (110, vals3 8), (111, vals3 9), (112, vals3 10), (113, vals3 11), (114, vals3 12), (115, vals3 13), (116, vals3 14)]) rfl
          replace Z := Z.conv (t := 10) rfl (show (vals3 15) = .bool s0_2 from hV 15 (by decide))
          replace Z := Z.conv (t := 102) rfl (show (vals3 0) = .pointer none from hV 0 (by decide))
          replace Z := Z.conv (t := 103) rfl (show (vals3 1) = v1_l from hV 1 (by decide))
          replace Z := Z.conv (t := 104) rfl (show (vals3 2) = .int .i64 i from hV 2 (by decide))
          replace Z := Z.conv (t := 105) rfl (show (vals3 3) = .pointer (some ⟨blkOf v1_l, oofOf v1_l + (i).toNat * 11, none⟩) from hV 3 (by decide))
          replace Z := Z.conv (t := 106) rfl (show (vals3 4) = .pointer (some ⟨blkOf v1_l, oofOf v1_l + (i).toNat * 11 + 2, none⟩) from hV 4 (by decide))
          replace Z := Z.conv (t := 107) rfl (show (vals3 5) = .bool ((l.getD (i).toNat default).again) from hV 5 (by decide))
          replace Z := Z.conv (t := 109) rfl (show (vals3 7) = .pointer (some ⟨b2, 0, none⟩) from hV 7 (by decide))
          replace Z := Z.conv (t := 110) rfl (show (vals3 8) = v1_l from hV 8 (by decide))
          replace Z := Z.conv (t := 111) rfl (show (vals3 9) = .int .i64 i from hV 9 (by decide))
          replace Z := Z.conv (t := 112) rfl (show (vals3 10) = .pointer (some ⟨blkOf v1_l, oofOf v1_l + (i).toNat * 11, none⟩) from hV 10 (by decide))
          replace Z := Z.conv (t := 113) rfl (show (vals3 11) = .pointer (some ⟨blkOf v1_l, oofOf v1_l + (i).toNat * 11 + 2, none⟩) from hV 11 (by decide))
          replace Z := Z.conv (t := 114) rfl (show (vals3 12) = .bool ((l.getD (i).toNat default).again) from hV 12 (by decide))
          replace Z := Z.conv (t := 116) rfl (show (vals3 14) = .bool s0_2 from hV 14 (by decide))
          obtain ⟨I10, _, H⟩ := Gx.ex hG
          clear hG hV
          replace Z := Z.sub (ts := [1, 4, 5, 7, 9, 10, 35, 36, 37, 38, 39, 42, 43, 46, 49, 50, 51, 52, 53, 82, 83, 99, 100, 102, 103, 104, 105, 106, 107, 108, 109, 110, 111, 112, 113, 114, 115, 116]) rfl
          replace H : Hf I D w I10 w10 [OEref22_Link b2 o.2, SlC NESeg (vals3 13) o.1, SlC NESeg (vals3 6) n0_6, SlC NElaw22_Act v1_l l] := H
          refine p_blk ?_
          refine p_then ?_
          exact ⟨s0_2, o.2, Z.sub (ts := [1, 4, 5, 7, 9, 10, 35, 36, 37, 38, 39, 42, 43, 46, 49, 50, 51, 52, 53, 82, 83]) rfl, ⟨I10, (H.sub [(0, false), (2, true)] rfl).eq rfl⟩, hF⟩
        ·replace hF := ite_f hc6 hF
         refine wp_seq ?_
         obtain ⟨hg7, hF⟩ := chk_in hF
         obtain ⟨n0_7, hx11, hF⟩ := bnd_in hF
         refine f_region Z ?_; clear Z; intro Z
         refine s_runk tLinkD Z 3 rfl rfl ?_; clear Z a; intro a Z
         refine s_ob Z (v := .pointer (some ⟨blkOf v1_l, oofOf v1_l + (i).toNat * 11, none⟩)) rfl rfl (by decide) rfl (Ob_sidx tLinkD rfl rfl rfl rfl (slPl (H.sl 1 rfl) hg7) hg7) ?_; clear Z a; intro a Z
         refine s_runk tLinkD Z 1 rfl rfl ?_; clear Z a; intro a Z
         refine s_ob Z (v := .agg #[.int .i64 (((l.getD (i).toNat default).seg).boot), .int .i64 (((l.getD (i).toNat default).seg).stream), .int .i64 (((l.getD (i).toNat default).seg).seq), .int .i64 (((l.getD (i).toNat default).seg).ackBoot), .int .i64 (((l.getD (i).toNat default).seg).ackStream), .int .i64 (((l.getD (i).toNat default).seg).ackSeq), .bool (((l.getD (i).toNat default).seg).has), .string (((l.getD (i).toNat default).seg).body)]) rfl rfl (by decide) rfl (Ob_loads tLinkD rfl rfl rfl ((slFl (H.sl 1 rfl) hg7).part 3 rfl)) ?_; clear Z a; intro a Z
         refine h_call Z H (js := []) rfl (caps := #[]) fn_15_YLinkD rfl rfl rfl rfl rfl (by decide) rfl rfl (fun D1 hS => have hq := c_link_Link_In_nil hx11 hS; hq) ?_; clear Z a; intro vv a w11 D2 hr hF2 Z
         obtain ⟨q3, rfl, I11, K⟩ := hr
         have H : Hf I D w I11 w11 [SlC NS q3 n0_7.1, OEref22_Link b2 x_3, SlC NElaw22_Act v1_l l] := hF2 K
         clear hF2 K
         refine s_runk tLinkD Z 5 rfl rfl ?_; clear Z a; intro a Z
         refine s_end Z [1, 4, 5, 7, 9, 10, 35, 36, 37, 38, 39, 42, 43, 46, 49, 50, 51, 52, 53, 82, 83, 99, 100, 55, 56, 57, 58, 59, 60, 61, 54, 62, 63, 11, 12] rfl ?_; clear Z; intro Z
         refine p_then (wp_seq ?_)
         obtain ⟨hg8, hF⟩ := chk_in hF
         obtain ⟨i_2, hx12, hF⟩ := bnd_in hF
         refine f_region Z ?_; clear Z; intro Z
         refine s_runk tLinkD Z 3 rfl rfl ?_; clear Z a; intro a Z
         refine s_ob Z (v := .pointer (some ⟨blkOf v1_l, oofOf v1_l + (i).toNat * 11, none⟩)) rfl rfl (by decide) rfl (Ob_sidx tLinkD rfl rfl rfl rfl (slPl (H.sl 2 rfl) hg8) hg8) ?_; clear Z a; intro a Z
         refine s_runk tLinkD Z 1 rfl rfl ?_; clear Z a; intro a Z
         refine s_ob Z (v := .agg #[.int .i64 (((l.getD (i).toNat default).seg).boot), .int .i64 (((l.getD (i).toNat default).seg).stream), .int .i64 (((l.getD (i).toNat default).seg).seq), .int .i64 (((l.getD (i).toNat default).seg).ackBoot), .int .i64 (((l.getD (i).toNat default).seg).ackStream), .int .i64 (((l.getD (i).toNat default).seg).ackSeq), .bool (((l.getD (i).toNat default).seg).has), .string (((l.getD (i).toNat default).seg).body)]) rfl rfl (by decide) rfl (Ob_loads tLinkD rfl rfl rfl ((slFl (H.sl 2 rfl) hg8).part 3 rfl)) ?_; clear Z a; intro a Z
         refine h_call Z H (js := [(1, false)]) rfl (caps := #[]) fn_16_YLinkD rfl rfl rfl rfl rfl (by decide) rfl rfl (fun D1 hS => have hq := c_ref22_Link_In hx12 hS; hq) ?_; clear Z a; intro vv a w12 D2 hr hF2 Z
         obtain ⟨q4, rfl, I12, K⟩ := hr
         have H : Hf I D w I12 w12 [OEref22_Link b2 i_2.2.2, SlC NS q4 i_2.1, SlC NS q3 n0_7.1, SlC NElaw22_Act v1_l l] := hF2 K
         clear hF2 K
         refine s_runk tLinkD Z 5 rfl rfl ?_; clear Z a; intro a Z
         refine s_end Z [1, 4, 5, 7, 9, 10, 35, 36, 37, 38, 39, 42, 43, 46, 49, 50, 51, 52, 53, 82, 83, 99, 100, 55, 56, 57, 58, 59, 60, 61, 54, 62, 63, 11, 12, 65, 66, 67, 68, 69, 70, 71, 64, 72, 73, 13, 14] rfl ?_; clear Z; intro Z
         refine p_then ?_
         obtain ⟨s0_3, hx13, hF⟩ := bnd_in hF
         refine f_region Z ?_; clear Z; intro Z
         refine s_runk tLinkD Z 2 rfl rfl ?_; clear Z a; intro a Z
         refine h_call Z H (js := [(2, true), (1, true)]) rfl (caps := #[]) fn_17_YLinkD rfl rfl rfl rfl rfl (by decide) rfl rfl (fun D1 hS => have hq := c_ref05_Same hx13 hS; hq) ?_; clear Z a; intro vv a w13 D2 hr hF2 Z
         obtain ⟨rfl, I13, K⟩ := hr
         have H : Hf I D w I13 w13 [OEref22_Link b2 i_2.2.2, SlC NS q4 i_2.1, SlC NS q3 n0_7.1, SlC NElaw22_Act v1_l l] := hF2 K
         clear hF2 K
         refine s_runk tLinkD Z 1 rfl rfl ?_; clear Z a; intro a Z
         refine g_ob Z (p := s0_3) (v := .int .i64 n0_7.2) (S' := [(12, .int .i64 n0_7.2)]) rfl rfl rfl (wantB_t _) rfl (by decide) (fun hp hS => hS.sub (ts := [12]) rfl) (fun hp => Ob_c tLinkD rfl) ?_; clear Z a; intro a Z
         refine g_ob Z (p := s0_3) (v := .int .i64 i_2.2.1) (S' := [(14, .int .i64 i_2.2.1)]) rfl rfl rfl (wantB_t _) rfl (by decide) (fun hp hS => hS.sub (ts := [14]) rfl) (fun hp => Ob_c tLinkD rfl) ?_; clear Z a; intro a Z
         refine g_ob Z (p := s0_3) (v := .bool (n0_7.2 == i_2.2.1)) (S' := [(78, .int .i64 n0_7.2), (79, .int .i64 i_2.2.1)]) rfl rfl rfl (wantB_t _) rfl (by decide) (fun hp hS => ((hS.conv (t := 78) rfl (cond_t hp)).conv (t := 79) rfl (cond_t hp)).sub (ts := [78, 79]) rfl) (fun hp => Ob_c tLinkD rfl) ?_; clear Z a; intro a Z
         refine s_ob Z (v := .bool (s0_3 && (n0_7.2 == i_2.2.1))) rfl rfl (by decide) rfl (Ob_pick rfl rfl rfl rfl (pick_and _ _)) ?_; clear Z a; intro a Z
         refine s_runk tLinkD Z 1 rfl rfl ?_; clear Z a; intro a Z
         refine s_end Z [1, 4, 5, 7, 9, 10, 35, 36, 37, 38, 39, 42, 43, 46, 49, 50, 51, 52, 53, 82, 83, 99, 100, 55, 56, 57, 58, 59, 60, 61, 54, 62, 63, 11, 12, 65, 66, 67, 68, 69, 70, 71, 64, 72, 73, 13, 14, 74, 75, 76, 77, 81] rfl ?_; clear Z; intro Z
         refine p_blk ?_
         refine p_then ?_
         exact ⟨s0_3 && (n0_7.2 == i_2.2.1), i_2.2.2, Z.sub (ts := [1, 4, 5, 7, 9, 10, 35, 36, 37, 38, 39, 42, 43, 46, 49, 50, 51, 52, 53, 82, 83]) rfl, ⟨I13, (H.sub [(0, false), (2, true)] rfl).eq rfl⟩, hF⟩
       ·skip
        refine wp_seq (f_region Z ?_); clear Z; intro Z
        refine s_runk tLinkD Z 2 rfl rfl ?_; clear Z a; intro a Z
        refine s_end Z [1, 4, 5, 7, 9, 35, 36, 37, 38, 39, 42, 43, 46, 10, 49, 50, 51, 52, 53, 83, 82, 100, 99] rfl ?_; clear Z; intro Z
        refine p_then ?_
        refine f_cond Z rfl (fun hc7 => ?_) (fun hc7 => ?_)
        ·replace hF := ite_t hc7 hF
         refine wp_skip ?_
         refine p_then ?_
         exact ⟨((l.getD (i).toNat default).k) == 1, Z.sub (ts := [1, 4, 5, 7, 9, 10, 35, 36, 37, 38, 39, 42, 43, 46, 49, 50, 51, 52, 53, 82, 83, 99, 100]) rfl, ⟨I5, (H.sub [(0, false), (0, true)] rfl).eq rfl⟩, hF⟩
        ·replace hF := ite_f hc7 hF
         refine f_region Z ?_; clear Z; intro Z
         refine s_runk tLinkD Z 2 rfl rfl ?_; clear Z a; intro a Z
         refine s_end Z [1, 4, 5, 7, 9, 35, 36, 37, 38, 39, 42, 43, 46, 10, 49, 50, 51, 52, 53, 83, 82, 100, 99, 101] rfl ?_; clear Z; intro Z
         refine p_then ?_
         exact ⟨((l.getD (i).toNat default).k) == 2, Z.sub (ts := [1, 4, 5, 7, 9, 10, 35, 36, 37, 38, 39, 42, 43, 46, 49, 50, 51, 52, 53, 82, 83, 99, 100]) rfl, ⟨I5, (H.sub [(0, false), (0, true)] rfl).eq rfl⟩, hF⟩
    ·replace hF := ite_f hc3 hF
     refine wp_exit ?_
     refine p_then_x ?_
     refine p_then_x ?_
     refine f_exit_here ?_
     refine p_then (wp_seq ?_)
     obtain ⟨a0_2, hx14, hF⟩ := bnd_in hF
     refine f_region Z ?_; clear Z; intro Z
     refine h_call Z H (js := []) rfl (caps := #[]) fn_20_YLinkD rfl rfl rfl rfl rfl (by decide) rfl rfl (fun D1 hS => have hq := c_law22_awake hx14 hS; hq) ?_; clear Z a; intro vv a w14 D2 hr hF2 Z
     obtain ⟨rfl, I14, K⟩ := hr
     have H : Hf I D w I14 w14 [OEref22_Link b2 x_3, SlC NElaw22_Act v1_l l] := hF2 K
     clear hF2 K
     refine s_runk tLinkD Z 1 rfl rfl ?_; clear Z a; intro a Z
     refine s_end Z [4] rfl ?_; clear Z; intro Z
     refine p_then (wp_ret ?_)
     obtain rfl := some_in hF
     exact f_ret Z (run_results1 rfl Z rfl) ⟨rfl, I14, (H.sub [] rfl).eq rfl⟩
 ·obtain ⟨b1, hv, H⟩ := H.optS 0 rfl ho1
  subst hv
  replace H : Hf I D w I1 w1 [OElink_Link b1 x, SlC NElaw22_Act v1_l l] := H
  refine p_then (wp_seq ?_)
  obtain ⟨n0_8, hx15, hF⟩ := bnd_in hF
  refine f_region Z ?_; clear Z; intro Z
  refine s_runk tLinkD Z 1 rfl rfl ?_; clear Z a; intro a Z
  refine h_call Z H (js := []) rfl (caps := #[]) fn_9_YLinkD rfl rfl rfl rfl rfl (by decide) rfl rfl (fun D1 hS => have hq := c_ref22_New hx15 hS; hq) ?_; clear Z a; intro vv a w15 D2 hr hF2 Z
  obtain ⟨q5, rfl, I15, K⟩ := hr
  have H : Hf I D w I15 w15 [PtC OEref22_Link q5 n0_8.1, OElink_Link b1 x, SlC NElaw22_Act v1_l l] := hF2 K
  clear hF2 K
  refine s_runk tLinkD Z 5 rfl rfl ?_; clear Z a; intro a Z
  refine s_end Z [1, 4, 5, 6, 7, 8] rfl ?_; clear Z; intro Z
  rcases optE_in hF with ⟨ho3, hF⟩ | ⟨x_6, ho3, hF⟩
  ·obtain ⟨hv, H⟩ := H.optN 0 rfl ho3
   subst hv
   replace H : Hf I D w I15 w15 [OElink_Link b1 x, SlC NElaw22_Act v1_l l] := H
   refine p_then (wp_seq ?_)
   refine wp_seq (f_region Z ?_); clear Z; intro Z
   refine s_runk tLinkD Z 4 rfl rfl ?_; clear Z a; intro a Z
   refine g_ob Z (p := (!(n0.2 != n0_8.2))) (v := .pointer (some ⟨b1, 0, none⟩)) (S' := [(5, .pointer (some ⟨b1, 0, none⟩))]) rfl rfl rfl (wantB_f _) rfl (by decide) (fun hp hS => hS.sub (ts := [5]) rfl) (fun hp => Ob_c tLinkD rfl) ?_; clear Z a; intro a Z
   refine g_ob Z (p := (!(n0.2 != n0_8.2))) (v := .bool false) (S' := [(29, .pointer (some ⟨b1, 0, none⟩))]) rfl rfl rfl (wantB_f _) rfl (by decide) (fun hp hS => (hS.conv (t := 29) rfl (cond_t hp)).sub (ts := [29]) rfl) (fun hp => Ob_pnil rfl rfl rfl Try.underlying23 (.inl ⟨rfl, rfl⟩)) ?_; clear Z a; intro a Z
   refine g_ob Z (p := (!(n0.2 != n0_8.2))) (v := .pointer none) (S' := [(7, .pointer none)]) rfl rfl rfl (wantB_f _) rfl (by decide) (fun hp hS => hS.sub (ts := [7]) rfl) (fun hp => Ob_c tLinkD rfl) ?_; clear Z a; intro a Z
   refine g_ob Z (p := (!(n0.2 != n0_8.2))) (v := .bool true) (S' := [(31, .pointer none)]) rfl rfl rfl (wantB_f _) rfl (by decide) (fun hp hS => (hS.conv (t := 31) rfl (cond_t hp)).sub (ts := [31]) rfl) (fun hp => Ob_pnil rfl rfl rfl Try.underlying27 (.inl ⟨rfl, rfl⟩)) ?_; clear Z a; intro a Z
   refine g_ob Z (p := (!(n0.2 != n0_8.2))) (v := .bool (!(false == true))) (S' := [(30, .bool false), (32, .bool true)]) rfl rfl rfl (wantB_f _) rfl (by decide) (fun hp hS => ((hS.conv (t := 30) rfl (cond_t hp)).conv (t := 32) rfl (cond_t hp)).sub (ts := [30, 32]) rfl) (fun hp => Ob_c tLinkD rfl) ?_; clear Z a; intro a Z
   refine s_ob Z (v := .bool ((n0.2 != n0_8.2) || (!(false == true)))) rfl rfl (by decide) rfl (Ob_pick rfl rfl rfl rfl (pick_or _ _)) ?_; clear Z a; intro a Z
   refine s_end Z [1, 4, 5, 7, 34] rfl ?_; clear Z; intro Z
   refine p_then ?_
   refine f_cond Z rfl (fun hc8 => ?_) (fun hc8 => ?_)
   ·replace hF := ite_t hc8 hF
    refine wp_seq (f_region Z ?_); clear Z; intro Z
    refine s_runk tLinkD Z 1 rfl rfl ?_; clear Z a; intro a Z
    refine s_end Z [1, 4, 5, 7] rfl ?_; clear Z; intro Z
    refine p_then (wp_ret ?_)
    refine p_then_r ?_
    obtain rfl := some_in hF
    exact f_ret Z (run_results1 rfl Z rfl) ⟨rfl, I15, (H.sub [] rfl).eq rfl⟩
   ·replace hF := ite_f hc8 hF
    refine wp_skip ?_
    refine p_then (wp_seq ?_)
    refine wp_seq (f_region Z ?_); clear Z; intro Z
    refine s_runk tLinkD Z 1 rfl rfl ?_; clear Z a; intro a Z
    refine s_end Z [1, 4, 5, 7, 9] rfl ?_; clear Z; intro Z
    refine p_then (wp_block ?_)
    refine f_iter hF (fun sg a' w' => match sg with | _ => Sl 139 [(1, v1_l), (4, .bool false), (5, .pointer (some ⟨b1, 0, none⟩)), (7, .pointer none), (9, .int .i64 0)] a' ∧ ∃ I2, Hf I D w I2 w' [OElink_Link b1 x, SlC NElaw22_Act v1_l l]) ⟨Z.sub (ts := [1, 4, 5, 7, 9]) rfl, ⟨I15, (H.sub [(0, false), (0, true)] rfl).eq rfl⟩⟩ ?_
    clear Z H hF a
    rintro rc_3 _ a w16 ⟨Z, I16, H⟩ hF
    unfold F_law22_LinkPlays_l5 at hF
    try dsimp only at hF
    refine wp_seq ?_
    refine wp_seq (f_region Z ?_); clear Z; intro Z
    refine s_runk tLinkD Z 2 rfl rfl ?_; clear Z a; intro a Z
    refine s_ob Z (v := .int .i64 (l.length : Int)) rfl rfl (by decide) rfl (Ob_slen tLinkD rfl rfl rfl (H.slshape 1 rfl)) ?_; clear Z a; intro a Z
    refine s_runk tLinkD Z 2 rfl rfl ?_; clear Z a; intro a Z
    refine g_ob Z (p := (decide (0 < (l.length : Int)))) (v := .int .i64 0) (S' := [(9, .int .i64 0)]) rfl rfl rfl (wantB_t _) rfl (by decide) (fun hp hS => hS.sub (ts := [9]) rfl) (fun hp => Ob_c tLinkD rfl) ?_; clear Z a; intro a Z
    refine g_ob Z (p := (decide (0 < (l.length : Int)))) (v := .bool (decide ((0 : Int) < 40))) (S' := [(40, .int .i64 0)]) rfl rfl rfl (wantB_t _) rfl (by decide) (fun hp hS => (hS.conv (t := 40) rfl (cond_t hp)).sub (ts := [40]) rfl) (fun hp => Ob_c tLinkD rfl) ?_; clear Z a; intro a Z
    refine s_ob Z (v := .bool ((decide (0 < (l.length : Int))) && (decide ((0 : Int) < 40)))) rfl rfl (by decide) rfl (Ob_pick rfl rfl rfl rfl (pick_and _ _)) ?_; clear Z a; intro a Z
    refine s_runk tLinkD Z 1 rfl rfl ?_; clear Z a; intro a Z
    refine g_ob Z (p := ((decide (0 < (l.length : Int))) && (decide ((0 : Int) < 40)))) (v := .pointer none) (S' := [(7, .pointer none)]) rfl rfl rfl (wantB_t _) rfl (by decide) (fun hp hS => hS.sub (ts := [7]) rfl) (fun hp => Ob_c tLinkD rfl) ?_; clear Z a; intro a Z
    refine g_ob Z (p := ((decide (0 < (l.length : Int))) && (decide ((0 : Int) < 40)))) (v := .bool false) (S' := [(44, .pointer none)]) rfl rfl rfl (wantB_t _) rfl (by decide) (fun hp hS => (hS.conv (t := 44) rfl (cond_t hp)).sub (ts := [44]) rfl) (fun hp => Ob_pnil rfl rfl rfl Try.underlying27 (.inr ⟨rfl, rfl⟩)) ?_; clear Z a; intro a Z
    refine s_ob Z (v := .bool false) rfl rfl (by decide) rfl (Ob_pick rfl rfl rfl rfl (pick_and0 _)) ?_; clear Z a; intro a Z
    refine s_end Z [1, 4, 5, 7, 9, 35, 36, 37, 38, 39, 42, 43, 46] rfl ?_; clear Z; intro Z
    refine p_then ?_
    refine wp_cond_false (Z.ev rfl) ?_
    refine wp_exit ?_
    refine p_then_x ?_
    refine p_then_x ?_
    refine f_exit_here ?_
    refine p_then (wp_seq ?_)
    obtain ⟨a0_3, hx16, hF⟩ := bnd_in hF
    refine f_region Z ?_; clear Z; intro Z
    refine h_call Z H (js := []) rfl (caps := #[]) fn_20_YLinkD rfl rfl rfl rfl rfl (by decide) rfl rfl (fun D1 hS => have hq := c_law22_awake hx16 hS; hq) ?_; clear Z a; intro vv a w17 D2 hr hF2 Z
    obtain ⟨rfl, I17, K⟩ := hr
    have H : Hf I D w I17 w17 [OElink_Link b1 x, SlC NElaw22_Act v1_l l] := hF2 K
    clear hF2 K
    refine s_runk tLinkD Z 1 rfl rfl ?_; clear Z a; intro a Z
    refine s_end Z [4] rfl ?_; clear Z; intro Z
    refine p_then (wp_ret ?_)
    obtain rfl := some_in hF
    exact f_ret Z (run_results1 rfl Z rfl) ⟨rfl, I17, (H.sub [] rfl).eq rfl⟩
  ·obtain ⟨b3, hv, H⟩ := H.optS 0 rfl ho3
   subst hv
   replace H : Hf I D w I15 w15 [OEref22_Link b3 x_6, OElink_Link b1 x, SlC NElaw22_Act v1_l l] := H
   refine p_then (wp_seq ?_)
   refine wp_seq (f_region Z ?_); clear Z; intro Z
   refine s_runk tLinkD Z 4 rfl rfl ?_; clear Z a; intro a Z
   refine g_ob Z (p := (!(n0.2 != n0_8.2))) (v := .pointer (some ⟨b1, 0, none⟩)) (S' := [(5, .pointer (some ⟨b1, 0, none⟩))]) rfl rfl rfl (wantB_f _) rfl (by decide) (fun hp hS => hS.sub (ts := [5]) rfl) (fun hp => Ob_c tLinkD rfl) ?_; clear Z a; intro a Z
   refine g_ob Z (p := (!(n0.2 != n0_8.2))) (v := .bool false) (S' := [(29, .pointer (some ⟨b1, 0, none⟩))]) rfl rfl rfl (wantB_f _) rfl (by decide) (fun hp hS => (hS.conv (t := 29) rfl (cond_t hp)).sub (ts := [29]) rfl) (fun hp => Ob_pnil rfl rfl rfl Try.underlying23 (.inl ⟨rfl, rfl⟩)) ?_; clear Z a; intro a Z
   refine g_ob Z (p := (!(n0.2 != n0_8.2))) (v := .pointer (some ⟨b3, 0, none⟩)) (S' := [(7, .pointer (some ⟨b3, 0, none⟩))]) rfl rfl rfl (wantB_f _) rfl (by decide) (fun hp hS => hS.sub (ts := [7]) rfl) (fun hp => Ob_c tLinkD rfl) ?_; clear Z a; intro a Z
   refine g_ob Z (p := (!(n0.2 != n0_8.2))) (v := .bool false) (S' := [(31, .pointer (some ⟨b3, 0, none⟩))]) rfl rfl rfl (wantB_f _) rfl (by decide) (fun hp hS => (hS.conv (t := 31) rfl (cond_t hp)).sub (ts := [31]) rfl) (fun hp => Ob_pnil rfl rfl rfl Try.underlying27 (.inl ⟨rfl, rfl⟩)) ?_; clear Z a; intro a Z
   refine g_ob Z (p := (!(n0.2 != n0_8.2))) (v := .bool (!(false == false))) (S' := [(30, .bool false), (32, .bool false)]) rfl rfl rfl (wantB_f _) rfl (by decide) (fun hp hS => ((hS.conv (t := 30) rfl (cond_t hp)).conv (t := 32) rfl (cond_t hp)).sub (ts := [30, 32]) rfl) (fun hp => Ob_c tLinkD rfl) ?_; clear Z a; intro a Z
   refine s_ob Z (v := .bool ((n0.2 != n0_8.2) || (!(false == false)))) rfl rfl (by decide) rfl (Ob_pick rfl rfl rfl rfl (pick_or _ _)) ?_; clear Z a; intro a Z
   refine s_end Z [1, 4, 5, 7, 34] rfl ?_; clear Z; intro Z
   refine p_then ?_
   refine f_cond Z rfl (fun hc9 => ?_) (fun hc9 => ?_)
   ·replace hF := ite_t hc9 hF
    refine wp_seq (f_region Z ?_); clear Z; intro Z
    refine s_runk tLinkD Z 1 rfl rfl ?_; clear Z a; intro a Z
    refine s_end Z [1, 4, 5, 7] rfl ?_; clear Z; intro Z
    refine p_then (wp_ret ?_)
    refine p_then_r ?_
    obtain rfl := some_in hF
    exact f_ret Z (run_results1 rfl Z rfl) ⟨rfl, I15, (H.sub [] rfl).eq rfl⟩
   ·replace hF := ite_f hc9 hF
    refine wp_skip ?_
    refine p_then (wp_seq ?_)
    refine wp_seq (f_region Z ?_); clear Z; intro Z
    refine s_runk tLinkD Z 1 rfl rfl ?_; clear Z a; intro a Z
    refine s_end Z [1, 4, 5, 7, 9] rfl ?_; clear Z; intro Z
    refine p_then (wp_block ?_)
    refine f_iter hF (fun sg a' w' => match sg with | (i_3, a0_4, x_7) => Sl 139 [(1, v1_l), (4, .bool false), (5, .pointer (some ⟨b1, 0, none⟩)), (7, .pointer (some ⟨b3, 0, none⟩)), (9, .int .i64 i_3)] a' ∧ ∃ I2, Hf I D w I2 w' [OElink_Link b1 a0_4, OEref22_Link b3 x_7, SlC NElaw22_Act v1_l l]) ⟨Z.sub (ts := [1, 4, 5, 7, 9]) rfl, ⟨I15, (H.sub [(1, false), (0, false), (0, true)] rfl).eq rfl⟩⟩ ?_
    clear Z H hF a
    rintro rc_4 ⟨i_3, a0_4, x_7⟩ a w18 ⟨Z, I18, H⟩ hF
    unfold F_law22_LinkPlays_l6 at hF
    try dsimp only at hF
    refine wp_seq ?_
    refine wp_seq (f_region Z ?_); clear Z; intro Z
    refine s_runk tLinkD Z 2 rfl rfl ?_; clear Z a; intro a Z
    refine s_ob Z (v := .int .i64 (l.length : Int)) rfl rfl (by decide) rfl (Ob_slen tLinkD rfl rfl rfl (H.slshape 2 rfl)) ?_; clear Z a; intro a Z
    refine s_runk tLinkD Z 2 rfl rfl ?_; clear Z a; intro a Z
    refine g_ob Z (p := (decide (i_3 < (l.length : Int)))) (v := .int .i64 i_3) (S' := [(9, .int .i64 i_3)]) rfl rfl rfl (wantB_t _) rfl (by decide) (fun hp hS => hS.sub (ts := [9]) rfl) (fun hp => Ob_c tLinkD rfl) ?_; clear Z a; intro a Z
    refine g_ob Z (p := (decide (i_3 < (l.length : Int)))) (v := .bool (decide (i_3 < 40))) (S' := [(40, .int .i64 i_3)]) rfl rfl rfl (wantB_t _) rfl (by decide) (fun hp hS => (hS.conv (t := 40) rfl (cond_t hp)).sub (ts := [40]) rfl) (fun hp => Ob_c tLinkD rfl) ?_; clear Z a; intro a Z
    refine s_ob Z (v := .bool ((decide (i_3 < (l.length : Int))) && (decide (i_3 < 40)))) rfl rfl (by decide) rfl (Ob_pick rfl rfl rfl rfl (pick_and _ _)) ?_; clear Z a; intro a Z
    refine s_runk tLinkD Z 1 rfl rfl ?_; clear Z a; intro a Z
    refine g_ob Z (p := ((decide (i_3 < (l.length : Int))) && (decide (i_3 < 40)))) (v := .pointer (some ⟨b3, 0, none⟩)) (S' := [(7, .pointer (some ⟨b3, 0, none⟩))]) rfl rfl rfl (wantB_t _) rfl (by decide) (fun hp hS => hS.sub (ts := [7]) rfl) (fun hp => Ob_c tLinkD rfl) ?_; clear Z a; intro a Z
    refine g_ob Z (p := ((decide (i_3 < (l.length : Int))) && (decide (i_3 < 40)))) (v := .bool true) (S' := [(44, .pointer (some ⟨b3, 0, none⟩))]) rfl rfl rfl (wantB_t _) rfl (by decide) (fun hp hS => (hS.conv (t := 44) rfl (cond_t hp)).sub (ts := [44]) rfl) (fun hp => Ob_pnil rfl rfl rfl Try.underlying27 (.inr ⟨rfl, rfl⟩)) ?_; clear Z a; intro a Z
    refine s_ob Z (v := .bool (((decide (i_3 < (l.length : Int))) && (decide (i_3 < 40))) && true)) rfl rfl (by decide) rfl (Ob_pick rfl rfl rfl rfl (pick_and _ _)) ?_; clear Z a; intro a Z
    refine s_end Z [1, 4, 5, 7, 9, 35, 36, 37, 38, 39, 42, 43, 46] rfl ?_; clear Z; intro Z
    refine p_then ?_
    refine f_cond Z rfl (fun hc10 => ?_) (fun hc10 => ?_)
    ·replace hF := ite_t hc10 hF
     refine wp_skip ?_
     refine p_then (wp_seq ?_)
     refine wp_block ?_
     refine wp_seq (f_region Z ?_); clear Z; intro Z
     refine s_runk tLinkD Z 1 rfl rfl ?_; clear Z a; intro a Z
     refine s_end Z [1, 4, 5, 7, 9, 35, 36, 37, 38, 39, 42, 43, 46, 10] rfl ?_; clear Z; intro Z
     refine p_then ?_
     refine f_cut (fun a' w' => ∃ (ok_2 : Bool) (a0_5 : Elink_Link) (x_8 : Eref22_Link), Sl 139 [(1, v1_l), (4, .bool false), (5, .pointer (some ⟨b1, 0, none⟩)), (7, .pointer (some ⟨b3, 0, none⟩)), (9, .int .i64 i_3), (10, .bool ok_2), (35, .int .i64 i_3), (36, v1_l), (37, .int .i64 (l.length : Int)), (38, .bool (decide (i_3 < (l.length : Int)))), (39, .bool (decide (i_3 < (l.length : Int)))), (42, .bool ((decide (i_3 < (l.length : Int))) && (decide (i_3 < 40)))), (43, .bool ((decide (i_3 < (l.length : Int))) && (decide (i_3 < 40)))), (46, .bool (((decide (i_3 < (l.length : Int))) && (decide (i_3 < 40))) && true)), (49, v1_l), (50, .int .i64 i_3), (51, .pointer (some ⟨blkOf v1_l, oofOf v1_l + (i_3).toNat * 11, none⟩)), (52, .pointer (some ⟨blkOf v1_l, oofOf v1_l + (i_3).toNat * 11, none⟩)), (53, .int .i64 ((l.getD (i_3).toNat default).k)), (82, .bool (((l.getD (i_3).toNat default).k) == 0)), (83, .bool (((l.getD (i_3).toNat default).k) == 0))] a' ∧ (∃ I2, Hf I D w I2 w' [OElink_Link b1 a0_5, OEref22_Link b3 x_8, SlC NElaw22_Act v1_l l]) ∧ F_law22_LinkPlays_k7 i_3 rc_4 ok_2 a0_5 x_8 = some rr) ?_ ?_
     ·rintro a w19 ⟨ok_2, a0_5, x_8, Z, ⟨I19, H⟩, hF⟩
      unfold F_law22_LinkPlays_k7 at hF
      try dsimp only at hF
      refine wp_seq ?_
      obtain ⟨v3, H⟩ := H.openX 1 rfl
      replace H : Hf I D w I19 w19 [BxC b3 47 (cEref22_Link x_8 v3), SlC NS v3 x_8.queue, OElink_Link b1 a0_5, SlC NElaw22_Act v1_l l] := H
      obtain ⟨w0, hx17, hF⟩ := bnd_in hF
      obtain ⟨k, hx18, hF⟩ := bnd_in hF
      refine f_regionL Z (by kernel_rfl) (by kernel_rfl) (by decide) (by decide) [4, 14] [(0, 0, 0), (1, 0, 0), (3, 0, 0), (7, 0, 0), (15, 0, 0), (7, 0, 1), (39, 0, 1), (103, 0, 1), (231, 0, 1), (487, 0, 1), (1023, 1, 1), (2047, 1, 1), (4095, 1, 1), (8191, 1, 1), (16383, 1, 1), (8191, 1, 2), (40959, 1, 2), (106495, 1, 2), (237567, 1, 2), (524287, 2, 2), (1048575, 2, 2)] (by kernel_rfl) (fun jj vv => cond (Nat.blt jj 10) (cond (Nat.blt jj 5) (cond (Nat.blt jj 2) (cond (Nat.blt jj 1) (vv = .bool ok_2) (vv = .bool !ok_2)) (cond (Nat.blt jj 3) (vv = .bool !ok_2) (cond (Nat.blt jj 4) (vv = cond (!!ok_2) (.pointer (some ⟨b1, 0, none⟩)) undef) (vv = cond (!!ok_2) (.int .i64 w0) undef)))) (cond (Nat.blt jj 7) (cond (Nat.blt jj 6) (vv = cond (!!ok_2) (.pointer (some ⟨b3, 0, none⟩)) undef) (vv = cond (!!ok_2) (.pointer (some ⟨b3, 0, none⟩)) undef)) (cond (Nat.blt jj 8) (vv = cond (!!ok_2) (.pointer (some ⟨b3, 3, none⟩)) undef) (cond (Nat.blt jj 9) (vv = cond (!!ok_2) (v3) undef) (vv = cond (!!ok_2) (.int .i64 (x_8.queue.length : Int)) undef))))) (cond (Nat.blt jj 15) (cond (Nat.blt jj 12) (cond (Nat.blt jj 11) (vv = cond (!!ok_2) (.bool (w0 != (x_8.queue.length : Int))) undef) (vv = .bool (!ok_2 || (w0 != (x_8.queue.length : Int))))) (cond (Nat.blt jj 13) (vv = .bool (!ok_2 || (w0 != (x_8.queue.length : Int)))) (cond (Nat.blt jj 14) (vv = cond (!(!ok_2 || (w0 != (x_8.queue.length : Int)))) (.pointer (some ⟨b1, 0, none⟩)) undef) (vv = cond (!(!ok_2 || (w0 != (x_8.queue.length : Int)))) (.int .i64 k) undef)))) (cond (Nat.blt jj 18) (cond (Nat.blt jj 16) (vv = cond (!(!ok_2 || (w0 != (x_8.queue.length : Int)))) (.pointer (some ⟨b3, 0, none⟩)) undef) (cond (Nat.blt jj 17) (vv = cond (!(!ok_2 || (w0 != (x_8.queue.length : Int)))) (.pointer (some ⟨b3, 0, none⟩)) undef) (vv = cond (!(!ok_2 || (w0 != (x_8.queue.length : Int)))) (.pointer (some ⟨b3, 5, none⟩)) undef))) (cond (Nat.blt jj 19) (vv = cond (!(!ok_2 || (w0 != (x_8.queue.length : Int)))) (.int .i64 x_8.peer) undef) (cond (Nat.blt jj 20) (vv = cond (!(!ok_2 || (w0 != (x_8.queue.length : Int)))) (.bool (k != x_8.peer)) undef) (vv = .bool ((!ok_2 || (w0 != (x_8.queue.length : Int))) || (k != x_8.peer)))))))) (fun ss vals4 xw => match ss with | 0 => Gx I D w I19 w19 xw [BxC b3 47 (cEref22_Link x_8 v3), SlC NS v3 x_8.queue, OElink_Link b1 a0_5, SlC NElaw22_Act v1_l l] | 1 => Gx I D w I19 w19 xw [OElink_Link b1 a0_5, BxC b3 47 (cEref22_Link x_8 v3), SlC NS v3 x_8.queue, SlC NElaw22_Act v1_l l] | _ => Gx I D w I19 w19 xw [OElink_Link b1 a0_5, BxC b3 47 (cEref22_Link x_8 v3), SlC NS v3 x_8.queue, SlC NElaw22_Act v1_l l]) (fun _ => Gx.start H) ?_ ?_
      ·intro fr hfr hfe
       refine .cons (fun ss hlo hhi vals4 xw hG hV => ?_) ?_
       ·obtain rfl : ss = 0 := Nat.le_antisymm hhi hlo
        rw [← hfe]
        have hS := (hfr vals4).sub (ts := [10]) (S' := [(10, .bool ok_2)]) rfl
        exact L_val hS rfl (Ob_c tLinkD rfl) ⟨rfl, hG⟩
       refine .cons (fun ss hlo hhi vals4 xw hG hV => ?_) ?_
       ·obtain rfl : ss = 0 := Nat.le_antisymm hhi hlo
        rw [← hfe]
        have hS := (hfr vals4).sub (ts := [117]) (S' := [(117, vals4 0)]) rfl
        replace hS := hS.conv (t := 117) rfl (show (vals4 0) = .bool ok_2 from hV 0 (by decide))
        exact L_val hS rfl (Ob_c tLinkD rfl) ⟨rfl, hG⟩
       refine .cons (fun ss hlo hhi vals4 xw hG hV => ?_) ?_
       ·obtain rfl : ss = 0 := Nat.le_antisymm hhi hlo
        rw [← hfe]
        have hS := (hfr vals4).sub (ts := [118]) (S' := [(118, vals4 1)]) rfl
        replace hS := hS.conv (t := 118) rfl (show (vals4 1) = .bool !ok_2 from hV 1 (by decide))
        exact L_val hS rfl (Ob_c tLinkD rfl) ⟨rfl, hG⟩
       refine .cons (fun ss hlo hhi vals4 xw hG hV => ?_) ?_
       ·obtain rfl : ss = 0 := Nat.le_antisymm hhi hlo
        rw [← hfe]
        have hS := (hfr vals4).sub (ts := [119, 5]) (S' := [(119, vals4 2), (5, .pointer (some ⟨b1, 0, none⟩))]) rfl
        replace hS := hS.conv (t := 119) rfl (show (vals4 2) = .bool !ok_2 from hV 2 (by decide))
        refine L_gw (p := (!!ok_2)) hS rfl rfl rfl (wantB_f _) (fun hp => ?_) (fun hp => ⟨by rw [hp]; rfl, hG⟩)
        exact L_val hS rfl (Ob_c tLinkD rfl) ⟨(by rw [hp]; rfl), hG⟩
       refine .cons (fun ss hlo hhi vals4 xw hG hV => ?_) ?_
       ·obtain rfl : ss = 0 := Nat.le_antisymm hhi hlo
        rw [← hfe]
        have hS := (hfr vals4).sub (ts := [120, 119]) (S' := [(120, vals4 3), (119, vals4 2)]) rfl
        replace hS := hS.conv (t := 120) rfl (show (vals4 3) = cond (!!ok_2) (.pointer (some ⟨b1, 0, none⟩)) undef from hV 3 (by decide))
        replace hS := hS.conv (t := 119) rfl (show (vals4 2) = .bool !ok_2 from hV 2 (by decide))
        refine L_gw (p := (!!ok_2)) hS rfl rfl rfl (wantB_f _) (fun hp => ?_) (fun hp => ⟨by rw [hp]; rfl, ?_⟩)
        ·obtain ⟨I2, hI2, H⟩ := Gx.ex hG
         replace hS := hS.conv (t := 120) rfl (cond_t hp)
         refine L_hcall H (js := [(2, false)]) rfl (caps := #[]) hS fn_18_YLinkD rfl rfl rfl rfl rfl (fun D1 hS => have hq := c_link_Link_Waiting (gif_in hx17 hp) hS; hq) fun _ yw D1 hr hF2 => ?_
         obtain ⟨rfl, I3, K⟩ := hr
         obtain ⟨hK, H2⟩ := hF2 K
         exact ⟨by rw [hp]; rfl, by first | (rw [hp]; exact Gx.go hG hI2 hK K.imm H2) | exact Gx.go hG hI2 hK K.imm H2⟩
        ·(try rw [hp]); obtain ⟨I2, hI2, H⟩ := Gx.ex hG; exact Gx.go hG hI2 (Keep.refl _ _) (fun _ h => h) (H.sub [(2, false), (0, false), (0, true), (1, true)] rfl)
       refine .cons (fun ss hlo hhi vals4 xw hG hV => ?_) ?_
       ·obtain rfl | rfl : ss = 0 ∨ ss = 1 := st1 hlo hhi
        all_goals
        ·rw [← hfe]
         have hS := (hfr vals4).sub (ts := [119, 7]) (S' := [(119, vals4 2), (7, .pointer (some ⟨b3, 0, none⟩))]) rfl
         replace hS := hS.conv (t := 119) rfl (show (vals4 2) = .bool !ok_2 from hV 2 (by decide))
         refine L_gw (p := (!!ok_2)) hS rfl rfl rfl (wantB_f _) (fun hp => ?_) (fun hp => ⟨by rw [hp]; rfl, hG⟩)
         exact L_val hS rfl (Ob_c tLinkD rfl) ⟨(by rw [hp]; rfl), hG⟩
       refine .cons (fun ss hlo hhi vals4 xw hG hV => ?_) ?_
       ·obtain rfl | rfl : ss = 0 ∨ ss = 1 := st1 hlo hhi
        all_goals
        ·rw [← hfe]
         have hS := (hfr vals4).sub (ts := [122, 119]) (S' := [(122, vals4 5), (119, vals4 2)]) rfl
         replace hS := hS.conv (t := 122) rfl (show (vals4 5) = cond (!!ok_2) (.pointer (some ⟨b3, 0, none⟩)) undef from hV 5 (by decide))
         replace hS := hS.conv (t := 119) rfl (show (vals4 2) = .bool !ok_2 from hV 2 (by decide))
         refine L_gw (p := (!!ok_2)) hS rfl rfl rfl (wantB_f _) (fun hp => ?_) (fun hp => ⟨by rw [hp]; rfl, hG⟩)
         replace hS := hS.conv (t := 122) rfl (cond_t hp)
         exact L_val hS rfl (Ob_c tLinkD rfl) ⟨(by rw [hp]; rfl), hG⟩
       refine .cons (fun ss hlo hhi vals4 xw hG hV => ?_) ?_
       ·obtain rfl | rfl : ss = 0 ∨ ss = 1 := st1 hlo hhi
        all_goals
        ·rw [← hfe]
         have hS := (hfr vals4).sub (ts := [123, 119]) (S' := [(123, vals4 6), (119, vals4 2)]) rfl
         replace hS := hS.conv (t := 123) rfl (show (vals4 6) = cond (!!ok_2) (.pointer (some ⟨b3, 0, none⟩)) undef from hV 6 (by decide))
         replace hS := hS.conv (t := 119) rfl (show (vals4 2) = .bool !ok_2 from hV 2 (by decide))
         refine L_gw (p := (!!ok_2)) hS rfl rfl rfl (wantB_f _) (fun hp => ?_) (fun hp => ⟨by rw [hp]; rfl, hG⟩)
         replace hS := hS.conv (t := 123) rfl (cond_t hp)
         exact L_val hS rfl (Ob_c tLinkD rfl) ⟨(by rw [hp]; rfl), hG⟩
       refine .cons (fun ss hlo hhi vals4 xw hG hV => ?_) ?_
       ·obtain rfl | rfl : ss = 0 ∨ ss = 1 := st1 hlo hhi
        ·rw [← hfe]
         have hS := (hfr vals4).sub (ts := [124, 119]) (S' := [(124, vals4 7), (119, vals4 2)]) rfl
         replace hS := hS.conv (t := 124) rfl (show (vals4 7) = cond (!!ok_2) (.pointer (some ⟨b3, 3, none⟩)) undef from hV 7 (by decide))
         replace hS := hS.conv (t := 119) rfl (show (vals4 2) = .bool !ok_2 from hV 2 (by decide))
         refine L_gw (p := (!!ok_2)) hS rfl rfl rfl (wantB_f _) (fun hp => ?_) (fun hp => ⟨by rw [hp]; rfl, hG⟩)
         replace hS := hS.conv (t := 124) rfl (cond_t hp)
         obtain ⟨I2, hI2, H⟩ := Gx.ex hG
         exact L_val hS rfl (Ob_load tLinkD rfl rfl rfl ((H.bx 0 rfl).cell 3 rfl)) ⟨(by rw [hp]; rfl), hG⟩
        ·rw [← hfe]
         have hS := (hfr vals4).sub (ts := [124, 119]) (S' := [(124, vals4 7), (119, vals4 2)]) rfl
         replace hS := hS.conv (t := 124) rfl (show (vals4 7) = cond (!!ok_2) (.pointer (some ⟨b3, 3, none⟩)) undef from hV 7 (by decide))
         replace hS := hS.conv (t := 119) rfl (show (vals4 2) = .bool !ok_2 from hV 2 (by decide))
         refine L_gw (p := (!!ok_2)) hS rfl rfl rfl (wantB_f _) (fun hp => ?_) (fun hp => ⟨by rw [hp]; rfl, hG⟩)
         replace hS := hS.conv (t := 124) rfl (cond_t hp)
         obtain ⟨I2, hI2, H⟩ := Gx.ex hG
         exact L_val hS rfl (Ob_load tLinkD rfl rfl rfl ((H.bx 1 rfl).cell 3 rfl)) ⟨(by rw [hp]; rfl), hG⟩
       refine .cons (fun ss hlo hhi vals4 xw hG hV => ?_) ?_
       ·obtain rfl | rfl : ss = 0 ∨ ss = 1 := st1 hlo hhi
        ·rw [← hfe]
         have hS := (hfr vals4).sub (ts := [125, 119]) (S' := [(125, vals4 8), (119, vals4 2)]) rfl
         replace hS := hS.conv (t := 125) rfl (show (vals4 8) = cond (!!ok_2) (v3) undef from hV 8 (by decide))
         replace hS := hS.conv (t := 119) rfl (show (vals4 2) = .bool !ok_2 from hV 2 (by decide))
         refine L_gw (p := (!!ok_2)) hS rfl rfl rfl (wantB_f _) (fun hp => ?_) (fun hp => ⟨by rw [hp]; rfl, hG⟩)
         replace hS := hS.conv (t := 125) rfl (cond_t hp)
         obtain ⟨I2, hI2, H⟩ := Gx.ex hG
         exact L_val hS rfl (Ob_slen tLinkD rfl rfl rfl (H.slshape 1 rfl)) ⟨(by rw [hp]; rfl), hG⟩
        ·rw [← hfe]
         have hS := (hfr vals4).sub (ts := [125, 119]) (S' := [(125, vals4 8), (119, vals4 2)]) rfl
         replace hS := hS.conv (t := 125) rfl (show (vals4 8) = cond (!!ok_2) (v3) undef from hV 8 (by decide))
         replace hS := hS.conv (t := 119) rfl (show (vals4 2) = .bool !ok_2 from hV 2 (by decide))
         refine L_gw (p := (!!ok_2)) hS rfl rfl rfl (wantB_f _) (fun hp => ?_) (fun hp => ⟨by rw [hp]; rfl, hG⟩)
         replace hS := hS.conv (t := 125) rfl (cond_t hp)
         obtain ⟨I2, hI2, H⟩ := Gx.ex hG
         exact L_val hS rfl (Ob_slen tLinkD rfl rfl rfl (H.slshape 2 rfl)) ⟨(by rw [hp]; rfl), hG⟩
       refine .cons (fun ss hlo hhi vals4 xw hG hV => ?_) ?_
       ·obtain rfl : ss = 1 := Nat.le_antisymm hhi hlo
        rw [← hfe]
        have hS := (hfr vals4).sub (ts := [121, 126, 119]) (S' := [(121, vals4 4), (126, vals4 9), (119, vals4 2)]) rfl
        replace hS := hS.conv (t := 121) rfl (show (vals4 4) = cond (!!ok_2) (.int .i64 w0) undef from hV 4 (by decide))
        replace hS := hS.conv (t := 126) rfl (show (vals4 9) = cond (!!ok_2) (.int .i64 (x_8.queue.length : Int)) undef from hV 9 (by decide))
        replace hS := hS.conv (t := 119) rfl (show (vals4 2) = .bool !ok_2 from hV 2 (by decide))
        refine L_gw (p := (!!ok_2)) hS rfl rfl rfl (wantB_f _) (fun hp => ?_) (fun hp => ⟨by rw [hp]; rfl, hG⟩)
        replace hS := hS.conv (t := 121) rfl (cond_t hp)
        replace hS := hS.conv (t := 126) rfl (cond_t hp)
        exact L_val hS rfl (Ob_c tLinkD rfl) ⟨(by rw [hp]; rfl), hG⟩
       refine .cons (fun ss hlo hhi vals4 xw hG hV => ?_) ?_
       ·obtain rfl : ss = 1 := Nat.le_antisymm hhi hlo
        rw [← hfe]
        have hS := (hfr vals4).sub (ts := [119, 127]) (S' := [(119, vals4 2), (127, vals4 10)]) rfl
        replace hS := hS.conv (t := 119) rfl (show (vals4 2) = .bool !ok_2 from hV 2 (by decide))
        replace hS := hS.conv (t := 127) rfl (show (vals4 10) = cond (!!ok_2) (.bool (w0 != (x_8.queue.length : Int))) undef from hV 10 (by decide))
        exact L_val hS rfl (Ob_pick rfl rfl rfl rfl (pick_or _ _)) ⟨rfl, hG⟩
       refine .cons (fun ss hlo hhi vals4 xw hG hV => ?_) ?_
       ·obtain rfl : ss = 1 := Nat.le_antisymm hhi hlo
        rw [← hfe]
        have hS := (hfr vals4).sub (ts := [128]) (S' := [(128, vals4 11)]) rfl
        replace hS := hS.conv (t := 128) rfl (show (vals4 11) = .bool (!ok_2 || (w0 != (x_8.queue.length : Int))) from hV 11 (by decide))
        exact L_val hS rfl (Ob_c tLinkD rfl) ⟨rfl, hG⟩
       refine .cons (fun ss hlo hhi vals4 xw hG hV => ?_) ?_
       ·obtain rfl : ss = 1 := Nat.le_antisymm hhi hlo
        rw [← hfe]
        have hS := (hfr vals4).sub (ts := [129, 5]) (S' := [(129, vals4 12), (5, .pointer (some ⟨b1, 0, none⟩))]) rfl
        replace hS := hS.conv (t := 129) rfl (show (vals4 12) = .bool (!ok_2 || (w0 != (x_8.queue.length : Int))) from hV 12 (by decide))
        refine L_gw (p := (!(!ok_2 || (w0 != (x_8.queue.length : Int))))) hS rfl rfl rfl (wantB_f _) (fun hp => ?_) (fun hp => ⟨by rw [hp]; rfl, hG⟩)
        exact L_val hS rfl (Ob_c tLinkD rfl) ⟨(by rw [hp]; rfl), hG⟩
       refine .cons (fun ss hlo hhi vals4 xw hG hV => ?_) ?_
       ·obtain rfl : ss = 1 := Nat.le_antisymm hhi hlo
        rw [← hfe]
        have hS := (hfr vals4).sub (ts := [130, 129]) (S' := [(130, vals4 13), (129, vals4 12)]) rfl
        replace hS := hS.conv (t := 130) rfl (show (vals4 13) = cond (!(!ok_2 || (w0 != (x_8.queue.length : Int)))) (.pointer (some ⟨b1, 0, none⟩)) undef from hV 13 (by decide))
        replace hS := hS.conv (t := 129) rfl (show (vals4 12) = .bool (!ok_2 || (w0 != (x_8.queue.length : Int))) from hV 12 (by decide))
        refine L_gw (p := (!(!ok_2 || (w0 != (x_8.queue.length : Int))))) hS rfl rfl rfl (wantB_f _) (fun hp => ?_) (fun hp => ⟨by rw [hp]; rfl, ?_⟩)
        ·obtain ⟨I2, hI2, H⟩ := Gx.ex hG
         replace hS := hS.conv (t := 130) rfl (cond_t hp)
         refine L_hcall H (js := [(0, false)]) rfl (caps := #[]) hS fn_19_YLinkD rfl rfl rfl rfl rfl (fun D1 hS => have hq := c_link_Link_Knows (gif_in hx18 hp) hS; hq) fun _ yw D1 hr hF2 => ?_
         obtain ⟨rfl, I3, K⟩ := hr
         obtain ⟨hK, H2⟩ := hF2 K
         exact ⟨by rw [hp]; rfl, by first | (rw [hp]; exact Gx.go hG hI2 hK K.imm H2) | exact Gx.go hG hI2 hK K.imm H2⟩
        ·(try rw [hp]); obtain ⟨I2, hI2, H⟩ := Gx.ex hG; exact Gx.go hG hI2 (Keep.refl _ _) (fun _ h => h) (H.sub [(0, false), (0, false), (0, true), (1, true)] rfl)
       refine .cons (fun ss hlo hhi vals4 xw hG hV => ?_) ?_
       ·obtain rfl | rfl : ss = 1 ∨ ss = 2 := st1 hlo hhi
        all_goals
        ·rw [← hfe]
         have hS := (hfr vals4).sub (ts := [129, 7]) (S' := [(129, vals4 12), (7, .pointer (some ⟨b3, 0, none⟩))]) rfl
         replace hS := hS.conv (t := 129) rfl (show (vals4 12) = .bool (!ok_2 || (w0 != (x_8.queue.length : Int))) from hV 12 (by decide))
         refine L_gw (p := (!(!ok_2 || (w0 != (x_8.queue.length : Int))))) hS rfl rfl rfl (wantB_f _) (fun hp => ?_) (fun hp => ⟨by rw [hp]; rfl, hG⟩)
         exact L_val hS rfl (Ob_c tLinkD rfl) ⟨(by rw [hp]; rfl), hG⟩
       refine .cons (fun ss hlo hhi vals4 xw hG hV => ?_) ?_
       ·obtain rfl | rfl : ss = 1 ∨ ss = 2 := st1 hlo hhi
        all_goals
        ·rw [← hfe]
         have hS := (hfr vals4).sub (ts := [132, 129]) (S' := [(132, vals4 15), (129, vals4 12)]) rfl
         replace hS := hS.conv (t := 132) rfl (show (vals4 15) = cond (!(!ok_2 || (w0 != (x_8.queue.length : Int)))) (.pointer (some ⟨b3, 0, none⟩)) undef from hV 15 (by decide))
         replace hS := hS.conv (t := 129) rfl (show (vals4 12) = .bool (!ok_2 || (w0 != (x_8.queue.length : Int))) from hV 12 (by decide))
         refine L_gw (p := (!(!ok_2 || (w0 != (x_8.queue.length : Int))))) hS rfl rfl rfl (wantB_f _) (fun hp => ?_) (fun hp => ⟨by rw [hp]; rfl, hG⟩)
         replace hS := hS.conv (t := 132) rfl (cond_t hp)
         exact L_val hS rfl (Ob_c tLinkD rfl) ⟨(by rw [hp]; rfl), hG⟩
       refine .cons (fun ss hlo hhi vals4 xw hG hV => ?_) ?_
       ·obtain rfl | rfl : ss = 1 ∨ ss = 2 := st1 hlo hhi
        all_goals
        ·rw [← hfe]
         have hS := (hfr vals4).sub (ts := [133, 129]) (S' := [(133, vals4 16), (129, vals4 12)]) rfl
         replace hS := hS.conv (t := 133) rfl (show (vals4 16) = cond (!(!ok_2 || (w0 != (x_8.queue.length : Int)))) (.pointer (some ⟨b3, 0, none⟩)) undef from hV 16 (by decide))
         replace hS := hS.conv (t := 129) rfl (show (vals4 12) = .bool (!ok_2 || (w0 != (x_8.queue.length : Int))) from hV 12 (by decide))
         refine L_gw (p := (!(!ok_2 || (w0 != (x_8.queue.length : Int))))) hS rfl rfl rfl (wantB_f _) (fun hp => ?_) (fun hp => ⟨by rw [hp]; rfl, hG⟩)
         replace hS := hS.conv (t := 133) rfl (cond_t hp)
         exact L_val hS rfl (Ob_c tLinkD rfl) ⟨(by rw [hp]; rfl), hG⟩
       refine .cons (fun ss hlo hhi vals4 xw hG hV => ?_) ?_
       ·obtain rfl | rfl : ss = 1 ∨ ss = 2 := st1 hlo hhi
        all_goals
        ·rw [← hfe]
         have hS := (hfr vals4).sub (ts := [134, 129]) (S' := [(134, vals4 17), (129, vals4 12)]) rfl
         replace hS := hS.conv (t := 134) rfl (show (vals4 17) = cond (!(!ok_2 || (w0 != (x_8.queue.length : Int)))) (.pointer (some ⟨b3, 5, none⟩)) undef from hV 17 (by decide))
         replace hS := hS.conv (t := 129) rfl (show (vals4 12) = .bool (!ok_2 || (w0 != (x_8.queue.length : Int))) from hV 12 (by decide))
         refine L_gw (p := (!(!ok_2 || (w0 != (x_8.queue.length : Int))))) hS rfl rfl rfl (wantB_f _) (fun hp => ?_) (fun hp => ⟨by rw [hp]; rfl, hG⟩)
         replace hS := hS.conv (t := 134) rfl (cond_t hp)
         obtain ⟨I2, hI2, H⟩ := Gx.ex hG
         exact L_val hS rfl (Ob_load tLinkD rfl rfl rfl ((H.bx 1 rfl).cell 5 rfl)) ⟨(by rw [hp]; rfl), hG⟩
       refine .cons (fun ss hlo hhi vals4 xw hG hV => ?_) ?_
       ·obtain rfl : ss = 2 := Nat.le_antisymm hhi hlo
        rw [← hfe]
        have hS := (hfr vals4).sub (ts := [131, 135, 129]) (S' := [(131, vals4 14), (135, vals4 18), (129, vals4 12)]) rfl
        replace hS := hS.conv (t := 131) rfl (show (vals4 14) = cond (!(!ok_2 || (w0 != (x_8.queue.length : Int)))) (.int .i64 k) undef from hV 14 (by decide))
        replace hS := hS.conv (t := 135) rfl (show (vals4 18) = cond (!(!ok_2 || (w0 != (x_8.queue.length : Int)))) (.int .i64 x_8.peer) undef from hV 18 (by decide))
        replace hS := hS.conv (t := 129) rfl (show (vals4 12) = .bool (!ok_2 || (w0 != (x_8.queue.length : Int))) from hV 12 (by decide))
        refine L_gw (p := (!(!ok_2 || (w0 != (x_8.queue.length : Int))))) hS rfl rfl rfl (wantB_f _) (fun hp => ?_) (fun hp => ⟨by rw [hp]; rfl, hG⟩)
        replace hS := hS.conv (t := 131) rfl (cond_t hp)
        replace hS := hS.conv (t := 135) rfl (cond_t hp)
        exact L_val hS rfl (Ob_c tLinkD rfl) ⟨(by rw [hp]; rfl), hG⟩
       refine .cons (fun ss hlo hhi vals4 xw hG hV => ?_) ?_
       ·obtain rfl : ss = 2 := Nat.le_antisymm hhi hlo
        rw [← hfe]
        have hS := (hfr vals4).sub (ts := [129, 136]) (S' := [(129, vals4 12), (136, vals4 19)]) rfl
        replace hS := hS.conv (t := 129) rfl (show (vals4 12) = .bool (!ok_2 || (w0 != (x_8.queue.length : Int))) from hV 12 (by decide))
        replace hS := hS.conv (t := 136) rfl (show (vals4 19) = cond (!(!ok_2 || (w0 != (x_8.queue.length : Int)))) (.bool (k != x_8.peer)) undef from hV 19 (by decide))
        exact L_val hS rfl (Ob_pick rfl rfl rfl rfl (pick_or _ _)) ⟨rfl, hG⟩
       exact .nil
      ·intro vals4 a w20 Z hG hV
       replace Z := Z.sub (ts := [1, 4, 5, 7, 9, 10, 35, 36, 37, 38, 39, 42, 43, 46, 49, 50, 51, 52, 53, 82, 83, 117, 118, 119, 128, 129, 137]) (S' := [(1, v1_l), (4, .bool false), (5, .pointer (some ⟨b1, 0, none⟩)), (7, .pointer (some ⟨b3, 0, none⟩)), (9, .int .i64 i_3), (10, .bool ok_2), (35, .int .i64 i_3), (36, v1_l), (37, .int .i64 (l.length : Int)), (38, .bool (decide (i_3 < (l.length : Int)))), (39, .bool (decide (i_3 < (l.length : Int)))), (42, .bool ((decide (i_3 < (l.length : Int))) && (decide (i_3 < 40)))), (43, .bool ((decide (i_3 < (l.length : Int))) && (decide (i_3 < 40)))), (46, .bool (((decide (i_3 < (l.length : Int))) && (decide (i_3 < 40))) && true)), (49, v1_l), (50, .int .i64 i_3), (51, .pointer (some ⟨blkOf v1_l, oofOf v1_l + (i_3).toNat * 11, none⟩)), (52, .pointer (some ⟨blkOf v1_l, oofOf v1_l + (i_3).toNat * 11, none⟩)), (53, .int .i64 ((l.getD (i_3).toNat default).k)), (82, .bool (((l.getD (i_3).toNat default).k) == 0)), (83, .bool (((l.getD (i_3).toNat default).k) == 0)), (117, vals4 0), (118, vals4 1), (119, vals4 2), (128, vals4 11), (129, vals4 12), (137, vals4 20)]) rfl
       replace Z := Z.conv (t := 117) rfl (show (vals4 0) = .bool ok_2 from hV 0 (by decide))
       replace Z := Z.conv (t := 118) rfl (show (vals4 1) = .bool !ok_2 from hV 1 (by decide))
       replace Z := Z.conv (t := 119) rfl (show (vals4 2) = .bool !ok_2 from hV 2 (by decide))
       replace Z := Z.conv (t := 128) rfl (show (vals4 11) = .bool (!ok_2 || (w0 != (x_8.queue.length : Int))) from hV 11 (by decide))
       replace Z := Z.conv (t := 129) rfl (show (vals4 12) = .bool (!ok_2 || (w0 != (x_8.queue.length : Int))) from hV 12 (by decide))
       replace Z := Z.conv (t := 137) rfl (show (vals4 20) = .bool ((!ok_2 || (w0 != (x_8.queue.length : Int))) || (k != x_8.peer)) from hV 20 (by decide))
       obtain ⟨I20, _, H⟩ := Gx.ex hG
       clear hG hV
       replace Z := Z.sub (ts := [1, 4, 5, 7, 9, 10, 35, 36, 37, 38, 39, 42, 43, 46, 49, 50, 51, 52, 53, 82, 83, 117, 118, 119, 128, 129, 137]) rfl
       replace H : Hf I D w I20 w20 [OElink_Link b1 a0_5, BxC b3 47 (cEref22_Link x_8 v3), SlC NS v3 x_8.queue, SlC NElaw22_Act v1_l l] := H
       refine p_then ?_
       refine f_cond Z rfl (fun hc11 => ?_) (fun hc11 => ?_)
       ·replace hF := ite_t hc11 hF
        refine wp_seq (f_region Z ?_); clear Z; intro Z
        refine s_runk tLinkD Z 1 rfl rfl ?_; clear Z a; intro a Z
        refine s_end Z [1, 4, 5, 7, 9, 10, 35, 36, 37, 38, 39, 42, 43, 46, 49, 50, 51, 52, 53, 82, 83, 117, 118, 119, 128, 129, 137] rfl ?_; clear Z; intro Z
        refine p_then (wp_ret ?_)
        refine p_blk_r ?_
        refine p_then_r ?_
        refine p_then_r ?_
        refine p_blk_r ?_
        refine p_then_r ?_
        obtain rfl := some_in hF
        exact f_ret Z (run_results1 rfl Z rfl) ⟨rfl, I20, (H.sub [] rfl).eq rfl⟩
       ·replace hF := ite_f hc11 hF
        refine wp_skip ?_
        refine p_blk ?_
        refine p_then ?_
        obtain ⟨hg9, hF⟩ := chk_in hF
        refine f_region Z ?_; clear Z; intro Z
        refine s_runk tLinkD Z 1 rfl rfl ?_; clear Z a; intro a Z
        refine s_ob Z (v := .int .i64 (i_3 + 1)) rfl rfl (by decide) rfl (Ob_add rfl rfl rfl (wrI hg9)) ?_; clear Z a; intro a Z
        refine s_runk tLinkD Z 1 rfl rfl ?_; clear Z a; intro a Z
        refine s_end Z [1, 4, 5, 7, 9, 10, 35, 36, 37, 38, 39, 42, 43, 46, 49, 50, 51, 52, 53, 82, 83, 117, 118, 119, 128, 129, 137, 47, 48] rfl ?_; clear Z; intro Z
        refine p_then ?_
        replace H : Hf I D w I20 w20 [OEref22_Link b3 x_8, OElink_Link b1 a0_5, SlC NS v3 x_8.queue, SlC NElaw22_Act v1_l l] := H.shutX (v3) [(1, false), (1, true)] rfl
        exact ⟨(i_3 + 1, a0_5, x_8), ⟨Z.sub (ts := [1, 4, 5, 7, 9]) rfl, ⟨I20, (H.sub [(1, false), (0, false), (1, true)] rfl).eq rfl⟩⟩, hF⟩
     ·skip
      refine wp_seq ?_
      obtain ⟨hg10, hF⟩ := chk_in hF
      refine f_region Z ?_; clear Z; intro Z
      refine s_runk tLinkD Z 2 rfl rfl ?_; clear Z a; intro a Z
      refine s_ob Z (v := .pointer (some ⟨blkOf v1_l, oofOf v1_l + (i_3).toNat * 11, none⟩)) rfl rfl (by decide) rfl (Ob_sidx tLinkD rfl rfl rfl rfl (slPl (H.sl 2 rfl) hg10) hg10) ?_; clear Z a; intro a Z
      refine s_runk tLinkD Z 1 rfl rfl ?_; clear Z a; intro a Z
      refine s_ob Z (v := .int .i64 ((l.getD (i_3).toNat default).k)) rfl rfl (by decide) rfl (Ob_load tLinkD rfl rfl rfl ((slFl (H.sl 2 rfl) hg10) 0 _ rfl)) ?_; clear Z a; intro a Z
      refine s_end Z [1, 4, 5, 7, 9, 35, 36, 37, 38, 39, 42, 43, 46, 10, 49, 50, 51, 52, 53] rfl ?_; clear Z; intro Z
      refine p_then (wp_block ?_)
      refine wp_seq (f_region Z ?_); clear Z; intro Z
      refine s_runk tLinkD Z 2 rfl rfl ?_; clear Z a; intro a Z
      refine s_end Z [1, 4, 5, 7, 9, 35, 36, 37, 38, 39, 42, 43, 46, 10, 49, 50, 51, 52, 53, 83, 82] rfl ?_; clear Z; intro Z
      refine p_then ?_
      refine f_cond Z rfl (fun hc12 => ?_) (fun hc12 => ?_)
      ·replace hF := ite_t hc12 hF
       obtain ⟨hg11, hF⟩ := chk_in hF
       obtain ⟨s0_4, hx19, hF⟩ := bnd_in hF
       obtain ⟨hg12, hF⟩ := chk_in hF
       obtain ⟨s0_5, hx20, hF⟩ := bnd_in hF
       refine f_regionL Z (by kernel_rfl) (by kernel_rfl) (by decide) (by decide) [6, 13] [(0, 0, 0), (0, 0, 0), (0, 0, 0), (6, 0, 0), (14, 0, 0), (30, 0, 0), (63, 0, 0), (0, 0, 1), (0, 0, 1), (0, 0, 1), (768, 0, 1), (1792, 0, 1), (3840, 0, 1), (8191, 1, 1), (16383, 2, 2), (32767, 2, 2)] (by kernel_rfl) (fun jj vv => cond (Nat.blt jj 8) (cond (Nat.blt jj 4) (cond (Nat.blt jj 2) (cond (Nat.blt jj 1) (vv = .pointer (some ⟨b1, 0, none⟩)) (vv = v1_l)) (cond (Nat.blt jj 3) (vv = .int .i64 i_3) (vv = .pointer (some ⟨blkOf v1_l, oofOf v1_l + (i_3).toNat * 11, none⟩)))) (cond (Nat.blt jj 6) (cond (Nat.blt jj 5) (vv = .pointer (some ⟨blkOf v1_l, oofOf v1_l + (i_3).toNat * 11 + 1, none⟩)) (vv = .string ((l.getD (i_3).toNat default).s))) (cond (Nat.blt jj 7) (vv = .int .i64 s0_4.1) (vv = .pointer (some ⟨b3, 0, none⟩))))) (cond (Nat.blt jj 12) (cond (Nat.blt jj 10) (cond (Nat.blt jj 9) (vv = v1_l) (vv = .int .i64 i_3)) (cond (Nat.blt jj 11) (vv = .pointer (some ⟨blkOf v1_l, oofOf v1_l + (i_3).toNat * 11, none⟩)) (vv = .pointer (some ⟨blkOf v1_l, oofOf v1_l + (i_3).toNat * 11 + 1, none⟩)))) (cond (Nat.blt jj 14) (cond (Nat.blt jj 13) (vv = .string ((l.getD (i_3).toNat default).s)) (vv = .int .i64 s0_5.1)) (cond (Nat.blt jj 15) (vv = .bool (s0_4.1 == s0_5.1)) (vv = .bool (s0_4.1 == s0_5.1)))))) (fun ss vals5 xw => match ss with | 0 => Gx I D w I18 w18 xw [OElink_Link b1 a0_4, OEref22_Link b3 x_7, SlC NElaw22_Act v1_l l] | 1 => Gx I D w I18 w18 xw [OElink_Link b1 s0_4.2, OEref22_Link b3 x_7, SlC NElaw22_Act v1_l l] | _ => Gx I D w I18 w18 xw [OEref22_Link b3 s0_5.2, OElink_Link b1 s0_4.2, SlC NElaw22_Act v1_l l]) (fun _ => Gx.start H) ?_ ?_
       ·intro fr hfr hfe
        refine .cons (fun ss hlo hhi vals5 xw hG hV => ?_) ?_
        ·obtain rfl : ss = 0 := Nat.le_antisymm hhi hlo
         rw [← hfe]
         have hS := (hfr vals5).sub (ts := [5]) (S' := [(5, .pointer (some ⟨b1, 0, none⟩))]) rfl
         exact L_val hS rfl (Ob_c tLinkD rfl) ⟨rfl, hG⟩
        refine .cons (fun ss hlo hhi vals5 xw hG hV => ?_) ?_
        ·obtain rfl : ss = 0 := Nat.le_antisymm hhi hlo
         rw [← hfe]
         have hS := (hfr vals5).sub (ts := [1]) (S' := [(1, v1_l)]) rfl
         exact L_val hS rfl (Ob_c tLinkD rfl) ⟨rfl, hG⟩
        refine .cons (fun ss hlo hhi vals5 xw hG hV => ?_) ?_
        ·obtain rfl : ss = 0 := Nat.le_antisymm hhi hlo
         rw [← hfe]
         have hS := (hfr vals5).sub (ts := [9]) (S' := [(9, .int .i64 i_3)]) rfl
         exact L_val hS rfl (Ob_c tLinkD rfl) ⟨rfl, hG⟩
        refine .cons (fun ss hlo hhi vals5 xw hG hV => ?_) ?_
        ·obtain rfl : ss = 0 := Nat.le_antisymm hhi hlo
         rw [← hfe]
         have hS := (hfr vals5).sub (ts := [85, 86]) (S' := [(85, vals5 1), (86, vals5 2)]) rfl
         replace hS := hS.conv (t := 85) rfl (show (vals5 1) = v1_l from hV 1 (by decide))
         replace hS := hS.conv (t := 86) rfl (show (vals5 2) = .int .i64 i_3 from hV 2 (by decide))
         obtain ⟨I2, hI2, H⟩ := Gx.ex hG
         exact L_val hS rfl (Ob_sidx tLinkD rfl rfl rfl rfl (slPl (H.sl 2 rfl) hg11) hg11) ⟨rfl, hG⟩
        refine .cons (fun ss hlo hhi vals5 xw hG hV => ?_) ?_
        ·obtain rfl : ss = 0 := Nat.le_antisymm hhi hlo
         rw [← hfe]
         have hS := (hfr vals5).sub (ts := [87]) (S' := [(87, vals5 3)]) rfl
         replace hS := hS.conv (t := 87) rfl (show (vals5 3) = .pointer (some ⟨blkOf v1_l, oofOf v1_l + (i_3).toNat * 11, none⟩) from hV 3 (by decide))
         exact L_val hS rfl (Ob_c tLinkD rfl) ⟨rfl, hG⟩
        refine .cons (fun ss hlo hhi vals5 xw hG hV => ?_) ?_
        ·obtain rfl : ss = 0 := Nat.le_antisymm hhi hlo
         rw [← hfe]
         have hS := (hfr vals5).sub (ts := [88]) (S' := [(88, vals5 4)]) rfl
         replace hS := hS.conv (t := 88) rfl (show (vals5 4) = .pointer (some ⟨blkOf v1_l, oofOf v1_l + (i_3).toNat * 11 + 1, none⟩) from hV 4 (by decide))
         obtain ⟨I2, hI2, H⟩ := Gx.ex hG
         exact L_val hS rfl (Ob_load tLinkD rfl rfl rfl ((slFl (H.sl 2 rfl) hg11) 1 _ rfl)) ⟨rfl, hG⟩
        refine .cons (fun ss hlo hhi vals5 xw hG hV => ?_) ?_
        ·obtain rfl : ss = 0 := Nat.le_antisymm hhi hlo
         rw [← hfe]
         have hS := (hfr vals5).sub (ts := [84, 89]) (S' := [(84, vals5 0), (89, vals5 5)]) rfl
         replace hS := hS.conv (t := 84) rfl (show (vals5 0) = .pointer (some ⟨b1, 0, none⟩) from hV 0 (by decide))
         replace hS := hS.conv (t := 89) rfl (show (vals5 5) = .string ((l.getD (i_3).toNat default).s) from hV 5 (by decide))
         obtain ⟨I2, hI2, H⟩ := Gx.ex hG
         refine L_hcall H (js := [(0, false)]) rfl (caps := #[]) hS fn_10_YLinkD rfl rfl rfl rfl rfl (fun D1 hS => have hq := c_link_Link_Send hx19 hS; hq) fun _ yw D1 hr hF2 => ?_
         obtain ⟨rfl, I3, K⟩ := hr
         obtain ⟨hK, H2⟩ := hF2 K
         exact ⟨rfl, Gx.go hG hI2 hK K.imm H2⟩
        refine .cons (fun ss hlo hhi vals5 xw hG hV => ?_) ?_
        ·obtain rfl | rfl : ss = 0 ∨ ss = 1 := st1 hlo hhi
         all_goals
         ·rw [← hfe]
          have hS := (hfr vals5).sub (ts := [7]) (S' := [(7, .pointer (some ⟨b3, 0, none⟩))]) rfl
          exact L_val hS rfl (Ob_c tLinkD rfl) ⟨rfl, hG⟩
        refine .cons (fun ss hlo hhi vals5 xw hG hV => ?_) ?_
        ·obtain rfl | rfl : ss = 0 ∨ ss = 1 := st1 hlo hhi
         all_goals
         ·rw [← hfe]
          have hS := (hfr vals5).sub (ts := [1]) (S' := [(1, v1_l)]) rfl
          exact L_val hS rfl (Ob_c tLinkD rfl) ⟨rfl, hG⟩
        refine .cons (fun ss hlo hhi vals5 xw hG hV => ?_) ?_
        ·obtain rfl | rfl : ss = 0 ∨ ss = 1 := st1 hlo hhi
         all_goals
         ·rw [← hfe]
          have hS := (hfr vals5).sub (ts := [9]) (S' := [(9, .int .i64 i_3)]) rfl
          exact L_val hS rfl (Ob_c tLinkD rfl) ⟨rfl, hG⟩
        refine .cons (fun ss hlo hhi vals5 xw hG hV => ?_) ?_
        ·obtain rfl | rfl : ss = 0 ∨ ss = 1 := st1 hlo hhi
         all_goals
         ·rw [← hfe]
          have hS := (hfr vals5).sub (ts := [92, 93]) (S' := [(92, vals5 8), (93, vals5 9)]) rfl
          replace hS := hS.conv (t := 92) rfl (show (vals5 8) = v1_l from hV 8 (by decide))
          replace hS := hS.conv (t := 93) rfl (show (vals5 9) = .int .i64 i_3 from hV 9 (by decide))
          obtain ⟨I2, hI2, H⟩ := Gx.ex hG
          exact L_val hS rfl (Ob_sidx tLinkD rfl rfl rfl rfl (slPl (H.sl 2 rfl) hg12) hg12) ⟨rfl, hG⟩
        refine .cons (fun ss hlo hhi vals5 xw hG hV => ?_) ?_
        ·obtain rfl | rfl : ss = 0 ∨ ss = 1 := st1 hlo hhi
         all_goals
         ·rw [← hfe]
          have hS := (hfr vals5).sub (ts := [94]) (S' := [(94, vals5 10)]) rfl
          replace hS := hS.conv (t := 94) rfl (show (vals5 10) = .pointer (some ⟨blkOf v1_l, oofOf v1_l + (i_3).toNat * 11, none⟩) from hV 10 (by decide))
          exact L_val hS rfl (Ob_c tLinkD rfl) ⟨rfl, hG⟩
        refine .cons (fun ss hlo hhi vals5 xw hG hV => ?_) ?_
        ·obtain rfl | rfl : ss = 0 ∨ ss = 1 := st1 hlo hhi
         all_goals
         ·rw [← hfe]
          have hS := (hfr vals5).sub (ts := [95]) (S' := [(95, vals5 11)]) rfl
          replace hS := hS.conv (t := 95) rfl (show (vals5 11) = .pointer (some ⟨blkOf v1_l, oofOf v1_l + (i_3).toNat * 11 + 1, none⟩) from hV 11 (by decide))
          obtain ⟨I2, hI2, H⟩ := Gx.ex hG
          exact L_val hS rfl (Ob_load tLinkD rfl rfl rfl ((slFl (H.sl 2 rfl) hg12) 1 _ rfl)) ⟨rfl, hG⟩
        refine .cons (fun ss hlo hhi vals5 xw hG hV => ?_) ?_
        ·obtain rfl : ss = 1 := Nat.le_antisymm hhi hlo
         rw [← hfe]
         have hS := (hfr vals5).sub (ts := [91, 96]) (S' := [(91, vals5 7), (96, vals5 12)]) rfl
         replace hS := hS.conv (t := 91) rfl (show (vals5 7) = .pointer (some ⟨b3, 0, none⟩) from hV 7 (by decide))
         replace hS := hS.conv (t := 96) rfl (show (vals5 12) = .string ((l.getD (i_3).toNat default).s) from hV 12 (by decide))
         obtain ⟨I2, hI2, H⟩ := Gx.ex hG
         refine L_hcall H (js := [(1, false)]) rfl (caps := #[]) hS fn_11_YLinkD rfl rfl rfl rfl rfl (fun D1 hS => have hq := c_ref22_Link_Send hx20 hS; hq) fun _ yw D1 hr hF2 => ?_
         obtain ⟨rfl, I3, K⟩ := hr
         obtain ⟨hK, H2⟩ := hF2 K
         exact ⟨rfl, Gx.go hG hI2 hK K.imm H2⟩
        refine .cons (fun ss hlo hhi vals5 xw hG hV => ?_) ?_
        ·obtain rfl : ss = 2 := Nat.le_antisymm hhi hlo
         rw [← hfe]
         have hS := (hfr vals5).sub (ts := [90, 97]) (S' := [(90, vals5 6), (97, vals5 13)]) rfl
         replace hS := hS.conv (t := 90) rfl (show (vals5 6) = .int .i64 s0_4.1 from hV 6 (by decide))
         replace hS := hS.conv (t := 97) rfl (show (vals5 13) = .int .i64 s0_5.1 from hV 13 (by decide))
         exact L_val hS rfl (Ob_c tLinkD rfl) ⟨rfl, hG⟩
        refine .cons (fun ss hlo hhi vals5 xw hG hV => ?_) ?_
        ·obtain rfl : ss = 2 := Nat.le_antisymm hhi hlo
         rw [← hfe]
         have hS := (hfr vals5).sub (ts := [98]) (S' := [(98, vals5 14)]) rfl
         replace hS := hS.conv (t := 98) rfl (show (vals5 14) = .bool (s0_4.1 == s0_5.1) from hV 14 (by decide))
         exact L_val hS rfl (Ob_c tLinkD rfl) ⟨rfl, hG⟩
        exact .nil
       ·intro vals5 a w21 Z hG hV
        replace Z := Z.sub (ts := [1, 4, 5, 7, 9, 35, 36, 37, 38, 39, 42, 43, 46, 10, 49, 50, 51, 52, 53, 83, 82, 84, 85, 86, 87, 88, 89, 90, 91, 92, 93, 94, 95, 96, 97, 98]) (S' := [(1, v1_l), (4, .bool false), (5, .pointer (some ⟨b1, 0, none⟩)), (7, .pointer (some ⟨b3, 0, none⟩)), (9, .int .i64 i_3), (35, .int .i64 i_3), (36, v1_l), (37, .int .i64 (l.length : Int)), (38, .bool (decide (i_3 < (l.length : Int)))), (39, .bool (decide (i_3 < (l.length : Int)))), (42, .bool ((decide (i_3 < (l.length : Int))) && (decide (i_3 < 40)))), (43, .bool ((decide (i_3 < (l.length : Int))) && (decide (i_3 < 40)))), (46, .bool (((decide (i_3 < (l.length : Int))) && (decide (i_3 < 40))) && true)), (10, vals5 15), (49, v1_l), (50, .int .i64 i_3), (51, .pointer (some ⟨blkOf v1_l, oofOf v1_l + (i_3).toNat * 11, none⟩)), (52, .pointer (some ⟨blkOf v1_l, oofOf v1_l + (i_3).toNat * 11, none⟩)), (53, .int .i64 ((l.getD (i_3).toNat default).k)), (83, .bool (((l.getD (i_3).toNat default).k) == 0)), (82, .bool (((l.getD (i_3).toNat default).k) == 0)), (84, vals5 0), (85, vals5 1), (86, vals5 2), (87, vals5 3), (88, vals5 4), (89, vals5 5), (90, vals5 6), (91, vals5 7), (92, vals5 8), (93, vals5 9), (94, vals5 10), (95, vals5 11), (96, vals5 12), (97, vals5 13), (98, vals5 14)]) rfl
        replace Z := Z.conv (t := 10) rfl (show (vals5 15) = .bool (s0_4.1 == s0_5.1) from hV 15 (by decide))
        replace Z := Z.conv (t := 84) rfl (show (vals5 0) = .pointer (some ⟨b1, 0, none⟩) from hV 0 (by decide))
        replace Z := Z.conv (t := 85) rfl (show (vals5 1) = v1_l from hV 1 (by decide))
        replace Z := Z.conv (t := 86) rfl (show (vals5 2) = .int .i64 i_3 from hV 2 (by decide))
        replace Z := Z.conv (t := 87) rfl (show (vals5 3) = .pointer (some ⟨blkOf v1_l, oofOf v1_l + (i_3).toNat * 11, none⟩) from hV 3 (by decide))
        replace Z := Z.conv (t := 88) rfl (show (vals5 4) = .pointer (some ⟨blkOf v1_l, oofOf v1_l + (i_3).toNat * 11 + 1, none⟩) from hV 4 (by decide))
        replace Z := Z.conv (t := 89) rfl (show (vals5 5) = .string ((l.getD (i_3).toNat default).s) from hV 5 (by decide))
        replace Z := Z.conv (t := 90) rfl (show (vals5 6) = .int .i64 s0_4.1 from hV 6 (by decide))
        replace Z := Z.conv (t := 91) rfl (show (vals5 7) = .pointer (some ⟨b3, 0, none⟩) from hV 7 (by decide))
        replace Z := Z.conv (t := 92) rfl (show (vals5 8) = v1_l from hV 8 (by decide))
        replace Z := Z.conv (t := 93) rfl (show (vals5 9) = .int .i64 i_3 from hV 9 (by decide))
        replace Z := Z.conv (t := 94) rfl (show (vals5 10) = .pointer (some ⟨blkOf v1_l, oofOf v1_l + (i_3).toNat * 11, none⟩) from hV 10 (by decide))
        replace Z := Z.conv (t := 95) rfl (show (vals5 11) = .pointer (some ⟨blkOf v1_l, oofOf v1_l + (i_3).toNat * 11 + 1, none⟩) from hV 11 (by decide))
        replace Z := Z.conv (t := 96) rfl (show (vals5 12) = .string ((l.getD (i_3).toNat default).s) from hV 12 (by decide))
        replace Z := Z.conv (t := 97) rfl (show (vals5 13) = .int .i64 s0_5.1 from hV 13 (by decide))
        replace Z := Z.conv (t := 98) rfl (show (vals5 14) = .bool (s0_4.1 == s0_5.1) from hV 14 (by decide))
        obtain ⟨I21, _, H⟩ := Gx.ex hG
        clear hG hV
        replace Z := Z.sub (ts := [1, 4, 5, 7, 9, 35, 36, 37, 38, 39, 42, 43, 46, 10, 49, 50, 51, 52, 53, 83, 82, 84, 85, 86, 87, 88, 89, 90, 91, 92, 93, 94, 95, 96, 97, 98]) rfl
        replace H : Hf I D w I21 w21 [OEref22_Link b3 s0_5.2, OElink_Link b1 s0_4.2, SlC NElaw22_Act v1_l l] := H
        refine p_blk ?_
        refine p_then ?_
        exact ⟨s0_4.1 == s0_5.1, s0_4.2, s0_5.2, Z.sub (ts := [1, 4, 5, 7, 9, 10, 35, 36, 37, 38, 39, 42, 43, 46, 49, 50, 51, 52, 53, 82, 83]) rfl, ⟨I21, (H.sub [(1, false), (0, false), (0, true)] rfl).eq rfl⟩, hF⟩
      ·replace hF := ite_f hc12 hF
       refine f_cut (fun a' w' => ∃ (x_9 : Bool), Sl 139 [(1, v1_l), (4, .bool false), (5, .pointer (some ⟨b1, 0, none⟩)), (7, .pointer (some ⟨b3, 0, none⟩)), (9, .int .i64 i_3), (10, .bool true), (35, .int .i64 i_3), (36, v1_l), (37, .int .i64 (l.length : Int)), (38, .bool (decide (i_3 < (l.length : Int)))), (39, .bool (decide (i_3 < (l.length : Int)))), (42, .bool ((decide (i_3 < (l.length : Int))) && (decide (i_3 < 40)))), (43, .bool ((decide (i_3 < (l.length : Int))) && (decide (i_3 < 40)))), (46, .bool (((decide (i_3 < (l.length : Int))) && (decide (i_3 < 40))) && true)), (49, v1_l), (50, .int .i64 i_3), (51, .pointer (some ⟨blkOf v1_l, oofOf v1_l + (i_3).toNat * 11, none⟩)), (52, .pointer (some ⟨blkOf v1_l, oofOf v1_l + (i_3).toNat * 11, none⟩)), (53, .int .i64 ((l.getD (i_3).toNat default).k)), (82, .bool (((l.getD (i_3).toNat default).k) == 0)), (83, .bool (((l.getD (i_3).toNat default).k) == 0)), (99, .bool x_9), (100, .bool (((l.getD (i_3).toNat default).k) == 1))] a' ∧ (∃ I2, Hf I D w I2 w' [OElink_Link b1 a0_4, OEref22_Link b3 x_7, SlC NElaw22_Act v1_l l]) ∧ F_law22_LinkPlays_k8 l i_3 a0_4 x_7 rc_4 x_9 = some rr) ?_ ?_
       ·rintro a w22 ⟨x_9, Z, ⟨I22, H⟩, hF⟩
        unfold F_law22_LinkPlays_k8 at hF
        try dsimp only at hF
        refine f_cond Z rfl (fun hc13 => ?_) (fun hc13 => ?_)
        ·replace hF := ite_t hc13 hF
         obtain ⟨hg13, hF⟩ := chk_in hF
         obtain ⟨o_2, hx21, hF⟩ := bnd_in hF
         obtain ⟨hg14, hF⟩ := chk_in hF
         obtain ⟨o_3, hx22, hF⟩ := bnd_in hF
         obtain ⟨s0_6, hx23, hF⟩ := bnd_in hF
         refine f_regionL Z (by kernel_rfl) (by kernel_rfl) (by decide) (by decide) [6, 13] [(0, 0, 0), (0, 0, 0), (0, 0, 0), (6, 0, 0), (14, 0, 0), (30, 0, 0), (63, 0, 0), (0, 0, 1), (0, 0, 1), (0, 0, 1), (768, 0, 1), (1792, 0, 1), (3840, 0, 1), (8191, 1, 1), (16383, 2, 2), (32767, 2, 2)] (by kernel_rfl) (fun jj vv => cond (Nat.blt jj 8) (cond (Nat.blt jj 4) (cond (Nat.blt jj 2) (cond (Nat.blt jj 1) (vv = .pointer (some ⟨b1, 0, none⟩)) (vv = v1_l)) (cond (Nat.blt jj 3) (vv = .int .i64 i_3) (vv = .pointer (some ⟨blkOf v1_l, oofOf v1_l + (i_3).toNat * 11, none⟩)))) (cond (Nat.blt jj 6) (cond (Nat.blt jj 5) (vv = .pointer (some ⟨blkOf v1_l, oofOf v1_l + (i_3).toNat * 11 + 2, none⟩)) (vv = .bool ((l.getD (i_3).toNat default).again))) (cond (Nat.blt jj 7) (True) (vv = .pointer (some ⟨b3, 0, none⟩))))) (cond (Nat.blt jj 12) (cond (Nat.blt jj 10) (cond (Nat.blt jj 9) (vv = v1_l) (vv = .int .i64 i_3)) (cond (Nat.blt jj 11) (vv = .pointer (some ⟨blkOf v1_l, oofOf v1_l + (i_3).toNat * 11, none⟩)) (vv = .pointer (some ⟨blkOf v1_l, oofOf v1_l + (i_3).toNat * 11 + 2, none⟩)))) (cond (Nat.blt jj 14) (cond (Nat.blt jj 13) (vv = .bool ((l.getD (i_3).toNat default).again)) (True)) (cond (Nat.blt jj 15) (vv = .bool s0_6) (vv = .bool s0_6))))) (fun ss vals6 xw => match ss with | 0 => Gx I D w I22 w22 xw [OElink_Link b1 a0_4, OEref22_Link b3 x_7, SlC NElaw22_Act v1_l l] | 1 => Gx I D w I22 w22 xw [OElink_Link b1 o_2.2, SlC NESeg (vals6 6) o_2.1, OEref22_Link b3 x_7, SlC NElaw22_Act v1_l l] | _ => Gx I D w I22 w22 xw [OEref22_Link b3 o_3.2, SlC NESeg (vals6 13) o_3.1, OElink_Link b1 o_2.2, SlC NESeg (vals6 6) o_2.1, SlC NElaw22_Act v1_l l]) (fun _ => Gx.start H) ?_ ?_
         ·intro fr hfr hfe
          refine .cons (fun ss hlo hhi vals6 xw hG hV => ?_) ?_
          ·obtain rfl : ss = 0 := Nat.le_antisymm hhi hlo
           rw [← hfe]
           have hS := (hfr vals6).sub (ts := [5]) (S' := [(5, .pointer (some ⟨b1, 0, none⟩))]) rfl
           exact L_val hS rfl (Ob_c tLinkD rfl) ⟨rfl, hG⟩
          refine .cons (fun ss hlo hhi vals6 xw hG hV => ?_) ?_
          ·obtain rfl : ss = 0 := Nat.le_antisymm hhi hlo
           rw [← hfe]
           have hS := (hfr vals6).sub (ts := [1]) (S' := [(1, v1_l)]) rfl
           exact L_val hS rfl (Ob_c tLinkD rfl) ⟨rfl, hG⟩
          refine .cons (fun ss hlo hhi vals6 xw hG hV => ?_) ?_
          ·obtain rfl : ss = 0 := Nat.le_antisymm hhi hlo
           rw [← hfe]
           have hS := (hfr vals6).sub (ts := [9]) (S' := [(9, .int .i64 i_3)]) rfl
           exact L_val hS rfl (Ob_c tLinkD rfl) ⟨rfl, hG⟩
          refine .cons (fun ss hlo hhi vals6 xw hG hV => ?_) ?_
          ·obtain rfl : ss = 0 := Nat.le_antisymm hhi hlo
           rw [← hfe]
           have hS := (hfr vals6).sub (ts := [103, 104]) (S' := [(103, vals6 1), (104, vals6 2)]) rfl
           replace hS := hS.conv (t := 103) rfl (show (vals6 1) = v1_l from hV 1 (by decide))
           replace hS := hS.conv (t := 104) rfl (show (vals6 2) = .int .i64 i_3 from hV 2 (by decide))
           obtain ⟨I2, hI2, H⟩ := Gx.ex hG
           exact L_val hS rfl (Ob_sidx tLinkD rfl rfl rfl rfl (slPl (H.sl 2 rfl) hg13) hg13) ⟨rfl, hG⟩
          refine .cons (fun ss hlo hhi vals6 xw hG hV => ?_) ?_
          ·obtain rfl : ss = 0 := Nat.le_antisymm hhi hlo
           rw [← hfe]
           have hS := (hfr vals6).sub (ts := [105]) (S' := [(105, vals6 3)]) rfl
           replace hS := hS.conv (t := 105) rfl (show (vals6 3) = .pointer (some ⟨blkOf v1_l, oofOf v1_l + (i_3).toNat * 11, none⟩) from hV 3 (by decide))
           exact L_val hS rfl (Ob_c tLinkD rfl) ⟨rfl, hG⟩
          refine .cons (fun ss hlo hhi vals6 xw hG hV => ?_) ?_
          ·obtain rfl : ss = 0 := Nat.le_antisymm hhi hlo
           rw [← hfe]
           have hS := (hfr vals6).sub (ts := [106]) (S' := [(106, vals6 4)]) rfl
           replace hS := hS.conv (t := 106) rfl (show (vals6 4) = .pointer (some ⟨blkOf v1_l, oofOf v1_l + (i_3).toNat * 11 + 2, none⟩) from hV 4 (by decide))
           obtain ⟨I2, hI2, H⟩ := Gx.ex hG
           exact L_val hS rfl (Ob_load tLinkD rfl rfl rfl ((slFl (H.sl 2 rfl) hg13) 2 _ rfl)) ⟨rfl, hG⟩
          refine .cons (fun ss hlo hhi vals6 xw hG hV => ?_) ?_
          ·obtain rfl : ss = 0 := Nat.le_antisymm hhi hlo
           rw [← hfe]
           have hS := (hfr vals6).sub (ts := [102, 107]) (S' := [(102, vals6 0), (107, vals6 5)]) rfl
           replace hS := hS.conv (t := 102) rfl (show (vals6 0) = .pointer (some ⟨b1, 0, none⟩) from hV 0 (by decide))
           replace hS := hS.conv (t := 107) rfl (show (vals6 5) = .bool ((l.getD (i_3).toNat default).again) from hV 5 (by decide))
           obtain ⟨I2, hI2, H⟩ := Gx.ex hG
           refine L_hcall H (js := [(0, false)]) rfl (caps := #[]) hS fn_13_YLinkD rfl rfl rfl rfl rfl (fun D1 hS => have hq := c_link_Link_Out hx21 hS; hq) fun _ yw D1 hr hF2 => ?_
           obtain ⟨q0_, rfl, I3, K⟩ := hr
           obtain ⟨hK, H2⟩ := hF2 K
           exact ⟨trivial, Gx.go hG hI2 hK K.imm H2⟩
          refine .cons (fun ss hlo hhi vals6 xw hG hV => ?_) ?_
          ·obtain rfl | rfl : ss = 0 ∨ ss = 1 := st1 hlo hhi
           all_goals
           ·rw [← hfe]
            have hS := (hfr vals6).sub (ts := [7]) (S' := [(7, .pointer (some ⟨b3, 0, none⟩))]) rfl
            exact L_val hS rfl (Ob_c tLinkD rfl) ⟨rfl, hG⟩
          refine .cons (fun ss hlo hhi vals6 xw hG hV => ?_) ?_
          ·obtain rfl | rfl : ss = 0 ∨ ss = 1 := st1 hlo hhi
           all_goals
           ·rw [← hfe]
            have hS := (hfr vals6).sub (ts := [1]) (S' := [(1, v1_l)]) rfl
            exact L_val hS rfl (Ob_c tLinkD rfl) ⟨rfl, hG⟩
          refine .cons (fun ss hlo hhi vals6 xw hG hV => ?_) ?_
          ·obtain rfl | rfl : ss = 0 ∨ ss = 1 := st1 hlo hhi
           all_goals
           ·rw [← hfe]
            have hS := (hfr vals6).sub (ts := [9]) (S' := [(9, .int .i64 i_3)]) rfl
            exact L_val hS rfl (Ob_c tLinkD rfl) ⟨rfl, hG⟩
          refine .cons (fun ss hlo hhi vals6 xw hG hV => ?_) ?_
          ·obtain rfl | rfl : ss = 0 ∨ ss = 1 := st1 hlo hhi
           ·rw [← hfe]
            have hS := (hfr vals6).sub (ts := [110, 111]) (S' := [(110, vals6 8), (111, vals6 9)]) rfl
            replace hS := hS.conv (t := 110) rfl (show (vals6 8) = v1_l from hV 8 (by decide))
            replace hS := hS.conv (t := 111) rfl (show (vals6 9) = .int .i64 i_3 from hV 9 (by decide))
            obtain ⟨I2, hI2, H⟩ := Gx.ex hG
            exact L_val hS rfl (Ob_sidx tLinkD rfl rfl rfl rfl (slPl (H.sl 2 rfl) hg14) hg14) ⟨rfl, hG⟩
           ·rw [← hfe]
            have hS := (hfr vals6).sub (ts := [110, 111]) (S' := [(110, vals6 8), (111, vals6 9)]) rfl
            replace hS := hS.conv (t := 110) rfl (show (vals6 8) = v1_l from hV 8 (by decide))
            replace hS := hS.conv (t := 111) rfl (show (vals6 9) = .int .i64 i_3 from hV 9 (by decide))
            obtain ⟨I2, hI2, H⟩ := Gx.ex hG
            exact L_val hS rfl (Ob_sidx tLinkD rfl rfl rfl rfl (slPl (H.sl 3 rfl) hg14) hg14) ⟨rfl, hG⟩
          refine .cons (fun ss hlo hhi vals6 xw hG hV => ?_) ?_
          ·obtain rfl | rfl : ss = 0 ∨ ss = 1 := st1 hlo hhi
           all_goals
           ·rw [← hfe]
            have hS := (hfr vals6).sub (ts := [112]) (S' := [(112, vals6 10)]) rfl
            replace hS := hS.conv (t := 112) rfl (show (vals6 10) = .pointer (some ⟨blkOf v1_l, oofOf v1_l + (i_3).toNat * 11, none⟩) from hV 10 (by decide))
            exact L_val hS rfl (Ob_c tLinkD rfl) ⟨rfl, hG⟩
          refine .cons (fun ss hlo hhi vals6 xw hG hV => ?_) ?_
          ·obtain rfl | rfl : ss = 0 ∨ ss = 1 := st1 hlo hhi
           ·rw [← hfe]
            have hS := (hfr vals6).sub (ts := [113]) (S' := [(113, vals6 11)]) rfl
            replace hS := hS.conv (t := 113) rfl (show (vals6 11) = .pointer (some ⟨blkOf v1_l, oofOf v1_l + (i_3).toNat * 11 + 2, none⟩) from hV 11 (by decide))
            obtain ⟨I2, hI2, H⟩ := Gx.ex hG
            exact L_val hS rfl (Ob_load tLinkD rfl rfl rfl ((slFl (H.sl 2 rfl) hg14) 2 _ rfl)) ⟨rfl, hG⟩
           ·rw [← hfe]
            have hS := (hfr vals6).sub (ts := [113]) (S' := [(113, vals6 11)]) rfl
            replace hS := hS.conv (t := 113) rfl (show (vals6 11) = .pointer (some ⟨blkOf v1_l, oofOf v1_l + (i_3).toNat * 11 + 2, none⟩) from hV 11 (by decide))
            obtain ⟨I2, hI2, H⟩ := Gx.ex hG
            exact L_val hS rfl (Ob_load tLinkD rfl rfl rfl ((slFl (H.sl 3 rfl) hg14) 2 _ rfl)) ⟨rfl, hG⟩
          refine .cons (fun ss hlo hhi vals6 xw hG hV => ?_) ?_
          ·obtain rfl : ss = 1 := Nat.le_antisymm hhi hlo
           rw [← hfe]
           have hS := (hfr vals6).sub (ts := [109, 114]) (S' := [(109, vals6 7), (114, vals6 12)]) rfl
           replace hS := hS.conv (t := 109) rfl (show (vals6 7) = .pointer (some ⟨b3, 0, none⟩) from hV 7 (by decide))
           replace hS := hS.conv (t := 114) rfl (show (vals6 12) = .bool ((l.getD (i_3).toNat default).again) from hV 12 (by decide))
           obtain ⟨I2, hI2, H⟩ := Gx.ex hG
           refine L_hcall H (js := [(2, false)]) rfl (caps := #[]) hS fn_14_YLinkD rfl rfl rfl rfl rfl (fun D1 hS => have hq := c_ref22_Link_Out hx22 hS; hq) fun _ yw D1 hr hF2 => ?_
           obtain ⟨q0_, rfl, I3, K⟩ := hr
           obtain ⟨hK, H2⟩ := hF2 K
           exact ⟨trivial, Gx.go hG hI2 hK K.imm H2⟩
          refine .cons (fun ss hlo hhi vals6 xw hG hV => ?_) ?_
          ·obtain rfl : ss = 2 := Nat.le_antisymm hhi hlo
           rw [← hfe]
           have hS := (hfr vals6).sub (ts := [108, 115]) (S' := [(108, vals6 6), (115, vals6 13)]) rfl
           obtain ⟨I2, hI2, H⟩ := Gx.ex hG
           refine L_call (caps := #[]) hS fn_12_YLinkD rfl rfl rfl rfl rfl ((have hq := c_ref22_SameSegs hx23 ((H).pick0 (js := [(3, true), (1, true)]) rfl rfl); plainC hq)) fun r yw hr => ?_
           obtain ⟨rfl, hb⟩ := hr
           exact ⟨rfl, Gx.blw hG hb⟩
          refine .cons (fun ss hlo hhi vals6 xw hG hV => ?_) ?_
          ·obtain rfl : ss = 2 := Nat.le_antisymm hhi hlo
           rw [← hfe]
           have hS := (hfr vals6).sub (ts := [116]) (S' := [(116, vals6 14)]) rfl
           replace hS := hS.conv (t := 116) rfl (show (vals6 14) = .bool s0_6 from hV 14 (by decide))
           exact L_val hS rfl (Ob_c tLinkD rfl) ⟨rfl, hG⟩
          exact .nil
         ·intro vals6 a w23 Z hG hV
          replace Z := Z.sub (ts := [1, 4, 5, 7, 9, 10, 35, 36, 37, 38, 39, 42, 43, 46, 49, 50, 51, 52, 53, 82, 83, 99, 100, 102, 103, 104, 105, 106, 107, 108, 109, 110, 111, 112, 113, 114, 115, 116]) (S' := [(1, v1_l), (4, .bool false), (5, .pointer (some ⟨b1, 0, none⟩)), (7, .pointer (some ⟨b3, 0, none⟩)), (9, .int .i64 i_3), (10, vals6 15), (35, .int .i64 i_3), (36, v1_l), (37, .int .i64 (l.length : Int)), (38, .bool (decide (i_3 < (l.length : Int)))), (39, .bool (decide (i_3 < (l.length : Int)))), (42, .bool ((decide (i_3 < (l.length : Int))) && (decide (i_3 < 40)))), (43, .bool ((decide (i_3 < (l.length : Int))) && (decide (i_3 < 40)))), (46, .bool (((decide (i_3 < (l.length : Int))) && (decide (i_3 < 40))) && true)), (49, v1_l), (50, .int .i64 i_3), (51, .pointer (some ⟨blkOf v1_l, oofOf v1_l + (i_3).toNat * 11, none⟩)), (52, .pointer (some ⟨blkOf v1_l, oofOf v1_l + (i_3).toNat * 11, none⟩)), (53, .int .i64 ((l.getD (i_3).toNat default).k)), (82, .bool (((l.getD (i_3).toNat default).k) == 0)), (83, .bool (((l.getD (i_3).toNat default).k) == 0)), (99, .bool x_9), (100, .bool (((l.getD (i_3).toNat default).k) == 1)), (102, vals6 0), (103, vals6 1), (104, vals6 2), (105, vals6 3), (106, vals6 4), (107, vals6 5), (108, vals6 6), (109, vals6 7), (110, vals6 8), (111, vals6 9), (112, vals6 10), (113, vals6 11), (114, vals6 12), (115, vals6 13), (116, vals6 14)]) rfl
          replace Z := Z.conv (t := 10) rfl (show (vals6 15) = .bool s0_6 from hV 15 (by decide))
          replace Z := Z.conv (t := 102) rfl (show (vals6 0) = .pointer (some ⟨b1, 0, none⟩) from hV 0 (by decide))
          replace Z := Z.conv (t := 103) rfl (show (vals6 1) = v1_l from hV 1 (by decide))
          replace Z := Z.conv (t := 104) rfl (show (vals6 2) = .int .i64 i_3 from hV 2 (by decide))
          replace Z := Z.conv (t := 105) rfl (show (vals6 3) = .pointer (some ⟨blkOf v1_l, oofOf v1_l + (i_3).toNat * 11, none⟩) from hV 3 (by decide))
          replace Z := Z.conv (t := 106) rfl (show (vals6 4) = .pointer (some ⟨blkOf v1_l, oofOf v1_l + (i_3).toNat * 11 + 2, none⟩) from hV 4 (by decide))
          replace Z := Z.conv (t := 107) rfl (show (vals6 5) = .bool ((l.getD (i_3).toNat default).again) from hV 5 (by decide))
          replace Z := Z.conv (t := 109) rfl (show (vals6 7) = .pointer (some ⟨b3, 0, none⟩) from hV 7 (by decide))
          replace Z := Z.conv (t := 110) rfl (show (vals6 8) = v1_l from hV 8 (by decide))
          replace Z := Z.conv (t := 111) rfl (show (vals6 9) = .int .i64 i_3 from hV 9 (by decide))
          replace Z := Z.conv (t := 112) rfl (show (vals6 10) = .pointer (some ⟨blkOf v1_l, oofOf v1_l + (i_3).toNat * 11, none⟩) from hV 10 (by decide))
          replace Z := Z.conv (t := 113) rfl (show (vals6 11) = .pointer (some ⟨blkOf v1_l, oofOf v1_l + (i_3).toNat * 11 + 2, none⟩) from hV 11 (by decide))
          replace Z := Z.conv (t := 114) rfl (show (vals6 12) = .bool ((l.getD (i_3).toNat default).again) from hV 12 (by decide))
          replace Z := Z.conv (t := 116) rfl (show (vals6 14) = .bool s0_6 from hV 14 (by decide))
          obtain ⟨I23, _, H⟩ := Gx.ex hG
          clear hG hV
          replace Z := Z.sub (ts := [1, 4, 5, 7, 9, 10, 35, 36, 37, 38, 39, 42, 43, 46, 49, 50, 51, 52, 53, 82, 83, 99, 100, 102, 103, 104, 105, 106, 107, 108, 109, 110, 111, 112, 113, 114, 115, 116]) rfl
          replace H : Hf I D w I23 w23 [OEref22_Link b3 o_3.2, SlC NESeg (vals6 13) o_3.1, OElink_Link b1 o_2.2, SlC NESeg (vals6 6) o_2.1, SlC NElaw22_Act v1_l l] := H
          refine p_blk ?_
          refine p_then ?_
          exact ⟨s0_6, o_2.2, o_3.2, Z.sub (ts := [1, 4, 5, 7, 9, 10, 35, 36, 37, 38, 39, 42, 43, 46, 49, 50, 51, 52, 53, 82, 83]) rfl, ⟨I23, (H.sub [(2, false), (0, false), (2, true)] rfl).eq rfl⟩, hF⟩
        ·replace hF := ite_f hc13 hF
         refine wp_seq ?_
         obtain ⟨hg15, hF⟩ := chk_in hF
         obtain ⟨i_4, hx24, hF⟩ := bnd_in hF
         refine f_region Z ?_; clear Z; intro Z
         refine s_runk tLinkD Z 3 rfl rfl ?_; clear Z a; intro a Z
         refine s_ob Z (v := .pointer (some ⟨blkOf v1_l, oofOf v1_l + (i_3).toNat * 11, none⟩)) rfl rfl (by decide) rfl (Ob_sidx tLinkD rfl rfl rfl rfl (slPl (H.sl 2 rfl) hg15) hg15) ?_; clear Z a; intro a Z
         refine s_runk tLinkD Z 1 rfl rfl ?_; clear Z a; intro a Z
         refine s_ob Z (v := .agg #[.int .i64 (((l.getD (i_3).toNat default).seg).boot), .int .i64 (((l.getD (i_3).toNat default).seg).stream), .int .i64 (((l.getD (i_3).toNat default).seg).seq), .int .i64 (((l.getD (i_3).toNat default).seg).ackBoot), .int .i64 (((l.getD (i_3).toNat default).seg).ackStream), .int .i64 (((l.getD (i_3).toNat default).seg).ackSeq), .bool (((l.getD (i_3).toNat default).seg).has), .string (((l.getD (i_3).toNat default).seg).body)]) rfl rfl (by decide) rfl (Ob_loads tLinkD rfl rfl rfl ((slFl (H.sl 2 rfl) hg15).part 3 rfl)) ?_; clear Z a; intro a Z
         refine h_call Z H (js := [(0, false)]) rfl (caps := #[]) fn_15_YLinkD rfl rfl rfl rfl rfl (by decide) rfl rfl (fun D1 hS => have hq := c_link_Link_In hx24 hS; hq) ?_; clear Z a; intro vv a w24 D2 hr hF2 Z
         obtain ⟨q6, rfl, I24, K⟩ := hr
         have H : Hf I D w I24 w24 [OElink_Link b1 i_4.2.2, SlC NS q6 i_4.1, OEref22_Link b3 x_7, SlC NElaw22_Act v1_l l] := hF2 K
         clear hF2 K
         refine s_runk tLinkD Z 5 rfl rfl ?_; clear Z a; intro a Z
         refine s_end Z [1, 4, 5, 7, 9, 10, 35, 36, 37, 38, 39, 42, 43, 46, 49, 50, 51, 52, 53, 82, 83, 99, 100, 55, 56, 57, 58, 59, 60, 61, 54, 62, 63, 11, 12] rfl ?_; clear Z; intro Z
         refine p_then (wp_seq ?_)
         obtain ⟨hg16, hF⟩ := chk_in hF
         obtain ⟨i_5, hx25, hF⟩ := bnd_in hF
         refine f_region Z ?_; clear Z; intro Z
         refine s_runk tLinkD Z 3 rfl rfl ?_; clear Z a; intro a Z
         refine s_ob Z (v := .pointer (some ⟨blkOf v1_l, oofOf v1_l + (i_3).toNat * 11, none⟩)) rfl rfl (by decide) rfl (Ob_sidx tLinkD rfl rfl rfl rfl (slPl (H.sl 3 rfl) hg16) hg16) ?_; clear Z a; intro a Z
         refine s_runk tLinkD Z 1 rfl rfl ?_; clear Z a; intro a Z
         refine s_ob Z (v := .agg #[.int .i64 (((l.getD (i_3).toNat default).seg).boot), .int .i64 (((l.getD (i_3).toNat default).seg).stream), .int .i64 (((l.getD (i_3).toNat default).seg).seq), .int .i64 (((l.getD (i_3).toNat default).seg).ackBoot), .int .i64 (((l.getD (i_3).toNat default).seg).ackStream), .int .i64 (((l.getD (i_3).toNat default).seg).ackSeq), .bool (((l.getD (i_3).toNat default).seg).has), .string (((l.getD (i_3).toNat default).seg).body)]) rfl rfl (by decide) rfl (Ob_loads tLinkD rfl rfl rfl ((slFl (H.sl 3 rfl) hg16).part 3 rfl)) ?_; clear Z a; intro a Z
         refine h_call Z H (js := [(2, false)]) rfl (caps := #[]) fn_16_YLinkD rfl rfl rfl rfl rfl (by decide) rfl rfl (fun D1 hS => have hq := c_ref22_Link_In hx25 hS; hq) ?_; clear Z a; intro vv a w25 D2 hr hF2 Z
         obtain ⟨q7, rfl, I25, K⟩ := hr
         have H : Hf I D w I25 w25 [OEref22_Link b3 i_5.2.2, SlC NS q7 i_5.1, OElink_Link b1 i_4.2.2, SlC NS q6 i_4.1, SlC NElaw22_Act v1_l l] := hF2 K
         clear hF2 K
         refine s_runk tLinkD Z 5 rfl rfl ?_; clear Z a; intro a Z
         refine s_end Z [1, 4, 5, 7, 9, 10, 35, 36, 37, 38, 39, 42, 43, 46, 49, 50, 51, 52, 53, 82, 83, 99, 100, 55, 56, 57, 58, 59, 60, 61, 54, 62, 63, 11, 12, 65, 66, 67, 68, 69, 70, 71, 64, 72, 73, 13, 14] rfl ?_; clear Z; intro Z
         refine p_then ?_
         obtain ⟨s0_7, hx26, hF⟩ := bnd_in hF
         refine f_region Z ?_; clear Z; intro Z
         refine s_runk tLinkD Z 2 rfl rfl ?_; clear Z a; intro a Z
         refine h_call Z H (js := [(3, true), (1, true)]) rfl (caps := #[]) fn_17_YLinkD rfl rfl rfl rfl rfl (by decide) rfl rfl (fun D1 hS => have hq := c_ref05_Same hx26 hS; hq) ?_; clear Z a; intro vv a w26 D2 hr hF2 Z
         obtain ⟨rfl, I26, K⟩ := hr
         have H : Hf I D w I26 w26 [OEref22_Link b3 i_5.2.2, SlC NS q7 i_5.1, OElink_Link b1 i_4.2.2, SlC NS q6 i_4.1, SlC NElaw22_Act v1_l l] := hF2 K
         clear hF2 K
         refine s_runk tLinkD Z 1 rfl rfl ?_; clear Z a; intro a Z
         refine g_ob Z (p := s0_7) (v := .int .i64 i_4.2.1) (S' := [(12, .int .i64 i_4.2.1)]) rfl rfl rfl (wantB_t _) rfl (by decide) (fun hp hS => hS.sub (ts := [12]) rfl) (fun hp => Ob_c tLinkD rfl) ?_; clear Z a; intro a Z
         refine g_ob Z (p := s0_7) (v := .int .i64 i_5.2.1) (S' := [(14, .int .i64 i_5.2.1)]) rfl rfl rfl (wantB_t _) rfl (by decide) (fun hp hS => hS.sub (ts := [14]) rfl) (fun hp => Ob_c tLinkD rfl) ?_; clear Z a; intro a Z
         refine g_ob Z (p := s0_7) (v := .bool (i_4.2.1 == i_5.2.1)) (S' := [(78, .int .i64 i_4.2.1), (79, .int .i64 i_5.2.1)]) rfl rfl rfl (wantB_t _) rfl (by decide) (fun hp hS => ((hS.conv (t := 78) rfl (cond_t hp)).conv (t := 79) rfl (cond_t hp)).sub (ts := [78, 79]) rfl) (fun hp => Ob_c tLinkD rfl) ?_; clear Z a; intro a Z
         refine s_ob Z (v := .bool (s0_7 && (i_4.2.1 == i_5.2.1))) rfl rfl (by decide) rfl (Ob_pick rfl rfl rfl rfl (pick_and _ _)) ?_; clear Z a; intro a Z
         refine s_runk tLinkD Z 1 rfl rfl ?_; clear Z a; intro a Z
         refine s_end Z [1, 4, 5, 7, 9, 10, 35, 36, 37, 38, 39, 42, 43, 46, 49, 50, 51, 52, 53, 82, 83, 99, 100, 55, 56, 57, 58, 59, 60, 61, 54, 62, 63, 11, 12, 65, 66, 67, 68, 69, 70, 71, 64, 72, 73, 13, 14, 74, 75, 76, 77, 81] rfl ?_; clear Z; intro Z
         refine p_blk ?_
         refine p_then ?_
         exact ⟨s0_7 && (i_4.2.1 == i_5.2.1), i_4.2.2, i_5.2.2, Z.sub (ts := [1, 4, 5, 7, 9, 10, 35, 36, 37, 38, 39, 42, 43, 46, 49, 50, 51, 52, 53, 82, 83]) rfl, ⟨I26, (H.sub [(2, false), (0, false), (2, true)] rfl).eq rfl⟩, hF⟩
       ·skip
        refine wp_seq (f_region Z ?_); clear Z; intro Z
        refine s_runk tLinkD Z 2 rfl rfl ?_; clear Z a; intro a Z
        refine s_end Z [1, 4, 5, 7, 9, 35, 36, 37, 38, 39, 42, 43, 46, 10, 49, 50, 51, 52, 53, 83, 82, 100, 99] rfl ?_; clear Z; intro Z
        refine p_then ?_
        refine f_cond Z rfl (fun hc14 => ?_) (fun hc14 => ?_)
        ·replace hF := ite_t hc14 hF
         refine wp_skip ?_
         refine p_then ?_
         exact ⟨((l.getD (i_3).toNat default).k) == 1, Z.sub (ts := [1, 4, 5, 7, 9, 10, 35, 36, 37, 38, 39, 42, 43, 46, 49, 50, 51, 52, 53, 82, 83, 99, 100]) rfl, ⟨I18, (H.sub [(0, false), (0, false), (0, true)] rfl).eq rfl⟩, hF⟩
        ·replace hF := ite_f hc14 hF
         refine f_region Z ?_; clear Z; intro Z
         refine s_runk tLinkD Z 2 rfl rfl ?_; clear Z a; intro a Z
         refine s_end Z [1, 4, 5, 7, 9, 35, 36, 37, 38, 39, 42, 43, 46, 10, 49, 50, 51, 52, 53, 83, 82, 100, 99, 101] rfl ?_; clear Z; intro Z
         refine p_then ?_
         exact ⟨((l.getD (i_3).toNat default).k) == 2, Z.sub (ts := [1, 4, 5, 7, 9, 10, 35, 36, 37, 38, 39, 42, 43, 46, 49, 50, 51, 52, 53, 82, 83, 99, 100]) rfl, ⟨I18, (H.sub [(0, false), (0, false), (0, true)] rfl).eq rfl⟩, hF⟩
    ·replace hF := ite_f hc10 hF
     refine wp_exit ?_
     refine p_then_x ?_
     refine p_then_x ?_
     refine f_exit_here ?_
     refine p_then (wp_seq ?_)
     obtain ⟨a0_6, hx27, hF⟩ := bnd_in hF
     refine f_region Z ?_; clear Z; intro Z
     refine h_call Z H (js := []) rfl (caps := #[]) fn_20_YLinkD rfl rfl rfl rfl rfl (by decide) rfl rfl (fun D1 hS => have hq := c_law22_awake hx27 hS; hq) ?_; clear Z a; intro vv a w27 D2 hr hF2 Z
     obtain ⟨rfl, I27, K⟩ := hr
     have H : Hf I D w I27 w27 [OElink_Link b1 a0_4, OEref22_Link b3 x_7, SlC NElaw22_Act v1_l l] := hF2 K
     clear hF2 K
     refine s_runk tLinkD Z 1 rfl rfl ?_; clear Z a; intro a Z
     refine s_end Z [4] rfl ?_; clear Z; intro Z
     refine p_then (wp_ret ?_)
     obtain rfl := some_in hF
     exact f_ret Z (run_results1 rfl Z rfl) ⟨rfl, I27, (H.sub [] rfl).eq rfl⟩

end Go.Proofs.Ythomnhhjgcabkaa
