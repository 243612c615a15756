/- Links: LinkZero. -/
import Derived.Test.YthomnhhjgcabkaaYLinkC
import Derived.Test.YthomnhhjgcabkaaW1
namespace Go.Proofs.Ythomnhhjgcabkaa
open Go.RowKit
def tLinkEL : TabL := ⟨[], [], [], [(37, (31, 8))], [(31, (8, true)), (69, (9, true))]⟩

def tLinkE : Tab Try.prog := ⟨tLinkEL, by kernel_rfl⟩

theorem fn_10_YLinkE : IsFn Try.prog 10 := ⟨_, Try.func10, by kernel_rfl, by kernel_rfl⟩

theorem fn_13_YLinkE : IsFn Try.prog 13 := ⟨_, Try.func13, by kernel_rfl, by kernel_rfl⟩

theorem fn_15_YLinkE : IsFn Try.prog 15 := ⟨_, Try.func15, by kernel_rfl, by kernel_rfl⟩

theorem fn_18_YLinkE : IsFn Try.prog 18 := ⟨_, Try.func18, by kernel_rfl, by kernel_rfl⟩

theorem fn_19_YLinkE : IsFn Try.prog 19 := ⟨_, Try.func19, by kernel_rfl, by kernel_rfl⟩

theorem fn_20_YLinkE : IsFn Try.prog 20 := ⟨_, Try.func20, by kernel_rfl, by kernel_rfl⟩

def F_law22_LinkZero (s0 : ESeg) (t : ByteArray) : Option Bool := (F_link_Link_In_nil s0).bind fun n0 => ((F_link_Link_In (default : Elink_Link) s0).bind fun i => ((gif ((n0.2 == 8) && (i.2.1 == 8)) (F_link_Link_Send_nil t) default).bind fun n0_2 => ((gif (((n0.2 == 8) && (i.2.1 == 8)) && (n0_2 == 8)) (F_link_Link_Send i.2.2 t) default).bind fun s0_2 => (if ((((n0.2 == 8) && (i.2.1 == 8)) && (n0_2 == 8)) && (s0_2.1 == 8)) = true then ((F_link_Link_Out_nil true).bind fun n0_3 => ((F_link_Link_Out (cond (((n0.2 == 8) && (i.2.1 == 8)) && (n0_2 == 8)) s0_2.2 i.2.2) true).bind fun o => (chk (inI ((n0_3.length : Int) + (o.1.length : Int))) ((F_link_Link_Waiting_nil).bind fun n0_4 => (chk (inI ((n0_3.length : Int) + (o.1.length : Int) + n0_4)) ((F_link_Link_Waiting o.2).bind fun w0 => (chk (inI ((n0_3.length : Int) + (o.1.length : Int) + n0_4 + w0)) ((F_link_Link_Knows_nil).bind fun n0_5 => (chk (inI ((n0_3.length : Int) + (o.1.length : Int) + n0_4 + w0 + n0_5)) ((F_link_Link_Knows o.2).bind fun k => (chk (inI ((n0_3.length : Int) + (o.1.length : Int) + n0_4 + w0 + n0_5 + k)) ((gif (((n0_3.length : Int) + (o.1.length : Int) + n0_4 + w0 + n0_5 + k) == 0) (F_law22_awake) default).bind fun a0 => (some ((((n0_3.length : Int) + (o.1.length : Int) + n0_4 + w0 + n0_5 + k) == 0) && a0)))))))))))))) else (some false)))))

set_option maxHeartbeats 1000000 in
theorem c_law22_LinkZero {I D : Dm} {s0 : ESeg} {t : ByteArray} {w : World} {rr : Bool} (hF : F_law22_LinkZero s0 t = some rr) (H : St I D w []) :
  Calls Try.prog 6 #[.agg #[.int .i64 s0.boot, .int .i64 s0.stream, .int .i64 s0.seq, .int .i64 s0.ackBoot, .int .i64 s0.ackStream, .int .i64 s0.ackSeq, .bool s0.has, .string s0.body], .string t] w (Ret fun vv w' => vv = .bool rr ∧ ∃ I', Hf I D w I' w' []) := by
 replace H := H.hf
 unfold F_law22_LinkZero at hF
 refine f_enter 66 Try.func6 rfl rfl (Nat.le_of_ble_eq_true rfl) fun a Z => ?_
 replace Z := Z.sub (ts := [0, 1]) rfl
 refine wp_seq (f_region Z ?_); clear Z; intro Z
 refine h_boxv Z H (cl := [.int .i64 s0.boot, .int .i64 s0.stream, .int .i64 s0.seq, .int .i64 s0.ackBoot, .int .i64 s0.ackStream, .int .i64 s0.ackSeq, .bool s0.has, .string s0.body]) rfl rfl rfl (by decide) rfl rfl rfl ?_; clear Z a H; intro a w1 b1 H Z
 refine s_runk tLinkE Z 1 rfl rfl ?_; clear Z a; intro a Z
 refine s_end Z [1, 2, 4] rfl ?_; clear Z; intro Z
 refine p_then (wp_seq (f_region Z ?_)); clear Z; intro Z
 refine s_runk tLinkE Z 1 rfl rfl ?_; clear Z a; intro a Z
 refine s_end Z [1, 2, 4, 5] rfl ?_; clear Z; intro Z
 refine p_then (wp_seq (f_region Z ?_)); clear Z; intro Z
 refine h_alloc Z H (cl := [.int .i64 0, .int .i64 0, .int .i64 0, .slice none 0 0, .int .i64 0, .int .i64 0, .int .i64 0, .int .i64 0, .bool false]) (z := .agg #[.int .i64 0, .int .i64 0, .int .i64 0, .slice none 0 0, .int .i64 0, .int .i64 0, .int .i64 0, .int .i64 0, .bool false]) rfl rfl rfl (by decide) rfl (by kernel_rfl) rfl ?_; clear Z a H; intro a w2 b2 H Z
 refine s_end Z [1, 2, 4, 5, 6] rfl ?_; clear Z; intro Z
 refine p_then (wp_seq ?_)
 obtain ⟨n0, hx1, hF⟩ := bnd_in hF
 refine f_region Z ?_; clear Z; intro Z
 refine s_runk tLinkE Z 1 rfl rfl ?_; clear Z a; intro a Z
 refine s_ob Z (v := .agg #[.int .i64 s0.boot, .int .i64 s0.stream, .int .i64 s0.seq, .int .i64 s0.ackBoot, .int .i64 s0.ackStream, .int .i64 s0.ackSeq, .bool s0.has, .string s0.body]) rfl rfl (by decide) rfl (Ob_loads tLinkE rfl rfl rfl ((H.bx 1 rfl).part 0 rfl)) ?_; clear Z a; intro a Z
 refine h_call Z H (js := []) rfl (caps := #[]) fn_15_YLinkE rfl rfl rfl rfl rfl (by decide) rfl rfl (fun D1 hS => have hq := c_link_Link_In_nil hx1 hS; hq) ?_; clear Z a; intro vv a w3 D2 hr hF2 Z
 obtain ⟨q1, rfl, I1, K⟩ := hr
 have H : Hf I D w I1 w3 [SlC NS q1 n0.1, BxC b2 69 [.int .i64 0, .int .i64 0, .int .i64 0, .slice none 0 0, .int .i64 0, .int .i64 0, .int .i64 0, .int .i64 0, .bool false], BxC b1 31 (cESeg s0)] := hF2 K
 clear hF2 K
 refine s_runk tLinkE Z 5 rfl rfl ?_; clear Z a; intro a Z
 refine s_end Z [1, 2, 4, 5, 6, 8] rfl ?_; clear Z; intro Z
 refine p_then (wp_seq ?_)
 obtain ⟨i, hx2, hF⟩ := bnd_in hF
 refine f_region Z ?_; clear Z; intro Z
 refine s_ob Z (v := .agg #[.int .i64 s0.boot, .int .i64 s0.stream, .int .i64 s0.seq, .int .i64 s0.ackBoot, .int .i64 s0.ackStream, .int .i64 s0.ackSeq, .bool s0.has, .string s0.body]) rfl rfl (by decide) rfl (Ob_loads tLinkE rfl rfl rfl ((H.bx 2 rfl).part 0 rfl)) ?_; clear Z a; intro a Z
 replace H : Hf I D w I1 w3 [OwC NS 9 (.slice none 0 0) ([] : List ByteArray), SlC NS q1 n0.1, BxC b2 69 [.int .i64 0, .int .i64 0, .int .i64 0, .slice none 0 0, .int .i64 0, .int .i64 0, .int .i64 0, .int .i64 0, .bool false], BxC b1 31 (cESeg s0)] := H.nilow NS 9
 replace H : Hf I D w I1 w3 [OElink_Link b2 (default : Elink_Link), SlC NS q1 n0.1, BxC b1 31 (cESeg s0)] := H.shutX (.slice none 0 0) [(2, false), (0, false)] rfl
 refine h_call Z H (js := [(0, false)]) rfl (caps := #[]) fn_15_YLinkE rfl rfl rfl rfl rfl (by decide) rfl rfl (fun D1 hS => have hq := c_link_Link_In hx2 hS; hq) ?_; clear Z a; intro vv a w4 D2 hr hF2 Z
 obtain ⟨q2, rfl, I2, K⟩ := hr
 have H : Hf I D w I2 w4 [OElink_Link b2 i.2.2, SlC NS q2 i.1, SlC NS q1 n0.1, BxC b1 31 (cESeg s0)] := hF2 K
 clear hF2 K
 refine s_runk tLinkE Z 5 rfl rfl ?_; clear Z a; intro a Z
 refine s_end Z [1, 4, 5, 6, 8, 10] rfl ?_; clear Z; intro Z
 refine p_then (wp_seq (f_region Z ?_)); clear Z; intro Z
 refine s_runk tLinkE Z 1 rfl rfl ?_; clear Z a; intro a Z
 refine s_end Z [1, 4, 5, 6, 8, 10, 11] rfl ?_; clear Z; intro Z
 refine p_then (wp_seq ?_)
 obtain ⟨n0_2, hx3, hF⟩ := bnd_in hF
 obtain ⟨s0_2, hx4, hF⟩ := bnd_in hF
 refine f_region Z ?_; clear Z; intro Z
 refine s_runk tLinkE Z 4 rfl rfl ?_; clear Z a; intro a Z
 refine g_ob Z (p := (n0.2 == 8)) (v := .int .i64 i.2.1) (S' := [(10, .int .i64 i.2.1)]) rfl rfl rfl (wantB_t _) rfl (by decide) (fun hp hS => hS.sub (ts := [10]) rfl) (fun hp => Ob_c tLinkE rfl) ?_; clear Z a; intro a Z
 refine g_ob Z (p := (n0.2 == 8)) (v := .int .i64 8) (S' := [(11, .int .i64 8)]) rfl rfl rfl (wantB_t _) rfl (by decide) (fun hp hS => hS.sub (ts := [11]) rfl) (fun hp => Ob_c tLinkE rfl) ?_; clear Z a; intro a Z
 refine g_ob Z (p := (n0.2 == 8)) (v := .bool (i.2.1 == 8)) (S' := [(27, .int .i64 i.2.1), (28, .int .i64 8)]) rfl rfl rfl (wantB_t _) rfl (by decide) (fun hp hS => ((hS.conv (t := 27) rfl (cond_t hp)).conv (t := 28) rfl (cond_t hp)).sub (ts := [27, 28]) rfl) (fun hp => Ob_c tLinkE rfl) ?_; clear Z a; intro a Z
 refine s_ob Z (v := .bool ((n0.2 == 8) && (i.2.1 == 8))) rfl rfl (by decide) rfl (Ob_pick rfl rfl rfl rfl (pick_and _ _)) ?_; clear Z a; intro a Z
 refine s_runk tLinkE Z 1 rfl rfl ?_; clear Z a; intro a Z
 refine g_ob Z (p := ((n0.2 == 8) && (i.2.1 == 8))) (v := .pointer none) (S' := [(5, .pointer none)]) rfl rfl rfl (wantB_t _) rfl (by decide) (fun hp hS => hS.sub (ts := [5]) rfl) (fun hp => Ob_c tLinkE rfl) ?_; clear Z a; intro a Z
 refine g_ob Z (p := ((n0.2 == 8) && (i.2.1 == 8))) (v := .string t) (S' := [(1, .string t)]) rfl rfl rfl (wantB_t _) rfl (by decide) (fun hp hS => hS.sub (ts := [1]) rfl) (fun hp => Ob_c tLinkE rfl) ?_; clear Z a; intro a Z
 refine g_call Z (p := ((n0.2 == 8) && (i.2.1 == 8))) (v := .int .i64 n0_2) (S' := [(32, .pointer none), (33, .string t)]) (caps := #[]) fn_10_YLinkE rfl rfl rfl (wantB_t _) rfl (by decide) (fun hp hS => ((hS.conv (t := 32) rfl (cond_t hp)).conv (t := 33) rfl (cond_t hp)).sub (ts := [32, 33]) rfl) rfl rfl rfl rfl (fun hp => have hq := c_link_Link_Send_nil (gif_in hx3 hp) (H.pick0 (js := []) rfl rfl); plainC hq) ?_; clear Z a; intro a w5 hb Z
 replace H : Hf I D w I2 w5 [OElink_Link b2 i.2.2, SlC NS q2 i.1, SlC NS q1 n0.1, BxC b1 31 (cESeg s0)] := H.blw hb
 clear hb
 refine g_ob Z (p := ((n0.2 == 8) && (i.2.1 == 8))) (v := .int .i64 8) (S' := [(11, .int .i64 8)]) rfl rfl rfl (wantB_t _) rfl (by decide) (fun hp hS => hS.sub (ts := [11]) rfl) (fun hp => Ob_c tLinkE rfl) ?_; clear Z a; intro a Z
 refine g_ob Z (p := ((n0.2 == 8) && (i.2.1 == 8))) (v := .bool (n0_2 == 8)) (S' := [(34, .int .i64 n0_2), (35, .int .i64 8)]) rfl rfl rfl (wantB_t _) rfl (by decide) (fun hp hS => ((hS.conv (t := 34) rfl (cond_t hp)).conv (t := 35) rfl (cond_t hp)).sub (ts := [34, 35]) rfl) (fun hp => Ob_c tLinkE rfl) ?_; clear Z a; intro a Z
 refine s_ob Z (v := .bool (((n0.2 == 8) && (i.2.1 == 8)) && (n0_2 == 8))) rfl rfl (by decide) rfl (Ob_pick rfl rfl rfl rfl (pick_and _ _)) ?_; clear Z a; intro a Z
 refine s_runk tLinkE Z 1 rfl rfl ?_; clear Z a; intro a Z
 refine g_ob Z (p := (((n0.2 == 8) && (i.2.1 == 8)) && (n0_2 == 8))) (v := .string t) (S' := [(1, .string t)]) rfl rfl rfl (wantB_t _) rfl (by decide) (fun hp hS => hS.sub (ts := [1]) rfl) (fun hp => Ob_c tLinkE rfl) ?_; clear Z a; intro a Z
 refine h_gcall Z H (js := [(0, false)]) rfl (p := (((n0.2 == 8) && (i.2.1 == 8)) && (n0_2 == 8))) (v := .int .i64 s0_2.1) (S' := [(6, .pointer (some ⟨b2, 0, none⟩)), (39, .string t)]) (caps := #[]) (fun qq => [OElink_Link b2 (cond qq s0_2.2 i.2.2)]) fn_10_YLinkE rfl rfl rfl (wantB_t _) rfl (by decide) (fun hp hS => (hS.conv (t := 39) rfl (cond_t hp)).sub (ts := [6, 39]) rfl) rfl rfl rfl rfl (fun hp D1 hS => have hq := c_link_Link_Send (gif_in hx4 hp) hS; hq) (fun hp => H.sub [(0, false), (0, true), (1, true), (2, false)] rfl) ?_; clear Z a H; intro a w6 I3 H Z
 replace H : Hf I D w I3 w6 [OElink_Link b2 (cond (((n0.2 == 8) && (i.2.1 == 8)) && (n0_2 == 8)) s0_2.2 i.2.2), SlC NS q2 i.1, SlC NS q1 n0.1, BxC b1 31 (cESeg s0)] := H
 refine g_ob Z (p := (((n0.2 == 8) && (i.2.1 == 8)) && (n0_2 == 8))) (v := .int .i64 8) (S' := [(11, .int .i64 8)]) rfl rfl rfl (wantB_t _) rfl (by decide) (fun hp hS => hS.sub (ts := [11]) rfl) (fun hp => Ob_c tLinkE rfl) ?_; clear Z a; intro a Z
 refine g_ob Z (p := (((n0.2 == 8) && (i.2.1 == 8)) && (n0_2 == 8))) (v := .bool (s0_2.1 == 8)) (S' := [(40, .int .i64 s0_2.1), (41, .int .i64 8)]) rfl rfl rfl (wantB_t _) rfl (by decide) (fun hp hS => ((hS.conv (t := 40) rfl (cond_t hp)).conv (t := 41) rfl (cond_t hp)).sub (ts := [40, 41]) rfl) (fun hp => Ob_c tLinkE rfl) ?_; clear Z a; intro a Z
 refine s_ob Z (v := .bool ((((n0.2 == 8) && (i.2.1 == 8)) && (n0_2 == 8)) && (s0_2.1 == 8))) rfl rfl (by decide) rfl (Ob_pick rfl rfl rfl rfl (pick_and _ _)) ?_; clear Z a; intro a Z
 refine s_runk tLinkE Z 1 rfl rfl ?_; clear Z a; intro a Z
 refine g_ob Z (p := ((((n0.2 == 8) && (i.2.1 == 8)) && (n0_2 == 8)) && (s0_2.1 == 8))) (v := .pointer none) (S' := [(5, .pointer none)]) rfl rfl rfl (wantB_t _) rfl (by decide) (fun hp hS => hS.sub (ts := [5]) rfl) (fun hp => Ob_c tLinkE rfl) ?_; clear Z a; intro a Z
 refine bsplit ((((n0.2 == 8) && (i.2.1 == 8)) && (n0_2 == 8)) && (s0_2.1 == 8)) (fun hc1 => ?_) (fun hc1 => ?_)
 ·replace hF := ite_t hc1 hF; replace Z := Z.conv (t := 44) rfl (show Value.bool ((((n0.2 == 8) && (i.2.1 == 8)) && (n0_2 == 8)) && (s0_2.1 == 8)) = .bool true from congrArg Value.bool hc1); replace Z := Z.sub (ts := [1, 4, 5, 6, 8, 10, 11, 23, 24, 25, 26, 27, 28, 29, 30, 31, 32, 33, 34, 35, 36, 37, 38, 39, 40, 41, 42, 43, 44, 45]) rfl
  replace Z := Z.conv (t := 45) rfl (cond_t hc1); replace Z := Z.sub (ts := [1, 4, 5, 6, 8, 10, 11, 23, 24, 25, 26, 27, 28, 29, 30, 31, 32, 33, 34, 35, 36, 37, 38, 39, 40, 41, 42, 43, 44, 45]) rfl
  obtain ⟨n0_3, hx5, hF⟩ := bnd_in hF
  obtain ⟨o, hx6, hF⟩ := bnd_in hF
  obtain ⟨hg1, hF⟩ := chk_in hF
  obtain ⟨n0_4, hx7, hF⟩ := bnd_in hF
  obtain ⟨hg2, hF⟩ := chk_in hF
  obtain ⟨w0, hx8, hF⟩ := bnd_in hF
  obtain ⟨hg3, hF⟩ := chk_in hF
  obtain ⟨n0_5, hx9, hF⟩ := bnd_in hF
  obtain ⟨hg4, hF⟩ := chk_in hF
  obtain ⟨k, hx10, hF⟩ := bnd_in hF
  obtain ⟨hg5, hF⟩ := chk_in hF
  obtain ⟨a0, hx11, hF⟩ := bnd_in hF
  refine g_if Z rfl rfl rfl (p := true) rfl rfl (by decide) (fun _ => ?_) (fun h => by cases h)
  refine h_call Z H (js := []) rfl (caps := #[]) fn_13_YLinkE rfl rfl rfl rfl rfl (by decide) rfl rfl (fun D1 hS => have hq := c_link_Link_Out_nil hx5 hS; hq) ?_; clear Z a; intro vv a w7 D2 hr hF2 Z
  obtain ⟨q3, hvv, I4, K⟩ := hr; obtain rfl := hvv.symm
  have H : Hf I D w I4 w7 [SlC NESeg q3 n0_3, OElink_Link b2 (cond (((n0.2 == 8) && (i.2.1 == 8)) && (n0_2 == 8)) s0_2.2 i.2.2), SlC NS q2 i.1, SlC NS q1 n0.1, BxC b1 31 (cESeg s0)] := hF2 K
  clear hF2 K
  refine g_if Z rfl rfl rfl (p := true) rfl rfl (by decide) (fun _ => ?_) (fun h => by cases h)
  refine s_ob Z (v := .int .i64 (n0_3.length : Int)) rfl rfl (by decide) rfl (Ob_slen tLinkE rfl rfl rfl (H.slshape 0 rfl)) ?_; clear Z a; intro a Z
  refine g_if Z rfl rfl rfl (p := true) rfl rfl (by decide) (fun _ => ?_) (fun h => by cases h)
  refine h_call Z H (js := [(1, false)]) rfl (caps := #[]) fn_13_YLinkE rfl rfl rfl rfl rfl (by decide) rfl rfl (fun D1 hS => have hq := c_link_Link_Out hx6 hS; hq) ?_; clear Z a; intro vv a w8 D2 hr hF2 Z
  obtain ⟨q4, hvv, I5, K⟩ := hr; obtain rfl := hvv.symm
  have H : Hf I D w I5 w8 [OElink_Link b2 o.2, SlC NESeg q4 o.1, SlC NESeg q3 n0_3, SlC NS q2 i.1, SlC NS q1 n0.1, BxC b1 31 (cESeg s0)] := hF2 K
  clear hF2 K
  refine g_if Z rfl rfl rfl (p := true) rfl rfl (by decide) (fun _ => ?_) (fun h => by cases h)
  refine s_ob Z (v := .int .i64 (o.1.length : Int)) rfl rfl (by decide) rfl (Ob_slen tLinkE rfl rfl rfl (H.slshape 1 rfl)) ?_; clear Z a; intro a Z
  refine g_if Z rfl rfl rfl (p := true) rfl rfl (by decide) (fun _ => ?_) (fun h => by cases h)
  refine s_ob Z (v := .int .i64 ((n0_3.length : Int) + (o.1.length : Int))) rfl rfl (by decide) rfl (Ob_add rfl rfl rfl (wrI hg1)) ?_; clear Z a; intro a Z
  refine g_if Z rfl rfl rfl (p := true) rfl rfl (by decide) (fun _ => ?_) (fun h => by cases h)
  refine s_runk tLinkE Z 1 rfl rfl ?_; clear Z a; intro a Z
  refine g_if Z rfl rfl rfl (p := true) rfl rfl (by decide) (fun _ => ?_) (fun h => by cases h)
  refine h_call Z H (js := []) rfl (caps := #[]) fn_18_YLinkE rfl rfl rfl rfl rfl (by decide) rfl rfl (fun D1 hS => have hq := c_link_Link_Waiting_nil hx7 hS; hq) ?_; clear Z a; intro vv a w9 D2 hr hF2 Z
  obtain ⟨rfl, I6, K⟩ := hr
  have H : Hf I D w I6 w9 [OElink_Link b2 o.2, SlC NESeg q4 o.1, SlC NESeg q3 n0_3, SlC NS q2 i.1, SlC NS q1 n0.1, BxC b1 31 (cESeg s0)] := hF2 K
  clear hF2 K
  refine g_if Z rfl rfl rfl (p := true) rfl rfl (by decide) (fun _ => ?_) (fun h => by cases h)
  refine s_ob Z (v := .int .i64 ((n0_3.length : Int) + (o.1.length : Int) + n0_4)) rfl rfl (by decide) rfl (Ob_add rfl rfl rfl (wrI hg2)) ?_; clear Z a; intro a Z
  refine g_if Z rfl rfl rfl (p := true) rfl rfl (by decide) (fun _ => ?_) (fun h => by cases h)
  refine h_call Z H (js := [(0, false)]) rfl (caps := #[]) fn_18_YLinkE rfl rfl rfl rfl rfl (by decide) rfl rfl (fun D1 hS => have hq := c_link_Link_Waiting hx8 hS; hq) ?_; clear Z a; intro vv a w10 D2 hr hF2 Z
  obtain ⟨rfl, I7, K⟩ := hr
  have H : Hf I D w I7 w10 [OElink_Link b2 o.2, SlC NESeg q4 o.1, SlC NESeg q3 n0_3, SlC NS q2 i.1, SlC NS q1 n0.1, BxC b1 31 (cESeg s0)] := hF2 K
  clear hF2 K
  refine g_if Z rfl rfl rfl (p := true) rfl rfl (by decide) (fun _ => ?_) (fun h => by cases h)
  refine s_ob Z (v := .int .i64 ((n0_3.length : Int) + (o.1.length : Int) + n0_4 + w0)) rfl rfl (by decide) rfl (Ob_add rfl rfl rfl (wrI hg3)) ?_; clear Z a; intro a Z
  refine g_if Z rfl rfl rfl (p := true) rfl rfl (by decide) (fun _ => ?_) (fun h => by cases h)
  refine s_runk tLinkE Z 1 rfl rfl ?_; clear Z a; intro a Z
  refine g_if Z rfl rfl rfl (p := true) rfl rfl (by decide) (fun _ => ?_) (fun h => by cases h)
  refine h_call Z H (js := []) rfl (caps := #[]) fn_19_YLinkE rfl rfl rfl rfl rfl (by decide) rfl rfl (fun D1 hS => have hq := c_link_Link_Knows_nil hx9 hS; hq) ?_; clear Z a; intro vv a w11 D2 hr hF2 Z
  obtain ⟨rfl, I8, K⟩ := hr
  have H : Hf I D w I8 w11 [OElink_Link b2 o.2, SlC NESeg q4 o.1, SlC NESeg q3 n0_3, SlC NS q2 i.1, SlC NS q1 n0.1, BxC b1 31 (cESeg s0)] := hF2 K
  clear hF2 K
  refine g_if Z rfl rfl rfl (p := true) rfl rfl (by decide) (fun _ => ?_) (fun h => by cases h)
  refine s_ob Z (v := .int .i64 ((n0_3.length : Int) + (o.1.length : Int) + n0_4 + w0 + n0_5)) rfl rfl (by decide) rfl (Ob_add rfl rfl rfl (wrI hg4)) ?_; clear Z a; intro a Z
  refine g_if Z rfl rfl rfl (p := true) rfl rfl (by decide) (fun _ => ?_) (fun h => by cases h)
  refine h_call Z H (js := [(0, false)]) rfl (caps := #[]) fn_19_YLinkE rfl rfl rfl rfl rfl (by decide) rfl rfl (fun D1 hS => have hq := c_link_Link_Knows hx10 hS; hq) ?_; clear Z a; intro vv a w12 D2 hr hF2 Z
  obtain ⟨rfl, I9, K⟩ := hr
  have H : Hf I D w I9 w12 [OElink_Link b2 o.2, SlC NESeg q4 o.1, SlC NESeg q3 n0_3, SlC NS q2 i.1, SlC NS q1 n0.1, BxC b1 31 (cESeg s0)] := hF2 K
  clear hF2 K
  refine g_if Z rfl rfl rfl (p := true) rfl rfl (by decide) (fun _ => ?_) (fun h => by cases h)
  refine s_ob Z (v := .int .i64 ((n0_3.length : Int) + (o.1.length : Int) + n0_4 + w0 + n0_5 + k)) rfl rfl (by decide) rfl (Ob_add rfl rfl rfl (wrI hg5)) ?_; clear Z a; intro a Z
  refine g_if Z rfl rfl rfl (p := true) rfl rfl (by decide) (fun _ => ?_) (fun h => by cases h)
  refine s_runk tLinkE Z 1 rfl rfl ?_; clear Z a; intro a Z
  refine s_ob Z (v := .bool (((n0_3.length : Int) + (o.1.length : Int) + n0_4 + w0 + n0_5 + k) == 0)) rfl rfl (by decide) rfl (Ob_pick rfl rfl rfl rfl rfl) ?_; clear Z a; intro a Z
  refine s_runk tLinkE Z 1 rfl rfl ?_; clear Z a; intro a Z
  refine g_call Z (p := (((n0_3.length : Int) + (o.1.length : Int) + n0_4 + w0 + n0_5 + k) == 0)) (v := .bool a0) (S' := []) (caps := #[]) fn_20_YLinkE rfl rfl rfl (wantB_t _) rfl (by decide) (fun hp hS => hS.sub (ts := []) rfl) rfl rfl rfl rfl (fun hp => have hq := c_law22_awake (gif_in hx11 hp) (H.pick0 (js := []) rfl rfl); plainC hq) ?_; clear Z a; intro a w13 hb Z
  replace H : Hf I D w I9 w13 [OElink_Link b2 o.2, SlC NESeg q4 o.1, SlC NESeg q3 n0_3, SlC NS q2 i.1, SlC NS q1 n0.1, BxC b1 31 (cESeg s0)] := H.blw hb
  clear hb
  refine s_ob Z (v := .bool ((((n0_3.length : Int) + (o.1.length : Int) + n0_4 + w0 + n0_5 + k) == 0) && a0)) rfl rfl (by decide) rfl (Ob_pick rfl rfl rfl rfl (pick_and _ _)) ?_; clear Z a; intro a Z
  refine s_runk tLinkE Z 1 rfl rfl ?_; clear Z a; intro a Z
  refine s_end Z [4] rfl ?_; clear Z; intro Z
  refine p_then (wp_ret ?_)
  obtain rfl := some_in hF
  exact f_ret Z (run_results1 rfl Z rfl) ⟨rfl, I9, (H.sub [] rfl).eq rfl⟩
 ·replace hF := ite_f hc1 hF; replace Z := Z.conv (t := 44) rfl (show Value.bool ((((n0.2 == 8) && (i.2.1 == 8)) && (n0_2 == 8)) && (s0_2.1 == 8)) = .bool false from congrArg Value.bool hc1); replace Z := Z.sub (ts := [1, 4, 5, 6, 8, 10, 11, 23, 24, 25, 26, 27, 28, 29, 30, 31, 32, 33, 34, 35, 36, 37, 38, 39, 40, 41, 42, 43, 44, 45]) rfl
  refine g_if Z rfl rfl rfl (p := false) rfl rfl (by decide) (fun h => by cases h) ?_; clear Z; intro _ a Z
  refine g_if Z rfl rfl rfl (p := false) rfl rfl (by decide) (fun h => by cases h) ?_; clear Z; intro _ a Z
  refine g_if Z rfl rfl rfl (p := false) rfl rfl (by decide) (fun h => by cases h) ?_; clear Z; intro _ a Z
  refine g_if Z rfl rfl rfl (p := false) rfl rfl (by decide) (fun h => by cases h) ?_; clear Z; intro _ a Z
  refine g_if Z rfl rfl rfl (p := false) rfl rfl (by decide) (fun h => by cases h) ?_; clear Z; intro _ a Z
  refine g_if Z rfl rfl rfl (p := false) rfl rfl (by decide) (fun h => by cases h) ?_; clear Z; intro _ a Z
  refine g_if Z rfl rfl rfl (p := false) rfl rfl (by decide) (fun h => by cases h) ?_; clear Z; intro _ a Z
  refine g_if Z rfl rfl rfl (p := false) rfl rfl (by decide) (fun h => by cases h) ?_; clear Z; intro _ a Z
  refine g_if Z rfl rfl rfl (p := false) rfl rfl (by decide) (fun h => by cases h) ?_; clear Z; intro _ a Z
  refine g_if Z rfl rfl rfl (p := false) rfl rfl (by decide) (fun h => by cases h) ?_; clear Z; intro _ a Z
  refine g_if Z rfl rfl rfl (p := false) rfl rfl (by decide) (fun h => by cases h) ?_; clear Z; intro _ a Z
  refine g_if Z rfl rfl rfl (p := false) rfl rfl (by decide) (fun h => by cases h) ?_; clear Z; intro _ a Z
  refine g_if Z rfl rfl rfl (p := false) rfl rfl (by decide) (fun h => by cases h) ?_; clear Z; intro _ a Z
  refine g_if Z rfl rfl rfl (p := false) rfl rfl (by decide) (fun h => by cases h) ?_; clear Z; intro _ a Z
  refine g_if Z rfl rfl rfl (p := false) rfl rfl (by decide) (fun h => by cases h) ?_; clear Z; intro _ a Z
  refine g_if Z rfl rfl rfl (p := false) rfl rfl (by decide) (fun h => by cases h) ?_; clear Z; intro _ a Z
  refine s_ob Z (v := .bool false) rfl rfl (by decide) rfl (Ob_pick rfl rfl rfl rfl rfl) ?_; clear Z a; intro a Z
  refine s_runk tLinkE Z 1 rfl rfl ?_; clear Z a; intro a Z
  refine g_if Z rfl rfl rfl (p := false) rfl rfl (by decide) (fun h => by cases h) ?_; clear Z; intro _ a Z
  refine s_ob Z (v := .bool false) rfl rfl (by decide) rfl (Ob_pick rfl rfl rfl rfl rfl) ?_; clear Z a; intro a Z
  refine s_runk tLinkE Z 1 rfl rfl ?_; clear Z a; intro a Z
  refine s_end Z [4] rfl ?_; clear Z; intro Z
  refine p_then (wp_ret ?_)
  obtain rfl := some_in hF
  exact f_ret Z (run_results1 rfl Z rfl) ⟨rfl, I3, (H.sub [] rfl).eq rfl⟩

end Go.Proofs.Ythomnhhjgcabkaa
