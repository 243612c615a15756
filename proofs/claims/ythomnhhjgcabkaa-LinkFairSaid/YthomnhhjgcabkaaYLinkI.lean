/- Links: two sides, a step. -/
import Derived.Test.YthomnhhjgcabkaaYLinkH
namespace Go.Proofs.Ythomnhhjgcabkaa
open Go.RowKit
def tLinkIL : TabL := ⟨[(56320, 0), (56321, 1), (56322, 2), (61440, 0), (61441, 2), (61442, 4), (61443, 5), (61444, 6), (61445, 8), (61446, 10)], [], [], [(37, (31, 8)), (58, (3, 1))], [(3, (1, false)), (4, (1, false)), (5, (1, false)), (23, (1, false)), (31, (8, true)), (37, (1, false)), (55, (3, true)), (58, (1, false))]⟩

def tLinkI : Tab Try.prog := ⟨tLinkIL, by kernel_rfl⟩

theorem fn_8_YLinkI : IsFn Try.prog 8 := ⟨_, Try.func8, by kernel_rfl, by kernel_rfl⟩

theorem fn_10_YLinkI : IsFn Try.prog 10 := ⟨_, Try.func10, by kernel_rfl, by kernel_rfl⟩

theorem fn_23_YLinkI : IsFn Try.prog 23 := ⟨_, Try.func23, by kernel_rfl, by kernel_rfl⟩

theorem fn_24_YLinkI : IsFn Try.prog 24 := ⟨_, Try.func24, by kernel_rfl, by kernel_rfl⟩

theorem fn_36_YLinkI : IsFn Try.prog 36 := ⟨_, Try.func36, by kernel_rfl, by kernel_rfl⟩

theorem fn_37_YLinkI : IsFn Try.prog 37 := ⟨_, Try.func37, by kernel_rfl, by kernel_rfl⟩

theorem E_37_YLinkI : Elem Try.prog 37 31 8 72 := ⟨Try.underlying37, by
 have h : (Try.prog.info? 31).map (fun i => (i.zero, i.size, i.bytes)) = some (some (.agg #[.int .i64 0, .int .i64 0, .int .i64 0, .int .i64 0, .int .i64 0, .int .i64 0, .bool false, .string ByteArray.empty]), 8, 72) := by kernel_rfl
 obtain ⟨i, hi, h1⟩ := Option.map_eq_some_iff.1 h
 simp only [Prod.mk.injEq] at h1
 exact ⟨i, _, hi, h1.1, h1.2.1, h1.2.2, by rfl⟩, by decide⟩

theorem E_58_YLinkI : Elem Try.prog 58 3 1 8 := ⟨Try.underlying58, by
 have h : (Try.prog.info? 3).map (fun i => (i.zero, i.size, i.bytes)) = some (some (.int .i64 0), 1, 8) := by kernel_rfl
 obtain ⟨i, hi, h1⟩ := Option.map_eq_some_iff.1 h
 simp only [Prod.mk.injEq] at h1
 exact ⟨i, _, hi, h1.1, h1.2.1, h1.2.2, by rfl⟩, by decide⟩

def F_law22_pair_step_k2 (p : Elaw22_pair) : Option Elaw22_pair := some ({ ({ p with boot := [(p.boot.getD 0 0) + 1, (p.boot.getD 1 0)], ok := false } : Elaw22_pair) with l := (({ p with boot := [(p.boot.getD 0 0) + 1, (p.boot.getD 1 0)], ok := false } : Elaw22_pair).l), boot := (({ p with boot := [(p.boot.getD 0 0) + 1, (p.boot.getD 1 0)], ok := false } : Elaw22_pair).boot), sent := (({ p with boot := [(p.boot.getD 0 0) + 1, (p.boot.getD 1 0)], ok := false } : Elaw22_pair).sent), told := [0, ((({ p with boot := [(p.boot.getD 0 0) + 1, (p.boot.getD 1 0)], ok := false } : Elaw22_pair).told).getD 1 0)] } : Elaw22_pair)

def F_law22_pair_step_k3 (p_2 : Elaw22_pair) : Option Elaw22_pair := some ({ p_2 with told := [0, (p_2.told.getD 1 0)] } : Elaw22_pair)

def F_law22_pair_step_k4 (p : Elaw22_pair) : Option Elaw22_pair := some ({ ({ p with boot := [(p.boot.getD 0 0), (p.boot.getD 1 0) + 1], ok := false } : Elaw22_pair) with l := (({ p with boot := [(p.boot.getD 0 0), (p.boot.getD 1 0) + 1], ok := false } : Elaw22_pair).l), boot := (({ p with boot := [(p.boot.getD 0 0), (p.boot.getD 1 0) + 1], ok := false } : Elaw22_pair).boot), sent := (({ p with boot := [(p.boot.getD 0 0), (p.boot.getD 1 0) + 1], ok := false } : Elaw22_pair).sent), told := [((({ p with boot := [(p.boot.getD 0 0), (p.boot.getD 1 0) + 1], ok := false } : Elaw22_pair).told).getD 0 0), 0] } : Elaw22_pair)

def F_law22_pair_step_k5 (p_3 : Elaw22_pair) : Option Elaw22_pair := some ({ p_3 with told := [(p_3.told.getD 0 0), 0] } : Elaw22_pair)

def F_law22_pair_step_k1 (p : Elaw22_pair) (s0 : Elaw22_Step) (i : Int) : Option Elaw22_pair := if ((s0.k == 0) || (s0.k == 1)) = true then (if ((s0.n.tmod 2) == 0) = true then (optE (p.l.getD 0 none) (chk (inI ((p.sent.getD 0 0) + 1)) ((F_law22_number ((p.sent.getD 0 0) + 1)).bind fun n0 => ((F_link_Link_Send_nil n0).bind fun n0_2 => (if (n0_2 == 0) = true then (chk (inI ((p.sent.getD 0 0) + 1)) (some ({ p with l := [none, (p.l.getD 1 none)], sent := [(p.sent.getD 0 0) + 1, (p.sent.getD 1 0)] } : Elaw22_pair))) else (some ({ p with l := [none, (p.l.getD 1 none)] } : Elaw22_pair)))))) (fun x => chk (inI ((p.sent.getD 0 0) + 1)) ((F_law22_number ((p.sent.getD 0 0) + 1)).bind fun n0_3 => ((F_link_Link_Send x n0_3).bind fun s0_2 => (if (s0_2.1 == 0) = true then (chk (inI ((p.sent.getD 0 0) + 1)) (some ({ p with l := [some s0_2.2, (p.l.getD 1 none)], sent := [(p.sent.getD 0 0) + 1, (p.sent.getD 1 0)] } : Elaw22_pair))) else (some ({ p with l := [some s0_2.2, (p.l.getD 1 none)] } : Elaw22_pair))))))) else if ((s0.n.tmod 2) == 1) = true then (optE (p.l.getD 1 none) (chk (inI ((p.sent.getD 1 0) + 1)) ((F_law22_number ((p.sent.getD 1 0) + 1)).bind fun n0_4 => ((F_link_Link_Send_nil n0_4).bind fun n0_5 => (if (n0_5 == 0) = true then (chk (inI ((p.sent.getD 1 0) + 1)) (some ({ p with l := [(p.l.getD 0 none), none], sent := [(p.sent.getD 0 0), (p.sent.getD 1 0) + 1] } : Elaw22_pair))) else (some ({ p with l := [(p.l.getD 0 none), none] } : Elaw22_pair)))))) (fun x_2 => chk (inI ((p.sent.getD 1 0) + 1)) ((F_law22_number ((p.sent.getD 1 0) + 1)).bind fun n0_6 => ((F_link_Link_Send x_2 n0_6).bind fun s0_3 => (if (s0_3.1 == 0) = true then (chk (inI ((p.sent.getD 1 0) + 1)) (some ({ p with l := [(p.l.getD 0 none), some s0_3.2], sent := [(p.sent.getD 0 0), (p.sent.getD 1 0) + 1] } : Elaw22_pair))) else (some ({ p with l := [(p.l.getD 0 none), some s0_3.2] } : Elaw22_pair))))))) else none) else (if (s0.k == 2) = true then ((F_law22_pair_out p (s0.n.tmod 2) s0.again).bind fun o => (some o)) else (if ((decide (s0.k > 6)) || (decide (s0.k < 0))) = true then (if ((s0.n.tmod 2) == 0) = true then (chk (inI ((p.boot.getD 0 0) + 1)) ((F_link_New ((p.boot.getD 0 0) + 1)).bind fun n0_7 => (optE n0_7.1 (F_law22_pair_step_k2 p) (fun x_3 => if ((p.ok && (n0_7.2 == 0)) && true) = true then (F_law22_pair_step_k3 ({ p with l := [some x_3, (p.l.getD 1 none)], boot := [(p.boot.getD 0 0) + 1, (p.boot.getD 1 0)], ok := (p.ok && (n0_7.2 == 0)) && true } : Elaw22_pair)) else (F_law22_pair_step_k3 ({ p with boot := [(p.boot.getD 0 0) + 1, (p.boot.getD 1 0)], ok := (p.ok && (n0_7.2 == 0)) && true } : Elaw22_pair)))))) else if ((s0.n.tmod 2) == 1) = true then (chk (inI ((p.boot.getD 1 0) + 1)) ((F_link_New ((p.boot.getD 1 0) + 1)).bind fun n0_8 => (optE n0_8.1 (F_law22_pair_step_k4 p) (fun x_4 => if ((p.ok && (n0_8.2 == 0)) && true) = true then (F_law22_pair_step_k5 ({ p with l := [(p.l.getD 0 none), some x_4], boot := [(p.boot.getD 0 0), (p.boot.getD 1 0) + 1], ok := (p.ok && (n0_8.2 == 0)) && true } : Elaw22_pair)) else (F_law22_pair_step_k5 ({ p with boot := [(p.boot.getD 0 0), (p.boot.getD 1 0) + 1], ok := (p.ok && (n0_8.2 == 0)) && true } : Elaw22_pair)))))) else none) else (if ((p.way.length : Int) == 0) = true then (some p) else (if (s0.k == 5) = true then ((F_law22_pair_gone p i).bind fun g => (some g)) else (if (s0.k == 6) = true then (if (decide ((p.way.length : Int) < 200)) = true then (chk ((0 : Int) ≤ i ∧ i < (p.way.length : Int)) (chk (((p.way.length + [(p.way.getD (i).toNat default)].length : Nat) : Int) * 72 ≤ 140737488355328) (chk ((0 : Int) ≤ i ∧ i < (p.to_.length : Int)) (chk (((p.to_.length + [(p.to_.getD (i).toNat default)].length : Nat) : Int) * 8 ≤ 140737488355328) (some ({ p with way := p.way ++ [(p.way.getD (i).toNat default)], to_ := p.to_ ++ [(p.to_.getD (i).toNat default)] } : Elaw22_pair)))))) else (some p)) else ((F_law22_pair_come p i).bind fun c => ((F_law22_pair_gone c i).bind fun g_2 => (some g_2))))))))

def F_law22_pair_step (p : Elaw22_pair) (s0 : Elaw22_Step) : Option Elaw22_pair := chk (inI s0.n) (if (decide ((p.way.length : Int) > 0)) = true then (chk (inI s0.n) (chk ((p.way.length : Int) ≠ 0) (F_law22_pair_step_k1 p s0 (s0.n.tmod (p.way.length : Int))))) else (F_law22_pair_step_k1 p s0 0))

set_option maxHeartbeats 1000000 in
theorem c_law22_pair_step {I D : Dm} {b_p : Nat} {p : Elaw22_pair} {s0 : Elaw22_Step} {w : World} {rr : Elaw22_pair} (hF : F_law22_pair_step p s0 = some rr) (H : St I D w [OElaw22_pair b_p p]) :
  Calls Try.prog 22 #[.pointer (some ⟨b_p, 0, none⟩), .agg #[.int .i64 s0.k, .int .u8 s0.n, .bool s0.again]] w (Ret fun vv w' => vv = .tuple #[] ∧ ∃ I', Hf I D w I' w' [OElaw22_pair b_p rr]) := by
 replace H := H.hf
 unfold F_law22_pair_step at hF
 refine f_enter 192 Try.func22 rfl rfl (Nat.le_of_ble_eq_true rfl) fun a Z => ?_
 replace Z := Z.sub (ts := [0, 1]) rfl
 refine wp_seq (f_region Z ?_); clear Z; intro Z
 refine h_boxv Z H (cl := [.int .i64 s0.k, .int .u8 s0.n, .bool s0.again]) rfl rfl rfl (by decide) rfl rfl rfl ?_; clear Z a H; intro a w1 b1 H Z
 refine s_end Z [0, 3] rfl ?_; clear Z; intro Z
 refine p_then (wp_seq ?_)
 obtain ⟨hg1, hF⟩ := chk_in hF
 refine f_region Z ?_; clear Z; intro Z
 refine s_runk tLinkI Z 1 rfl rfl ?_; clear Z a; intro a Z
 refine s_ob Z (v := .int .u8 s0.n) rfl rfl (by decide) rfl (Ob_load tLinkI rfl rfl rfl ((H.bx 0 rfl).cell 1 rfl)) ?_; clear Z a; intro a Z
 refine s_ob Z (v := .int .i64 s0.n) rfl rfl (by decide) rfl (Ob_conv rfl rfl (run_convi Try.underlying5 Try.underlying3 _ _ (wrI hg1) _)) ?_; clear Z a; intro a Z
 refine s_ob Z (v := .int .i64 (s0.n.tmod 2)) rfl rfl (by decide) rfl (Ob_rem rfl rfl rfl (by decide) rfl) ?_; clear Z a; intro a Z
 refine s_runk tLinkI Z 1 rfl rfl ?_; clear Z a; intro a Z
 refine s_end Z [0, 3, 4] rfl ?_; clear Z; intro Z
 refine p_then (wp_seq (f_region Z ?_)); clear Z; intro Z
 refine s_runk tLinkI Z 1 rfl rfl ?_; clear Z a; intro a Z
 refine s_end Z [0, 3, 4, 5] rfl ?_; clear Z; intro Z
 refine p_then ?_
 refine f_cut (fun a' w' => ∃ (i : Int), Sl 192 [(0, .pointer (some ⟨b_p, 0, none⟩)), (3, .pointer (some ⟨b1, 0, none⟩)), (4, .int .i64 (s0.n.tmod 2)), (5, .int .i64 i)] a' ∧ (∃ I2, Hf I D w I2 w' [OElaw22_pair b_p p, BxC b1 55 [.int .i64 s0.k, .int .u8 s0.n, .bool s0.again]]) ∧ F_law22_pair_step_k1 p s0 i = some rr) ?_ ?_
 ·rintro a w2 ⟨i, Z, ⟨I1, H⟩, hF⟩
  unfold F_law22_pair_step_k1 at hF
  try dsimp only at hF
  refine wp_block ?_
  refine wp_seq (f_region Z ?_); clear Z; intro Z
  refine s_runk tLinkI Z 1 rfl rfl ?_; clear Z a; intro a Z
  refine s_ob Z (v := .int .i64 s0.k) rfl rfl (by decide) rfl (Ob_load tLinkI rfl rfl rfl ((H.bx 1 rfl).cell 0 rfl)) ?_; clear Z a; intro a Z
  refine s_runk tLinkI Z 2 rfl rfl ?_; clear Z a; intro a Z
  refine g_ob Z (p := (!(s0.k == 0))) (v := .pointer (some ⟨b1, 0, none⟩)) (S' := [(3, .pointer (some ⟨b1, 0, none⟩))]) rfl rfl rfl (wantB_f _) rfl (by decide) (fun hp hS => hS.sub (ts := [3]) rfl) (fun hp => Ob_c tLinkI rfl) ?_; clear Z a; intro a Z
  refine g_ob Z (p := (!(s0.k == 0))) (v := .int .i64 s0.k) (S' := [(38, .pointer (some ⟨b1, 0, none⟩))]) rfl rfl rfl (wantB_f _) rfl (by decide) (fun hp hS => (hS.conv (t := 38) rfl (cond_t hp)).sub (ts := [38]) rfl) (fun hp => Ob_load tLinkI rfl rfl rfl ((H.bx 1 rfl).cell 0 rfl)) ?_; clear Z a; intro a Z
  refine g_ob Z (p := (!(s0.k == 0))) (v := .bool (s0.k == 1)) (S' := [(39, .int .i64 s0.k)]) rfl rfl rfl (wantB_f _) rfl (by decide) (fun hp hS => (hS.conv (t := 39) rfl (cond_t hp)).sub (ts := [39]) rfl) (fun hp => Ob_c tLinkI rfl) ?_; clear Z a; intro a Z
  refine s_ob Z (v := .bool ((s0.k == 0) || (s0.k == 1))) rfl rfl (by decide) rfl (Ob_pick rfl rfl rfl rfl (pick_or _ _)) ?_; clear Z a; intro a Z
  refine s_runk tLinkI Z 1 rfl rfl ?_; clear Z a; intro a Z
  refine s_end Z [0, 3, 4, 5, 33] rfl ?_; clear Z; intro Z
  refine p_then ?_
  refine f_cond Z rfl (fun hc1 => ?_) (fun hc1 => ?_)
  ·replace hF := ite_t hc1 hF
   refine wp_seq ?_
   refine bsplit ((s0.n.tmod 2) == 0) (fun hi1 => ?_) (fun hi1 => ?_)
   ·replace hF := ite_t hi1 hF
    obtain ⟨⟨v1, v2, v3, v4⟩, H⟩ := H.openX 0 rfl
    replace H : Hf I D w I1 w2 [BxC b_p 60 [v1, v2, .int .i64 (p.boot.getD 0 0), .int .i64 (p.boot.getD 1 0), v3, v4, .int .i64 (p.sent.getD 0 0), .int .i64 (p.sent.getD 1 0), .int .i64 (p.told.getD 0 0), .int .i64 (p.told.getD 1 0), .bool p.ok], PtC OElink_Link v1 (p.l.getD 0 none), PtC OElink_Link v2 (p.l.getD 1 none), OwC NESeg 31 v3 p.way, OwC Ni64 3 v4 p.to_, BxC b1 55 [.int .i64 s0.k, .int .u8 s0.n, .bool s0.again]] := H
    rcases optE_in hF with ⟨ho1, hF⟩ | ⟨x, ho1, hF⟩
    ·obtain ⟨hv, H⟩ := H.optN 1 rfl ho1
     subst hv
     replace H : Hf I D w I1 w2 [BxC b_p 60 [.pointer none, v2, .int .i64 (p.boot.getD 0 0), .int .i64 (p.boot.getD 1 0), v3, v4, .int .i64 (p.sent.getD 0 0), .int .i64 (p.sent.getD 1 0), .int .i64 (p.told.getD 0 0), .int .i64 (p.told.getD 1 0), .bool p.ok], PtC OElink_Link v2 (p.l.getD 1 none), OwC NESeg 31 v3 p.way, OwC Ni64 3 v4 p.to_, BxC b1 55 [.int .i64 s0.k, .int .u8 s0.n, .bool s0.again]] := H
     obtain ⟨hg2, hF⟩ := chk_in hF
     obtain ⟨n0, hx1, hF⟩ := bnd_in hF
     obtain ⟨n0_2, hx2, hF⟩ := bnd_in hF
     refine f_quietS 14 (by kernel_rfl) (by kernel_rfl) (by kernel_rfl) (by kernel_rfl) (by kernel_rfl) Z ?_; clear Z; intro Z
     refine q_runk tLinkI Z 4 rfl rfl ?_; clear Z a; intro a Z
     refine q_ob Z (v := .pointer (some ⟨b_p, 0, none⟩)) rfl rfl (by decide) rfl (fun _ hw => Ob_apix (m := 1) 0 rfl rfl rfl Try.underlying56 (by kernel_rfl) (eq_of_beq hi1) (by decide)) ?_; clear Z a; intro a Z
     refine q_ob Z (v := .pointer none) rfl rfl (by decide) rfl (fun _ hw => Ob_load tLinkI rfl rfl rfl (((H.blw hw).bx 0 rfl).cell 0 rfl)) ?_; clear Z a; intro a Z
     refine q_runk tLinkI Z 4 rfl rfl ?_; clear Z a; intro a Z
     refine q_ob Z (v := .pointer (some ⟨b_p, 6, none⟩)) rfl rfl (by decide) rfl (fun _ hw => Ob_apix (m := 1) 0 rfl rfl rfl Try.underlying57 (by kernel_rfl) (eq_of_beq hi1) (by decide)) ?_; clear Z a; intro a Z
     refine q_ob Z (v := .int .i64 (p.sent.getD 0 0)) rfl rfl (by decide) rfl (fun _ hw => Ob_load tLinkI rfl rfl rfl (((H.blw hw).bx 0 rfl).cell 6 rfl)) ?_; clear Z a; intro a Z
     refine q_ob Z (v := .int .i64 ((p.sent.getD 0 0) + 1)) rfl rfl (by decide) rfl (fun _ hw => Ob_add rfl rfl rfl (wrI hg2)) ?_; clear Z a; intro a Z
     refine q_call Z (caps := #[]) fn_36_YLinkI rfl rfl rfl rfl rfl (by decide) rfl rfl (fun _ hw => (have hq := c_law22_number hx1 (((H.blw hw)).pick0 (js := []) rfl rfl); plainC hq)) ?_; clear Z a; intro a Z
     refine q_endS Z [0, 3, 4, 5, 33, 42, 43, 44, 45, 46, 47, 48, 49, 50, 51, 52, 53, 54, 55] rfl ?_; clear Z; intro w3 hb Z
     replace H : Hf I D w I1 w3 [BxC b_p 60 [.pointer none, v2, .int .i64 (p.boot.getD 0 0), .int .i64 (p.boot.getD 1 0), v3, v4, .int .i64 (p.sent.getD 0 0), .int .i64 (p.sent.getD 1 0), .int .i64 (p.told.getD 0 0), .int .i64 (p.told.getD 1 0), .bool p.ok], PtC OElink_Link v2 (p.l.getD 1 none), OwC NESeg 31 v3 p.way, OwC Ni64 3 v4 p.to_, BxC b1 55 [.int .i64 s0.k, .int .u8 s0.n, .bool s0.again]] := H.blw hb
     clear hb
     refine h_call Z H (js := []) rfl (caps := #[]) fn_10_YLinkI rfl rfl rfl rfl rfl (by decide) rfl rfl (fun D1 hS => have hq := c_link_Link_Send_nil hx2 hS; hq) ?_; clear Z a; intro vv a w4 D2 hr hF2 Z
     obtain ⟨rfl, I2, K⟩ := hr
     have H : Hf I D w I2 w4 [BxC b_p 60 [.pointer none, v2, .int .i64 (p.boot.getD 0 0), .int .i64 (p.boot.getD 1 0), v3, v4, .int .i64 (p.sent.getD 0 0), .int .i64 (p.sent.getD 1 0), .int .i64 (p.told.getD 0 0), .int .i64 (p.told.getD 1 0), .bool p.ok], PtC OElink_Link v2 (p.l.getD 1 none), OwC NESeg 31 v3 p.way, OwC Ni64 3 v4 p.to_, BxC b1 55 [.int .i64 s0.k, .int .u8 s0.n, .bool s0.again]] := hF2 K
     clear hF2 K
     refine s_runk tLinkI Z 1 rfl rfl ?_; clear Z a; intro a Z
     refine s_end Z [0, 4, 57] rfl ?_; clear Z; intro Z
     refine p_then ?_
     refine f_cond Z rfl (fun hc2 => ?_) (fun hc2 => ?_)
     ·replace hF := ite_t hc2 hF
      obtain ⟨hg3, hF⟩ := chk_in hF
      refine f_quietS 9 (by kernel_rfl) (by kernel_rfl) (by kernel_rfl) (by kernel_rfl) (by kernel_rfl) Z ?_; clear Z; intro Z
      refine q_runk tLinkI Z 4 rfl rfl ?_; clear Z a; intro a Z
      refine q_ob Z (v := .pointer (some ⟨b_p, 6, none⟩)) rfl rfl (by decide) rfl (fun _ hw => Ob_apix (m := 1) 0 rfl rfl rfl Try.underlying57 (by kernel_rfl) (eq_of_beq hi1) (by decide)) ?_; clear Z a; intro a Z
      refine q_ob Z (v := .int .i64 (p.sent.getD 0 0)) rfl rfl (by decide) rfl (fun _ hw => Ob_load tLinkI rfl rfl rfl (((H.blw hw).bx 0 rfl).cell 6 rfl)) ?_; clear Z a; intro a Z
      refine q_ob Z (v := .int .i64 ((p.sent.getD 0 0) + 1)) rfl rfl (by decide) rfl (fun _ hw => Ob_add rfl rfl rfl (wrI hg3)) ?_; clear Z a; intro a Z
      refine q_runk tLinkI Z 2 rfl rfl ?_; clear Z a; intro a Z
      refine q_endS Z [0, 4, 57, 58, 59, 60, 61, 62, 63, 64, 65, 66] rfl ?_; clear Z; intro w5 hb Z
      replace H : Hf I D w I2 w5 [BxC b_p 60 [.pointer none, v2, .int .i64 (p.boot.getD 0 0), .int .i64 (p.boot.getD 1 0), v3, v4, .int .i64 (p.sent.getD 0 0), .int .i64 (p.sent.getD 1 0), .int .i64 (p.told.getD 0 0), .int .i64 (p.told.getD 1 0), .bool p.ok], PtC OElink_Link v2 (p.l.getD 1 none), OwC NESeg 31 v3 p.way, OwC Ni64 3 v4 p.to_, BxC b1 55 [.int .i64 s0.k, .int .u8 s0.n, .bool s0.again]] := H.blw hb
      clear hb
      refine s_ob Z (v := .pointer (some ⟨b_p, 6, none⟩)) rfl rfl (by decide) rfl (Ob_apix (m := 1) 0 rfl rfl rfl Try.underlying57 (by kernel_rfl) (eq_of_beq hi1) (by decide)) ?_; clear Z a; intro a Z
      refine h_store tLinkI Z H 0 rfl rfl rfl rfl rfl rfl rfl rfl rfl (one_cons rfl one_nil) (Nat.le_of_ble_eq_true rfl) rfl ?_; clear H; intro w6 H
      dsimp only [List.eraseIdx] at H
      refine s_end Z [] rfl ?_; clear Z; intro Z
      refine p_blk ?_
      replace H : Hf I D w I2 w6 [PtC OElink_Link (.pointer none) none, BxC b_p 60 [.pointer none, v2, .int .i64 (p.boot.getD 0 0), .int .i64 (p.boot.getD 1 0), v3, v4, .int .i64 ((p.sent.getD 0 0) + 1), .int .i64 (p.sent.getD 1 0), .int .i64 (p.told.getD 0 0), .int .i64 (p.told.getD 1 0), .bool p.ok], PtC OElink_Link v2 (p.l.getD 1 none), OwC NESeg 31 v3 p.way, OwC Ni64 3 v4 p.to_, BxC b1 55 [.int .i64 s0.k, .int .u8 s0.n, .bool s0.again]] := H.mkN OElink_Link
      replace H : Hf I D w I2 w6 [OElaw22_pair b_p ({ p with l := [none, (p.l.getD 1 none)], sent := [(p.sent.getD 0 0) + 1, (p.sent.getD 1 0)] } : Elaw22_pair), BxC b1 55 [.int .i64 s0.k, .int .u8 s0.n, .bool s0.again]] := H.shutX (.pointer none, v2, v3, v4) [(1, false), (0, false), (0, false), (0, false), (0, false)] rfl
      obtain rfl := some_in hF
      exact f_fall Z (run_results0 rfl) ⟨rfl, I2, (H.sub [(0, false)] rfl).eq rfl⟩
     ·replace hF := ite_f hc2 hF
      refine wp_skip ?_
      refine p_blk ?_
      replace H : Hf I D w I2 w4 [PtC OElink_Link (.pointer none) none, BxC b_p 60 [.pointer none, v2, .int .i64 (p.boot.getD 0 0), .int .i64 (p.boot.getD 1 0), v3, v4, .int .i64 (p.sent.getD 0 0), .int .i64 (p.sent.getD 1 0), .int .i64 (p.told.getD 0 0), .int .i64 (p.told.getD 1 0), .bool p.ok], PtC OElink_Link v2 (p.l.getD 1 none), OwC NESeg 31 v3 p.way, OwC Ni64 3 v4 p.to_, BxC b1 55 [.int .i64 s0.k, .int .u8 s0.n, .bool s0.again]] := H.mkN OElink_Link
      replace H : Hf I D w I2 w4 [OElaw22_pair b_p ({ p with l := [none, (p.l.getD 1 none)] } : Elaw22_pair), BxC b1 55 [.int .i64 s0.k, .int .u8 s0.n, .bool s0.again]] := H.shutX (.pointer none, v2, v3, v4) [(1, false), (0, false), (0, false), (0, false), (0, false)] rfl
      obtain rfl := some_in hF
      exact f_fall Z (run_results0 rfl) ⟨rfl, I2, (H.sub [(0, false)] rfl).eq rfl⟩
    ·obtain ⟨b2, hv, H⟩ := H.optS 1 rfl ho1
     subst hv
     replace H : Hf I D w I1 w2 [OElink_Link b2 x, BxC b_p 60 [.pointer (some ⟨b2, 0, none⟩), v2, .int .i64 (p.boot.getD 0 0), .int .i64 (p.boot.getD 1 0), v3, v4, .int .i64 (p.sent.getD 0 0), .int .i64 (p.sent.getD 1 0), .int .i64 (p.told.getD 0 0), .int .i64 (p.told.getD 1 0), .bool p.ok], PtC OElink_Link v2 (p.l.getD 1 none), OwC NESeg 31 v3 p.way, OwC Ni64 3 v4 p.to_, BxC b1 55 [.int .i64 s0.k, .int .u8 s0.n, .bool s0.again]] := H
     obtain ⟨hg4, hF⟩ := chk_in hF
     obtain ⟨n0_3, hx3, hF⟩ := bnd_in hF
     obtain ⟨s0_2, hx4, hF⟩ := bnd_in hF
     refine f_quietS 14 (by kernel_rfl) (by kernel_rfl) (by kernel_rfl) (by kernel_rfl) (by kernel_rfl) Z ?_; clear Z; intro Z
     refine q_runk tLinkI Z 4 rfl rfl ?_; clear Z a; intro a Z
     refine q_ob Z (v := .pointer (some ⟨b_p, 0, none⟩)) rfl rfl (by decide) rfl (fun _ hw => Ob_apix (m := 1) 0 rfl rfl rfl Try.underlying56 (by kernel_rfl) (eq_of_beq hi1) (by decide)) ?_; clear Z a; intro a Z
     refine q_ob Z (v := .pointer (some ⟨b2, 0, none⟩)) rfl rfl (by decide) rfl (fun _ hw => Ob_load tLinkI rfl rfl rfl (((H.blw hw).bx 1 rfl).cell 0 rfl)) ?_; clear Z a; intro a Z
     refine q_runk tLinkI Z 4 rfl rfl ?_; clear Z a; intro a Z
     refine q_ob Z (v := .pointer (some ⟨b_p, 6, none⟩)) rfl rfl (by decide) rfl (fun _ hw => Ob_apix (m := 1) 0 rfl rfl rfl Try.underlying57 (by kernel_rfl) (eq_of_beq hi1) (by decide)) ?_; clear Z a; intro a Z
     refine q_ob Z (v := .int .i64 (p.sent.getD 0 0)) rfl rfl (by decide) rfl (fun _ hw => Ob_load tLinkI rfl rfl rfl (((H.blw hw).bx 1 rfl).cell 6 rfl)) ?_; clear Z a; intro a Z
     refine q_ob Z (v := .int .i64 ((p.sent.getD 0 0) + 1)) rfl rfl (by decide) rfl (fun _ hw => Ob_add rfl rfl rfl (wrI hg4)) ?_; clear Z a; intro a Z
     refine q_call Z (caps := #[]) fn_36_YLinkI rfl rfl rfl rfl rfl (by decide) rfl rfl (fun _ hw => (have hq := c_law22_number hx3 (((H.blw hw)).pick0 (js := []) rfl rfl); plainC hq)) ?_; clear Z a; intro a Z
     refine q_endS Z [0, 3, 4, 5, 33, 42, 43, 44, 45, 46, 47, 48, 49, 50, 51, 52, 53, 54, 55] rfl ?_; clear Z; intro w7 hb Z
     replace H : Hf I D w I1 w7 [OElink_Link b2 x, BxC b_p 60 [.pointer (some ⟨b2, 0, none⟩), v2, .int .i64 (p.boot.getD 0 0), .int .i64 (p.boot.getD 1 0), v3, v4, .int .i64 (p.sent.getD 0 0), .int .i64 (p.sent.getD 1 0), .int .i64 (p.told.getD 0 0), .int .i64 (p.told.getD 1 0), .bool p.ok], PtC OElink_Link v2 (p.l.getD 1 none), OwC NESeg 31 v3 p.way, OwC Ni64 3 v4 p.to_, BxC b1 55 [.int .i64 s0.k, .int .u8 s0.n, .bool s0.again]] := H.blw hb
     clear hb
     refine h_call Z H (js := [(0, false)]) rfl (caps := #[]) fn_10_YLinkI rfl rfl rfl rfl rfl (by decide) rfl rfl (fun D1 hS => have hq := c_link_Link_Send hx4 hS; hq) ?_; clear Z a; intro vv a w8 D2 hr hF2 Z
     obtain ⟨rfl, I3, K⟩ := hr
     have H : Hf I D w I3 w8 [OElink_Link b2 s0_2.2, BxC b_p 60 [.pointer (some ⟨b2, 0, none⟩), v2, .int .i64 (p.boot.getD 0 0), .int .i64 (p.boot.getD 1 0), v3, v4, .int .i64 (p.sent.getD 0 0), .int .i64 (p.sent.getD 1 0), .int .i64 (p.told.getD 0 0), .int .i64 (p.told.getD 1 0), .bool p.ok], PtC OElink_Link v2 (p.l.getD 1 none), OwC NESeg 31 v3 p.way, OwC Ni64 3 v4 p.to_, BxC b1 55 [.int .i64 s0.k, .int .u8 s0.n, .bool s0.again]] := hF2 K
     clear hF2 K
     refine s_runk tLinkI Z 1 rfl rfl ?_; clear Z a; intro a Z
     refine s_end Z [0, 4, 57] rfl ?_; clear Z; intro Z
     refine p_then ?_
     refine f_cond Z rfl (fun hc3 => ?_) (fun hc3 => ?_)
     ·replace hF := ite_t hc3 hF
      obtain ⟨hg5, hF⟩ := chk_in hF
      refine f_quietS 9 (by kernel_rfl) (by kernel_rfl) (by kernel_rfl) (by kernel_rfl) (by kernel_rfl) Z ?_; clear Z; intro Z
      refine q_runk tLinkI Z 4 rfl rfl ?_; clear Z a; intro a Z
      refine q_ob Z (v := .pointer (some ⟨b_p, 6, none⟩)) rfl rfl (by decide) rfl (fun _ hw => Ob_apix (m := 1) 0 rfl rfl rfl Try.underlying57 (by kernel_rfl) (eq_of_beq hi1) (by decide)) ?_; clear Z a; intro a Z
      refine q_ob Z (v := .int .i64 (p.sent.getD 0 0)) rfl rfl (by decide) rfl (fun _ hw => Ob_load tLinkI rfl rfl rfl (((H.blw hw).bx 1 rfl).cell 6 rfl)) ?_; clear Z a; intro a Z
      refine q_ob Z (v := .int .i64 ((p.sent.getD 0 0) + 1)) rfl rfl (by decide) rfl (fun _ hw => Ob_add rfl rfl rfl (wrI hg5)) ?_; clear Z a; intro a Z
      refine q_runk tLinkI Z 2 rfl rfl ?_; clear Z a; intro a Z
      refine q_endS Z [0, 4, 57, 58, 59, 60, 61, 62, 63, 64, 65, 66] rfl ?_; clear Z; intro w9 hb Z
      replace H : Hf I D w I3 w9 [OElink_Link b2 s0_2.2, BxC b_p 60 [.pointer (some ⟨b2, 0, none⟩), v2, .int .i64 (p.boot.getD 0 0), .int .i64 (p.boot.getD 1 0), v3, v4, .int .i64 (p.sent.getD 0 0), .int .i64 (p.sent.getD 1 0), .int .i64 (p.told.getD 0 0), .int .i64 (p.told.getD 1 0), .bool p.ok], PtC OElink_Link v2 (p.l.getD 1 none), OwC NESeg 31 v3 p.way, OwC Ni64 3 v4 p.to_, BxC b1 55 [.int .i64 s0.k, .int .u8 s0.n, .bool s0.again]] := H.blw hb
      clear hb
      refine s_ob Z (v := .pointer (some ⟨b_p, 6, none⟩)) rfl rfl (by decide) rfl (Ob_apix (m := 1) 0 rfl rfl rfl Try.underlying57 (by kernel_rfl) (eq_of_beq hi1) (by decide)) ?_; clear Z a; intro a Z
      refine h_store tLinkI Z H 1 rfl rfl rfl rfl rfl rfl rfl rfl rfl (one_cons rfl one_nil) (Nat.le_of_ble_eq_true rfl) rfl ?_; clear H; intro w10 H
      dsimp only [List.eraseIdx] at H
      refine s_end Z [] rfl ?_; clear Z; intro Z
      refine p_blk ?_
      replace H : Hf I D w I3 w10 [PtC OElink_Link (.pointer (some ⟨b2, 0, none⟩)) (some s0_2.2), BxC b_p 60 [.pointer (some ⟨b2, 0, none⟩), v2, .int .i64 (p.boot.getD 0 0), .int .i64 (p.boot.getD 1 0), v3, v4, .int .i64 ((p.sent.getD 0 0) + 1), .int .i64 (p.sent.getD 1 0), .int .i64 (p.told.getD 0 0), .int .i64 (p.told.getD 1 0), .bool p.ok], PtC OElink_Link v2 (p.l.getD 1 none), OwC NESeg 31 v3 p.way, OwC Ni64 3 v4 p.to_, BxC b1 55 [.int .i64 s0.k, .int .u8 s0.n, .bool s0.again]] := H.mkS (K := OElink_Link) 1 rfl
      replace H : Hf I D w I3 w10 [OElaw22_pair b_p ({ p with l := [some s0_2.2, (p.l.getD 1 none)], sent := [(p.sent.getD 0 0) + 1, (p.sent.getD 1 0)] } : Elaw22_pair), BxC b1 55 [.int .i64 s0.k, .int .u8 s0.n, .bool s0.again]] := H.shutX (.pointer (some ⟨b2, 0, none⟩), v2, v3, v4) [(1, false), (0, false), (0, false), (0, false), (0, false)] rfl
      obtain rfl := some_in hF
      exact f_fall Z (run_results0 rfl) ⟨rfl, I3, (H.sub [(0, false)] rfl).eq rfl⟩
     ·replace hF := ite_f hc3 hF
      refine wp_skip ?_
      refine p_blk ?_
      replace H : Hf I D w I3 w8 [PtC OElink_Link (.pointer (some ⟨b2, 0, none⟩)) (some s0_2.2), BxC b_p 60 [.pointer (some ⟨b2, 0, none⟩), v2, .int .i64 (p.boot.getD 0 0), .int .i64 (p.boot.getD 1 0), v3, v4, .int .i64 (p.sent.getD 0 0), .int .i64 (p.sent.getD 1 0), .int .i64 (p.told.getD 0 0), .int .i64 (p.told.getD 1 0), .bool p.ok], PtC OElink_Link v2 (p.l.getD 1 none), OwC NESeg 31 v3 p.way, OwC Ni64 3 v4 p.to_, BxC b1 55 [.int .i64 s0.k, .int .u8 s0.n, .bool s0.again]] := H.mkS (K := OElink_Link) 0 rfl
      replace H : Hf I D w I3 w8 [OElaw22_pair b_p ({ p with l := [some s0_2.2, (p.l.getD 1 none)] } : Elaw22_pair), BxC b1 55 [.int .i64 s0.k, .int .u8 s0.n, .bool s0.again]] := H.shutX (.pointer (some ⟨b2, 0, none⟩), v2, v3, v4) [(1, false), (0, false), (0, false), (0, false), (0, false)] rfl
      obtain rfl := some_in hF
      exact f_fall Z (run_results0 rfl) ⟨rfl, I3, (H.sub [(0, false)] rfl).eq rfl⟩
   replace hF := ite_f hi1 hF
   refine bsplit ((s0.n.tmod 2) == 1) (fun hi2 => ?_) (fun hi2 => ?_)
   ·replace hF := ite_t hi2 hF
    obtain ⟨⟨v5, v6, v7, v8⟩, H⟩ := H.openX 0 rfl
    replace H : Hf I D w I1 w2 [BxC b_p 60 [v5, v6, .int .i64 (p.boot.getD 0 0), .int .i64 (p.boot.getD 1 0), v7, v8, .int .i64 (p.sent.getD 0 0), .int .i64 (p.sent.getD 1 0), .int .i64 (p.told.getD 0 0), .int .i64 (p.told.getD 1 0), .bool p.ok], PtC OElink_Link v5 (p.l.getD 0 none), PtC OElink_Link v6 (p.l.getD 1 none), OwC NESeg 31 v7 p.way, OwC Ni64 3 v8 p.to_, BxC b1 55 [.int .i64 s0.k, .int .u8 s0.n, .bool s0.again]] := H
    rcases optE_in hF with ⟨ho2, hF⟩ | ⟨x_2, ho2, hF⟩
    ·obtain ⟨hv, H⟩ := H.optN 2 rfl ho2
     subst hv
     replace H : Hf I D w I1 w2 [BxC b_p 60 [v5, .pointer none, .int .i64 (p.boot.getD 0 0), .int .i64 (p.boot.getD 1 0), v7, v8, .int .i64 (p.sent.getD 0 0), .int .i64 (p.sent.getD 1 0), .int .i64 (p.told.getD 0 0), .int .i64 (p.told.getD 1 0), .bool p.ok], PtC OElink_Link v5 (p.l.getD 0 none), OwC NESeg 31 v7 p.way, OwC Ni64 3 v8 p.to_, BxC b1 55 [.int .i64 s0.k, .int .u8 s0.n, .bool s0.again]] := H
     obtain ⟨hg6, hF⟩ := chk_in hF
     obtain ⟨n0_4, hx5, hF⟩ := bnd_in hF
     obtain ⟨n0_5, hx6, hF⟩ := bnd_in hF
     refine f_quietS 14 (by kernel_rfl) (by kernel_rfl) (by kernel_rfl) (by kernel_rfl) (by kernel_rfl) Z ?_; clear Z; intro Z
     refine q_runk tLinkI Z 4 rfl rfl ?_; clear Z a; intro a Z
     refine q_ob Z (v := .pointer (some ⟨b_p, 1, none⟩)) rfl rfl (by decide) rfl (fun _ hw => Ob_apix (m := 1) 1 rfl rfl rfl Try.underlying56 (by kernel_rfl) (eq_of_beq hi2) (by decide)) ?_; clear Z a; intro a Z
     refine q_ob Z (v := .pointer none) rfl rfl (by decide) rfl (fun _ hw => Ob_load tLinkI rfl rfl rfl (((H.blw hw).bx 0 rfl).cell 1 rfl)) ?_; clear Z a; intro a Z
     refine q_runk tLinkI Z 4 rfl rfl ?_; clear Z a; intro a Z
     refine q_ob Z (v := .pointer (some ⟨b_p, 7, none⟩)) rfl rfl (by decide) rfl (fun _ hw => Ob_apix (m := 1) 1 rfl rfl rfl Try.underlying57 (by kernel_rfl) (eq_of_beq hi2) (by decide)) ?_; clear Z a; intro a Z
     refine q_ob Z (v := .int .i64 (p.sent.getD 1 0)) rfl rfl (by decide) rfl (fun _ hw => Ob_load tLinkI rfl rfl rfl (((H.blw hw).bx 0 rfl).cell 7 rfl)) ?_; clear Z a; intro a Z
     refine q_ob Z (v := .int .i64 ((p.sent.getD 1 0) + 1)) rfl rfl (by decide) rfl (fun _ hw => Ob_add rfl rfl rfl (wrI hg6)) ?_; clear Z a; intro a Z
     refine q_call Z (caps := #[]) fn_36_YLinkI rfl rfl rfl rfl rfl (by decide) rfl rfl (fun _ hw => (have hq := c_law22_number hx5 (((H.blw hw)).pick0 (js := []) rfl rfl); plainC hq)) ?_; clear Z a; intro a Z
     refine q_endS Z [0, 3, 4, 5, 33, 42, 43, 44, 45, 46, 47, 48, 49, 50, 51, 52, 53, 54, 55] rfl ?_; clear Z; intro w11 hb Z
     replace H : Hf I D w I1 w11 [BxC b_p 60 [v5, .pointer none, .int .i64 (p.boot.getD 0 0), .int .i64 (p.boot.getD 1 0), v7, v8, .int .i64 (p.sent.getD 0 0), .int .i64 (p.sent.getD 1 0), .int .i64 (p.told.getD 0 0), .int .i64 (p.told.getD 1 0), .bool p.ok], PtC OElink_Link v5 (p.l.getD 0 none), OwC NESeg 31 v7 p.way, OwC Ni64 3 v8 p.to_, BxC b1 55 [.int .i64 s0.k, .int .u8 s0.n, .bool s0.again]] := H.blw hb
     clear hb
     refine h_call Z H (js := []) rfl (caps := #[]) fn_10_YLinkI rfl rfl rfl rfl rfl (by decide) rfl rfl (fun D1 hS => have hq := c_link_Link_Send_nil hx6 hS; hq) ?_; clear Z a; intro vv a w12 D2 hr hF2 Z
     obtain ⟨rfl, I4, K⟩ := hr
     have H : Hf I D w I4 w12 [BxC b_p 60 [v5, .pointer none, .int .i64 (p.boot.getD 0 0), .int .i64 (p.boot.getD 1 0), v7, v8, .int .i64 (p.sent.getD 0 0), .int .i64 (p.sent.getD 1 0), .int .i64 (p.told.getD 0 0), .int .i64 (p.told.getD 1 0), .bool p.ok], PtC OElink_Link v5 (p.l.getD 0 none), OwC NESeg 31 v7 p.way, OwC Ni64 3 v8 p.to_, BxC b1 55 [.int .i64 s0.k, .int .u8 s0.n, .bool s0.again]] := hF2 K
     clear hF2 K
     refine s_runk tLinkI Z 1 rfl rfl ?_; clear Z a; intro a Z
     refine s_end Z [0, 4, 57] rfl ?_; clear Z; intro Z
     refine p_then ?_
     refine f_cond Z rfl (fun hc4 => ?_) (fun hc4 => ?_)
     ·replace hF := ite_t hc4 hF
      obtain ⟨hg7, hF⟩ := chk_in hF
      refine f_quietS 9 (by kernel_rfl) (by kernel_rfl) (by kernel_rfl) (by kernel_rfl) (by kernel_rfl) Z ?_; clear Z; intro Z
      refine q_runk tLinkI Z 4 rfl rfl ?_; clear Z a; intro a Z
      refine q_ob Z (v := .pointer (some ⟨b_p, 7, none⟩)) rfl rfl (by decide) rfl (fun _ hw => Ob_apix (m := 1) 1 rfl rfl rfl Try.underlying57 (by kernel_rfl) (eq_of_beq hi2) (by decide)) ?_; clear Z a; intro a Z
      refine q_ob Z (v := .int .i64 (p.sent.getD 1 0)) rfl rfl (by decide) rfl (fun _ hw => Ob_load tLinkI rfl rfl rfl (((H.blw hw).bx 0 rfl).cell 7 rfl)) ?_; clear Z a; intro a Z
      refine q_ob Z (v := .int .i64 ((p.sent.getD 1 0) + 1)) rfl rfl (by decide) rfl (fun _ hw => Ob_add rfl rfl rfl (wrI hg7)) ?_; clear Z a; intro a Z
      refine q_runk tLinkI Z 2 rfl rfl ?_; clear Z a; intro a Z
      refine q_endS Z [0, 4, 57, 58, 59, 60, 61, 62, 63, 64, 65, 66] rfl ?_; clear Z; intro w13 hb Z
      replace H : Hf I D w I4 w13 [BxC b_p 60 [v5, .pointer none, .int .i64 (p.boot.getD 0 0), .int .i64 (p.boot.getD 1 0), v7, v8, .int .i64 (p.sent.getD 0 0), .int .i64 (p.sent.getD 1 0), .int .i64 (p.told.getD 0 0), .int .i64 (p.told.getD 1 0), .bool p.ok], PtC OElink_Link v5 (p.l.getD 0 none), OwC NESeg 31 v7 p.way, OwC Ni64 3 v8 p.to_, BxC b1 55 [.int .i64 s0.k, .int .u8 s0.n, .bool s0.again]] := H.blw hb
      clear hb
      refine s_ob Z (v := .pointer (some ⟨b_p, 7, none⟩)) rfl rfl (by decide) rfl (Ob_apix (m := 1) 1 rfl rfl rfl Try.underlying57 (by kernel_rfl) (eq_of_beq hi2) (by decide)) ?_; clear Z a; intro a Z
      refine h_store tLinkI Z H 0 rfl rfl rfl rfl rfl rfl rfl rfl rfl (one_cons rfl one_nil) (Nat.le_of_ble_eq_true rfl) rfl ?_; clear H; intro w14 H
      dsimp only [List.eraseIdx] at H
      refine s_end Z [] rfl ?_; clear Z; intro Z
      refine p_blk ?_
      replace H : Hf I D w I4 w14 [PtC OElink_Link (.pointer none) none, BxC b_p 60 [v5, .pointer none, .int .i64 (p.boot.getD 0 0), .int .i64 (p.boot.getD 1 0), v7, v8, .int .i64 (p.sent.getD 0 0), .int .i64 ((p.sent.getD 1 0) + 1), .int .i64 (p.told.getD 0 0), .int .i64 (p.told.getD 1 0), .bool p.ok], PtC OElink_Link v5 (p.l.getD 0 none), OwC NESeg 31 v7 p.way, OwC Ni64 3 v8 p.to_, BxC b1 55 [.int .i64 s0.k, .int .u8 s0.n, .bool s0.again]] := H.mkN OElink_Link
      replace H : Hf I D w I4 w14 [OElaw22_pair b_p ({ p with l := [(p.l.getD 0 none), none], sent := [(p.sent.getD 0 0), (p.sent.getD 1 0) + 1] } : Elaw22_pair), BxC b1 55 [.int .i64 s0.k, .int .u8 s0.n, .bool s0.again]] := H.shutX (v5, .pointer none, v7, v8) [(1, false), (1, false), (0, false), (0, false), (0, false)] rfl
      obtain rfl := some_in hF
      exact f_fall Z (run_results0 rfl) ⟨rfl, I4, (H.sub [(0, false)] rfl).eq rfl⟩
     ·replace hF := ite_f hc4 hF
      refine wp_skip ?_
      refine p_blk ?_
      replace H : Hf I D w I4 w12 [PtC OElink_Link (.pointer none) none, BxC b_p 60 [v5, .pointer none, .int .i64 (p.boot.getD 0 0), .int .i64 (p.boot.getD 1 0), v7, v8, .int .i64 (p.sent.getD 0 0), .int .i64 (p.sent.getD 1 0), .int .i64 (p.told.getD 0 0), .int .i64 (p.told.getD 1 0), .bool p.ok], PtC OElink_Link v5 (p.l.getD 0 none), OwC NESeg 31 v7 p.way, OwC Ni64 3 v8 p.to_, BxC b1 55 [.int .i64 s0.k, .int .u8 s0.n, .bool s0.again]] := H.mkN OElink_Link
      replace H : Hf I D w I4 w12 [OElaw22_pair b_p ({ p with l := [(p.l.getD 0 none), none] } : Elaw22_pair), BxC b1 55 [.int .i64 s0.k, .int .u8 s0.n, .bool s0.again]] := H.shutX (v5, .pointer none, v7, v8) [(1, false), (1, false), (0, false), (0, false), (0, false)] rfl
      obtain rfl := some_in hF
      exact f_fall Z (run_results0 rfl) ⟨rfl, I4, (H.sub [(0, false)] rfl).eq rfl⟩
    ·obtain ⟨b3, hv, H⟩ := H.optS 2 rfl ho2
     subst hv
     replace H : Hf I D w I1 w2 [OElink_Link b3 x_2, BxC b_p 60 [v5, .pointer (some ⟨b3, 0, none⟩), .int .i64 (p.boot.getD 0 0), .int .i64 (p.boot.getD 1 0), v7, v8, .int .i64 (p.sent.getD 0 0), .int .i64 (p.sent.getD 1 0), .int .i64 (p.told.getD 0 0), .int .i64 (p.told.getD 1 0), .bool p.ok], PtC OElink_Link v5 (p.l.getD 0 none), OwC NESeg 31 v7 p.way, OwC Ni64 3 v8 p.to_, BxC b1 55 [.int .i64 s0.k, .int .u8 s0.n, .bool s0.again]] := H
     obtain ⟨hg8, hF⟩ := chk_in hF
     obtain ⟨n0_6, hx7, hF⟩ := bnd_in hF
     obtain ⟨s0_3, hx8, hF⟩ := bnd_in hF
     refine f_quietS 14 (by kernel_rfl) (by kernel_rfl) (by kernel_rfl) (by kernel_rfl) (by kernel_rfl) Z ?_; clear Z; intro Z
     refine q_runk tLinkI Z 4 rfl rfl ?_; clear Z a; intro a Z
     refine q_ob Z (v := .pointer (some ⟨b_p, 1, none⟩)) rfl rfl (by decide) rfl (fun _ hw => Ob_apix (m := 1) 1 rfl rfl rfl Try.underlying56 (by kernel_rfl) (eq_of_beq hi2) (by decide)) ?_; clear Z a; intro a Z
     refine q_ob Z (v := .pointer (some ⟨b3, 0, none⟩)) rfl rfl (by decide) rfl (fun _ hw => Ob_load tLinkI rfl rfl rfl (((H.blw hw).bx 1 rfl).cell 1 rfl)) ?_; clear Z a; intro a Z
     refine q_runk tLinkI Z 4 rfl rfl ?_; clear Z a; intro a Z
     refine q_ob Z (v := .pointer (some ⟨b_p, 7, none⟩)) rfl rfl (by decide) rfl (fun _ hw => Ob_apix (m := 1) 1 rfl rfl rfl Try.underlying57 (by kernel_rfl) (eq_of_beq hi2) (by decide)) ?_; clear Z a; intro a Z
     refine q_ob Z (v := .int .i64 (p.sent.getD 1 0)) rfl rfl (by decide) rfl (fun _ hw => Ob_load tLinkI rfl rfl rfl (((H.blw hw).bx 1 rfl).cell 7 rfl)) ?_; clear Z a; intro a Z
     refine q_ob Z (v := .int .i64 ((p.sent.getD 1 0) + 1)) rfl rfl (by decide) rfl (fun _ hw => Ob_add rfl rfl rfl (wrI hg8)) ?_; clear Z a; intro a Z
     refine q_call Z (caps := #[]) fn_36_YLinkI rfl rfl rfl rfl rfl (by decide) rfl rfl (fun _ hw => (have hq := c_law22_number hx7 (((H.blw hw)).pick0 (js := []) rfl rfl); plainC hq)) ?_; clear Z a; intro a Z
     refine q_endS Z [0, 3, 4, 5, 33, 42, 43, 44, 45, 46, 47, 48, 49, 50, 51, 52, 53, 54, 55] rfl ?_; clear Z; intro w15 hb Z
     replace H : Hf I D w I1 w15 [OElink_Link b3 x_2, BxC b_p 60 [v5, .pointer (some ⟨b3, 0, none⟩), .int .i64 (p.boot.getD 0 0), .int .i64 (p.boot.getD 1 0), v7, v8, .int .i64 (p.sent.getD 0 0), .int .i64 (p.sent.getD 1 0), .int .i64 (p.told.getD 0 0), .int .i64 (p.told.getD 1 0), .bool p.ok], PtC OElink_Link v5 (p.l.getD 0 none), OwC NESeg 31 v7 p.way, OwC Ni64 3 v8 p.to_, BxC b1 55 [.int .i64 s0.k, .int .u8 s0.n, .bool s0.again]] := H.blw hb
     clear hb
     refine h_call Z H (js := [(0, false)]) rfl (caps := #[]) fn_10_YLinkI rfl rfl rfl rfl rfl (by decide) rfl rfl (fun D1 hS => have hq := c_link_Link_Send hx8 hS; hq) ?_; clear Z a; intro vv a w16 D2 hr hF2 Z
     obtain ⟨rfl, I5, K⟩ := hr
     have H : Hf I D w I5 w16 [OElink_Link b3 s0_3.2, BxC b_p 60 [v5, .pointer (some ⟨b3, 0, none⟩), .int .i64 (p.boot.getD 0 0), .int .i64 (p.boot.getD 1 0), v7, v8, .int .i64 (p.sent.getD 0 0), .int .i64 (p.sent.getD 1 0), .int .i64 (p.told.getD 0 0), .int .i64 (p.told.getD 1 0), .bool p.ok], PtC OElink_Link v5 (p.l.getD 0 none), OwC NESeg 31 v7 p.way, OwC Ni64 3 v8 p.to_, BxC b1 55 [.int .i64 s0.k, .int .u8 s0.n, .bool s0.again]] := hF2 K
     clear hF2 K
     refine s_runk tLinkI Z 1 rfl rfl ?_; clear Z a; intro a Z
     refine s_end Z [0, 4, 57] rfl ?_; clear Z; intro Z
     refine p_then ?_
     refine f_cond Z rfl (fun hc5 => ?_) (fun hc5 => ?_)
     ·replace hF := ite_t hc5 hF
      obtain ⟨hg9, hF⟩ := chk_in hF
      refine f_quietS 9 (by kernel_rfl) (by kernel_rfl) (by kernel_rfl) (by kernel_rfl) (by kernel_rfl) Z ?_; clear Z; intro Z
      refine q_runk tLinkI Z 4 rfl rfl ?_; clear Z a; intro a Z
      refine q_ob Z (v := .pointer (some ⟨b_p, 7, none⟩)) rfl rfl (by decide) rfl (fun _ hw => Ob_apix (m := 1) 1 rfl rfl rfl Try.underlying57 (by kernel_rfl) (eq_of_beq hi2) (by decide)) ?_; clear Z a; intro a Z
      refine q_ob Z (v := .int .i64 (p.sent.getD 1 0)) rfl rfl (by decide) rfl (fun _ hw => Ob_load tLinkI rfl rfl rfl (((H.blw hw).bx 1 rfl).cell 7 rfl)) ?_; clear Z a; intro a Z
      refine q_ob Z (v := .int .i64 ((p.sent.getD 1 0) + 1)) rfl rfl (by decide) rfl (fun _ hw => Ob_add rfl rfl rfl (wrI hg9)) ?_; clear Z a; intro a Z
      refine q_runk tLinkI Z 2 rfl rfl ?_; clear Z a; intro a Z
      refine q_endS Z [0, 4, 57, 58, 59, 60, 61, 62, 63, 64, 65, 66] rfl ?_; clear Z; intro w17 hb Z
      replace H : Hf I D w I5 w17 [OElink_Link b3 s0_3.2, BxC b_p 60 [v5, .pointer (some ⟨b3, 0, none⟩), .int .i64 (p.boot.getD 0 0), .int .i64 (p.boot.getD 1 0), v7, v8, .int .i64 (p.sent.getD 0 0), .int .i64 (p.sent.getD 1 0), .int .i64 (p.told.getD 0 0), .int .i64 (p.told.getD 1 0), .bool p.ok], PtC OElink_Link v5 (p.l.getD 0 none), OwC NESeg 31 v7 p.way, OwC Ni64 3 v8 p.to_, BxC b1 55 [.int .i64 s0.k, .int .u8 s0.n, .bool s0.again]] := H.blw hb
      clear hb
      refine s_ob Z (v := .pointer (some ⟨b_p, 7, none⟩)) rfl rfl (by decide) rfl (Ob_apix (m := 1) 1 rfl rfl rfl Try.underlying57 (by kernel_rfl) (eq_of_beq hi2) (by decide)) ?_; clear Z a; intro a Z
      refine h_store tLinkI Z H 1 rfl rfl rfl rfl rfl rfl rfl rfl rfl (one_cons rfl one_nil) (Nat.le_of_ble_eq_true rfl) rfl ?_; clear H; intro w18 H
      dsimp only [List.eraseIdx] at H
      refine s_end Z [] rfl ?_; clear Z; intro Z
      refine p_blk ?_
      replace H : Hf I D w I5 w18 [PtC OElink_Link (.pointer (some ⟨b3, 0, none⟩)) (some s0_3.2), BxC b_p 60 [v5, .pointer (some ⟨b3, 0, none⟩), .int .i64 (p.boot.getD 0 0), .int .i64 (p.boot.getD 1 0), v7, v8, .int .i64 (p.sent.getD 0 0), .int .i64 ((p.sent.getD 1 0) + 1), .int .i64 (p.told.getD 0 0), .int .i64 (p.told.getD 1 0), .bool p.ok], PtC OElink_Link v5 (p.l.getD 0 none), OwC NESeg 31 v7 p.way, OwC Ni64 3 v8 p.to_, BxC b1 55 [.int .i64 s0.k, .int .u8 s0.n, .bool s0.again]] := H.mkS (K := OElink_Link) 1 rfl
      replace H : Hf I D w I5 w18 [OElaw22_pair b_p ({ p with l := [(p.l.getD 0 none), some s0_3.2], sent := [(p.sent.getD 0 0), (p.sent.getD 1 0) + 1] } : Elaw22_pair), BxC b1 55 [.int .i64 s0.k, .int .u8 s0.n, .bool s0.again]] := H.shutX (v5, .pointer (some ⟨b3, 0, none⟩), v7, v8) [(1, false), (1, false), (0, false), (0, false), (0, false)] rfl
      obtain rfl := some_in hF
      exact f_fall Z (run_results0 rfl) ⟨rfl, I5, (H.sub [(0, false)] rfl).eq rfl⟩
     ·replace hF := ite_f hc5 hF
      refine wp_skip ?_
      refine p_blk ?_
      replace H : Hf I D w I5 w16 [PtC OElink_Link (.pointer (some ⟨b3, 0, none⟩)) (some s0_3.2), BxC b_p 60 [v5, .pointer (some ⟨b3, 0, none⟩), .int .i64 (p.boot.getD 0 0), .int .i64 (p.boot.getD 1 0), v7, v8, .int .i64 (p.sent.getD 0 0), .int .i64 (p.sent.getD 1 0), .int .i64 (p.told.getD 0 0), .int .i64 (p.told.getD 1 0), .bool p.ok], PtC OElink_Link v5 (p.l.getD 0 none), OwC NESeg 31 v7 p.way, OwC Ni64 3 v8 p.to_, BxC b1 55 [.int .i64 s0.k, .int .u8 s0.n, .bool s0.again]] := H.mkS (K := OElink_Link) 0 rfl
      replace H : Hf I D w I5 w16 [OElaw22_pair b_p ({ p with l := [(p.l.getD 0 none), some s0_3.2] } : Elaw22_pair), BxC b1 55 [.int .i64 s0.k, .int .u8 s0.n, .bool s0.again]] := H.shutX (v5, .pointer (some ⟨b3, 0, none⟩), v7, v8) [(1, false), (1, false), (0, false), (0, false), (0, false)] rfl
      obtain rfl := some_in hF
      exact f_fall Z (run_results0 rfl) ⟨rfl, I5, (H.sub [(0, false)] rfl).eq rfl⟩
   replace hF := ite_f hi2 hF
   cases hF
  ·replace hF := ite_f hc1 hF
   refine wp_seq (f_region Z ?_); clear Z; intro Z
   refine s_runk tLinkI Z 1 rfl rfl ?_; clear Z a; intro a Z
   refine s_ob Z (v := .int .i64 s0.k) rfl rfl (by decide) rfl (Ob_load tLinkI rfl rfl rfl ((H.bx 1 rfl).cell 0 rfl)) ?_; clear Z a; intro a Z
   refine s_runk tLinkI Z 2 rfl rfl ?_; clear Z a; intro a Z
   refine s_end Z [0, 3, 4, 5, 68] rfl ?_; clear Z; intro Z
   refine p_then ?_
   refine f_cond Z rfl (fun hc6 => ?_) (fun hc6 => ?_)
   ·replace hF := ite_t hc6 hF
    obtain ⟨o, hx9, hF⟩ := bnd_in hF
    refine f_region Z ?_; clear Z; intro Z
    refine s_runk tLinkI Z 3 rfl rfl ?_; clear Z a; intro a Z
    refine s_ob Z (v := .bool s0.again) rfl rfl (by decide) rfl (Ob_load tLinkI rfl rfl rfl ((H.bx 1 rfl).cell 2 rfl)) ?_; clear Z a; intro a Z
    refine h_call Z H (js := [(0, false)]) rfl (caps := #[]) fn_23_YLinkI rfl rfl rfl rfl rfl (by decide) rfl rfl (fun D1 hS => have hq := c_law22_pair_out hx9 hS; hq) ?_; clear Z a; intro vv a w19 D2 hr hF2 Z
    obtain ⟨rfl, I6, K⟩ := hr
    have H : Hf I D w I6 w19 [OElaw22_pair b_p o, BxC b1 55 [.int .i64 s0.k, .int .u8 s0.n, .bool s0.again]] := hF2 K
    clear hF2 K
    refine s_end Z [] rfl ?_; clear Z; intro Z
    refine p_blk ?_
    obtain rfl := some_in hF
    exact f_fall Z (run_results0 rfl) ⟨rfl, I6, (H.sub [(0, false)] rfl).eq rfl⟩
   ·replace hF := ite_f hc6 hF
    refine wp_seq (f_region Z ?_); clear Z; intro Z
    refine s_runk tLinkI Z 1 rfl rfl ?_; clear Z a; intro a Z
    refine s_ob Z (v := .int .i64 s0.k) rfl rfl (by decide) rfl (Ob_load tLinkI rfl rfl rfl ((H.bx 1 rfl).cell 0 rfl)) ?_; clear Z a; intro a Z
    refine s_runk tLinkI Z 2 rfl rfl ?_; clear Z a; intro a Z
    refine g_ob Z (p := (!(decide (s0.k > 6)))) (v := .pointer (some ⟨b1, 0, none⟩)) (S' := [(3, .pointer (some ⟨b1, 0, none⟩))]) rfl rfl rfl (wantB_f _) rfl (by decide) (fun hp hS => hS.sub (ts := [3]) rfl) (fun hp => Ob_c tLinkI rfl) ?_; clear Z a; intro a Z
    refine g_ob Z (p := (!(decide (s0.k > 6)))) (v := .int .i64 s0.k) (S' := [(82, .pointer (some ⟨b1, 0, none⟩))]) rfl rfl rfl (wantB_f _) rfl (by decide) (fun hp hS => (hS.conv (t := 82) rfl (cond_t hp)).sub (ts := [82]) rfl) (fun hp => Ob_load tLinkI rfl rfl rfl ((H.bx 1 rfl).cell 0 rfl)) ?_; clear Z a; intro a Z
    refine g_ob Z (p := (!(decide (s0.k > 6)))) (v := .bool (decide (s0.k < 0))) (S' := [(83, .int .i64 s0.k)]) rfl rfl rfl (wantB_f _) rfl (by decide) (fun hp hS => (hS.conv (t := 83) rfl (cond_t hp)).sub (ts := [83]) rfl) (fun hp => Ob_c tLinkI rfl) ?_; clear Z a; intro a Z
    refine s_ob Z (v := .bool ((decide (s0.k > 6)) || (decide (s0.k < 0)))) rfl rfl (by decide) rfl (Ob_pick rfl rfl rfl rfl (pick_or _ _)) ?_; clear Z a; intro a Z
    refine s_runk tLinkI Z 1 rfl rfl ?_; clear Z a; intro a Z
    refine s_end Z [0, 3, 4, 5, 77] rfl ?_; clear Z; intro Z
    refine p_then ?_
    refine f_cond Z rfl (fun hc7 => ?_) (fun hc7 => ?_)
    ·replace hF := ite_t hc7 hF
     refine wp_seq ?_
     refine bsplit ((s0.n.tmod 2) == 0) (fun hi3 => ?_) (fun hi3 => ?_)
     ·replace hF := ite_t hi3 hF
      obtain ⟨⟨v9, v10, v11, v12⟩, H⟩ := H.openX 0 rfl
      replace H : Hf I D w I1 w2 [BxC b_p 60 [v9, v10, .int .i64 (p.boot.getD 0 0), .int .i64 (p.boot.getD 1 0), v11, v12, .int .i64 (p.sent.getD 0 0), .int .i64 (p.sent.getD 1 0), .int .i64 (p.told.getD 0 0), .int .i64 (p.told.getD 1 0), .bool p.ok], PtC OElink_Link v9 (p.l.getD 0 none), PtC OElink_Link v10 (p.l.getD 1 none), OwC NESeg 31 v11 p.way, OwC Ni64 3 v12 p.to_, BxC b1 55 [.int .i64 s0.k, .int .u8 s0.n, .bool s0.again]] := H
      obtain ⟨hg10, hF⟩ := chk_in hF
      refine f_quietS 9 (by kernel_rfl) (by kernel_rfl) (by kernel_rfl) (by kernel_rfl) (by kernel_rfl) Z ?_; clear Z; intro Z
      refine q_runk tLinkI Z 4 rfl rfl ?_; clear Z a; intro a Z
      refine q_ob Z (v := .pointer (some ⟨b_p, 2, none⟩)) rfl rfl (by decide) rfl (fun _ hw => Ob_apix (m := 1) 0 rfl rfl rfl Try.underlying57 (by kernel_rfl) (eq_of_beq hi3) (by decide)) ?_; clear Z a; intro a Z
      refine q_ob Z (v := .int .i64 (p.boot.getD 0 0)) rfl rfl (by decide) rfl (fun _ hw => Ob_load tLinkI rfl rfl rfl (((H.blw hw).bx 0 rfl).cell 2 rfl)) ?_; clear Z a; intro a Z
      refine q_ob Z (v := .int .i64 ((p.boot.getD 0 0) + 1)) rfl rfl (by decide) rfl (fun _ hw => Ob_add rfl rfl rfl (wrI hg10)) ?_; clear Z a; intro a Z
      refine q_runk tLinkI Z 2 rfl rfl ?_; clear Z a; intro a Z
      refine q_endS Z [0, 3, 4, 5, 77, 86, 87, 88, 89, 90, 91, 92, 93, 94] rfl ?_; clear Z; intro w20 hb Z
      replace H : Hf I D w I1 w20 [BxC b_p 60 [v9, v10, .int .i64 (p.boot.getD 0 0), .int .i64 (p.boot.getD 1 0), v11, v12, .int .i64 (p.sent.getD 0 0), .int .i64 (p.sent.getD 1 0), .int .i64 (p.told.getD 0 0), .int .i64 (p.told.getD 1 0), .bool p.ok], PtC OElink_Link v9 (p.l.getD 0 none), PtC OElink_Link v10 (p.l.getD 1 none), OwC NESeg 31 v11 p.way, OwC Ni64 3 v12 p.to_, BxC b1 55 [.int .i64 s0.k, .int .u8 s0.n, .bool s0.again]] := H.blw hb
      clear hb
      refine s_ob Z (v := .pointer (some ⟨b_p, 2, none⟩)) rfl rfl (by decide) rfl (Ob_apix (m := 1) 0 rfl rfl rfl Try.underlying57 (by kernel_rfl) (eq_of_beq hi3) (by decide)) ?_; clear Z a; intro a Z
      refine h_store tLinkI Z H 0 rfl rfl rfl rfl rfl rfl rfl rfl rfl (one_cons rfl one_nil) (Nat.le_of_ble_eq_true rfl) rfl ?_; clear H; intro w21 H
      dsimp only [List.eraseIdx] at H
      refine s_end Z [0, 4] rfl ?_; clear Z; intro Z
      refine p_then (wp_seq ?_)
      obtain ⟨n0_7, hx10, hF⟩ := bnd_in hF
      refine f_region Z ?_; clear Z; intro Z
      refine s_runk tLinkI Z 4 rfl rfl ?_; clear Z a; intro a Z
      refine s_ob Z (v := .pointer (some ⟨b_p, 2, none⟩)) rfl rfl (by decide) rfl (Ob_apix (m := 1) 0 rfl rfl rfl Try.underlying57 (by kernel_rfl) (eq_of_beq hi3) (by decide)) ?_; clear Z a; intro a Z
      refine s_ob Z (v := .int .i64 ((p.boot.getD 0 0) + 1)) rfl rfl (by decide) rfl (Ob_load tLinkI rfl rfl rfl ((H.bx 0 rfl).cell 2 rfl)) ?_; clear Z a; intro a Z
      refine h_call Z H (js := []) rfl (caps := #[]) fn_8_YLinkI rfl rfl rfl rfl rfl (by decide) rfl rfl (fun D1 hS => have hq := c_link_New hx10 hS; hq) ?_; clear Z a; intro vv a w22 D2 hr hF2 Z
      obtain ⟨q1, rfl, I7, K⟩ := hr
      have H : Hf I D w I7 w22 [PtC OElink_Link q1 n0_7.1, BxC b_p 60 [v9, v10, .int .i64 ((p.boot.getD 0 0) + 1), .int .i64 (p.boot.getD 1 0), v11, v12, .int .i64 (p.sent.getD 0 0), .int .i64 (p.sent.getD 1 0), .int .i64 (p.told.getD 0 0), .int .i64 (p.told.getD 1 0), .bool p.ok], PtC OElink_Link v9 (p.l.getD 0 none), PtC OElink_Link v10 (p.l.getD 1 none), OwC NESeg 31 v11 p.way, OwC Ni64 3 v12 p.to_, BxC b1 55 [.int .i64 s0.k, .int .u8 s0.n, .bool s0.again]] := hF2 K
      clear hF2 K
      refine s_runk tLinkI Z 5 rfl rfl ?_; clear Z a; intro a Z
      refine s_end Z [0, 4, 6, 7] rfl ?_; clear Z; intro Z
      rcases optE_in hF with ⟨ho3, hF⟩ | ⟨x_3, ho3, hF⟩
      ·obtain ⟨hv, H⟩ := H.optN 0 rfl ho3
       subst hv
       replace H : Hf I D w I7 w22 [BxC b_p 60 [v9, v10, .int .i64 ((p.boot.getD 0 0) + 1), .int .i64 (p.boot.getD 1 0), v11, v12, .int .i64 (p.sent.getD 0 0), .int .i64 (p.sent.getD 1 0), .int .i64 (p.told.getD 0 0), .int .i64 (p.told.getD 1 0), .bool p.ok], PtC OElink_Link v9 (p.l.getD 0 none), PtC OElink_Link v10 (p.l.getD 1 none), OwC NESeg 31 v11 p.way, OwC Ni64 3 v12 p.to_, BxC b1 55 [.int .i64 s0.k, .int .u8 s0.n, .bool s0.again]] := H
       refine p_then (wp_seq (f_region Z ?_)); clear Z; intro Z
       refine s_runk tLinkI Z 4 rfl rfl ?_; clear Z a; intro a Z
       refine s_ob Z (v := .bool p.ok) rfl rfl (by decide) rfl (Ob_load tLinkI rfl rfl rfl ((H.bx 0 rfl).cell 10 rfl)) ?_; clear Z a; intro a Z
       refine s_runk tLinkI Z 1 rfl rfl ?_; clear Z a; intro a Z
       refine g_ob Z (p := p.ok) (v := .int .i64 n0_7.2) (S' := [(7, .int .i64 n0_7.2)]) rfl rfl rfl (wantB_t _) rfl (by decide) (fun hp hS => hS.sub (ts := [7]) rfl) (fun hp => Ob_c tLinkI rfl) ?_; clear Z a; intro a Z
       refine g_ob Z (p := p.ok) (v := .bool (n0_7.2 == 0)) (S' := [(112, .int .i64 n0_7.2)]) rfl rfl rfl (wantB_t _) rfl (by decide) (fun hp hS => (hS.conv (t := 112) rfl (cond_t hp)).sub (ts := [112]) rfl) (fun hp => Ob_c tLinkI rfl) ?_; clear Z a; intro a Z
       refine s_ob Z (v := .bool (p.ok && (n0_7.2 == 0))) rfl rfl (by decide) rfl (Ob_pick rfl rfl rfl rfl (pick_and _ _)) ?_; clear Z a; intro a Z
       refine s_runk tLinkI Z 1 rfl rfl ?_; clear Z a; intro a Z
       refine g_ob Z (p := (p.ok && (n0_7.2 == 0))) (v := .pointer none) (S' := [(6, .pointer none)]) rfl rfl rfl (wantB_t _) rfl (by decide) (fun hp hS => hS.sub (ts := [6]) rfl) (fun hp => Ob_c tLinkI rfl) ?_; clear Z a; intro a Z
       refine g_ob Z (p := (p.ok && (n0_7.2 == 0))) (v := .bool false) (S' := [(116, .pointer none)]) rfl rfl rfl (wantB_t _) rfl (by decide) (fun hp hS => (hS.conv (t := 116) rfl (cond_t hp)).sub (ts := [116]) rfl) (fun hp => Ob_pnil rfl rfl rfl Try.underlying23 (.inr ⟨rfl, rfl⟩)) ?_; clear Z a; intro a Z
       refine s_ob Z (v := .bool false) rfl rfl (by decide) rfl (Ob_pick rfl rfl rfl rfl (pick_and0 _)) ?_; clear Z a; intro a Z
       refine s_runk tLinkI Z 2 rfl rfl ?_; clear Z a; intro a Z
       refine h_store tLinkI Z H 0 rfl rfl rfl rfl rfl rfl rfl rfl rfl (one_cons rfl one_nil) (Nat.le_of_ble_eq_true rfl) rfl ?_; clear H; intro w23 H
       dsimp only [List.eraseIdx] at H
       refine s_end Z [0, 4, 6] rfl ?_; clear Z; intro Z
       refine p_then ?_
       refine f_cut (fun a' w' => Sl 192 [(0, .pointer (some ⟨b_p, 0, none⟩)), (4, .int .i64 (s0.n.tmod 2))] a' ∧ (∃ I2, Hf I D w I2 w' [OElaw22_pair b_p ({ p with boot := [(p.boot.getD 0 0) + 1, (p.boot.getD 1 0)], ok := false } : Elaw22_pair)]) ∧ F_law22_pair_step_k2 p = some rr) ?_ ?_
       ·rintro a w24 ⟨Z, ⟨I8, H⟩, hF⟩
        unfold F_law22_pair_step_k2 at hF
        try dsimp only at hF
        refine f_region Z ?_; clear Z; intro Z
        refine s_runk tLinkI Z 4 rfl rfl ?_; clear Z a; intro a Z
        refine s_ob Z (v := .pointer (some ⟨b_p, 8, none⟩)) rfl rfl (by decide) rfl (Ob_apix (m := 1) 0 rfl rfl rfl Try.underlying57 (by kernel_rfl) (eq_of_beq hi3) (by decide)) ?_; clear Z a; intro a Z
        obtain ⟨⟨v13, v14, v15, v16⟩, H⟩ := H.openX 0 rfl
        replace H : Hf I D w I8 w24 [BxC b_p 60 [v13, v14, .int .i64 ((({ p with boot := [(p.boot.getD 0 0) + 1, (p.boot.getD 1 0)], ok := false } : Elaw22_pair).boot).getD 0 0), .int .i64 ((({ p with boot := [(p.boot.getD 0 0) + 1, (p.boot.getD 1 0)], ok := false } : Elaw22_pair).boot).getD 1 0), v15, v16, .int .i64 ((({ p with boot := [(p.boot.getD 0 0) + 1, (p.boot.getD 1 0)], ok := false } : Elaw22_pair).sent).getD 0 0), .int .i64 ((({ p with boot := [(p.boot.getD 0 0) + 1, (p.boot.getD 1 0)], ok := false } : Elaw22_pair).sent).getD 1 0), .int .i64 ((({ p with boot := [(p.boot.getD 0 0) + 1, (p.boot.getD 1 0)], ok := false } : Elaw22_pair).told).getD 0 0), .int .i64 ((({ p with boot := [(p.boot.getD 0 0) + 1, (p.boot.getD 1 0)], ok := false } : Elaw22_pair).told).getD 1 0), .bool (({ p with boot := [(p.boot.getD 0 0) + 1, (p.boot.getD 1 0)], ok := false } : Elaw22_pair).ok)], PtC OElink_Link v13 ((({ p with boot := [(p.boot.getD 0 0) + 1, (p.boot.getD 1 0)], ok := false } : Elaw22_pair).l).getD 0 none), PtC OElink_Link v14 ((({ p with boot := [(p.boot.getD 0 0) + 1, (p.boot.getD 1 0)], ok := false } : Elaw22_pair).l).getD 1 none), OwC NESeg 31 v15 (({ p with boot := [(p.boot.getD 0 0) + 1, (p.boot.getD 1 0)], ok := false } : Elaw22_pair).way), OwC Ni64 3 v16 (({ p with boot := [(p.boot.getD 0 0) + 1, (p.boot.getD 1 0)], ok := false } : Elaw22_pair).to_)] := H
        refine h_store tLinkI Z H 0 rfl rfl rfl rfl rfl rfl rfl rfl rfl (one_cons rfl one_nil) (Nat.le_of_ble_eq_true rfl) rfl ?_; clear H; intro w25 H
        dsimp only [List.eraseIdx] at H
        refine s_end Z [] rfl ?_; clear Z; intro Z
        refine p_blk ?_
        replace H : Hf I D w I8 w25 [OElaw22_pair b_p ({ ({ p with boot := [(p.boot.getD 0 0) + 1, (p.boot.getD 1 0)], ok := false } : Elaw22_pair) with l := (({ p with boot := [(p.boot.getD 0 0) + 1, (p.boot.getD 1 0)], ok := false } : Elaw22_pair).l), boot := (({ p with boot := [(p.boot.getD 0 0) + 1, (p.boot.getD 1 0)], ok := false } : Elaw22_pair).boot), sent := (({ p with boot := [(p.boot.getD 0 0) + 1, (p.boot.getD 1 0)], ok := false } : Elaw22_pair).sent), told := [0, ((({ p with boot := [(p.boot.getD 0 0) + 1, (p.boot.getD 1 0)], ok := false } : Elaw22_pair).told).getD 1 0)] } : Elaw22_pair)] := H.shutX (v13, v14, v15, v16) [(0, false), (0, false), (0, false), (0, false), (0, false)] rfl
        obtain rfl := some_in hF
        exact f_fall Z (run_results0 rfl) ⟨rfl, I8, (H.sub [(0, false)] rfl).eq rfl⟩
       ·skip
        refine wp_seq (f_region Z ?_); clear Z; intro Z
        refine s_runk tLinkI Z 3 rfl rfl ?_; clear Z a; intro a Z
        refine s_ob Z (v := .bool false) rfl rfl (by decide) rfl (Ob_load tLinkI rfl rfl rfl ((H.bx 0 rfl).cell 10 rfl)) ?_; clear Z a; intro a Z
        refine s_end Z [0, 4, 6, 124] rfl ?_; clear Z; intro Z
        refine p_then ?_
        refine wp_cond_false (Z.ev rfl) ?_
        refine wp_skip ?_
        refine p_then ?_
        replace H : Hf I D w I7 w23 [OElaw22_pair b_p ({ p with boot := [(p.boot.getD 0 0) + 1, (p.boot.getD 1 0)], ok := false } : Elaw22_pair), BxC b1 55 [.int .i64 s0.k, .int .u8 s0.n, .bool s0.again]] := H.shutX (v9, v10, v11, v12) [(0, false), (0, false), (0, false), (0, false), (0, false)] rfl
        exact ⟨Z.sub (ts := [0, 4]) rfl, ⟨I7, (H.sub [(0, false)] rfl).eq rfl⟩, hF⟩
      ·obtain ⟨b4, hv, H⟩ := H.optS 0 rfl ho3
       subst hv
       replace H : Hf I D w I7 w22 [OElink_Link b4 x_3, BxC b_p 60 [v9, v10, .int .i64 ((p.boot.getD 0 0) + 1), .int .i64 (p.boot.getD 1 0), v11, v12, .int .i64 (p.sent.getD 0 0), .int .i64 (p.sent.getD 1 0), .int .i64 (p.told.getD 0 0), .int .i64 (p.told.getD 1 0), .bool p.ok], PtC OElink_Link v9 (p.l.getD 0 none), PtC OElink_Link v10 (p.l.getD 1 none), OwC NESeg 31 v11 p.way, OwC Ni64 3 v12 p.to_, BxC b1 55 [.int .i64 s0.k, .int .u8 s0.n, .bool s0.again]] := H
       refine p_then (wp_seq (f_region Z ?_)); clear Z; intro Z
       refine s_runk tLinkI Z 4 rfl rfl ?_; clear Z a; intro a Z
       refine s_ob Z (v := .bool p.ok) rfl rfl (by decide) rfl (Ob_load tLinkI rfl rfl rfl ((H.bx 1 rfl).cell 10 rfl)) ?_; clear Z a; intro a Z
       refine s_runk tLinkI Z 1 rfl rfl ?_; clear Z a; intro a Z
       refine g_ob Z (p := p.ok) (v := .int .i64 n0_7.2) (S' := [(7, .int .i64 n0_7.2)]) rfl rfl rfl (wantB_t _) rfl (by decide) (fun hp hS => hS.sub (ts := [7]) rfl) (fun hp => Ob_c tLinkI rfl) ?_; clear Z a; intro a Z
       refine g_ob Z (p := p.ok) (v := .bool (n0_7.2 == 0)) (S' := [(112, .int .i64 n0_7.2)]) rfl rfl rfl (wantB_t _) rfl (by decide) (fun hp hS => (hS.conv (t := 112) rfl (cond_t hp)).sub (ts := [112]) rfl) (fun hp => Ob_c tLinkI rfl) ?_; clear Z a; intro a Z
       refine s_ob Z (v := .bool (p.ok && (n0_7.2 == 0))) rfl rfl (by decide) rfl (Ob_pick rfl rfl rfl rfl (pick_and _ _)) ?_; clear Z a; intro a Z
       refine s_runk tLinkI Z 1 rfl rfl ?_; clear Z a; intro a Z
       refine g_ob Z (p := (p.ok && (n0_7.2 == 0))) (v := .pointer (some ⟨b4, 0, none⟩)) (S' := [(6, .pointer (some ⟨b4, 0, none⟩))]) rfl rfl rfl (wantB_t _) rfl (by decide) (fun hp hS => hS.sub (ts := [6]) rfl) (fun hp => Ob_c tLinkI rfl) ?_; clear Z a; intro a Z
       refine g_ob Z (p := (p.ok && (n0_7.2 == 0))) (v := .bool true) (S' := [(116, .pointer (some ⟨b4, 0, none⟩))]) rfl rfl rfl (wantB_t _) rfl (by decide) (fun hp hS => (hS.conv (t := 116) rfl (cond_t hp)).sub (ts := [116]) rfl) (fun hp => Ob_pnil rfl rfl rfl Try.underlying23 (.inr ⟨rfl, rfl⟩)) ?_; clear Z a; intro a Z
       refine s_ob Z (v := .bool ((p.ok && (n0_7.2 == 0)) && true)) rfl rfl (by decide) rfl (Ob_pick rfl rfl rfl rfl (pick_and _ _)) ?_; clear Z a; intro a Z
       refine s_runk tLinkI Z 2 rfl rfl ?_; clear Z a; intro a Z
       refine h_store tLinkI Z H 1 rfl rfl rfl rfl rfl rfl rfl rfl rfl (one_cons rfl one_nil) (Nat.le_of_ble_eq_true rfl) rfl ?_; clear H; intro w26 H
       dsimp only [List.eraseIdx] at H
       refine s_end Z [0, 4, 6] rfl ?_; clear Z; intro Z
       refine p_then ?_
       refine f_cut (fun a' w' => ∃ (p_2 : Elaw22_pair), Sl 192 [(0, .pointer (some ⟨b_p, 0, none⟩)), (4, .int .i64 (s0.n.tmod 2))] a' ∧ (∃ I2, Hf I D w I2 w' [OElaw22_pair b_p p_2]) ∧ F_law22_pair_step_k3 p_2 = some rr) ?_ ?_
       ·rintro a w27 ⟨p_2, Z, ⟨I9, H⟩, hF⟩
        unfold F_law22_pair_step_k3 at hF
        try dsimp only at hF
        refine f_region Z ?_; clear Z; intro Z
        refine s_runk tLinkI Z 4 rfl rfl ?_; clear Z a; intro a Z
        refine s_ob Z (v := .pointer (some ⟨b_p, 8, none⟩)) rfl rfl (by decide) rfl (Ob_apix (m := 1) 0 rfl rfl rfl Try.underlying57 (by kernel_rfl) (eq_of_beq hi3) (by decide)) ?_; clear Z a; intro a Z
        obtain ⟨⟨v17, v18, v19, v20⟩, H⟩ := H.openX 0 rfl
        replace H : Hf I D w I9 w27 [BxC b_p 60 [v17, v18, .int .i64 (p_2.boot.getD 0 0), .int .i64 (p_2.boot.getD 1 0), v19, v20, .int .i64 (p_2.sent.getD 0 0), .int .i64 (p_2.sent.getD 1 0), .int .i64 (p_2.told.getD 0 0), .int .i64 (p_2.told.getD 1 0), .bool p_2.ok], PtC OElink_Link v17 (p_2.l.getD 0 none), PtC OElink_Link v18 (p_2.l.getD 1 none), OwC NESeg 31 v19 p_2.way, OwC Ni64 3 v20 p_2.to_] := H
        refine h_store tLinkI Z H 0 rfl rfl rfl rfl rfl rfl rfl rfl rfl (one_cons rfl one_nil) (Nat.le_of_ble_eq_true rfl) rfl ?_; clear H; intro w28 H
        dsimp only [List.eraseIdx] at H
        refine s_end Z [] rfl ?_; clear Z; intro Z
        refine p_blk ?_
        replace H : Hf I D w I9 w28 [OElaw22_pair b_p ({ p_2 with told := [0, (p_2.told.getD 1 0)] } : Elaw22_pair)] := H.shutX (v17, v18, v19, v20) [(0, false), (0, false), (0, false), (0, false), (0, false)] rfl
        obtain rfl := some_in hF
        exact f_fall Z (run_results0 rfl) ⟨rfl, I9, (H.sub [(0, false)] rfl).eq rfl⟩
       ·skip
        refine wp_seq (f_region Z ?_); clear Z; intro Z
        refine s_runk tLinkI Z 3 rfl rfl ?_; clear Z a; intro a Z
        refine s_ob Z (v := .bool ((p.ok && (n0_7.2 == 0)) && true)) rfl rfl (by decide) rfl (Ob_load tLinkI rfl rfl rfl ((H.bx 0 rfl).cell 10 rfl)) ?_; clear Z a; intro a Z
        refine s_end Z [0, 4, 6, 124] rfl ?_; clear Z; intro Z
        refine p_then ?_
        refine f_cond Z rfl (fun hc8 => ?_) (fun hc8 => ?_)
        ·replace hF := ite_t hc8 hF
         refine f_region Z ?_; clear Z; intro Z
         refine s_runk tLinkI Z 5 rfl rfl ?_; clear Z a; intro a Z
         refine s_ob Z (v := .pointer (some ⟨b_p, 0, none⟩)) rfl rfl (by decide) rfl (Ob_apix (m := 1) 0 rfl rfl rfl Try.underlying56 (by kernel_rfl) (eq_of_beq hi3) (by decide)) ?_; clear Z a; intro a Z
         refine h_store tLinkI Z H 0 rfl rfl rfl rfl rfl rfl rfl rfl rfl (one_cons rfl one_nil) (Nat.le_of_ble_eq_true rfl) rfl ?_; clear H; intro w29 H
         dsimp only [List.eraseIdx] at H
         refine s_end Z [0, 4] rfl ?_; clear Z; intro Z
         refine p_then ?_
         replace H : Hf I D w I7 w29 [PtC OElink_Link (.pointer (some ⟨b4, 0, none⟩)) (some x_3), BxC b_p 60 [.pointer (some ⟨b4, 0, none⟩), v10, .int .i64 ((p.boot.getD 0 0) + 1), .int .i64 (p.boot.getD 1 0), v11, v12, .int .i64 (p.sent.getD 0 0), .int .i64 (p.sent.getD 1 0), .int .i64 (p.told.getD 0 0), .int .i64 (p.told.getD 1 0), .bool ((p.ok && (n0_7.2 == 0)) && true)], PtC OElink_Link v9 (p.l.getD 0 none), PtC OElink_Link v10 (p.l.getD 1 none), OwC NESeg 31 v11 p.way, OwC Ni64 3 v12 p.to_, BxC b1 55 [.int .i64 s0.k, .int .u8 s0.n, .bool s0.again]] := H.mkS (K := OElink_Link) 1 rfl
         replace H : Hf I D w I7 w29 [OElaw22_pair b_p ({ p with l := [some x_3, (p.l.getD 1 none)], boot := [(p.boot.getD 0 0) + 1, (p.boot.getD 1 0)], ok := (p.ok && (n0_7.2 == 0)) && true } : Elaw22_pair), PtC OElink_Link v9 (p.l.getD 0 none), BxC b1 55 [.int .i64 s0.k, .int .u8 s0.n, .bool s0.again]] := H.shutX (.pointer (some ⟨b4, 0, none⟩), v10, v11, v12) [(1, false), (0, false), (1, false), (1, false), (1, false)] rfl
         exact ⟨({ p with l := [some x_3, (p.l.getD 1 none)], boot := [(p.boot.getD 0 0) + 1, (p.boot.getD 1 0)], ok := (p.ok && (n0_7.2 == 0)) && true } : Elaw22_pair), Z.sub (ts := [0, 4]) rfl, ⟨I7, (H.sub [(0, false)] rfl).eq rfl⟩, hF⟩
        ·replace hF := ite_f hc8 hF
         refine wp_skip ?_
         refine p_then ?_
         replace H : Hf I D w I7 w26 [OElaw22_pair b_p ({ p with boot := [(p.boot.getD 0 0) + 1, (p.boot.getD 1 0)], ok := (p.ok && (n0_7.2 == 0)) && true } : Elaw22_pair), OElink_Link b4 x_3, BxC b1 55 [.int .i64 s0.k, .int .u8 s0.n, .bool s0.again]] := H.shutX (v9, v10, v11, v12) [(0, false), (1, false), (1, false), (1, false), (1, false)] rfl
         exact ⟨({ p with boot := [(p.boot.getD 0 0) + 1, (p.boot.getD 1 0)], ok := (p.ok && (n0_7.2 == 0)) && true } : Elaw22_pair), Z.sub (ts := [0, 4]) rfl, ⟨I7, (H.sub [(0, false)] rfl).eq rfl⟩, hF⟩
     replace hF := ite_f hi3 hF
     refine bsplit ((s0.n.tmod 2) == 1) (fun hi4 => ?_) (fun hi4 => ?_)
     ·replace hF := ite_t hi4 hF
      obtain ⟨⟨v21, v22, v23, v24⟩, H⟩ := H.openX 0 rfl
      replace H : Hf I D w I1 w2 [BxC b_p 60 [v21, v22, .int .i64 (p.boot.getD 0 0), .int .i64 (p.boot.getD 1 0), v23, v24, .int .i64 (p.sent.getD 0 0), .int .i64 (p.sent.getD 1 0), .int .i64 (p.told.getD 0 0), .int .i64 (p.told.getD 1 0), .bool p.ok], PtC OElink_Link v21 (p.l.getD 0 none), PtC OElink_Link v22 (p.l.getD 1 none), OwC NESeg 31 v23 p.way, OwC Ni64 3 v24 p.to_, BxC b1 55 [.int .i64 s0.k, .int .u8 s0.n, .bool s0.again]] := H
      obtain ⟨hg11, hF⟩ := chk_in hF
      refine f_quietS 9 (by kernel_rfl) (by kernel_rfl) (by kernel_rfl) (by kernel_rfl) (by kernel_rfl) Z ?_; clear Z; intro Z
      refine q_runk tLinkI Z 4 rfl rfl ?_; clear Z a; intro a Z
      refine q_ob Z (v := .pointer (some ⟨b_p, 3, none⟩)) rfl rfl (by decide) rfl (fun _ hw => Ob_apix (m := 1) 1 rfl rfl rfl Try.underlying57 (by kernel_rfl) (eq_of_beq hi4) (by decide)) ?_; clear Z a; intro a Z
      refine q_ob Z (v := .int .i64 (p.boot.getD 1 0)) rfl rfl (by decide) rfl (fun _ hw => Ob_load tLinkI rfl rfl rfl (((H.blw hw).bx 0 rfl).cell 3 rfl)) ?_; clear Z a; intro a Z
      refine q_ob Z (v := .int .i64 ((p.boot.getD 1 0) + 1)) rfl rfl (by decide) rfl (fun _ hw => Ob_add rfl rfl rfl (wrI hg11)) ?_; clear Z a; intro a Z
      refine q_runk tLinkI Z 2 rfl rfl ?_; clear Z a; intro a Z
      refine q_endS Z [0, 3, 4, 5, 77, 86, 87, 88, 89, 90, 91, 92, 93, 94] rfl ?_; clear Z; intro w30 hb Z
      replace H : Hf I D w I1 w30 [BxC b_p 60 [v21, v22, .int .i64 (p.boot.getD 0 0), .int .i64 (p.boot.getD 1 0), v23, v24, .int .i64 (p.sent.getD 0 0), .int .i64 (p.sent.getD 1 0), .int .i64 (p.told.getD 0 0), .int .i64 (p.told.getD 1 0), .bool p.ok], PtC OElink_Link v21 (p.l.getD 0 none), PtC OElink_Link v22 (p.l.getD 1 none), OwC NESeg 31 v23 p.way, OwC Ni64 3 v24 p.to_, BxC b1 55 [.int .i64 s0.k, .int .u8 s0.n, .bool s0.again]] := H.blw hb
      clear hb
      refine s_ob Z (v := .pointer (some ⟨b_p, 3, none⟩)) rfl rfl (by decide) rfl (Ob_apix (m := 1) 1 rfl rfl rfl Try.underlying57 (by kernel_rfl) (eq_of_beq hi4) (by decide)) ?_; clear Z a; intro a Z
      refine h_store tLinkI Z H 0 rfl rfl rfl rfl rfl rfl rfl rfl rfl (one_cons rfl one_nil) (Nat.le_of_ble_eq_true rfl) rfl ?_; clear H; intro w31 H
      dsimp only [List.eraseIdx] at H
      refine s_end Z [0, 4] rfl ?_; clear Z; intro Z
      refine p_then (wp_seq ?_)
      obtain ⟨n0_8, hx11, hF⟩ := bnd_in hF
      refine f_region Z ?_; clear Z; intro Z
      refine s_runk tLinkI Z 4 rfl rfl ?_; clear Z a; intro a Z
      refine s_ob Z (v := .pointer (some ⟨b_p, 3, none⟩)) rfl rfl (by decide) rfl (Ob_apix (m := 1) 1 rfl rfl rfl Try.underlying57 (by kernel_rfl) (eq_of_beq hi4) (by decide)) ?_; clear Z a; intro a Z
      refine s_ob Z (v := .int .i64 ((p.boot.getD 1 0) + 1)) rfl rfl (by decide) rfl (Ob_load tLinkI rfl rfl rfl ((H.bx 0 rfl).cell 3 rfl)) ?_; clear Z a; intro a Z
      refine h_call Z H (js := []) rfl (caps := #[]) fn_8_YLinkI rfl rfl rfl rfl rfl (by decide) rfl rfl (fun D1 hS => have hq := c_link_New hx11 hS; hq) ?_; clear Z a; intro vv a w32 D2 hr hF2 Z
      obtain ⟨q2, rfl, I10, K⟩ := hr
      have H : Hf I D w I10 w32 [PtC OElink_Link q2 n0_8.1, BxC b_p 60 [v21, v22, .int .i64 (p.boot.getD 0 0), .int .i64 ((p.boot.getD 1 0) + 1), v23, v24, .int .i64 (p.sent.getD 0 0), .int .i64 (p.sent.getD 1 0), .int .i64 (p.told.getD 0 0), .int .i64 (p.told.getD 1 0), .bool p.ok], PtC OElink_Link v21 (p.l.getD 0 none), PtC OElink_Link v22 (p.l.getD 1 none), OwC NESeg 31 v23 p.way, OwC Ni64 3 v24 p.to_, BxC b1 55 [.int .i64 s0.k, .int .u8 s0.n, .bool s0.again]] := hF2 K
      clear hF2 K
      refine s_runk tLinkI Z 5 rfl rfl ?_; clear Z a; intro a Z
      refine s_end Z [0, 4, 6, 7] rfl ?_; clear Z; intro Z
      rcases optE_in hF with ⟨ho4, hF⟩ | ⟨x_4, ho4, hF⟩
      ·obtain ⟨hv, H⟩ := H.optN 0 rfl ho4
       subst hv
       replace H : Hf I D w I10 w32 [BxC b_p 60 [v21, v22, .int .i64 (p.boot.getD 0 0), .int .i64 ((p.boot.getD 1 0) + 1), v23, v24, .int .i64 (p.sent.getD 0 0), .int .i64 (p.sent.getD 1 0), .int .i64 (p.told.getD 0 0), .int .i64 (p.told.getD 1 0), .bool p.ok], PtC OElink_Link v21 (p.l.getD 0 none), PtC OElink_Link v22 (p.l.getD 1 none), OwC NESeg 31 v23 p.way, OwC Ni64 3 v24 p.to_, BxC b1 55 [.int .i64 s0.k, .int .u8 s0.n, .bool s0.again]] := H
       refine p_then (wp_seq (f_region Z ?_)); clear Z; intro Z
       refine s_runk tLinkI Z 4 rfl rfl ?_; clear Z a; intro a Z
       refine s_ob Z (v := .bool p.ok) rfl rfl (by decide) rfl (Ob_load tLinkI rfl rfl rfl ((H.bx 0 rfl).cell 10 rfl)) ?_; clear Z a; intro a Z
       refine s_runk tLinkI Z 1 rfl rfl ?_; clear Z a; intro a Z
       refine g_ob Z (p := p.ok) (v := .int .i64 n0_8.2) (S' := [(7, .int .i64 n0_8.2)]) rfl rfl rfl (wantB_t _) rfl (by decide) (fun hp hS => hS.sub (ts := [7]) rfl) (fun hp => Ob_c tLinkI rfl) ?_; clear Z a; intro a Z
       refine g_ob Z (p := p.ok) (v := .bool (n0_8.2 == 0)) (S' := [(112, .int .i64 n0_8.2)]) rfl rfl rfl (wantB_t _) rfl (by decide) (fun hp hS => (hS.conv (t := 112) rfl (cond_t hp)).sub (ts := [112]) rfl) (fun hp => Ob_c tLinkI rfl) ?_; clear Z a; intro a Z
       refine s_ob Z (v := .bool (p.ok && (n0_8.2 == 0))) rfl rfl (by decide) rfl (Ob_pick rfl rfl rfl rfl (pick_and _ _)) ?_; clear Z a; intro a Z
       refine s_runk tLinkI Z 1 rfl rfl ?_; clear Z a; intro a Z
       refine g_ob Z (p := (p.ok && (n0_8.2 == 0))) (v := .pointer none) (S' := [(6, .pointer none)]) rfl rfl rfl (wantB_t _) rfl (by decide) (fun hp hS => hS.sub (ts := [6]) rfl) (fun hp => Ob_c tLinkI rfl) ?_; clear Z a; intro a Z
       refine g_ob Z (p := (p.ok && (n0_8.2 == 0))) (v := .bool false) (S' := [(116, .pointer none)]) rfl rfl rfl (wantB_t _) rfl (by decide) (fun hp hS => (hS.conv (t := 116) rfl (cond_t hp)).sub (ts := [116]) rfl) (fun hp => Ob_pnil rfl rfl rfl Try.underlying23 (.inr ⟨rfl, rfl⟩)) ?_; clear Z a; intro a Z
       refine s_ob Z (v := .bool false) rfl rfl (by decide) rfl (Ob_pick rfl rfl rfl rfl (pick_and0 _)) ?_; clear Z a; intro a Z
       refine s_runk tLinkI Z 2 rfl rfl ?_; clear Z a; intro a Z
       refine h_store tLinkI Z H 0 rfl rfl rfl rfl rfl rfl rfl rfl rfl (one_cons rfl one_nil) (Nat.le_of_ble_eq_true rfl) rfl ?_; clear H; intro w33 H
       dsimp only [List.eraseIdx] at H
       refine s_end Z [0, 4, 6] rfl ?_; clear Z; intro Z
       refine p_then ?_
       refine f_cut (fun a' w' => Sl 192 [(0, .pointer (some ⟨b_p, 0, none⟩)), (4, .int .i64 (s0.n.tmod 2))] a' ∧ (∃ I2, Hf I D w I2 w' [OElaw22_pair b_p ({ p with boot := [(p.boot.getD 0 0), (p.boot.getD 1 0) + 1], ok := false } : Elaw22_pair)]) ∧ F_law22_pair_step_k4 p = some rr) ?_ ?_
       ·rintro a w34 ⟨Z, ⟨I11, H⟩, hF⟩
        unfold F_law22_pair_step_k4 at hF
        try dsimp only at hF
        refine f_region Z ?_; clear Z; intro Z
        refine s_runk tLinkI Z 4 rfl rfl ?_; clear Z a; intro a Z
        refine s_ob Z (v := .pointer (some ⟨b_p, 9, none⟩)) rfl rfl (by decide) rfl (Ob_apix (m := 1) 1 rfl rfl rfl Try.underlying57 (by kernel_rfl) (eq_of_beq hi4) (by decide)) ?_; clear Z a; intro a Z
        obtain ⟨⟨v25, v26, v27, v28⟩, H⟩ := H.openX 0 rfl
        replace H : Hf I D w I11 w34 [BxC b_p 60 [v25, v26, .int .i64 ((({ p with boot := [(p.boot.getD 0 0), (p.boot.getD 1 0) + 1], ok := false } : Elaw22_pair).boot).getD 0 0), .int .i64 ((({ p with boot := [(p.boot.getD 0 0), (p.boot.getD 1 0) + 1], ok := false } : Elaw22_pair).boot).getD 1 0), v27, v28, .int .i64 ((({ p with boot := [(p.boot.getD 0 0), (p.boot.getD 1 0) + 1], ok := false } : Elaw22_pair).sent).getD 0 0), .int .i64 ((({ p with boot := [(p.boot.getD 0 0), (p.boot.getD 1 0) + 1], ok := false } : Elaw22_pair).sent).getD 1 0), .int .i64 ((({ p with boot := [(p.boot.getD 0 0), (p.boot.getD 1 0) + 1], ok := false } : Elaw22_pair).told).getD 0 0), .int .i64 ((({ p with boot := [(p.boot.getD 0 0), (p.boot.getD 1 0) + 1], ok := false } : Elaw22_pair).told).getD 1 0), .bool (({ p with boot := [(p.boot.getD 0 0), (p.boot.getD 1 0) + 1], ok := false } : Elaw22_pair).ok)], PtC OElink_Link v25 ((({ p with boot := [(p.boot.getD 0 0), (p.boot.getD 1 0) + 1], ok := false } : Elaw22_pair).l).getD 0 none), PtC OElink_Link v26 ((({ p with boot := [(p.boot.getD 0 0), (p.boot.getD 1 0) + 1], ok := false } : Elaw22_pair).l).getD 1 none), OwC NESeg 31 v27 (({ p with boot := [(p.boot.getD 0 0), (p.boot.getD 1 0) + 1], ok := false } : Elaw22_pair).way), OwC Ni64 3 v28 (({ p with boot := [(p.boot.getD 0 0), (p.boot.getD 1 0) + 1], ok := false } : Elaw22_pair).to_)] := H
        refine h_store tLinkI Z H 0 rfl rfl rfl rfl rfl rfl rfl rfl rfl (one_cons rfl one_nil) (Nat.le_of_ble_eq_true rfl) rfl ?_; clear H; intro w35 H
        dsimp only [List.eraseIdx] at H
        refine s_end Z [] rfl ?_; clear Z; intro Z
        refine p_blk ?_
        replace H : Hf I D w I11 w35 [OElaw22_pair b_p ({ ({ p with boot := [(p.boot.getD 0 0), (p.boot.getD 1 0) + 1], ok := false } : Elaw22_pair) with l := (({ p with boot := [(p.boot.getD 0 0), (p.boot.getD 1 0) + 1], ok := false } : Elaw22_pair).l), boot := (({ p with boot := [(p.boot.getD 0 0), (p.boot.getD 1 0) + 1], ok := false } : Elaw22_pair).boot), sent := (({ p with boot := [(p.boot.getD 0 0), (p.boot.getD 1 0) + 1], ok := false } : Elaw22_pair).sent), told := [((({ p with boot := [(p.boot.getD 0 0), (p.boot.getD 1 0) + 1], ok := false } : Elaw22_pair).told).getD 0 0), 0] } : Elaw22_pair)] := H.shutX (v25, v26, v27, v28) [(0, false), (0, false), (0, false), (0, false), (0, false)] rfl
        obtain rfl := some_in hF
        exact f_fall Z (run_results0 rfl) ⟨rfl, I11, (H.sub [(0, false)] rfl).eq rfl⟩
       ·skip
        refine wp_seq (f_region Z ?_); clear Z; intro Z
        refine s_runk tLinkI Z 3 rfl rfl ?_; clear Z a; intro a Z
        refine s_ob Z (v := .bool false) rfl rfl (by decide) rfl (Ob_load tLinkI rfl rfl rfl ((H.bx 0 rfl).cell 10 rfl)) ?_; clear Z a; intro a Z
        refine s_end Z [0, 4, 6, 124] rfl ?_; clear Z; intro Z
        refine p_then ?_
        refine wp_cond_false (Z.ev rfl) ?_
        refine wp_skip ?_
        refine p_then ?_
        replace H : Hf I D w I10 w33 [OElaw22_pair b_p ({ p with boot := [(p.boot.getD 0 0), (p.boot.getD 1 0) + 1], ok := false } : Elaw22_pair), BxC b1 55 [.int .i64 s0.k, .int .u8 s0.n, .bool s0.again]] := H.shutX (v21, v22, v23, v24) [(0, false), (0, false), (0, false), (0, false), (0, false)] rfl
        exact ⟨Z.sub (ts := [0, 4]) rfl, ⟨I10, (H.sub [(0, false)] rfl).eq rfl⟩, hF⟩
      ·obtain ⟨b5, hv, H⟩ := H.optS 0 rfl ho4
       subst hv
       replace H : Hf I D w I10 w32 [OElink_Link b5 x_4, BxC b_p 60 [v21, v22, .int .i64 (p.boot.getD 0 0), .int .i64 ((p.boot.getD 1 0) + 1), v23, v24, .int .i64 (p.sent.getD 0 0), .int .i64 (p.sent.getD 1 0), .int .i64 (p.told.getD 0 0), .int .i64 (p.told.getD 1 0), .bool p.ok], PtC OElink_Link v21 (p.l.getD 0 none), PtC OElink_Link v22 (p.l.getD 1 none), OwC NESeg 31 v23 p.way, OwC Ni64 3 v24 p.to_, BxC b1 55 [.int .i64 s0.k, .int .u8 s0.n, .bool s0.again]] := H
       refine p_then (wp_seq (f_region Z ?_)); clear Z; intro Z
       refine s_runk tLinkI Z 4 rfl rfl ?_; clear Z a; intro a Z
       refine s_ob Z (v := .bool p.ok) rfl rfl (by decide) rfl (Ob_load tLinkI rfl rfl rfl ((H.bx 1 rfl).cell 10 rfl)) ?_; clear Z a; intro a Z
       refine s_runk tLinkI Z 1 rfl rfl ?_; clear Z a; intro a Z
       refine g_ob Z (p := p.ok) (v := .int .i64 n0_8.2) (S' := [(7, .int .i64 n0_8.2)]) rfl rfl rfl (wantB_t _) rfl (by decide) (fun hp hS => hS.sub (ts := [7]) rfl) (fun hp => Ob_c tLinkI rfl) ?_; clear Z a; intro a Z
       refine g_ob Z (p := p.ok) (v := .bool (n0_8.2 == 0)) (S' := [(112, .int .i64 n0_8.2)]) rfl rfl rfl (wantB_t _) rfl (by decide) (fun hp hS => (hS.conv (t := 112) rfl (cond_t hp)).sub (ts := [112]) rfl) (fun hp => Ob_c tLinkI rfl) ?_; clear Z a; intro a Z
       refine s_ob Z (v := .bool (p.ok && (n0_8.2 == 0))) rfl rfl (by decide) rfl (Ob_pick rfl rfl rfl rfl (pick_and _ _)) ?_; clear Z a; intro a Z
       refine s_runk tLinkI Z 1 rfl rfl ?_; clear Z a; intro a Z
       refine g_ob Z (p := (p.ok && (n0_8.2 == 0))) (v := .pointer (some ⟨b5, 0, none⟩)) (S' := [(6, .pointer (some ⟨b5, 0, none⟩))]) rfl rfl rfl (wantB_t _) rfl (by decide) (fun hp hS => hS.sub (ts := [6]) rfl) (fun hp => Ob_c tLinkI rfl) ?_; clear Z a; intro a Z
       refine g_ob Z (p := (p.ok && (n0_8.2 == 0))) (v := .bool true) (S' := [(116, .pointer (some ⟨b5, 0, none⟩))]) rfl rfl rfl (wantB_t _) rfl (by decide) (fun hp hS => (hS.conv (t := 116) rfl (cond_t hp)).sub (ts := [116]) rfl) (fun hp => Ob_pnil rfl rfl rfl Try.underlying23 (.inr ⟨rfl, rfl⟩)) ?_; clear Z a; intro a Z
       refine s_ob Z (v := .bool ((p.ok && (n0_8.2 == 0)) && true)) rfl rfl (by decide) rfl (Ob_pick rfl rfl rfl rfl (pick_and _ _)) ?_; clear Z a; intro a Z
       refine s_runk tLinkI Z 2 rfl rfl ?_; clear Z a; intro a Z
       refine h_store tLinkI Z H 1 rfl rfl rfl rfl rfl rfl rfl rfl rfl (one_cons rfl one_nil) (Nat.le_of_ble_eq_true rfl) rfl ?_; clear H; intro w36 H
       dsimp only [List.eraseIdx] at H
       refine s_end Z [0, 4, 6] rfl ?_; clear Z; intro Z
       refine p_then ?_
       refine f_cut (fun a' w' => ∃ (p_3 : Elaw22_pair), Sl 192 [(0, .pointer (some ⟨b_p, 0, none⟩)), (4, .int .i64 (s0.n.tmod 2))] a' ∧ (∃ I2, Hf I D w I2 w' [OElaw22_pair b_p p_3]) ∧ F_law22_pair_step_k5 p_3 = some rr) ?_ ?_
       ·rintro a w37 ⟨p_3, Z, ⟨I12, H⟩, hF⟩
        unfold F_law22_pair_step_k5 at hF
        try dsimp only at hF
        refine f_region Z ?_; clear Z; intro Z
        refine s_runk tLinkI Z 4 rfl rfl ?_; clear Z a; intro a Z
        refine s_ob Z (v := .pointer (some ⟨b_p, 9, none⟩)) rfl rfl (by decide) rfl (Ob_apix (m := 1) 1 rfl rfl rfl Try.underlying57 (by kernel_rfl) (eq_of_beq hi4) (by decide)) ?_; clear Z a; intro a Z
        obtain ⟨⟨v29, v30, v31, v32⟩, H⟩ := H.openX 0 rfl
        replace H : Hf I D w I12 w37 [BxC b_p 60 [v29, v30, .int .i64 (p_3.boot.getD 0 0), .int .i64 (p_3.boot.getD 1 0), v31, v32, .int .i64 (p_3.sent.getD 0 0), .int .i64 (p_3.sent.getD 1 0), .int .i64 (p_3.told.getD 0 0), .int .i64 (p_3.told.getD 1 0), .bool p_3.ok], PtC OElink_Link v29 (p_3.l.getD 0 none), PtC OElink_Link v30 (p_3.l.getD 1 none), OwC NESeg 31 v31 p_3.way, OwC Ni64 3 v32 p_3.to_] := H
        refine h_store tLinkI Z H 0 rfl rfl rfl rfl rfl rfl rfl rfl rfl (one_cons rfl one_nil) (Nat.le_of_ble_eq_true rfl) rfl ?_; clear H; intro w38 H
        dsimp only [List.eraseIdx] at H
        refine s_end Z [] rfl ?_; clear Z; intro Z
        refine p_blk ?_
        replace H : Hf I D w I12 w38 [OElaw22_pair b_p ({ p_3 with told := [(p_3.told.getD 0 0), 0] } : Elaw22_pair)] := H.shutX (v29, v30, v31, v32) [(0, false), (0, false), (0, false), (0, false), (0, false)] rfl
        obtain rfl := some_in hF
        exact f_fall Z (run_results0 rfl) ⟨rfl, I12, (H.sub [(0, false)] rfl).eq rfl⟩
       ·skip
        refine wp_seq (f_region Z ?_); clear Z; intro Z
        refine s_runk tLinkI Z 3 rfl rfl ?_; clear Z a; intro a Z
        refine s_ob Z (v := .bool ((p.ok && (n0_8.2 == 0)) && true)) rfl rfl (by decide) rfl (Ob_load tLinkI rfl rfl rfl ((H.bx 0 rfl).cell 10 rfl)) ?_; clear Z a; intro a Z
        refine s_end Z [0, 4, 6, 124] rfl ?_; clear Z; intro Z
        refine p_then ?_
        refine f_cond Z rfl (fun hc9 => ?_) (fun hc9 => ?_)
        ·replace hF := ite_t hc9 hF
         refine f_region Z ?_; clear Z; intro Z
         refine s_runk tLinkI Z 5 rfl rfl ?_; clear Z a; intro a Z
         refine s_ob Z (v := .pointer (some ⟨b_p, 1, none⟩)) rfl rfl (by decide) rfl (Ob_apix (m := 1) 1 rfl rfl rfl Try.underlying56 (by kernel_rfl) (eq_of_beq hi4) (by decide)) ?_; clear Z a; intro a Z
         refine h_store tLinkI Z H 0 rfl rfl rfl rfl rfl rfl rfl rfl rfl (one_cons rfl one_nil) (Nat.le_of_ble_eq_true rfl) rfl ?_; clear H; intro w39 H
         dsimp only [List.eraseIdx] at H
         refine s_end Z [0, 4] rfl ?_; clear Z; intro Z
         refine p_then ?_
         replace H : Hf I D w I10 w39 [PtC OElink_Link (.pointer (some ⟨b5, 0, none⟩)) (some x_4), BxC b_p 60 [v21, .pointer (some ⟨b5, 0, none⟩), .int .i64 (p.boot.getD 0 0), .int .i64 ((p.boot.getD 1 0) + 1), v23, v24, .int .i64 (p.sent.getD 0 0), .int .i64 (p.sent.getD 1 0), .int .i64 (p.told.getD 0 0), .int .i64 (p.told.getD 1 0), .bool ((p.ok && (n0_8.2 == 0)) && true)], PtC OElink_Link v21 (p.l.getD 0 none), PtC OElink_Link v22 (p.l.getD 1 none), OwC NESeg 31 v23 p.way, OwC Ni64 3 v24 p.to_, BxC b1 55 [.int .i64 s0.k, .int .u8 s0.n, .bool s0.again]] := H.mkS (K := OElink_Link) 1 rfl
         replace H : Hf I D w I10 w39 [OElaw22_pair b_p ({ p with l := [(p.l.getD 0 none), some x_4], boot := [(p.boot.getD 0 0), (p.boot.getD 1 0) + 1], ok := (p.ok && (n0_8.2 == 0)) && true } : Elaw22_pair), PtC OElink_Link v22 (p.l.getD 1 none), BxC b1 55 [.int .i64 s0.k, .int .u8 s0.n, .bool s0.again]] := H.shutX (v21, .pointer (some ⟨b5, 0, none⟩), v23, v24) [(1, false), (1, false), (0, false), (1, false), (1, false)] rfl
         exact ⟨({ p with l := [(p.l.getD 0 none), some x_4], boot := [(p.boot.getD 0 0), (p.boot.getD 1 0) + 1], ok := (p.ok && (n0_8.2 == 0)) && true } : Elaw22_pair), Z.sub (ts := [0, 4]) rfl, ⟨I10, (H.sub [(0, false)] rfl).eq rfl⟩, hF⟩
        ·replace hF := ite_f hc9 hF
         refine wp_skip ?_
         refine p_then ?_
         replace H : Hf I D w I10 w36 [OElaw22_pair b_p ({ p with boot := [(p.boot.getD 0 0), (p.boot.getD 1 0) + 1], ok := (p.ok && (n0_8.2 == 0)) && true } : Elaw22_pair), OElink_Link b5 x_4, BxC b1 55 [.int .i64 s0.k, .int .u8 s0.n, .bool s0.again]] := H.shutX (v21, v22, v23, v24) [(0, false), (1, false), (1, false), (1, false), (1, false)] rfl
         exact ⟨({ p with boot := [(p.boot.getD 0 0), (p.boot.getD 1 0) + 1], ok := (p.ok && (n0_8.2 == 0)) && true } : Elaw22_pair), Z.sub (ts := [0, 4]) rfl, ⟨I10, (H.sub [(0, false)] rfl).eq rfl⟩, hF⟩
     replace hF := ite_f hi4 hF
     cases hF
    ·replace hF := ite_f hc7 hF
     refine wp_seq (f_region Z ?_); clear Z; intro Z
     refine s_runk tLinkI Z 3 rfl rfl ?_; clear Z a; intro a Z
     obtain ⟨⟨v33, v34, v35, v36⟩, H⟩ := H.openX 0 rfl
     replace H : Hf I D w I1 w2 [BxC b_p 60 [v33, v34, .int .i64 (p.boot.getD 0 0), .int .i64 (p.boot.getD 1 0), v35, v36, .int .i64 (p.sent.getD 0 0), .int .i64 (p.sent.getD 1 0), .int .i64 (p.told.getD 0 0), .int .i64 (p.told.getD 1 0), .bool p.ok], PtC OElink_Link v33 (p.l.getD 0 none), PtC OElink_Link v34 (p.l.getD 1 none), OwC NESeg 31 v35 p.way, OwC Ni64 3 v36 p.to_, BxC b1 55 [.int .i64 s0.k, .int .u8 s0.n, .bool s0.again]] := H
     refine s_ob Z (v := v35) rfl rfl (by decide) rfl (Ob_load tLinkI rfl rfl rfl ((H.bx 0 rfl).cell 4 rfl)) ?_; clear Z a; intro a Z
     refine s_ob Z (v := .int .i64 (p.way.length : Int)) rfl rfl (by decide) rfl (Ob_slen tLinkI rfl rfl rfl (H.owshape 3 rfl)) ?_; clear Z a; intro a Z
     refine s_runk tLinkI Z 2 rfl rfl ?_; clear Z a; intro a Z
     refine s_end Z [0, 3, 5, 136] rfl ?_; clear Z; intro Z
     refine p_then ?_
     refine f_cond Z rfl (fun hc10 => ?_) (fun hc10 => ?_)
     ·replace hF := ite_t hc10 hF
      refine wp_ret ?_
      refine p_blk_r ?_
      replace H : Hf I D w I1 w2 [OElaw22_pair b_p p, BxC b1 55 [.int .i64 s0.k, .int .u8 s0.n, .bool s0.again]] := H.shutX (v33, v34, v35, v36) [(0, false), (0, false), (0, false), (0, false), (0, false)] rfl
      obtain rfl := some_in hF
      exact f_ret Z (run_results0 rfl) ⟨rfl, I1, (H.sub [(0, false)] rfl).eq rfl⟩
     ·replace hF := ite_f hc10 hF
      refine wp_seq (f_region Z ?_); clear Z; intro Z
      refine s_runk tLinkI Z 1 rfl rfl ?_; clear Z a; intro a Z
      refine s_ob Z (v := .int .i64 s0.k) rfl rfl (by decide) rfl (Ob_load tLinkI rfl rfl rfl ((H.bx 5 rfl).cell 0 rfl)) ?_; clear Z a; intro a Z
      refine s_runk tLinkI Z 2 rfl rfl ?_; clear Z a; intro a Z
      refine s_end Z [0, 3, 5, 143] rfl ?_; clear Z; intro Z
      refine p_then ?_
      refine f_cond Z rfl (fun hc11 => ?_) (fun hc11 => ?_)
      ·replace hF := ite_t hc11 hF
       obtain ⟨g, hx12, hF⟩ := bnd_in hF
       refine f_region Z ?_; clear Z; intro Z
       refine s_runk tLinkI Z 2 rfl rfl ?_; clear Z a; intro a Z
       replace H : Hf I D w I1 w2 [OElaw22_pair b_p p, BxC b1 55 [.int .i64 s0.k, .int .u8 s0.n, .bool s0.again]] := H.shutX (v33, v34, v35, v36) [(0, false), (0, false), (0, false), (0, false), (0, false)] rfl
       refine h_call Z H (js := [(0, false)]) rfl (caps := #[]) fn_37_YLinkI rfl rfl rfl rfl rfl (by decide) rfl rfl (fun D1 hS => have hq := c_law22_pair_gone hx12 hS; hq) ?_; clear Z a; intro vv a w40 D2 hr hF2 Z
       obtain ⟨rfl, I13, K⟩ := hr
       have H : Hf I D w I13 w40 [OElaw22_pair b_p g, BxC b1 55 [.int .i64 s0.k, .int .u8 s0.n, .bool s0.again]] := hF2 K
       clear hF2 K
       refine s_end Z [] rfl ?_; clear Z; intro Z
       refine p_blk ?_
       obtain rfl := some_in hF
       exact f_fall Z (run_results0 rfl) ⟨rfl, I13, (H.sub [(0, false)] rfl).eq rfl⟩
      ·replace hF := ite_f hc11 hF
       refine wp_seq (f_region Z ?_); clear Z; intro Z
       refine s_runk tLinkI Z 1 rfl rfl ?_; clear Z a; intro a Z
       refine s_ob Z (v := .int .i64 s0.k) rfl rfl (by decide) rfl (Ob_load tLinkI rfl rfl rfl ((H.bx 5 rfl).cell 0 rfl)) ?_; clear Z a; intro a Z
       refine s_runk tLinkI Z 2 rfl rfl ?_; clear Z a; intro a Z
       refine s_end Z [0, 5, 150] rfl ?_; clear Z; intro Z
       refine p_then ?_
       refine f_cond Z rfl (fun hc12 => ?_) (fun hc12 => ?_)
       ·replace hF := ite_t hc12 hF
        refine wp_seq (f_region Z ?_); clear Z; intro Z
        refine s_runk tLinkI Z 3 rfl rfl ?_; clear Z a; intro a Z
        refine s_ob Z (v := v35) rfl rfl (by decide) rfl (Ob_load tLinkI rfl rfl rfl ((H.bx 0 rfl).cell 4 rfl)) ?_; clear Z a; intro a Z
        refine s_ob Z (v := .int .i64 (p.way.length : Int)) rfl rfl (by decide) rfl (Ob_slen tLinkI rfl rfl rfl (H.owshape 3 rfl)) ?_; clear Z a; intro a Z
        refine s_runk tLinkI Z 1 rfl rfl ?_; clear Z a; intro a Z
        refine s_end Z [0, 5, 159] rfl ?_; clear Z; intro Z
        refine p_then ?_
        refine f_cond Z rfl (fun hc13 => ?_) (fun hc13 => ?_)
        ·replace hF := ite_t hc13 hF
         refine wp_seq ?_
         obtain ⟨hg12, hF⟩ := chk_in hF
         obtain ⟨hg13, hF⟩ := chk_in hF
         refine f_regionL Z (by kernel_rfl) (by kernel_rfl) (by decide) (by decide) [12, 13, 16] [(0, 0, 2), (0, 0, 1), (2, 0, 1), (6, 0, 1), (14, 0, 1), (0, 0, 0), (32, 0, 0), (96, 0, 0), (224, 0, 0), (0, 0, 0), (992, 0, 0), (2016, 0, 0), (4064, 0, 0), (8190, 1, 1), (16383, 2, 2), (32767, 2, 2), (65535, 2, 2)] (by kernel_rfl) (fun jj vv => cond (Nat.blt jj 8) (cond (Nat.blt jj 4) (cond (Nat.blt jj 2) (cond (Nat.blt jj 1) (vv = .pointer (some ⟨b_p, 0, none⟩)) (vv = .pointer (some ⟨b_p, 0, none⟩))) (cond (Nat.blt jj 3) (vv = .pointer (some ⟨b_p, 0, none⟩)) (vv = .pointer (some ⟨b_p, 4, none⟩)))) (cond (Nat.blt jj 6) (cond (Nat.blt jj 5) (vv = v35) (vv = .pointer (some ⟨b_p, 0, none⟩))) (cond (Nat.blt jj 7) (vv = .pointer (some ⟨b_p, 0, none⟩)) (vv = .pointer (some ⟨b_p, 4, none⟩))))) (cond (Nat.blt jj 12) (cond (Nat.blt jj 10) (cond (Nat.blt jj 9) (vv = v35) (vv = .int .i64 i)) (cond (Nat.blt jj 11) (vv = .pointer (some ⟨blkOf v35, oofOf v35 + (i).toNat * 8, none⟩)) (vv = .agg #[.int .i64 ((p.way.getD (i).toNat default).boot), .int .i64 ((p.way.getD (i).toNat default).stream), .int .i64 ((p.way.getD (i).toNat default).seq), .int .i64 ((p.way.getD (i).toNat default).ackBoot), .int .i64 ((p.way.getD (i).toNat default).ackStream), .int .i64 ((p.way.getD (i).toNat default).ackSeq), .bool ((p.way.getD (i).toNat default).has), .string ((p.way.getD (i).toNat default).body)]))) (cond (Nat.blt jj 14) (cond (Nat.blt jj 13) (vv = .slice (some ⟨blkOf vv, 0, none⟩) 1 1) (True)) (cond (Nat.blt jj 15) (vv = .pointer (some ⟨b_p, 0, none⟩)) (cond (Nat.blt jj 16) (vv = .pointer (some ⟨b_p, 4, none⟩)) (True)))))) (fun ss vals1 xw => match ss with | 0 => Gx I D w I1 w2 xw [BxC b_p 60 [v33, v34, .int .i64 (p.boot.getD 0 0), .int .i64 (p.boot.getD 1 0), v35, v36, .int .i64 (p.sent.getD 0 0), .int .i64 (p.sent.getD 1 0), .int .i64 (p.told.getD 0 0), .int .i64 (p.told.getD 1 0), .bool p.ok], PtC OElink_Link v33 (p.l.getD 0 none), PtC OElink_Link v34 (p.l.getD 1 none), OwC NESeg 31 v35 p.way, OwC Ni64 3 v36 p.to_, BxC b1 55 [.int .i64 s0.k, .int .u8 s0.n, .bool s0.again]] | 1 => Gx I D w I1 w2 xw [BxC (blkOf (vals1 12)) 31 [.int .i64 ((p.way.getD (i).toNat default).boot), .int .i64 ((p.way.getD (i).toNat default).stream), .int .i64 ((p.way.getD (i).toNat default).seq), .int .i64 ((p.way.getD (i).toNat default).ackBoot), .int .i64 ((p.way.getD (i).toNat default).ackStream), .int .i64 ((p.way.getD (i).toNat default).ackSeq), .bool ((p.way.getD (i).toNat default).has), .string ((p.way.getD (i).toNat default).body)], BxC b_p 60 [v33, v34, .int .i64 (p.boot.getD 0 0), .int .i64 (p.boot.getD 1 0), v35, v36, .int .i64 (p.sent.getD 0 0), .int .i64 (p.sent.getD 1 0), .int .i64 (p.told.getD 0 0), .int .i64 (p.told.getD 1 0), .bool p.ok], PtC OElink_Link v33 (p.l.getD 0 none), PtC OElink_Link v34 (p.l.getD 1 none), OwC NESeg 31 v35 p.way, OwC Ni64 3 v36 p.to_, BxC b1 55 [.int .i64 s0.k, .int .u8 s0.n, .bool s0.again]] | 2 => Gx I D w I1 w2 xw [OwC NESeg 31 (vals1 13) (p.way ++ [(p.way.getD (i).toNat default)]), BxC b_p 60 [v33, v34, .int .i64 (p.boot.getD 0 0), .int .i64 (p.boot.getD 1 0), v35, v36, .int .i64 (p.sent.getD 0 0), .int .i64 (p.sent.getD 1 0), .int .i64 (p.told.getD 0 0), .int .i64 (p.told.getD 1 0), .bool p.ok], PtC OElink_Link v33 (p.l.getD 0 none), PtC OElink_Link v34 (p.l.getD 1 none), OwC Ni64 3 v36 p.to_, BxC b1 55 [.int .i64 s0.k, .int .u8 s0.n, .bool s0.again]] | _ => Gx I D w I1 w2 xw [BxC b_p 60 [v33, v34, .int .i64 (p.boot.getD 0 0), .int .i64 (p.boot.getD 1 0), (vals1 13), v36, .int .i64 (p.sent.getD 0 0), .int .i64 (p.sent.getD 1 0), .int .i64 (p.told.getD 0 0), .int .i64 (p.told.getD 1 0), .bool p.ok], OwC NESeg 31 (vals1 13) (p.way ++ [(p.way.getD (i).toNat default)]), PtC OElink_Link v33 (p.l.getD 0 none), PtC OElink_Link v34 (p.l.getD 1 none), OwC Ni64 3 v36 p.to_, BxC b1 55 [.int .i64 s0.k, .int .u8 s0.n, .bool s0.again]]) (fun _ => Gx.start H) ?_ ?_
         ·intro fr hfr hfe
          refine .cons (fun ss hlo hhi vals1 xw hG hV => ?_) ?_
          ·obtain rfl | rfl | rfl : ss = 0 ∨ ss = 1 ∨ ss = 2 := st2 hlo hhi
           all_goals
           ·rw [← hfe]
            have hS := (hfr vals1).sub (ts := [0]) (S' := [(0, .pointer (some ⟨b_p, 0, none⟩))]) rfl
            exact L_val hS rfl (Ob_c tLinkI rfl) ⟨rfl, hG⟩
          refine .cons (fun ss hlo hhi vals1 xw hG hV => ?_) ?_
          ·obtain rfl | rfl : ss = 0 ∨ ss = 1 := st1 hlo hhi
           all_goals
           ·rw [← hfe]
            have hS := (hfr vals1).sub (ts := [0]) (S' := [(0, .pointer (some ⟨b_p, 0, none⟩))]) rfl
            exact L_val hS rfl (Ob_c tLinkI rfl) ⟨rfl, hG⟩
          refine .cons (fun ss hlo hhi vals1 xw hG hV => ?_) ?_
          ·obtain rfl | rfl : ss = 0 ∨ ss = 1 := st1 hlo hhi
           all_goals
           ·rw [← hfe]
            have hS := (hfr vals1).sub (ts := [161]) (S' := [(161, vals1 1)]) rfl
            replace hS := hS.conv (t := 161) rfl (show (vals1 1) = .pointer (some ⟨b_p, 0, none⟩) from hV 1 (by decide))
            exact L_val hS rfl (Ob_c tLinkI rfl) ⟨rfl, hG⟩
          refine .cons (fun ss hlo hhi vals1 xw hG hV => ?_) ?_
          ·obtain rfl | rfl : ss = 0 ∨ ss = 1 := st1 hlo hhi
           all_goals
           ·rw [← hfe]
            have hS := (hfr vals1).sub (ts := [162]) (S' := [(162, vals1 2)]) rfl
            replace hS := hS.conv (t := 162) rfl (show (vals1 2) = .pointer (some ⟨b_p, 0, none⟩) from hV 2 (by decide))
            exact L_val hS rfl (Ob_c tLinkI rfl) ⟨rfl, hG⟩
          refine .cons (fun ss hlo hhi vals1 xw hG hV => ?_) ?_
          ·obtain rfl | rfl : ss = 0 ∨ ss = 1 := st1 hlo hhi
           ·rw [← hfe]
            have hS := (hfr vals1).sub (ts := [163]) (S' := [(163, vals1 3)]) rfl
            replace hS := hS.conv (t := 163) rfl (show (vals1 3) = .pointer (some ⟨b_p, 4, none⟩) from hV 3 (by decide))
            obtain ⟨I2, hI2, H⟩ := Gx.ex hG
            exact L_val hS rfl (Ob_load tLinkI rfl rfl rfl ((H.bx 0 rfl).cell 4 rfl)) ⟨rfl, hG⟩
           ·rw [← hfe]
            have hS := (hfr vals1).sub (ts := [163]) (S' := [(163, vals1 3)]) rfl
            replace hS := hS.conv (t := 163) rfl (show (vals1 3) = .pointer (some ⟨b_p, 4, none⟩) from hV 3 (by decide))
            obtain ⟨I2, hI2, H⟩ := Gx.ex hG
            exact L_val hS rfl (Ob_load tLinkI rfl rfl rfl ((H.bx 1 rfl).cell 4 rfl)) ⟨rfl, hG⟩
          refine .cons (fun ss hlo hhi vals1 xw hG hV => ?_) ?_
          ·obtain rfl : ss = 0 := Nat.le_antisymm hhi hlo
           rw [← hfe]
           have hS := (hfr vals1).sub (ts := [0]) (S' := [(0, .pointer (some ⟨b_p, 0, none⟩))]) rfl
           exact L_val hS rfl (Ob_c tLinkI rfl) ⟨rfl, hG⟩
          refine .cons (fun ss hlo hhi vals1 xw hG hV => ?_) ?_
          ·obtain rfl : ss = 0 := Nat.le_antisymm hhi hlo
           rw [← hfe]
           have hS := (hfr vals1).sub (ts := [165]) (S' := [(165, vals1 5)]) rfl
           replace hS := hS.conv (t := 165) rfl (show (vals1 5) = .pointer (some ⟨b_p, 0, none⟩) from hV 5 (by decide))
           exact L_val hS rfl (Ob_c tLinkI rfl) ⟨rfl, hG⟩
          refine .cons (fun ss hlo hhi vals1 xw hG hV => ?_) ?_
          ·obtain rfl : ss = 0 := Nat.le_antisymm hhi hlo
           rw [← hfe]
           have hS := (hfr vals1).sub (ts := [166]) (S' := [(166, vals1 6)]) rfl
           replace hS := hS.conv (t := 166) rfl (show (vals1 6) = .pointer (some ⟨b_p, 0, none⟩) from hV 6 (by decide))
           exact L_val hS rfl (Ob_c tLinkI rfl) ⟨rfl, hG⟩
          refine .cons (fun ss hlo hhi vals1 xw hG hV => ?_) ?_
          ·obtain rfl : ss = 0 := Nat.le_antisymm hhi hlo
           rw [← hfe]
           have hS := (hfr vals1).sub (ts := [167]) (S' := [(167, vals1 7)]) rfl
           replace hS := hS.conv (t := 167) rfl (show (vals1 7) = .pointer (some ⟨b_p, 4, none⟩) from hV 7 (by decide))
           obtain ⟨I2, hI2, H⟩ := Gx.ex hG
           exact L_val hS rfl (Ob_load tLinkI rfl rfl rfl ((H.bx 0 rfl).cell 4 rfl)) ⟨rfl, hG⟩
          refine .cons (fun ss hlo hhi vals1 xw hG hV => ?_) ?_
          ·obtain rfl : ss = 0 := Nat.le_antisymm hhi hlo
           rw [← hfe]
           have hS := (hfr vals1).sub (ts := [5]) (S' := [(5, .int .i64 i)]) rfl
           exact L_val hS rfl (Ob_c tLinkI rfl) ⟨rfl, hG⟩
          refine .cons (fun ss hlo hhi vals1 xw hG hV => ?_) ?_
          ·obtain rfl : ss = 0 := Nat.le_antisymm hhi hlo
           rw [← hfe]
           have hS := (hfr vals1).sub (ts := [168, 169]) (S' := [(168, vals1 8), (169, vals1 9)]) rfl
           replace hS := hS.conv (t := 168) rfl (show (vals1 8) = v35 from hV 8 (by decide))
           replace hS := hS.conv (t := 169) rfl (show (vals1 9) = .int .i64 i from hV 9 (by decide))
           obtain ⟨I2, hI2, H⟩ := Gx.ex hG
           exact L_val hS rfl (Ob_sidx tLinkI rfl rfl rfl rfl (slPl (H.owA 3 rfl) hg12) hg12) ⟨rfl, hG⟩
          refine .cons (fun ss hlo hhi vals1 xw hG hV => ?_) ?_
          ·obtain rfl : ss = 0 := Nat.le_antisymm hhi hlo
           rw [← hfe]
           have hS := (hfr vals1).sub (ts := [170]) (S' := [(170, vals1 10)]) rfl
           replace hS := hS.conv (t := 170) rfl (show (vals1 10) = .pointer (some ⟨blkOf v35, oofOf v35 + (i).toNat * 8, none⟩) from hV 10 (by decide))
           obtain ⟨I2, hI2, H⟩ := Gx.ex hG
           exact L_val hS rfl (Ob_loads tLinkI rfl rfl rfl ((slFl (H.owA 3 rfl) hg12).part 0 rfl)) ⟨rfl, hG⟩
          refine .cons (fun ss hlo hhi vals1 xw hG hV => ?_) ?_
          ·obtain rfl : ss = 0 := Nat.le_antisymm hhi hlo
           rw [← hfe]
           have hS := (hfr vals1).sub (ts := [171]) (S' := [(171, vals1 11)]) rfl
           replace hS := hS.conv (t := 171) rfl (show (vals1 11) = .agg #[.int .i64 ((p.way.getD (i).toNat default).boot), .int .i64 ((p.way.getD (i).toNat default).stream), .int .i64 ((p.way.getD (i).toNat default).seq), .int .i64 ((p.way.getD (i).toNat default).ackBoot), .int .i64 ((p.way.getD (i).toNat default).ackStream), .int .i64 ((p.way.getD (i).toNat default).ackSeq), .bool ((p.way.getD (i).toNat default).has), .string ((p.way.getD (i).toNat default).body)] from hV 11 (by decide))
           obtain ⟨I2, hI2, H⟩ := Gx.ex hG
           exact L_bslice H (vs := [(0, .agg #[.int .i64 ((p.way.getD (i).toNat default).boot), .int .i64 ((p.way.getD (i).toNat default).stream), .int .i64 ((p.way.getD (i).toNat default).seq), .int .i64 ((p.way.getD (i).toNat default).ackBoot), .int .i64 ((p.way.getD (i).toNat default).ackStream), .int .i64 ((p.way.getD (i).toNat default).ackSeq), .bool ((p.way.getD (i).toNat default).has), .string ((p.way.getD (i).toNat default).body)])]) (cl := [.int .i64 ((p.way.getD (i).toNat default).boot), .int .i64 ((p.way.getD (i).toNat default).stream), .int .i64 ((p.way.getD (i).toNat default).seq), .int .i64 ((p.way.getD (i).toNat default).ackBoot), .int .i64 ((p.way.getD (i).toNat default).ackStream), .int .i64 ((p.way.getD (i).toNat default).ackSeq), .bool ((p.way.getD (i).toNat default).has), .string ((p.way.getD (i).toNat default).body)]) (e := 31) hS rfl rfl rfl (fun w => run_bslice (z := .agg #[.int .i64 0, .int .i64 0, .int .i64 0, .int .i64 0, .int .i64 0, .int .i64 0, .bool false, .string ByteArray.empty]) (m := 8) Try.underlying37 (by kernel_rfl) rfl rfl (by decide) (by simp [Instr.fill, Value.cells]) w) fun yw b hK H => ⟨rfl, Gx.go hG hI2 hK (fun _ h => h) H⟩
          refine .cons (fun ss hlo hhi vals1 xw hG hV => ?_) ?_
          ·obtain rfl : ss = 1 := Nat.le_antisymm hhi hlo
           rw [← hfe]
           have hS := (hfr vals1).sub (ts := [164, 172]) (S' := [(164, vals1 4), (172, vals1 12)]) rfl
           replace hS := hS.conv (t := 164) rfl (show (vals1 4) = v35 from hV 4 (by decide))
           replace hS := hS.conv (t := 172) rfl (show (vals1 12) = .slice (some ⟨blkOf (vals1 12), 0, none⟩) 1 1 from hV 12 (by decide))
           obtain ⟨I2, hI2, H⟩ := Gx.ex hG
           exact L_appO H 4 E_37_YLinkI [(p.way.getD (i).toNat default)] rfl rfl hS rfl rfl rfl rfl (slRep2.box1 (H.bx 0 rfl) ⟨rfl, trivial⟩) hg13 (by decide) fun v yw hK H => ⟨trivial, Gx.go hG hI2 hK (fun _ h => h) (H.sub [(0, false), (1, false), (1, false), (1, false), (1, false), (1, false)] rfl)⟩
          refine .cons (fun ss hlo hhi vals1 xw hG hV => ?_) ?_
          ·obtain rfl : ss = 2 := Nat.le_antisymm hhi hlo
           rw [← hfe]
           have hS := (hfr vals1).sub (ts := [160]) (S' := [(160, vals1 0)]) rfl
           replace hS := hS.conv (t := 160) rfl (show (vals1 0) = .pointer (some ⟨b_p, 0, none⟩) from hV 0 (by decide))
           exact L_val hS rfl (Ob_c tLinkI rfl) ⟨rfl, hG⟩
          refine .cons (fun ss hlo hhi vals1 xw hG hV => ?_) ?_
          ·obtain rfl : ss = 2 := Nat.le_antisymm hhi hlo
           rw [← hfe]
           have hS := (hfr vals1).sub (ts := [174]) (S' := [(174, vals1 14)]) rfl
           replace hS := hS.conv (t := 174) rfl (show (vals1 14) = .pointer (some ⟨b_p, 0, none⟩) from hV 14 (by decide))
           exact L_val hS rfl (Ob_c tLinkI rfl) ⟨rfl, hG⟩
          refine .cons (fun ss hlo hhi vals1 xw hG hV => ?_) ?_
          ·obtain rfl : ss = 2 := Nat.le_antisymm hhi hlo
           rw [← hfe]
           have hS := (hfr vals1).sub (ts := [175, 173]) (S' := [(175, vals1 15), (173, vals1 13)]) rfl
           replace hS := hS.conv (t := 175) rfl (show (vals1 15) = .pointer (some ⟨b_p, 4, none⟩) from hV 15 (by decide))
           obtain ⟨I2, hI2, H⟩ := Gx.ex hG
           exact L_store tLinkI H 1 rfl hS rfl rfl rfl rfl rfl (slS.cells (H.owshape 0 rfl)) rfl rfl (one_cons (slS.one (H.owshape 0 rfl)) one_nil) (Nat.le_of_ble_eq_true rfl) rfl fun yw hK H => ⟨trivial, Gx.go hG hI2 hK (fun _ h => h) H⟩
          exact .nil
         ·intro vals1 a w41 Z hG hV
          replace Z := Z.sub (ts := [0, 5]) (S' := [(0, .pointer (some ⟨b_p, 0, none⟩)), (5, .int .i64 i)]) rfl
          obtain ⟨I14, _, H⟩ := Gx.ex hG
          clear hG hV
          replace Z := Z.sub (ts := [0, 5]) rfl
          replace H : Hf I D w I14 w41 [BxC b_p 60 [v33, v34, .int .i64 (p.boot.getD 0 0), .int .i64 (p.boot.getD 1 0), (vals1 13), v36, .int .i64 (p.sent.getD 0 0), .int .i64 (p.sent.getD 1 0), .int .i64 (p.told.getD 0 0), .int .i64 (p.told.getD 1 0), .bool p.ok], OwC NESeg 31 (vals1 13) (p.way ++ [(p.way.getD (i).toNat default)]), PtC OElink_Link v33 (p.l.getD 0 none), PtC OElink_Link v34 (p.l.getD 1 none), OwC Ni64 3 v36 p.to_, BxC b1 55 [.int .i64 s0.k, .int .u8 s0.n, .bool s0.again]] := H
          refine p_then ?_
          obtain ⟨hg14, hF⟩ := chk_in hF
          obtain ⟨hg15, hF⟩ := chk_in hF
          refine f_regionL Z (by kernel_rfl) (by kernel_rfl) (by decide) (by decide) [12, 13, 16] [(0, 0, 2), (0, 0, 1), (2, 0, 1), (6, 0, 1), (14, 0, 1), (0, 0, 0), (32, 0, 0), (96, 0, 0), (224, 0, 0), (0, 0, 0), (992, 0, 0), (2016, 0, 0), (4064, 0, 0), (8190, 1, 1), (16383, 2, 2), (32767, 2, 2), (65535, 2, 2)] (by kernel_rfl) (fun jj vv => cond (Nat.blt jj 8) (cond (Nat.blt jj 4) (cond (Nat.blt jj 2) (cond (Nat.blt jj 1) (vv = .pointer (some ⟨b_p, 0, none⟩)) (vv = .pointer (some ⟨b_p, 0, none⟩))) (cond (Nat.blt jj 3) (vv = .pointer (some ⟨b_p, 0, none⟩)) (vv = .pointer (some ⟨b_p, 5, none⟩)))) (cond (Nat.blt jj 6) (cond (Nat.blt jj 5) (vv = v36) (vv = .pointer (some ⟨b_p, 0, none⟩))) (cond (Nat.blt jj 7) (vv = .pointer (some ⟨b_p, 0, none⟩)) (vv = .pointer (some ⟨b_p, 5, none⟩))))) (cond (Nat.blt jj 12) (cond (Nat.blt jj 10) (cond (Nat.blt jj 9) (vv = v36) (vv = .int .i64 i)) (cond (Nat.blt jj 11) (vv = .pointer (some ⟨blkOf v36, oofOf v36 + (i).toNat * 1, none⟩)) (vv = .int .i64 (p.to_.getD (i).toNat default)))) (cond (Nat.blt jj 14) (cond (Nat.blt jj 13) (vv = .slice (some ⟨blkOf vv, 0, none⟩) 1 1) (True)) (cond (Nat.blt jj 15) (vv = .pointer (some ⟨b_p, 0, none⟩)) (cond (Nat.blt jj 16) (vv = .pointer (some ⟨b_p, 5, none⟩)) (True)))))) (fun ss vals2 xw => match ss with | 0 => Gx I D w I14 w41 xw [BxC b_p 60 [v33, v34, .int .i64 (p.boot.getD 0 0), .int .i64 (p.boot.getD 1 0), (vals1 13), v36, .int .i64 (p.sent.getD 0 0), .int .i64 (p.sent.getD 1 0), .int .i64 (p.told.getD 0 0), .int .i64 (p.told.getD 1 0), .bool p.ok], OwC NESeg 31 (vals1 13) (p.way ++ [(p.way.getD (i).toNat default)]), PtC OElink_Link v33 (p.l.getD 0 none), PtC OElink_Link v34 (p.l.getD 1 none), OwC Ni64 3 v36 p.to_, BxC b1 55 [.int .i64 s0.k, .int .u8 s0.n, .bool s0.again]] | 1 => Gx I D w I14 w41 xw [BxC (blkOf (vals2 12)) 3 [.int .i64 (p.to_.getD (i).toNat default)], BxC b_p 60 [v33, v34, .int .i64 (p.boot.getD 0 0), .int .i64 (p.boot.getD 1 0), (vals1 13), v36, .int .i64 (p.sent.getD 0 0), .int .i64 (p.sent.getD 1 0), .int .i64 (p.told.getD 0 0), .int .i64 (p.told.getD 1 0), .bool p.ok], OwC NESeg 31 (vals1 13) (p.way ++ [(p.way.getD (i).toNat default)]), PtC OElink_Link v33 (p.l.getD 0 none), PtC OElink_Link v34 (p.l.getD 1 none), OwC Ni64 3 v36 p.to_, BxC b1 55 [.int .i64 s0.k, .int .u8 s0.n, .bool s0.again]] | 2 => Gx I D w I14 w41 xw [OwC Ni64 3 (vals2 13) (p.to_ ++ [(p.to_.getD (i).toNat default)]), BxC b_p 60 [v33, v34, .int .i64 (p.boot.getD 0 0), .int .i64 (p.boot.getD 1 0), (vals1 13), v36, .int .i64 (p.sent.getD 0 0), .int .i64 (p.sent.getD 1 0), .int .i64 (p.told.getD 0 0), .int .i64 (p.told.getD 1 0), .bool p.ok], OwC NESeg 31 (vals1 13) (p.way ++ [(p.way.getD (i).toNat default)]), PtC OElink_Link v33 (p.l.getD 0 none), PtC OElink_Link v34 (p.l.getD 1 none), BxC b1 55 [.int .i64 s0.k, .int .u8 s0.n, .bool s0.again]] | _ => Gx I D w I14 w41 xw [BxC b_p 60 [v33, v34, .int .i64 (p.boot.getD 0 0), .int .i64 (p.boot.getD 1 0), (vals1 13), (vals2 13), .int .i64 (p.sent.getD 0 0), .int .i64 (p.sent.getD 1 0), .int .i64 (p.told.getD 0 0), .int .i64 (p.told.getD 1 0), .bool p.ok], OwC Ni64 3 (vals2 13) (p.to_ ++ [(p.to_.getD (i).toNat default)]), OwC NESeg 31 (vals1 13) (p.way ++ [(p.way.getD (i).toNat default)]), PtC OElink_Link v33 (p.l.getD 0 none), PtC OElink_Link v34 (p.l.getD 1 none), BxC b1 55 [.int .i64 s0.k, .int .u8 s0.n, .bool s0.again]]) (fun _ => Gx.start H) ?_ ?_
          ·intro fr hfr hfe
           refine .cons (fun ss hlo hhi vals2 xw hG hV => ?_) ?_
           ·obtain rfl | rfl | rfl : ss = 0 ∨ ss = 1 ∨ ss = 2 := st2 hlo hhi
            all_goals
            ·rw [← hfe]
             have hS := (hfr vals2).sub (ts := [0]) (S' := [(0, .pointer (some ⟨b_p, 0, none⟩))]) rfl
             exact L_val hS rfl (Ob_c tLinkI rfl) ⟨rfl, hG⟩
           refine .cons (fun ss hlo hhi vals2 xw hG hV => ?_) ?_
           ·obtain rfl | rfl : ss = 0 ∨ ss = 1 := st1 hlo hhi
            all_goals
            ·rw [← hfe]
             have hS := (hfr vals2).sub (ts := [0]) (S' := [(0, .pointer (some ⟨b_p, 0, none⟩))]) rfl
             exact L_val hS rfl (Ob_c tLinkI rfl) ⟨rfl, hG⟩
           refine .cons (fun ss hlo hhi vals2 xw hG hV => ?_) ?_
           ·obtain rfl | rfl : ss = 0 ∨ ss = 1 := st1 hlo hhi
            all_goals
            ·rw [← hfe]
             have hS := (hfr vals2).sub (ts := [177]) (S' := [(177, vals2 1)]) rfl
             replace hS := hS.conv (t := 177) rfl (show (vals2 1) = .pointer (some ⟨b_p, 0, none⟩) from hV 1 (by decide))
             exact L_val hS rfl (Ob_c tLinkI rfl) ⟨rfl, hG⟩
           refine .cons (fun ss hlo hhi vals2 xw hG hV => ?_) ?_
           ·obtain rfl | rfl : ss = 0 ∨ ss = 1 := st1 hlo hhi
            all_goals
            ·rw [← hfe]
             have hS := (hfr vals2).sub (ts := [178]) (S' := [(178, vals2 2)]) rfl
             replace hS := hS.conv (t := 178) rfl (show (vals2 2) = .pointer (some ⟨b_p, 0, none⟩) from hV 2 (by decide))
             exact L_val hS rfl (Ob_c tLinkI rfl) ⟨rfl, hG⟩
           refine .cons (fun ss hlo hhi vals2 xw hG hV => ?_) ?_
           ·obtain rfl | rfl : ss = 0 ∨ ss = 1 := st1 hlo hhi
            ·rw [← hfe]
             have hS := (hfr vals2).sub (ts := [179]) (S' := [(179, vals2 3)]) rfl
             replace hS := hS.conv (t := 179) rfl (show (vals2 3) = .pointer (some ⟨b_p, 5, none⟩) from hV 3 (by decide))
             obtain ⟨I2, hI2, H⟩ := Gx.ex hG
             exact L_val hS rfl (Ob_load tLinkI rfl rfl rfl ((H.bx 0 rfl).cell 5 rfl)) ⟨rfl, hG⟩
            ·rw [← hfe]
             have hS := (hfr vals2).sub (ts := [179]) (S' := [(179, vals2 3)]) rfl
             replace hS := hS.conv (t := 179) rfl (show (vals2 3) = .pointer (some ⟨b_p, 5, none⟩) from hV 3 (by decide))
             obtain ⟨I2, hI2, H⟩ := Gx.ex hG
             exact L_val hS rfl (Ob_load tLinkI rfl rfl rfl ((H.bx 1 rfl).cell 5 rfl)) ⟨rfl, hG⟩
           refine .cons (fun ss hlo hhi vals2 xw hG hV => ?_) ?_
           ·obtain rfl : ss = 0 := Nat.le_antisymm hhi hlo
            rw [← hfe]
            have hS := (hfr vals2).sub (ts := [0]) (S' := [(0, .pointer (some ⟨b_p, 0, none⟩))]) rfl
            exact L_val hS rfl (Ob_c tLinkI rfl) ⟨rfl, hG⟩
           refine .cons (fun ss hlo hhi vals2 xw hG hV => ?_) ?_
           ·obtain rfl : ss = 0 := Nat.le_antisymm hhi hlo
            rw [← hfe]
            have hS := (hfr vals2).sub (ts := [181]) (S' := [(181, vals2 5)]) rfl
            replace hS := hS.conv (t := 181) rfl (show (vals2 5) = .pointer (some ⟨b_p, 0, none⟩) from hV 5 (by decide))
            exact L_val hS rfl (Ob_c tLinkI rfl) ⟨rfl, hG⟩
           refine .cons (fun ss hlo hhi vals2 xw hG hV => ?_) ?_
           ·obtain rfl : ss = 0 := Nat.le_antisymm hhi hlo
            rw [← hfe]
            have hS := (hfr vals2).sub (ts := [182]) (S' := [(182, vals2 6)]) rfl
            replace hS := hS.conv (t := 182) rfl (show (vals2 6) = .pointer (some ⟨b_p, 0, none⟩) from hV 6 (by decide))
            exact L_val hS rfl (Ob_c tLinkI rfl) ⟨rfl, hG⟩
           refine .cons (fun ss hlo hhi vals2 xw hG hV => ?_) ?_
           ·obtain rfl : ss = 0 := Nat.le_antisymm hhi hlo
            rw [← hfe]
            have hS := (hfr vals2).sub (ts := [183]) (S' := [(183, vals2 7)]) rfl
            replace hS := hS.conv (t := 183) rfl (show (vals2 7) = .pointer (some ⟨b_p, 5, none⟩) from hV 7 (by decide))
            obtain ⟨I2, hI2, H⟩ := Gx.ex hG
            exact L_val hS rfl (Ob_load tLinkI rfl rfl rfl ((H.bx 0 rfl).cell 5 rfl)) ⟨rfl, hG⟩
           refine .cons (fun ss hlo hhi vals2 xw hG hV => ?_) ?_
           ·obtain rfl : ss = 0 := Nat.le_antisymm hhi hlo
            rw [← hfe]
            have hS := (hfr vals2).sub (ts := [5]) (S' := [(5, .int .i64 i)]) rfl
            exact L_val hS rfl (Ob_c tLinkI rfl) ⟨rfl, hG⟩
           refine .cons (fun ss hlo hhi vals2 xw hG hV => ?_) ?_
           ·obtain rfl : ss = 0 := Nat.le_antisymm hhi hlo
            rw [← hfe]
            have hS := (hfr vals2).sub (ts := [184, 185]) (S' := [(184, vals2 8), (185, vals2 9)]) rfl
            replace hS := hS.conv (t := 184) rfl (show (vals2 8) = v36 from hV 8 (by decide))
            replace hS := hS.conv (t := 185) rfl (show (vals2 9) = .int .i64 i from hV 9 (by decide))
            obtain ⟨I2, hI2, H⟩ := Gx.ex hG
            exact L_val hS rfl (Ob_sidx tLinkI rfl rfl rfl rfl (slPl (H.owA 4 rfl) hg14) hg14) ⟨rfl, hG⟩
           refine .cons (fun ss hlo hhi vals2 xw hG hV => ?_) ?_
           ·obtain rfl : ss = 0 := Nat.le_antisymm hhi hlo
            rw [← hfe]
            have hS := (hfr vals2).sub (ts := [186]) (S' := [(186, vals2 10)]) rfl
            replace hS := hS.conv (t := 186) rfl (show (vals2 10) = .pointer (some ⟨blkOf v36, oofOf v36 + (i).toNat * 1, none⟩) from hV 10 (by decide))
            obtain ⟨I2, hI2, H⟩ := Gx.ex hG
            exact L_val hS rfl (Ob_load tLinkI rfl rfl rfl ((slFl (H.owA 4 rfl) hg14) 0 _ rfl)) ⟨rfl, hG⟩
           refine .cons (fun ss hlo hhi vals2 xw hG hV => ?_) ?_
           ·obtain rfl : ss = 0 := Nat.le_antisymm hhi hlo
            rw [← hfe]
            have hS := (hfr vals2).sub (ts := [187]) (S' := [(187, vals2 11)]) rfl
            replace hS := hS.conv (t := 187) rfl (show (vals2 11) = .int .i64 (p.to_.getD (i).toNat default) from hV 11 (by decide))
            obtain ⟨I2, hI2, H⟩ := Gx.ex hG
            exact L_bslice H (vs := [(0, .int .i64 (p.to_.getD (i).toNat default))]) (cl := [.int .i64 (p.to_.getD (i).toNat default)]) (e := 3) hS rfl rfl rfl (fun w => run_bslice (z := .int .i64 0) (m := 1) Try.underlying58 (by kernel_rfl) rfl rfl (by decide) (by simp [Instr.fill, Value.cells]) w) fun yw b hK H => ⟨rfl, Gx.go hG hI2 hK (fun _ h => h) H⟩
           refine .cons (fun ss hlo hhi vals2 xw hG hV => ?_) ?_
           ·obtain rfl : ss = 1 := Nat.le_antisymm hhi hlo
            rw [← hfe]
            have hS := (hfr vals2).sub (ts := [180, 188]) (S' := [(180, vals2 4), (188, vals2 12)]) rfl
            replace hS := hS.conv (t := 180) rfl (show (vals2 4) = v36 from hV 4 (by decide))
            replace hS := hS.conv (t := 188) rfl (show (vals2 12) = .slice (some ⟨blkOf (vals2 12), 0, none⟩) 1 1 from hV 12 (by decide))
            obtain ⟨I2, hI2, H⟩ := Gx.ex hG
            exact L_appO H 5 E_58_YLinkI [(p.to_.getD (i).toNat default)] rfl rfl hS rfl rfl rfl rfl (slRep2.box1 (H.bx 0 rfl) ⟨rfl, trivial⟩) hg15 (by decide) fun v yw hK H => ⟨trivial, Gx.go hG hI2 hK (fun _ h => h) (H.sub [(0, false), (1, false), (1, false), (1, false), (1, false), (1, false)] rfl)⟩
           refine .cons (fun ss hlo hhi vals2 xw hG hV => ?_) ?_
           ·obtain rfl : ss = 2 := Nat.le_antisymm hhi hlo
            rw [← hfe]
            have hS := (hfr vals2).sub (ts := [176]) (S' := [(176, vals2 0)]) rfl
            replace hS := hS.conv (t := 176) rfl (show (vals2 0) = .pointer (some ⟨b_p, 0, none⟩) from hV 0 (by decide))
            exact L_val hS rfl (Ob_c tLinkI rfl) ⟨rfl, hG⟩
           refine .cons (fun ss hlo hhi vals2 xw hG hV => ?_) ?_
           ·obtain rfl : ss = 2 := Nat.le_antisymm hhi hlo
            rw [← hfe]
            have hS := (hfr vals2).sub (ts := [190]) (S' := [(190, vals2 14)]) rfl
            replace hS := hS.conv (t := 190) rfl (show (vals2 14) = .pointer (some ⟨b_p, 0, none⟩) from hV 14 (by decide))
            exact L_val hS rfl (Ob_c tLinkI rfl) ⟨rfl, hG⟩
           refine .cons (fun ss hlo hhi vals2 xw hG hV => ?_) ?_
           ·obtain rfl : ss = 2 := Nat.le_antisymm hhi hlo
            rw [← hfe]
            have hS := (hfr vals2).sub (ts := [191, 189]) (S' := [(191, vals2 15), (189, vals2 13)]) rfl
            replace hS := hS.conv (t := 191) rfl (show (vals2 15) = .pointer (some ⟨b_p, 5, none⟩) from hV 15 (by decide))
            obtain ⟨I2, hI2, H⟩ := Gx.ex hG
            exact L_store tLinkI H 1 rfl hS rfl rfl rfl rfl rfl (slS.cells (H.owshape 0 rfl)) rfl rfl (one_cons (slS.one (H.owshape 0 rfl)) one_nil) (Nat.le_of_ble_eq_true rfl) rfl fun yw hK H => ⟨trivial, Gx.go hG hI2 hK (fun _ h => h) H⟩
           exact .nil
          ·intro vals2 a w42 Z hG hV
           replace Z := Z.sub (ts := []) (S' := []) rfl
           obtain ⟨I15, _, H⟩ := Gx.ex hG
           clear hG hV
           replace Z := Z.sub (ts := []) rfl
           replace H : Hf I D w I15 w42 [BxC b_p 60 [v33, v34, .int .i64 (p.boot.getD 0 0), .int .i64 (p.boot.getD 1 0), (vals1 13), (vals2 13), .int .i64 (p.sent.getD 0 0), .int .i64 (p.sent.getD 1 0), .int .i64 (p.told.getD 0 0), .int .i64 (p.told.getD 1 0), .bool p.ok], OwC Ni64 3 (vals2 13) (p.to_ ++ [(p.to_.getD (i).toNat default)]), OwC NESeg 31 (vals1 13) (p.way ++ [(p.way.getD (i).toNat default)]), PtC OElink_Link v33 (p.l.getD 0 none), PtC OElink_Link v34 (p.l.getD 1 none), BxC b1 55 [.int .i64 s0.k, .int .u8 s0.n, .bool s0.again]] := H
           refine p_blk ?_
           replace H : Hf I D w I15 w42 [OElaw22_pair b_p ({ p with way := p.way ++ [(p.way.getD (i).toNat default)], to_ := p.to_ ++ [(p.to_.getD (i).toNat default)] } : Elaw22_pair), BxC b1 55 [.int .i64 s0.k, .int .u8 s0.n, .bool s0.again]] := H.shutX (v33, v34, (vals1 13), (vals2 13)) [(0, false), (2, false), (2, false), (1, false), (0, false)] rfl
           obtain rfl := some_in hF
           exact f_fall Z (run_results0 rfl) ⟨rfl, I15, (H.sub [(0, false)] rfl).eq rfl⟩
        ·replace hF := ite_f hc13 hF
         refine wp_skip ?_
         refine p_blk ?_
         replace H : Hf I D w I1 w2 [OElaw22_pair b_p p, BxC b1 55 [.int .i64 s0.k, .int .u8 s0.n, .bool s0.again]] := H.shutX (v33, v34, v35, v36) [(0, false), (0, false), (0, false), (0, false), (0, false)] rfl
         obtain rfl := some_in hF
         exact f_fall Z (run_results0 rfl) ⟨rfl, I1, (H.sub [(0, false)] rfl).eq rfl⟩
       ·replace hF := ite_f hc12 hF
        refine wp_seq ?_
        obtain ⟨c, hx13, hF⟩ := bnd_in hF
        refine f_region Z ?_; clear Z; intro Z
        refine s_runk tLinkI Z 2 rfl rfl ?_; clear Z a; intro a Z
        replace H : Hf I D w I1 w2 [OElaw22_pair b_p p, BxC b1 55 [.int .i64 s0.k, .int .u8 s0.n, .bool s0.again]] := H.shutX (v33, v34, v35, v36) [(0, false), (0, false), (0, false), (0, false), (0, false)] rfl
        refine h_call Z H (js := [(0, false)]) rfl (caps := #[]) fn_24_YLinkI rfl rfl rfl rfl rfl (by decide) rfl rfl (fun D1 hS => have hq := c_law22_pair_come hx13 hS; hq) ?_; clear Z a; intro vv a w43 D2 hr hF2 Z
        obtain ⟨rfl, I16, K⟩ := hr
        have H : Hf I D w I16 w43 [OElaw22_pair b_p c, BxC b1 55 [.int .i64 s0.k, .int .u8 s0.n, .bool s0.again]] := hF2 K
        clear hF2 K
        refine s_end Z [0, 5] rfl ?_; clear Z; intro Z
        refine p_then ?_
        obtain ⟨g_2, hx14, hF⟩ := bnd_in hF
        refine f_region Z ?_; clear Z; intro Z
        refine s_runk tLinkI Z 2 rfl rfl ?_; clear Z a; intro a Z
        refine h_call Z H (js := [(0, false)]) rfl (caps := #[]) fn_37_YLinkI rfl rfl rfl rfl rfl (by decide) rfl rfl (fun D1 hS => have hq := c_law22_pair_gone hx14 hS; hq) ?_; clear Z a; intro vv a w44 D2 hr hF2 Z
        obtain ⟨rfl, I17, K⟩ := hr
        have H : Hf I D w I17 w44 [OElaw22_pair b_p g_2, BxC b1 55 [.int .i64 s0.k, .int .u8 s0.n, .bool s0.again]] := hF2 K
        clear hF2 K
        refine s_end Z [] rfl ?_; clear Z; intro Z
        refine p_blk ?_
        obtain rfl := some_in hF
        exact f_fall Z (run_results0 rfl) ⟨rfl, I17, (H.sub [(0, false)] rfl).eq rfl⟩
 ·skip
  refine wp_seq (f_region Z ?_); clear Z; intro Z
  refine s_runk tLinkI Z 3 rfl rfl ?_; clear Z a; intro a Z
  obtain ⟨⟨v37, v38, v39, v40⟩, H⟩ := H.openX 1 rfl
  replace H : Hf I D w I w1 [BxC b_p 60 [v37, v38, .int .i64 (p.boot.getD 0 0), .int .i64 (p.boot.getD 1 0), v39, v40, .int .i64 (p.sent.getD 0 0), .int .i64 (p.sent.getD 1 0), .int .i64 (p.told.getD 0 0), .int .i64 (p.told.getD 1 0), .bool p.ok], PtC OElink_Link v37 (p.l.getD 0 none), PtC OElink_Link v38 (p.l.getD 1 none), OwC NESeg 31 v39 p.way, OwC Ni64 3 v40 p.to_, BxC b1 55 [.int .i64 s0.k, .int .u8 s0.n, .bool s0.again]] := H
  refine s_ob Z (v := v39) rfl rfl (by decide) rfl (Ob_load tLinkI rfl rfl rfl ((H.bx 0 rfl).cell 4 rfl)) ?_; clear Z a; intro a Z
  refine s_ob Z (v := .int .i64 (p.way.length : Int)) rfl rfl (by decide) rfl (Ob_slen tLinkI rfl rfl rfl (H.owshape 3 rfl)) ?_; clear Z a; intro a Z
  refine s_runk tLinkI Z 1 rfl rfl ?_; clear Z a; intro a Z
  refine s_end Z [0, 3, 4, 5, 17] rfl ?_; clear Z; intro Z
  refine p_then ?_
  refine f_cond Z rfl (fun hc14 => ?_) (fun hc14 => ?_)
  ·replace hF := ite_t hc14 hF
   obtain ⟨hg16, hF⟩ := chk_in hF
   obtain ⟨hg17, hF⟩ := chk_in hF
   refine f_quietd (by kernel_rfl) (by kernel_rfl) Z ?_; clear Z; intro Z
   refine q_runk tLinkI Z 1 rfl rfl ?_; clear Z a; intro a Z
   refine q_ob Z (v := .int .u8 s0.n) rfl rfl (by decide) rfl (fun _ hw => Ob_load tLinkI rfl rfl rfl (((H.blw hw).bx 5 rfl).cell 1 rfl)) ?_; clear Z a; intro a Z
   refine q_ob Z (v := .int .i64 s0.n) rfl rfl (by decide) rfl (fun _ hw => Ob_conv rfl rfl (run_convi Try.underlying5 Try.underlying3 _ _ (wrI hg16) _)) ?_; clear Z a; intro a Z
   refine q_runk tLinkI Z 3 rfl rfl ?_; clear Z a; intro a Z
   refine q_ob Z (v := v39) rfl rfl (by decide) rfl (fun _ hw => Ob_load tLinkI rfl rfl rfl (((H.blw hw).bx 0 rfl).cell 4 rfl)) ?_; clear Z a; intro a Z
   refine q_ob Z (v := .int .i64 (p.way.length : Int)) rfl rfl (by decide) rfl (fun _ hw => Ob_slen tLinkI rfl rfl rfl ((H.blw hw).owshape 3 rfl)) ?_; clear Z a; intro a Z
   refine q_ob Z (v := .int .i64 (s0.n.tmod (p.way.length : Int))) rfl rfl (by decide) rfl (fun _ hw => Ob_rem rfl rfl rfl hg17 rfl) ?_; clear Z a; intro a Z
   refine q_runk tLinkI Z 1 rfl rfl ?_; clear Z a; intro a Z
   refine q_end Z [0, 3, 4, 5] rfl ?_; clear Z; intro w45 hb Z
   replace H : Hf I D w I w45 [BxC b_p 60 [v37, v38, .int .i64 (p.boot.getD 0 0), .int .i64 (p.boot.getD 1 0), v39, v40, .int .i64 (p.sent.getD 0 0), .int .i64 (p.sent.getD 1 0), .int .i64 (p.told.getD 0 0), .int .i64 (p.told.getD 1 0), .bool p.ok], PtC OElink_Link v37 (p.l.getD 0 none), PtC OElink_Link v38 (p.l.getD 1 none), OwC NESeg 31 v39 p.way, OwC Ni64 3 v40 p.to_, BxC b1 55 [.int .i64 s0.k, .int .u8 s0.n, .bool s0.again]] := H.blw hb
   clear hb
   refine p_then ?_
   replace H : Hf I D w I w45 [OElaw22_pair b_p p, BxC b1 55 [.int .i64 s0.k, .int .u8 s0.n, .bool s0.again]] := H.shutX (v37, v38, v39, v40) [(0, false), (0, false), (0, false), (0, false), (0, false)] rfl
   exact ⟨s0.n.tmod (p.way.length : Int), Z.sub (ts := [0, 3, 4, 5]) rfl, ⟨I, (H.sub [(0, false), (0, false)] rfl).eq rfl⟩, hF⟩
  ·replace hF := ite_f hc14 hF
   refine wp_skip ?_
   refine p_then ?_
   replace H : Hf I D w I w1 [OElaw22_pair b_p p, BxC b1 55 [.int .i64 s0.k, .int .u8 s0.n, .bool s0.again]] := H.shutX (v37, v38, v39, v40) [(0, false), (0, false), (0, false), (0, false), (0, false)] rfl
   exact ⟨0, Z.sub (ts := [0, 3, 4, 5]) rfl, ⟨I, (H.sub [(0, false), (0, false)] rfl).eq rfl⟩, hF⟩

end Go.Proofs.Ythomnhhjgcabkaa
