/- Links: two sides, what goes out. -/
import Derived.Test.YthomnhhjgcabkaaYLinkG
namespace Go.Proofs.Ythomnhhjgcabkaa
open Go.RowKit
def tLinkHL : TabL := ⟨[(61440, 0), (61442, 4), (61443, 5)], [], [], [(37, (31, 8)), (58, (3, 1))], [(23, (1, false)), (31, (8, true)), (37, (1, false)), (58, (1, false))]⟩

def tLinkH : Tab Try.prog := ⟨tLinkHL, by kernel_rfl⟩

theorem fn_13_YLinkH : IsFn Try.prog 13 := ⟨_, Try.func13, by kernel_rfl, by kernel_rfl⟩

theorem E_37_YLinkH : Elem Try.prog 37 31 8 72 := ⟨Try.underlying37, by
 have h : (Try.prog.info? 31).map (fun i => (i.zero, i.size, i.bytes)) = some (some (.agg #[.int .i64 0, .int .i64 0, .int .i64 0, .int .i64 0, .int .i64 0, .int .i64 0, .bool false, .string ByteArray.empty]), 8, 72) := by kernel_rfl
 obtain ⟨i, hi, h1⟩ := Option.map_eq_some_iff.1 h
 simp only [Prod.mk.injEq] at h1
 exact ⟨i, _, hi, h1.1, h1.2.1, h1.2.2, by rfl⟩, by decide⟩

theorem E_58_YLinkH : Elem Try.prog 58 3 1 8 := ⟨Try.underlying58, by
 have h : (Try.prog.info? 3).map (fun i => (i.zero, i.size, i.bytes)) = some (some (.int .i64 0), 1, 8) := by kernel_rfl
 obtain ⟨i, hi, h1⟩ := Option.map_eq_some_iff.1 h
 simp only [Prod.mk.injEq] at h1
 exact ⟨i, _, hi, h1.1, h1.2.1, h1.2.2, by rfl⟩, by decide⟩

def F_law22_pair_out_l1 (side : Int) (n0 : List ESeg) (rc : (Int × Elaw22_pair) → Option Elaw22_pair) (sg : Int × Elaw22_pair) : Option Elaw22_pair := match sg with | (i, p_2) => if (((decide (i < (n0.length : Int))) && (decide (i < 9))) && (decide ((p_2.way.length : Int) < 200))) = true then (chk ((0 : Int) ≤ i ∧ i < (n0.length : Int)) (chk (((p_2.way.length + [(n0.getD (i).toNat default)].length : Nat) : Int) * 72 ≤ 140737488355328) (chk (inI (1 - side)) (chk (((p_2.to_.length + [1 - side].length : Nat) : Int) * 8 ≤ 140737488355328) (chk (inI (i + 1)) (rc (i + 1, ({ p_2 with way := p_2.way ++ [(n0.getD (i).toNat default)], to_ := p_2.to_ ++ [1 - side] } : Elaw22_pair)))))))) else (some p_2)

def F_law22_pair_out_l2 (side : Int) (o : (List ESeg) × Elink_Link) (rc_2 : (Int × Elaw22_pair) → Option Elaw22_pair) (sg : Int × Elaw22_pair) : Option Elaw22_pair := match sg with | (i_2, p_3) => if (((decide (i_2 < (o.1.length : Int))) && (decide (i_2 < 9))) && (decide ((p_3.way.length : Int) < 200))) = true then (chk ((0 : Int) ≤ i_2 ∧ i_2 < (o.1.length : Int)) (chk (((p_3.way.length + [(o.1.getD (i_2).toNat default)].length : Nat) : Int) * 72 ≤ 140737488355328) (chk (inI (1 - side)) (chk (((p_3.to_.length + [1 - side].length : Nat) : Int) * 8 ≤ 140737488355328) (chk (inI (i_2 + 1)) (rc_2 (i_2 + 1, ({ p_3 with way := p_3.way ++ [(o.1.getD (i_2).toNat default)], to_ := p_3.to_ ++ [1 - side] } : Elaw22_pair)))))))) else (some p_3)

def F_law22_pair_out_l3 (side : Int) (n0_2 : List ESeg) (rc_3 : (Int × Elaw22_pair) → Option Elaw22_pair) (sg : Int × Elaw22_pair) : Option Elaw22_pair := match sg with | (i_3, p_4) => if (((decide (i_3 < (n0_2.length : Int))) && (decide (i_3 < 9))) && (decide ((p_4.way.length : Int) < 200))) = true then (chk ((0 : Int) ≤ i_3 ∧ i_3 < (n0_2.length : Int)) (chk (((p_4.way.length + [(n0_2.getD (i_3).toNat default)].length : Nat) : Int) * 72 ≤ 140737488355328) (chk (inI (1 - side)) (chk (((p_4.to_.length + [1 - side].length : Nat) : Int) * 8 ≤ 140737488355328) (chk (inI (i_3 + 1)) (rc_3 (i_3 + 1, ({ p_4 with way := p_4.way ++ [(n0_2.getD (i_3).toNat default)], to_ := p_4.to_ ++ [1 - side] } : Elaw22_pair)))))))) else (some p_4)

def F_law22_pair_out_l4 (side : Int) (o_2 : (List ESeg) × Elink_Link) (rc_4 : (Int × Elaw22_pair) → Option Elaw22_pair) (sg : Int × Elaw22_pair) : Option Elaw22_pair := match sg with | (i_4, p_5) => if (((decide (i_4 < (o_2.1.length : Int))) && (decide (i_4 < 9))) && (decide ((p_5.way.length : Int) < 200))) = true then (chk ((0 : Int) ≤ i_4 ∧ i_4 < (o_2.1.length : Int)) (chk (((p_5.way.length + [(o_2.1.getD (i_4).toNat default)].length : Nat) : Int) * 72 ≤ 140737488355328) (chk (inI (1 - side)) (chk (((p_5.to_.length + [1 - side].length : Nat) : Int) * 8 ≤ 140737488355328) (chk (inI (i_4 + 1)) (rc_4 (i_4 + 1, ({ p_5 with way := p_5.way ++ [(o_2.1.getD (i_4).toNat default)], to_ := p_5.to_ ++ [1 - side] } : Elaw22_pair)))))))) else (some p_5)

def F_law22_pair_out (p : Elaw22_pair) (side : Int) (again : Bool) : Option Elaw22_pair := if (side == 0) = true then (optE (p.l.getD 0 none) ((F_link_Link_Out_nil again).bind fun n0 => (iter (F_law22_pair_out_l1 side n0) FU (0, ({ p with l := [none, (p.l.getD 1 none)] } : Elaw22_pair)))) (fun x => (F_link_Link_Out x again).bind fun o => (iter (F_law22_pair_out_l2 side o) FU (0, ({ p with l := [some o.2, (p.l.getD 1 none)] } : Elaw22_pair))))) else if (side == 1) = true then (optE (p.l.getD 1 none) ((F_link_Link_Out_nil again).bind fun n0_2 => (iter (F_law22_pair_out_l3 side n0_2) FU (0, ({ p with l := [(p.l.getD 0 none), none] } : Elaw22_pair)))) (fun x_2 => (F_link_Link_Out x_2 again).bind fun o_2 => (iter (F_law22_pair_out_l4 side o_2) FU (0, ({ p with l := [(p.l.getD 0 none), some o_2.2] } : Elaw22_pair))))) else none

set_option maxHeartbeats 1000000 in
theorem c_law22_pair_out {I D : Dm} {b_p : Nat} {p : Elaw22_pair} {side : Int} {again : Bool} {w : World} {rr : Elaw22_pair} (hF : F_law22_pair_out p side again = some rr) (H : St I D w [OElaw22_pair b_p p]) :
  Calls Try.prog 23 #[.pointer (some ⟨b_p, 0, none⟩), .int .i64 side, .bool again] w (Ret fun vv w' => vv = .tuple #[] ∧ ∃ I', Hf I D w I' w' [OElaw22_pair b_p rr]) := by
 replace H := H.hf
 unfold F_law22_pair_out at hF
 refine f_enter 58 Try.func23 rfl rfl (Nat.le_of_ble_eq_true rfl) fun a Z => ?_
 replace Z := Z.sub (ts := [0, 1, 2]) rfl
 refine wp_seq ?_
 refine bsplit (side == 0) (fun hi1 => ?_) (fun hi1 => ?_)
 ·replace hF := ite_t hi1 hF
  obtain ⟨⟨v1, v2, v3, v4⟩, H⟩ := H.openX 0 rfl
  replace H : Hf I D w I w [BxC b_p 60 [v1, v2, .int .i64 (p.boot.getD 0 0), .int .i64 (p.boot.getD 1 0), v3, v4, .int .i64 (p.sent.getD 0 0), .int .i64 (p.sent.getD 1 0), .int .i64 (p.told.getD 0 0), .int .i64 (p.told.getD 1 0), .bool p.ok], PtC OElink_Link v1 (p.l.getD 0 none), PtC OElink_Link v2 (p.l.getD 1 none), OwC NESeg 31 v3 p.way, OwC Ni64 3 v4 p.to_] := H
  rcases optE_in hF with ⟨ho1, hF⟩ | ⟨x, ho1, hF⟩
  ·obtain ⟨hv, H⟩ := H.optN 1 rfl ho1
   subst hv
   replace H : Hf I D w I w [BxC b_p 60 [.pointer none, v2, .int .i64 (p.boot.getD 0 0), .int .i64 (p.boot.getD 1 0), v3, v4, .int .i64 (p.sent.getD 0 0), .int .i64 (p.sent.getD 1 0), .int .i64 (p.told.getD 0 0), .int .i64 (p.told.getD 1 0), .bool p.ok], PtC OElink_Link v2 (p.l.getD 1 none), OwC NESeg 31 v3 p.way, OwC Ni64 3 v4 p.to_] := H
   obtain ⟨n0, hx1, hF⟩ := bnd_in hF
   refine f_region Z ?_; clear Z; intro Z
   refine s_runk tLinkH Z 4 rfl rfl ?_; clear Z a; intro a Z
   refine s_ob Z (v := .pointer (some ⟨b_p, 0, none⟩)) rfl rfl (by decide) rfl (Ob_apix (m := 1) 0 rfl rfl rfl Try.underlying56 (by kernel_rfl) (eq_of_beq hi1) (by decide)) ?_; clear Z a; intro a Z
   refine s_ob Z (v := .pointer none) rfl rfl (by decide) rfl (Ob_load tLinkH rfl rfl rfl ((H.bx 0 rfl).cell 0 rfl)) ?_; clear Z a; intro a Z
   refine s_runk tLinkH Z 1 rfl rfl ?_; clear Z a; intro a Z
   refine h_call Z H (js := []) rfl (caps := #[]) fn_13_YLinkH rfl rfl rfl rfl rfl (by decide) rfl rfl (fun D1 hS => have hq := c_link_Link_Out_nil hx1 hS; hq) ?_; clear Z a; intro vv a w1 D2 hr hF2 Z
   obtain ⟨q1, hvv, I1, K⟩ := hr; obtain rfl := hvv.symm
   have H : Hf I D w I1 w1 [SlC NESeg q1 n0, BxC b_p 60 [.pointer none, v2, .int .i64 (p.boot.getD 0 0), .int .i64 (p.boot.getD 1 0), v3, v4, .int .i64 (p.sent.getD 0 0), .int .i64 (p.sent.getD 1 0), .int .i64 (p.told.getD 0 0), .int .i64 (p.told.getD 1 0), .bool p.ok], PtC OElink_Link v2 (p.l.getD 1 none), OwC NESeg 31 v3 p.way, OwC Ni64 3 v4 p.to_] := hF2 K
   clear hF2 K
   refine s_runk tLinkH Z 1 rfl rfl ?_; clear Z a; intro a Z
   refine s_end Z [0, 1, 6] rfl ?_; clear Z; intro Z
   refine p_then (wp_seq (f_region Z ?_)); clear Z; intro Z
   refine s_runk tLinkH Z 1 rfl rfl ?_; clear Z a; intro a Z
   refine s_end Z [0, 1, 6, 7] rfl ?_; clear Z; intro Z
   refine p_then (wp_block ?_)
   replace H : Hf I D w I1 w1 [PtC OElink_Link (.pointer none) none, SlC NESeg q1 n0, BxC b_p 60 [.pointer none, v2, .int .i64 (p.boot.getD 0 0), .int .i64 (p.boot.getD 1 0), v3, v4, .int .i64 (p.sent.getD 0 0), .int .i64 (p.sent.getD 1 0), .int .i64 (p.told.getD 0 0), .int .i64 (p.told.getD 1 0), .bool p.ok], PtC OElink_Link v2 (p.l.getD 1 none), OwC NESeg 31 v3 p.way, OwC Ni64 3 v4 p.to_] := H.mkN OElink_Link
   replace H : Hf I D w I1 w1 [OElaw22_pair b_p ({ p with l := [none, (p.l.getD 1 none)] } : Elaw22_pair), SlC NESeg q1 n0] := H.shutX (.pointer none, v2, v3, v4) [(2, false), (0, false), (1, false), (1, false), (1, false)] rfl
   refine f_iter hF (fun sg a' w' => match sg with | (i, p_2) => Sl 58 [(0, .pointer (some ⟨b_p, 0, none⟩)), (1, .int .i64 side), (6, q1), (7, .int .i64 i)] a' ∧ ∃ I2, Hf I D w I2 w' [OElaw22_pair b_p p_2, SlC NESeg q1 n0]) ⟨Z.sub (ts := [0, 1, 6, 7]) rfl, ⟨I1, (H.sub [(0, false), (0, true)] rfl).eq rfl⟩⟩ ?_
   clear Z H hF a
   rintro rc ⟨i, p_2⟩ a w2 ⟨Z, I2, H⟩ hF
   unfold F_law22_pair_out_l1 at hF
   try dsimp only at hF
   refine wp_seq ?_
   refine wp_seq (f_region Z ?_); clear Z; intro Z
   refine s_runk tLinkH Z 2 rfl rfl ?_; clear Z a; intro a Z
   refine s_ob Z (v := .int .i64 (n0.length : Int)) rfl rfl (by decide) rfl (Ob_slen tLinkH rfl rfl rfl (H.slshape 1 rfl)) ?_; clear Z a; intro a Z
   refine s_runk tLinkH Z 2 rfl rfl ?_; clear Z a; intro a Z
   refine g_ob Z (p := (decide (i < (n0.length : Int)))) (v := .int .i64 i) (S' := [(7, .int .i64 i)]) rfl rfl rfl (wantB_t _) rfl (by decide) (fun hp hS => hS.sub (ts := [7]) rfl) (fun hp => Ob_c tLinkH rfl) ?_; clear Z a; intro a Z
   refine g_ob Z (p := (decide (i < (n0.length : Int)))) (v := .bool (decide (i < 9))) (S' := [(21, .int .i64 i)]) rfl rfl rfl (wantB_t _) rfl (by decide) (fun hp hS => (hS.conv (t := 21) rfl (cond_t hp)).sub (ts := [21]) rfl) (fun hp => Ob_c tLinkH rfl) ?_; clear Z a; intro a Z
   refine s_ob Z (v := .bool ((decide (i < (n0.length : Int))) && (decide (i < 9)))) rfl rfl (by decide) rfl (Ob_pick rfl rfl rfl rfl (pick_and _ _)) ?_; clear Z a; intro a Z
   refine s_runk tLinkH Z 1 rfl rfl ?_; clear Z a; intro a Z
   refine g_ob Z (p := ((decide (i < (n0.length : Int))) && (decide (i < 9)))) (v := .pointer (some ⟨b_p, 0, none⟩)) (S' := [(0, .pointer (some ⟨b_p, 0, none⟩))]) rfl rfl rfl (wantB_t _) rfl (by decide) (fun hp hS => hS.sub (ts := [0]) rfl) (fun hp => Ob_c tLinkH rfl) ?_; clear Z a; intro a Z
   refine g_ob Z (p := ((decide (i < (n0.length : Int))) && (decide (i < 9)))) (v := .pointer (some ⟨b_p, 0, none⟩)) (S' := [(25, .pointer (some ⟨b_p, 0, none⟩))]) rfl rfl rfl (wantB_t _) rfl (by decide) (fun hp hS => (hS.conv (t := 25) rfl (cond_t hp)).sub (ts := [25]) rfl) (fun hp => Ob_c tLinkH rfl) ?_; clear Z a; intro a Z
   refine g_ob Z (p := ((decide (i < (n0.length : Int))) && (decide (i < 9)))) (v := .pointer (some ⟨b_p, 4, none⟩)) (S' := [(26, .pointer (some ⟨b_p, 0, none⟩))]) rfl rfl rfl (wantB_t _) rfl (by decide) (fun hp hS => (hS.conv (t := 26) rfl (cond_t hp)).sub (ts := [26]) rfl) (fun hp => Ob_c tLinkH rfl) ?_; clear Z a; intro a Z
   obtain ⟨⟨v5, v6, v7, v8⟩, H⟩ := H.openX 0 rfl
   replace H : Hf I D w I2 w2 [BxC b_p 60 [v5, v6, .int .i64 (p_2.boot.getD 0 0), .int .i64 (p_2.boot.getD 1 0), v7, v8, .int .i64 (p_2.sent.getD 0 0), .int .i64 (p_2.sent.getD 1 0), .int .i64 (p_2.told.getD 0 0), .int .i64 (p_2.told.getD 1 0), .bool p_2.ok], PtC OElink_Link v5 (p_2.l.getD 0 none), PtC OElink_Link v6 (p_2.l.getD 1 none), OwC NESeg 31 v7 p_2.way, OwC Ni64 3 v8 p_2.to_, SlC NESeg q1 n0] := H
   refine g_ob Z (p := ((decide (i < (n0.length : Int))) && (decide (i < 9)))) (v := v7) (S' := [(27, .pointer (some ⟨b_p, 4, none⟩))]) rfl rfl rfl (wantB_t _) rfl (by decide) (fun hp hS => (hS.conv (t := 27) rfl (cond_t hp)).sub (ts := [27]) rfl) (fun hp => Ob_load tLinkH rfl rfl rfl ((H.bx 0 rfl).cell 4 rfl)) ?_; clear Z a; intro a Z
   refine g_ob Z (p := ((decide (i < (n0.length : Int))) && (decide (i < 9)))) (v := .int .i64 (p_2.way.length : Int)) (S' := [(28, v7)]) rfl rfl rfl (wantB_t _) rfl (by decide) (fun hp hS => (hS.conv (t := 28) rfl (cond_t hp)).sub (ts := [28]) rfl) (fun hp => Ob_slen tLinkH rfl rfl rfl (H.owshape 3 rfl)) ?_; clear Z a; intro a Z
   refine g_ob Z (p := ((decide (i < (n0.length : Int))) && (decide (i < 9)))) (v := .bool (decide ((p_2.way.length : Int) < 200))) (S' := [(29, .int .i64 (p_2.way.length : Int))]) rfl rfl rfl (wantB_t _) rfl (by decide) (fun hp hS => (hS.conv (t := 29) rfl (cond_t hp)).sub (ts := [29]) rfl) (fun hp => Ob_c tLinkH rfl) ?_; clear Z a; intro a Z
   refine s_ob Z (v := .bool (((decide (i < (n0.length : Int))) && (decide (i < 9))) && (decide ((p_2.way.length : Int) < 200)))) rfl rfl (by decide) rfl (Ob_pick rfl rfl rfl rfl (pick_and _ _)) ?_; clear Z a; intro a Z
   refine s_end Z [0, 1, 6, 7, 16, 17, 18, 19, 20, 23, 24, 31] rfl ?_; clear Z; intro Z
   refine p_then ?_
   refine f_cond Z rfl (fun hc1 => ?_) (fun hc1 => ?_)
   ·replace hF := ite_t hc1 hF
    refine wp_skip ?_
    refine p_then (wp_seq ?_)
    refine wp_block ?_
    refine wp_seq ?_
    obtain ⟨hg1, hF⟩ := chk_in hF
    obtain ⟨hg2, hF⟩ := chk_in hF
    refine f_regionL Z (by kernel_rfl) (by kernel_rfl) (by decide) (by decide) [9, 10, 13] [(0, 0, 2), (0, 0, 1), (2, 0, 1), (6, 0, 1), (14, 0, 1), (0, 0, 0), (0, 0, 0), (96, 0, 0), (224, 0, 0), (480, 0, 0), (1022, 1, 1), (2047, 2, 2), (4095, 2, 2), (8191, 2, 2)] (by kernel_rfl) (fun jj vv => cond (Nat.blt jj 7) (cond (Nat.blt jj 3) (cond (Nat.blt jj 1) (vv = .pointer (some ⟨b_p, 0, none⟩)) (cond (Nat.blt jj 2) (vv = .pointer (some ⟨b_p, 0, none⟩)) (vv = .pointer (some ⟨b_p, 0, none⟩)))) (cond (Nat.blt jj 5) (cond (Nat.blt jj 4) (vv = .pointer (some ⟨b_p, 4, none⟩)) (vv = v7)) (cond (Nat.blt jj 6) (vv = q1) (vv = .int .i64 i)))) (cond (Nat.blt jj 10) (cond (Nat.blt jj 8) (vv = .pointer (some ⟨blkOf q1, oofOf q1 + (i).toNat * 8, none⟩)) (cond (Nat.blt jj 9) (vv = .agg #[.int .i64 ((n0.getD (i).toNat default).boot), .int .i64 ((n0.getD (i).toNat default).stream), .int .i64 ((n0.getD (i).toNat default).seq), .int .i64 ((n0.getD (i).toNat default).ackBoot), .int .i64 ((n0.getD (i).toNat default).ackStream), .int .i64 ((n0.getD (i).toNat default).ackSeq), .bool ((n0.getD (i).toNat default).has), .string ((n0.getD (i).toNat default).body)]) (vv = .slice (some ⟨blkOf vv, 0, none⟩) 1 1))) (cond (Nat.blt jj 12) (cond (Nat.blt jj 11) (True) (vv = .pointer (some ⟨b_p, 0, none⟩))) (cond (Nat.blt jj 13) (vv = .pointer (some ⟨b_p, 4, none⟩)) (True))))) (fun ss vals1 xw => match ss with | 0 => Gx I D w I2 w2 xw [BxC b_p 60 [v5, v6, .int .i64 (p_2.boot.getD 0 0), .int .i64 (p_2.boot.getD 1 0), v7, v8, .int .i64 (p_2.sent.getD 0 0), .int .i64 (p_2.sent.getD 1 0), .int .i64 (p_2.told.getD 0 0), .int .i64 (p_2.told.getD 1 0), .bool p_2.ok], PtC OElink_Link v5 (p_2.l.getD 0 none), PtC OElink_Link v6 (p_2.l.getD 1 none), OwC NESeg 31 v7 p_2.way, OwC Ni64 3 v8 p_2.to_, SlC NESeg q1 n0] | 1 => Gx I D w I2 w2 xw [BxC (blkOf (vals1 9)) 31 [.int .i64 ((n0.getD (i).toNat default).boot), .int .i64 ((n0.getD (i).toNat default).stream), .int .i64 ((n0.getD (i).toNat default).seq), .int .i64 ((n0.getD (i).toNat default).ackBoot), .int .i64 ((n0.getD (i).toNat default).ackStream), .int .i64 ((n0.getD (i).toNat default).ackSeq), .bool ((n0.getD (i).toNat default).has), .string ((n0.getD (i).toNat default).body)], BxC b_p 60 [v5, v6, .int .i64 (p_2.boot.getD 0 0), .int .i64 (p_2.boot.getD 1 0), v7, v8, .int .i64 (p_2.sent.getD 0 0), .int .i64 (p_2.sent.getD 1 0), .int .i64 (p_2.told.getD 0 0), .int .i64 (p_2.told.getD 1 0), .bool p_2.ok], PtC OElink_Link v5 (p_2.l.getD 0 none), PtC OElink_Link v6 (p_2.l.getD 1 none), OwC NESeg 31 v7 p_2.way, OwC Ni64 3 v8 p_2.to_, SlC NESeg q1 n0] | 2 => Gx I D w I2 w2 xw [OwC NESeg 31 (vals1 10) (p_2.way ++ [(n0.getD (i).toNat default)]), BxC b_p 60 [v5, v6, .int .i64 (p_2.boot.getD 0 0), .int .i64 (p_2.boot.getD 1 0), v7, v8, .int .i64 (p_2.sent.getD 0 0), .int .i64 (p_2.sent.getD 1 0), .int .i64 (p_2.told.getD 0 0), .int .i64 (p_2.told.getD 1 0), .bool p_2.ok], PtC OElink_Link v5 (p_2.l.getD 0 none), PtC OElink_Link v6 (p_2.l.getD 1 none), OwC Ni64 3 v8 p_2.to_, SlC NESeg q1 n0] | _ => Gx I D w I2 w2 xw [BxC b_p 60 [v5, v6, .int .i64 (p_2.boot.getD 0 0), .int .i64 (p_2.boot.getD 1 0), (vals1 10), v8, .int .i64 (p_2.sent.getD 0 0), .int .i64 (p_2.sent.getD 1 0), .int .i64 (p_2.told.getD 0 0), .int .i64 (p_2.told.getD 1 0), .bool p_2.ok], OwC NESeg 31 (vals1 10) (p_2.way ++ [(n0.getD (i).toNat default)]), PtC OElink_Link v5 (p_2.l.getD 0 none), PtC OElink_Link v6 (p_2.l.getD 1 none), OwC Ni64 3 v8 p_2.to_, SlC NESeg q1 n0]) (fun _ => Gx.start H) ?_ ?_
    ·intro fr hfr hfe
     refine .cons (fun ss hlo hhi vals1 xw hG hV => ?_) ?_
     ·obtain rfl | rfl | rfl : ss = 0 ∨ ss = 1 ∨ ss = 2 := st2 hlo hhi
      all_goals
      ·rw [← hfe]
       have hS := (hfr vals1).sub (ts := [0]) (S' := [(0, .pointer (some ⟨b_p, 0, none⟩))]) rfl
       exact L_val hS rfl (Ob_c tLinkH rfl) ⟨rfl, hG⟩
     refine .cons (fun ss hlo hhi vals1 xw hG hV => ?_) ?_
     ·obtain rfl | rfl : ss = 0 ∨ ss = 1 := st1 hlo hhi
      all_goals
      ·rw [← hfe]
       have hS := (hfr vals1).sub (ts := [0]) (S' := [(0, .pointer (some ⟨b_p, 0, none⟩))]) rfl
       exact L_val hS rfl (Ob_c tLinkH rfl) ⟨rfl, hG⟩
     refine .cons (fun ss hlo hhi vals1 xw hG hV => ?_) ?_
     ·obtain rfl | rfl : ss = 0 ∨ ss = 1 := st1 hlo hhi
      all_goals
      ·rw [← hfe]
       have hS := (hfr vals1).sub (ts := [35]) (S' := [(35, vals1 1)]) rfl
       replace hS := hS.conv (t := 35) rfl (show (vals1 1) = .pointer (some ⟨b_p, 0, none⟩) from hV 1 (by decide))
       exact L_val hS rfl (Ob_c tLinkH rfl) ⟨rfl, hG⟩
     refine .cons (fun ss hlo hhi vals1 xw hG hV => ?_) ?_
     ·obtain rfl | rfl : ss = 0 ∨ ss = 1 := st1 hlo hhi
      all_goals
      ·rw [← hfe]
       have hS := (hfr vals1).sub (ts := [36]) (S' := [(36, vals1 2)]) rfl
       replace hS := hS.conv (t := 36) rfl (show (vals1 2) = .pointer (some ⟨b_p, 0, none⟩) from hV 2 (by decide))
       exact L_val hS rfl (Ob_c tLinkH rfl) ⟨rfl, hG⟩
     refine .cons (fun ss hlo hhi vals1 xw hG hV => ?_) ?_
     ·obtain rfl | rfl : ss = 0 ∨ ss = 1 := st1 hlo hhi
      ·rw [← hfe]
       have hS := (hfr vals1).sub (ts := [37]) (S' := [(37, vals1 3)]) rfl
       replace hS := hS.conv (t := 37) rfl (show (vals1 3) = .pointer (some ⟨b_p, 4, none⟩) from hV 3 (by decide))
       obtain ⟨I2, hI2, H⟩ := Gx.ex hG
       exact L_val hS rfl (Ob_load tLinkH rfl rfl rfl ((H.bx 0 rfl).cell 4 rfl)) ⟨rfl, hG⟩
      ·rw [← hfe]
       have hS := (hfr vals1).sub (ts := [37]) (S' := [(37, vals1 3)]) rfl
       replace hS := hS.conv (t := 37) rfl (show (vals1 3) = .pointer (some ⟨b_p, 4, none⟩) from hV 3 (by decide))
       obtain ⟨I2, hI2, H⟩ := Gx.ex hG
       exact L_val hS rfl (Ob_load tLinkH rfl rfl rfl ((H.bx 1 rfl).cell 4 rfl)) ⟨rfl, hG⟩
     refine .cons (fun ss hlo hhi vals1 xw hG hV => ?_) ?_
     ·obtain rfl : ss = 0 := Nat.le_antisymm hhi hlo
      rw [← hfe]
      have hS := (hfr vals1).sub (ts := [6]) (S' := [(6, q1)]) rfl
      exact L_val hS rfl (Ob_c tLinkH rfl) ⟨rfl, hG⟩
     refine .cons (fun ss hlo hhi vals1 xw hG hV => ?_) ?_
     ·obtain rfl : ss = 0 := Nat.le_antisymm hhi hlo
      rw [← hfe]
      have hS := (hfr vals1).sub (ts := [7]) (S' := [(7, .int .i64 i)]) rfl
      exact L_val hS rfl (Ob_c tLinkH rfl) ⟨rfl, hG⟩
     refine .cons (fun ss hlo hhi vals1 xw hG hV => ?_) ?_
     ·obtain rfl : ss = 0 := Nat.le_antisymm hhi hlo
      rw [← hfe]
      have hS := (hfr vals1).sub (ts := [39, 40]) (S' := [(39, vals1 5), (40, vals1 6)]) rfl
      replace hS := hS.conv (t := 39) rfl (show (vals1 5) = q1 from hV 5 (by decide))
      replace hS := hS.conv (t := 40) rfl (show (vals1 6) = .int .i64 i from hV 6 (by decide))
      obtain ⟨I2, hI2, H⟩ := Gx.ex hG
      exact L_val hS rfl (Ob_sidx tLinkH rfl rfl rfl rfl (slPl (H.sl 5 rfl) hg1) hg1) ⟨rfl, hG⟩
     refine .cons (fun ss hlo hhi vals1 xw hG hV => ?_) ?_
     ·obtain rfl : ss = 0 := Nat.le_antisymm hhi hlo
      rw [← hfe]
      have hS := (hfr vals1).sub (ts := [41]) (S' := [(41, vals1 7)]) rfl
      replace hS := hS.conv (t := 41) rfl (show (vals1 7) = .pointer (some ⟨blkOf q1, oofOf q1 + (i).toNat * 8, none⟩) from hV 7 (by decide))
      obtain ⟨I2, hI2, H⟩ := Gx.ex hG
      exact L_val hS rfl (Ob_loads tLinkH rfl rfl rfl ((slFl (H.sl 5 rfl) hg1).part 0 rfl)) ⟨rfl, hG⟩
     refine .cons (fun ss hlo hhi vals1 xw hG hV => ?_) ?_
     ·obtain rfl : ss = 0 := Nat.le_antisymm hhi hlo
      rw [← hfe]
      have hS := (hfr vals1).sub (ts := [42]) (S' := [(42, vals1 8)]) rfl
      replace hS := hS.conv (t := 42) rfl (show (vals1 8) = .agg #[.int .i64 ((n0.getD (i).toNat default).boot), .int .i64 ((n0.getD (i).toNat default).stream), .int .i64 ((n0.getD (i).toNat default).seq), .int .i64 ((n0.getD (i).toNat default).ackBoot), .int .i64 ((n0.getD (i).toNat default).ackStream), .int .i64 ((n0.getD (i).toNat default).ackSeq), .bool ((n0.getD (i).toNat default).has), .string ((n0.getD (i).toNat default).body)] from hV 8 (by decide))
      obtain ⟨I2, hI2, H⟩ := Gx.ex hG
      exact L_bslice H (vs := [(0, .agg #[.int .i64 ((n0.getD (i).toNat default).boot), .int .i64 ((n0.getD (i).toNat default).stream), .int .i64 ((n0.getD (i).toNat default).seq), .int .i64 ((n0.getD (i).toNat default).ackBoot), .int .i64 ((n0.getD (i).toNat default).ackStream), .int .i64 ((n0.getD (i).toNat default).ackSeq), .bool ((n0.getD (i).toNat default).has), .string ((n0.getD (i).toNat default).body)])]) (cl := [.int .i64 ((n0.getD (i).toNat default).boot), .int .i64 ((n0.getD (i).toNat default).stream), .int .i64 ((n0.getD (i).toNat default).seq), .int .i64 ((n0.getD (i).toNat default).ackBoot), .int .i64 ((n0.getD (i).toNat default).ackStream), .int .i64 ((n0.getD (i).toNat default).ackSeq), .bool ((n0.getD (i).toNat default).has), .string ((n0.getD (i).toNat default).body)]) (e := 31) hS rfl rfl rfl (fun w => run_bslice (z := .agg #[.int .i64 0, .int .i64 0, .int .i64 0, .int .i64 0, .int .i64 0, .int .i64 0, .bool false, .string ByteArray.empty]) (m := 8) Try.underlying37 (by kernel_rfl) rfl rfl (by decide) (by simp [Instr.fill, Value.cells]) w) fun yw b hK H => ⟨rfl, Gx.go hG hI2 hK (fun _ h => h) H⟩
     refine .cons (fun ss hlo hhi vals1 xw hG hV => ?_) ?_
     ·obtain rfl : ss = 1 := Nat.le_antisymm hhi hlo
      rw [← hfe]
      have hS := (hfr vals1).sub (ts := [38, 43]) (S' := [(38, vals1 4), (43, vals1 9)]) rfl
      replace hS := hS.conv (t := 38) rfl (show (vals1 4) = v7 from hV 4 (by decide))
      replace hS := hS.conv (t := 43) rfl (show (vals1 9) = .slice (some ⟨blkOf (vals1 9), 0, none⟩) 1 1 from hV 9 (by decide))
      obtain ⟨I2, hI2, H⟩ := Gx.ex hG
      exact L_appO H 4 E_37_YLinkH [(n0.getD (i).toNat default)] rfl rfl hS rfl rfl rfl rfl (slRep2.box1 (H.bx 0 rfl) ⟨rfl, trivial⟩) hg2 (by decide) fun v yw hK H => ⟨trivial, Gx.go hG hI2 hK (fun _ h => h) (H.sub [(0, false), (1, false), (1, false), (1, false), (1, false), (1, true)] rfl)⟩
     refine .cons (fun ss hlo hhi vals1 xw hG hV => ?_) ?_
     ·obtain rfl : ss = 2 := Nat.le_antisymm hhi hlo
      rw [← hfe]
      have hS := (hfr vals1).sub (ts := [34]) (S' := [(34, vals1 0)]) rfl
      replace hS := hS.conv (t := 34) rfl (show (vals1 0) = .pointer (some ⟨b_p, 0, none⟩) from hV 0 (by decide))
      exact L_val hS rfl (Ob_c tLinkH rfl) ⟨rfl, hG⟩
     refine .cons (fun ss hlo hhi vals1 xw hG hV => ?_) ?_
     ·obtain rfl : ss = 2 := Nat.le_antisymm hhi hlo
      rw [← hfe]
      have hS := (hfr vals1).sub (ts := [45]) (S' := [(45, vals1 11)]) rfl
      replace hS := hS.conv (t := 45) rfl (show (vals1 11) = .pointer (some ⟨b_p, 0, none⟩) from hV 11 (by decide))
      exact L_val hS rfl (Ob_c tLinkH rfl) ⟨rfl, hG⟩
     refine .cons (fun ss hlo hhi vals1 xw hG hV => ?_) ?_
     ·obtain rfl : ss = 2 := Nat.le_antisymm hhi hlo
      rw [← hfe]
      have hS := (hfr vals1).sub (ts := [46, 44]) (S' := [(46, vals1 12), (44, vals1 10)]) rfl
      replace hS := hS.conv (t := 46) rfl (show (vals1 12) = .pointer (some ⟨b_p, 4, none⟩) from hV 12 (by decide))
      obtain ⟨I2, hI2, H⟩ := Gx.ex hG
      exact L_store tLinkH H 1 rfl hS rfl rfl rfl rfl rfl (slS.cells (H.owshape 0 rfl)) rfl rfl (one_cons (slS.one (H.owshape 0 rfl)) one_nil) (Nat.le_of_ble_eq_true rfl) rfl fun yw hK H => ⟨trivial, Gx.go hG hI2 hK (fun _ h => h) H⟩
     exact .nil
    ·intro vals1 a w3 Z hG hV
     replace Z := Z.sub (ts := [0, 1, 6, 7, 16, 17, 18, 19, 20, 23, 24, 31, 34, 35, 36, 37, 38, 39, 40, 41, 42, 43, 44, 45, 46]) (S' := [(0, .pointer (some ⟨b_p, 0, none⟩)), (1, .int .i64 side), (6, q1), (7, .int .i64 i), (16, .int .i64 i), (17, q1), (18, .int .i64 (n0.length : Int)), (19, .bool (decide (i < (n0.length : Int)))), (20, .bool (decide (i < (n0.length : Int)))), (23, .bool ((decide (i < (n0.length : Int))) && (decide (i < 9)))), (24, .bool ((decide (i < (n0.length : Int))) && (decide (i < 9)))), (31, .bool (((decide (i < (n0.length : Int))) && (decide (i < 9))) && (decide ((p_2.way.length : Int) < 200)))), (34, vals1 0), (35, vals1 1), (36, vals1 2), (37, vals1 3), (38, vals1 4), (39, vals1 5), (40, vals1 6), (41, vals1 7), (42, vals1 8), (43, vals1 9), (44, vals1 10), (45, vals1 11), (46, vals1 12)]) rfl
     replace Z := Z.conv (t := 34) rfl (show (vals1 0) = .pointer (some ⟨b_p, 0, none⟩) from hV 0 (by decide))
     replace Z := Z.conv (t := 35) rfl (show (vals1 1) = .pointer (some ⟨b_p, 0, none⟩) from hV 1 (by decide))
     replace Z := Z.conv (t := 36) rfl (show (vals1 2) = .pointer (some ⟨b_p, 0, none⟩) from hV 2 (by decide))
     replace Z := Z.conv (t := 37) rfl (show (vals1 3) = .pointer (some ⟨b_p, 4, none⟩) from hV 3 (by decide))
     replace Z := Z.conv (t := 38) rfl (show (vals1 4) = v7 from hV 4 (by decide))
     replace Z := Z.conv (t := 39) rfl (show (vals1 5) = q1 from hV 5 (by decide))
     replace Z := Z.conv (t := 40) rfl (show (vals1 6) = .int .i64 i from hV 6 (by decide))
     replace Z := Z.conv (t := 41) rfl (show (vals1 7) = .pointer (some ⟨blkOf q1, oofOf q1 + (i).toNat * 8, none⟩) from hV 7 (by decide))
     replace Z := Z.conv (t := 42) rfl (show (vals1 8) = .agg #[.int .i64 ((n0.getD (i).toNat default).boot), .int .i64 ((n0.getD (i).toNat default).stream), .int .i64 ((n0.getD (i).toNat default).seq), .int .i64 ((n0.getD (i).toNat default).ackBoot), .int .i64 ((n0.getD (i).toNat default).ackStream), .int .i64 ((n0.getD (i).toNat default).ackSeq), .bool ((n0.getD (i).toNat default).has), .string ((n0.getD (i).toNat default).body)] from hV 8 (by decide))
     replace Z := Z.conv (t := 43) rfl (show (vals1 9) = .slice (some ⟨blkOf (vals1 9), 0, none⟩) 1 1 from hV 9 (by decide))
     replace Z := Z.conv (t := 45) rfl (show (vals1 11) = .pointer (some ⟨b_p, 0, none⟩) from hV 11 (by decide))
     replace Z := Z.conv (t := 46) rfl (show (vals1 12) = .pointer (some ⟨b_p, 4, none⟩) from hV 12 (by decide))
     obtain ⟨I3, _, H⟩ := Gx.ex hG
     clear hG hV
     replace Z := Z.sub (ts := [0, 1, 6, 7, 16, 17, 18, 19, 20, 23, 24, 31, 34, 35, 36, 37, 38, 39, 40, 41, 42, 43, 44, 45, 46]) rfl
     replace H : Hf I D w I3 w3 [BxC b_p 60 [v5, v6, .int .i64 (p_2.boot.getD 0 0), .int .i64 (p_2.boot.getD 1 0), (vals1 10), v8, .int .i64 (p_2.sent.getD 0 0), .int .i64 (p_2.sent.getD 1 0), .int .i64 (p_2.told.getD 0 0), .int .i64 (p_2.told.getD 1 0), .bool p_2.ok], OwC NESeg 31 (vals1 10) (p_2.way ++ [(n0.getD (i).toNat default)]), PtC OElink_Link v5 (p_2.l.getD 0 none), PtC OElink_Link v6 (p_2.l.getD 1 none), OwC Ni64 3 v8 p_2.to_, SlC NESeg q1 n0] := H
     refine p_then ?_
     obtain ⟨hg3, hF⟩ := chk_in hF
     obtain ⟨hg4, hF⟩ := chk_in hF
     refine f_region Z ?_; clear Z; intro Z
     refine s_runk tLinkH Z 4 rfl rfl ?_; clear Z a; intro a Z
     refine s_ob Z (v := v8) rfl rfl (by decide) rfl (Ob_load tLinkH rfl rfl rfl ((H.bx 0 rfl).cell 5 rfl)) ?_; clear Z a; intro a Z
     refine s_runk tLinkH Z 1 rfl rfl ?_; clear Z a; intro a Z
     refine s_ob Z (v := .int .i64 (1 - side)) rfl rfl (by decide) rfl (Ob_sub rfl rfl rfl (wrI hg3)) ?_; clear Z a; intro a Z
     refine h_bslice Z H (vs := [(0, .int .i64 (1 - side))]) (cl := [.int .i64 (1 - side)]) (e := 3) rfl rfl rfl (by decide) rfl rfl (fun w => run_bslice (z := .int .i64 0) (m := 1) Try.underlying58 (by kernel_rfl) rfl rfl (by decide) (by simp [Instr.fill, Value.cells]) w) ?_; clear Z a H; intro a w4 b2 H Z
     refine h_appO Z H 5 E_58_YLinkH [1 - side] rfl rfl rfl rfl rfl (by decide) rfl rfl rfl (slRep2.box1 (H.bx 0 rfl) ⟨rfl, trivial⟩) hg4 (by decide) ?_; clear Z a H; intro v9 a w5 H Z
     dsimp only [List.eraseIdx] at H
     replace H : Hf I D w I3 w5 [OwC Ni64 3 v9 (p_2.to_ ++ [1 - side]), BxC b_p 60 [v5, v6, .int .i64 (p_2.boot.getD 0 0), .int .i64 (p_2.boot.getD 1 0), (vals1 10), v8, .int .i64 (p_2.sent.getD 0 0), .int .i64 (p_2.sent.getD 1 0), .int .i64 (p_2.told.getD 0 0), .int .i64 (p_2.told.getD 1 0), .bool p_2.ok], OwC NESeg 31 (vals1 10) (p_2.way ++ [(n0.getD (i).toNat default)]), PtC OElink_Link v5 (p_2.l.getD 0 none), PtC OElink_Link v6 (p_2.l.getD 1 none), SlC NESeg q1 n0] := H.sub [(0, false), (1, false), (1, false), (1, false), (1, false), (1, true)] rfl
     refine s_runk tLinkH Z 2 rfl rfl ?_; clear Z a; intro a Z
     refine h_store tLinkH Z H 1 rfl rfl rfl rfl rfl rfl (slS.cells (H.owshape 0 rfl)) rfl rfl (one_cons (slS.one (H.owshape 0 rfl)) one_nil) (Nat.le_of_ble_eq_true rfl) rfl ?_; clear H; intro w6 H
     dsimp only [List.eraseIdx] at H
     refine s_end Z [0, 1, 6, 7, 16, 17, 18, 19, 20, 23, 24, 31, 34, 35, 36, 37, 38, 39, 40, 41, 42, 43, 44, 45, 46, 47, 48, 49, 50, 51, 52, 53, 54, 55, 56, 57] rfl ?_; clear Z; intro Z
     refine p_blk ?_
     refine p_then ?_
     obtain ⟨hg5, hF⟩ := chk_in hF
     refine f_region Z ?_; clear Z; intro Z
     refine s_runk tLinkH Z 1 rfl rfl ?_; clear Z a; intro a Z
     refine s_ob Z (v := .int .i64 (i + 1)) rfl rfl (by decide) rfl (Ob_add rfl rfl rfl (wrI hg5)) ?_; clear Z a; intro a Z
     refine s_runk tLinkH Z 1 rfl rfl ?_; clear Z a; intro a Z
     refine s_end Z [0, 1, 6, 7, 16, 17, 18, 19, 20, 23, 24, 31, 34, 35, 36, 37, 38, 39, 40, 41, 42, 43, 44, 45, 46, 47, 48, 49, 50, 51, 52, 53, 54, 55, 56, 57, 32, 33] rfl ?_; clear Z; intro Z
     refine p_then ?_
     replace H : Hf I D w I3 w6 [OElaw22_pair b_p ({ p_2 with way := p_2.way ++ [(n0.getD (i).toNat default)], to_ := p_2.to_ ++ [1 - side] } : Elaw22_pair), SlC NESeg q1 n0] := H.shutX (v5, v6, (vals1 10), v9) [(0, false), (2, false), (2, false), (1, false), (0, false)] rfl
     exact ⟨(i + 1, ({ p_2 with way := p_2.way ++ [(n0.getD (i).toNat default)], to_ := p_2.to_ ++ [1 - side] } : Elaw22_pair)), ⟨Z.sub (ts := [0, 1, 6, 7]) rfl, ⟨I3, (H.sub [(0, false), (0, true)] rfl).eq rfl⟩⟩, hF⟩
   ·replace hF := ite_f hc1 hF
    refine wp_exit ?_
    refine p_then_x ?_
    refine p_then_x ?_
    refine f_exit_here ?_
    replace H : Hf I D w I2 w2 [OElaw22_pair b_p p_2, SlC NESeg q1 n0] := H.shutX (v5, v6, v7, v8) [(0, false), (0, false), (0, false), (0, false), (0, false)] rfl
    obtain rfl := some_in hF
    exact f_fall Z (run_results0 rfl) ⟨rfl, I2, (H.sub [(0, false)] rfl).eq rfl⟩
  ·obtain ⟨b1, hv, H⟩ := H.optS 1 rfl ho1
   subst hv
   replace H : Hf I D w I w [OElink_Link b1 x, BxC b_p 60 [.pointer (some ⟨b1, 0, none⟩), v2, .int .i64 (p.boot.getD 0 0), .int .i64 (p.boot.getD 1 0), v3, v4, .int .i64 (p.sent.getD 0 0), .int .i64 (p.sent.getD 1 0), .int .i64 (p.told.getD 0 0), .int .i64 (p.told.getD 1 0), .bool p.ok], PtC OElink_Link v2 (p.l.getD 1 none), OwC NESeg 31 v3 p.way, OwC Ni64 3 v4 p.to_] := H
   obtain ⟨o, hx2, hF⟩ := bnd_in hF
   refine f_region Z ?_; clear Z; intro Z
   refine s_runk tLinkH Z 4 rfl rfl ?_; clear Z a; intro a Z
   refine s_ob Z (v := .pointer (some ⟨b_p, 0, none⟩)) rfl rfl (by decide) rfl (Ob_apix (m := 1) 0 rfl rfl rfl Try.underlying56 (by kernel_rfl) (eq_of_beq hi1) (by decide)) ?_; clear Z a; intro a Z
   refine s_ob Z (v := .pointer (some ⟨b1, 0, none⟩)) rfl rfl (by decide) rfl (Ob_load tLinkH rfl rfl rfl ((H.bx 1 rfl).cell 0 rfl)) ?_; clear Z a; intro a Z
   refine s_runk tLinkH Z 1 rfl rfl ?_; clear Z a; intro a Z
   refine h_call Z H (js := [(0, false)]) rfl (caps := #[]) fn_13_YLinkH rfl rfl rfl rfl rfl (by decide) rfl rfl (fun D1 hS => have hq := c_link_Link_Out hx2 hS; hq) ?_; clear Z a; intro vv a w7 D2 hr hF2 Z
   obtain ⟨q2, hvv, I4, K⟩ := hr; obtain rfl := hvv.symm
   have H : Hf I D w I4 w7 [OElink_Link b1 o.2, SlC NESeg q2 o.1, BxC b_p 60 [.pointer (some ⟨b1, 0, none⟩), v2, .int .i64 (p.boot.getD 0 0), .int .i64 (p.boot.getD 1 0), v3, v4, .int .i64 (p.sent.getD 0 0), .int .i64 (p.sent.getD 1 0), .int .i64 (p.told.getD 0 0), .int .i64 (p.told.getD 1 0), .bool p.ok], PtC OElink_Link v2 (p.l.getD 1 none), OwC NESeg 31 v3 p.way, OwC Ni64 3 v4 p.to_] := hF2 K
   clear hF2 K
   refine s_runk tLinkH Z 1 rfl rfl ?_; clear Z a; intro a Z
   refine s_end Z [0, 1, 6] rfl ?_; clear Z; intro Z
   refine p_then (wp_seq (f_region Z ?_)); clear Z; intro Z
   refine s_runk tLinkH Z 1 rfl rfl ?_; clear Z a; intro a Z
   refine s_end Z [0, 1, 6, 7] rfl ?_; clear Z; intro Z
   refine p_then (wp_block ?_)
   replace H : Hf I D w I4 w7 [PtC OElink_Link (.pointer (some ⟨b1, 0, none⟩)) (some o.2), SlC NESeg q2 o.1, BxC b_p 60 [.pointer (some ⟨b1, 0, none⟩), v2, .int .i64 (p.boot.getD 0 0), .int .i64 (p.boot.getD 1 0), v3, v4, .int .i64 (p.sent.getD 0 0), .int .i64 (p.sent.getD 1 0), .int .i64 (p.told.getD 0 0), .int .i64 (p.told.getD 1 0), .bool p.ok], PtC OElink_Link v2 (p.l.getD 1 none), OwC NESeg 31 v3 p.way, OwC Ni64 3 v4 p.to_] := H.mkS (K := OElink_Link) 0 rfl
   replace H : Hf I D w I4 w7 [OElaw22_pair b_p ({ p with l := [some o.2, (p.l.getD 1 none)] } : Elaw22_pair), SlC NESeg q2 o.1] := H.shutX (.pointer (some ⟨b1, 0, none⟩), v2, v3, v4) [(2, false), (0, false), (1, false), (1, false), (1, false)] rfl
   refine f_iter hF (fun sg a' w' => match sg with | (i_2, p_3) => Sl 58 [(0, .pointer (some ⟨b_p, 0, none⟩)), (1, .int .i64 side), (6, q2), (7, .int .i64 i_2)] a' ∧ ∃ I2, Hf I D w I2 w' [OElaw22_pair b_p p_3, SlC NESeg q2 o.1]) ⟨Z.sub (ts := [0, 1, 6, 7]) rfl, ⟨I4, (H.sub [(0, false), (0, true)] rfl).eq rfl⟩⟩ ?_
   clear Z H hF a
   rintro rc_2 ⟨i_2, p_3⟩ a w8 ⟨Z, I5, H⟩ hF
   unfold F_law22_pair_out_l2 at hF
   try dsimp only at hF
   refine wp_seq ?_
   refine wp_seq (f_region Z ?_); clear Z; intro Z
   refine s_runk tLinkH Z 2 rfl rfl ?_; clear Z a; intro a Z
   refine s_ob Z (v := .int .i64 (o.1.length : Int)) rfl rfl (by decide) rfl (Ob_slen tLinkH rfl rfl rfl (H.slshape 1 rfl)) ?_; clear Z a; intro a Z
   refine s_runk tLinkH Z 2 rfl rfl ?_; clear Z a; intro a Z
   refine g_ob Z (p := (decide (i_2 < (o.1.length : Int)))) (v := .int .i64 i_2) (S' := [(7, .int .i64 i_2)]) rfl rfl rfl (wantB_t _) rfl (by decide) (fun hp hS => hS.sub (ts := [7]) rfl) (fun hp => Ob_c tLinkH rfl) ?_; clear Z a; intro a Z
   refine g_ob Z (p := (decide (i_2 < (o.1.length : Int)))) (v := .bool (decide (i_2 < 9))) (S' := [(21, .int .i64 i_2)]) rfl rfl rfl (wantB_t _) rfl (by decide) (fun hp hS => (hS.conv (t := 21) rfl (cond_t hp)).sub (ts := [21]) rfl) (fun hp => Ob_c tLinkH rfl) ?_; clear Z a; intro a Z
   refine s_ob Z (v := .bool ((decide (i_2 < (o.1.length : Int))) && (decide (i_2 < 9)))) rfl rfl (by decide) rfl (Ob_pick rfl rfl rfl rfl (pick_and _ _)) ?_; clear Z a; intro a Z
   refine s_runk tLinkH Z 1 rfl rfl ?_; clear Z a; intro a Z
   refine g_ob Z (p := ((decide (i_2 < (o.1.length : Int))) && (decide (i_2 < 9)))) (v := .pointer (some ⟨b_p, 0, none⟩)) (S' := [(0, .pointer (some ⟨b_p, 0, none⟩))]) rfl rfl rfl (wantB_t _) rfl (by decide) (fun hp hS => hS.sub (ts := [0]) rfl) (fun hp => Ob_c tLinkH rfl) ?_; clear Z a; intro a Z
   refine g_ob Z (p := ((decide (i_2 < (o.1.length : Int))) && (decide (i_2 < 9)))) (v := .pointer (some ⟨b_p, 0, none⟩)) (S' := [(25, .pointer (some ⟨b_p, 0, none⟩))]) rfl rfl rfl (wantB_t _) rfl (by decide) (fun hp hS => (hS.conv (t := 25) rfl (cond_t hp)).sub (ts := [25]) rfl) (fun hp => Ob_c tLinkH rfl) ?_; clear Z a; intro a Z
   refine g_ob Z (p := ((decide (i_2 < (o.1.length : Int))) && (decide (i_2 < 9)))) (v := .pointer (some ⟨b_p, 4, none⟩)) (S' := [(26, .pointer (some ⟨b_p, 0, none⟩))]) rfl rfl rfl (wantB_t _) rfl (by decide) (fun hp hS => (hS.conv (t := 26) rfl (cond_t hp)).sub (ts := [26]) rfl) (fun hp => Ob_c tLinkH rfl) ?_; clear Z a; intro a Z
   obtain ⟨⟨v10, v11, v12, v13⟩, H⟩ := H.openX 0 rfl
   replace H : Hf I D w I5 w8 [BxC b_p 60 [v10, v11, .int .i64 (p_3.boot.getD 0 0), .int .i64 (p_3.boot.getD 1 0), v12, v13, .int .i64 (p_3.sent.getD 0 0), .int .i64 (p_3.sent.getD 1 0), .int .i64 (p_3.told.getD 0 0), .int .i64 (p_3.told.getD 1 0), .bool p_3.ok], PtC OElink_Link v10 (p_3.l.getD 0 none), PtC OElink_Link v11 (p_3.l.getD 1 none), OwC NESeg 31 v12 p_3.way, OwC Ni64 3 v13 p_3.to_, SlC NESeg q2 o.1] := H
   refine g_ob Z (p := ((decide (i_2 < (o.1.length : Int))) && (decide (i_2 < 9)))) (v := v12) (S' := [(27, .pointer (some ⟨b_p, 4, none⟩))]) rfl rfl rfl (wantB_t _) rfl (by decide) (fun hp hS => (hS.conv (t := 27) rfl (cond_t hp)).sub (ts := [27]) rfl) (fun hp => Ob_load tLinkH rfl rfl rfl ((H.bx 0 rfl).cell 4 rfl)) ?_; clear Z a; intro a Z
   refine g_ob Z (p := ((decide (i_2 < (o.1.length : Int))) && (decide (i_2 < 9)))) (v := .int .i64 (p_3.way.length : Int)) (S' := [(28, v12)]) rfl rfl rfl (wantB_t _) rfl (by decide) (fun hp hS => (hS.conv (t := 28) rfl (cond_t hp)).sub (ts := [28]) rfl) (fun hp => Ob_slen tLinkH rfl rfl rfl (H.owshape 3 rfl)) ?_; clear Z a; intro a Z
   refine g_ob Z (p := ((decide (i_2 < (o.1.length : Int))) && (decide (i_2 < 9)))) (v := .bool (decide ((p_3.way.length : Int) < 200))) (S' := [(29, .int .i64 (p_3.way.length : Int))]) rfl rfl rfl (wantB_t _) rfl (by decide) (fun hp hS => (hS.conv (t := 29) rfl (cond_t hp)).sub (ts := [29]) rfl) (fun hp => Ob_c tLinkH rfl) ?_; clear Z a; intro a Z
   refine s_ob Z (v := .bool (((decide (i_2 < (o.1.length : Int))) && (decide (i_2 < 9))) && (decide ((p_3.way.length : Int) < 200)))) rfl rfl (by decide) rfl (Ob_pick rfl rfl rfl rfl (pick_and _ _)) ?_; clear Z a; intro a Z
   refine s_end Z [0, 1, 6, 7, 16, 17, 18, 19, 20, 23, 24, 31] rfl ?_; clear Z; intro Z
   refine p_then ?_
   refine f_cond Z rfl (fun hc2 => ?_) (fun hc2 => ?_)
   ·replace hF := ite_t hc2 hF
    refine wp_skip ?_
    refine p_then (wp_seq ?_)
    refine wp_block ?_
    refine wp_seq ?_
    obtain ⟨hg6, hF⟩ := chk_in hF
    obtain ⟨hg7, hF⟩ := chk_in hF
    refine f_regionL Z (by kernel_rfl) (by kernel_rfl) (by decide) (by decide) [9, 10, 13] [(0, 0, 2), (0, 0, 1), (2, 0, 1), (6, 0, 1), (14, 0, 1), (0, 0, 0), (0, 0, 0), (96, 0, 0), (224, 0, 0), (480, 0, 0), (1022, 1, 1), (2047, 2, 2), (4095, 2, 2), (8191, 2, 2)] (by kernel_rfl) (fun jj vv => cond (Nat.blt jj 7) (cond (Nat.blt jj 3) (cond (Nat.blt jj 1) (vv = .pointer (some ⟨b_p, 0, none⟩)) (cond (Nat.blt jj 2) (vv = .pointer (some ⟨b_p, 0, none⟩)) (vv = .pointer (some ⟨b_p, 0, none⟩)))) (cond (Nat.blt jj 5) (cond (Nat.blt jj 4) (vv = .pointer (some ⟨b_p, 4, none⟩)) (vv = v12)) (cond (Nat.blt jj 6) (vv = q2) (vv = .int .i64 i_2)))) (cond (Nat.blt jj 10) (cond (Nat.blt jj 8) (vv = .pointer (some ⟨blkOf q2, oofOf q2 + (i_2).toNat * 8, none⟩)) (cond (Nat.blt jj 9) (vv = .agg #[.int .i64 ((o.1.getD (i_2).toNat default).boot), .int .i64 ((o.1.getD (i_2).toNat default).stream), .int .i64 ((o.1.getD (i_2).toNat default).seq), .int .i64 ((o.1.getD (i_2).toNat default).ackBoot), .int .i64 ((o.1.getD (i_2).toNat default).ackStream), .int .i64 ((o.1.getD (i_2).toNat default).ackSeq), .bool ((o.1.getD (i_2).toNat default).has), .string ((o.1.getD (i_2).toNat default).body)]) (vv = .slice (some ⟨blkOf vv, 0, none⟩) 1 1))) (cond (Nat.blt jj 12) (cond (Nat.blt jj 11) (True) (vv = .pointer (some ⟨b_p, 0, none⟩))) (cond (Nat.blt jj 13) (vv = .pointer (some ⟨b_p, 4, none⟩)) (True))))) (fun ss vals2 xw => match ss with | 0 => Gx I D w I5 w8 xw [BxC b_p 60 [v10, v11, .int .i64 (p_3.boot.getD 0 0), .int .i64 (p_3.boot.getD 1 0), v12, v13, .int .i64 (p_3.sent.getD 0 0), .int .i64 (p_3.sent.getD 1 0), .int .i64 (p_3.told.getD 0 0), .int .i64 (p_3.told.getD 1 0), .bool p_3.ok], PtC OElink_Link v10 (p_3.l.getD 0 none), PtC OElink_Link v11 (p_3.l.getD 1 none), OwC NESeg 31 v12 p_3.way, OwC Ni64 3 v13 p_3.to_, SlC NESeg q2 o.1] | 1 => Gx I D w I5 w8 xw [BxC (blkOf (vals2 9)) 31 [.int .i64 ((o.1.getD (i_2).toNat default).boot), .int .i64 ((o.1.getD (i_2).toNat default).stream), .int .i64 ((o.1.getD (i_2).toNat default).seq), .int .i64 ((o.1.getD (i_2).toNat default).ackBoot), .int .i64 ((o.1.getD (i_2).toNat default).ackStream), .int .i64 ((o.1.getD (i_2).toNat default).ackSeq), .bool ((o.1.getD (i_2).toNat default).has), .string ((o.1.getD (i_2).toNat default).body)], BxC b_p 60 [v10, v11, .int .i64 (p_3.boot.getD 0 0), .int .i64 (p_3.boot.getD 1 0), v12, v13, .int .i64 (p_3.sent.getD 0 0), .int .i64 (p_3.sent.getD 1 0), .int .i64 (p_3.told.getD 0 0), .int .i64 (p_3.told.getD 1 0), .bool p_3.ok], PtC OElink_Link v10 (p_3.l.getD 0 none), PtC OElink_Link v11 (p_3.l.getD 1 none), OwC NESeg 31 v12 p_3.way, OwC Ni64 3 v13 p_3.to_, SlC NESeg q2 o.1] | 2 => Gx I D w I5 w8 xw [OwC NESeg 31 (vals2 10) (p_3.way ++ [(o.1.getD (i_2).toNat default)]), BxC b_p 60 [v10, v11, .int .i64 (p_3.boot.getD 0 0), .int .i64 (p_3.boot.getD 1 0), v12, v13, .int .i64 (p_3.sent.getD 0 0), .int .i64 (p_3.sent.getD 1 0), .int .i64 (p_3.told.getD 0 0), .int .i64 (p_3.told.getD 1 0), .bool p_3.ok], PtC OElink_Link v10 (p_3.l.getD 0 none), PtC OElink_Link v11 (p_3.l.getD 1 none), OwC Ni64 3 v13 p_3.to_, SlC NESeg q2 o.1] | _ => Gx I D w I5 w8 xw [BxC b_p 60 [v10, v11, .int .i64 (p_3.boot.getD 0 0), .int .i64 (p_3.boot.getD 1 0), (vals2 10), v13, .int .i64 (p_3.sent.getD 0 0), .int .i64 (p_3.sent.getD 1 0), .int .i64 (p_3.told.getD 0 0), .int .i64 (p_3.told.getD 1 0), .bool p_3.ok], OwC NESeg 31 (vals2 10) (p_3.way ++ [(o.1.getD (i_2).toNat default)]), PtC OElink_Link v10 (p_3.l.getD 0 none), PtC OElink_Link v11 (p_3.l.getD 1 none), OwC Ni64 3 v13 p_3.to_, SlC NESeg q2 o.1]) (fun _ => Gx.start H) ?_ ?_
    ·intro fr hfr hfe
     refine .cons (fun ss hlo hhi vals2 xw hG hV => ?_) ?_
     ·obtain rfl | rfl | rfl : ss = 0 ∨ ss = 1 ∨ ss = 2 := st2 hlo hhi
      all_goals
      ·rw [← hfe]
       have hS := (hfr vals2).sub (ts := [0]) (S' := [(0, .pointer (some ⟨b_p, 0, none⟩))]) rfl
       exact L_val hS rfl (Ob_c tLinkH rfl) ⟨rfl, hG⟩
     refine .cons (fun ss hlo hhi vals2 xw hG hV => ?_) ?_
     ·obtain rfl | rfl : ss = 0 ∨ ss = 1 := st1 hlo hhi
      all_goals
      ·rw [← hfe]
       have hS := (hfr vals2).sub (ts := [0]) (S' := [(0, .pointer (some ⟨b_p, 0, none⟩))]) rfl
       exact L_val hS rfl (Ob_c tLinkH rfl) ⟨rfl, hG⟩
     refine .cons (fun ss hlo hhi vals2 xw hG hV => ?_) ?_
     ·obtain rfl | rfl : ss = 0 ∨ ss = 1 := st1 hlo hhi
      all_goals
      ·rw [← hfe]
       have hS := (hfr vals2).sub (ts := [35]) (S' := [(35, vals2 1)]) rfl
       replace hS := hS.conv (t := 35) rfl (show (vals2 1) = .pointer (some ⟨b_p, 0, none⟩) from hV 1 (by decide))
       exact L_val hS rfl (Ob_c tLinkH rfl) ⟨rfl, hG⟩
     refine .cons (fun ss hlo hhi vals2 xw hG hV => ?_) ?_
     ·obtain rfl | rfl : ss = 0 ∨ ss = 1 := st1 hlo hhi
      all_goals
      ·rw [← hfe]
       have hS := (hfr vals2).sub (ts := [36]) (S' := [(36, vals2 2)]) rfl
       replace hS := hS.conv (t := 36) rfl (show (vals2 2) = .pointer (some ⟨b_p, 0, none⟩) from hV 2 (by decide))
       exact L_val hS rfl (Ob_c tLinkH rfl) ⟨rfl, hG⟩
     refine .cons (fun ss hlo hhi vals2 xw hG hV => ?_) ?_
     ·obtain rfl | rfl : ss = 0 ∨ ss = 1 := st1 hlo hhi
      ·rw [← hfe]
       have hS := (hfr vals2).sub (ts := [37]) (S' := [(37, vals2 3)]) rfl
       replace hS := hS.conv (t := 37) rfl (show (vals2 3) = .pointer (some ⟨b_p, 4, none⟩) from hV 3 (by decide))
       obtain ⟨I2, hI2, H⟩ := Gx.ex hG
       exact L_val hS rfl (Ob_load tLinkH rfl rfl rfl ((H.bx 0 rfl).cell 4 rfl)) ⟨rfl, hG⟩
      ·rw [← hfe]
       have hS := (hfr vals2).sub (ts := [37]) (S' := [(37, vals2 3)]) rfl
       replace hS := hS.conv (t := 37) rfl (show (vals2 3) = .pointer (some ⟨b_p, 4, none⟩) from hV 3 (by decide))
       obtain ⟨I2, hI2, H⟩ := Gx.ex hG
       exact L_val hS rfl (Ob_load tLinkH rfl rfl rfl ((H.bx 1 rfl).cell 4 rfl)) ⟨rfl, hG⟩
     refine .cons (fun ss hlo hhi vals2 xw hG hV => ?_) ?_
     ·obtain rfl : ss = 0 := Nat.le_antisymm hhi hlo
      rw [← hfe]
      have hS := (hfr vals2).sub (ts := [6]) (S' := [(6, q2)]) rfl
      exact L_val hS rfl (Ob_c tLinkH rfl) ⟨rfl, hG⟩
     refine .cons (fun ss hlo hhi vals2 xw hG hV => ?_) ?_
     ·obtain rfl : ss = 0 := Nat.le_antisymm hhi hlo
      rw [← hfe]
      have hS := (hfr vals2).sub (ts := [7]) (S' := [(7, .int .i64 i_2)]) rfl
      exact L_val hS rfl (Ob_c tLinkH rfl) ⟨rfl, hG⟩
     refine .cons (fun ss hlo hhi vals2 xw hG hV => ?_) ?_
     ·obtain rfl : ss = 0 := Nat.le_antisymm hhi hlo
      rw [← hfe]
      have hS := (hfr vals2).sub (ts := [39, 40]) (S' := [(39, vals2 5), (40, vals2 6)]) rfl
      replace hS := hS.conv (t := 39) rfl (show (vals2 5) = q2 from hV 5 (by decide))
      replace hS := hS.conv (t := 40) rfl (show (vals2 6) = .int .i64 i_2 from hV 6 (by decide))
      obtain ⟨I2, hI2, H⟩ := Gx.ex hG
      exact L_val hS rfl (Ob_sidx tLinkH rfl rfl rfl rfl (slPl (H.sl 5 rfl) hg6) hg6) ⟨rfl, hG⟩
     refine .cons (fun ss hlo hhi vals2 xw hG hV => ?_) ?_
     ·obtain rfl : ss = 0 := Nat.le_antisymm hhi hlo
      rw [← hfe]
      have hS := (hfr vals2).sub (ts := [41]) (S' := [(41, vals2 7)]) rfl
      replace hS := hS.conv (t := 41) rfl (show (vals2 7) = .pointer (some ⟨blkOf q2, oofOf q2 + (i_2).toNat * 8, none⟩) from hV 7 (by decide))
      obtain ⟨I2, hI2, H⟩ := Gx.ex hG
      exact L_val hS rfl (Ob_loads tLinkH rfl rfl rfl ((slFl (H.sl 5 rfl) hg6).part 0 rfl)) ⟨rfl, hG⟩
     refine .cons (fun ss hlo hhi vals2 xw hG hV => ?_) ?_
     ·obtain rfl : ss = 0 := Nat.le_antisymm hhi hlo
      rw [← hfe]
      have hS := (hfr vals2).sub (ts := [42]) (S' := [(42, vals2 8)]) rfl
      replace hS := hS.conv (t := 42) rfl (show (vals2 8) = .agg #[.int .i64 ((o.1.getD (i_2).toNat default).boot), .int .i64 ((o.1.getD (i_2).toNat default).stream), .int .i64 ((o.1.getD (i_2).toNat default).seq), .int .i64 ((o.1.getD (i_2).toNat default).ackBoot), .int .i64 ((o.1.getD (i_2).toNat default).ackStream), .int .i64 ((o.1.getD (i_2).toNat default).ackSeq), .bool ((o.1.getD (i_2).toNat default).has), .string ((o.1.getD (i_2).toNat default).body)] from hV 8 (by decide))
      obtain ⟨I2, hI2, H⟩ := Gx.ex hG
      exact L_bslice H (vs := [(0, .agg #[.int .i64 ((o.1.getD (i_2).toNat default).boot), .int .i64 ((o.1.getD (i_2).toNat default).stream), .int .i64 ((o.1.getD (i_2).toNat default).seq), .int .i64 ((o.1.getD (i_2).toNat default).ackBoot), .int .i64 ((o.1.getD (i_2).toNat default).ackStream), .int .i64 ((o.1.getD (i_2).toNat default).ackSeq), .bool ((o.1.getD (i_2).toNat default).has), .string ((o.1.getD (i_2).toNat default).body)])]) (cl := [.int .i64 ((o.1.getD (i_2).toNat default).boot), .int .i64 ((o.1.getD (i_2).toNat default).stream), .int .i64 ((o.1.getD (i_2).toNat default).seq), .int .i64 ((o.1.getD (i_2).toNat default).ackBoot), .int .i64 ((o.1.getD (i_2).toNat default).ackStream), .int .i64 ((o.1.getD (i_2).toNat default).ackSeq), .bool ((o.1.getD (i_2).toNat default).has), .string ((o.1.getD (i_2).toNat default).body)]) (e := 31) hS rfl rfl rfl (fun w => run_bslice (z := .agg #[.int .i64 0, .int .i64 0, .int .i64 0, .int .i64 0, .int .i64 0, .int .i64 0, .bool false, .string ByteArray.empty]) (m := 8) Try.underlying37 (by kernel_rfl) rfl rfl (by decide) (by simp [Instr.fill, Value.cells]) w) fun yw b hK H => ⟨rfl, Gx.go hG hI2 hK (fun _ h => h) H⟩
     refine .cons (fun ss hlo hhi vals2 xw hG hV => ?_) ?_
     ·obtain rfl : ss = 1 := Nat.le_antisymm hhi hlo
      rw [← hfe]
      have hS := (hfr vals2).sub (ts := [38, 43]) (S' := [(38, vals2 4), (43, vals2 9)]) rfl
      replace hS := hS.conv (t := 38) rfl (show (vals2 4) = v12 from hV 4 (by decide))
      replace hS := hS.conv (t := 43) rfl (show (vals2 9) = .slice (some ⟨blkOf (vals2 9), 0, none⟩) 1 1 from hV 9 (by decide))
      obtain ⟨I2, hI2, H⟩ := Gx.ex hG
      exact L_appO H 4 E_37_YLinkH [(o.1.getD (i_2).toNat default)] rfl rfl hS rfl rfl rfl rfl (slRep2.box1 (H.bx 0 rfl) ⟨rfl, trivial⟩) hg7 (by decide) fun v yw hK H => ⟨trivial, Gx.go hG hI2 hK (fun _ h => h) (H.sub [(0, false), (1, false), (1, false), (1, false), (1, false), (1, true)] rfl)⟩
     refine .cons (fun ss hlo hhi vals2 xw hG hV => ?_) ?_
     ·obtain rfl : ss = 2 := Nat.le_antisymm hhi hlo
      rw [← hfe]
      have hS := (hfr vals2).sub (ts := [34]) (S' := [(34, vals2 0)]) rfl
      replace hS := hS.conv (t := 34) rfl (show (vals2 0) = .pointer (some ⟨b_p, 0, none⟩) from hV 0 (by decide))
      exact L_val hS rfl (Ob_c tLinkH rfl) ⟨rfl, hG⟩
     refine .cons (fun ss hlo hhi vals2 xw hG hV => ?_) ?_
     ·obtain rfl : ss = 2 := Nat.le_antisymm hhi hlo
      rw [← hfe]
      have hS := (hfr vals2).sub (ts := [45]) (S' := [(45, vals2 11)]) rfl
      replace hS := hS.conv (t := 45) rfl (show (vals2 11) = .pointer (some ⟨b_p, 0, none⟩) from hV 11 (by decide))
      exact L_val hS rfl (Ob_c tLinkH rfl) ⟨rfl, hG⟩
     refine .cons (fun ss hlo hhi vals2 xw hG hV => ?_) ?_
     ·obtain rfl : ss = 2 := Nat.le_antisymm hhi hlo
      rw [← hfe]
      have hS := (hfr vals2).sub (ts := [46, 44]) (S' := [(46, vals2 12), (44, vals2 10)]) rfl
      replace hS := hS.conv (t := 46) rfl (show (vals2 12) = .pointer (some ⟨b_p, 4, none⟩) from hV 12 (by decide))
      obtain ⟨I2, hI2, H⟩ := Gx.ex hG
      exact L_store tLinkH H 1 rfl hS rfl rfl rfl rfl rfl (slS.cells (H.owshape 0 rfl)) rfl rfl (one_cons (slS.one (H.owshape 0 rfl)) one_nil) (Nat.le_of_ble_eq_true rfl) rfl fun yw hK H => ⟨trivial, Gx.go hG hI2 hK (fun _ h => h) H⟩
     exact .nil
    ·intro vals2 a w9 Z hG hV
     replace Z := Z.sub (ts := [0, 1, 6, 7, 16, 17, 18, 19, 20, 23, 24, 31, 34, 35, 36, 37, 38, 39, 40, 41, 42, 43, 44, 45, 46]) (S' := [(0, .pointer (some ⟨b_p, 0, none⟩)), (1, .int .i64 side), (6, q2), (7, .int .i64 i_2), (16, .int .i64 i_2), (17, q2), (18, .int .i64 (o.1.length : Int)), (19, .bool (decide (i_2 < (o.1.length : Int)))), (20, .bool (decide (i_2 < (o.1.length : Int)))), (23, .bool ((decide (i_2 < (o.1.length : Int))) && (decide (i_2 < 9)))), (24, .bool ((decide (i_2 < (o.1.length : Int))) && (decide (i_2 < 9)))), (31, .bool (((decide (i_2 < (o.1.length : Int))) && (decide (i_2 < 9))) && (decide ((p_3.way.length : Int) < 200)))), (34, vals2 0), (35, vals2 1), (36, vals2 2), (37, vals2 3), (38, vals2 4), (39, vals2 5), (40, vals2 6), (41, vals2 7), (42, vals2 8), (43, vals2 9), (44, vals2 10), (45, vals2 11), (46, vals2 12)]) rfl
     replace Z := Z.conv (t := 34) rfl (show (vals2 0) = .pointer (some ⟨b_p, 0, none⟩) from hV 0 (by decide))
     replace Z := Z.conv (t := 35) rfl (show (vals2 1) = .pointer (some ⟨b_p, 0, none⟩) from hV 1 (by decide))
     replace Z := Z.conv (t := 36) rfl (show (vals2 2) = .pointer (some ⟨b_p, 0, none⟩) from hV 2 (by decide))
     replace Z := Z.conv (t := 37) rfl (show (vals2 3) = .pointer (some ⟨b_p, 4, none⟩) from hV 3 (by decide))
     replace Z := Z.conv (t := 38) rfl (show (vals2 4) = v12 from hV 4 (by decide))
     replace Z := Z.conv (t := 39) rfl (show (vals2 5) = q2 from hV 5 (by decide))
     replace Z := Z.conv (t := 40) rfl (show (vals2 6) = .int .i64 i_2 from hV 6 (by decide))
     replace Z := Z.conv (t := 41) rfl (show (vals2 7) = .pointer (some ⟨blkOf q2, oofOf q2 + (i_2).toNat * 8, none⟩) from hV 7 (by decide))
     replace Z := Z.conv (t := 42) rfl (show (vals2 8) = .agg #[.int .i64 ((o.1.getD (i_2).toNat default).boot), .int .i64 ((o.1.getD (i_2).toNat default).stream), .int .i64 ((o.1.getD (i_2).toNat default).seq), .int .i64 ((o.1.getD (i_2).toNat default).ackBoot), .int .i64 ((o.1.getD (i_2).toNat default).ackStream), .int .i64 ((o.1.getD (i_2).toNat default).ackSeq), .bool ((o.1.getD (i_2).toNat default).has), .string ((o.1.getD (i_2).toNat default).body)] from hV 8 (by decide))
     replace Z := Z.conv (t := 43) rfl (show (vals2 9) = .slice (some ⟨blkOf (vals2 9), 0, none⟩) 1 1 from hV 9 (by decide))
     replace Z := Z.conv (t := 45) rfl (show (vals2 11) = .pointer (some ⟨b_p, 0, none⟩) from hV 11 (by decide))
     replace Z := Z.conv (t := 46) rfl (show (vals2 12) = .pointer (some ⟨b_p, 4, none⟩) from hV 12 (by decide))
     obtain ⟨I6, _, H⟩ := Gx.ex hG
     clear hG hV
     replace Z := Z.sub (ts := [0, 1, 6, 7, 16, 17, 18, 19, 20, 23, 24, 31, 34, 35, 36, 37, 38, 39, 40, 41, 42, 43, 44, 45, 46]) rfl
     replace H : Hf I D w I6 w9 [BxC b_p 60 [v10, v11, .int .i64 (p_3.boot.getD 0 0), .int .i64 (p_3.boot.getD 1 0), (vals2 10), v13, .int .i64 (p_3.sent.getD 0 0), .int .i64 (p_3.sent.getD 1 0), .int .i64 (p_3.told.getD 0 0), .int .i64 (p_3.told.getD 1 0), .bool p_3.ok], OwC NESeg 31 (vals2 10) (p_3.way ++ [(o.1.getD (i_2).toNat default)]), PtC OElink_Link v10 (p_3.l.getD 0 none), PtC OElink_Link v11 (p_3.l.getD 1 none), OwC Ni64 3 v13 p_3.to_, SlC NESeg q2 o.1] := H
     refine p_then ?_
     obtain ⟨hg8, hF⟩ := chk_in hF
     obtain ⟨hg9, hF⟩ := chk_in hF
     refine f_region Z ?_; clear Z; intro Z
     refine s_runk tLinkH Z 4 rfl rfl ?_; clear Z a; intro a Z
     refine s_ob Z (v := v13) rfl rfl (by decide) rfl (Ob_load tLinkH rfl rfl rfl ((H.bx 0 rfl).cell 5 rfl)) ?_; clear Z a; intro a Z
     refine s_runk tLinkH Z 1 rfl rfl ?_; clear Z a; intro a Z
     refine s_ob Z (v := .int .i64 (1 - side)) rfl rfl (by decide) rfl (Ob_sub rfl rfl rfl (wrI hg8)) ?_; clear Z a; intro a Z
     refine h_bslice Z H (vs := [(0, .int .i64 (1 - side))]) (cl := [.int .i64 (1 - side)]) (e := 3) rfl rfl rfl (by decide) rfl rfl (fun w => run_bslice (z := .int .i64 0) (m := 1) Try.underlying58 (by kernel_rfl) rfl rfl (by decide) (by simp [Instr.fill, Value.cells]) w) ?_; clear Z a H; intro a w10 b3 H Z
     refine h_appO Z H 5 E_58_YLinkH [1 - side] rfl rfl rfl rfl rfl (by decide) rfl rfl rfl (slRep2.box1 (H.bx 0 rfl) ⟨rfl, trivial⟩) hg9 (by decide) ?_; clear Z a H; intro v14 a w11 H Z
     dsimp only [List.eraseIdx] at H
     replace H : Hf I D w I6 w11 [OwC Ni64 3 v14 (p_3.to_ ++ [1 - side]), BxC b_p 60 [v10, v11, .int .i64 (p_3.boot.getD 0 0), .int .i64 (p_3.boot.getD 1 0), (vals2 10), v13, .int .i64 (p_3.sent.getD 0 0), .int .i64 (p_3.sent.getD 1 0), .int .i64 (p_3.told.getD 0 0), .int .i64 (p_3.told.getD 1 0), .bool p_3.ok], OwC NESeg 31 (vals2 10) (p_3.way ++ [(o.1.getD (i_2).toNat default)]), PtC OElink_Link v10 (p_3.l.getD 0 none), PtC OElink_Link v11 (p_3.l.getD 1 none), SlC NESeg q2 o.1] := H.sub [(0, false), (1, false), (1, false), (1, false), (1, false), (1, true)] rfl
     refine s_runk tLinkH Z 2 rfl rfl ?_; clear Z a; intro a Z
     refine h_store tLinkH Z H 1 rfl rfl rfl rfl rfl rfl (slS.cells (H.owshape 0 rfl)) rfl rfl (one_cons (slS.one (H.owshape 0 rfl)) one_nil) (Nat.le_of_ble_eq_true rfl) rfl ?_; clear H; intro w12 H
     dsimp only [List.eraseIdx] at H
     refine s_end Z [0, 1, 6, 7, 16, 17, 18, 19, 20, 23, 24, 31, 34, 35, 36, 37, 38, 39, 40, 41, 42, 43, 44, 45, 46, 47, 48, 49, 50, 51, 52, 53, 54, 55, 56, 57] rfl ?_; clear Z; intro Z
     refine p_blk ?_
     refine p_then ?_
     obtain ⟨hg10, hF⟩ := chk_in hF
     refine f_region Z ?_; clear Z; intro Z
     refine s_runk tLinkH Z 1 rfl rfl ?_; clear Z a; intro a Z
     refine s_ob Z (v := .int .i64 (i_2 + 1)) rfl rfl (by decide) rfl (Ob_add rfl rfl rfl (wrI hg10)) ?_; clear Z a; intro a Z
     refine s_runk tLinkH Z 1 rfl rfl ?_; clear Z a; intro a Z
     refine s_end Z [0, 1, 6, 7, 16, 17, 18, 19, 20, 23, 24, 31, 34, 35, 36, 37, 38, 39, 40, 41, 42, 43, 44, 45, 46, 47, 48, 49, 50, 51, 52, 53, 54, 55, 56, 57, 32, 33] rfl ?_; clear Z; intro Z
     refine p_then ?_
     replace H : Hf I D w I6 w12 [OElaw22_pair b_p ({ p_3 with way := p_3.way ++ [(o.1.getD (i_2).toNat default)], to_ := p_3.to_ ++ [1 - side] } : Elaw22_pair), SlC NESeg q2 o.1] := H.shutX (v10, v11, (vals2 10), v14) [(0, false), (2, false), (2, false), (1, false), (0, false)] rfl
     exact ⟨(i_2 + 1, ({ p_3 with way := p_3.way ++ [(o.1.getD (i_2).toNat default)], to_ := p_3.to_ ++ [1 - side] } : Elaw22_pair)), ⟨Z.sub (ts := [0, 1, 6, 7]) rfl, ⟨I6, (H.sub [(0, false), (0, true)] rfl).eq rfl⟩⟩, hF⟩
   ·replace hF := ite_f hc2 hF
    refine wp_exit ?_
    refine p_then_x ?_
    refine p_then_x ?_
    refine f_exit_here ?_
    replace H : Hf I D w I5 w8 [OElaw22_pair b_p p_3, SlC NESeg q2 o.1] := H.shutX (v10, v11, v12, v13) [(0, false), (0, false), (0, false), (0, false), (0, false)] rfl
    obtain rfl := some_in hF
    exact f_fall Z (run_results0 rfl) ⟨rfl, I5, (H.sub [(0, false)] rfl).eq rfl⟩
 replace hF := ite_f hi1 hF
 refine bsplit (side == 1) (fun hi2 => ?_) (fun hi2 => ?_)
 ·replace hF := ite_t hi2 hF
  obtain ⟨⟨v15, v16, v17, v18⟩, H⟩ := H.openX 0 rfl
  replace H : Hf I D w I w [BxC b_p 60 [v15, v16, .int .i64 (p.boot.getD 0 0), .int .i64 (p.boot.getD 1 0), v17, v18, .int .i64 (p.sent.getD 0 0), .int .i64 (p.sent.getD 1 0), .int .i64 (p.told.getD 0 0), .int .i64 (p.told.getD 1 0), .bool p.ok], PtC OElink_Link v15 (p.l.getD 0 none), PtC OElink_Link v16 (p.l.getD 1 none), OwC NESeg 31 v17 p.way, OwC Ni64 3 v18 p.to_] := H
  rcases optE_in hF with ⟨ho2, hF⟩ | ⟨x_2, ho2, hF⟩
  ·obtain ⟨hv, H⟩ := H.optN 2 rfl ho2
   subst hv
   replace H : Hf I D w I w [BxC b_p 60 [v15, .pointer none, .int .i64 (p.boot.getD 0 0), .int .i64 (p.boot.getD 1 0), v17, v18, .int .i64 (p.sent.getD 0 0), .int .i64 (p.sent.getD 1 0), .int .i64 (p.told.getD 0 0), .int .i64 (p.told.getD 1 0), .bool p.ok], PtC OElink_Link v15 (p.l.getD 0 none), OwC NESeg 31 v17 p.way, OwC Ni64 3 v18 p.to_] := H
   obtain ⟨n0_2, hx3, hF⟩ := bnd_in hF
   refine f_region Z ?_; clear Z; intro Z
   refine s_runk tLinkH Z 4 rfl rfl ?_; clear Z a; intro a Z
   refine s_ob Z (v := .pointer (some ⟨b_p, 1, none⟩)) rfl rfl (by decide) rfl (Ob_apix (m := 1) 1 rfl rfl rfl Try.underlying56 (by kernel_rfl) (eq_of_beq hi2) (by decide)) ?_; clear Z a; intro a Z
   refine s_ob Z (v := .pointer none) rfl rfl (by decide) rfl (Ob_load tLinkH rfl rfl rfl ((H.bx 0 rfl).cell 1 rfl)) ?_; clear Z a; intro a Z
   refine s_runk tLinkH Z 1 rfl rfl ?_; clear Z a; intro a Z
   refine h_call Z H (js := []) rfl (caps := #[]) fn_13_YLinkH rfl rfl rfl rfl rfl (by decide) rfl rfl (fun D1 hS => have hq := c_link_Link_Out_nil hx3 hS; hq) ?_; clear Z a; intro vv a w13 D2 hr hF2 Z
   obtain ⟨q3, hvv, I7, K⟩ := hr; obtain rfl := hvv.symm
   have H : Hf I D w I7 w13 [SlC NESeg q3 n0_2, BxC b_p 60 [v15, .pointer none, .int .i64 (p.boot.getD 0 0), .int .i64 (p.boot.getD 1 0), v17, v18, .int .i64 (p.sent.getD 0 0), .int .i64 (p.sent.getD 1 0), .int .i64 (p.told.getD 0 0), .int .i64 (p.told.getD 1 0), .bool p.ok], PtC OElink_Link v15 (p.l.getD 0 none), OwC NESeg 31 v17 p.way, OwC Ni64 3 v18 p.to_] := hF2 K
   clear hF2 K
   refine s_runk tLinkH Z 1 rfl rfl ?_; clear Z a; intro a Z
   refine s_end Z [0, 1, 6] rfl ?_; clear Z; intro Z
   refine p_then (wp_seq (f_region Z ?_)); clear Z; intro Z
   refine s_runk tLinkH Z 1 rfl rfl ?_; clear Z a; intro a Z
   refine s_end Z [0, 1, 6, 7] rfl ?_; clear Z; intro Z
   refine p_then (wp_block ?_)
   replace H : Hf I D w I7 w13 [PtC OElink_Link (.pointer none) none, SlC NESeg q3 n0_2, BxC b_p 60 [v15, .pointer none, .int .i64 (p.boot.getD 0 0), .int .i64 (p.boot.getD 1 0), v17, v18, .int .i64 (p.sent.getD 0 0), .int .i64 (p.sent.getD 1 0), .int .i64 (p.told.getD 0 0), .int .i64 (p.told.getD 1 0), .bool p.ok], PtC OElink_Link v15 (p.l.getD 0 none), OwC NESeg 31 v17 p.way, OwC Ni64 3 v18 p.to_] := H.mkN OElink_Link
   replace H : Hf I D w I7 w13 [OElaw22_pair b_p ({ p with l := [(p.l.getD 0 none), none] } : Elaw22_pair), SlC NESeg q3 n0_2] := H.shutX (v15, .pointer none, v17, v18) [(2, false), (2, false), (0, false), (1, false), (1, false)] rfl
   refine f_iter hF (fun sg a' w' => match sg with | (i_3, p_4) => Sl 58 [(0, .pointer (some ⟨b_p, 0, none⟩)), (1, .int .i64 side), (6, q3), (7, .int .i64 i_3)] a' ∧ ∃ I2, Hf I D w I2 w' [OElaw22_pair b_p p_4, SlC NESeg q3 n0_2]) ⟨Z.sub (ts := [0, 1, 6, 7]) rfl, ⟨I7, (H.sub [(0, false), (0, true)] rfl).eq rfl⟩⟩ ?_
   clear Z H hF a
   rintro rc_3 ⟨i_3, p_4⟩ a w14 ⟨Z, I8, H⟩ hF
   unfold F_law22_pair_out_l3 at hF
   try dsimp only at hF
   refine wp_seq ?_
   refine wp_seq (f_region Z ?_); clear Z; intro Z
   refine s_runk tLinkH Z 2 rfl rfl ?_; clear Z a; intro a Z
   refine s_ob Z (v := .int .i64 (n0_2.length : Int)) rfl rfl (by decide) rfl (Ob_slen tLinkH rfl rfl rfl (H.slshape 1 rfl)) ?_; clear Z a; intro a Z
   refine s_runk tLinkH Z 2 rfl rfl ?_; clear Z a; intro a Z
   refine g_ob Z (p := (decide (i_3 < (n0_2.length : Int)))) (v := .int .i64 i_3) (S' := [(7, .int .i64 i_3)]) rfl rfl rfl (wantB_t _) rfl (by decide) (fun hp hS => hS.sub (ts := [7]) rfl) (fun hp => Ob_c tLinkH rfl) ?_; clear Z a; intro a Z
   refine g_ob Z (p := (decide (i_3 < (n0_2.length : Int)))) (v := .bool (decide (i_3 < 9))) (S' := [(21, .int .i64 i_3)]) rfl rfl rfl (wantB_t _) rfl (by decide) (fun hp hS => (hS.conv (t := 21) rfl (cond_t hp)).sub (ts := [21]) rfl) (fun hp => Ob_c tLinkH rfl) ?_; clear Z a; intro a Z
   refine s_ob Z (v := .bool ((decide (i_3 < (n0_2.length : Int))) && (decide (i_3 < 9)))) rfl rfl (by decide) rfl (Ob_pick rfl rfl rfl rfl (pick_and _ _)) ?_; clear Z a; intro a Z
   refine s_runk tLinkH Z 1 rfl rfl ?_; clear Z a; intro a Z
   refine g_ob Z (p := ((decide (i_3 < (n0_2.length : Int))) && (decide (i_3 < 9)))) (v := .pointer (some ⟨b_p, 0, none⟩)) (S' := [(0, .pointer (some ⟨b_p, 0, none⟩))]) rfl rfl rfl (wantB_t _) rfl (by decide) (fun hp hS => hS.sub (ts := [0]) rfl) (fun hp => Ob_c tLinkH rfl) ?_; clear Z a; intro a Z
   refine g_ob Z (p := ((decide (i_3 < (n0_2.length : Int))) && (decide (i_3 < 9)))) (v := .pointer (some ⟨b_p, 0, none⟩)) (S' := [(25, .pointer (some ⟨b_p, 0, none⟩))]) rfl rfl rfl (wantB_t _) rfl (by decide) (fun hp hS => (hS.conv (t := 25) rfl (cond_t hp)).sub (ts := [25]) rfl) (fun hp => Ob_c tLinkH rfl) ?_; clear Z a; intro a Z
   refine g_ob Z (p := ((decide (i_3 < (n0_2.length : Int))) && (decide (i_3 < 9)))) (v := .pointer (some ⟨b_p, 4, none⟩)) (S' := [(26, .pointer (some ⟨b_p, 0, none⟩))]) rfl rfl rfl (wantB_t _) rfl (by decide) (fun hp hS => (hS.conv (t := 26) rfl (cond_t hp)).sub (ts := [26]) rfl) (fun hp => Ob_c tLinkH rfl) ?_; clear Z a; intro a Z
   obtain ⟨⟨v19, v20, v21, v22⟩, H⟩ := H.openX 0 rfl
   replace H : Hf I D w I8 w14 [BxC b_p 60 [v19, v20, .int .i64 (p_4.boot.getD 0 0), .int .i64 (p_4.boot.getD 1 0), v21, v22, .int .i64 (p_4.sent.getD 0 0), .int .i64 (p_4.sent.getD 1 0), .int .i64 (p_4.told.getD 0 0), .int .i64 (p_4.told.getD 1 0), .bool p_4.ok], PtC OElink_Link v19 (p_4.l.getD 0 none), PtC OElink_Link v20 (p_4.l.getD 1 none), OwC NESeg 31 v21 p_4.way, OwC Ni64 3 v22 p_4.to_, SlC NESeg q3 n0_2] := H
   refine g_ob Z (p := ((decide (i_3 < (n0_2.length : Int))) && (decide (i_3 < 9)))) (v := v21) (S' := [(27, .pointer (some ⟨b_p, 4, none⟩))]) rfl rfl rfl (wantB_t _) rfl (by decide) (fun hp hS => (hS.conv (t := 27) rfl (cond_t hp)).sub (ts := [27]) rfl) (fun hp => Ob_load tLinkH rfl rfl rfl ((H.bx 0 rfl).cell 4 rfl)) ?_; clear Z a; intro a Z
   refine g_ob Z (p := ((decide (i_3 < (n0_2.length : Int))) && (decide (i_3 < 9)))) (v := .int .i64 (p_4.way.length : Int)) (S' := [(28, v21)]) rfl rfl rfl (wantB_t _) rfl (by decide) (fun hp hS => (hS.conv (t := 28) rfl (cond_t hp)).sub (ts := [28]) rfl) (fun hp => Ob_slen tLinkH rfl rfl rfl (H.owshape 3 rfl)) ?_; clear Z a; intro a Z
   refine g_ob Z (p := ((decide (i_3 < (n0_2.length : Int))) && (decide (i_3 < 9)))) (v := .bool (decide ((p_4.way.length : Int) < 200))) (S' := [(29, .int .i64 (p_4.way.length : Int))]) rfl rfl rfl (wantB_t _) rfl (by decide) (fun hp hS => (hS.conv (t := 29) rfl (cond_t hp)).sub (ts := [29]) rfl) (fun hp => Ob_c tLinkH rfl) ?_; clear Z a; intro a Z
   refine s_ob Z (v := .bool (((decide (i_3 < (n0_2.length : Int))) && (decide (i_3 < 9))) && (decide ((p_4.way.length : Int) < 200)))) rfl rfl (by decide) rfl (Ob_pick rfl rfl rfl rfl (pick_and _ _)) ?_; clear Z a; intro a Z
   refine s_end Z [0, 1, 6, 7, 16, 17, 18, 19, 20, 23, 24, 31] rfl ?_; clear Z; intro Z
   refine p_then ?_
   refine f_cond Z rfl (fun hc3 => ?_) (fun hc3 => ?_)
   ·replace hF := ite_t hc3 hF
    refine wp_skip ?_
    refine p_then (wp_seq ?_)
    refine wp_block ?_
    refine wp_seq ?_
    obtain ⟨hg11, hF⟩ := chk_in hF
    obtain ⟨hg12, hF⟩ := chk_in hF
    refine f_regionL Z (by kernel_rfl) (by kernel_rfl) (by decide) (by decide) [9, 10, 13] [(0, 0, 2), (0, 0, 1), (2, 0, 1), (6, 0, 1), (14, 0, 1), (0, 0, 0), (0, 0, 0), (96, 0, 0), (224, 0, 0), (480, 0, 0), (1022, 1, 1), (2047, 2, 2), (4095, 2, 2), (8191, 2, 2)] (by kernel_rfl) (fun jj vv => cond (Nat.blt jj 7) (cond (Nat.blt jj 3) (cond (Nat.blt jj 1) (vv = .pointer (some ⟨b_p, 0, none⟩)) (cond (Nat.blt jj 2) (vv = .pointer (some ⟨b_p, 0, none⟩)) (vv = .pointer (some ⟨b_p, 0, none⟩)))) (cond (Nat.blt jj 5) (cond (Nat.blt jj 4) (vv = .pointer (some ⟨b_p, 4, none⟩)) (vv = v21)) (cond (Nat.blt jj 6) (vv = q3) (vv = .int .i64 i_3)))) (cond (Nat.blt jj 10) (cond (Nat.blt jj 8) (vv = .pointer (some ⟨blkOf q3, oofOf q3 + (i_3).toNat * 8, none⟩)) (cond (Nat.blt jj 9) (vv = .agg #[.int .i64 ((n0_2.getD (i_3).toNat default).boot), .int .i64 ((n0_2.getD (i_3).toNat default).stream), .int .i64 ((n0_2.getD (i_3).toNat default).seq), .int .i64 ((n0_2.getD (i_3).toNat default).ackBoot), .int .i64 ((n0_2.getD (i_3).toNat default).ackStream), .int .i64 ((n0_2.getD (i_3).toNat default).ackSeq), .bool ((n0_2.getD (i_3).toNat default).has), .string ((n0_2.getD (i_3).toNat default).body)]) (vv = .slice (some ⟨blkOf vv, 0, none⟩) 1 1))) (cond (Nat.blt jj 12) (cond (Nat.blt jj 11) (True) (vv = .pointer (some ⟨b_p, 0, none⟩))) (cond (Nat.blt jj 13) (vv = .pointer (some ⟨b_p, 4, none⟩)) (True))))) (fun ss vals3 xw => match ss with | 0 => Gx I D w I8 w14 xw [BxC b_p 60 [v19, v20, .int .i64 (p_4.boot.getD 0 0), .int .i64 (p_4.boot.getD 1 0), v21, v22, .int .i64 (p_4.sent.getD 0 0), .int .i64 (p_4.sent.getD 1 0), .int .i64 (p_4.told.getD 0 0), .int .i64 (p_4.told.getD 1 0), .bool p_4.ok], PtC OElink_Link v19 (p_4.l.getD 0 none), PtC OElink_Link v20 (p_4.l.getD 1 none), OwC NESeg 31 v21 p_4.way, OwC Ni64 3 v22 p_4.to_, SlC NESeg q3 n0_2] | 1 => Gx I D w I8 w14 xw [BxC (blkOf (vals3 9)) 31 [.int .i64 ((n0_2.getD (i_3).toNat default).boot), .int .i64 ((n0_2.getD (i_3).toNat default).stream), .int .i64 ((n0_2.getD (i_3).toNat default).seq), .int .i64 ((n0_2.getD (i_3).toNat default).ackBoot), .int .i64 ((n0_2.getD (i_3).toNat default).ackStream), .int .i64 ((n0_2.getD (i_3).toNat default).ackSeq), .bool ((n0_2.getD (i_3).toNat default).has), .string ((n0_2.getD (i_3).toNat default).body)], BxC b_p 60 [v19, v20, .int .i64 (p_4.boot.getD 0 0), .int .i64 (p_4.boot.getD 1 0), v21, v22, .int .i64 (p_4.sent.getD 0 0), .int .i64 (p_4.sent.getD 1 0), .int .i64 (p_4.told.getD 0 0), .int .i64 (p_4.told.getD 1 0), .bool p_4.ok], PtC OElink_Link v19 (p_4.l.getD 0 none), PtC OElink_Link v20 (p_4.l.getD 1 none), OwC NESeg 31 v21 p_4.way, OwC Ni64 3 v22 p_4.to_, SlC NESeg q3 n0_2] | 2 => Gx I D w I8 w14 xw [OwC NESeg 31 (vals3 10) (p_4.way ++ [(n0_2.getD (i_3).toNat default)]), BxC b_p 60 [v19, v20, .int .i64 (p_4.boot.getD 0 0), .int .i64 (p_4.boot.getD 1 0), v21, v22, .int .i64 (p_4.sent.getD 0 0), .int .i64 (p_4.sent.getD 1 0), .int .i64 (p_4.told.getD 0 0), .int .i64 (p_4.told.getD 1 0), .bool p_4.ok], PtC OElink_Link v19 (p_4.l.getD 0 none), PtC OElink_Link v20 (p_4.l.getD 1 none), OwC Ni64 3 v22 p_4.to_, SlC NESeg q3 n0_2] | _ => Gx I D w I8 w14 xw [BxC b_p 60 [v19, v20, .int .i64 (p_4.boot.getD 0 0), .int .i64 (p_4.boot.getD 1 0), (vals3 10), v22, .int .i64 (p_4.sent.getD 0 0), .int .i64 (p_4.sent.getD 1 0), .int .i64 (p_4.told.getD 0 0), .int .i64 (p_4.told.getD 1 0), .bool p_4.ok], OwC NESeg 31 (vals3 10) (p_4.way ++ [(n0_2.getD (i_3).toNat default)]), PtC OElink_Link v19 (p_4.l.getD 0 none), PtC OElink_Link v20 (p_4.l.getD 1 none), OwC Ni64 3 v22 p_4.to_, SlC NESeg q3 n0_2]) (fun _ => Gx.start H) ?_ ?_
    ·intro fr hfr hfe
     refine .cons (fun ss hlo hhi vals3 xw hG hV => ?_) ?_
     ·obtain rfl | rfl | rfl : ss = 0 ∨ ss = 1 ∨ ss = 2 := st2 hlo hhi
      all_goals
      ·rw [← hfe]
       have hS := (hfr vals3).sub (ts := [0]) (S' := [(0, .pointer (some ⟨b_p, 0, none⟩))]) rfl
       exact L_val hS rfl (Ob_c tLinkH rfl) ⟨rfl, hG⟩
     refine .cons (fun ss hlo hhi vals3 xw hG hV => ?_) ?_
     ·obtain rfl | rfl : ss = 0 ∨ ss = 1 := st1 hlo hhi
      all_goals
      ·rw [← hfe]
       have hS := (hfr vals3).sub (ts := [0]) (S' := [(0, .pointer (some ⟨b_p, 0, none⟩))]) rfl
       exact L_val hS rfl (Ob_c tLinkH rfl) ⟨rfl, hG⟩
     refine .cons (fun ss hlo hhi vals3 xw hG hV => ?_) ?_
     ·obtain rfl | rfl : ss = 0 ∨ ss = 1 := st1 hlo hhi
      all_goals
      ·rw [← hfe]
       have hS := (hfr vals3).sub (ts := [35]) (S' := [(35, vals3 1)]) rfl
       replace hS := hS.conv (t := 35) rfl (show (vals3 1) = .pointer (some ⟨b_p, 0, none⟩) from hV 1 (by decide))
       exact L_val hS rfl (Ob_c tLinkH rfl) ⟨rfl, hG⟩
     refine .cons (fun ss hlo hhi vals3 xw hG hV => ?_) ?_
     ·obtain rfl | rfl : ss = 0 ∨ ss = 1 := st1 hlo hhi
      all_goals
      ·rw [← hfe]
       have hS := (hfr vals3).sub (ts := [36]) (S' := [(36, vals3 2)]) rfl
       replace hS := hS.conv (t := 36) rfl (show (vals3 2) = .pointer (some ⟨b_p, 0, none⟩) from hV 2 (by decide))
       exact L_val hS rfl (Ob_c tLinkH rfl) ⟨rfl, hG⟩
     refine .cons (fun ss hlo hhi vals3 xw hG hV => ?_) ?_
     ·obtain rfl | rfl : ss = 0 ∨ ss = 1 := st1 hlo hhi
      ·rw [← hfe]
       have hS := (hfr vals3).sub (ts := [37]) (S' := [(37, vals3 3)]) rfl
       replace hS := hS.conv (t := 37) rfl (show (vals3 3) = .pointer (some ⟨b_p, 4, none⟩) from hV 3 (by decide))
       obtain ⟨I2, hI2, H⟩ := Gx.ex hG
       exact L_val hS rfl (Ob_load tLinkH rfl rfl rfl ((H.bx 0 rfl).cell 4 rfl)) ⟨rfl, hG⟩
      ·rw [← hfe]
       have hS := (hfr vals3).sub (ts := [37]) (S' := [(37, vals3 3)]) rfl
       replace hS := hS.conv (t := 37) rfl (show (vals3 3) = .pointer (some ⟨b_p, 4, none⟩) from hV 3 (by decide))
       obtain ⟨I2, hI2, H⟩ := Gx.ex hG
       exact L_val hS rfl (Ob_load tLinkH rfl rfl rfl ((H.bx 1 rfl).cell 4 rfl)) ⟨rfl, hG⟩
     refine .cons (fun ss hlo hhi vals3 xw hG hV => ?_) ?_
     ·obtain rfl : ss = 0 := Nat.le_antisymm hhi hlo
      rw [← hfe]
      have hS := (hfr vals3).sub (ts := [6]) (S' := [(6, q3)]) rfl
      exact L_val hS rfl (Ob_c tLinkH rfl) ⟨rfl, hG⟩
     refine .cons (fun ss hlo hhi vals3 xw hG hV => ?_) ?_
     ·obtain rfl : ss = 0 := Nat.le_antisymm hhi hlo
      rw [← hfe]
      have hS := (hfr vals3).sub (ts := [7]) (S' := [(7, .int .i64 i_3)]) rfl
      exact L_val hS rfl (Ob_c tLinkH rfl) ⟨rfl, hG⟩
     refine .cons (fun ss hlo hhi vals3 xw hG hV => ?_) ?_
     ·obtain rfl : ss = 0 := Nat.le_antisymm hhi hlo
      rw [← hfe]
      have hS := (hfr vals3).sub (ts := [39, 40]) (S' := [(39, vals3 5), (40, vals3 6)]) rfl
      replace hS := hS.conv (t := 39) rfl (show (vals3 5) = q3 from hV 5 (by decide))
      replace hS := hS.conv (t := 40) rfl (show (vals3 6) = .int .i64 i_3 from hV 6 (by decide))
      obtain ⟨I2, hI2, H⟩ := Gx.ex hG
      exact L_val hS rfl (Ob_sidx tLinkH rfl rfl rfl rfl (slPl (H.sl 5 rfl) hg11) hg11) ⟨rfl, hG⟩
     refine .cons (fun ss hlo hhi vals3 xw hG hV => ?_) ?_
     ·obtain rfl : ss = 0 := Nat.le_antisymm hhi hlo
      rw [← hfe]
      have hS := (hfr vals3).sub (ts := [41]) (S' := [(41, vals3 7)]) rfl
      replace hS := hS.conv (t := 41) rfl (show (vals3 7) = .pointer (some ⟨blkOf q3, oofOf q3 + (i_3).toNat * 8, none⟩) from hV 7 (by decide))
      obtain ⟨I2, hI2, H⟩ := Gx.ex hG
      exact L_val hS rfl (Ob_loads tLinkH rfl rfl rfl ((slFl (H.sl 5 rfl) hg11).part 0 rfl)) ⟨rfl, hG⟩
     refine .cons (fun ss hlo hhi vals3 xw hG hV => ?_) ?_
     ·obtain rfl : ss = 0 := Nat.le_antisymm hhi hlo
      rw [← hfe]
      have hS := (hfr vals3).sub (ts := [42]) (S' := [(42, vals3 8)]) rfl
      replace hS := hS.conv (t := 42) rfl (show (vals3 8) = .agg #[.int .i64 ((n0_2.getD (i_3).toNat default).boot), .int .i64 ((n0_2.getD (i_3).toNat default).stream), .int .i64 ((n0_2.getD (i_3).toNat default).seq), .int .i64 ((n0_2.getD (i_3).toNat default).ackBoot), .int .i64 ((n0_2.getD (i_3).toNat default).ackStream), .int .i64 ((n0_2.getD (i_3).toNat default).ackSeq), .bool ((n0_2.getD (i_3).toNat default).has), .string ((n0_2.getD (i_3).toNat default).body)] from hV 8 (by decide))
      obtain ⟨I2, hI2, H⟩ := Gx.ex hG
      exact L_bslice H (vs := [(0, .agg #[.int .i64 ((n0_2.getD (i_3).toNat default).boot), .int .i64 ((n0_2.getD (i_3).toNat default).stream), .int .i64 ((n0_2.getD (i_3).toNat default).seq), .int .i64 ((n0_2.getD (i_3).toNat default).ackBoot), .int .i64 ((n0_2.getD (i_3).toNat default).ackStream), .int .i64 ((n0_2.getD (i_3).toNat default).ackSeq), .bool ((n0_2.getD (i_3).toNat default).has), .string ((n0_2.getD (i_3).toNat default).body)])]) (cl := [.int .i64 ((n0_2.getD (i_3).toNat default).boot), .int .i64 ((n0_2.getD (i_3).toNat default).stream), .int .i64 ((n0_2.getD (i_3).toNat default).seq), .int .i64 ((n0_2.getD (i_3).toNat default).ackBoot), .int .i64 ((n0_2.getD (i_3).toNat default).ackStream), .int .i64 ((n0_2.getD (i_3).toNat default).ackSeq), .bool ((n0_2.getD (i_3).toNat default).has), .string ((n0_2.getD (i_3).toNat default).body)]) (e := 31) hS rfl rfl rfl (fun w => run_bslice (z := .agg #[.int .i64 0, .int .i64 0, .int .i64 0, .int .i64 0, .int .i64 0, .int .i64 0, .bool false, .string ByteArray.empty]) (m := 8) Try.underlying37 (by kernel_rfl) rfl rfl (by decide) (by simp [Instr.fill, Value.cells]) w) fun yw b hK H => ⟨rfl, Gx.go hG hI2 hK (fun _ h => h) H⟩
     refine .cons (fun ss hlo hhi vals3 xw hG hV => ?_) ?_
     ·obtain rfl : ss = 1 := Nat.le_antisymm hhi hlo
      rw [← hfe]
      have hS := (hfr vals3).sub (ts := [38, 43]) (S' := [(38, vals3 4), (43, vals3 9)]) rfl
      replace hS := hS.conv (t := 38) rfl (show (vals3 4) = v21 from hV 4 (by decide))
      replace hS := hS.conv (t := 43) rfl (show (vals3 9) = .slice (some ⟨blkOf (vals3 9), 0, none⟩) 1 1 from hV 9 (by decide))
      obtain ⟨I2, hI2, H⟩ := Gx.ex hG
      exact L_appO H 4 E_37_YLinkH [(n0_2.getD (i_3).toNat default)] rfl rfl hS rfl rfl rfl rfl (slRep2.box1 (H.bx 0 rfl) ⟨rfl, trivial⟩) hg12 (by decide) fun v yw hK H => ⟨trivial, Gx.go hG hI2 hK (fun _ h => h) (H.sub [(0, false), (1, false), (1, false), (1, false), (1, false), (1, true)] rfl)⟩
     refine .cons (fun ss hlo hhi vals3 xw hG hV => ?_) ?_
     ·obtain rfl : ss = 2 := Nat.le_antisymm hhi hlo
      rw [← hfe]
      have hS := (hfr vals3).sub (ts := [34]) (S' := [(34, vals3 0)]) rfl
      replace hS := hS.conv (t := 34) rfl (show (vals3 0) = .pointer (some ⟨b_p, 0, none⟩) from hV 0 (by decide))
      exact L_val hS rfl (Ob_c tLinkH rfl) ⟨rfl, hG⟩
     refine .cons (fun ss hlo hhi vals3 xw hG hV => ?_) ?_
     ·obtain rfl : ss = 2 := Nat.le_antisymm hhi hlo
      rw [← hfe]
      have hS := (hfr vals3).sub (ts := [45]) (S' := [(45, vals3 11)]) rfl
      replace hS := hS.conv (t := 45) rfl (show (vals3 11) = .pointer (some ⟨b_p, 0, none⟩) from hV 11 (by decide))
      exact L_val hS rfl (Ob_c tLinkH rfl) ⟨rfl, hG⟩
     refine .cons (fun ss hlo hhi vals3 xw hG hV => ?_) ?_
     ·obtain rfl : ss = 2 := Nat.le_antisymm hhi hlo
      rw [← hfe]
      have hS := (hfr vals3).sub (ts := [46, 44]) (S' := [(46, vals3 12), (44, vals3 10)]) rfl
      replace hS := hS.conv (t := 46) rfl (show (vals3 12) = .pointer (some ⟨b_p, 4, none⟩) from hV 12 (by decide))
      obtain ⟨I2, hI2, H⟩ := Gx.ex hG
      exact L_store tLinkH H 1 rfl hS rfl rfl rfl rfl rfl (slS.cells (H.owshape 0 rfl)) rfl rfl (one_cons (slS.one (H.owshape 0 rfl)) one_nil) (Nat.le_of_ble_eq_true rfl) rfl fun yw hK H => ⟨trivial, Gx.go hG hI2 hK (fun _ h => h) H⟩
     exact .nil
    ·intro vals3 a w15 Z hG hV
     replace Z := Z.sub (ts := [0, 1, 6, 7, 16, 17, 18, 19, 20, 23, 24, 31, 34, 35, 36, 37, 38, 39, 40, 41, 42, 43, 44, 45, 46]) (S' := [(0, .pointer (some ⟨b_p, 0, none⟩)), (1, .int .i64 side), (6, q3), (7, .int .i64 i_3), (16, .int .i64 i_3), (17, q3), (18, .int .i64 (n0_2.length : Int)), (19, .bool (decide (i_3 < (n0_2.length : Int)))), (20, .bool (decide (i_3 < (n0_2.length : Int)))), (23, .bool ((decide (i_3 < (n0_2.length : Int))) && (decide (i_3 < 9)))), (24, .bool ((decide (i_3 < (n0_2.length : Int))) && (decide (i_3 < 9)))), (31, .bool (((decide (i_3 < (n0_2.length : Int))) && (decide (i_3 < 9))) && (decide ((p_4.way.length : Int) < 200)))), (34, vals3 0), (35, vals3 1), (36, vals3 2), (37, vals3 3), (38, vals3 4), (39, vals3 5), (40, vals3 6), (41, vals3 7), (42, vals3 8), (43, vals3 9), (44, vals3 10), (45, vals3 11), (46, vals3 12)]) rfl
     replace Z := Z.conv (t := 34) rfl (show (vals3 0) = .pointer (some ⟨b_p, 0, none⟩) from hV 0 (by decide))
     replace Z := Z.conv (t := 35) rfl (show (vals3 1) = .pointer (some ⟨b_p, 0, none⟩) from hV 1 (by decide))
     replace Z := Z.conv (t := 36) rfl (show (vals3 2) = .pointer (some ⟨b_p, 0, none⟩) from hV 2 (by decide))
     replace Z := Z.conv (t := 37) rfl (show (vals3 3) = .pointer (some ⟨b_p, 4, none⟩) from hV 3 (by decide))
     replace Z := Z.conv (t := 38) rfl (show (vals3 4) = v21 from hV 4 (by decide))
     replace Z := Z.conv (t := 39) rfl (show (vals3 5) = q3 from hV 5 (by decide))
     replace Z := Z.conv (t := 40) rfl (show (vals3 6) = .int .i64 i_3 from hV 6 (by decide))
     replace Z := Z.conv (t := 41) rfl (show (vals3 7) = .pointer (some ⟨blkOf q3, oofOf q3 + (i_3).toNat * 8, none⟩) from hV 7 (by decide))
     replace Z := Z.conv (t := 42) rfl (show (vals3 8) = .agg #[.int .i64 ((n0_2.getD (i_3).toNat default).boot), .int .i64 ((n0_2.getD (i_3).toNat default).stream), .int .i64 ((n0_2.getD (i_3).toNat default).seq), .int .i64 ((n0_2.getD (i_3).toNat default).ackBoot), .int .i64 ((n0_2.getD (i_3).toNat default).ackStream), .int .i64 ((n0_2.getD (i_3).toNat default).ackSeq), .bool ((n0_2.getD (i_3).toNat default).has), .string ((n0_2.getD (i_3).toNat default).body)] from hV 8 (by decide))
     replace Z := Z.conv (t := 43) rfl (show (vals3 9) = .slice (some ⟨blkOf (vals3 9), 0, none⟩) 1 1 from hV 9 (by decide))
     replace Z := Z.conv (t := 45) rfl (show (vals3 11) = .pointer (some ⟨b_p, 0, none⟩) from hV 11 (by decide))
     replace Z := Z.conv (t := 46) rfl (show (vals3 12) = .pointer (some ⟨b_p, 4, none⟩) from hV 12 (by decide))
     obtain ⟨I9, _, H⟩ := Gx.ex hG
     clear hG hV
     replace Z := Z.sub (ts := [0, 1, 6, 7, 16, 17, 18, 19, 20, 23, 24, 31, 34, 35, 36, 37, 38, 39, 40, 41, 42, 43, 44, 45, 46]) rfl
     replace H : Hf I D w I9 w15 [BxC b_p 60 [v19, v20, .int .i64 (p_4.boot.getD 0 0), .int .i64 (p_4.boot.getD 1 0), (vals3 10), v22, .int .i64 (p_4.sent.getD 0 0), .int .i64 (p_4.sent.getD 1 0), .int .i64 (p_4.told.getD 0 0), .int .i64 (p_4.told.getD 1 0), .bool p_4.ok], OwC NESeg 31 (vals3 10) (p_4.way ++ [(n0_2.getD (i_3).toNat default)]), PtC OElink_Link v19 (p_4.l.getD 0 none), PtC OElink_Link v20 (p_4.l.getD 1 none), OwC Ni64 3 v22 p_4.to_, SlC NESeg q3 n0_2] := H
     refine p_then ?_
     obtain ⟨hg13, hF⟩ := chk_in hF
     obtain ⟨hg14, hF⟩ := chk_in hF
     refine f_region Z ?_; clear Z; intro Z
     refine s_runk tLinkH Z 4 rfl rfl ?_; clear Z a; intro a Z
     refine s_ob Z (v := v22) rfl rfl (by decide) rfl (Ob_load tLinkH rfl rfl rfl ((H.bx 0 rfl).cell 5 rfl)) ?_; clear Z a; intro a Z
     refine s_runk tLinkH Z 1 rfl rfl ?_; clear Z a; intro a Z
     refine s_ob Z (v := .int .i64 (1 - side)) rfl rfl (by decide) rfl (Ob_sub rfl rfl rfl (wrI hg13)) ?_; clear Z a; intro a Z
     refine h_bslice Z H (vs := [(0, .int .i64 (1 - side))]) (cl := [.int .i64 (1 - side)]) (e := 3) rfl rfl rfl (by decide) rfl rfl (fun w => run_bslice (z := .int .i64 0) (m := 1) Try.underlying58 (by kernel_rfl) rfl rfl (by decide) (by simp [Instr.fill, Value.cells]) w) ?_; clear Z a H; intro a w16 b5 H Z
     refine h_appO Z H 5 E_58_YLinkH [1 - side] rfl rfl rfl rfl rfl (by decide) rfl rfl rfl (slRep2.box1 (H.bx 0 rfl) ⟨rfl, trivial⟩) hg14 (by decide) ?_; clear Z a H; intro v23 a w17 H Z
     dsimp only [List.eraseIdx] at H
     replace H : Hf I D w I9 w17 [OwC Ni64 3 v23 (p_4.to_ ++ [1 - side]), BxC b_p 60 [v19, v20, .int .i64 (p_4.boot.getD 0 0), .int .i64 (p_4.boot.getD 1 0), (vals3 10), v22, .int .i64 (p_4.sent.getD 0 0), .int .i64 (p_4.sent.getD 1 0), .int .i64 (p_4.told.getD 0 0), .int .i64 (p_4.told.getD 1 0), .bool p_4.ok], OwC NESeg 31 (vals3 10) (p_4.way ++ [(n0_2.getD (i_3).toNat default)]), PtC OElink_Link v19 (p_4.l.getD 0 none), PtC OElink_Link v20 (p_4.l.getD 1 none), SlC NESeg q3 n0_2] := H.sub [(0, false), (1, false), (1, false), (1, false), (1, false), (1, true)] rfl
     refine s_runk tLinkH Z 2 rfl rfl ?_; clear Z a; intro a Z
     refine h_store tLinkH Z H 1 rfl rfl rfl rfl rfl rfl (slS.cells (H.owshape 0 rfl)) rfl rfl (one_cons (slS.one (H.owshape 0 rfl)) one_nil) (Nat.le_of_ble_eq_true rfl) rfl ?_; clear H; intro w18 H
     dsimp only [List.eraseIdx] at H
     refine s_end Z [0, 1, 6, 7, 16, 17, 18, 19, 20, 23, 24, 31, 34, 35, 36, 37, 38, 39, 40, 41, 42, 43, 44, 45, 46, 47, 48, 49, 50, 51, 52, 53, 54, 55, 56, 57] rfl ?_; clear Z; intro Z
     refine p_blk ?_
     refine p_then ?_
     obtain ⟨hg15, hF⟩ := chk_in hF
     refine f_region Z ?_; clear Z; intro Z
     refine s_runk tLinkH Z 1 rfl rfl ?_; clear Z a; intro a Z
     refine s_ob Z (v := .int .i64 (i_3 + 1)) rfl rfl (by decide) rfl (Ob_add rfl rfl rfl (wrI hg15)) ?_; clear Z a; intro a Z
     refine s_runk tLinkH Z 1 rfl rfl ?_; clear Z a; intro a Z
     refine s_end Z [0, 1, 6, 7, 16, 17, 18, 19, 20, 23, 24, 31, 34, 35, 36, 37, 38, 39, 40, 41, 42, 43, 44, 45, 46, 47, 48, 49, 50, 51, 52, 53, 54, 55, 56, 57, 32, 33] rfl ?_; clear Z; intro Z
     refine p_then ?_
     replace H : Hf I D w I9 w18 [OElaw22_pair b_p ({ p_4 with way := p_4.way ++ [(n0_2.getD (i_3).toNat default)], to_ := p_4.to_ ++ [1 - side] } : Elaw22_pair), SlC NESeg q3 n0_2] := H.shutX (v19, v20, (vals3 10), v23) [(0, false), (2, false), (2, false), (1, false), (0, false)] rfl
     exact ⟨(i_3 + 1, ({ p_4 with way := p_4.way ++ [(n0_2.getD (i_3).toNat default)], to_ := p_4.to_ ++ [1 - side] } : Elaw22_pair)), ⟨Z.sub (ts := [0, 1, 6, 7]) rfl, ⟨I9, (H.sub [(0, false), (0, true)] rfl).eq rfl⟩⟩, hF⟩
   ·replace hF := ite_f hc3 hF
    refine wp_exit ?_
    refine p_then_x ?_
    refine p_then_x ?_
    refine f_exit_here ?_
    replace H : Hf I D w I8 w14 [OElaw22_pair b_p p_4, SlC NESeg q3 n0_2] := H.shutX (v19, v20, v21, v22) [(0, false), (0, false), (0, false), (0, false), (0, false)] rfl
    obtain rfl := some_in hF
    exact f_fall Z (run_results0 rfl) ⟨rfl, I8, (H.sub [(0, false)] rfl).eq rfl⟩
  ·obtain ⟨b4, hv, H⟩ := H.optS 2 rfl ho2
   subst hv
   replace H : Hf I D w I w [OElink_Link b4 x_2, BxC b_p 60 [v15, .pointer (some ⟨b4, 0, none⟩), .int .i64 (p.boot.getD 0 0), .int .i64 (p.boot.getD 1 0), v17, v18, .int .i64 (p.sent.getD 0 0), .int .i64 (p.sent.getD 1 0), .int .i64 (p.told.getD 0 0), .int .i64 (p.told.getD 1 0), .bool p.ok], PtC OElink_Link v15 (p.l.getD 0 none), OwC NESeg 31 v17 p.way, OwC Ni64 3 v18 p.to_] := H
   obtain ⟨o_2, hx4, hF⟩ := bnd_in hF
   refine f_region Z ?_; clear Z; intro Z
   refine s_runk tLinkH Z 4 rfl rfl ?_; clear Z a; intro a Z
   refine s_ob Z (v := .pointer (some ⟨b_p, 1, none⟩)) rfl rfl (by decide) rfl (Ob_apix (m := 1) 1 rfl rfl rfl Try.underlying56 (by kernel_rfl) (eq_of_beq hi2) (by decide)) ?_; clear Z a; intro a Z
   refine s_ob Z (v := .pointer (some ⟨b4, 0, none⟩)) rfl rfl (by decide) rfl (Ob_load tLinkH rfl rfl rfl ((H.bx 1 rfl).cell 1 rfl)) ?_; clear Z a; intro a Z
   refine s_runk tLinkH Z 1 rfl rfl ?_; clear Z a; intro a Z
   refine h_call Z H (js := [(0, false)]) rfl (caps := #[]) fn_13_YLinkH rfl rfl rfl rfl rfl (by decide) rfl rfl (fun D1 hS => have hq := c_link_Link_Out hx4 hS; hq) ?_; clear Z a; intro vv a w19 D2 hr hF2 Z
   obtain ⟨q4, hvv, I10, K⟩ := hr; obtain rfl := hvv.symm
   have H : Hf I D w I10 w19 [OElink_Link b4 o_2.2, SlC NESeg q4 o_2.1, BxC b_p 60 [v15, .pointer (some ⟨b4, 0, none⟩), .int .i64 (p.boot.getD 0 0), .int .i64 (p.boot.getD 1 0), v17, v18, .int .i64 (p.sent.getD 0 0), .int .i64 (p.sent.getD 1 0), .int .i64 (p.told.getD 0 0), .int .i64 (p.told.getD 1 0), .bool p.ok], PtC OElink_Link v15 (p.l.getD 0 none), OwC NESeg 31 v17 p.way, OwC Ni64 3 v18 p.to_] := hF2 K
   clear hF2 K
   refine s_runk tLinkH Z 1 rfl rfl ?_; clear Z a; intro a Z
   refine s_end Z [0, 1, 6] rfl ?_; clear Z; intro Z
   refine p_then (wp_seq (f_region Z ?_)); clear Z; intro Z
   refine s_runk tLinkH Z 1 rfl rfl ?_; clear Z a; intro a Z
   refine s_end Z [0, 1, 6, 7] rfl ?_; clear Z; intro Z
   refine p_then (wp_block ?_)
   replace H : Hf I D w I10 w19 [PtC OElink_Link (.pointer (some ⟨b4, 0, none⟩)) (some o_2.2), SlC NESeg q4 o_2.1, BxC b_p 60 [v15, .pointer (some ⟨b4, 0, none⟩), .int .i64 (p.boot.getD 0 0), .int .i64 (p.boot.getD 1 0), v17, v18, .int .i64 (p.sent.getD 0 0), .int .i64 (p.sent.getD 1 0), .int .i64 (p.told.getD 0 0), .int .i64 (p.told.getD 1 0), .bool p.ok], PtC OElink_Link v15 (p.l.getD 0 none), OwC NESeg 31 v17 p.way, OwC Ni64 3 v18 p.to_] := H.mkS (K := OElink_Link) 0 rfl
   replace H : Hf I D w I10 w19 [OElaw22_pair b_p ({ p with l := [(p.l.getD 0 none), some o_2.2] } : Elaw22_pair), SlC NESeg q4 o_2.1] := H.shutX (v15, .pointer (some ⟨b4, 0, none⟩), v17, v18) [(2, false), (2, false), (0, false), (1, false), (1, false)] rfl
   refine f_iter hF (fun sg a' w' => match sg with | (i_4, p_5) => Sl 58 [(0, .pointer (some ⟨b_p, 0, none⟩)), (1, .int .i64 side), (6, q4), (7, .int .i64 i_4)] a' ∧ ∃ I2, Hf I D w I2 w' [OElaw22_pair b_p p_5, SlC NESeg q4 o_2.1]) ⟨Z.sub (ts := [0, 1, 6, 7]) rfl, ⟨I10, (H.sub [(0, false), (0, true)] rfl).eq rfl⟩⟩ ?_
   clear Z H hF a
   rintro rc_4 ⟨i_4, p_5⟩ a w20 ⟨Z, I11, H⟩ hF
   unfold F_law22_pair_out_l4 at hF
   try dsimp only at hF
   refine wp_seq ?_
   refine wp_seq (f_region Z ?_); clear Z; intro Z
   refine s_runk tLinkH Z 2 rfl rfl ?_; clear Z a; intro a Z
   refine s_ob Z (v := .int .i64 (o_2.1.length : Int)) rfl rfl (by decide) rfl (Ob_slen tLinkH rfl rfl rfl (H.slshape 1 rfl)) ?_; clear Z a; intro a Z
   refine s_runk tLinkH Z 2 rfl rfl ?_; clear Z a; intro a Z
   refine g_ob Z (p := (decide (i_4 < (o_2.1.length : Int)))) (v := .int .i64 i_4) (S' := [(7, .int .i64 i_4)]) rfl rfl rfl (wantB_t _) rfl (by decide) (fun hp hS => hS.sub (ts := [7]) rfl) (fun hp => Ob_c tLinkH rfl) ?_; clear Z a; intro a Z
   refine g_ob Z (p := (decide (i_4 < (o_2.1.length : Int)))) (v := .bool (decide (i_4 < 9))) (S' := [(21, .int .i64 i_4)]) rfl rfl rfl (wantB_t _) rfl (by decide) (fun hp hS => (hS.conv (t := 21) rfl (cond_t hp)).sub (ts := [21]) rfl) (fun hp => Ob_c tLinkH rfl) ?_; clear Z a; intro a Z
   refine s_ob Z (v := .bool ((decide (i_4 < (o_2.1.length : Int))) && (decide (i_4 < 9)))) rfl rfl (by decide) rfl (Ob_pick rfl rfl rfl rfl (pick_and _ _)) ?_; clear Z a; intro a Z
   refine s_runk tLinkH Z 1 rfl rfl ?_; clear Z a; intro a Z
   refine g_ob Z (p := ((decide (i_4 < (o_2.1.length : Int))) && (decide (i_4 < 9)))) (v := .pointer (some ⟨b_p, 0, none⟩)) (S' := [(0, .pointer (some ⟨b_p, 0, none⟩))]) rfl rfl rfl (wantB_t _) rfl (by decide) (fun hp hS => hS.sub (ts := [0]) rfl) (fun hp => Ob_c tLinkH rfl) ?_; clear Z a; intro a Z
   refine g_ob Z (p := ((decide (i_4 < (o_2.1.length : Int))) && (decide (i_4 < 9)))) (v := .pointer (some ⟨b_p, 0, none⟩)) (S' := [(25, .pointer (some ⟨b_p, 0, none⟩))]) rfl rfl rfl (wantB_t _) rfl (by decide) (fun hp hS => (hS.conv (t := 25) rfl (cond_t hp)).sub (ts := [25]) rfl) (fun hp => Ob_c tLinkH rfl) ?_; clear Z a; intro a Z
   refine g_ob Z (p := ((decide (i_4 < (o_2.1.length : Int))) && (decide (i_4 < 9)))) (v := .pointer (some ⟨b_p, 4, none⟩)) (S' := [(26, .pointer (some ⟨b_p, 0, none⟩))]) rfl rfl rfl (wantB_t _) rfl (by decide) (fun hp hS => (hS.conv (t := 26) rfl (cond_t hp)).sub (ts := [26]) rfl) (fun hp => Ob_c tLinkH rfl) ?_; clear Z a; intro a Z
   obtain ⟨⟨v24, v25, v26, v27⟩, H⟩ := H.openX 0 rfl
   replace H : Hf I D w I11 w20 [BxC b_p 60 [v24, v25, .int .i64 (p_5.boot.getD 0 0), .int .i64 (p_5.boot.getD 1 0), v26, v27, .int .i64 (p_5.sent.getD 0 0), .int .i64 (p_5.sent.getD 1 0), .int .i64 (p_5.told.getD 0 0), .int .i64 (p_5.told.getD 1 0), .bool p_5.ok], PtC OElink_Link v24 (p_5.l.getD 0 none), PtC OElink_Link v25 (p_5.l.getD 1 none), OwC NESeg 31 v26 p_5.way, OwC Ni64 3 v27 p_5.to_, SlC NESeg q4 o_2.1] := H
   refine g_ob Z (p := ((decide (i_4 < (o_2.1.length : Int))) && (decide (i_4 < 9)))) (v := v26) (S' := [(27, .pointer (some ⟨b_p, 4, none⟩))]) rfl rfl rfl (wantB_t _) rfl (by decide) (fun hp hS => (hS.conv (t := 27) rfl (cond_t hp)).sub (ts := [27]) rfl) (fun hp => Ob_load tLinkH rfl rfl rfl ((H.bx 0 rfl).cell 4 rfl)) ?_; clear Z a; intro a Z
   refine g_ob Z (p := ((decide (i_4 < (o_2.1.length : Int))) && (decide (i_4 < 9)))) (v := .int .i64 (p_5.way.length : Int)) (S' := [(28, v26)]) rfl rfl rfl (wantB_t _) rfl (by decide) (fun hp hS => (hS.conv (t := 28) rfl (cond_t hp)).sub (ts := [28]) rfl) (fun hp => Ob_slen tLinkH rfl rfl rfl (H.owshape 3 rfl)) ?_; clear Z a; intro a Z
   refine g_ob Z (p := ((decide (i_4 < (o_2.1.length : Int))) && (decide (i_4 < 9)))) (v := .bool (decide ((p_5.way.length : Int) < 200))) (S' := [(29, .int .i64 (p_5.way.length : Int))]) rfl rfl rfl (wantB_t _) rfl (by decide) (fun hp hS => (hS.conv (t := 29) rfl (cond_t hp)).sub (ts := [29]) rfl) (fun hp => Ob_c tLinkH rfl) ?_; clear Z a; intro a Z
   refine s_ob Z (v := .bool (((decide (i_4 < (o_2.1.length : Int))) && (decide (i_4 < 9))) && (decide ((p_5.way.length : Int) < 200)))) rfl rfl (by decide) rfl (Ob_pick rfl rfl rfl rfl (pick_and _ _)) ?_; clear Z a; intro a Z
   refine s_end Z [0, 1, 6, 7, 16, 17, 18, 19, 20, 23, 24, 31] rfl ?_; clear Z; intro Z
   refine p_then ?_
   refine f_cond Z rfl (fun hc4 => ?_) (fun hc4 => ?_)
   ·replace hF := ite_t hc4 hF
    refine wp_skip ?_
    refine p_then (wp_seq ?_)
    refine wp_block ?_
    refine wp_seq ?_
    obtain ⟨hg16, hF⟩ := chk_in hF
    obtain ⟨hg17, hF⟩ := chk_in hF
    refine f_regionL Z (by kernel_rfl) (by kernel_rfl) (by decide) (by decide) [9, 10, 13] [(0, 0, 2), (0, 0, 1), (2, 0, 1), (6, 0, 1), (14, 0, 1), (0, 0, 0), (0, 0, 0), (96, 0, 0), (224, 0, 0), (480, 0, 0), (1022, 1, 1), (2047, 2, 2), (4095, 2, 2), (8191, 2, 2)] (by kernel_rfl) (fun jj vv => cond (Nat.blt jj 7) (cond (Nat.blt jj 3) (cond (Nat.blt jj 1) (vv = .pointer (some ⟨b_p, 0, none⟩)) (cond (Nat.blt jj 2) (vv = .pointer (some ⟨b_p, 0, none⟩)) (vv = .pointer (some ⟨b_p, 0, none⟩)))) (cond (Nat.blt jj 5) (cond (Nat.blt jj 4) (vv = .pointer (some ⟨b_p, 4, none⟩)) (vv = v26)) (cond (Nat.blt jj 6) (vv = q4) (vv = .int .i64 i_4)))) (cond (Nat.blt jj 10) (cond (Nat.blt jj 8) (vv = .pointer (some ⟨blkOf q4, oofOf q4 + (i_4).toNat * 8, none⟩)) (cond (Nat.blt jj 9) (vv = .agg #[.int .i64 ((o_2.1.getD (i_4).toNat default).boot), .int .i64 ((o_2.1.getD (i_4).toNat default).stream), .int .i64 ((o_2.1.getD (i_4).toNat default).seq), .int .i64 ((o_2.1.getD (i_4).toNat default).ackBoot), .int .i64 ((o_2.1.getD (i_4).toNat default).ackStream), .int .i64 ((o_2.1.getD (i_4).toNat default).ackSeq), .bool ((o_2.1.getD (i_4).toNat default).has), .string ((o_2.1.getD (i_4).toNat default).body)]) (vv = .slice (some ⟨blkOf vv, 0, none⟩) 1 1))) (cond (Nat.blt jj 12) (cond (Nat.blt jj 11) (True) (vv = .pointer (some ⟨b_p, 0, none⟩))) (cond (Nat.blt jj 13) (vv = .pointer (some ⟨b_p, 4, none⟩)) (True))))) (fun ss vals4 xw => match ss with | 0 => Gx I D w I11 w20 xw [BxC b_p 60 [v24, v25, .int .i64 (p_5.boot.getD 0 0), .int .i64 (p_5.boot.getD 1 0), v26, v27, .int .i64 (p_5.sent.getD 0 0), .int .i64 (p_5.sent.getD 1 0), .int .i64 (p_5.told.getD 0 0), .int .i64 (p_5.told.getD 1 0), .bool p_5.ok], PtC OElink_Link v24 (p_5.l.getD 0 none), PtC OElink_Link v25 (p_5.l.getD 1 none), OwC NESeg 31 v26 p_5.way, OwC Ni64 3 v27 p_5.to_, SlC NESeg q4 o_2.1] | 1 => Gx I D w I11 w20 xw [BxC (blkOf (vals4 9)) 31 [.int .i64 ((o_2.1.getD (i_4).toNat default).boot), .int .i64 ((o_2.1.getD (i_4).toNat default).stream), .int .i64 ((o_2.1.getD (i_4).toNat default).seq), .int .i64 ((o_2.1.getD (i_4).toNat default).ackBoot), .int .i64 ((o_2.1.getD (i_4).toNat default).ackStream), .int .i64 ((o_2.1.getD (i_4).toNat default).ackSeq), .bool ((o_2.1.getD (i_4).toNat default).has), .string ((o_2.1.getD (i_4).toNat default).body)], BxC b_p 60 [v24, v25, .int .i64 (p_5.boot.getD 0 0), .int .i64 (p_5.boot.getD 1 0), v26, v27, .int .i64 (p_5.sent.getD 0 0), .int .i64 (p_5.sent.getD 1 0), .int .i64 (p_5.told.getD 0 0), .int .i64 (p_5.told.getD 1 0), .bool p_5.ok], PtC OElink_Link v24 (p_5.l.getD 0 none), PtC OElink_Link v25 (p_5.l.getD 1 none), OwC NESeg 31 v26 p_5.way, OwC Ni64 3 v27 p_5.to_, SlC NESeg q4 o_2.1] | 2 => Gx I D w I11 w20 xw [OwC NESeg 31 (vals4 10) (p_5.way ++ [(o_2.1.getD (i_4).toNat default)]), BxC b_p 60 [v24, v25, .int .i64 (p_5.boot.getD 0 0), .int .i64 (p_5.boot.getD 1 0), v26, v27, .int .i64 (p_5.sent.getD 0 0), .int .i64 (p_5.sent.getD 1 0), .int .i64 (p_5.told.getD 0 0), .int .i64 (p_5.told.getD 1 0), .bool p_5.ok], PtC OElink_Link v24 (p_5.l.getD 0 none), PtC OElink_Link v25 (p_5.l.getD 1 none), OwC Ni64 3 v27 p_5.to_, SlC NESeg q4 o_2.1] | _ => Gx I D w I11 w20 xw [BxC b_p 60 [v24, v25, .int .i64 (p_5.boot.getD 0 0), .int .i64 (p_5.boot.getD 1 0), (vals4 10), v27, .int .i64 (p_5.sent.getD 0 0), .int .i64 (p_5.sent.getD 1 0), .int .i64 (p_5.told.getD 0 0), .int .i64 (p_5.told.getD 1 0), .bool p_5.ok], OwC NESeg 31 (vals4 10) (p_5.way ++ [(o_2.1.getD (i_4).toNat default)]), PtC OElink_Link v24 (p_5.l.getD 0 none), PtC OElink_Link v25 (p_5.l.getD 1 none), OwC Ni64 3 v27 p_5.to_, SlC NESeg q4 o_2.1]) (fun _ => Gx.start H) ?_ ?_
    ·intro fr hfr hfe
     refine .cons (fun ss hlo hhi vals4 xw hG hV => ?_) ?_
     ·obtain rfl | rfl | rfl : ss = 0 ∨ ss = 1 ∨ ss = 2 := st2 hlo hhi
      all_goals
      ·rw [← hfe]
       have hS := (hfr vals4).sub (ts := [0]) (S' := [(0, .pointer (some ⟨b_p, 0, none⟩))]) rfl
       exact L_val hS rfl (Ob_c tLinkH rfl) ⟨rfl, hG⟩
     refine .cons (fun ss hlo hhi vals4 xw hG hV => ?_) ?_
     ·obtain rfl | rfl : ss = 0 ∨ ss = 1 := st1 hlo hhi
      all_goals
      ·rw [← hfe]
       have hS := (hfr vals4).sub (ts := [0]) (S' := [(0, .pointer (some ⟨b_p, 0, none⟩))]) rfl
       exact L_val hS rfl (Ob_c tLinkH rfl) ⟨rfl, hG⟩
     refine .cons (fun ss hlo hhi vals4 xw hG hV => ?_) ?_
     ·obtain rfl | rfl : ss = 0 ∨ ss = 1 := st1 hlo hhi
      all_goals
      ·rw [← hfe]
       have hS := (hfr vals4).sub (ts := [35]) (S' := [(35, vals4 1)]) rfl
       replace hS := hS.conv (t := 35) rfl (show (vals4 1) = .pointer (some ⟨b_p, 0, none⟩) from hV 1 (by decide))
       exact L_val hS rfl (Ob_c tLinkH rfl) ⟨rfl, hG⟩
     refine .cons (fun ss hlo hhi vals4 xw hG hV => ?_) ?_
     ·obtain rfl | rfl : ss = 0 ∨ ss = 1 := st1 hlo hhi
      all_goals
      ·rw [← hfe]
       have hS := (hfr vals4).sub (ts := [36]) (S' := [(36, vals4 2)]) rfl
       replace hS := hS.conv (t := 36) rfl (show (vals4 2) = .pointer (some ⟨b_p, 0, none⟩) from hV 2 (by decide))
       exact L_val hS rfl (Ob_c tLinkH rfl) ⟨rfl, hG⟩
     refine .cons (fun ss hlo hhi vals4 xw hG hV => ?_) ?_
     ·obtain rfl | rfl : ss = 0 ∨ ss = 1 := st1 hlo hhi
      ·rw [← hfe]
       have hS := (hfr vals4).sub (ts := [37]) (S' := [(37, vals4 3)]) rfl
       replace hS := hS.conv (t := 37) rfl (show (vals4 3) = .pointer (some ⟨b_p, 4, none⟩) from hV 3 (by decide))
       obtain ⟨I2, hI2, H⟩ := Gx.ex hG
       exact L_val hS rfl (Ob_load tLinkH rfl rfl rfl ((H.bx 0 rfl).cell 4 rfl)) ⟨rfl, hG⟩
      ·rw [← hfe]
       have hS := (hfr vals4).sub (ts := [37]) (S' := [(37, vals4 3)]) rfl
       replace hS := hS.conv (t := 37) rfl (show (vals4 3) = .pointer (some ⟨b_p, 4, none⟩) from hV 3 (by decide))
       obtain ⟨I2, hI2, H⟩ := Gx.ex hG
       exact L_val hS rfl (Ob_load tLinkH rfl rfl rfl ((H.bx 1 rfl).cell 4 rfl)) ⟨rfl, hG⟩
     refine .cons (fun ss hlo hhi vals4 xw hG hV => ?_) ?_
     ·obtain rfl : ss = 0 := Nat.le_antisymm hhi hlo
      rw [← hfe]
      have hS := (hfr vals4).sub (ts := [6]) (S' := [(6, q4)]) rfl
      exact L_val hS rfl (Ob_c tLinkH rfl) ⟨rfl, hG⟩
     refine .cons (fun ss hlo hhi vals4 xw hG hV => ?_) ?_
     ·obtain rfl : ss = 0 := Nat.le_antisymm hhi hlo
      rw [← hfe]
      have hS := (hfr vals4).sub (ts := [7]) (S' := [(7, .int .i64 i_4)]) rfl
      exact L_val hS rfl (Ob_c tLinkH rfl) ⟨rfl, hG⟩
     refine .cons (fun ss hlo hhi vals4 xw hG hV => ?_) ?_
     ·obtain rfl : ss = 0 := Nat.le_antisymm hhi hlo
      rw [← hfe]
      have hS := (hfr vals4).sub (ts := [39, 40]) (S' := [(39, vals4 5), (40, vals4 6)]) rfl
      replace hS := hS.conv (t := 39) rfl (show (vals4 5) = q4 from hV 5 (by decide))
      replace hS := hS.conv (t := 40) rfl (show (vals4 6) = .int .i64 i_4 from hV 6 (by decide))
      obtain ⟨I2, hI2, H⟩ := Gx.ex hG
      exact L_val hS rfl (Ob_sidx tLinkH rfl rfl rfl rfl (slPl (H.sl 5 rfl) hg16) hg16) ⟨rfl, hG⟩
     refine .cons (fun ss hlo hhi vals4 xw hG hV => ?_) ?_
     ·obtain rfl : ss = 0 := Nat.le_antisymm hhi hlo
      rw [← hfe]
      have hS := (hfr vals4).sub (ts := [41]) (S' := [(41, vals4 7)]) rfl
      replace hS := hS.conv (t := 41) rfl (show (vals4 7) = .pointer (some ⟨blkOf q4, oofOf q4 + (i_4).toNat * 8, none⟩) from hV 7 (by decide))
      obtain ⟨I2, hI2, H⟩ := Gx.ex hG
      exact L_val hS rfl (Ob_loads tLinkH rfl rfl rfl ((slFl (H.sl 5 rfl) hg16).part 0 rfl)) ⟨rfl, hG⟩
     refine .cons (fun ss hlo hhi vals4 xw hG hV => ?_) ?_
     ·obtain rfl : ss = 0 := Nat.le_antisymm hhi hlo
      rw [← hfe]
      have hS := (hfr vals4).sub (ts := [42]) (S' := [(42, vals4 8)]) rfl
      replace hS := hS.conv (t := 42) rfl (show (vals4 8) = .agg #[.int .i64 ((o_2.1.getD (i_4).toNat default).boot), .int .i64 ((o_2.1.getD (i_4).toNat default).stream), .int .i64 ((o_2.1.getD (i_4).toNat default).seq), .int .i64 ((o_2.1.getD (i_4).toNat default).ackBoot), .int .i64 ((o_2.1.getD (i_4).toNat default).ackStream), .int .i64 ((o_2.1.getD (i_4).toNat default).ackSeq), .bool ((o_2.1.getD (i_4).toNat default).has), .string ((o_2.1.getD (i_4).toNat default).body)] from hV 8 (by decide))
      obtain ⟨I2, hI2, H⟩ := Gx.ex hG
      exact L_bslice H (vs := [(0, .agg #[.int .i64 ((o_2.1.getD (i_4).toNat default).boot), .int .i64 ((o_2.1.getD (i_4).toNat default).stream), .int .i64 ((o_2.1.getD (i_4).toNat default).seq), .int .i64 ((o_2.1.getD (i_4).toNat default).ackBoot), .int .i64 ((o_2.1.getD (i_4).toNat default).ackStream), .int .i64 ((o_2.1.getD (i_4).toNat default).ackSeq), .bool ((o_2.1.getD (i_4).toNat default).has), .string ((o_2.1.getD (i_4).toNat default).body)])]) (cl := [.int .i64 ((o_2.1.getD (i_4).toNat default).boot), .int .i64 ((o_2.1.getD (i_4).toNat default).stream), .int .i64 ((o_2.1.getD (i_4).toNat default).seq), .int .i64 ((o_2.1.getD (i_4).toNat default).ackBoot), .int .i64 ((o_2.1.getD (i_4).toNat default).ackStream), .int .i64 ((o_2.1.getD (i_4).toNat default).ackSeq), .bool ((o_2.1.getD (i_4).toNat default).has), .string ((o_2.1.getD (i_4).toNat default).body)]) (e := 31) hS rfl rfl rfl (fun w => run_bslice (z := .agg #[.int .i64 0, .int .i64 0, .int .i64 0, .int .i64 0, .int .i64 0, .int .i64 0, .bool false, .string ByteArray.empty]) (m := 8) Try.underlying37 (by kernel_rfl) rfl rfl (by decide) (by simp [Instr.fill, Value.cells]) w) fun yw b hK H => ⟨rfl, Gx.go hG hI2 hK (fun _ h => h) H⟩
     refine .cons (fun ss hlo hhi vals4 xw hG hV => ?_) ?_
     ·obtain rfl : ss = 1 := Nat.le_antisymm hhi hlo
      rw [← hfe]
      have hS := (hfr vals4).sub (ts := [38, 43]) (S' := [(38, vals4 4), (43, vals4 9)]) rfl
      replace hS := hS.conv (t := 38) rfl (show (vals4 4) = v26 from hV 4 (by decide))
      replace hS := hS.conv (t := 43) rfl (show (vals4 9) = .slice (some ⟨blkOf (vals4 9), 0, none⟩) 1 1 from hV 9 (by decide))
      obtain ⟨I2, hI2, H⟩ := Gx.ex hG
      exact L_appO H 4 E_37_YLinkH [(o_2.1.getD (i_4).toNat default)] rfl rfl hS rfl rfl rfl rfl (slRep2.box1 (H.bx 0 rfl) ⟨rfl, trivial⟩) hg17 (by decide) fun v yw hK H => ⟨trivial, Gx.go hG hI2 hK (fun _ h => h) (H.sub [(0, false), (1, false), (1, false), (1, false), (1, false), (1, true)] rfl)⟩
     refine .cons (fun ss hlo hhi vals4 xw hG hV => ?_) ?_
     ·obtain rfl : ss = 2 := Nat.le_antisymm hhi hlo
      rw [← hfe]
      have hS := (hfr vals4).sub (ts := [34]) (S' := [(34, vals4 0)]) rfl
      replace hS := hS.conv (t := 34) rfl (show (vals4 0) = .pointer (some ⟨b_p, 0, none⟩) from hV 0 (by decide))
      exact L_val hS rfl (Ob_c tLinkH rfl) ⟨rfl, hG⟩
     refine .cons (fun ss hlo hhi vals4 xw hG hV => ?_) ?_
     ·obtain rfl : ss = 2 := Nat.le_antisymm hhi hlo
      rw [← hfe]
      have hS := (hfr vals4).sub (ts := [45]) (S' := [(45, vals4 11)]) rfl
      replace hS := hS.conv (t := 45) rfl (show (vals4 11) = .pointer (some ⟨b_p, 0, none⟩) from hV 11 (by decide))
      exact L_val hS rfl (Ob_c tLinkH rfl) ⟨rfl, hG⟩
     refine .cons (fun ss hlo hhi vals4 xw hG hV => ?_) ?_
     ·obtain rfl : ss = 2 := Nat.le_antisymm hhi hlo
      rw [← hfe]
      have hS := (hfr vals4).sub (ts := [46, 44]) (S' := [(46, vals4 12), (44, vals4 10)]) rfl
      replace hS := hS.conv (t := 46) rfl (show (vals4 12) = .pointer (some ⟨b_p, 4, none⟩) from hV 12 (by decide))
      obtain ⟨I2, hI2, H⟩ := Gx.ex hG
      exact L_store tLinkH H 1 rfl hS rfl rfl rfl rfl rfl (slS.cells (H.owshape 0 rfl)) rfl rfl (one_cons (slS.one (H.owshape 0 rfl)) one_nil) (Nat.le_of_ble_eq_true rfl) rfl fun yw hK H => ⟨trivial, Gx.go hG hI2 hK (fun _ h => h) H⟩
     exact .nil
    ·intro vals4 a w21 Z hG hV
     replace Z := Z.sub (ts := [0, 1, 6, 7, 16, 17, 18, 19, 20, 23, 24, 31, 34, 35, 36, 37, 38, 39, 40, 41, 42, 43, 44, 45, 46]) (S' := [(0, .pointer (some ⟨b_p, 0, none⟩)), (1, .int .i64 side), (6, q4), (7, .int .i64 i_4), (16, .int .i64 i_4), (17, q4), (18, .int .i64 (o_2.1.length : Int)), (19, .bool (decide (i_4 < (o_2.1.length : Int)))), (20, .bool (decide (i_4 < (o_2.1.length : Int)))), (23, .bool ((decide (i_4 < (o_2.1.length : Int))) && (decide (i_4 < 9)))), (24, .bool ((decide (i_4 < (o_2.1.length : Int))) && (decide (i_4 < 9)))), (31, .bool (((decide (i_4 < (o_2.1.length : Int))) && (decide (i_4 < 9))) && (decide ((p_5.way.length : Int) < 200)))), (34, vals4 0), (35, vals4 1), (36, vals4 2), (37, vals4 3), (38, vals4 4), (39, vals4 5), (40, vals4 6), (41, vals4 7), (42, vals4 8), (43, vals4 9), (44, vals4 10), (45, vals4 11), (46, vals4 12)]) rfl
     replace Z := Z.conv (t := 34) rfl (show (vals4 0) = .pointer (some ⟨b_p, 0, none⟩) from hV 0 (by decide))
     replace Z := Z.conv (t := 35) rfl (show (vals4 1) = .pointer (some ⟨b_p, 0, none⟩) from hV 1 (by decide))
     replace Z := Z.conv (t := 36) rfl (show (vals4 2) = .pointer (some ⟨b_p, 0, none⟩) from hV 2 (by decide))
     replace Z := Z.conv (t := 37) rfl (show (vals4 3) = .pointer (some ⟨b_p, 4, none⟩) from hV 3 (by decide))
     replace Z := Z.conv (t := 38) rfl (show (vals4 4) = v26 from hV 4 (by decide))
     replace Z := Z.conv (t := 39) rfl (show (vals4 5) = q4 from hV 5 (by decide))
     replace Z := Z.conv (t := 40) rfl (show (vals4 6) = .int .i64 i_4 from hV 6 (by decide))
     replace Z := Z.conv (t := 41) rfl (show (vals4 7) = .pointer (some ⟨blkOf q4, oofOf q4 + (i_4).toNat * 8, none⟩) from hV 7 (by decide))
     replace Z := Z.conv (t := 42) rfl (show (vals4 8) = .agg #[.int .i64 ((o_2.1.getD (i_4).toNat default).boot), .int .i64 ((o_2.1.getD (i_4).toNat default).stream), .int .i64 ((o_2.1.getD (i_4).toNat default).seq), .int .i64 ((o_2.1.getD (i_4).toNat default).ackBoot), .int .i64 ((o_2.1.getD (i_4).toNat default).ackStream), .int .i64 ((o_2.1.getD (i_4).toNat default).ackSeq), .bool ((o_2.1.getD (i_4).toNat default).has), .string ((o_2.1.getD (i_4).toNat default).body)] from hV 8 (by decide))
     replace Z := Z.conv (t := 43) rfl (show (vals4 9) = .slice (some ⟨blkOf (vals4 9), 0, none⟩) 1 1 from hV 9 (by decide))
     replace Z := Z.conv (t := 45) rfl (show (vals4 11) = .pointer (some ⟨b_p, 0, none⟩) from hV 11 (by decide))
     replace Z := Z.conv (t := 46) rfl (show (vals4 12) = .pointer (some ⟨b_p, 4, none⟩) from hV 12 (by decide))
     obtain ⟨I12, _, H⟩ := Gx.ex hG
     clear hG hV
     replace Z := Z.sub (ts := [0, 1, 6, 7, 16, 17, 18, 19, 20, 23, 24, 31, 34, 35, 36, 37, 38, 39, 40, 41, 42, 43, 44, 45, 46]) rfl
     replace H : Hf I D w I12 w21 [BxC b_p 60 [v24, v25, .int .i64 (p_5.boot.getD 0 0), .int .i64 (p_5.boot.getD 1 0), (vals4 10), v27, .int .i64 (p_5.sent.getD 0 0), .int .i64 (p_5.sent.getD 1 0), .int .i64 (p_5.told.getD 0 0), .int .i64 (p_5.told.getD 1 0), .bool p_5.ok], OwC NESeg 31 (vals4 10) (p_5.way ++ [(o_2.1.getD (i_4).toNat default)]), PtC OElink_Link v24 (p_5.l.getD 0 none), PtC OElink_Link v25 (p_5.l.getD 1 none), OwC Ni64 3 v27 p_5.to_, SlC NESeg q4 o_2.1] := H
     refine p_then ?_
     obtain ⟨hg18, hF⟩ := chk_in hF
     obtain ⟨hg19, hF⟩ := chk_in hF
     refine f_region Z ?_; clear Z; intro Z
     refine s_runk tLinkH Z 4 rfl rfl ?_; clear Z a; intro a Z
     refine s_ob Z (v := v27) rfl rfl (by decide) rfl (Ob_load tLinkH rfl rfl rfl ((H.bx 0 rfl).cell 5 rfl)) ?_; clear Z a; intro a Z
     refine s_runk tLinkH Z 1 rfl rfl ?_; clear Z a; intro a Z
     refine s_ob Z (v := .int .i64 (1 - side)) rfl rfl (by decide) rfl (Ob_sub rfl rfl rfl (wrI hg18)) ?_; clear Z a; intro a Z
     refine h_bslice Z H (vs := [(0, .int .i64 (1 - side))]) (cl := [.int .i64 (1 - side)]) (e := 3) rfl rfl rfl (by decide) rfl rfl (fun w => run_bslice (z := .int .i64 0) (m := 1) Try.underlying58 (by kernel_rfl) rfl rfl (by decide) (by simp [Instr.fill, Value.cells]) w) ?_; clear Z a H; intro a w22 b6 H Z
     refine h_appO Z H 5 E_58_YLinkH [1 - side] rfl rfl rfl rfl rfl (by decide) rfl rfl rfl (slRep2.box1 (H.bx 0 rfl) ⟨rfl, trivial⟩) hg19 (by decide) ?_; clear Z a H; intro v28 a w23 H Z
     dsimp only [List.eraseIdx] at H
     replace H : Hf I D w I12 w23 [OwC Ni64 3 v28 (p_5.to_ ++ [1 - side]), BxC b_p 60 [v24, v25, .int .i64 (p_5.boot.getD 0 0), .int .i64 (p_5.boot.getD 1 0), (vals4 10), v27, .int .i64 (p_5.sent.getD 0 0), .int .i64 (p_5.sent.getD 1 0), .int .i64 (p_5.told.getD 0 0), .int .i64 (p_5.told.getD 1 0), .bool p_5.ok], OwC NESeg 31 (vals4 10) (p_5.way ++ [(o_2.1.getD (i_4).toNat default)]), PtC OElink_Link v24 (p_5.l.getD 0 none), PtC OElink_Link v25 (p_5.l.getD 1 none), SlC NESeg q4 o_2.1] := H.sub [(0, false), (1, false), (1, false), (1, false), (1, false), (1, true)] rfl
     refine s_runk tLinkH Z 2 rfl rfl ?_; clear Z a; intro a Z
     refine h_store tLinkH Z H 1 rfl rfl rfl rfl rfl rfl (slS.cells (H.owshape 0 rfl)) rfl rfl (one_cons (slS.one (H.owshape 0 rfl)) one_nil) (Nat.le_of_ble_eq_true rfl) rfl ?_; clear H; intro w24 H
     dsimp only [List.eraseIdx] at H
     refine s_end Z [0, 1, 6, 7, 16, 17, 18, 19, 20, 23, 24, 31, 34, 35, 36, 37, 38, 39, 40, 41, 42, 43, 44, 45, 46, 47, 48, 49, 50, 51, 52, 53, 54, 55, 56, 57] rfl ?_; clear Z; intro Z
     refine p_blk ?_
     refine p_then ?_
     obtain ⟨hg20, hF⟩ := chk_in hF
     refine f_region Z ?_; clear Z; intro Z
     refine s_runk tLinkH Z 1 rfl rfl ?_; clear Z a; intro a Z
     refine s_ob Z (v := .int .i64 (i_4 + 1)) rfl rfl (by decide) rfl (Ob_add rfl rfl rfl (wrI hg20)) ?_; clear Z a; intro a Z
     refine s_runk tLinkH Z 1 rfl rfl ?_; clear Z a; intro a Z
     refine s_end Z [0, 1, 6, 7, 16, 17, 18, 19, 20, 23, 24, 31, 34, 35, 36, 37, 38, 39, 40, 41, 42, 43, 44, 45, 46, 47, 48, 49, 50, 51, 52, 53, 54, 55, 56, 57, 32, 33] rfl ?_; clear Z; intro Z
     refine p_then ?_
     replace H : Hf I D w I12 w24 [OElaw22_pair b_p ({ p_5 with way := p_5.way ++ [(o_2.1.getD (i_4).toNat default)], to_ := p_5.to_ ++ [1 - side] } : Elaw22_pair), SlC NESeg q4 o_2.1] := H.shutX (v24, v25, (vals4 10), v28) [(0, false), (2, false), (2, false), (1, false), (0, false)] rfl
     exact ⟨(i_4 + 1, ({ p_5 with way := p_5.way ++ [(o_2.1.getD (i_4).toNat default)], to_ := p_5.to_ ++ [1 - side] } : Elaw22_pair)), ⟨Z.sub (ts := [0, 1, 6, 7]) rfl, ⟨I12, (H.sub [(0, false), (0, true)] rfl).eq rfl⟩⟩, hF⟩
   ·replace hF := ite_f hc4 hF
    refine wp_exit ?_
    refine p_then_x ?_
    refine p_then_x ?_
    refine f_exit_here ?_
    replace H : Hf I D w I11 w20 [OElaw22_pair b_p p_5, SlC NESeg q4 o_2.1] := H.shutX (v24, v25, v26, v27) [(0, false), (0, false), (0, false), (0, false), (0, false)] rfl
    obtain rfl := some_in hF
    exact f_fall Z (run_results0 rfl) ⟨rfl, I11, (H.sub [(0, false)] rfl).eq rfl⟩
 replace hF := ite_f hi2 hF
 cases hF

end Go.Proofs.Ythomnhhjgcabkaa
