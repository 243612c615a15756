/- Links: two sides, LinkOnce. -/
import Derived.Test.YthomnhhjgcabkaaYLinkI
namespace Go.Proofs.Ythomnhhjgcabkaa
open Go.RowKit
def tLinkJL : TabL := ⟨[(61446, 10)], [], [], [(50, (55, 3))], [(4, (1, false)), (55, (3, true))]⟩

def tLinkJ : Tab Try.prog := ⟨tLinkJL, by kernel_rfl⟩

theorem fn_20_YLinkJ : IsFn Try.prog 20 := ⟨_, Try.func20, by kernel_rfl, by kernel_rfl⟩

theorem fn_21_YLinkJ : IsFn Try.prog 21 := ⟨_, Try.func21, by kernel_rfl, by kernel_rfl⟩

theorem fn_22_YLinkJ : IsFn Try.prog 22 := ⟨_, Try.func22, by kernel_rfl, by kernel_rfl⟩

def F_law22_LinkOnce_l1 (l : List Elaw22_Step) (rc : (Int × Elaw22_pair) → Option Bool) (sg : Int × Elaw22_pair) : Option Bool := match sg with | (i, p) => if ((decide (i < (l.length : Int))) && (decide (i < 200))) = true then (chk ((0 : Int) ≤ i ∧ i < (l.length : Int)) ((F_law22_pair_step p (l.getD (i).toNat default)).bind fun s0 => (if (!s0.ok) = true then (some false) else (chk (inI (i + 1)) (rc (i + 1, s0)))))) else ((F_law22_awake).bind fun a0 => (some a0))

def F_law22_LinkOnce (l : List Elaw22_Step) : Option Bool := (F_law22_both).bind fun b => (optE b (some false) (fun x => iter (F_law22_LinkOnce_l1 l) FU (0, x)))

set_option maxHeartbeats 1000000 in
theorem c_law22_LinkOnce {I D : Dm} {l : List Elaw22_Step} {v1_l : Value} {w : World} {rr : Bool} (hF : F_law22_LinkOnce l = some rr) (H : St I D w [SlC NElaw22_Step v1_l l]) :
  Calls Try.prog 4 #[v1_l] w (Ret fun vv w' => vv = .bool rr ∧ ∃ I', Hf I D w I' w' []) := by
 replace H := H.hf
 unfold F_law22_LinkOnce at hF
 refine f_enter 30 Try.func4 rfl rfl (Nat.le_of_ble_eq_true rfl) fun a Z => ?_
 replace Z := Z.sub (ts := [0]) rfl
 refine wp_seq (f_region Z ?_); clear Z; intro Z
 refine s_runk tLinkJ Z 1 rfl rfl ?_; clear Z a; intro a Z
 refine s_end Z [0, 2] rfl ?_; clear Z; intro Z
 refine p_then (wp_seq ?_)
 obtain ⟨b, hx1, hF⟩ := bnd_in hF
 refine f_region Z ?_; clear Z; intro Z
 refine h_call Z H (js := []) rfl (caps := #[]) fn_21_YLinkJ rfl rfl rfl rfl rfl (by decide) rfl rfl (fun D1 hS => have hq := c_law22_both hx1 hS; hq) ?_; clear Z a; intro vv a w1 D2 hr hF2 Z
 obtain ⟨q1, hvv, I1, K⟩ := hr; obtain rfl := hvv.symm
 have H : Hf I D w I1 w1 [PtC OElaw22_pair q1 b, SlC NElaw22_Step v1_l l] := hF2 K
 clear hF2 K
 refine s_runk tLinkJ Z 1 rfl rfl ?_; clear Z a; intro a Z
 refine s_end Z [0, 2, 3] rfl ?_; clear Z; intro Z
 rcases optE_in hF with ⟨ho1, hF⟩ | ⟨x, ho1, hF⟩
 ·obtain ⟨hv, H⟩ := H.optN 0 rfl ho1
  subst hv
  replace H : Hf I D w I1 w1 [SlC NElaw22_Step v1_l l] := H
  refine p_then (wp_seq ?_)
  refine wp_seq (f_region Z ?_); clear Z; intro Z
  refine s_runk tLinkJ Z 1 rfl rfl ?_; clear Z a; intro a Z
  refine s_ob Z (v := .bool true) rfl rfl (by decide) rfl (Ob_pnil rfl rfl rfl Try.underlying51 (.inl ⟨rfl, rfl⟩)) ?_; clear Z a; intro a Z
  refine s_end Z [0, 2, 3, 7] rfl ?_; clear Z; intro Z
  refine p_then ?_
  refine wp_cond_true (Z.ev rfl) ?_
  refine wp_seq (f_region Z ?_); clear Z; intro Z
  refine s_runk tLinkJ Z 1 rfl rfl ?_; clear Z a; intro a Z
  refine s_end Z [0, 2, 3] rfl ?_; clear Z; intro Z
  refine p_then (wp_ret ?_)
  refine p_then_r ?_
  obtain rfl := some_in hF
  exact f_ret Z (run_results1 rfl Z rfl) ⟨rfl, I1, (H.sub [] rfl).eq rfl⟩
 ·obtain ⟨b1, hv, H⟩ := H.optS 0 rfl ho1
  subst hv
  replace H : Hf I D w I1 w1 [OElaw22_pair b1 x, SlC NElaw22_Step v1_l l] := H
  refine p_then (wp_seq ?_)
  refine wp_seq (f_region Z ?_); clear Z; intro Z
  refine s_runk tLinkJ Z 1 rfl rfl ?_; clear Z a; intro a Z
  refine s_ob Z (v := .bool false) rfl rfl (by decide) rfl (Ob_pnil rfl rfl rfl Try.underlying51 (.inl ⟨rfl, rfl⟩)) ?_; clear Z a; intro a Z
  refine s_end Z [0, 2, 3, 7] rfl ?_; clear Z; intro Z
  refine p_then ?_
  refine wp_cond_false (Z.ev rfl) ?_
  refine wp_skip ?_
  refine p_then (wp_seq ?_)
  refine wp_seq (f_region Z ?_); clear Z; intro Z
  refine s_runk tLinkJ Z 1 rfl rfl ?_; clear Z a; intro a Z
  refine s_end Z [0, 2, 3, 4] rfl ?_; clear Z; intro Z
  refine p_then (wp_block ?_)
  refine f_iter hF (fun sg a' w' => match sg with | (i, p) => Sl 30 [(0, v1_l), (2, .bool false), (3, .pointer (some ⟨b1, 0, none⟩)), (4, .int .i64 i)] a' ∧ ∃ I2, Hf I D w I2 w' [OElaw22_pair b1 p, SlC NElaw22_Step v1_l l]) ⟨Z.sub (ts := [0, 2, 3, 4]) rfl, ⟨I1, (H.sub [(0, false), (0, true)] rfl).eq rfl⟩⟩ ?_
  clear Z H hF a
  rintro rc ⟨i, p⟩ a w2 ⟨Z, I2, H⟩ hF
  unfold F_law22_LinkOnce_l1 at hF
  try dsimp only at hF
  refine wp_seq ?_
  refine wp_seq (f_region Z ?_); clear Z; intro Z
  refine s_runk tLinkJ Z 2 rfl rfl ?_; clear Z a; intro a Z
  refine s_ob Z (v := .int .i64 (l.length : Int)) rfl rfl (by decide) rfl (Ob_slen tLinkJ rfl rfl rfl (H.slshape 1 rfl)) ?_; clear Z a; intro a Z
  refine s_runk tLinkJ Z 2 rfl rfl ?_; clear Z a; intro a Z
  refine g_ob Z (p := (decide (i < (l.length : Int)))) (v := .int .i64 i) (S' := [(4, .int .i64 i)]) rfl rfl rfl (wantB_t _) rfl (by decide) (fun hp hS => hS.sub (ts := [4]) rfl) (fun hp => Ob_c tLinkJ rfl) ?_; clear Z a; intro a Z
  refine g_ob Z (p := (decide (i < (l.length : Int)))) (v := .bool (decide (i < 200))) (S' := [(13, .int .i64 i)]) rfl rfl rfl (wantB_t _) rfl (by decide) (fun hp hS => (hS.conv (t := 13) rfl (cond_t hp)).sub (ts := [13]) rfl) (fun hp => Ob_c tLinkJ rfl) ?_; clear Z a; intro a Z
  refine s_ob Z (v := .bool ((decide (i < (l.length : Int))) && (decide (i < 200)))) rfl rfl (by decide) rfl (Ob_pick rfl rfl rfl rfl (pick_and _ _)) ?_; clear Z a; intro a Z
  refine s_end Z [0, 2, 3, 4, 8, 9, 10, 11, 12, 15] rfl ?_; clear Z; intro Z
  refine p_then ?_
  refine f_cond Z rfl (fun hc1 => ?_) (fun hc1 => ?_)
  ·replace hF := ite_t hc1 hF
   refine wp_skip ?_
   refine p_then (wp_seq ?_)
   refine wp_block ?_
   refine wp_seq ?_
   obtain ⟨hg1, hF⟩ := chk_in hF
   obtain ⟨s0, hx2, hF⟩ := bnd_in hF
   refine f_region Z ?_; clear Z; intro Z
   refine s_runk tLinkJ Z 3 rfl rfl ?_; clear Z a; intro a Z
   refine s_ob Z (v := .pointer (some ⟨blkOf v1_l, oofOf v1_l + (i).toNat * 3, none⟩)) rfl rfl (by decide) rfl (Ob_sidx tLinkJ rfl rfl rfl rfl (slPl (H.sl 1 rfl) hg1) hg1) ?_; clear Z a; intro a Z
   refine s_ob Z (v := .agg #[.int .i64 ((l.getD (i).toNat default).k), .int .u8 ((l.getD (i).toNat default).n), .bool ((l.getD (i).toNat default).again)]) rfl rfl (by decide) rfl (Ob_loads tLinkJ rfl rfl rfl ((slFl (H.sl 1 rfl) hg1).part 0 rfl)) ?_; clear Z a; intro a Z
   refine h_call Z H (js := [(0, false)]) rfl (caps := #[]) fn_22_YLinkJ rfl rfl rfl rfl rfl (by decide) rfl rfl (fun D1 hS => have hq := c_law22_pair_step hx2 hS; hq) ?_; clear Z a; intro vv a w3 D2 hr hF2 Z
   obtain ⟨rfl, I3, K⟩ := hr
   have H : Hf I D w I3 w3 [OElaw22_pair b1 s0, SlC NElaw22_Step v1_l l] := hF2 K
   clear hF2 K
   refine s_end Z [0, 2, 3, 4, 8, 9, 10, 11, 12, 15, 18, 19, 20, 21, 22] rfl ?_; clear Z; intro Z
   refine p_then (wp_seq (f_region Z ?_)); clear Z; intro Z
   refine s_runk tLinkJ Z 3 rfl rfl ?_; clear Z a; intro a Z
   obtain ⟨⟨v2, v3, v4, v5⟩, H⟩ := H.openX 0 rfl
   replace H : Hf I D w I3 w3 [BxC b1 60 [v2, v3, .int .i64 (s0.boot.getD 0 0), .int .i64 (s0.boot.getD 1 0), v4, v5, .int .i64 (s0.sent.getD 0 0), .int .i64 (s0.sent.getD 1 0), .int .i64 (s0.told.getD 0 0), .int .i64 (s0.told.getD 1 0), .bool s0.ok], PtC OElink_Link v2 (s0.l.getD 0 none), PtC OElink_Link v3 (s0.l.getD 1 none), OwC NESeg 31 v4 s0.way, OwC Ni64 3 v5 s0.to_, SlC NElaw22_Step v1_l l] := H
   refine s_ob Z (v := .bool s0.ok) rfl rfl (by decide) rfl (Ob_load tLinkJ rfl rfl rfl ((H.bx 0 rfl).cell 10 rfl)) ?_; clear Z a; intro a Z
   refine s_runk tLinkJ Z 1 rfl rfl ?_; clear Z a; intro a Z
   refine s_end Z [0, 2, 3, 4, 8, 9, 10, 11, 12, 15, 18, 19, 20, 21, 22, 24, 25, 26, 27, 28] rfl ?_; clear Z; intro Z
   refine p_then ?_
   refine f_cond Z rfl (fun hc2 => ?_) (fun hc2 => ?_)
   ·replace hF := ite_t hc2 hF
    refine wp_seq (f_region Z ?_); clear Z; intro Z
    refine s_runk tLinkJ Z 1 rfl rfl ?_; clear Z a; intro a Z
    refine s_end Z [0, 2, 3, 4, 8, 9, 10, 11, 12, 15, 18, 19, 20, 21, 22, 24, 25, 26, 27, 28] rfl ?_; clear Z; intro Z
    refine p_then (wp_ret ?_)
    refine p_blk_r ?_
    refine p_then_r ?_
    refine p_then_r ?_
    refine p_blk_r ?_
    refine p_then_r ?_
    obtain rfl := some_in hF
    exact f_ret Z (run_results1 rfl Z rfl) ⟨rfl, I3, (H.sub [] rfl).eq rfl⟩
   ·replace hF := ite_f hc2 hF
    refine wp_skip ?_
    refine p_blk ?_
    refine p_then ?_
    obtain ⟨hg2, hF⟩ := chk_in hF
    refine f_region Z ?_; clear Z; intro Z
    refine s_runk tLinkJ Z 1 rfl rfl ?_; clear Z a; intro a Z
    refine s_ob Z (v := .int .i64 (i + 1)) rfl rfl (by decide) rfl (Ob_add rfl rfl rfl (wrI hg2)) ?_; clear Z a; intro a Z
    refine s_runk tLinkJ Z 1 rfl rfl ?_; clear Z a; intro a Z
    refine s_end Z [0, 2, 3, 4, 8, 9, 10, 11, 12, 15, 18, 19, 20, 21, 22, 24, 25, 26, 27, 28, 16, 17] rfl ?_; clear Z; intro Z
    refine p_then ?_
    replace H : Hf I D w I3 w3 [OElaw22_pair b1 s0, SlC NElaw22_Step v1_l l] := H.shutX (v2, v3, v4, v5) [(0, false), (0, false), (0, false), (0, false), (0, false)] rfl
    exact ⟨(i + 1, s0), ⟨Z.sub (ts := [0, 2, 3, 4]) rfl, ⟨I3, (H.sub [(0, false), (0, true)] rfl).eq rfl⟩⟩, hF⟩
  ·replace hF := ite_f hc1 hF
   refine wp_exit ?_
   refine p_then_x ?_
   refine p_then_x ?_
   refine f_exit_here ?_
   refine p_then (wp_seq ?_)
   obtain ⟨a0, hx3, hF⟩ := bnd_in hF
   refine f_region Z ?_; clear Z; intro Z
   refine h_call Z H (js := []) rfl (caps := #[]) fn_20_YLinkJ rfl rfl rfl rfl rfl (by decide) rfl rfl (fun D1 hS => have hq := c_law22_awake hx3 hS; hq) ?_; clear Z a; intro vv a w4 D2 hr hF2 Z
   obtain ⟨rfl, I4, K⟩ := hr
   have H : Hf I D w I4 w4 [OElaw22_pair b1 p, SlC NElaw22_Step v1_l l] := hF2 K
   clear hF2 K
   refine s_runk tLinkJ Z 1 rfl rfl ?_; clear Z a; intro a Z
   refine s_end Z [2] rfl ?_; clear Z; intro Z
   refine p_then (wp_ret ?_)
   obtain rfl := some_in hF
   exact f_ret Z (run_results1 rfl Z rfl) ⟨rfl, I4, (H.sub [] rfl).eq rfl⟩

end Go.Proofs.Ythomnhhjgcabkaa
