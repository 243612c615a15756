/- Links: two sides, LinkFair. -/
import Derived.Test.YthomnhhjgcabkaaYLinkI
namespace Go.Proofs.Ythomnhhjgcabkaa
open Go.RowKit
def tLinkKL : TabL := ⟨[(56320, 0), (61440, 0), (61442, 4), (61443, 5), (61444, 6), (61445, 8), (61446, 10)], [], [], [(37, (31, 8)), (50, (55, 3))], [(3, (1, false)), (4, (1, false)), (23, (1, false)), (37, (1, false)), (55, (3, true)), (58, (1, false))]⟩

def tLinkK : Tab Try.prog := ⟨tLinkKL, by kernel_rfl⟩

theorem fn_18_YLinkK : IsFn Try.prog 18 := ⟨_, Try.func18, by kernel_rfl, by kernel_rfl⟩

theorem fn_20_YLinkK : IsFn Try.prog 20 := ⟨_, Try.func20, by kernel_rfl, by kernel_rfl⟩

theorem fn_21_YLinkK : IsFn Try.prog 21 := ⟨_, Try.func21, by kernel_rfl, by kernel_rfl⟩

theorem fn_22_YLinkK : IsFn Try.prog 22 := ⟨_, Try.func22, by kernel_rfl, by kernel_rfl⟩

theorem fn_23_YLinkK : IsFn Try.prog 23 := ⟨_, Try.func23, by kernel_rfl, by kernel_rfl⟩

theorem fn_24_YLinkK : IsFn Try.prog 24 := ⟨_, Try.func24, by kernel_rfl, by kernel_rfl⟩

def F_law22_LinkFair_l3 (round : Int) (rc_2 : (Int × Elaw22_pair) → Option Bool) (rc_3 : (Int × Elaw22_pair) → Option Bool) (sg : Int × Elaw22_pair) : Option Bool := match sg with | (i_2, p_3) => if (decide (i_2 < (p_3.way.length : Int))) = true then ((F_law22_pair_come p_3 i_2).bind fun c => (chk (inI (i_2 + 1)) (rc_3 (i_2 + 1, c)))) else (chk (inI (round + 1)) (rc_2 (round + 1, p_3)))

def F_law22_LinkFair_l2 (started : Bool) (rc_2 : (Int × Elaw22_pair) → Option Bool) (sg : Int × Elaw22_pair) : Option Bool := match sg with | (round, p_2) => if ((decide (round < 8)) && p_2.ok) = true then ((F_law22_pair_out ({ p_2 with way := ([] : List ESeg), to_ := ([] : List Int) } : Elaw22_pair) 0 true).bind fun o => ((F_law22_pair_out o 1 true).bind fun o_2 => (iter (F_law22_LinkFair_l3 round rc_2) FU (0, o_2)))) else (optE (p_2.l.getD 0 none) (optE (p_2.l.getD 1 none) ((gif (!(!p_2.ok)) (F_link_Link_Waiting_nil) default).bind fun n0 => ((gif (!((!p_2.ok) || (n0 != 0))) (F_link_Link_Waiting_nil) default).bind fun n0_2 => (if (((!p_2.ok) || (n0 != 0)) || (n0_2 != 0)) = true then (some false) else ((gif (started || (((p_2.told.getD 0 0) == (p_2.sent.getD 1 0)) && ((p_2.told.getD 1 0) == (p_2.sent.getD 0 0)))) (F_law22_awake) default).bind fun a0 => (some ((started || (((p_2.told.getD 0 0) == (p_2.sent.getD 1 0)) && ((p_2.told.getD 1 0) == (p_2.sent.getD 0 0)))) && a0)))))) (fun x_3 => (gif (!(!p_2.ok)) (F_link_Link_Waiting_nil) default).bind fun n0_3 => ((gif (!((!p_2.ok) || (n0_3 != 0))) (F_link_Link_Waiting x_3) default).bind fun w0 => (if (((!p_2.ok) || (n0_3 != 0)) || (w0 != 0)) = true then (some false) else ((gif (started || (((p_2.told.getD 0 0) == (p_2.sent.getD 1 0)) && ((p_2.told.getD 1 0) == (p_2.sent.getD 0 0)))) (F_law22_awake) default).bind fun a0_2 => (some ((started || (((p_2.told.getD 0 0) == (p_2.sent.getD 1 0)) && ((p_2.told.getD 1 0) == (p_2.sent.getD 0 0)))) && a0_2))))))) (fun x_2 => optE (p_2.l.getD 1 none) ((gif (!(!p_2.ok)) (F_link_Link_Waiting x_2) default).bind fun w0_2 => ((gif (!((!p_2.ok) || (w0_2 != 0))) (F_link_Link_Waiting_nil) default).bind fun n0_4 => (if (((!p_2.ok) || (w0_2 != 0)) || (n0_4 != 0)) = true then (some false) else ((gif (started || (((p_2.told.getD 0 0) == (p_2.sent.getD 1 0)) && ((p_2.told.getD 1 0) == (p_2.sent.getD 0 0)))) (F_law22_awake) default).bind fun a0_3 => (some ((started || (((p_2.told.getD 0 0) == (p_2.sent.getD 1 0)) && ((p_2.told.getD 1 0) == (p_2.sent.getD 0 0)))) && a0_3)))))) (fun x_4 => (gif (!(!p_2.ok)) (F_link_Link_Waiting x_2) default).bind fun w0_3 => ((gif (!((!p_2.ok) || (w0_3 != 0))) (F_link_Link_Waiting x_4) default).bind fun w0_4 => (if (((!p_2.ok) || (w0_3 != 0)) || (w0_4 != 0)) = true then (some false) else ((gif (started || (((p_2.told.getD 0 0) == (p_2.sent.getD 1 0)) && ((p_2.told.getD 1 0) == (p_2.sent.getD 0 0)))) (F_law22_awake) default).bind fun a0_4 => (some ((started || (((p_2.told.getD 0 0) == (p_2.sent.getD 1 0)) && ((p_2.told.getD 1 0) == (p_2.sent.getD 0 0)))) && a0_4))))))))

def F_law22_LinkFair_l1 (l : List Elaw22_Step) (rc : (Bool × Int × Elaw22_pair) → Option Bool) (sg : Bool × Int × Elaw22_pair) : Option Bool := match sg with | (started, i, p) => if ((decide (i < (l.length : Int))) && (decide (i < 200))) = true then (chk ((0 : Int) ≤ i ∧ i < (l.length : Int)) ((F_law22_pair_step p (l.getD (i).toNat default)).bind fun s0 => (chk ((!started) = true → (0 : Int) ≤ i ∧ i < (l.length : Int)) (chk ((!(started || (decide ((l.getD (i).toNat default).k > 6)))) = true → (0 : Int) ≤ i ∧ i < (l.length : Int)) (chk (inI (i + 1)) (rc ((started || (decide ((l.getD (i).toNat default).k > 6))) || (decide ((l.getD (i).toNat default).k < 0)), i + 1, s0))))))) else (iter (F_law22_LinkFair_l2 started) FU (0, p))

def F_law22_LinkFair (l : List Elaw22_Step) : Option Bool := (F_law22_both).bind fun b => (optE b (some false) (fun x => iter (F_law22_LinkFair_l1 l) FU (false, 0, x)))

set_option maxHeartbeats 1000000 in
theorem c_law22_LinkFair {I D : Dm} {l : List Elaw22_Step} {v1_l : Value} {w : World} {rr : Bool} (hF : F_law22_LinkFair l = some rr) (H : St I D w [SlC NElaw22_Step v1_l l]) :
  Calls Try.prog 5 #[v1_l] w (Ret fun vv w' => vv = .bool rr ∧ ∃ I', Hf I D w I' w' []) := by
 replace H := H.hf
 unfold F_law22_LinkFair at hF
 refine f_enter 129 Try.func5 rfl rfl (Nat.le_of_ble_eq_true rfl) fun a Z => ?_
 replace Z := Z.sub (ts := [0]) rfl
 refine wp_seq (f_region Z ?_); clear Z; intro Z
 refine s_runk tLinkK Z 1 rfl rfl ?_; clear Z a; intro a Z
 refine s_end Z [0, 2] rfl ?_; clear Z; intro Z
 refine p_then (wp_seq ?_)
 obtain ⟨b, hx1, hF⟩ := bnd_in hF
 refine f_region Z ?_; clear Z; intro Z
 refine h_call Z H (js := []) rfl (caps := #[]) fn_21_YLinkK rfl rfl rfl rfl rfl (by decide) rfl rfl (fun D1 hS => have hq := c_law22_both hx1 hS; hq) ?_; clear Z a; intro vv a w1 D2 hr hF2 Z
 obtain ⟨q1, hvv, I1, K⟩ := hr; obtain rfl := hvv.symm
 have H : Hf I D w I1 w1 [PtC OElaw22_pair q1 b, SlC NElaw22_Step v1_l l] := hF2 K
 clear hF2 K
 refine s_runk tLinkK Z 1 rfl rfl ?_; clear Z a; intro a Z
 refine s_end Z [0, 2, 3] rfl ?_; clear Z; intro Z
 rcases optE_in hF with ⟨ho1, hF⟩ | ⟨x, ho1, hF⟩
 ·obtain ⟨hv, H⟩ := H.optN 0 rfl ho1
  subst hv
  replace H : Hf I D w I1 w1 [SlC NElaw22_Step v1_l l] := H
  refine p_then (wp_seq ?_)
  refine wp_seq (f_region Z ?_); clear Z; intro Z
  refine s_runk tLinkK Z 1 rfl rfl ?_; clear Z a; intro a Z
  refine s_ob Z (v := .bool true) rfl rfl (by decide) rfl (Ob_pnil rfl rfl rfl Try.underlying51 (.inl ⟨rfl, rfl⟩)) ?_; clear Z a; intro a Z
  refine s_end Z [0, 2, 3, 10] rfl ?_; clear Z; intro Z
  refine p_then ?_
  refine wp_cond_true (Z.ev rfl) ?_
  refine wp_seq (f_region Z ?_); clear Z; intro Z
  refine s_runk tLinkK Z 1 rfl rfl ?_; clear Z a; intro a Z
  refine s_end Z [0, 2, 3] rfl ?_; clear Z; intro Z
  refine p_then (wp_ret ?_)
  refine p_then_r ?_
  obtain rfl := some_in hF
  exact f_ret Z (run_results1 rfl Z rfl) ⟨rfl, I1, (H.sub [] rfl).eq rfl⟩
 ·obtain ⟨b1, hv, H⟩ := H.optS 0 rfl ho1
  subst hv
  replace H : Hf I D w I1 w1 [OElaw22_pair b1 x, SlC NElaw22_Step v1_l l] := H
  refine p_then (wp_seq ?_)
  refine wp_seq (f_region Z ?_); clear Z; intro Z
  refine s_runk tLinkK Z 1 rfl rfl ?_; clear Z a; intro a Z
  refine s_ob Z (v := .bool false) rfl rfl (by decide) rfl (Ob_pnil rfl rfl rfl Try.underlying51 (.inl ⟨rfl, rfl⟩)) ?_; clear Z a; intro a Z
  refine s_end Z [0, 2, 3, 10] rfl ?_; clear Z; intro Z
  refine p_then ?_
  refine wp_cond_false (Z.ev rfl) ?_
  refine wp_skip ?_
  refine p_then (wp_seq (f_region Z ?_)); clear Z; intro Z
  refine s_runk tLinkK Z 1 rfl rfl ?_; clear Z a; intro a Z
  refine s_end Z [0, 2, 3, 4] rfl ?_; clear Z; intro Z
  refine p_then (wp_seq ?_)
  refine wp_seq (f_region Z ?_); clear Z; intro Z
  refine s_runk tLinkK Z 1 rfl rfl ?_; clear Z a; intro a Z
  refine s_end Z [0, 2, 3, 4, 5] rfl ?_; clear Z; intro Z
  refine p_then (wp_block ?_)
  refine f_iter hF (fun sg a' w' => match sg with | (started, i, p) => Sl 129 [(0, v1_l), (2, .bool false), (3, .pointer (some ⟨b1, 0, none⟩)), (4, .bool started), (5, .int .i64 i)] a' ∧ ∃ I2, Hf I D w I2 w' [OElaw22_pair b1 p, SlC NElaw22_Step v1_l l]) ⟨Z.sub (ts := [0, 2, 3, 4, 5]) rfl, ⟨I1, (H.sub [(0, false), (0, true)] rfl).eq rfl⟩⟩ ?_
  clear Z H hF a
  rintro rc ⟨started, i, p⟩ a w2 ⟨Z, I2, H⟩ hF
  unfold F_law22_LinkFair_l1 at hF
  try dsimp only at hF
  refine wp_seq ?_
  refine wp_seq (f_region Z ?_); clear Z; intro Z
  refine s_runk tLinkK Z 2 rfl rfl ?_; clear Z a; intro a Z
  refine s_ob Z (v := .int .i64 (l.length : Int)) rfl rfl (by decide) rfl (Ob_slen tLinkK rfl rfl rfl (H.slshape 1 rfl)) ?_; clear Z a; intro a Z
  refine s_runk tLinkK Z 2 rfl rfl ?_; clear Z a; intro a Z
  refine g_ob Z (p := (decide (i < (l.length : Int)))) (v := .int .i64 i) (S' := [(5, .int .i64 i)]) rfl rfl rfl (wantB_t _) rfl (by decide) (fun hp hS => hS.sub (ts := [5]) rfl) (fun hp => Ob_c tLinkK rfl) ?_; clear Z a; intro a Z
  refine g_ob Z (p := (decide (i < (l.length : Int)))) (v := .bool (decide (i < 200))) (S' := [(16, .int .i64 i)]) rfl rfl rfl (wantB_t _) rfl (by decide) (fun hp hS => (hS.conv (t := 16) rfl (cond_t hp)).sub (ts := [16]) rfl) (fun hp => Ob_c tLinkK rfl) ?_; clear Z a; intro a Z
  refine s_ob Z (v := .bool ((decide (i < (l.length : Int))) && (decide (i < 200)))) rfl rfl (by decide) rfl (Ob_pick rfl rfl rfl rfl (pick_and _ _)) ?_; clear Z a; intro a Z
  refine s_end Z [0, 2, 3, 4, 5, 11, 12, 13, 14, 15, 18] rfl ?_; clear Z; intro Z
  refine p_then ?_
  refine f_cond Z rfl (fun hc1 => ?_) (fun hc1 => ?_)
  ·replace hF := ite_t hc1 hF
   refine wp_skip ?_
   refine p_then (wp_seq ?_)
   refine wp_block ?_
   refine wp_seq ?_
   obtain ⟨hg1, hF⟩ := chk_in hF
   obtain ⟨s0, hx2, hF⟩ := bnd_in hF
   refine f_region Z ?_; clear Z; intro Z
   refine s_runk tLinkK Z 3 rfl rfl ?_; clear Z a; intro a Z
   refine s_ob Z (v := .pointer (some ⟨blkOf v1_l, oofOf v1_l + (i).toNat * 3, none⟩)) rfl rfl (by decide) rfl (Ob_sidx tLinkK rfl rfl rfl rfl (slPl (H.sl 1 rfl) hg1) hg1) ?_; clear Z a; intro a Z
   refine s_ob Z (v := .agg #[.int .i64 ((l.getD (i).toNat default).k), .int .u8 ((l.getD (i).toNat default).n), .bool ((l.getD (i).toNat default).again)]) rfl rfl (by decide) rfl (Ob_loads tLinkK rfl rfl rfl ((slFl (H.sl 1 rfl) hg1).part 0 rfl)) ?_; clear Z a; intro a Z
   refine h_call Z H (js := [(0, false)]) rfl (caps := #[]) fn_22_YLinkK rfl rfl rfl rfl rfl (by decide) rfl rfl (fun D1 hS => have hq := c_law22_pair_step hx2 hS; hq) ?_; clear Z a; intro vv a w3 D2 hr hF2 Z
   obtain ⟨rfl, I3, K⟩ := hr
   have H : Hf I D w I3 w3 [OElaw22_pair b1 s0, SlC NElaw22_Step v1_l l] := hF2 K
   clear hF2 K
   refine s_end Z [0, 2, 3, 4, 5, 11, 12, 13, 14, 15, 18, 21, 22, 23, 24, 25] rfl ?_; clear Z; intro Z
   refine p_then ?_
   obtain ⟨hg2, hF⟩ := chk_in hF
   obtain ⟨hg3, hF⟩ := chk_in hF
   refine f_region Z ?_; clear Z; intro Z
   refine s_runk tLinkK Z 2 rfl rfl ?_; clear Z a; intro a Z
   refine g_ob Z (p := (!started)) (v := v1_l) (S' := [(0, v1_l)]) rfl rfl rfl (wantB_f _) rfl (by decide) (fun hp hS => hS.sub (ts := [0]) rfl) (fun hp => Ob_c tLinkK rfl) ?_; clear Z a; intro a Z
   refine g_ob Z (p := (!started)) (v := .int .i64 i) (S' := [(5, .int .i64 i)]) rfl rfl rfl (wantB_f _) rfl (by decide) (fun hp hS => hS.sub (ts := [5]) rfl) (fun hp => Ob_c tLinkK rfl) ?_; clear Z a; intro a Z
   refine g_ob Z (p := (!started)) (v := .pointer (some ⟨blkOf v1_l, oofOf v1_l + (i).toNat * 3, none⟩)) (S' := [(29, v1_l), (30, .int .i64 i)]) rfl rfl rfl (wantB_f _) rfl (by decide) (fun hp hS => ((hS.conv (t := 29) rfl (cond_t hp)).conv (t := 30) rfl (cond_t hp)).sub (ts := [29, 30]) rfl) (fun hp => Ob_sidx tLinkK rfl rfl rfl rfl (slPl (H.sl 1 rfl) (hg2 hp)) (hg2 hp)) ?_; clear Z a; intro a Z
   refine g_ob Z (p := (!started)) (v := .pointer (some ⟨blkOf v1_l, oofOf v1_l + (i).toNat * 3, none⟩)) (S' := [(31, .pointer (some ⟨blkOf v1_l, oofOf v1_l + (i).toNat * 3, none⟩))]) rfl rfl rfl (wantB_f _) rfl (by decide) (fun hp hS => (hS.conv (t := 31) rfl (cond_t hp)).sub (ts := [31]) rfl) (fun hp => Ob_c tLinkK rfl) ?_; clear Z a; intro a Z
   refine g_ob Z (p := (!started)) (v := .int .i64 ((l.getD (i).toNat default).k)) (S' := [(32, .pointer (some ⟨blkOf v1_l, oofOf v1_l + (i).toNat * 3, none⟩))]) rfl rfl rfl (wantB_f _) rfl (by decide) (fun hp hS => (hS.conv (t := 32) rfl (cond_t hp)).sub (ts := [32]) rfl) (fun hp => Ob_load tLinkK rfl rfl rfl ((slFl (H.sl 1 rfl) (hg2 hp)) 0 _ rfl)) ?_; clear Z a; intro a Z
   refine g_ob Z (p := (!started)) (v := .bool (decide ((l.getD (i).toNat default).k > 6))) (S' := [(33, .int .i64 ((l.getD (i).toNat default).k))]) rfl rfl rfl (wantB_f _) rfl (by decide) (fun hp hS => (hS.conv (t := 33) rfl (cond_t hp)).sub (ts := [33]) rfl) (fun hp => Ob_c tLinkK rfl) ?_; clear Z a; intro a Z
   refine s_ob Z (v := .bool (started || (decide ((l.getD (i).toNat default).k > 6)))) rfl rfl (by decide) rfl (Ob_pick rfl rfl rfl rfl (pick_or _ _)) ?_; clear Z a; intro a Z
   refine s_runk tLinkK Z 1 rfl rfl ?_; clear Z a; intro a Z
   refine g_ob Z (p := (!(started || (decide ((l.getD (i).toNat default).k > 6))))) (v := v1_l) (S' := [(0, v1_l)]) rfl rfl rfl (wantB_f _) rfl (by decide) (fun hp hS => hS.sub (ts := [0]) rfl) (fun hp => Ob_c tLinkK rfl) ?_; clear Z a; intro a Z
   refine g_ob Z (p := (!(started || (decide ((l.getD (i).toNat default).k > 6))))) (v := .int .i64 i) (S' := [(5, .int .i64 i)]) rfl rfl rfl (wantB_f _) rfl (by decide) (fun hp hS => hS.sub (ts := [5]) rfl) (fun hp => Ob_c tLinkK rfl) ?_; clear Z a; intro a Z
   refine g_ob Z (p := (!(started || (decide ((l.getD (i).toNat default).k > 6))))) (v := .pointer (some ⟨blkOf v1_l, oofOf v1_l + (i).toNat * 3, none⟩)) (S' := [(37, v1_l), (38, .int .i64 i)]) rfl rfl rfl (wantB_f _) rfl (by decide) (fun hp hS => ((hS.conv (t := 37) rfl (cond_t hp)).conv (t := 38) rfl (cond_t hp)).sub (ts := [37, 38]) rfl) (fun hp => Ob_sidx tLinkK rfl rfl rfl rfl (slPl (H.sl 1 rfl) (hg3 hp)) (hg3 hp)) ?_; clear Z a; intro a Z
   refine g_ob Z (p := (!(started || (decide ((l.getD (i).toNat default).k > 6))))) (v := .pointer (some ⟨blkOf v1_l, oofOf v1_l + (i).toNat * 3, none⟩)) (S' := [(39, .pointer (some ⟨blkOf v1_l, oofOf v1_l + (i).toNat * 3, none⟩))]) rfl rfl rfl (wantB_f _) rfl (by decide) (fun hp hS => (hS.conv (t := 39) rfl (cond_t hp)).sub (ts := [39]) rfl) (fun hp => Ob_c tLinkK rfl) ?_; clear Z a; intro a Z
   refine g_ob Z (p := (!(started || (decide ((l.getD (i).toNat default).k > 6))))) (v := .int .i64 ((l.getD (i).toNat default).k)) (S' := [(40, .pointer (some ⟨blkOf v1_l, oofOf v1_l + (i).toNat * 3, none⟩))]) rfl rfl rfl (wantB_f _) rfl (by decide) (fun hp hS => (hS.conv (t := 40) rfl (cond_t hp)).sub (ts := [40]) rfl) (fun hp => Ob_load tLinkK rfl rfl rfl ((slFl (H.sl 1 rfl) (hg3 hp)) 0 _ rfl)) ?_; clear Z a; intro a Z
   refine g_ob Z (p := (!(started || (decide ((l.getD (i).toNat default).k > 6))))) (v := .bool (decide ((l.getD (i).toNat default).k < 0))) (S' := [(41, .int .i64 ((l.getD (i).toNat default).k))]) rfl rfl rfl (wantB_f _) rfl (by decide) (fun hp hS => (hS.conv (t := 41) rfl (cond_t hp)).sub (ts := [41]) rfl) (fun hp => Ob_c tLinkK rfl) ?_; clear Z a; intro a Z
   refine s_ob Z (v := .bool ((started || (decide ((l.getD (i).toNat default).k > 6))) || (decide ((l.getD (i).toNat default).k < 0)))) rfl rfl (by decide) rfl (Ob_pick rfl rfl rfl rfl (pick_or _ _)) ?_; clear Z a; intro a Z
   refine s_runk tLinkK Z 1 rfl rfl ?_; clear Z a; intro a Z
   refine s_end Z [0, 2, 3, 4, 5, 11, 12, 13, 14, 15, 18, 21, 22, 23, 24, 25, 27, 28, 35, 36, 43] rfl ?_; clear Z; intro Z
   refine p_blk ?_
   refine p_then ?_
   obtain ⟨hg4, hF⟩ := chk_in hF
   refine f_region Z ?_; clear Z; intro Z
   refine s_runk tLinkK Z 1 rfl rfl ?_; clear Z a; intro a Z
   refine s_ob Z (v := .int .i64 (i + 1)) rfl rfl (by decide) rfl (Ob_add rfl rfl rfl (wrI hg4)) ?_; clear Z a; intro a Z
   refine s_runk tLinkK Z 1 rfl rfl ?_; clear Z a; intro a Z
   refine s_end Z [0, 2, 3, 4, 5, 11, 12, 13, 14, 15, 18, 21, 22, 23, 24, 25, 27, 28, 35, 36, 43, 19, 20] rfl ?_; clear Z; intro Z
   refine p_then ?_
   exact ⟨((started || (decide ((l.getD (i).toNat default).k > 6))) || (decide ((l.getD (i).toNat default).k < 0)), i + 1, s0), ⟨Z.sub (ts := [0, 2, 3, 4, 5]) rfl, ⟨I3, (H.sub [(0, false), (0, true)] rfl).eq rfl⟩⟩, hF⟩
  ·replace hF := ite_f hc1 hF
   refine wp_exit ?_
   refine p_then_x ?_
   refine p_then_x ?_
   refine f_exit_here ?_
   refine p_then (wp_seq ?_)
   refine wp_seq (f_region Z ?_); clear Z; intro Z
   refine s_runk tLinkK Z 1 rfl rfl ?_; clear Z a; intro a Z
   refine s_end Z [2, 3, 4, 6] rfl ?_; clear Z; intro Z
   refine p_then (wp_block ?_)
   refine f_iter hF (fun sg a' w' => match sg with | (round, p_2) => Sl 129 [(2, .bool false), (3, .pointer (some ⟨b1, 0, none⟩)), (4, .bool started), (6, .int .i64 round)] a' ∧ ∃ I2, Hf I D w I2 w' [OElaw22_pair b1 p_2]) ⟨Z.sub (ts := [2, 3, 4, 6]) rfl, ⟨I2, (H.sub [(0, false)] rfl).eq rfl⟩⟩ ?_
   clear Z H hF a
   rintro rc_2 ⟨round, p_2⟩ a w4 ⟨Z, I4, H⟩ hF
   unfold F_law22_LinkFair_l2 at hF
   try dsimp only at hF
   refine wp_seq ?_
   refine wp_seq (f_region Z ?_); clear Z; intro Z
   refine s_runk tLinkK Z 3 rfl rfl ?_; clear Z a; intro a Z
   refine g_ob Z (p := (decide (round < 8))) (v := .pointer (some ⟨b1, 0, none⟩)) (S' := [(3, .pointer (some ⟨b1, 0, none⟩))]) rfl rfl rfl (wantB_t _) rfl (by decide) (fun hp hS => hS.sub (ts := [3]) rfl) (fun hp => Ob_c tLinkK rfl) ?_; clear Z a; intro a Z
   refine g_ob Z (p := (decide (round < 8))) (v := .pointer (some ⟨b1, 0, none⟩)) (S' := [(47, .pointer (some ⟨b1, 0, none⟩))]) rfl rfl rfl (wantB_t _) rfl (by decide) (fun hp hS => (hS.conv (t := 47) rfl (cond_t hp)).sub (ts := [47]) rfl) (fun hp => Ob_c tLinkK rfl) ?_; clear Z a; intro a Z
   refine g_ob Z (p := (decide (round < 8))) (v := .pointer (some ⟨b1, 10, none⟩)) (S' := [(48, .pointer (some ⟨b1, 0, none⟩))]) rfl rfl rfl (wantB_t _) rfl (by decide) (fun hp hS => (hS.conv (t := 48) rfl (cond_t hp)).sub (ts := [48]) rfl) (fun hp => Ob_c tLinkK rfl) ?_; clear Z a; intro a Z
   obtain ⟨⟨v2, v3, v4, v5⟩, H⟩ := H.openX 0 rfl
   replace H : Hf I D w I4 w4 [BxC b1 60 [v2, v3, .int .i64 (p_2.boot.getD 0 0), .int .i64 (p_2.boot.getD 1 0), v4, v5, .int .i64 (p_2.sent.getD 0 0), .int .i64 (p_2.sent.getD 1 0), .int .i64 (p_2.told.getD 0 0), .int .i64 (p_2.told.getD 1 0), .bool p_2.ok], PtC OElink_Link v2 (p_2.l.getD 0 none), PtC OElink_Link v3 (p_2.l.getD 1 none), OwC NESeg 31 v4 p_2.way, OwC Ni64 3 v5 p_2.to_] := H
   refine g_ob Z (p := (decide (round < 8))) (v := .bool p_2.ok) (S' := [(49, .pointer (some ⟨b1, 10, none⟩))]) rfl rfl rfl (wantB_t _) rfl (by decide) (fun hp hS => (hS.conv (t := 49) rfl (cond_t hp)).sub (ts := [49]) rfl) (fun hp => Ob_load tLinkK rfl rfl rfl ((H.bx 0 rfl).cell 10 rfl)) ?_; clear Z a; intro a Z
   refine s_ob Z (v := .bool ((decide (round < 8)) && p_2.ok)) rfl rfl (by decide) rfl (Ob_pick rfl rfl rfl rfl (pick_and _ _)) ?_; clear Z a; intro a Z
   refine s_end Z [2, 3, 4, 6, 44, 45, 46, 51] rfl ?_; clear Z; intro Z
   refine p_then ?_
   refine f_cond Z rfl (fun hc2 => ?_) (fun hc2 => ?_)
   ·replace hF := ite_t hc2 hF
    refine wp_skip ?_
    refine p_then (wp_seq ?_)
    refine wp_block ?_
    refine wp_seq (f_region Z ?_); clear Z; intro Z
    refine s_runk tLinkK Z 3 rfl rfl ?_; clear Z a; intro a Z
    refine h_store tLinkK Z H 0 rfl rfl rfl rfl rfl rfl (slS.cells slS.nil) rfl rfl (one_cons (slS.one slS.nil) one_nil) (Nat.le_of_ble_eq_true rfl) rfl ?_; clear H; intro w5 H
    dsimp only [List.eraseIdx] at H
    refine s_end Z [2, 3, 4, 6, 44, 45, 46, 51, 54, 55, 56] rfl ?_; clear Z; intro Z
    refine p_then (wp_seq (f_region Z ?_)); clear Z; intro Z
    refine s_runk tLinkK Z 3 rfl rfl ?_; clear Z a; intro a Z
    refine h_store tLinkK Z H 0 rfl rfl rfl rfl rfl rfl (slS.cells slS.nil) rfl rfl (one_cons (slS.one slS.nil) one_nil) (Nat.le_of_ble_eq_true rfl) rfl ?_; clear H; intro w6 H
    dsimp only [List.eraseIdx] at H
    refine s_end Z [2, 3, 4, 6, 44, 45, 46, 51, 54, 55, 56, 57, 58, 59] rfl ?_; clear Z; intro Z
    refine p_then (wp_seq ?_)
    obtain ⟨o, hx3, hF⟩ := bnd_in hF
    refine f_region Z ?_; clear Z; intro Z
    refine s_runk tLinkK Z 1 rfl rfl ?_; clear Z a; intro a Z
    replace H : Hf I D w I4 w6 [OwC NESeg 31 (.slice none 0 0) ([] : List ESeg), BxC b1 60 [v2, v3, .int .i64 (p_2.boot.getD 0 0), .int .i64 (p_2.boot.getD 1 0), .slice none 0 0, .slice none 0 0, .int .i64 (p_2.sent.getD 0 0), .int .i64 (p_2.sent.getD 1 0), .int .i64 (p_2.told.getD 0 0), .int .i64 (p_2.told.getD 1 0), .bool p_2.ok], PtC OElink_Link v2 (p_2.l.getD 0 none), PtC OElink_Link v3 (p_2.l.getD 1 none), OwC NESeg 31 v4 p_2.way, OwC Ni64 3 v5 p_2.to_] := H.nilow NESeg 31
    replace H : Hf I D w I4 w6 [OwC Ni64 3 (.slice none 0 0) ([] : List Int), OwC NESeg 31 (.slice none 0 0) ([] : List ESeg), BxC b1 60 [v2, v3, .int .i64 (p_2.boot.getD 0 0), .int .i64 (p_2.boot.getD 1 0), .slice none 0 0, .slice none 0 0, .int .i64 (p_2.sent.getD 0 0), .int .i64 (p_2.sent.getD 1 0), .int .i64 (p_2.told.getD 0 0), .int .i64 (p_2.told.getD 1 0), .bool p_2.ok], PtC OElink_Link v2 (p_2.l.getD 0 none), PtC OElink_Link v3 (p_2.l.getD 1 none), OwC NESeg 31 v4 p_2.way, OwC Ni64 3 v5 p_2.to_] := H.nilow Ni64 3
    replace H : Hf I D w I4 w6 [OElaw22_pair b1 ({ p_2 with way := ([] : List ESeg), to_ := ([] : List Int) } : Elaw22_pair), OwC NESeg 31 v4 p_2.way, OwC Ni64 3 v5 p_2.to_] := H.shutX (v2, v3, .slice none 0 0, .slice none 0 0) [(2, false), (2, false), (2, false), (1, false), (0, false)] rfl
    refine h_call Z H (js := [(0, false)]) rfl (caps := #[]) fn_23_YLinkK rfl rfl rfl rfl rfl (by decide) rfl rfl (fun D1 hS => have hq := c_law22_pair_out hx3 hS; hq) ?_; clear Z a; intro vv a w7 D2 hr hF2 Z
    obtain ⟨rfl, I5, K⟩ := hr
    have H : Hf I D w I5 w7 [OElaw22_pair b1 o, OwC NESeg 31 v4 p_2.way, OwC Ni64 3 v5 p_2.to_] := hF2 K
    clear hF2 K
    refine s_end Z [2, 3, 4, 6, 44, 45, 46, 51, 54, 55, 56, 57, 58, 59, 60] rfl ?_; clear Z; intro Z
    refine p_then (wp_seq ?_)
    obtain ⟨o_2, hx4, hF⟩ := bnd_in hF
    refine f_region Z ?_; clear Z; intro Z
    refine s_runk tLinkK Z 1 rfl rfl ?_; clear Z a; intro a Z
    refine h_call Z H (js := [(0, false)]) rfl (caps := #[]) fn_23_YLinkK rfl rfl rfl rfl rfl (by decide) rfl rfl (fun D1 hS => have hq := c_law22_pair_out hx4 hS; hq) ?_; clear Z a; intro vv a w8 D2 hr hF2 Z
    obtain ⟨rfl, I6, K⟩ := hr
    have H : Hf I D w I6 w8 [OElaw22_pair b1 o_2, OwC NESeg 31 v4 p_2.way, OwC Ni64 3 v5 p_2.to_] := hF2 K
    clear hF2 K
    refine s_end Z [2, 3, 4, 6, 44, 45, 46, 51, 54, 55, 56, 57, 58, 59, 60, 62] rfl ?_; clear Z; intro Z
    refine p_then (wp_seq (f_region Z ?_)); clear Z; intro Z
    refine s_runk tLinkK Z 1 rfl rfl ?_; clear Z a; intro a Z
    refine s_end Z [2, 3, 4, 6, 44, 45, 46, 51, 54, 55, 56, 57, 58, 59, 60, 62, 7] rfl ?_; clear Z; intro Z
    refine p_then (wp_block ?_)
    refine f_iter hF (fun sg a' w' => match sg with | (i_2, p_3) => Sl 129 [(2, .bool false), (3, .pointer (some ⟨b1, 0, none⟩)), (4, .bool started), (6, .int .i64 round), (7, .int .i64 i_2), (44, .int .i64 round), (45, .bool (decide (round < 8))), (46, .bool (decide (round < 8))), (51, .bool ((decide (round < 8)) && p_2.ok)), (54, .pointer (some ⟨b1, 0, none⟩)), (55, .pointer (some ⟨b1, 0, none⟩)), (56, .pointer (some ⟨b1, 4, none⟩)), (57, .pointer (some ⟨b1, 0, none⟩)), (58, .pointer (some ⟨b1, 0, none⟩)), (59, .pointer (some ⟨b1, 5, none⟩)), (60, .pointer (some ⟨b1, 0, none⟩)), (62, .pointer (some ⟨b1, 0, none⟩))] a' ∧ ∃ I2, Hf I D w I2 w' [OElaw22_pair b1 p_3]) ⟨Z.sub (ts := [2, 3, 4, 6, 7, 44, 45, 46, 51, 54, 55, 56, 57, 58, 59, 60, 62]) rfl, ⟨I6, (H.sub [(0, false)] rfl).eq rfl⟩⟩ ?_
    clear Z H hF a
    rintro rc_3 ⟨i_2, p_3⟩ a w9 ⟨Z, I7, H⟩ hF
    unfold F_law22_LinkFair_l3 at hF
    try dsimp only at hF
    refine wp_seq ?_
    refine wp_seq (f_region Z ?_); clear Z; intro Z
    refine s_runk tLinkK Z 4 rfl rfl ?_; clear Z a; intro a Z
    obtain ⟨⟨v6, v7, v8, v9⟩, H⟩ := H.openX 0 rfl
    replace H : Hf I D w I7 w9 [BxC b1 60 [v6, v7, .int .i64 (p_3.boot.getD 0 0), .int .i64 (p_3.boot.getD 1 0), v8, v9, .int .i64 (p_3.sent.getD 0 0), .int .i64 (p_3.sent.getD 1 0), .int .i64 (p_3.told.getD 0 0), .int .i64 (p_3.told.getD 1 0), .bool p_3.ok], PtC OElink_Link v6 (p_3.l.getD 0 none), PtC OElink_Link v7 (p_3.l.getD 1 none), OwC NESeg 31 v8 p_3.way, OwC Ni64 3 v9 p_3.to_] := H
    refine s_ob Z (v := v8) rfl rfl (by decide) rfl (Ob_load tLinkK rfl rfl rfl ((H.bx 0 rfl).cell 4 rfl)) ?_; clear Z a; intro a Z
    refine s_ob Z (v := .int .i64 (p_3.way.length : Int)) rfl rfl (by decide) rfl (Ob_slen tLinkK rfl rfl rfl (H.owshape 3 rfl)) ?_; clear Z a; intro a Z
    refine s_runk tLinkK Z 1 rfl rfl ?_; clear Z a; intro a Z
    refine s_end Z [2, 3, 4, 6, 7, 44, 45, 46, 51, 54, 55, 56, 57, 58, 59, 60, 62, 64, 65, 66, 67, 68, 69, 70] rfl ?_; clear Z; intro Z
    refine p_then ?_
    refine f_cond Z rfl (fun hc3 => ?_) (fun hc3 => ?_)
    ·replace hF := ite_t hc3 hF
     refine wp_skip ?_
     refine p_then (wp_seq ?_)
     refine wp_block ?_
     obtain ⟨c, hx5, hF⟩ := bnd_in hF
     refine f_region Z ?_; clear Z; intro Z
     refine s_runk tLinkK Z 2 rfl rfl ?_; clear Z a; intro a Z
     replace H : Hf I D w I7 w9 [OElaw22_pair b1 p_3] := H.shutX (v6, v7, v8, v9) [(0, false), (0, false), (0, false), (0, false), (0, false)] rfl
     refine h_call Z H (js := [(0, false)]) rfl (caps := #[]) fn_24_YLinkK rfl rfl rfl rfl rfl (by decide) rfl rfl (fun D1 hS => have hq := c_law22_pair_come hx5 hS; hq) ?_; clear Z a; intro vv a w10 D2 hr hF2 Z
     obtain ⟨rfl, I8, K⟩ := hr
     have H : Hf I D w I8 w10 [OElaw22_pair b1 c] := hF2 K
     clear hF2 K
     refine s_end Z [2, 3, 4, 6, 7, 44, 45, 46, 51, 54, 55, 56, 57, 58, 59, 60, 62, 64, 65, 66, 67, 68, 69, 70, 73, 74] rfl ?_; clear Z; intro Z
     refine p_blk ?_
     refine p_then ?_
     obtain ⟨hg5, hF⟩ := chk_in hF
     refine f_region Z ?_; clear Z; intro Z
     refine s_runk tLinkK Z 1 rfl rfl ?_; clear Z a; intro a Z
     refine s_ob Z (v := .int .i64 (i_2 + 1)) rfl rfl (by decide) rfl (Ob_add rfl rfl rfl (wrI hg5)) ?_; clear Z a; intro a Z
     refine s_runk tLinkK Z 1 rfl rfl ?_; clear Z a; intro a Z
     refine s_end Z [2, 3, 4, 6, 7, 44, 45, 46, 51, 54, 55, 56, 57, 58, 59, 60, 62, 64, 65, 66, 67, 68, 69, 70, 73, 74, 71, 72] rfl ?_; clear Z; intro Z
     refine p_then ?_
     exact ⟨(i_2 + 1, c), ⟨Z.sub (ts := [2, 3, 4, 6, 7, 44, 45, 46, 51, 54, 55, 56, 57, 58, 59, 60, 62]) rfl, ⟨I8, (H.sub [(0, false)] rfl).eq rfl⟩⟩, hF⟩
    ·replace hF := ite_f hc3 hF
     refine wp_exit ?_
     refine p_then_x ?_
     refine p_then_x ?_
     refine f_exit_here ?_
     refine p_blk ?_
     refine p_then ?_
     obtain ⟨hg6, hF⟩ := chk_in hF
     refine f_region Z ?_; clear Z; intro Z
     refine s_runk tLinkK Z 1 rfl rfl ?_; clear Z a; intro a Z
     refine s_ob Z (v := .int .i64 (round + 1)) rfl rfl (by decide) rfl (Ob_add rfl rfl rfl (wrI hg6)) ?_; clear Z a; intro a Z
     refine s_runk tLinkK Z 1 rfl rfl ?_; clear Z a; intro a Z
     refine s_end Z [2, 3, 4, 6, 7, 44, 45, 46, 51, 54, 55, 56, 57, 58, 59, 60, 62, 64, 65, 66, 67, 68, 69, 70, 52, 53] rfl ?_; clear Z; intro Z
     refine p_then ?_
     replace H : Hf I D w I7 w9 [OElaw22_pair b1 p_3] := H.shutX (v6, v7, v8, v9) [(0, false), (0, false), (0, false), (0, false), (0, false)] rfl
     exact ⟨(round + 1, p_3), ⟨Z.sub (ts := [2, 3, 4, 6]) rfl, ⟨I7, (H.sub [(0, false)] rfl).eq rfl⟩⟩, hF⟩
   ·replace hF := ite_f hc2 hF
    refine wp_exit ?_
    refine p_then_x ?_
    refine p_then_x ?_
    refine f_exit_here ?_
    refine p_then (wp_seq ?_)
    refine wp_seq ?_
    rcases optE_in hF with ⟨ho2, hF⟩ | ⟨x_2, ho2, hF⟩
    ·obtain ⟨hv, H⟩ := H.optN 1 rfl ho2
     subst hv
     replace H : Hf I D w I4 w4 [BxC b1 60 [.pointer none, v3, .int .i64 (p_2.boot.getD 0 0), .int .i64 (p_2.boot.getD 1 0), v4, v5, .int .i64 (p_2.sent.getD 0 0), .int .i64 (p_2.sent.getD 1 0), .int .i64 (p_2.told.getD 0 0), .int .i64 (p_2.told.getD 1 0), .bool p_2.ok], PtC OElink_Link v3 (p_2.l.getD 1 none), OwC NESeg 31 v4 p_2.way, OwC Ni64 3 v5 p_2.to_] := H
     rcases optE_in hF with ⟨ho3, hF⟩ | ⟨x_3, ho3, hF⟩
     ·obtain ⟨hv, H⟩ := H.optN 1 rfl ho3
      subst hv
      replace H : Hf I D w I4 w4 [BxC b1 60 [.pointer none, .pointer none, .int .i64 (p_2.boot.getD 0 0), .int .i64 (p_2.boot.getD 1 0), v4, v5, .int .i64 (p_2.sent.getD 0 0), .int .i64 (p_2.sent.getD 1 0), .int .i64 (p_2.told.getD 0 0), .int .i64 (p_2.told.getD 1 0), .bool p_2.ok], OwC NESeg 31 v4 p_2.way, OwC Ni64 3 v5 p_2.to_] := H
      obtain ⟨n0, hx6, hF⟩ := bnd_in hF
      obtain ⟨n0_2, hx7, hF⟩ := bnd_in hF
      refine f_region Z ?_; clear Z; intro Z
      refine s_runk tLinkK Z 3 rfl rfl ?_; clear Z a; intro a Z
      refine s_ob Z (v := .bool p_2.ok) rfl rfl (by decide) rfl (Ob_load tLinkK rfl rfl rfl ((H.bx 0 rfl).cell 10 rfl)) ?_; clear Z a; intro a Z
      refine s_runk tLinkK Z 2 rfl rfl ?_; clear Z a; intro a Z
      refine g_ob Z (p := (!(!p_2.ok))) (v := .pointer (some ⟨b1, 0, none⟩)) (S' := [(3, .pointer (some ⟨b1, 0, none⟩))]) rfl rfl rfl (wantB_f _) rfl (by decide) (fun hp hS => hS.sub (ts := [3]) rfl) (fun hp => Ob_c tLinkK rfl) ?_; clear Z a; intro a Z
      refine g_ob Z (p := (!(!p_2.ok))) (v := .pointer (some ⟨b1, 0, none⟩)) (S' := [(82, .pointer (some ⟨b1, 0, none⟩))]) rfl rfl rfl (wantB_f _) rfl (by decide) (fun hp hS => (hS.conv (t := 82) rfl (cond_t hp)).sub (ts := [82]) rfl) (fun hp => Ob_c tLinkK rfl) ?_; clear Z a; intro a Z
      refine g_ob Z (p := (!(!p_2.ok))) (v := .pointer (some ⟨b1, 0, none⟩)) (S' := [(83, .pointer (some ⟨b1, 0, none⟩))]) rfl rfl rfl (wantB_f _) rfl (by decide) (fun hp hS => (hS.conv (t := 83) rfl (cond_t hp)).sub (ts := [83]) rfl) (fun hp => Ob_c tLinkK rfl) ?_; clear Z a; intro a Z
      refine g_ob Z (p := (!(!p_2.ok))) (v := .pointer (some ⟨b1, 0, none⟩)) (S' := [(84, .pointer (some ⟨b1, 0, none⟩))]) rfl rfl rfl (wantB_f _) rfl (by decide) (fun hp hS => (hS.conv (t := 84) rfl (cond_t hp)).sub (ts := [84]) rfl) (fun hp => Ob_apix (m := 1) 0 rfl rfl rfl Try.underlying56 (by kernel_rfl) rfl (by decide)) ?_; clear Z a; intro a Z
      refine g_ob Z (p := (!(!p_2.ok))) (v := .pointer none) (S' := [(85, .pointer (some ⟨b1, 0, none⟩))]) rfl rfl rfl (wantB_f _) rfl (by decide) (fun hp hS => (hS.conv (t := 85) rfl (cond_t hp)).sub (ts := [85]) rfl) (fun hp => Ob_load tLinkK rfl rfl rfl ((H.bx 0 rfl).cell 0 rfl)) ?_; clear Z a; intro a Z
      refine g_call Z (p := (!(!p_2.ok))) (v := .int .i64 n0) (S' := [(86, .pointer none)]) (caps := #[]) fn_18_YLinkK rfl rfl rfl (wantB_f _) rfl (by decide) (fun hp hS => (hS.conv (t := 86) rfl (cond_t hp)).sub (ts := [86]) rfl) rfl rfl rfl rfl (fun hp => (have hq := c_link_Link_Waiting_nil (gif_in hx6 hp) ((H).pick0 (js := []) rfl rfl); plainC hq)) ?_; clear Z a; intro a w11 hb Z
      replace H : Hf I D w I4 w11 [BxC b1 60 [.pointer none, .pointer none, .int .i64 (p_2.boot.getD 0 0), .int .i64 (p_2.boot.getD 1 0), v4, v5, .int .i64 (p_2.sent.getD 0 0), .int .i64 (p_2.sent.getD 1 0), .int .i64 (p_2.told.getD 0 0), .int .i64 (p_2.told.getD 1 0), .bool p_2.ok], OwC NESeg 31 v4 p_2.way, OwC Ni64 3 v5 p_2.to_] := H.blw hb
      clear hb
      refine g_ob Z (p := (!(!p_2.ok))) (v := .bool (n0 != 0)) (S' := [(87, .int .i64 n0)]) rfl rfl rfl (wantB_f _) rfl (by decide) (fun hp hS => (hS.conv (t := 87) rfl (cond_t hp)).sub (ts := [87]) rfl) (fun hp => Ob_c tLinkK rfl) ?_; clear Z a; intro a Z
      refine s_ob Z (v := .bool ((!p_2.ok) || (n0 != 0))) rfl rfl (by decide) rfl (Ob_pick rfl rfl rfl rfl (pick_or _ _)) ?_; clear Z a; intro a Z
      refine s_runk tLinkK Z 1 rfl rfl ?_; clear Z a; intro a Z
      refine g_ob Z (p := (!((!p_2.ok) || (n0 != 0)))) (v := .pointer (some ⟨b1, 0, none⟩)) (S' := [(3, .pointer (some ⟨b1, 0, none⟩))]) rfl rfl rfl (wantB_f _) rfl (by decide) (fun hp hS => hS.sub (ts := [3]) rfl) (fun hp => Ob_c tLinkK rfl) ?_; clear Z a; intro a Z
      refine g_ob Z (p := (!((!p_2.ok) || (n0 != 0)))) (v := .pointer (some ⟨b1, 0, none⟩)) (S' := [(91, .pointer (some ⟨b1, 0, none⟩))]) rfl rfl rfl (wantB_f _) rfl (by decide) (fun hp hS => (hS.conv (t := 91) rfl (cond_t hp)).sub (ts := [91]) rfl) (fun hp => Ob_c tLinkK rfl) ?_; clear Z a; intro a Z
      refine g_ob Z (p := (!((!p_2.ok) || (n0 != 0)))) (v := .pointer (some ⟨b1, 0, none⟩)) (S' := [(92, .pointer (some ⟨b1, 0, none⟩))]) rfl rfl rfl (wantB_f _) rfl (by decide) (fun hp hS => (hS.conv (t := 92) rfl (cond_t hp)).sub (ts := [92]) rfl) (fun hp => Ob_c tLinkK rfl) ?_; clear Z a; intro a Z
      refine g_ob Z (p := (!((!p_2.ok) || (n0 != 0)))) (v := .pointer (some ⟨b1, 1, none⟩)) (S' := [(93, .pointer (some ⟨b1, 0, none⟩))]) rfl rfl rfl (wantB_f _) rfl (by decide) (fun hp hS => (hS.conv (t := 93) rfl (cond_t hp)).sub (ts := [93]) rfl) (fun hp => Ob_apix (m := 1) 1 rfl rfl rfl Try.underlying56 (by kernel_rfl) rfl (by decide)) ?_; clear Z a; intro a Z
      refine g_ob Z (p := (!((!p_2.ok) || (n0 != 0)))) (v := .pointer none) (S' := [(94, .pointer (some ⟨b1, 1, none⟩))]) rfl rfl rfl (wantB_f _) rfl (by decide) (fun hp hS => (hS.conv (t := 94) rfl (cond_t hp)).sub (ts := [94]) rfl) (fun hp => Ob_load tLinkK rfl rfl rfl ((H.bx 0 rfl).cell 1 rfl)) ?_; clear Z a; intro a Z
      refine g_call Z (p := (!((!p_2.ok) || (n0 != 0)))) (v := .int .i64 n0_2) (S' := [(95, .pointer none)]) (caps := #[]) fn_18_YLinkK rfl rfl rfl (wantB_f _) rfl (by decide) (fun hp hS => (hS.conv (t := 95) rfl (cond_t hp)).sub (ts := [95]) rfl) rfl rfl rfl rfl (fun hp => (have hq := c_link_Link_Waiting_nil (gif_in hx7 hp) ((H).pick0 (js := []) rfl rfl); plainC hq)) ?_; clear Z a; intro a w12 hb Z
      replace H : Hf I D w I4 w12 [BxC b1 60 [.pointer none, .pointer none, .int .i64 (p_2.boot.getD 0 0), .int .i64 (p_2.boot.getD 1 0), v4, v5, .int .i64 (p_2.sent.getD 0 0), .int .i64 (p_2.sent.getD 1 0), .int .i64 (p_2.told.getD 0 0), .int .i64 (p_2.told.getD 1 0), .bool p_2.ok], OwC NESeg 31 v4 p_2.way, OwC Ni64 3 v5 p_2.to_] := H.blw hb
      clear hb
      refine g_ob Z (p := (!((!p_2.ok) || (n0 != 0)))) (v := .bool (n0_2 != 0)) (S' := [(96, .int .i64 n0_2)]) rfl rfl rfl (wantB_f _) rfl (by decide) (fun hp hS => (hS.conv (t := 96) rfl (cond_t hp)).sub (ts := [96]) rfl) (fun hp => Ob_c tLinkK rfl) ?_; clear Z a; intro a Z
      refine s_ob Z (v := .bool (((!p_2.ok) || (n0 != 0)) || (n0_2 != 0))) rfl rfl (by decide) rfl (Ob_pick rfl rfl rfl rfl (pick_or _ _)) ?_; clear Z a; intro a Z
      refine s_end Z [2, 3, 4, 98] rfl ?_; clear Z; intro Z
      refine p_then ?_
      refine f_cond Z rfl (fun hc4 => ?_) (fun hc4 => ?_)
      ·replace hF := ite_t hc4 hF
       refine wp_seq (f_region Z ?_); clear Z; intro Z
       refine s_runk tLinkK Z 1 rfl rfl ?_; clear Z a; intro a Z
       refine s_end Z [2, 3, 4] rfl ?_; clear Z; intro Z
       refine p_then (wp_ret ?_)
       refine p_then_r ?_
       obtain rfl := some_in hF
       exact f_ret Z (run_results1 rfl Z rfl) ⟨rfl, I4, (H.sub [] rfl).eq rfl⟩
      ·replace hF := ite_f hc4 hF
       refine wp_skip ?_
       refine p_then (wp_seq ?_)
       obtain ⟨a0, hx8, hF⟩ := bnd_in hF
       refine f_quietd (by kernel_rfl) (by kernel_rfl) Z ?_; clear Z; intro Z
       refine q_runk tLinkK Z 2 rfl rfl ?_; clear Z a; intro a Z
       refine gq_ob Z (p := (!started)) (v := .pointer (some ⟨b1, 0, none⟩)) (S' := [(3, .pointer (some ⟨b1, 0, none⟩))]) rfl rfl rfl (wantB_f _) rfl (by decide) (fun hp hS => hS.sub (ts := [3]) rfl) (fun hp _ hw => Ob_c tLinkK rfl) ?_; clear Z a; intro a Z
       refine gq_ob Z (p := (!started)) (v := .pointer (some ⟨b1, 0, none⟩)) (S' := [(101, .pointer (some ⟨b1, 0, none⟩))]) rfl rfl rfl (wantB_f _) rfl (by decide) (fun hp hS => (hS.conv (t := 101) rfl (cond_t hp)).sub (ts := [101]) rfl) (fun hp _ hw => Ob_c tLinkK rfl) ?_; clear Z a; intro a Z
       refine gq_ob Z (p := (!started)) (v := .pointer (some ⟨b1, 8, none⟩)) (S' := [(102, .pointer (some ⟨b1, 0, none⟩))]) rfl rfl rfl (wantB_f _) rfl (by decide) (fun hp hS => (hS.conv (t := 102) rfl (cond_t hp)).sub (ts := [102]) rfl) (fun hp _ hw => Ob_c tLinkK rfl) ?_; clear Z a; intro a Z
       refine gq_ob Z (p := (!started)) (v := .pointer (some ⟨b1, 8, none⟩)) (S' := [(103, .pointer (some ⟨b1, 8, none⟩))]) rfl rfl rfl (wantB_f _) rfl (by decide) (fun hp hS => (hS.conv (t := 103) rfl (cond_t hp)).sub (ts := [103]) rfl) (fun hp _ hw => Ob_apix (m := 1) 0 rfl rfl rfl Try.underlying57 (by kernel_rfl) rfl (by decide)) ?_; clear Z a; intro a Z
       refine gq_ob Z (p := (!started)) (v := .int .i64 (p_2.told.getD 0 0)) (S' := [(104, .pointer (some ⟨b1, 8, none⟩))]) rfl rfl rfl (wantB_f _) rfl (by decide) (fun hp hS => (hS.conv (t := 104) rfl (cond_t hp)).sub (ts := [104]) rfl) (fun hp _ hw => Ob_load tLinkK rfl rfl rfl (((H.blw hw).bx 0 rfl).cell 8 rfl)) ?_; clear Z a; intro a Z
       refine gq_ob Z (p := (!started)) (v := .pointer (some ⟨b1, 0, none⟩)) (S' := [(3, .pointer (some ⟨b1, 0, none⟩))]) rfl rfl rfl (wantB_f _) rfl (by decide) (fun hp hS => hS.sub (ts := [3]) rfl) (fun hp _ hw => Ob_c tLinkK rfl) ?_; clear Z a; intro a Z
       refine gq_ob Z (p := (!started)) (v := .pointer (some ⟨b1, 0, none⟩)) (S' := [(106, .pointer (some ⟨b1, 0, none⟩))]) rfl rfl rfl (wantB_f _) rfl (by decide) (fun hp hS => (hS.conv (t := 106) rfl (cond_t hp)).sub (ts := [106]) rfl) (fun hp _ hw => Ob_c tLinkK rfl) ?_; clear Z a; intro a Z
       refine gq_ob Z (p := (!started)) (v := .pointer (some ⟨b1, 6, none⟩)) (S' := [(107, .pointer (some ⟨b1, 0, none⟩))]) rfl rfl rfl (wantB_f _) rfl (by decide) (fun hp hS => (hS.conv (t := 107) rfl (cond_t hp)).sub (ts := [107]) rfl) (fun hp _ hw => Ob_c tLinkK rfl) ?_; clear Z a; intro a Z
       refine gq_ob Z (p := (!started)) (v := .pointer (some ⟨b1, 7, none⟩)) (S' := [(108, .pointer (some ⟨b1, 6, none⟩))]) rfl rfl rfl (wantB_f _) rfl (by decide) (fun hp hS => (hS.conv (t := 108) rfl (cond_t hp)).sub (ts := [108]) rfl) (fun hp _ hw => Ob_apix (m := 1) 1 rfl rfl rfl Try.underlying57 (by kernel_rfl) rfl (by decide)) ?_; clear Z a; intro a Z
       refine gq_ob Z (p := (!started)) (v := .int .i64 (p_2.sent.getD 1 0)) (S' := [(109, .pointer (some ⟨b1, 7, none⟩))]) rfl rfl rfl (wantB_f _) rfl (by decide) (fun hp hS => (hS.conv (t := 109) rfl (cond_t hp)).sub (ts := [109]) rfl) (fun hp _ hw => Ob_load tLinkK rfl rfl rfl (((H.blw hw).bx 0 rfl).cell 7 rfl)) ?_; clear Z a; intro a Z
       refine gq_ob Z (p := (!started)) (v := .bool ((p_2.told.getD 0 0) == (p_2.sent.getD 1 0))) (S' := [(105, .int .i64 (p_2.told.getD 0 0)), (110, .int .i64 (p_2.sent.getD 1 0))]) rfl rfl rfl (wantB_f _) rfl (by decide) (fun hp hS => ((hS.conv (t := 105) rfl (cond_t hp)).conv (t := 110) rfl (cond_t hp)).sub (ts := [105, 110]) rfl) (fun hp _ hw => Ob_c tLinkK rfl) ?_; clear Z a; intro a Z
       refine gq_ob Z (p := (!started)) (v := .bool ((p_2.told.getD 0 0) == (p_2.sent.getD 1 0))) (S' := [(111, .bool ((p_2.told.getD 0 0) == (p_2.sent.getD 1 0)))]) rfl rfl rfl (wantB_f _) rfl (by decide) (fun hp hS => (hS.conv (t := 111) rfl (cond_t hp)).sub (ts := [111]) rfl) (fun hp _ hw => Ob_c tLinkK rfl) ?_; clear Z a; intro a Z
       refine gq_ob Z (p := ((!started) && ((p_2.told.getD 0 0) == (p_2.sent.getD 1 0)))) (v := .pointer (some ⟨b1, 0, none⟩)) (S' := [(3, .pointer (some ⟨b1, 0, none⟩))]) rfl rfl rfl (wantB_ct _ _) rfl (by decide) (fun hp hS => hS.sub (ts := [3]) rfl) (fun hp _ hw => Ob_c tLinkK rfl) ?_; clear Z a; intro a Z
       refine gq_ob Z (p := ((!started) && ((p_2.told.getD 0 0) == (p_2.sent.getD 1 0)))) (v := .pointer (some ⟨b1, 0, none⟩)) (S' := [(113, .pointer (some ⟨b1, 0, none⟩))]) rfl rfl rfl (wantB_ct _ _) rfl (by decide) (fun hp hS => (hS.conv (t := 113) rfl (cond_t hp)).sub (ts := [113]) rfl) (fun hp _ hw => Ob_c tLinkK rfl) ?_; clear Z a; intro a Z
       refine gq_ob Z (p := ((!started) && ((p_2.told.getD 0 0) == (p_2.sent.getD 1 0)))) (v := .pointer (some ⟨b1, 8, none⟩)) (S' := [(114, .pointer (some ⟨b1, 0, none⟩))]) rfl rfl rfl (wantB_ct _ _) rfl (by decide) (fun hp hS => (hS.conv (t := 114) rfl (cond_t hp)).sub (ts := [114]) rfl) (fun hp _ hw => Ob_c tLinkK rfl) ?_; clear Z a; intro a Z
       refine gq_ob Z (p := ((!started) && ((p_2.told.getD 0 0) == (p_2.sent.getD 1 0)))) (v := .pointer (some ⟨b1, 9, none⟩)) (S' := [(115, .pointer (some ⟨b1, 8, none⟩))]) rfl rfl rfl (wantB_ct _ _) rfl (by decide) (fun hp hS => (hS.conv (t := 115) rfl (cond_t hp)).sub (ts := [115]) rfl) (fun hp _ hw => Ob_apix (m := 1) 1 rfl rfl rfl Try.underlying57 (by kernel_rfl) rfl (by decide)) ?_; clear Z a; intro a Z
       refine gq_ob Z (p := ((!started) && ((p_2.told.getD 0 0) == (p_2.sent.getD 1 0)))) (v := .int .i64 (p_2.told.getD 1 0)) (S' := [(116, .pointer (some ⟨b1, 9, none⟩))]) rfl rfl rfl (wantB_ct _ _) rfl (by decide) (fun hp hS => (hS.conv (t := 116) rfl (cond_t hp)).sub (ts := [116]) rfl) (fun hp _ hw => Ob_load tLinkK rfl rfl rfl (((H.blw hw).bx 0 rfl).cell 9 rfl)) ?_; clear Z a; intro a Z
       refine gq_ob Z (p := ((!started) && ((p_2.told.getD 0 0) == (p_2.sent.getD 1 0)))) (v := .pointer (some ⟨b1, 0, none⟩)) (S' := [(3, .pointer (some ⟨b1, 0, none⟩))]) rfl rfl rfl (wantB_ct _ _) rfl (by decide) (fun hp hS => hS.sub (ts := [3]) rfl) (fun hp _ hw => Ob_c tLinkK rfl) ?_; clear Z a; intro a Z
       refine gq_ob Z (p := ((!started) && ((p_2.told.getD 0 0) == (p_2.sent.getD 1 0)))) (v := .pointer (some ⟨b1, 0, none⟩)) (S' := [(118, .pointer (some ⟨b1, 0, none⟩))]) rfl rfl rfl (wantB_ct _ _) rfl (by decide) (fun hp hS => (hS.conv (t := 118) rfl (cond_t hp)).sub (ts := [118]) rfl) (fun hp _ hw => Ob_c tLinkK rfl) ?_; clear Z a; intro a Z
       refine gq_ob Z (p := ((!started) && ((p_2.told.getD 0 0) == (p_2.sent.getD 1 0)))) (v := .pointer (some ⟨b1, 6, none⟩)) (S' := [(119, .pointer (some ⟨b1, 0, none⟩))]) rfl rfl rfl (wantB_ct _ _) rfl (by decide) (fun hp hS => (hS.conv (t := 119) rfl (cond_t hp)).sub (ts := [119]) rfl) (fun hp _ hw => Ob_c tLinkK rfl) ?_; clear Z a; intro a Z
       refine gq_ob Z (p := ((!started) && ((p_2.told.getD 0 0) == (p_2.sent.getD 1 0)))) (v := .pointer (some ⟨b1, 6, none⟩)) (S' := [(120, .pointer (some ⟨b1, 6, none⟩))]) rfl rfl rfl (wantB_ct _ _) rfl (by decide) (fun hp hS => (hS.conv (t := 120) rfl (cond_t hp)).sub (ts := [120]) rfl) (fun hp _ hw => Ob_apix (m := 1) 0 rfl rfl rfl Try.underlying57 (by kernel_rfl) rfl (by decide)) ?_; clear Z a; intro a Z
       refine gq_ob Z (p := ((!started) && ((p_2.told.getD 0 0) == (p_2.sent.getD 1 0)))) (v := .int .i64 (p_2.sent.getD 0 0)) (S' := [(121, .pointer (some ⟨b1, 6, none⟩))]) rfl rfl rfl (wantB_ct _ _) rfl (by decide) (fun hp hS => (hS.conv (t := 121) rfl (cond_t hp)).sub (ts := [121]) rfl) (fun hp _ hw => Ob_load tLinkK rfl rfl rfl (((H.blw hw).bx 0 rfl).cell 6 rfl)) ?_; clear Z a; intro a Z
       refine gq_ob Z (p := ((!started) && ((p_2.told.getD 0 0) == (p_2.sent.getD 1 0)))) (v := .bool ((p_2.told.getD 1 0) == (p_2.sent.getD 0 0))) (S' := [(117, .int .i64 (p_2.told.getD 1 0)), (122, .int .i64 (p_2.sent.getD 0 0))]) rfl rfl rfl (wantB_ct _ _) rfl (by decide) (fun hp hS => ((hS.conv (t := 117) rfl (cond_t hp)).conv (t := 122) rfl (cond_t hp)).sub (ts := [117, 122]) rfl) (fun hp _ hw => Ob_c tLinkK rfl) ?_; clear Z a; intro a Z
       refine gq_ob Z (p := (!started)) (v := .bool (((p_2.told.getD 0 0) == (p_2.sent.getD 1 0)) && ((p_2.told.getD 1 0) == (p_2.sent.getD 0 0)))) (S' := [(112, .bool ((p_2.told.getD 0 0) == (p_2.sent.getD 1 0))), (123, cond ((!started) && ((p_2.told.getD 0 0) == (p_2.sent.getD 1 0))) (.bool ((p_2.told.getD 1 0) == (p_2.sent.getD 0 0))) undef)]) rfl rfl rfl (wantB_f _) rfl (by decide) (fun hp hS => (hS.conv (t := 112) rfl (cond_t hp)).sub (ts := [112, 123]) rfl) (fun hp _ hw => Ob_pick rfl rfl rfl rfl (pick_andp _ _ hp)) ?_; clear Z a; intro a Z
       refine q_ob Z (v := .bool (started || (((p_2.told.getD 0 0) == (p_2.sent.getD 1 0)) && ((p_2.told.getD 1 0) == (p_2.sent.getD 0 0))))) rfl rfl (by decide) rfl (fun _ hw => Ob_pick rfl rfl rfl rfl (pick_or _ _)) ?_; clear Z a; intro a Z
       refine q_runk tLinkK Z 1 rfl rfl ?_; clear Z a; intro a Z
       refine gq_call Z (p := (started || (((p_2.told.getD 0 0) == (p_2.sent.getD 1 0)) && ((p_2.told.getD 1 0) == (p_2.sent.getD 0 0))))) (v := .bool a0) (S' := []) (caps := #[]) fn_20_YLinkK rfl rfl rfl (wantB_t _) rfl (by decide) (fun hp hS => hS.sub (ts := []) rfl) rfl rfl rfl rfl (fun hp _ hw => (have hq := c_law22_awake (gif_in hx8 hp) (((H.blw hw)).pick0 (js := []) rfl rfl); plainC hq)) ?_; clear Z a; intro a Z
       refine q_ob Z (v := .bool ((started || (((p_2.told.getD 0 0) == (p_2.sent.getD 1 0)) && ((p_2.told.getD 1 0) == (p_2.sent.getD 0 0)))) && a0)) rfl rfl (by decide) rfl (fun _ hw => Ob_pick rfl rfl rfl rfl (pick_and _ _)) ?_; clear Z a; intro a Z
       refine q_runk tLinkK Z 1 rfl rfl ?_; clear Z a; intro a Z
       refine q_end Z [2] rfl ?_; clear Z; intro w13 hb Z
       replace H : Hf I D w I4 w13 [BxC b1 60 [.pointer none, .pointer none, .int .i64 (p_2.boot.getD 0 0), .int .i64 (p_2.boot.getD 1 0), v4, v5, .int .i64 (p_2.sent.getD 0 0), .int .i64 (p_2.sent.getD 1 0), .int .i64 (p_2.told.getD 0 0), .int .i64 (p_2.told.getD 1 0), .bool p_2.ok], OwC NESeg 31 v4 p_2.way, OwC Ni64 3 v5 p_2.to_] := H.blw hb
       clear hb
       refine p_then (wp_ret ?_)
       obtain rfl := some_in hF
       exact f_ret Z (run_results1 rfl Z rfl) ⟨rfl, I4, (H.sub [] rfl).eq rfl⟩
     ·obtain ⟨b3, hv, H⟩ := H.optS 1 rfl ho3
      subst hv
      replace H : Hf I D w I4 w4 [OElink_Link b3 x_3, BxC b1 60 [.pointer none, .pointer (some ⟨b3, 0, none⟩), .int .i64 (p_2.boot.getD 0 0), .int .i64 (p_2.boot.getD 1 0), v4, v5, .int .i64 (p_2.sent.getD 0 0), .int .i64 (p_2.sent.getD 1 0), .int .i64 (p_2.told.getD 0 0), .int .i64 (p_2.told.getD 1 0), .bool p_2.ok], OwC NESeg 31 v4 p_2.way, OwC Ni64 3 v5 p_2.to_] := H
      obtain ⟨n0_3, hx9, hF⟩ := bnd_in hF
      obtain ⟨w0, hx10, hF⟩ := bnd_in hF
      refine f_region Z ?_; clear Z; intro Z
      refine s_runk tLinkK Z 3 rfl rfl ?_; clear Z a; intro a Z
      refine s_ob Z (v := .bool p_2.ok) rfl rfl (by decide) rfl (Ob_load tLinkK rfl rfl rfl ((H.bx 1 rfl).cell 10 rfl)) ?_; clear Z a; intro a Z
      refine s_runk tLinkK Z 2 rfl rfl ?_; clear Z a; intro a Z
      refine g_ob Z (p := (!(!p_2.ok))) (v := .pointer (some ⟨b1, 0, none⟩)) (S' := [(3, .pointer (some ⟨b1, 0, none⟩))]) rfl rfl rfl (wantB_f _) rfl (by decide) (fun hp hS => hS.sub (ts := [3]) rfl) (fun hp => Ob_c tLinkK rfl) ?_; clear Z a; intro a Z
      refine g_ob Z (p := (!(!p_2.ok))) (v := .pointer (some ⟨b1, 0, none⟩)) (S' := [(82, .pointer (some ⟨b1, 0, none⟩))]) rfl rfl rfl (wantB_f _) rfl (by decide) (fun hp hS => (hS.conv (t := 82) rfl (cond_t hp)).sub (ts := [82]) rfl) (fun hp => Ob_c tLinkK rfl) ?_; clear Z a; intro a Z
      refine g_ob Z (p := (!(!p_2.ok))) (v := .pointer (some ⟨b1, 0, none⟩)) (S' := [(83, .pointer (some ⟨b1, 0, none⟩))]) rfl rfl rfl (wantB_f _) rfl (by decide) (fun hp hS => (hS.conv (t := 83) rfl (cond_t hp)).sub (ts := [83]) rfl) (fun hp => Ob_c tLinkK rfl) ?_; clear Z a; intro a Z
      refine g_ob Z (p := (!(!p_2.ok))) (v := .pointer (some ⟨b1, 0, none⟩)) (S' := [(84, .pointer (some ⟨b1, 0, none⟩))]) rfl rfl rfl (wantB_f _) rfl (by decide) (fun hp hS => (hS.conv (t := 84) rfl (cond_t hp)).sub (ts := [84]) rfl) (fun hp => Ob_apix (m := 1) 0 rfl rfl rfl Try.underlying56 (by kernel_rfl) rfl (by decide)) ?_; clear Z a; intro a Z
      refine g_ob Z (p := (!(!p_2.ok))) (v := .pointer none) (S' := [(85, .pointer (some ⟨b1, 0, none⟩))]) rfl rfl rfl (wantB_f _) rfl (by decide) (fun hp hS => (hS.conv (t := 85) rfl (cond_t hp)).sub (ts := [85]) rfl) (fun hp => Ob_load tLinkK rfl rfl rfl ((H.bx 1 rfl).cell 0 rfl)) ?_; clear Z a; intro a Z
      refine g_call Z (p := (!(!p_2.ok))) (v := .int .i64 n0_3) (S' := [(86, .pointer none)]) (caps := #[]) fn_18_YLinkK rfl rfl rfl (wantB_f _) rfl (by decide) (fun hp hS => (hS.conv (t := 86) rfl (cond_t hp)).sub (ts := [86]) rfl) rfl rfl rfl rfl (fun hp => (have hq := c_link_Link_Waiting_nil (gif_in hx9 hp) ((H).pick0 (js := []) rfl rfl); plainC hq)) ?_; clear Z a; intro a w14 hb Z
      replace H : Hf I D w I4 w14 [OElink_Link b3 x_3, BxC b1 60 [.pointer none, .pointer (some ⟨b3, 0, none⟩), .int .i64 (p_2.boot.getD 0 0), .int .i64 (p_2.boot.getD 1 0), v4, v5, .int .i64 (p_2.sent.getD 0 0), .int .i64 (p_2.sent.getD 1 0), .int .i64 (p_2.told.getD 0 0), .int .i64 (p_2.told.getD 1 0), .bool p_2.ok], OwC NESeg 31 v4 p_2.way, OwC Ni64 3 v5 p_2.to_] := H.blw hb
      clear hb
      refine g_ob Z (p := (!(!p_2.ok))) (v := .bool (n0_3 != 0)) (S' := [(87, .int .i64 n0_3)]) rfl rfl rfl (wantB_f _) rfl (by decide) (fun hp hS => (hS.conv (t := 87) rfl (cond_t hp)).sub (ts := [87]) rfl) (fun hp => Ob_c tLinkK rfl) ?_; clear Z a; intro a Z
      refine s_ob Z (v := .bool ((!p_2.ok) || (n0_3 != 0))) rfl rfl (by decide) rfl (Ob_pick rfl rfl rfl rfl (pick_or _ _)) ?_; clear Z a; intro a Z
      refine s_runk tLinkK Z 1 rfl rfl ?_; clear Z a; intro a Z
      refine g_ob Z (p := (!((!p_2.ok) || (n0_3 != 0)))) (v := .pointer (some ⟨b1, 0, none⟩)) (S' := [(3, .pointer (some ⟨b1, 0, none⟩))]) rfl rfl rfl (wantB_f _) rfl (by decide) (fun hp hS => hS.sub (ts := [3]) rfl) (fun hp => Ob_c tLinkK rfl) ?_; clear Z a; intro a Z
      refine g_ob Z (p := (!((!p_2.ok) || (n0_3 != 0)))) (v := .pointer (some ⟨b1, 0, none⟩)) (S' := [(91, .pointer (some ⟨b1, 0, none⟩))]) rfl rfl rfl (wantB_f _) rfl (by decide) (fun hp hS => (hS.conv (t := 91) rfl (cond_t hp)).sub (ts := [91]) rfl) (fun hp => Ob_c tLinkK rfl) ?_; clear Z a; intro a Z
      refine g_ob Z (p := (!((!p_2.ok) || (n0_3 != 0)))) (v := .pointer (some ⟨b1, 0, none⟩)) (S' := [(92, .pointer (some ⟨b1, 0, none⟩))]) rfl rfl rfl (wantB_f _) rfl (by decide) (fun hp hS => (hS.conv (t := 92) rfl (cond_t hp)).sub (ts := [92]) rfl) (fun hp => Ob_c tLinkK rfl) ?_; clear Z a; intro a Z
      refine g_ob Z (p := (!((!p_2.ok) || (n0_3 != 0)))) (v := .pointer (some ⟨b1, 1, none⟩)) (S' := [(93, .pointer (some ⟨b1, 0, none⟩))]) rfl rfl rfl (wantB_f _) rfl (by decide) (fun hp hS => (hS.conv (t := 93) rfl (cond_t hp)).sub (ts := [93]) rfl) (fun hp => Ob_apix (m := 1) 1 rfl rfl rfl Try.underlying56 (by kernel_rfl) rfl (by decide)) ?_; clear Z a; intro a Z
      refine g_ob Z (p := (!((!p_2.ok) || (n0_3 != 0)))) (v := .pointer (some ⟨b3, 0, none⟩)) (S' := [(94, .pointer (some ⟨b1, 1, none⟩))]) rfl rfl rfl (wantB_f _) rfl (by decide) (fun hp hS => (hS.conv (t := 94) rfl (cond_t hp)).sub (ts := [94]) rfl) (fun hp => Ob_load tLinkK rfl rfl rfl ((H.bx 1 rfl).cell 1 rfl)) ?_; clear Z a; intro a Z
      refine h_gcall Z H (js := [(0, false)]) rfl (p := (!((!p_2.ok) || (n0_3 != 0)))) (v := .int .i64 w0) (S' := [(95, .pointer (some ⟨b3, 0, none⟩))]) (caps := #[]) (fun _ => [OElink_Link b3 x_3]) fn_18_YLinkK rfl rfl rfl (wantB_f _) rfl (by decide) (fun hp hS => (hS.conv (t := 95) rfl (cond_t hp)).sub (ts := [95]) rfl) rfl rfl rfl rfl (fun hp D1 hS => have hq := c_link_Link_Waiting (gif_in hx10 hp) hS; hq) (fun hp => H.sub [(0, false), (0, false), (0, false), (0, false)] rfl) ?_; clear Z a H; intro a w15 I9 H Z
      replace H : Hf I D w I9 w15 [OElink_Link b3 x_3, BxC b1 60 [.pointer none, .pointer (some ⟨b3, 0, none⟩), .int .i64 (p_2.boot.getD 0 0), .int .i64 (p_2.boot.getD 1 0), v4, v5, .int .i64 (p_2.sent.getD 0 0), .int .i64 (p_2.sent.getD 1 0), .int .i64 (p_2.told.getD 0 0), .int .i64 (p_2.told.getD 1 0), .bool p_2.ok], OwC NESeg 31 v4 p_2.way, OwC Ni64 3 v5 p_2.to_] := H
      refine g_ob Z (p := (!((!p_2.ok) || (n0_3 != 0)))) (v := .bool (w0 != 0)) (S' := [(96, .int .i64 w0)]) rfl rfl rfl (wantB_f _) rfl (by decide) (fun hp hS => (hS.conv (t := 96) rfl (cond_t hp)).sub (ts := [96]) rfl) (fun hp => Ob_c tLinkK rfl) ?_; clear Z a; intro a Z
      refine s_ob Z (v := .bool (((!p_2.ok) || (n0_3 != 0)) || (w0 != 0))) rfl rfl (by decide) rfl (Ob_pick rfl rfl rfl rfl (pick_or _ _)) ?_; clear Z a; intro a Z
      refine s_end Z [2, 3, 4, 98] rfl ?_; clear Z; intro Z
      refine p_then ?_
      refine f_cond Z rfl (fun hc5 => ?_) (fun hc5 => ?_)
      ·replace hF := ite_t hc5 hF
       refine wp_seq (f_region Z ?_); clear Z; intro Z
       refine s_runk tLinkK Z 1 rfl rfl ?_; clear Z a; intro a Z
       refine s_end Z [2, 3, 4] rfl ?_; clear Z; intro Z
       refine p_then (wp_ret ?_)
       refine p_then_r ?_
       obtain rfl := some_in hF
       exact f_ret Z (run_results1 rfl Z rfl) ⟨rfl, I9, (H.sub [] rfl).eq rfl⟩
      ·replace hF := ite_f hc5 hF
       refine wp_skip ?_
       refine p_then (wp_seq ?_)
       obtain ⟨a0_2, hx11, hF⟩ := bnd_in hF
       refine f_quietd (by kernel_rfl) (by kernel_rfl) Z ?_; clear Z; intro Z
       refine q_runk tLinkK Z 2 rfl rfl ?_; clear Z a; intro a Z
       refine gq_ob Z (p := (!started)) (v := .pointer (some ⟨b1, 0, none⟩)) (S' := [(3, .pointer (some ⟨b1, 0, none⟩))]) rfl rfl rfl (wantB_f _) rfl (by decide) (fun hp hS => hS.sub (ts := [3]) rfl) (fun hp _ hw => Ob_c tLinkK rfl) ?_; clear Z a; intro a Z
       refine gq_ob Z (p := (!started)) (v := .pointer (some ⟨b1, 0, none⟩)) (S' := [(101, .pointer (some ⟨b1, 0, none⟩))]) rfl rfl rfl (wantB_f _) rfl (by decide) (fun hp hS => (hS.conv (t := 101) rfl (cond_t hp)).sub (ts := [101]) rfl) (fun hp _ hw => Ob_c tLinkK rfl) ?_; clear Z a; intro a Z
       refine gq_ob Z (p := (!started)) (v := .pointer (some ⟨b1, 8, none⟩)) (S' := [(102, .pointer (some ⟨b1, 0, none⟩))]) rfl rfl rfl (wantB_f _) rfl (by decide) (fun hp hS => (hS.conv (t := 102) rfl (cond_t hp)).sub (ts := [102]) rfl) (fun hp _ hw => Ob_c tLinkK rfl) ?_; clear Z a; intro a Z
       refine gq_ob Z (p := (!started)) (v := .pointer (some ⟨b1, 8, none⟩)) (S' := [(103, .pointer (some ⟨b1, 8, none⟩))]) rfl rfl rfl (wantB_f _) rfl (by decide) (fun hp hS => (hS.conv (t := 103) rfl (cond_t hp)).sub (ts := [103]) rfl) (fun hp _ hw => Ob_apix (m := 1) 0 rfl rfl rfl Try.underlying57 (by kernel_rfl) rfl (by decide)) ?_; clear Z a; intro a Z
       refine gq_ob Z (p := (!started)) (v := .int .i64 (p_2.told.getD 0 0)) (S' := [(104, .pointer (some ⟨b1, 8, none⟩))]) rfl rfl rfl (wantB_f _) rfl (by decide) (fun hp hS => (hS.conv (t := 104) rfl (cond_t hp)).sub (ts := [104]) rfl) (fun hp _ hw => Ob_load tLinkK rfl rfl rfl (((H.blw hw).bx 1 rfl).cell 8 rfl)) ?_; clear Z a; intro a Z
       refine gq_ob Z (p := (!started)) (v := .pointer (some ⟨b1, 0, none⟩)) (S' := [(3, .pointer (some ⟨b1, 0, none⟩))]) rfl rfl rfl (wantB_f _) rfl (by decide) (fun hp hS => hS.sub (ts := [3]) rfl) (fun hp _ hw => Ob_c tLinkK rfl) ?_; clear Z a; intro a Z
       refine gq_ob Z (p := (!started)) (v := .pointer (some ⟨b1, 0, none⟩)) (S' := [(106, .pointer (some ⟨b1, 0, none⟩))]) rfl rfl rfl (wantB_f _) rfl (by decide) (fun hp hS => (hS.conv (t := 106) rfl (cond_t hp)).sub (ts := [106]) rfl) (fun hp _ hw => Ob_c tLinkK rfl) ?_; clear Z a; intro a Z
       refine gq_ob Z (p := (!started)) (v := .pointer (some ⟨b1, 6, none⟩)) (S' := [(107, .pointer (some ⟨b1, 0, none⟩))]) rfl rfl rfl (wantB_f _) rfl (by decide) (fun hp hS => (hS.conv (t := 107) rfl (cond_t hp)).sub (ts := [107]) rfl) (fun hp _ hw => Ob_c tLinkK rfl) ?_; clear Z a; intro a Z
       refine gq_ob Z (p := (!started)) (v := .pointer (some ⟨b1, 7, none⟩)) (S' := [(108, .pointer (some ⟨b1, 6, none⟩))]) rfl rfl rfl (wantB_f _) rfl (by decide) (fun hp hS => (hS.conv (t := 108) rfl (cond_t hp)).sub (ts := [108]) rfl) (fun hp _ hw => Ob_apix (m := 1) 1 rfl rfl rfl Try.underlying57 (by kernel_rfl) rfl (by decide)) ?_; clear Z a; intro a Z
       refine gq_ob Z (p := (!started)) (v := .int .i64 (p_2.sent.getD 1 0)) (S' := [(109, .pointer (some ⟨b1, 7, none⟩))]) rfl rfl rfl (wantB_f _) rfl (by decide) (fun hp hS => (hS.conv (t := 109) rfl (cond_t hp)).sub (ts := [109]) rfl) (fun hp _ hw => Ob_load tLinkK rfl rfl rfl (((H.blw hw).bx 1 rfl).cell 7 rfl)) ?_; clear Z a; intro a Z
       refine gq_ob Z (p := (!started)) (v := .bool ((p_2.told.getD 0 0) == (p_2.sent.getD 1 0))) (S' := [(105, .int .i64 (p_2.told.getD 0 0)), (110, .int .i64 (p_2.sent.getD 1 0))]) rfl rfl rfl (wantB_f _) rfl (by decide) (fun hp hS => ((hS.conv (t := 105) rfl (cond_t hp)).conv (t := 110) rfl (cond_t hp)).sub (ts := [105, 110]) rfl) (fun hp _ hw => Ob_c tLinkK rfl) ?_; clear Z a; intro a Z
       refine gq_ob Z (p := (!started)) (v := .bool ((p_2.told.getD 0 0) == (p_2.sent.getD 1 0))) (S' := [(111, .bool ((p_2.told.getD 0 0) == (p_2.sent.getD 1 0)))]) rfl rfl rfl (wantB_f _) rfl (by decide) (fun hp hS => (hS.conv (t := 111) rfl (cond_t hp)).sub (ts := [111]) rfl) (fun hp _ hw => Ob_c tLinkK rfl) ?_; clear Z a; intro a Z
       refine gq_ob Z (p := ((!started) && ((p_2.told.getD 0 0) == (p_2.sent.getD 1 0)))) (v := .pointer (some ⟨b1, 0, none⟩)) (S' := [(3, .pointer (some ⟨b1, 0, none⟩))]) rfl rfl rfl (wantB_ct _ _) rfl (by decide) (fun hp hS => hS.sub (ts := [3]) rfl) (fun hp _ hw => Ob_c tLinkK rfl) ?_; clear Z a; intro a Z
       refine gq_ob Z (p := ((!started) && ((p_2.told.getD 0 0) == (p_2.sent.getD 1 0)))) (v := .pointer (some ⟨b1, 0, none⟩)) (S' := [(113, .pointer (some ⟨b1, 0, none⟩))]) rfl rfl rfl (wantB_ct _ _) rfl (by decide) (fun hp hS => (hS.conv (t := 113) rfl (cond_t hp)).sub (ts := [113]) rfl) (fun hp _ hw => Ob_c tLinkK rfl) ?_; clear Z a; intro a Z
       refine gq_ob Z (p := ((!started) && ((p_2.told.getD 0 0) == (p_2.sent.getD 1 0)))) (v := .pointer (some ⟨b1, 8, none⟩)) (S' := [(114, .pointer (some ⟨b1, 0, none⟩))]) rfl rfl rfl (wantB_ct _ _) rfl (by decide) (fun hp hS => (hS.conv (t := 114) rfl (cond_t hp)).sub (ts := [114]) rfl) (fun hp _ hw => Ob_c tLinkK rfl) ?_; clear Z a; intro a Z
       refine gq_ob Z (p := ((!started) && ((p_2.told.getD 0 0) == (p_2.sent.getD 1 0)))) (v := .pointer (some ⟨b1, 9, none⟩)) (S' := [(115, .pointer (some ⟨b1, 8, none⟩))]) rfl rfl rfl (wantB_ct _ _) rfl (by decide) (fun hp hS => (hS.conv (t := 115) rfl (cond_t hp)).sub (ts := [115]) rfl) (fun hp _ hw => Ob_apix (m := 1) 1 rfl rfl rfl Try.underlying57 (by kernel_rfl) rfl (by decide)) ?_; clear Z a; intro a Z
       refine gq_ob Z (p := ((!started) && ((p_2.told.getD 0 0) == (p_2.sent.getD 1 0)))) (v := .int .i64 (p_2.told.getD 1 0)) (S' := [(116, .pointer (some ⟨b1, 9, none⟩))]) rfl rfl rfl (wantB_ct _ _) rfl (by decide) (fun hp hS => (hS.conv (t := 116) rfl (cond_t hp)).sub (ts := [116]) rfl) (fun hp _ hw => Ob_load tLinkK rfl rfl rfl (((H.blw hw).bx 1 rfl).cell 9 rfl)) ?_; clear Z a; intro a Z
       refine gq_ob Z (p := ((!started) && ((p_2.told.getD 0 0) == (p_2.sent.getD 1 0)))) (v := .pointer (some ⟨b1, 0, none⟩)) (S' := [(3, .pointer (some ⟨b1, 0, none⟩))]) rfl rfl rfl (wantB_ct _ _) rfl (by decide) (fun hp hS => hS.sub (ts := [3]) rfl) (fun hp _ hw => Ob_c tLinkK rfl) ?_; clear Z a; intro a Z
       refine gq_ob Z (p := ((!started) && ((p_2.told.getD 0 0) == (p_2.sent.getD 1 0)))) (v := .pointer (some ⟨b1, 0, none⟩)) (S' := [(118, .pointer (some ⟨b1, 0, none⟩))]) rfl rfl rfl (wantB_ct _ _) rfl (by decide) (fun hp hS => (hS.conv (t := 118) rfl (cond_t hp)).sub (ts := [118]) rfl) (fun hp _ hw => Ob_c tLinkK rfl) ?_; clear Z a; intro a Z
       refine gq_ob Z (p := ((!started) && ((p_2.told.getD 0 0) == (p_2.sent.getD 1 0)))) (v := .pointer (some ⟨b1, 6, none⟩)) (S' := [(119, .pointer (some ⟨b1, 0, none⟩))]) rfl rfl rfl (wantB_ct _ _) rfl (by decide) (fun hp hS => (hS.conv (t := 119) rfl (cond_t hp)).sub (ts := [119]) rfl) (fun hp _ hw => Ob_c tLinkK rfl) ?_; clear Z a; intro a Z
       refine gq_ob Z (p := ((!started) && ((p_2.told.getD 0 0) == (p_2.sent.getD 1 0)))) (v := .pointer (some ⟨b1, 6, none⟩)) (S' := [(120, .pointer (some ⟨b1, 6, none⟩))]) rfl rfl rfl (wantB_ct _ _) rfl (by decide) (fun hp hS => (hS.conv (t := 120) rfl (cond_t hp)).sub (ts := [120]) rfl) (fun hp _ hw => Ob_apix (m := 1) 0 rfl rfl rfl Try.underlying57 (by kernel_rfl) rfl (by decide)) ?_; clear Z a; intro a Z
       refine gq_ob Z (p := ((!started) && ((p_2.told.getD 0 0) == (p_2.sent.getD 1 0)))) (v := .int .i64 (p_2.sent.getD 0 0)) (S' := [(121, .pointer (some ⟨b1, 6, none⟩))]) rfl rfl rfl (wantB_ct _ _) rfl (by decide) (fun hp hS => (hS.conv (t := 121) rfl (cond_t hp)).sub (ts := [121]) rfl) (fun hp _ hw => Ob_load tLinkK rfl rfl rfl (((H.blw hw).bx 1 rfl).cell 6 rfl)) ?_; clear Z a; intro a Z
       refine gq_ob Z (p := ((!started) && ((p_2.told.getD 0 0) == (p_2.sent.getD 1 0)))) (v := .bool ((p_2.told.getD 1 0) == (p_2.sent.getD 0 0))) (S' := [(117, .int .i64 (p_2.told.getD 1 0)), (122, .int .i64 (p_2.sent.getD 0 0))]) rfl rfl rfl (wantB_ct _ _) rfl (by decide) (fun hp hS => ((hS.conv (t := 117) rfl (cond_t hp)).conv (t := 122) rfl (cond_t hp)).sub (ts := [117, 122]) rfl) (fun hp _ hw => Ob_c tLinkK rfl) ?_; clear Z a; intro a Z
       refine gq_ob Z (p := (!started)) (v := .bool (((p_2.told.getD 0 0) == (p_2.sent.getD 1 0)) && ((p_2.told.getD 1 0) == (p_2.sent.getD 0 0)))) (S' := [(112, .bool ((p_2.told.getD 0 0) == (p_2.sent.getD 1 0))), (123, cond ((!started) && ((p_2.told.getD 0 0) == (p_2.sent.getD 1 0))) (.bool ((p_2.told.getD 1 0) == (p_2.sent.getD 0 0))) undef)]) rfl rfl rfl (wantB_f _) rfl (by decide) (fun hp hS => (hS.conv (t := 112) rfl (cond_t hp)).sub (ts := [112, 123]) rfl) (fun hp _ hw => Ob_pick rfl rfl rfl rfl (pick_andp _ _ hp)) ?_; clear Z a; intro a Z
       refine q_ob Z (v := .bool (started || (((p_2.told.getD 0 0) == (p_2.sent.getD 1 0)) && ((p_2.told.getD 1 0) == (p_2.sent.getD 0 0))))) rfl rfl (by decide) rfl (fun _ hw => Ob_pick rfl rfl rfl rfl (pick_or _ _)) ?_; clear Z a; intro a Z
       refine q_runk tLinkK Z 1 rfl rfl ?_; clear Z a; intro a Z
       refine gq_call Z (p := (started || (((p_2.told.getD 0 0) == (p_2.sent.getD 1 0)) && ((p_2.told.getD 1 0) == (p_2.sent.getD 0 0))))) (v := .bool a0_2) (S' := []) (caps := #[]) fn_20_YLinkK rfl rfl rfl (wantB_t _) rfl (by decide) (fun hp hS => hS.sub (ts := []) rfl) rfl rfl rfl rfl (fun hp _ hw => (have hq := c_law22_awake (gif_in hx11 hp) (((H.blw hw)).pick0 (js := []) rfl rfl); plainC hq)) ?_; clear Z a; intro a Z
       refine q_ob Z (v := .bool ((started || (((p_2.told.getD 0 0) == (p_2.sent.getD 1 0)) && ((p_2.told.getD 1 0) == (p_2.sent.getD 0 0)))) && a0_2)) rfl rfl (by decide) rfl (fun _ hw => Ob_pick rfl rfl rfl rfl (pick_and _ _)) ?_; clear Z a; intro a Z
       refine q_runk tLinkK Z 1 rfl rfl ?_; clear Z a; intro a Z
       refine q_end Z [2] rfl ?_; clear Z; intro w16 hb Z
       replace H : Hf I D w I9 w16 [OElink_Link b3 x_3, BxC b1 60 [.pointer none, .pointer (some ⟨b3, 0, none⟩), .int .i64 (p_2.boot.getD 0 0), .int .i64 (p_2.boot.getD 1 0), v4, v5, .int .i64 (p_2.sent.getD 0 0), .int .i64 (p_2.sent.getD 1 0), .int .i64 (p_2.told.getD 0 0), .int .i64 (p_2.told.getD 1 0), .bool p_2.ok], OwC NESeg 31 v4 p_2.way, OwC Ni64 3 v5 p_2.to_] := H.blw hb
       clear hb
       refine p_then (wp_ret ?_)
       obtain rfl := some_in hF
       exact f_ret Z (run_results1 rfl Z rfl) ⟨rfl, I9, (H.sub [] rfl).eq rfl⟩
    ·obtain ⟨b2, hv, H⟩ := H.optS 1 rfl ho2
     subst hv
     replace H : Hf I D w I4 w4 [OElink_Link b2 x_2, BxC b1 60 [.pointer (some ⟨b2, 0, none⟩), v3, .int .i64 (p_2.boot.getD 0 0), .int .i64 (p_2.boot.getD 1 0), v4, v5, .int .i64 (p_2.sent.getD 0 0), .int .i64 (p_2.sent.getD 1 0), .int .i64 (p_2.told.getD 0 0), .int .i64 (p_2.told.getD 1 0), .bool p_2.ok], PtC OElink_Link v3 (p_2.l.getD 1 none), OwC NESeg 31 v4 p_2.way, OwC Ni64 3 v5 p_2.to_] := H
     rcases optE_in hF with ⟨ho4, hF⟩ | ⟨x_4, ho4, hF⟩
     ·obtain ⟨hv, H⟩ := H.optN 2 rfl ho4
      subst hv
      replace H : Hf I D w I4 w4 [OElink_Link b2 x_2, BxC b1 60 [.pointer (some ⟨b2, 0, none⟩), .pointer none, .int .i64 (p_2.boot.getD 0 0), .int .i64 (p_2.boot.getD 1 0), v4, v5, .int .i64 (p_2.sent.getD 0 0), .int .i64 (p_2.sent.getD 1 0), .int .i64 (p_2.told.getD 0 0), .int .i64 (p_2.told.getD 1 0), .bool p_2.ok], OwC NESeg 31 v4 p_2.way, OwC Ni64 3 v5 p_2.to_] := H
      obtain ⟨w0_2, hx12, hF⟩ := bnd_in hF
      obtain ⟨n0_4, hx13, hF⟩ := bnd_in hF
      refine f_region Z ?_; clear Z; intro Z
      refine s_runk tLinkK Z 3 rfl rfl ?_; clear Z a; intro a Z
      refine s_ob Z (v := .bool p_2.ok) rfl rfl (by decide) rfl (Ob_load tLinkK rfl rfl rfl ((H.bx 1 rfl).cell 10 rfl)) ?_; clear Z a; intro a Z
      refine s_runk tLinkK Z 2 rfl rfl ?_; clear Z a; intro a Z
      refine g_ob Z (p := (!(!p_2.ok))) (v := .pointer (some ⟨b1, 0, none⟩)) (S' := [(3, .pointer (some ⟨b1, 0, none⟩))]) rfl rfl rfl (wantB_f _) rfl (by decide) (fun hp hS => hS.sub (ts := [3]) rfl) (fun hp => Ob_c tLinkK rfl) ?_; clear Z a; intro a Z
      refine g_ob Z (p := (!(!p_2.ok))) (v := .pointer (some ⟨b1, 0, none⟩)) (S' := [(82, .pointer (some ⟨b1, 0, none⟩))]) rfl rfl rfl (wantB_f _) rfl (by decide) (fun hp hS => (hS.conv (t := 82) rfl (cond_t hp)).sub (ts := [82]) rfl) (fun hp => Ob_c tLinkK rfl) ?_; clear Z a; intro a Z
      refine g_ob Z (p := (!(!p_2.ok))) (v := .pointer (some ⟨b1, 0, none⟩)) (S' := [(83, .pointer (some ⟨b1, 0, none⟩))]) rfl rfl rfl (wantB_f _) rfl (by decide) (fun hp hS => (hS.conv (t := 83) rfl (cond_t hp)).sub (ts := [83]) rfl) (fun hp => Ob_c tLinkK rfl) ?_; clear Z a; intro a Z
      refine g_ob Z (p := (!(!p_2.ok))) (v := .pointer (some ⟨b1, 0, none⟩)) (S' := [(84, .pointer (some ⟨b1, 0, none⟩))]) rfl rfl rfl (wantB_f _) rfl (by decide) (fun hp hS => (hS.conv (t := 84) rfl (cond_t hp)).sub (ts := [84]) rfl) (fun hp => Ob_apix (m := 1) 0 rfl rfl rfl Try.underlying56 (by kernel_rfl) rfl (by decide)) ?_; clear Z a; intro a Z
      refine g_ob Z (p := (!(!p_2.ok))) (v := .pointer (some ⟨b2, 0, none⟩)) (S' := [(85, .pointer (some ⟨b1, 0, none⟩))]) rfl rfl rfl (wantB_f _) rfl (by decide) (fun hp hS => (hS.conv (t := 85) rfl (cond_t hp)).sub (ts := [85]) rfl) (fun hp => Ob_load tLinkK rfl rfl rfl ((H.bx 1 rfl).cell 0 rfl)) ?_; clear Z a; intro a Z
      refine h_gcall Z H (js := [(0, false)]) rfl (p := (!(!p_2.ok))) (v := .int .i64 w0_2) (S' := [(86, .pointer (some ⟨b2, 0, none⟩))]) (caps := #[]) (fun _ => [OElink_Link b2 x_2]) fn_18_YLinkK rfl rfl rfl (wantB_f _) rfl (by decide) (fun hp hS => (hS.conv (t := 86) rfl (cond_t hp)).sub (ts := [86]) rfl) rfl rfl rfl rfl (fun hp D1 hS => have hq := c_link_Link_Waiting (gif_in hx12 hp) hS; hq) (fun hp => H.sub [(0, false), (0, false), (0, false), (0, false)] rfl) ?_; clear Z a H; intro a w17 I10 H Z
      replace H : Hf I D w I10 w17 [OElink_Link b2 x_2, BxC b1 60 [.pointer (some ⟨b2, 0, none⟩), .pointer none, .int .i64 (p_2.boot.getD 0 0), .int .i64 (p_2.boot.getD 1 0), v4, v5, .int .i64 (p_2.sent.getD 0 0), .int .i64 (p_2.sent.getD 1 0), .int .i64 (p_2.told.getD 0 0), .int .i64 (p_2.told.getD 1 0), .bool p_2.ok], OwC NESeg 31 v4 p_2.way, OwC Ni64 3 v5 p_2.to_] := H
      refine g_ob Z (p := (!(!p_2.ok))) (v := .bool (w0_2 != 0)) (S' := [(87, .int .i64 w0_2)]) rfl rfl rfl (wantB_f _) rfl (by decide) (fun hp hS => (hS.conv (t := 87) rfl (cond_t hp)).sub (ts := [87]) rfl) (fun hp => Ob_c tLinkK rfl) ?_; clear Z a; intro a Z
      refine s_ob Z (v := .bool ((!p_2.ok) || (w0_2 != 0))) rfl rfl (by decide) rfl (Ob_pick rfl rfl rfl rfl (pick_or _ _)) ?_; clear Z a; intro a Z
      refine s_runk tLinkK Z 1 rfl rfl ?_; clear Z a; intro a Z
      refine g_ob Z (p := (!((!p_2.ok) || (w0_2 != 0)))) (v := .pointer (some ⟨b1, 0, none⟩)) (S' := [(3, .pointer (some ⟨b1, 0, none⟩))]) rfl rfl rfl (wantB_f _) rfl (by decide) (fun hp hS => hS.sub (ts := [3]) rfl) (fun hp => Ob_c tLinkK rfl) ?_; clear Z a; intro a Z
      refine g_ob Z (p := (!((!p_2.ok) || (w0_2 != 0)))) (v := .pointer (some ⟨b1, 0, none⟩)) (S' := [(91, .pointer (some ⟨b1, 0, none⟩))]) rfl rfl rfl (wantB_f _) rfl (by decide) (fun hp hS => (hS.conv (t := 91) rfl (cond_t hp)).sub (ts := [91]) rfl) (fun hp => Ob_c tLinkK rfl) ?_; clear Z a; intro a Z
      refine g_ob Z (p := (!((!p_2.ok) || (w0_2 != 0)))) (v := .pointer (some ⟨b1, 0, none⟩)) (S' := [(92, .pointer (some ⟨b1, 0, none⟩))]) rfl rfl rfl (wantB_f _) rfl (by decide) (fun hp hS => (hS.conv (t := 92) rfl (cond_t hp)).sub (ts := [92]) rfl) (fun hp => Ob_c tLinkK rfl) ?_; clear Z a; intro a Z
      refine g_ob Z (p := (!((!p_2.ok) || (w0_2 != 0)))) (v := .pointer (some ⟨b1, 1, none⟩)) (S' := [(93, .pointer (some ⟨b1, 0, none⟩))]) rfl rfl rfl (wantB_f _) rfl (by decide) (fun hp hS => (hS.conv (t := 93) rfl (cond_t hp)).sub (ts := [93]) rfl) (fun hp => Ob_apix (m := 1) 1 rfl rfl rfl Try.underlying56 (by kernel_rfl) rfl (by decide)) ?_; clear Z a; intro a Z
      refine g_ob Z (p := (!((!p_2.ok) || (w0_2 != 0)))) (v := .pointer none) (S' := [(94, .pointer (some ⟨b1, 1, none⟩))]) rfl rfl rfl (wantB_f _) rfl (by decide) (fun hp hS => (hS.conv (t := 94) rfl (cond_t hp)).sub (ts := [94]) rfl) (fun hp => Ob_load tLinkK rfl rfl rfl ((H.bx 1 rfl).cell 1 rfl)) ?_; clear Z a; intro a Z
      refine g_call Z (p := (!((!p_2.ok) || (w0_2 != 0)))) (v := .int .i64 n0_4) (S' := [(95, .pointer none)]) (caps := #[]) fn_18_YLinkK rfl rfl rfl (wantB_f _) rfl (by decide) (fun hp hS => (hS.conv (t := 95) rfl (cond_t hp)).sub (ts := [95]) rfl) rfl rfl rfl rfl (fun hp => (have hq := c_link_Link_Waiting_nil (gif_in hx13 hp) ((H).pick0 (js := []) rfl rfl); plainC hq)) ?_; clear Z a; intro a w18 hb Z
      replace H : Hf I D w I10 w18 [OElink_Link b2 x_2, BxC b1 60 [.pointer (some ⟨b2, 0, none⟩), .pointer none, .int .i64 (p_2.boot.getD 0 0), .int .i64 (p_2.boot.getD 1 0), v4, v5, .int .i64 (p_2.sent.getD 0 0), .int .i64 (p_2.sent.getD 1 0), .int .i64 (p_2.told.getD 0 0), .int .i64 (p_2.told.getD 1 0), .bool p_2.ok], OwC NESeg 31 v4 p_2.way, OwC Ni64 3 v5 p_2.to_] := H.blw hb
      clear hb
      refine g_ob Z (p := (!((!p_2.ok) || (w0_2 != 0)))) (v := .bool (n0_4 != 0)) (S' := [(96, .int .i64 n0_4)]) rfl rfl rfl (wantB_f _) rfl (by decide) (fun hp hS => (hS.conv (t := 96) rfl (cond_t hp)).sub (ts := [96]) rfl) (fun hp => Ob_c tLinkK rfl) ?_; clear Z a; intro a Z
      refine s_ob Z (v := .bool (((!p_2.ok) || (w0_2 != 0)) || (n0_4 != 0))) rfl rfl (by decide) rfl (Ob_pick rfl rfl rfl rfl (pick_or _ _)) ?_; clear Z a; intro a Z
      refine s_end Z [2, 3, 4, 98] rfl ?_; clear Z; intro Z
      refine p_then ?_
      refine f_cond Z rfl (fun hc6 => ?_) (fun hc6 => ?_)
      ·replace hF := ite_t hc6 hF
       refine wp_seq (f_region Z ?_); clear Z; intro Z
       refine s_runk tLinkK Z 1 rfl rfl ?_; clear Z a; intro a Z
       refine s_end Z [2, 3, 4] rfl ?_; clear Z; intro Z
       refine p_then (wp_ret ?_)
       refine p_then_r ?_
       obtain rfl := some_in hF
       exact f_ret Z (run_results1 rfl Z rfl) ⟨rfl, I10, (H.sub [] rfl).eq rfl⟩
      ·replace hF := ite_f hc6 hF
       refine wp_skip ?_
       refine p_then (wp_seq ?_)
       obtain ⟨a0_3, hx14, hF⟩ := bnd_in hF
       refine f_quietd (by kernel_rfl) (by kernel_rfl) Z ?_; clear Z; intro Z
       refine q_runk tLinkK Z 2 rfl rfl ?_; clear Z a; intro a Z
       refine gq_ob Z (p := (!started)) (v := .pointer (some ⟨b1, 0, none⟩)) (S' := [(3, .pointer (some ⟨b1, 0, none⟩))]) rfl rfl rfl (wantB_f _) rfl (by decide) (fun hp hS => hS.sub (ts := [3]) rfl) (fun hp _ hw => Ob_c tLinkK rfl) ?_; clear Z a; intro a Z
       refine gq_ob Z (p := (!started)) (v := .pointer (some ⟨b1, 0, none⟩)) (S' := [(101, .pointer (some ⟨b1, 0, none⟩))]) rfl rfl rfl (wantB_f _) rfl (by decide) (fun hp hS => (hS.conv (t := 101) rfl (cond_t hp)).sub (ts := [101]) rfl) (fun hp _ hw => Ob_c tLinkK rfl) ?_; clear Z a; intro a Z
       refine gq_ob Z (p := (!started)) (v := .pointer (some ⟨b1, 8, none⟩)) (S' := [(102, .pointer (some ⟨b1, 0, none⟩))]) rfl rfl rfl (wantB_f _) rfl (by decide) (fun hp hS => (hS.conv (t := 102) rfl (cond_t hp)).sub (ts := [102]) rfl) (fun hp _ hw => Ob_c tLinkK rfl) ?_; clear Z a; intro a Z
       refine gq_ob Z (p := (!started)) (v := .pointer (some ⟨b1, 8, none⟩)) (S' := [(103, .pointer (some ⟨b1, 8, none⟩))]) rfl rfl rfl (wantB_f _) rfl (by decide) (fun hp hS => (hS.conv (t := 103) rfl (cond_t hp)).sub (ts := [103]) rfl) (fun hp _ hw => Ob_apix (m := 1) 0 rfl rfl rfl Try.underlying57 (by kernel_rfl) rfl (by decide)) ?_; clear Z a; intro a Z
       refine gq_ob Z (p := (!started)) (v := .int .i64 (p_2.told.getD 0 0)) (S' := [(104, .pointer (some ⟨b1, 8, none⟩))]) rfl rfl rfl (wantB_f _) rfl (by decide) (fun hp hS => (hS.conv (t := 104) rfl (cond_t hp)).sub (ts := [104]) rfl) (fun hp _ hw => Ob_load tLinkK rfl rfl rfl (((H.blw hw).bx 1 rfl).cell 8 rfl)) ?_; clear Z a; intro a Z
       refine gq_ob Z (p := (!started)) (v := .pointer (some ⟨b1, 0, none⟩)) (S' := [(3, .pointer (some ⟨b1, 0, none⟩))]) rfl rfl rfl (wantB_f _) rfl (by decide) (fun hp hS => hS.sub (ts := [3]) rfl) (fun hp _ hw => Ob_c tLinkK rfl) ?_; clear Z a; intro a Z
       refine gq_ob Z (p := (!started)) (v := .pointer (some ⟨b1, 0, none⟩)) (S' := [(106, .pointer (some ⟨b1, 0, none⟩))]) rfl rfl rfl (wantB_f _) rfl (by decide) (fun hp hS => (hS.conv (t := 106) rfl (cond_t hp)).sub (ts := [106]) rfl) (fun hp _ hw => Ob_c tLinkK rfl) ?_; clear Z a; intro a Z
       refine gq_ob Z (p := (!started)) (v := .pointer (some ⟨b1, 6, none⟩)) (S' := [(107, .pointer (some ⟨b1, 0, none⟩))]) rfl rfl rfl (wantB_f _) rfl (by decide) (fun hp hS => (hS.conv (t := 107) rfl (cond_t hp)).sub (ts := [107]) rfl) (fun hp _ hw => Ob_c tLinkK rfl) ?_; clear Z a; intro a Z
       refine gq_ob Z (p := (!started)) (v := .pointer (some ⟨b1, 7, none⟩)) (S' := [(108, .pointer (some ⟨b1, 6, none⟩))]) rfl rfl rfl (wantB_f _) rfl (by decide) (fun hp hS => (hS.conv (t := 108) rfl (cond_t hp)).sub (ts := [108]) rfl) (fun hp _ hw => Ob_apix (m := 1) 1 rfl rfl rfl Try.underlying57 (by kernel_rfl) rfl (by decide)) ?_; clear Z a; intro a Z
       refine gq_ob Z (p := (!started)) (v := .int .i64 (p_2.sent.getD 1 0)) (S' := [(109, .pointer (some ⟨b1, 7, none⟩))]) rfl rfl rfl (wantB_f _) rfl (by decide) (fun hp hS => (hS.conv (t := 109) rfl (cond_t hp)).sub (ts := [109]) rfl) (fun hp _ hw => Ob_load tLinkK rfl rfl rfl (((H.blw hw).bx 1 rfl).cell 7 rfl)) ?_; clear Z a; intro a Z
       refine gq_ob Z (p := (!started)) (v := .bool ((p_2.told.getD 0 0) == (p_2.sent.getD 1 0))) (S' := [(105, .int .i64 (p_2.told.getD 0 0)), (110, .int .i64 (p_2.sent.getD 1 0))]) rfl rfl rfl (wantB_f _) rfl (by decide) (fun hp hS => ((hS.conv (t := 105) rfl (cond_t hp)).conv (t := 110) rfl (cond_t hp)).sub (ts := [105, 110]) rfl) (fun hp _ hw => Ob_c tLinkK rfl) ?_; clear Z a; intro a Z
       refine gq_ob Z (p := (!started)) (v := .bool ((p_2.told.getD 0 0) == (p_2.sent.getD 1 0))) (S' := [(111, .bool ((p_2.told.getD 0 0) == (p_2.sent.getD 1 0)))]) rfl rfl rfl (wantB_f _) rfl (by decide) (fun hp hS => (hS.conv (t := 111) rfl (cond_t hp)).sub (ts := [111]) rfl) (fun hp _ hw => Ob_c tLinkK rfl) ?_; clear Z a; intro a Z
       refine gq_ob Z (p := ((!started) && ((p_2.told.getD 0 0) == (p_2.sent.getD 1 0)))) (v := .pointer (some ⟨b1, 0, none⟩)) (S' := [(3, .pointer (some ⟨b1, 0, none⟩))]) rfl rfl rfl (wantB_ct _ _) rfl (by decide) (fun hp hS => hS.sub (ts := [3]) rfl) (fun hp _ hw => Ob_c tLinkK rfl) ?_; clear Z a; intro a Z
       refine gq_ob Z (p := ((!started) && ((p_2.told.getD 0 0) == (p_2.sent.getD 1 0)))) (v := .pointer (some ⟨b1, 0, none⟩)) (S' := [(113, .pointer (some ⟨b1, 0, none⟩))]) rfl rfl rfl (wantB_ct _ _) rfl (by decide) (fun hp hS => (hS.conv (t := 113) rfl (cond_t hp)).sub (ts := [113]) rfl) (fun hp _ hw => Ob_c tLinkK rfl) ?_; clear Z a; intro a Z
       refine gq_ob Z (p := ((!started) && ((p_2.told.getD 0 0) == (p_2.sent.getD 1 0)))) (v := .pointer (some ⟨b1, 8, none⟩)) (S' := [(114, .pointer (some ⟨b1, 0, none⟩))]) rfl rfl rfl (wantB_ct _ _) rfl (by decide) (fun hp hS => (hS.conv (t := 114) rfl (cond_t hp)).sub (ts := [114]) rfl) (fun hp _ hw => Ob_c tLinkK rfl) ?_; clear Z a; intro a Z
       refine gq_ob Z (p := ((!started) && ((p_2.told.getD 0 0) == (p_2.sent.getD 1 0)))) (v := .pointer (some ⟨b1, 9, none⟩)) (S' := [(115, .pointer (some ⟨b1, 8, none⟩))]) rfl rfl rfl (wantB_ct _ _) rfl (by decide) (fun hp hS => (hS.conv (t := 115) rfl (cond_t hp)).sub (ts := [115]) rfl) (fun hp _ hw => Ob_apix (m := 1) 1 rfl rfl rfl Try.underlying57 (by kernel_rfl) rfl (by decide)) ?_; clear Z a; intro a Z
       refine gq_ob Z (p := ((!started) && ((p_2.told.getD 0 0) == (p_2.sent.getD 1 0)))) (v := .int .i64 (p_2.told.getD 1 0)) (S' := [(116, .pointer (some ⟨b1, 9, none⟩))]) rfl rfl rfl (wantB_ct _ _) rfl (by decide) (fun hp hS => (hS.conv (t := 116) rfl (cond_t hp)).sub (ts := [116]) rfl) (fun hp _ hw => Ob_load tLinkK rfl rfl rfl (((H.blw hw).bx 1 rfl).cell 9 rfl)) ?_; clear Z a; intro a Z
       refine gq_ob Z (p := ((!started) && ((p_2.told.getD 0 0) == (p_2.sent.getD 1 0)))) (v := .pointer (some ⟨b1, 0, none⟩)) (S' := [(3, .pointer (some ⟨b1, 0, none⟩))]) rfl rfl rfl (wantB_ct _ _) rfl (by decide) (fun hp hS => hS.sub (ts := [3]) rfl) (fun hp _ hw => Ob_c tLinkK rfl) ?_; clear Z a; intro a Z
       refine gq_ob Z (p := ((!started) && ((p_2.told.getD 0 0) == (p_2.sent.getD 1 0)))) (v := .pointer (some ⟨b1, 0, none⟩)) (S' := [(118, .pointer (some ⟨b1, 0, none⟩))]) rfl rfl rfl (wantB_ct _ _) rfl (by decide) (fun hp hS => (hS.conv (t := 118) rfl (cond_t hp)).sub (ts := [118]) rfl) (fun hp _ hw => Ob_c tLinkK rfl) ?_; clear Z a; intro a Z
       refine gq_ob Z (p := ((!started) && ((p_2.told.getD 0 0) == (p_2.sent.getD 1 0)))) (v := .pointer (some ⟨b1, 6, none⟩)) (S' := [(119, .pointer (some ⟨b1, 0, none⟩))]) rfl rfl rfl (wantB_ct _ _) rfl (by decide) (fun hp hS => (hS.conv (t := 119) rfl (cond_t hp)).sub (ts := [119]) rfl) (fun hp _ hw => Ob_c tLinkK rfl) ?_; clear Z a; intro a Z
       refine gq_ob Z (p := ((!started) && ((p_2.told.getD 0 0) == (p_2.sent.getD 1 0)))) (v := .pointer (some ⟨b1, 6, none⟩)) (S' := [(120, .pointer (some ⟨b1, 6, none⟩))]) rfl rfl rfl (wantB_ct _ _) rfl (by decide) (fun hp hS => (hS.conv (t := 120) rfl (cond_t hp)).sub (ts := [120]) rfl) (fun hp _ hw => Ob_apix (m := 1) 0 rfl rfl rfl Try.underlying57 (by kernel_rfl) rfl (by decide)) ?_; clear Z a; intro a Z
       refine gq_ob Z (p := ((!started) && ((p_2.told.getD 0 0) == (p_2.sent.getD 1 0)))) (v := .int .i64 (p_2.sent.getD 0 0)) (S' := [(121, .pointer (some ⟨b1, 6, none⟩))]) rfl rfl rfl (wantB_ct _ _) rfl (by decide) (fun hp hS => (hS.conv (t := 121) rfl (cond_t hp)).sub (ts := [121]) rfl) (fun hp _ hw => Ob_load tLinkK rfl rfl rfl (((H.blw hw).bx 1 rfl).cell 6 rfl)) ?_; clear Z a; intro a Z
       refine gq_ob Z (p := ((!started) && ((p_2.told.getD 0 0) == (p_2.sent.getD 1 0)))) (v := .bool ((p_2.told.getD 1 0) == (p_2.sent.getD 0 0))) (S' := [(117, .int .i64 (p_2.told.getD 1 0)), (122, .int .i64 (p_2.sent.getD 0 0))]) rfl rfl rfl (wantB_ct _ _) rfl (by decide) (fun hp hS => ((hS.conv (t := 117) rfl (cond_t hp)).conv (t := 122) rfl (cond_t hp)).sub (ts := [117, 122]) rfl) (fun hp _ hw => Ob_c tLinkK rfl) ?_; clear Z a; intro a Z
       refine gq_ob Z (p := (!started)) (v := .bool (((p_2.told.getD 0 0) == (p_2.sent.getD 1 0)) && ((p_2.told.getD 1 0) == (p_2.sent.getD 0 0)))) (S' := [(112, .bool ((p_2.told.getD 0 0) == (p_2.sent.getD 1 0))), (123, cond ((!started) && ((p_2.told.getD 0 0) == (p_2.sent.getD 1 0))) (.bool ((p_2.told.getD 1 0) == (p_2.sent.getD 0 0))) undef)]) rfl rfl rfl (wantB_f _) rfl (by decide) (fun hp hS => (hS.conv (t := 112) rfl (cond_t hp)).sub (ts := [112, 123]) rfl) (fun hp _ hw => Ob_pick rfl rfl rfl rfl (pick_andp _ _ hp)) ?_; clear Z a; intro a Z
       refine q_ob Z (v := .bool (started || (((p_2.told.getD 0 0) == (p_2.sent.getD 1 0)) && ((p_2.told.getD 1 0) == (p_2.sent.getD 0 0))))) rfl rfl (by decide) rfl (fun _ hw => Ob_pick rfl rfl rfl rfl (pick_or _ _)) ?_; clear Z a; intro a Z
       refine q_runk tLinkK Z 1 rfl rfl ?_; clear Z a; intro a Z
       refine gq_call Z (p := (started || (((p_2.told.getD 0 0) == (p_2.sent.getD 1 0)) && ((p_2.told.getD 1 0) == (p_2.sent.getD 0 0))))) (v := .bool a0_3) (S' := []) (caps := #[]) fn_20_YLinkK rfl rfl rfl (wantB_t _) rfl (by decide) (fun hp hS => hS.sub (ts := []) rfl) rfl rfl rfl rfl (fun hp _ hw => (have hq := c_law22_awake (gif_in hx14 hp) (((H.blw hw)).pick0 (js := []) rfl rfl); plainC hq)) ?_; clear Z a; intro a Z
       refine q_ob Z (v := .bool ((started || (((p_2.told.getD 0 0) == (p_2.sent.getD 1 0)) && ((p_2.told.getD 1 0) == (p_2.sent.getD 0 0)))) && a0_3)) rfl rfl (by decide) rfl (fun _ hw => Ob_pick rfl rfl rfl rfl (pick_and _ _)) ?_; clear Z a; intro a Z
       refine q_runk tLinkK Z 1 rfl rfl ?_; clear Z a; intro a Z
       refine q_end Z [2] rfl ?_; clear Z; intro w19 hb Z
       replace H : Hf I D w I10 w19 [OElink_Link b2 x_2, BxC b1 60 [.pointer (some ⟨b2, 0, none⟩), .pointer none, .int .i64 (p_2.boot.getD 0 0), .int .i64 (p_2.boot.getD 1 0), v4, v5, .int .i64 (p_2.sent.getD 0 0), .int .i64 (p_2.sent.getD 1 0), .int .i64 (p_2.told.getD 0 0), .int .i64 (p_2.told.getD 1 0), .bool p_2.ok], OwC NESeg 31 v4 p_2.way, OwC Ni64 3 v5 p_2.to_] := H.blw hb
       clear hb
       refine p_then (wp_ret ?_)
       obtain rfl := some_in hF
       exact f_ret Z (run_results1 rfl Z rfl) ⟨rfl, I10, (H.sub [] rfl).eq rfl⟩
     ·obtain ⟨b4, hv, H⟩ := H.optS 2 rfl ho4
      subst hv
      replace H : Hf I D w I4 w4 [OElink_Link b4 x_4, OElink_Link b2 x_2, BxC b1 60 [.pointer (some ⟨b2, 0, none⟩), .pointer (some ⟨b4, 0, none⟩), .int .i64 (p_2.boot.getD 0 0), .int .i64 (p_2.boot.getD 1 0), v4, v5, .int .i64 (p_2.sent.getD 0 0), .int .i64 (p_2.sent.getD 1 0), .int .i64 (p_2.told.getD 0 0), .int .i64 (p_2.told.getD 1 0), .bool p_2.ok], OwC NESeg 31 v4 p_2.way, OwC Ni64 3 v5 p_2.to_] := H
      obtain ⟨w0_3, hx15, hF⟩ := bnd_in hF
      obtain ⟨w0_4, hx16, hF⟩ := bnd_in hF
      refine f_region Z ?_; clear Z; intro Z
      refine s_runk tLinkK Z 3 rfl rfl ?_; clear Z a; intro a Z
      refine s_ob Z (v := .bool p_2.ok) rfl rfl (by decide) rfl (Ob_load tLinkK rfl rfl rfl ((H.bx 2 rfl).cell 10 rfl)) ?_; clear Z a; intro a Z
      refine s_runk tLinkK Z 2 rfl rfl ?_; clear Z a; intro a Z
      refine g_ob Z (p := (!(!p_2.ok))) (v := .pointer (some ⟨b1, 0, none⟩)) (S' := [(3, .pointer (some ⟨b1, 0, none⟩))]) rfl rfl rfl (wantB_f _) rfl (by decide) (fun hp hS => hS.sub (ts := [3]) rfl) (fun hp => Ob_c tLinkK rfl) ?_; clear Z a; intro a Z
      refine g_ob Z (p := (!(!p_2.ok))) (v := .pointer (some ⟨b1, 0, none⟩)) (S' := [(82, .pointer (some ⟨b1, 0, none⟩))]) rfl rfl rfl (wantB_f _) rfl (by decide) (fun hp hS => (hS.conv (t := 82) rfl (cond_t hp)).sub (ts := [82]) rfl) (fun hp => Ob_c tLinkK rfl) ?_; clear Z a; intro a Z
      refine g_ob Z (p := (!(!p_2.ok))) (v := .pointer (some ⟨b1, 0, none⟩)) (S' := [(83, .pointer (some ⟨b1, 0, none⟩))]) rfl rfl rfl (wantB_f _) rfl (by decide) (fun hp hS => (hS.conv (t := 83) rfl (cond_t hp)).sub (ts := [83]) rfl) (fun hp => Ob_c tLinkK rfl) ?_; clear Z a; intro a Z
      refine g_ob Z (p := (!(!p_2.ok))) (v := .pointer (some ⟨b1, 0, none⟩)) (S' := [(84, .pointer (some ⟨b1, 0, none⟩))]) rfl rfl rfl (wantB_f _) rfl (by decide) (fun hp hS => (hS.conv (t := 84) rfl (cond_t hp)).sub (ts := [84]) rfl) (fun hp => Ob_apix (m := 1) 0 rfl rfl rfl Try.underlying56 (by kernel_rfl) rfl (by decide)) ?_; clear Z a; intro a Z
      refine g_ob Z (p := (!(!p_2.ok))) (v := .pointer (some ⟨b2, 0, none⟩)) (S' := [(85, .pointer (some ⟨b1, 0, none⟩))]) rfl rfl rfl (wantB_f _) rfl (by decide) (fun hp hS => (hS.conv (t := 85) rfl (cond_t hp)).sub (ts := [85]) rfl) (fun hp => Ob_load tLinkK rfl rfl rfl ((H.bx 2 rfl).cell 0 rfl)) ?_; clear Z a; intro a Z
      refine h_gcall Z H (js := [(1, false)]) rfl (p := (!(!p_2.ok))) (v := .int .i64 w0_3) (S' := [(86, .pointer (some ⟨b2, 0, none⟩))]) (caps := #[]) (fun _ => [OElink_Link b2 x_2]) fn_18_YLinkK rfl rfl rfl (wantB_f _) rfl (by decide) (fun hp hS => (hS.conv (t := 86) rfl (cond_t hp)).sub (ts := [86]) rfl) rfl rfl rfl rfl (fun hp D1 hS => have hq := c_link_Link_Waiting (gif_in hx15 hp) hS; hq) (fun hp => H.sub [(1, false), (0, false), (0, false), (0, false), (0, false)] rfl) ?_; clear Z a H; intro a w20 I11 H Z
      replace H : Hf I D w I11 w20 [OElink_Link b2 x_2, OElink_Link b4 x_4, BxC b1 60 [.pointer (some ⟨b2, 0, none⟩), .pointer (some ⟨b4, 0, none⟩), .int .i64 (p_2.boot.getD 0 0), .int .i64 (p_2.boot.getD 1 0), v4, v5, .int .i64 (p_2.sent.getD 0 0), .int .i64 (p_2.sent.getD 1 0), .int .i64 (p_2.told.getD 0 0), .int .i64 (p_2.told.getD 1 0), .bool p_2.ok], OwC NESeg 31 v4 p_2.way, OwC Ni64 3 v5 p_2.to_] := H
      refine g_ob Z (p := (!(!p_2.ok))) (v := .bool (w0_3 != 0)) (S' := [(87, .int .i64 w0_3)]) rfl rfl rfl (wantB_f _) rfl (by decide) (fun hp hS => (hS.conv (t := 87) rfl (cond_t hp)).sub (ts := [87]) rfl) (fun hp => Ob_c tLinkK rfl) ?_; clear Z a; intro a Z
      refine s_ob Z (v := .bool ((!p_2.ok) || (w0_3 != 0))) rfl rfl (by decide) rfl (Ob_pick rfl rfl rfl rfl (pick_or _ _)) ?_; clear Z a; intro a Z
      refine s_runk tLinkK Z 1 rfl rfl ?_; clear Z a; intro a Z
      refine g_ob Z (p := (!((!p_2.ok) || (w0_3 != 0)))) (v := .pointer (some ⟨b1, 0, none⟩)) (S' := [(3, .pointer (some ⟨b1, 0, none⟩))]) rfl rfl rfl (wantB_f _) rfl (by decide) (fun hp hS => hS.sub (ts := [3]) rfl) (fun hp => Ob_c tLinkK rfl) ?_; clear Z a; intro a Z
      refine g_ob Z (p := (!((!p_2.ok) || (w0_3 != 0)))) (v := .pointer (some ⟨b1, 0, none⟩)) (S' := [(91, .pointer (some ⟨b1, 0, none⟩))]) rfl rfl rfl (wantB_f _) rfl (by decide) (fun hp hS => (hS.conv (t := 91) rfl (cond_t hp)).sub (ts := [91]) rfl) (fun hp => Ob_c tLinkK rfl) ?_; clear Z a; intro a Z
      refine g_ob Z (p := (!((!p_2.ok) || (w0_3 != 0)))) (v := .pointer (some ⟨b1, 0, none⟩)) (S' := [(92, .pointer (some ⟨b1, 0, none⟩))]) rfl rfl rfl (wantB_f _) rfl (by decide) (fun hp hS => (hS.conv (t := 92) rfl (cond_t hp)).sub (ts := [92]) rfl) (fun hp => Ob_c tLinkK rfl) ?_; clear Z a; intro a Z
      refine g_ob Z (p := (!((!p_2.ok) || (w0_3 != 0)))) (v := .pointer (some ⟨b1, 1, none⟩)) (S' := [(93, .pointer (some ⟨b1, 0, none⟩))]) rfl rfl rfl (wantB_f _) rfl (by decide) (fun hp hS => (hS.conv (t := 93) rfl (cond_t hp)).sub (ts := [93]) rfl) (fun hp => Ob_apix (m := 1) 1 rfl rfl rfl Try.underlying56 (by kernel_rfl) rfl (by decide)) ?_; clear Z a; intro a Z
      refine g_ob Z (p := (!((!p_2.ok) || (w0_3 != 0)))) (v := .pointer (some ⟨b4, 0, none⟩)) (S' := [(94, .pointer (some ⟨b1, 1, none⟩))]) rfl rfl rfl (wantB_f _) rfl (by decide) (fun hp hS => (hS.conv (t := 94) rfl (cond_t hp)).sub (ts := [94]) rfl) (fun hp => Ob_load tLinkK rfl rfl rfl ((H.bx 2 rfl).cell 1 rfl)) ?_; clear Z a; intro a Z
      refine h_gcall Z H (js := [(1, false)]) rfl (p := (!((!p_2.ok) || (w0_3 != 0)))) (v := .int .i64 w0_4) (S' := [(95, .pointer (some ⟨b4, 0, none⟩))]) (caps := #[]) (fun _ => [OElink_Link b4 x_4]) fn_18_YLinkK rfl rfl rfl (wantB_f _) rfl (by decide) (fun hp hS => (hS.conv (t := 95) rfl (cond_t hp)).sub (ts := [95]) rfl) rfl rfl rfl rfl (fun hp D1 hS => have hq := c_link_Link_Waiting (gif_in hx16 hp) hS; hq) (fun hp => H.sub [(1, false), (0, false), (0, false), (0, false), (0, false)] rfl) ?_; clear Z a H; intro a w21 I12 H Z
      replace H : Hf I D w I12 w21 [OElink_Link b4 x_4, OElink_Link b2 x_2, BxC b1 60 [.pointer (some ⟨b2, 0, none⟩), .pointer (some ⟨b4, 0, none⟩), .int .i64 (p_2.boot.getD 0 0), .int .i64 (p_2.boot.getD 1 0), v4, v5, .int .i64 (p_2.sent.getD 0 0), .int .i64 (p_2.sent.getD 1 0), .int .i64 (p_2.told.getD 0 0), .int .i64 (p_2.told.getD 1 0), .bool p_2.ok], OwC NESeg 31 v4 p_2.way, OwC Ni64 3 v5 p_2.to_] := H
      refine g_ob Z (p := (!((!p_2.ok) || (w0_3 != 0)))) (v := .bool (w0_4 != 0)) (S' := [(96, .int .i64 w0_4)]) rfl rfl rfl (wantB_f _) rfl (by decide) (fun hp hS => (hS.conv (t := 96) rfl (cond_t hp)).sub (ts := [96]) rfl) (fun hp => Ob_c tLinkK rfl) ?_; clear Z a; intro a Z
      refine s_ob Z (v := .bool (((!p_2.ok) || (w0_3 != 0)) || (w0_4 != 0))) rfl rfl (by decide) rfl (Ob_pick rfl rfl rfl rfl (pick_or _ _)) ?_; clear Z a; intro a Z
      refine s_end Z [2, 3, 4, 98] rfl ?_; clear Z; intro Z
      refine p_then ?_
      refine f_cond Z rfl (fun hc7 => ?_) (fun hc7 => ?_)
      ·replace hF := ite_t hc7 hF
       refine wp_seq (f_region Z ?_); clear Z; intro Z
       refine s_runk tLinkK Z 1 rfl rfl ?_; clear Z a; intro a Z
       refine s_end Z [2, 3, 4] rfl ?_; clear Z; intro Z
       refine p_then (wp_ret ?_)
       refine p_then_r ?_
       obtain rfl := some_in hF
       exact f_ret Z (run_results1 rfl Z rfl) ⟨rfl, I12, (H.sub [] rfl).eq rfl⟩
      ·replace hF := ite_f hc7 hF
       refine wp_skip ?_
       refine p_then (wp_seq ?_)
       obtain ⟨a0_4, hx17, hF⟩ := bnd_in hF
       refine f_quietd (by kernel_rfl) (by kernel_rfl) Z ?_; clear Z; intro Z
       refine q_runk tLinkK Z 2 rfl rfl ?_; clear Z a; intro a Z
       refine gq_ob Z (p := (!started)) (v := .pointer (some ⟨b1, 0, none⟩)) (S' := [(3, .pointer (some ⟨b1, 0, none⟩))]) rfl rfl rfl (wantB_f _) rfl (by decide) (fun hp hS => hS.sub (ts := [3]) rfl) (fun hp _ hw => Ob_c tLinkK rfl) ?_; clear Z a; intro a Z
       refine gq_ob Z (p := (!started)) (v := .pointer (some ⟨b1, 0, none⟩)) (S' := [(101, .pointer (some ⟨b1, 0, none⟩))]) rfl rfl rfl (wantB_f _) rfl (by decide) (fun hp hS => (hS.conv (t := 101) rfl (cond_t hp)).sub (ts := [101]) rfl) (fun hp _ hw => Ob_c tLinkK rfl) ?_; clear Z a; intro a Z
       refine gq_ob Z (p := (!started)) (v := .pointer (some ⟨b1, 8, none⟩)) (S' := [(102, .pointer (some ⟨b1, 0, none⟩))]) rfl rfl rfl (wantB_f _) rfl (by decide) (fun hp hS => (hS.conv (t := 102) rfl (cond_t hp)).sub (ts := [102]) rfl) (fun hp _ hw => Ob_c tLinkK rfl) ?_; clear Z a; intro a Z
       refine gq_ob Z (p := (!started)) (v := .pointer (some ⟨b1, 8, none⟩)) (S' := [(103, .pointer (some ⟨b1, 8, none⟩))]) rfl rfl rfl (wantB_f _) rfl (by decide) (fun hp hS => (hS.conv (t := 103) rfl (cond_t hp)).sub (ts := [103]) rfl) (fun hp _ hw => Ob_apix (m := 1) 0 rfl rfl rfl Try.underlying57 (by kernel_rfl) rfl (by decide)) ?_; clear Z a; intro a Z
       refine gq_ob Z (p := (!started)) (v := .int .i64 (p_2.told.getD 0 0)) (S' := [(104, .pointer (some ⟨b1, 8, none⟩))]) rfl rfl rfl (wantB_f _) rfl (by decide) (fun hp hS => (hS.conv (t := 104) rfl (cond_t hp)).sub (ts := [104]) rfl) (fun hp _ hw => Ob_load tLinkK rfl rfl rfl (((H.blw hw).bx 2 rfl).cell 8 rfl)) ?_; clear Z a; intro a Z
       refine gq_ob Z (p := (!started)) (v := .pointer (some ⟨b1, 0, none⟩)) (S' := [(3, .pointer (some ⟨b1, 0, none⟩))]) rfl rfl rfl (wantB_f _) rfl (by decide) (fun hp hS => hS.sub (ts := [3]) rfl) (fun hp _ hw => Ob_c tLinkK rfl) ?_; clear Z a; intro a Z
       refine gq_ob Z (p := (!started)) (v := .pointer (some ⟨b1, 0, none⟩)) (S' := [(106, .pointer (some ⟨b1, 0, none⟩))]) rfl rfl rfl (wantB_f _) rfl (by decide) (fun hp hS => (hS.conv (t := 106) rfl (cond_t hp)).sub (ts := [106]) rfl) (fun hp _ hw => Ob_c tLinkK rfl) ?_; clear Z a; intro a Z
       refine gq_ob Z (p := (!started)) (v := .pointer (some ⟨b1, 6, none⟩)) (S' := [(107, .pointer (some ⟨b1, 0, none⟩))]) rfl rfl rfl (wantB_f _) rfl (by decide) (fun hp hS => (hS.conv (t := 107) rfl (cond_t hp)).sub (ts := [107]) rfl) (fun hp _ hw => Ob_c tLinkK rfl) ?_; clear Z a; intro a Z
       refine gq_ob Z (p := (!started)) (v := .pointer (some ⟨b1, 7, none⟩)) (S' := [(108, .pointer (some ⟨b1, 6, none⟩))]) rfl rfl rfl (wantB_f _) rfl (by decide) (fun hp hS => (hS.conv (t := 108) rfl (cond_t hp)).sub (ts := [108]) rfl) (fun hp _ hw => Ob_apix (m := 1) 1 rfl rfl rfl Try.underlying57 (by kernel_rfl) rfl (by decide)) ?_; clear Z a; intro a Z
       refine gq_ob Z (p := (!started)) (v := .int .i64 (p_2.sent.getD 1 0)) (S' := [(109, .pointer (some ⟨b1, 7, none⟩))]) rfl rfl rfl (wantB_f _) rfl (by decide) (fun hp hS => (hS.conv (t := 109) rfl (cond_t hp)).sub (ts := [109]) rfl) (fun hp _ hw => Ob_load tLinkK rfl rfl rfl (((H.blw hw).bx 2 rfl).cell 7 rfl)) ?_; clear Z a; intro a Z
       refine gq_ob Z (p := (!started)) (v := .bool ((p_2.told.getD 0 0) == (p_2.sent.getD 1 0))) (S' := [(105, .int .i64 (p_2.told.getD 0 0)), (110, .int .i64 (p_2.sent.getD 1 0))]) rfl rfl rfl (wantB_f _) rfl (by decide) (fun hp hS => ((hS.conv (t := 105) rfl (cond_t hp)).conv (t := 110) rfl (cond_t hp)).sub (ts := [105, 110]) rfl) (fun hp _ hw => Ob_c tLinkK rfl) ?_; clear Z a; intro a Z
       refine gq_ob Z (p := (!started)) (v := .bool ((p_2.told.getD 0 0) == (p_2.sent.getD 1 0))) (S' := [(111, .bool ((p_2.told.getD 0 0) == (p_2.sent.getD 1 0)))]) rfl rfl rfl (wantB_f _) rfl (by decide) (fun hp hS => (hS.conv (t := 111) rfl (cond_t hp)).sub (ts := [111]) rfl) (fun hp _ hw => Ob_c tLinkK rfl) ?_; clear Z a; intro a Z
       refine gq_ob Z (p := ((!started) && ((p_2.told.getD 0 0) == (p_2.sent.getD 1 0)))) (v := .pointer (some ⟨b1, 0, none⟩)) (S' := [(3, .pointer (some ⟨b1, 0, none⟩))]) rfl rfl rfl (wantB_ct _ _) rfl (by decide) (fun hp hS => hS.sub (ts := [3]) rfl) (fun hp _ hw => Ob_c tLinkK rfl) ?_; clear Z a; intro a Z
       refine gq_ob Z (p := ((!started) && ((p_2.told.getD 0 0) == (p_2.sent.getD 1 0)))) (v := .pointer (some ⟨b1, 0, none⟩)) (S' := [(113, .pointer (some ⟨b1, 0, none⟩))]) rfl rfl rfl (wantB_ct _ _) rfl (by decide) (fun hp hS => (hS.conv (t := 113) rfl (cond_t hp)).sub (ts := [113]) rfl) (fun hp _ hw => Ob_c tLinkK rfl) ?_; clear Z a; intro a Z
       refine gq_ob Z (p := ((!started) && ((p_2.told.getD 0 0) == (p_2.sent.getD 1 0)))) (v := .pointer (some ⟨b1, 8, none⟩)) (S' := [(114, .pointer (some ⟨b1, 0, none⟩))]) rfl rfl rfl (wantB_ct _ _) rfl (by decide) (fun hp hS => (hS.conv (t := 114) rfl (cond_t hp)).sub (ts := [114]) rfl) (fun hp _ hw => Ob_c tLinkK rfl) ?_; clear Z a; intro a Z
       refine gq_ob Z (p := ((!started) && ((p_2.told.getD 0 0) == (p_2.sent.getD 1 0)))) (v := .pointer (some ⟨b1, 9, none⟩)) (S' := [(115, .pointer (some ⟨b1, 8, none⟩))]) rfl rfl rfl (wantB_ct _ _) rfl (by decide) (fun hp hS => (hS.conv (t := 115) rfl (cond_t hp)).sub (ts := [115]) rfl) (fun hp _ hw => Ob_apix (m := 1) 1 rfl rfl rfl Try.underlying57 (by kernel_rfl) rfl (by decide)) ?_; clear Z a; intro a Z
       refine gq_ob Z (p := ((!started) && ((p_2.told.getD 0 0) == (p_2.sent.getD 1 0)))) (v := .int .i64 (p_2.told.getD 1 0)) (S' := [(116, .pointer (some ⟨b1, 9, none⟩))]) rfl rfl rfl (wantB_ct _ _) rfl (by decide) (fun hp hS => (hS.conv (t := 116) rfl (cond_t hp)).sub (ts := [116]) rfl) (fun hp _ hw => Ob_load tLinkK rfl rfl rfl (((H.blw hw).bx 2 rfl).cell 9 rfl)) ?_; clear Z a; intro a Z
       refine gq_ob Z (p := ((!started) && ((p_2.told.getD 0 0) == (p_2.sent.getD 1 0)))) (v := .pointer (some ⟨b1, 0, none⟩)) (S' := [(3, .pointer (some ⟨b1, 0, none⟩))]) rfl rfl rfl (wantB_ct _ _) rfl (by decide) (fun hp hS => hS.sub (ts := [3]) rfl) (fun hp _ hw => Ob_c tLinkK rfl) ?_; clear Z a; intro a Z
       refine gq_ob Z (p := ((!started) && ((p_2.told.getD 0 0) == (p_2.sent.getD 1 0)))) (v := .pointer (some ⟨b1, 0, none⟩)) (S' := [(118, .pointer (some ⟨b1, 0, none⟩))]) rfl rfl rfl (wantB_ct _ _) rfl (by decide) (fun hp hS => (hS.conv (t := 118) rfl (cond_t hp)).sub (ts := [118]) rfl) (fun hp _ hw => Ob_c tLinkK rfl) ?_; clear Z a; intro a Z
       refine gq_ob Z (p := ((!started) && ((p_2.told.getD 0 0) == (p_2.sent.getD 1 0)))) (v := .pointer (some ⟨b1, 6, none⟩)) (S' := [(119, .pointer (some ⟨b1, 0, none⟩))]) rfl rfl rfl (wantB_ct _ _) rfl (by decide) (fun hp hS => (hS.conv (t := 119) rfl (cond_t hp)).sub (ts := [119]) rfl) (fun hp _ hw => Ob_c tLinkK rfl) ?_; clear Z a; intro a Z
       refine gq_ob Z (p := ((!started) && ((p_2.told.getD 0 0) == (p_2.sent.getD 1 0)))) (v := .pointer (some ⟨b1, 6, none⟩)) (S' := [(120, .pointer (some ⟨b1, 6, none⟩))]) rfl rfl rfl (wantB_ct _ _) rfl (by decide) (fun hp hS => (hS.conv (t := 120) rfl (cond_t hp)).sub (ts := [120]) rfl) (fun hp _ hw => Ob_apix (m := 1) 0 rfl rfl rfl Try.underlying57 (by kernel_rfl) rfl (by decide)) ?_; clear Z a; intro a Z
       refine gq_ob Z (p := ((!started) && ((p_2.told.getD 0 0) == (p_2.sent.getD 1 0)))) (v := .int .i64 (p_2.sent.getD 0 0)) (S' := [(121, .pointer (some ⟨b1, 6, none⟩))]) rfl rfl rfl (wantB_ct _ _) rfl (by decide) (fun hp hS => (hS.conv (t := 121) rfl (cond_t hp)).sub (ts := [121]) rfl) (fun hp _ hw => Ob_load tLinkK rfl rfl rfl (((H.blw hw).bx 2 rfl).cell 6 rfl)) ?_; clear Z a; intro a Z
       refine gq_ob Z (p := ((!started) && ((p_2.told.getD 0 0) == (p_2.sent.getD 1 0)))) (v := .bool ((p_2.told.getD 1 0) == (p_2.sent.getD 0 0))) (S' := [(117, .int .i64 (p_2.told.getD 1 0)), (122, .int .i64 (p_2.sent.getD 0 0))]) rfl rfl rfl (wantB_ct _ _) rfl (by decide) (fun hp hS => ((hS.conv (t := 117) rfl (cond_t hp)).conv (t := 122) rfl (cond_t hp)).sub (ts := [117, 122]) rfl) (fun hp _ hw => Ob_c tLinkK rfl) ?_; clear Z a; intro a Z
       refine gq_ob Z (p := (!started)) (v := .bool (((p_2.told.getD 0 0) == (p_2.sent.getD 1 0)) && ((p_2.told.getD 1 0) == (p_2.sent.getD 0 0)))) (S' := [(112, .bool ((p_2.told.getD 0 0) == (p_2.sent.getD 1 0))), (123, cond ((!started) && ((p_2.told.getD 0 0) == (p_2.sent.getD 1 0))) (.bool ((p_2.told.getD 1 0) == (p_2.sent.getD 0 0))) undef)]) rfl rfl rfl (wantB_f _) rfl (by decide) (fun hp hS => (hS.conv (t := 112) rfl (cond_t hp)).sub (ts := [112, 123]) rfl) (fun hp _ hw => Ob_pick rfl rfl rfl rfl (pick_andp _ _ hp)) ?_; clear Z a; intro a Z
       refine q_ob Z (v := .bool (started || (((p_2.told.getD 0 0) == (p_2.sent.getD 1 0)) && ((p_2.told.getD 1 0) == (p_2.sent.getD 0 0))))) rfl rfl (by decide) rfl (fun _ hw => Ob_pick rfl rfl rfl rfl (pick_or _ _)) ?_; clear Z a; intro a Z
       refine q_runk tLinkK Z 1 rfl rfl ?_; clear Z a; intro a Z
       refine gq_call Z (p := (started || (((p_2.told.getD 0 0) == (p_2.sent.getD 1 0)) && ((p_2.told.getD 1 0) == (p_2.sent.getD 0 0))))) (v := .bool a0_4) (S' := []) (caps := #[]) fn_20_YLinkK rfl rfl rfl (wantB_t _) rfl (by decide) (fun hp hS => hS.sub (ts := []) rfl) rfl rfl rfl rfl (fun hp _ hw => (have hq := c_law22_awake (gif_in hx17 hp) (((H.blw hw)).pick0 (js := []) rfl rfl); plainC hq)) ?_; clear Z a; intro a Z
       refine q_ob Z (v := .bool ((started || (((p_2.told.getD 0 0) == (p_2.sent.getD 1 0)) && ((p_2.told.getD 1 0) == (p_2.sent.getD 0 0)))) && a0_4)) rfl rfl (by decide) rfl (fun _ hw => Ob_pick rfl rfl rfl rfl (pick_and _ _)) ?_; clear Z a; intro a Z
       refine q_runk tLinkK Z 1 rfl rfl ?_; clear Z a; intro a Z
       refine q_end Z [2] rfl ?_; clear Z; intro w22 hb Z
       replace H : Hf I D w I12 w22 [OElink_Link b4 x_4, OElink_Link b2 x_2, BxC b1 60 [.pointer (some ⟨b2, 0, none⟩), .pointer (some ⟨b4, 0, none⟩), .int .i64 (p_2.boot.getD 0 0), .int .i64 (p_2.boot.getD 1 0), v4, v5, .int .i64 (p_2.sent.getD 0 0), .int .i64 (p_2.sent.getD 1 0), .int .i64 (p_2.told.getD 0 0), .int .i64 (p_2.told.getD 1 0), .bool p_2.ok], OwC NESeg 31 v4 p_2.way, OwC Ni64 3 v5 p_2.to_] := H.blw hb
       clear hb
       refine p_then (wp_ret ?_)
       obtain rfl := some_in hF
       exact f_ret Z (run_results1 rfl Z rfl) ⟨rfl, I12, (H.sub [] rfl).eq rfl⟩

end Go.Proofs.Ythomnhhjgcabkaa
