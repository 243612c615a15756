/- Trees: the laws. -/
import Derived.Test.YtfcdghlgcnjkoaaYTreeG
import Derived.Test.YtfcdghlgcnjkoaaYTree2
namespace Go.Proofs.Ytfcdghlgcnjkoaa
open Go.RowKit
structure Elaw15_Act where
 c : Int
 k : ByteArray
 to_ : ByteArray
 v : Int

instance : Inhabited Elaw15_Act := ⟨⟨0, ByteArray.empty, ByteArray.empty, 0⟩⟩

def tTreeWL : TabL := ⟨[(38912, 0), (40960, 0), (40961, 1), (40962, 2), (40963, 3)], [], [4], [(22, (9, 1)), (34, (40, 4)), (36, (60, 2)), (46, (5, 1))], [(3, (1, false)), (9, (1, false)), (36, (1, false)), (38, (1, true)), (40, (4, true))]⟩

def tTreeW : Tab Try.prog := ⟨tTreeWL, by kernel_rfl⟩

theorem fn_7_YTreeW : IsFn Try.prog 7 := ⟨_, Try.func7, by kernel_rfl, by kernel_rfl⟩

theorem fn_8_YTreeW : IsFn Try.prog 8 := ⟨_, Try.func8, by kernel_rfl, by kernel_rfl⟩

theorem fn_9_YTreeW : IsFn Try.prog 9 := ⟨_, Try.func9, by kernel_rfl, by kernel_rfl⟩

theorem fn_10_YTreeW : IsFn Try.prog 10 := ⟨_, Try.func10, by kernel_rfl, by kernel_rfl⟩

theorem fn_11_YTreeW : IsFn Try.prog 11 := ⟨_, Try.func11, by kernel_rfl, by kernel_rfl⟩

theorem fn_12_YTreeW : IsFn Try.prog 12 := ⟨_, Try.func12, by kernel_rfl, by kernel_rfl⟩

def F_law15_awake : Option Bool := (F_tree_New_int).bind fun i => ((F_tree_Tree_int_Put i ⟨#[98]⟩ 1).bind fun p => ((F_tree_Tree_int_Put p.2 ⟨#[97]⟩ 2).bind fun p_2 => ((F_tree_Tree_int_Put p_2.2 ⟨#[98]⟩ 3).bind fun p_3 => ((F_tree_Tree_int_Get p_3.2 ⟨#[98]⟩).bind fun g => ((gif ((((!p.1 && !p_2.1) && p_3.1) && (g.1 == 3)) && g.2) (F_tree_Tree_int_Len p_3.2) default).bind fun l => (if (((((!p.1 && !p_2.1) && p_3.1) && (g.1 == 3)) && g.2) && (l == 2)) = true then ((F_tree_Tree_int_Keys p_3.2 ⟨#[]⟩ ⟨#[]⟩).bind fun k => ((F_ref05_Same k.1 [⟨#[97]⟩, ⟨#[98]⟩]).bind fun s0 => (some s0))) else (some false)))))))

set_option maxHeartbeats 1000000 in
theorem c_law15_awake {I D : Dm} {w : World} {rr : Bool} (hF : F_law15_awake = some rr) (H : St I D w []) :
  Calls Try.prog 14 #[] w (Ret fun vv w' => vv = .bool rr ∧ ∃ I', Hf I D w I' w' []) := by
 replace H := H.hf
 unfold F_law15_awake at hF
 refine f_enter 46 Try.func14 rfl rfl (Nat.le_of_ble_eq_true rfl) fun a Z => ?_
 replace Z := Z.sub (ts := []) rfl
 refine wp_seq (f_region Z ?_); clear Z; intro Z
 refine s_runk tTreeW Z 1 rfl rfl ?_; clear Z a; intro a Z
 refine s_end Z [0] rfl ?_; clear Z; intro Z
 refine p_then (wp_seq ?_)
 obtain ⟨i, hx1, hF⟩ := bnd_in hF
 refine f_region Z ?_; clear Z; intro Z
 refine h_call Z H (js := []) rfl (caps := #[]) fn_7_YTreeW rfl rfl rfl rfl rfl (by decide) rfl rfl (fun D1 hS => have hq := c_tree_New_int hx1 hS; hq) ?_; clear Z a; intro vv a w1 D2 hr hF2 Z
 obtain ⟨g1, rfl, I1, K⟩ := hr
 have H : Hf I D w I1 w1 [OEtree_Tree_int g1 i] := hF2 K
 clear hF2 K
 refine s_runk tTreeW Z 1 rfl rfl ?_; clear Z a; intro a Z
 refine s_end Z [0, 1] rfl ?_; clear Z; intro Z
 refine p_then (wp_seq ?_)
 obtain ⟨p, hx2, hF⟩ := bnd_in hF
 refine f_region Z ?_; clear Z; intro Z
 refine s_runk tTreeW Z 1 rfl rfl ?_; clear Z a; intro a Z
 refine h_call Z H (js := [(0, false)]) rfl (caps := #[]) fn_8_YTreeW rfl rfl rfl rfl rfl (by decide) rfl rfl (fun D1 hS => have hq := c_tree_Tree_int_Put hx2 hS; hq) ?_; clear Z a; intro vv a w2 D2 hr hF2 Z
 obtain ⟨rfl, I2, K⟩ := hr
 have H : Hf I D w I2 w2 [OEtree_Tree_int g1 p.2] := hF2 K
 clear hF2 K
 refine s_runk tTreeW Z 1 rfl rfl ?_; clear Z a; intro a Z
 refine s_end Z [0, 1, 2] rfl ?_; clear Z; intro Z
 refine p_then (wp_seq ?_)
 obtain ⟨p_2, hx3, hF⟩ := bnd_in hF
 refine f_region Z ?_; clear Z; intro Z
 refine s_runk tTreeW Z 1 rfl rfl ?_; clear Z a; intro a Z
 refine h_call Z H (js := [(0, false)]) rfl (caps := #[]) fn_8_YTreeW rfl rfl rfl rfl rfl (by decide) rfl rfl (fun D1 hS => have hq := c_tree_Tree_int_Put hx3 hS; hq) ?_; clear Z a; intro vv a w3 D2 hr hF2 Z
 obtain ⟨rfl, I3, K⟩ := hr
 have H : Hf I D w I3 w3 [OEtree_Tree_int g1 p_2.2] := hF2 K
 clear hF2 K
 refine s_runk tTreeW Z 1 rfl rfl ?_; clear Z a; intro a Z
 refine s_end Z [0, 1, 2, 3] rfl ?_; clear Z; intro Z
 refine p_then (wp_seq ?_)
 obtain ⟨p_3, hx4, hF⟩ := bnd_in hF
 refine f_region Z ?_; clear Z; intro Z
 refine s_runk tTreeW Z 1 rfl rfl ?_; clear Z a; intro a Z
 refine h_call Z H (js := [(0, false)]) rfl (caps := #[]) fn_8_YTreeW rfl rfl rfl rfl rfl (by decide) rfl rfl (fun D1 hS => have hq := c_tree_Tree_int_Put hx4 hS; hq) ?_; clear Z a; intro vv a w4 D2 hr hF2 Z
 obtain ⟨rfl, I4, K⟩ := hr
 have H : Hf I D w I4 w4 [OEtree_Tree_int g1 p_3.2] := hF2 K
 clear hF2 K
 refine s_runk tTreeW Z 1 rfl rfl ?_; clear Z a; intro a Z
 refine s_end Z [0, 1, 2, 3, 4] rfl ?_; clear Z; intro Z
 refine p_then (wp_seq ?_)
 obtain ⟨g, hx5, hF⟩ := bnd_in hF
 refine f_region Z ?_; clear Z; intro Z
 refine s_runk tTreeW Z 1 rfl rfl ?_; clear Z a; intro a Z
 refine h_call Z H (js := [(0, false)]) rfl (caps := #[]) fn_9_YTreeW rfl rfl rfl rfl rfl (by decide) rfl rfl (fun D1 hS => have hq := c_tree_Tree_int_Get hx5 hS; hq) ?_; clear Z a; intro vv a w5 D2 hr hF2 Z
 obtain ⟨rfl, I5, K⟩ := hr
 have H : Hf I D w I5 w5 [OEtree_Tree_int g1 p_3.2] := hF2 K
 clear hF2 K
 refine s_runk tTreeW Z 5 rfl rfl ?_; clear Z a; intro a Z
 refine s_end Z [0, 1, 2, 3, 4, 5, 6] rfl ?_; clear Z; intro Z
 refine p_then (wp_seq ?_)
 obtain ⟨l, hx6, hF⟩ := bnd_in hF
 refine f_region Z ?_; clear Z; intro Z
 refine s_runk tTreeW Z 3 rfl rfl ?_; clear Z a; intro a Z
 refine g_ob Z (p := !p.1) (v := .bool p_2.1) (S' := [(3, .bool p_2.1)]) rfl rfl rfl (wantB_t _) rfl (by decide) (fun hp hS => hS.sub (ts := [3]) rfl) (fun hp => Ob_c tTreeW rfl) ?_; clear Z a; intro a Z
 refine g_ob Z (p := !p.1) (v := .bool !p_2.1) (S' := [(22, .bool p_2.1)]) rfl rfl rfl (wantB_t _) rfl (by decide) (fun hp hS => (hS.conv (t := 22) rfl (cond_t hp)).sub (ts := [22]) rfl) (fun hp => Ob_c tTreeW rfl) ?_; clear Z a; intro a Z
 refine s_ob Z (v := .bool (!p.1 && !p_2.1)) rfl rfl (by decide) rfl (Ob_pick rfl rfl rfl rfl (pick_and _ _)) ?_; clear Z a; intro a Z
 refine s_runk tTreeW Z 1 rfl rfl ?_; clear Z a; intro a Z
 refine g_ob Z (p := (!p.1 && !p_2.1)) (v := .bool p_3.1) (S' := [(4, .bool p_3.1)]) rfl rfl rfl (wantB_t _) rfl (by decide) (fun hp hS => hS.sub (ts := [4]) rfl) (fun hp => Ob_c tTreeW rfl) ?_; clear Z a; intro a Z
 refine s_ob Z (v := .bool ((!p.1 && !p_2.1) && p_3.1)) rfl rfl (by decide) rfl (Ob_pick rfl rfl rfl rfl (pick_and _ _)) ?_; clear Z a; intro a Z
 refine s_runk tTreeW Z 1 rfl rfl ?_; clear Z a; intro a Z
 refine g_ob Z (p := ((!p.1 && !p_2.1) && p_3.1)) (v := .int .i64 g.1) (S' := [(5, .int .i64 g.1)]) rfl rfl rfl (wantB_t _) rfl (by decide) (fun hp hS => hS.sub (ts := [5]) rfl) (fun hp => Ob_c tTreeW rfl) ?_; clear Z a; intro a Z
 refine g_ob Z (p := ((!p.1 && !p_2.1) && p_3.1)) (v := .bool (g.1 == 3)) (S' := [(29, .int .i64 g.1)]) rfl rfl rfl (wantB_t _) rfl (by decide) (fun hp hS => (hS.conv (t := 29) rfl (cond_t hp)).sub (ts := [29]) rfl) (fun hp => Ob_c tTreeW rfl) ?_; clear Z a; intro a Z
 refine s_ob Z (v := .bool (((!p.1 && !p_2.1) && p_3.1) && (g.1 == 3))) rfl rfl (by decide) rfl (Ob_pick rfl rfl rfl rfl (pick_and _ _)) ?_; clear Z a; intro a Z
 refine s_runk tTreeW Z 1 rfl rfl ?_; clear Z a; intro a Z
 refine g_ob Z (p := (((!p.1 && !p_2.1) && p_3.1) && (g.1 == 3))) (v := .bool g.2) (S' := [(6, .bool g.2)]) rfl rfl rfl (wantB_t _) rfl (by decide) (fun hp hS => hS.sub (ts := [6]) rfl) (fun hp => Ob_c tTreeW rfl) ?_; clear Z a; intro a Z
 refine s_ob Z (v := .bool ((((!p.1 && !p_2.1) && p_3.1) && (g.1 == 3)) && g.2)) rfl rfl (by decide) rfl (Ob_pick rfl rfl rfl rfl (pick_and _ _)) ?_; clear Z a; intro a Z
 refine s_runk tTreeW Z 1 rfl rfl ?_; clear Z a; intro a Z
 refine g_ob Z (p := ((((!p.1 && !p_2.1) && p_3.1) && (g.1 == 3)) && g.2)) (v := .pointer (some ⟨g1, 0, none⟩)) (S' := [(1, .pointer (some ⟨g1, 0, none⟩))]) rfl rfl rfl (wantB_t _) rfl (by decide) (fun hp hS => hS.sub (ts := [1]) rfl) (fun hp => Ob_c tTreeW rfl) ?_; clear Z a; intro a Z
 refine h_gcall Z H (js := [(0, false)]) rfl (p := ((((!p.1 && !p_2.1) && p_3.1) && (g.1 == 3)) && g.2)) (v := .int .i64 l) (S' := [(36, .pointer (some ⟨g1, 0, none⟩))]) (caps := #[]) (fun _ => [OEtree_Tree_int g1 p_3.2]) fn_10_YTreeW rfl rfl rfl (wantB_t _) rfl (by decide) (fun hp hS => (hS.conv (t := 36) rfl (cond_t hp)).sub (ts := [36]) rfl) rfl rfl rfl rfl (fun hp D1 hS => have hq := c_tree_Tree_int_Len (gif_in hx6 hp) hS; hq) (fun hp => H.sub [(0, false)] rfl) ?_; clear Z a H; intro a w6 I6 H Z
 replace H : Hf I D w I6 w6 [OEtree_Tree_int g1 p_3.2] := H
 refine g_ob Z (p := ((((!p.1 && !p_2.1) && p_3.1) && (g.1 == 3)) && g.2)) (v := .bool (l == 2)) (S' := [(37, .int .i64 l)]) rfl rfl rfl (wantB_t _) rfl (by decide) (fun hp hS => (hS.conv (t := 37) rfl (cond_t hp)).sub (ts := [37]) rfl) (fun hp => Ob_c tTreeW rfl) ?_; clear Z a; intro a Z
 refine s_ob Z (v := .bool (((((!p.1 && !p_2.1) && p_3.1) && (g.1 == 3)) && g.2) && (l == 2))) rfl rfl (by decide) rfl (Ob_pick rfl rfl rfl rfl (pick_and _ _)) ?_; clear Z a; intro a Z
 refine s_runk tTreeW Z 1 rfl rfl ?_; clear Z a; intro a Z
 refine g_ob Z (p := (((((!p.1 && !p_2.1) && p_3.1) && (g.1 == 3)) && g.2) && (l == 2))) (v := .pointer (some ⟨g1, 0, none⟩)) (S' := [(1, .pointer (some ⟨g1, 0, none⟩))]) rfl rfl rfl (wantB_t _) rfl (by decide) (fun hp hS => hS.sub (ts := [1]) rfl) (fun hp => Ob_c tTreeW rfl) ?_; clear Z a; intro a Z
 refine bsplit (((((!p.1 && !p_2.1) && p_3.1) && (g.1 == 3)) && g.2) && (l == 2)) (fun hc1 => ?_) (fun hc1 => ?_)
 ·replace hF := ite_t hc1 hF; replace Z := Z.cnv (t := 40) rfl (show Value.bool (((((!p.1 && !p_2.1) && p_3.1) && (g.1 == 3)) && g.2) && (l == 2)) = .bool true from congrArg Value.bool hc1); replace Z := Z.sub (ts := [0, 1, 2, 3, 4, 5, 6, 19, 20, 21, 22, 23, 24, 25, 26, 27, 28, 29, 30, 31, 32, 33, 34, 35, 36, 37, 38, 39, 40, 41]) rfl
  replace Z := Z.cnv (t := 41) rfl (cond_t hc1); replace Z := Z.sub (ts := [0, 1, 2, 3, 4, 5, 6, 19, 20, 21, 22, 23, 24, 25, 26, 27, 28, 29, 30, 31, 32, 33, 34, 35, 36, 37, 38, 39, 40, 41]) rfl
  obtain ⟨k, hx7, hF⟩ := bnd_in hF
  obtain ⟨s0, hx8, hF⟩ := bnd_in hF
  refine g_if Z rfl rfl rfl (p := true) rfl rfl (by decide) (fun _ => ?_) (fun h => by cases h)
  refine h_call Z H (js := [(0, false)]) rfl (caps := #[]) fn_12_YTreeW rfl rfl rfl rfl rfl (by decide) rfl rfl (fun D1 hS => have hq := c_tree_Tree_int_Keys hx7 hS; hq) ?_; clear Z a; intro vv a w7 D2 hr hF2 Z
  obtain ⟨q1, hvv, I7, K⟩ := hr; obtain rfl := hvv.symm
  have H : Hf I D w I7 w7 [OEtree_Tree_int g1 k.2, SlC NS q1 k.1] := hF2 K
  clear hF2 K
  refine g_if Z rfl rfl rfl (p := true) rfl rfl (by decide) (fun _ => ?_) (fun h => by cases h)
  refine h_bslice Z H (vs := [(0, .string ⟨#[97]⟩), (1, .string ⟨#[98]⟩)]) (cl := [.string ⟨#[97]⟩, .string ⟨#[98]⟩]) (e := 9) rfl rfl rfl (by decide) rfl rfl (fun w => run_bslice (z := .string ByteArray.empty) (m := 1) Try.underlying22 (by kernel_rfl) rfl rfl (by decide) (by simp [Instr.fill, Value.cells]) w) ?_; clear Z a H; intro a w8 b1 H Z
  refine g_if Z rfl rfl rfl (p := true) rfl rfl (by decide) (fun _ => ?_) (fun h => by cases h)
  obtain ⟨I8, _, H⟩ := H.frzlit 0 rfl (R := NS) [[.string ⟨#[97]⟩], [.string ⟨#[98]⟩]] [⟨#[97]⟩, ⟨#[98]⟩] rfl rfl (fun i h1 h2 => by match i, h1, h2 with | 0, _, _ => exact ⟨rfl, trivial⟩ | 1, _, _ => exact ⟨rfl, trivial⟩) (show 2 ≤ maxLen from by decide) (n := 2) rfl
  replace H : Hf I D w I8 w8 [SlC NS (.slice (some ⟨b1, 0, none⟩) 2 2) [⟨#[97]⟩, ⟨#[98]⟩], OEtree_Tree_int g1 k.2, SlC NS q1 k.1] := H
  refine h_call Z H (js := [(2, true), (0, true)]) rfl (caps := #[]) fn_11_YTreeW rfl rfl rfl rfl rfl (by decide) rfl rfl (fun D1 hS => have hq := c_ref05_Same hx8 hS; hq) ?_; clear Z a; intro vv a w9 D2 hr hF2 Z
  obtain ⟨rfl, I9, K⟩ := hr
  have H : Hf I D w I9 w9 [SlC NS (.slice (some ⟨b1, 0, none⟩) 2 2) [⟨#[97]⟩, ⟨#[98]⟩], OEtree_Tree_int g1 k.2, SlC NS q1 k.1] := hF2 K
  clear hF2 K
  refine s_ob Z (v := .bool s0) rfl rfl (by decide) rfl (Ob_pick rfl rfl rfl rfl rfl) ?_; clear Z a; intro a Z
  refine s_runk tTreeW Z 1 rfl rfl ?_; clear Z a; intro a Z
  refine s_end Z [0] rfl ?_; clear Z; intro Z
  refine p_then (wp_ret ?_)
  obtain rfl := some_in hF
  exact f_ret Z (run_results1 rfl Z rfl) ⟨rfl, I9, (H.sub [] rfl).eq rfl⟩
 ·replace hF := ite_f hc1 hF; replace Z := Z.cnv (t := 40) rfl (show Value.bool (((((!p.1 && !p_2.1) && p_3.1) && (g.1 == 3)) && g.2) && (l == 2)) = .bool false from congrArg Value.bool hc1); replace Z := Z.sub (ts := [0, 1, 2, 3, 4, 5, 6, 19, 20, 21, 22, 23, 24, 25, 26, 27, 28, 29, 30, 31, 32, 33, 34, 35, 36, 37, 38, 39, 40, 41]) rfl
  refine g_if Z rfl rfl rfl (p := false) rfl rfl (by decide) (fun h => by cases h) ?_; clear Z; intro _ a Z
  refine g_if Z rfl rfl rfl (p := false) rfl rfl (by decide) (fun h => by cases h) ?_; clear Z; intro _ a Z
  refine g_if Z rfl rfl rfl (p := false) rfl rfl (by decide) (fun h => by cases h) ?_; clear Z; intro _ a Z
  refine s_ob Z (v := .bool false) rfl rfl (by decide) rfl (Ob_pick rfl rfl rfl rfl rfl) ?_; clear Z a; intro a Z
  refine s_runk tTreeW Z 1 rfl rfl ?_; clear Z a; intro a Z
  refine s_end Z [0] rfl ?_; clear Z; intro Z
  refine p_then (wp_ret ?_)
  obtain rfl := some_in hF
  exact f_ret Z (run_results1 rfl Z rfl) ⟨rfl, I6, (H.sub [] rfl).eq rfl⟩

end Go.Proofs.Ytfcdghlgcnjkoaa
