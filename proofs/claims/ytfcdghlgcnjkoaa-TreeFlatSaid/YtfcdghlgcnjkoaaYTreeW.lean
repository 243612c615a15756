/- Trees: the laws. -/
import Derived.Test.YtfcdghlgcnjkoaaYTreeG
import Derived.Test.YtfcdghlgcnjkoaaYTree2
namespace Go.Proofs.Ytfcdghlgcnjkoaa
open Go.RowKit
structure Elaw15_Act where
 c : Int
 k : ByteArray
 to_ : ByteArray
 v : Int

instance : Inhabited Elaw15_Act := ⟨⟨0, ByteArray.empty, ByteArray.empty, 0⟩⟩

def cElaw15_Act (x : Elaw15_Act) : List Value := [.int .i64 x.c, .string x.k, .string x.to_, .int .i64 x.v]

def NElaw15_Act : Rp Elaw15_Act := Rp.flat 4 (fun _ => True) (fun x => cElaw15_Act x) (fun _ => rfl) (fun x c hc => by simp only [cElaw15_Act, List.mem_cons, List.not_mem_nil, or_false] at hc; rcases hc with rfl | rfl | rfl | rfl <;> rfl)

def tTreeWL : TabL := ⟨[(38912, 0), (40960, 0), (40961, 1), (40962, 2), (40963, 3)], [], [4], [(22, (9, 1)), (34, (40, 4)), (36, (60, 2)), (46, (5, 1))], [(3, (1, false)), (9, (1, false)), (36, (1, false)), (38, (1, true)), (40, (4, true))]⟩

def tTreeW : Tab Try.prog := ⟨tTreeWL, by kernel_rfl⟩

theorem fn_7_YTreeW : IsFn Try.prog 7 := ⟨_, Try.func7, by kernel_rfl, by kernel_rfl⟩

theorem fn_8_YTreeW : IsFn Try.prog 8 := ⟨_, Try.func8, by kernel_rfl, by kernel_rfl⟩

theorem fn_9_YTreeW : IsFn Try.prog 9 := ⟨_, Try.func9, by kernel_rfl, by kernel_rfl⟩

theorem fn_10_YTreeW : IsFn Try.prog 10 := ⟨_, Try.func10, by kernel_rfl, by kernel_rfl⟩

theorem fn_11_YTreeW : IsFn Try.prog 11 := ⟨_, Try.func11, by kernel_rfl, by kernel_rfl⟩

theorem fn_12_YTreeW : IsFn Try.prog 12 := ⟨_, Try.func12, by kernel_rfl, by kernel_rfl⟩

theorem fn_14_YTreeW : IsFn Try.prog 14 := ⟨_, Try.func14, by kernel_rfl, by kernel_rfl⟩

theorem fn_16_YTreeW : IsFn Try.prog 16 := ⟨_, Try.func16, by kernel_rfl, by kernel_rfl⟩

theorem fn_22_YTreeW : IsFn Try.prog 22 := ⟨_, Try.func22, by kernel_rfl, by kernel_rfl⟩

theorem fn_23_YTreeW : IsFn Try.prog 23 := ⟨_, Try.func23, by kernel_rfl, by kernel_rfl⟩

def F_law15_awake : Option Bool := (F_tree_New_int).bind fun i => ((F_tree_Tree_int_Put i ⟨#[98]⟩ 1).bind fun p => ((F_tree_Tree_int_Put p.2 ⟨#[97]⟩ 2).bind fun p_2 => ((F_tree_Tree_int_Put p_2.2 ⟨#[98]⟩ 3).bind fun p_3 => ((F_tree_Tree_int_Get p_3.2 ⟨#[98]⟩).bind fun g => ((gif ((((!p.1 && !p_2.1) && p_3.1) && (g.1 == 3)) && g.2) (F_tree_Tree_int_Len p_3.2) default).bind fun l => (if (((((!p.1 && !p_2.1) && p_3.1) && (g.1 == 3)) && g.2) && (l == 2)) = true then ((F_tree_Tree_int_Keys p_3.2 ⟨#[]⟩ ⟨#[]⟩).bind fun k => ((F_ref05_Same k.1 [⟨#[97]⟩, ⟨#[98]⟩]).bind fun s0 => (some s0))) else (some false)))))))

set_option maxHeartbeats 1000000 in
theorem c_law15_awake {I D : Dm} {w : World} {rr : Bool} (hF : F_law15_awake = some rr) (H : St I D w []) :
  Calls Try.prog 14 #[] w (Ret fun vv w' => vv = .bool rr ∧ ∃ I', Hf I D w I' w' []) := by
 replace H := H.hf
 unfold F_law15_awake at hF
 refine f_enter 46 Try.func14 rfl rfl (Nat.le_of_ble_eq_true rfl) fun a Z => ?_
 replace Z := Z.sub (ts := []) rfl
 refine wp_seq (f_region Z ?_); clear Z; intro Z
 refine s_runk tTreeW Z 1 rfl rfl ?_; clear Z a; intro a Z
 refine s_end Z [0] rfl ?_; clear Z; intro Z
 refine p_then (wp_seq ?_)
 obtain ⟨i, hx1, hF⟩ := bnd_in hF
 refine f_region Z ?_; clear Z; intro Z
 refine h_call Z H (js := []) rfl (caps := #[]) fn_7_YTreeW rfl rfl rfl rfl rfl (by decide) rfl rfl (fun D1 hS => have hq := c_tree_New_int hx1 hS; hq) ?_; clear Z a; intro vv a w1 D2 hr hF2 Z
 obtain ⟨g1, rfl, I1, K⟩ := hr
 have H : Hf I D w I1 w1 [OEtree_Tree_int g1 i] := hF2 K
 clear hF2 K
 refine s_runk tTreeW Z 1 rfl rfl ?_; clear Z a; intro a Z
 refine s_end Z [0, 1] rfl ?_; clear Z; intro Z
 refine p_then (wp_seq ?_)
 obtain ⟨p, hx2, hF⟩ := bnd_in hF
 refine f_region Z ?_; clear Z; intro Z
 refine s_runk tTreeW Z 1 rfl rfl ?_; clear Z a; intro a Z
 refine h_call Z H (js := [(0, false)]) rfl (caps := #[]) fn_8_YTreeW rfl rfl rfl rfl rfl (by decide) rfl rfl (fun D1 hS => have hq := c_tree_Tree_int_Put hx2 hS; hq) ?_; clear Z a; intro vv a w2 D2 hr hF2 Z
 obtain ⟨rfl, I2, K⟩ := hr
 have H : Hf I D w I2 w2 [OEtree_Tree_int g1 p.2] := hF2 K
 clear hF2 K
 refine s_runk tTreeW Z 1 rfl rfl ?_; clear Z a; intro a Z
 refine s_end Z [0, 1, 2] rfl ?_; clear Z; intro Z
 refine p_then (wp_seq ?_)
 obtain ⟨p_2, hx3, hF⟩ := bnd_in hF
 refine f_region Z ?_; clear Z; intro Z
 refine s_runk tTreeW Z 1 rfl rfl ?_; clear Z a; intro a Z
 refine h_call Z H (js := [(0, false)]) rfl (caps := #[]) fn_8_YTreeW rfl rfl rfl rfl rfl (by decide) rfl rfl (fun D1 hS => have hq := c_tree_Tree_int_Put hx3 hS; hq) ?_; clear Z a; intro vv a w3 D2 hr hF2 Z
 obtain ⟨rfl, I3, K⟩ := hr
 have H : Hf I D w I3 w3 [OEtree_Tree_int g1 p_2.2] := hF2 K
 clear hF2 K
 refine s_runk tTreeW Z 1 rfl rfl ?_; clear Z a; intro a Z
 refine s_end Z [0, 1, 2, 3] rfl ?_; clear Z; intro Z
 refine p_then (wp_seq ?_)
 obtain ⟨p_3, hx4, hF⟩ := bnd_in hF
 refine f_region Z ?_; clear Z; intro Z
 refine s_runk tTreeW Z 1 rfl rfl ?_; clear Z a; intro a Z
 refine h_call Z H (js := [(0, false)]) rfl (caps := #[]) fn_8_YTreeW rfl rfl rfl rfl rfl (by decide) rfl rfl (fun D1 hS => have hq := c_tree_Tree_int_Put hx4 hS; hq) ?_; clear Z a; intro vv a w4 D2 hr hF2 Z
 obtain ⟨rfl, I4, K⟩ := hr
 have H : Hf I D w I4 w4 [OEtree_Tree_int g1 p_3.2] := hF2 K
 clear hF2 K
 refine s_runk tTreeW Z 1 rfl rfl ?_; clear Z a; intro a Z
 refine s_end Z [0, 1, 2, 3, 4] rfl ?_; clear Z; intro Z
 refine p_then (wp_seq ?_)
 obtain ⟨g, hx5, hF⟩ := bnd_in hF
 refine f_region Z ?_; clear Z; intro Z
 refine s_runk tTreeW Z 1 rfl rfl ?_; clear Z a; intro a Z
 refine h_call Z H (js := [(0, false)]) rfl (caps := #[]) fn_9_YTreeW rfl rfl rfl rfl rfl (by decide) rfl rfl (fun D1 hS => have hq := c_tree_Tree_int_Get hx5 hS; hq) ?_; clear Z a; intro vv a w5 D2 hr hF2 Z
 obtain ⟨rfl, I5, K⟩ := hr
 have H : Hf I D w I5 w5 [OEtree_Tree_int g1 p_3.2] := hF2 K
 clear hF2 K
 refine s_runk tTreeW Z 5 rfl rfl ?_; clear Z a; intro a Z
 refine s_end Z [0, 1, 2, 3, 4, 5, 6] rfl ?_; clear Z; intro Z
 refine p_then (wp_seq ?_)
 obtain ⟨l, hx6, hF⟩ := bnd_in hF
 refine f_region Z ?_; clear Z; intro Z
 refine s_runk tTreeW Z 3 rfl rfl ?_; clear Z a; intro a Z
 refine g_ob Z (p := !p.1) (v := .bool p_2.1) (S' := [(3, .bool p_2.1)]) rfl rfl rfl (wantB_t _) rfl (by decide) (fun hp hS => hS.sub (ts := [3]) rfl) (fun hp => Ob_c tTreeW rfl) ?_; clear Z a; intro a Z
 refine g_ob Z (p := !p.1) (v := .bool !p_2.1) (S' := [(22, .bool p_2.1)]) rfl rfl rfl (wantB_t _) rfl (by decide) (fun hp hS => (hS.conv (t := 22) rfl (cond_t hp)).sub (ts := [22]) rfl) (fun hp => Ob_c tTreeW rfl) ?_; clear Z a; intro a Z
 refine s_ob Z (v := .bool (!p.1 && !p_2.1)) rfl rfl (by decide) rfl (Ob_pick rfl rfl rfl rfl (pick_and _ _)) ?_; clear Z a; intro a Z
 refine s_runk tTreeW Z 1 rfl rfl ?_; clear Z a; intro a Z
 refine g_ob Z (p := (!p.1 && !p_2.1)) (v := .bool p_3.1) (S' := [(4, .bool p_3.1)]) rfl rfl rfl (wantB_t _) rfl (by decide) (fun hp hS => hS.sub (ts := [4]) rfl) (fun hp => Ob_c tTreeW rfl) ?_; clear Z a; intro a Z
 refine s_ob Z (v := .bool ((!p.1 && !p_2.1) && p_3.1)) rfl rfl (by decide) rfl (Ob_pick rfl rfl rfl rfl (pick_and _ _)) ?_; clear Z a; intro a Z
 refine s_runk tTreeW Z 1 rfl rfl ?_; clear Z a; intro a Z
 refine g_ob Z (p := ((!p.1 && !p_2.1) && p_3.1)) (v := .int .i64 g.1) (S' := [(5, .int .i64 g.1)]) rfl rfl rfl (wantB_t _) rfl (by decide) (fun hp hS => hS.sub (ts := [5]) rfl) (fun hp => Ob_c tTreeW rfl) ?_; clear Z a; intro a Z
 refine g_ob Z (p := ((!p.1 && !p_2.1) && p_3.1)) (v := .bool (g.1 == 3)) (S' := [(29, .int .i64 g.1)]) rfl rfl rfl (wantB_t _) rfl (by decide) (fun hp hS => (hS.conv (t := 29) rfl (cond_t hp)).sub (ts := [29]) rfl) (fun hp => Ob_c tTreeW rfl) ?_; clear Z a; intro a Z
 refine s_ob Z (v := .bool (((!p.1 && !p_2.1) && p_3.1) && (g.1 == 3))) rfl rfl (by decide) rfl (Ob_pick rfl rfl rfl rfl (pick_and _ _)) ?_; clear Z a; intro a Z
 refine s_runk tTreeW Z 1 rfl rfl ?_; clear Z a; intro a Z
 refine g_ob Z (p := (((!p.1 && !p_2.1) && p_3.1) && (g.1 == 3))) (v := .bool g.2) (S' := [(6, .bool g.2)]) rfl rfl rfl (wantB_t _) rfl (by decide) (fun hp hS => hS.sub (ts := [6]) rfl) (fun hp => Ob_c tTreeW rfl) ?_; clear Z a; intro a Z
 refine s_ob Z (v := .bool ((((!p.1 && !p_2.1) && p_3.1) && (g.1 == 3)) && g.2)) rfl rfl (by decide) rfl (Ob_pick rfl rfl rfl rfl (pick_and _ _)) ?_; clear Z a; intro a Z
 refine s_runk tTreeW Z 1 rfl rfl ?_; clear Z a; intro a Z
 refine g_ob Z (p := ((((!p.1 && !p_2.1) && p_3.1) && (g.1 == 3)) && g.2)) (v := .pointer (some ⟨g1, 0, none⟩)) (S' := [(1, .pointer (some ⟨g1, 0, none⟩))]) rfl rfl rfl (wantB_t _) rfl (by decide) (fun hp hS => hS.sub (ts := [1]) rfl) (fun hp => Ob_c tTreeW rfl) ?_; clear Z a; intro a Z
 refine h_gcall Z H (js := [(0, false)]) rfl (p := ((((!p.1 && !p_2.1) && p_3.1) && (g.1 == 3)) && g.2)) (v := .int .i64 l) (S' := [(36, .pointer (some ⟨g1, 0, none⟩))]) (caps := #[]) (fun _ => [OEtree_Tree_int g1 p_3.2]) fn_10_YTreeW rfl rfl rfl (wantB_t _) rfl (by decide) (fun hp hS => (hS.conv (t := 36) rfl (cond_t hp)).sub (ts := [36]) rfl) rfl rfl rfl rfl (fun hp D1 hS => have hq := c_tree_Tree_int_Len (gif_in hx6 hp) hS; hq) (fun hp => H.sub [(0, false)] rfl) ?_; clear Z a H; intro a w6 I6 H Z
 replace H : Hf I D w I6 w6 [OEtree_Tree_int g1 p_3.2] := H
 refine g_ob Z (p := ((((!p.1 && !p_2.1) && p_3.1) && (g.1 == 3)) && g.2)) (v := .bool (l == 2)) (S' := [(37, .int .i64 l)]) rfl rfl rfl (wantB_t _) rfl (by decide) (fun hp hS => (hS.conv (t := 37) rfl (cond_t hp)).sub (ts := [37]) rfl) (fun hp => Ob_c tTreeW rfl) ?_; clear Z a; intro a Z
 refine s_ob Z (v := .bool (((((!p.1 && !p_2.1) && p_3.1) && (g.1 == 3)) && g.2) && (l == 2))) rfl rfl (by decide) rfl (Ob_pick rfl rfl rfl rfl (pick_and _ _)) ?_; clear Z a; intro a Z
 refine s_runk tTreeW Z 1 rfl rfl ?_; clear Z a; intro a Z
 refine g_ob Z (p := (((((!p.1 && !p_2.1) && p_3.1) && (g.1 == 3)) && g.2) && (l == 2))) (v := .pointer (some ⟨g1, 0, none⟩)) (S' := [(1, .pointer (some ⟨g1, 0, none⟩))]) rfl rfl rfl (wantB_t _) rfl (by decide) (fun hp hS => hS.sub (ts := [1]) rfl) (fun hp => Ob_c tTreeW rfl) ?_; clear Z a; intro a Z
 refine bsplit (((((!p.1 && !p_2.1) && p_3.1) && (g.1 == 3)) && g.2) && (l == 2)) (fun hc1 => ?_) (fun hc1 => ?_)
 ·replace hF := ite_t hc1 hF; replace Z := Z.cnv (t := 40) rfl (show Value.bool (((((!p.1 && !p_2.1) && p_3.1) && (g.1 == 3)) && g.2) && (l == 2)) = .bool true from congrArg Value.bool hc1); replace Z := Z.sub (ts := [0, 1, 2, 3, 4, 5, 6, 19, 20, 21, 22, 23, 24, 25, 26, 27, 28, 29, 30, 31, 32, 33, 34, 35, 36, 37, 38, 39, 40, 41]) rfl
  replace Z := Z.cnv (t := 41) rfl (cond_t hc1); replace Z := Z.sub (ts := [0, 1, 2, 3, 4, 5, 6, 19, 20, 21, 22, 23, 24, 25, 26, 27, 28, 29, 30, 31, 32, 33, 34, 35, 36, 37, 38, 39, 40, 41]) rfl
  obtain ⟨k, hx7, hF⟩ := bnd_in hF
  obtain ⟨s0, hx8, hF⟩ := bnd_in hF
  refine g_if Z rfl rfl rfl (p := true) rfl rfl (by decide) (fun _ => ?_) (fun h => by cases h)
  refine h_call Z H (js := [(0, false)]) rfl (caps := #[]) fn_12_YTreeW rfl rfl rfl rfl rfl (by decide) rfl rfl (fun D1 hS => have hq := c_tree_Tree_int_Keys hx7 hS; hq) ?_; clear Z a; intro vv a w7 D2 hr hF2 Z
  obtain ⟨q1, hvv, I7, K⟩ := hr; obtain rfl := hvv.symm
  have H : Hf I D w I7 w7 [OEtree_Tree_int g1 k.2, SlC NS q1 k.1] := hF2 K
  clear hF2 K
  refine g_if Z rfl rfl rfl (p := true) rfl rfl (by decide) (fun _ => ?_) (fun h => by cases h)
  refine h_bslice Z H (vs := [(0, .string ⟨#[97]⟩), (1, .string ⟨#[98]⟩)]) (cl := [.string ⟨#[97]⟩, .string ⟨#[98]⟩]) (e := 9) rfl rfl rfl (by decide) rfl rfl (fun w => run_bslice (z := .string ByteArray.empty) (m := 1) Try.underlying22 (by kernel_rfl) rfl rfl (by decide) (by simp [Instr.fill, Value.cells]) w) ?_; clear Z a H; intro a w8 b1 H Z
  refine g_if Z rfl rfl rfl (p := true) rfl rfl (by decide) (fun _ => ?_) (fun h => by cases h)
  obtain ⟨I8, _, H⟩ := H.frzlit 0 rfl (R := NS) [[.string ⟨#[97]⟩], [.string ⟨#[98]⟩]] [⟨#[97]⟩, ⟨#[98]⟩] rfl rfl (fun i h1 h2 => by match i, h1, h2 with | 0, _, _ => exact ⟨rfl, trivial⟩ | 1, _, _ => exact ⟨rfl, trivial⟩) (show 2 ≤ maxLen from by decide) (n := 2) rfl
  replace H : Hf I D w I8 w8 [SlC NS (.slice (some ⟨b1, 0, none⟩) 2 2) [⟨#[97]⟩, ⟨#[98]⟩], OEtree_Tree_int g1 k.2, SlC NS q1 k.1] := H
  refine h_call Z H (js := [(2, true), (0, true)]) rfl (caps := #[]) fn_11_YTreeW rfl rfl rfl rfl rfl (by decide) rfl rfl (fun D1 hS => have hq := c_ref05_Same hx8 hS; hq) ?_; clear Z a; intro vv a w9 D2 hr hF2 Z
  obtain ⟨rfl, I9, K⟩ := hr
  have H : Hf I D w I9 w9 [SlC NS (.slice (some ⟨b1, 0, none⟩) 2 2) [⟨#[97]⟩, ⟨#[98]⟩], OEtree_Tree_int g1 k.2, SlC NS q1 k.1] := hF2 K
  clear hF2 K
  refine s_ob Z (v := .bool s0) rfl rfl (by decide) rfl (Ob_pick rfl rfl rfl rfl rfl) ?_; clear Z a; intro a Z
  refine s_runk tTreeW Z 1 rfl rfl ?_; clear Z a; intro a Z
  refine s_end Z [0] rfl ?_; clear Z; intro Z
  refine p_then (wp_ret ?_)
  obtain rfl := some_in hF
  exact f_ret Z (run_results1 rfl Z rfl) ⟨rfl, I9, (H.sub [] rfl).eq rfl⟩
 ·replace hF := ite_f hc1 hF; replace Z := Z.cnv (t := 40) rfl (show Value.bool (((((!p.1 && !p_2.1) && p_3.1) && (g.1 == 3)) && g.2) && (l == 2)) = .bool false from congrArg Value.bool hc1); replace Z := Z.sub (ts := [0, 1, 2, 3, 4, 5, 6, 19, 20, 21, 22, 23, 24, 25, 26, 27, 28, 29, 30, 31, 32, 33, 34, 35, 36, 37, 38, 39, 40, 41]) rfl
  refine g_if Z rfl rfl rfl (p := false) rfl rfl (by decide) (fun h => by cases h) ?_; clear Z; intro _ a Z
  refine g_if Z rfl rfl rfl (p := false) rfl rfl (by decide) (fun h => by cases h) ?_; clear Z; intro _ a Z
  refine g_if Z rfl rfl rfl (p := false) rfl rfl (by decide) (fun h => by cases h) ?_; clear Z; intro _ a Z
  refine s_ob Z (v := .bool false) rfl rfl (by decide) rfl (Ob_pick rfl rfl rfl rfl rfl) ?_; clear Z a; intro a Z
  refine s_runk tTreeW Z 1 rfl rfl ?_; clear Z a; intro a Z
  refine s_end Z [0] rfl ?_; clear Z; intro Z
  refine p_then (wp_ret ?_)
  obtain rfl := some_in hF
  exact f_ret Z (run_results1 rfl Z rfl) ⟨rfl, I6, (H.sub [] rfl).eq rfl⟩

def F_law15_TreeFlat_k3 (i_3 : Int) (rc_2 : (Int × Etree_Tree_int) → Option Bool) (t_3 : Etree_Tree_int) : Option Bool := (F_tree_Tree_int_Depth t_3).bind fun d => ((gif (!((decide (d < 0)) || (decide (d > 40)))) (F_tree_Tree_int_Len t_3) default).bind fun l_2 => ((gif (!((decide (d < 0)) || (decide (d > 40)))) (F_ref15_Least d) default).bind fun l_3 => (if (((decide (d < 0)) || (decide (d > 40))) || (decide (l_2 < l_3))) = true then (some false) else (chk (inI (i_3 + 1)) (rc_2 (i_3 + 1, t_3))))))

def F_law15_TreeFlat_l2 (l : List Elaw15_Act) (rc_2 : (Int × Etree_Tree_int) → Option Bool) (sg : Int × Etree_Tree_int) : Option Bool := match sg with | (i_3, t_2) => if ((decide (i_3 < (l.length : Int))) && (decide (i_3 < 100))) = true then (chk ((0 : Int) ≤ i_3 ∧ i_3 < (l.length : Int)) (if (((l.getD (i_3).toNat default).c) == 2) = true then (chk ((0 : Int) ≤ i_3 ∧ i_3 < (l.length : Int)) ((F_tree_Tree_int_Del t_2 ((l.getD (i_3).toNat default).k)).bind fun d_2 => (F_law15_TreeFlat_k3 i_3 rc_2 d_2.2))) else (chk ((0 : Int) ≤ i_3 ∧ i_3 < (l.length : Int)) (chk ((0 : Int) ≤ i_3 ∧ i_3 < (l.length : Int)) ((F_tree_Tree_int_Put t_2 ((l.getD (i_3).toNat default).k) ((l.getD (i_3).toNat default).v)).bind fun p_2 => (F_law15_TreeFlat_k3 i_3 rc_2 p_2.2)))))) else ((F_tree_Tree_int_Depth t_2).bind fun d_3 => ((gif ((decide (d_3 ≥ 0)) && (decide (d_3 ≤ 40))) (F_tree_Tree_int_Len t_2) default).bind fun l_4 => ((gif ((decide (d_3 ≥ 0)) && (decide (d_3 ≤ 40))) (F_ref15_Least d_3) default).bind fun l_5 => ((gif (((decide (d_3 ≥ 0)) && (decide (d_3 ≤ 40))) && (decide (l_4 ≥ l_5))) (F_tree_Tree_int_Len t_2) default).bind fun l_6 => ((gif ((((decide (d_3 ≥ 0)) && (decide (d_3 ≤ 40))) && (decide (l_4 ≥ l_5))) && ((d_3 == 0) == (l_6 == 0))) (F_law15_awake) default).bind fun a0 => (some (((((decide (d_3 ≥ 0)) && (decide (d_3 ≤ 40))) && (decide (l_4 ≥ l_5))) && ((d_3 == 0) == (l_6 == 0))) && a0)))))))

def F_law15_TreeFlat_l1 (l : List Elaw15_Act) (n0 : Int) (rc : (Int × Etree_Tree_int) → Option Bool) (sg : Int × Etree_Tree_int) : Option Bool := match sg with | (i_2, t) => chk (inI n0) (if (decide (i_2 < n0.tmod 600)) = true then (chk (inI (i_2.tdiv 256)) (chk (inB (i_2.tdiv 256)) (chk (inB (i_2.tmod 256)) ((F_tree_Tree_int_Put t (strI [i_2.tdiv 256, i_2.tmod 256]) i_2).bind fun p => (chk (inI (i_2 + 1)) (rc (i_2 + 1, p.2))))))) else (iter (F_law15_TreeFlat_l2 l) FU (0, t)))

def F_law15_TreeFlat (l : List Elaw15_Act) (n0 : Int) : Option Bool := (F_tree_New_int).bind fun i => (iter (F_law15_TreeFlat_l1 l n0) FU (0, i))

set_option maxHeartbeats 1000000 in
theorem c_law15_TreeFlat {I D : Dm} {l : List Elaw15_Act} {v1_l : Value} {n0 : Int} {w : World} {rr : Bool} (hF : F_law15_TreeFlat l n0 = some rr) (H : St I D w [SlC NElaw15_Act v1_l l]) :
  Calls Try.prog 5 #[v1_l, .int .u16 n0] w (Ret fun vv w' => vv = .bool rr ∧ ∃ I', Hf I D w I' w' []) := by
 replace H := H.hf
 unfold F_law15_TreeFlat at hF
 refine f_enter 105 Try.func5 rfl rfl (Nat.le_of_ble_eq_true rfl) fun a Z => ?_
 replace Z := Z.sub (ts := [0, 1]) rfl
 refine wp_seq (f_region Z ?_); clear Z; intro Z
 refine s_runk tTreeW Z 1 rfl rfl ?_; clear Z a; intro a Z
 refine s_end Z [0, 1, 4] rfl ?_; clear Z; intro Z
 refine p_then (wp_seq ?_)
 obtain ⟨i, hx1, hF⟩ := bnd_in hF
 refine f_region Z ?_; clear Z; intro Z
 refine h_call Z H (js := []) rfl (caps := #[]) fn_7_YTreeW rfl rfl rfl rfl rfl (by decide) rfl rfl (fun D1 hS => have hq := c_tree_New_int hx1 hS; hq) ?_; clear Z a; intro vv a w1 D2 hr hF2 Z
 obtain ⟨g1, rfl, I1, K⟩ := hr
 have H : Hf I D w I1 w1 [OEtree_Tree_int g1 i, SlC NElaw15_Act v1_l l] := hF2 K
 clear hF2 K
 refine s_runk tTreeW Z 1 rfl rfl ?_; clear Z a; intro a Z
 refine s_end Z [0, 1, 4, 5] rfl ?_; clear Z; intro Z
 refine p_then (wp_seq ?_)
 refine wp_seq (f_region Z ?_); clear Z; intro Z
 refine s_runk tTreeW Z 1 rfl rfl ?_; clear Z a; intro a Z
 refine s_end Z [0, 1, 4, 5, 6] rfl ?_; clear Z; intro Z
 refine p_then (wp_block ?_)
 refine f_iter hF (fun sg a' w' => match sg with | (i_2, t) => Sl 105 [(0, v1_l), (1, .int .u16 n0), (4, .bool false), (5, .pointer (some ⟨g1, 0, none⟩)), (6, .int .i64 i_2)] a' ∧ ∃ I2, Hf I D w I2 w' [OEtree_Tree_int g1 t, SlC NElaw15_Act v1_l l]) ⟨Z.sub (ts := [0, 1, 4, 5, 6]) rfl, ⟨I1, (H.sub [(0, false), (0, true)] rfl).eq rfl⟩⟩ ?_
 clear Z H hF a
 rintro rc ⟨i_2, t⟩ a w2 ⟨Z, I2, H⟩ hF
 unfold F_law15_TreeFlat_l1 at hF
 try dsimp only at hF
 refine wp_seq ?_
 refine wp_seq ?_
 obtain ⟨hg1, hF⟩ := chk_in hF
 refine f_region Z ?_; clear Z; intro Z
 refine s_runk tTreeW Z 2 rfl rfl ?_; clear Z a; intro a Z
 refine s_ob Z (v := .int .i64 n0) rfl rfl (by decide) rfl (Ob_conv rfl rfl (run_convi Try.underlying45 Try.underlying3 _ _ (wrI hg1) _)) ?_; clear Z a; intro a Z
 refine s_ob Z (v := .int .i64 (n0.tmod 600)) rfl rfl (by decide) rfl (Ob_rem rfl rfl rfl (by decide) rfl) ?_; clear Z a; intro a Z
 refine s_runk tTreeW Z 1 rfl rfl ?_; clear Z a; intro a Z
 refine s_end Z [0, 1, 4, 5, 6, 11, 12, 13, 14, 15] rfl ?_; clear Z; intro Z
 refine p_then ?_
 refine f_cond Z rfl (fun hc1 => ?_) (fun hc1 => ?_)
 ·replace hF := ite_t hc1 hF
  refine wp_skip ?_
  refine p_then (wp_seq ?_)
  refine wp_block ?_
  obtain ⟨hg2, hF⟩ := chk_in hF
  obtain ⟨hg3, hF⟩ := chk_in hF
  obtain ⟨hg4, hF⟩ := chk_in hF
  obtain ⟨p, hx2, hF⟩ := bnd_in hF
  refine f_region Z ?_; clear Z; intro Z
  refine s_runk tTreeW Z 2 rfl rfl ?_; clear Z a; intro a Z
  refine s_ob Z (v := .int .i64 (i_2.tdiv 256)) rfl rfl (by decide) rfl (Ob_quo rfl rfl rfl (by decide) (wrI hg2)) ?_; clear Z a; intro a Z
  refine s_ob Z (v := .int .u8 (i_2.tdiv 256)) rfl rfl (by decide) rfl (Ob_conv rfl rfl (run_convi Try.underlying3 Try.underlying5 _ _ (wrB hg3) _)) ?_; clear Z a; intro a Z
  refine s_runk tTreeW Z 1 rfl rfl ?_; clear Z a; intro a Z
  refine s_ob Z (v := .int .i64 (i_2.tmod 256)) rfl rfl (by decide) rfl (Ob_rem rfl rfl rfl (by decide) rfl) ?_; clear Z a; intro a Z
  refine s_ob Z (v := .int .u8 (i_2.tmod 256)) rfl rfl (by decide) rfl (Ob_conv rfl rfl (run_convi Try.underlying3 Try.underlying5 _ _ (wrB hg4) _)) ?_; clear Z a; intro a Z
  refine h_bslice Z H (vs := [(0, .int .u8 (i_2.tdiv 256)), (1, .int .u8 (i_2.tmod 256))]) (cl := [.int .u8 (i_2.tdiv 256), .int .u8 (i_2.tmod 256)]) (e := 5) rfl rfl rfl (by decide) rfl rfl (fun w => run_bslice (z := .int .u8 0) (m := 1) Try.underlying46 (by kernel_rfl) rfl rfl (by decide) (by simp [Instr.fill, Value.cells]) w) ?_; clear Z a H; intro a w3 b1 H Z
  refine s_ob Z (v := .string (strI [i_2.tdiv 256, i_2.tmod 256])) rfl rfl (by decide) rfl (Ob_conv rfl rfl (run_b2lit [i_2.tdiv 256, i_2.tmod 256] Try.underlying46 Try.underlying5 Try.underlying9 (H.bx 0 rfl))) ?_; clear Z a; intro a Z
  refine s_runk tTreeW Z 1 rfl rfl ?_; clear Z a; intro a Z
  refine h_call Z H (js := [(1, false)]) rfl (caps := #[]) fn_8_YTreeW rfl rfl rfl rfl rfl (by decide) rfl rfl (fun D1 hS => have hq := c_tree_Tree_int_Put hx2 hS; hq) ?_; clear Z a; intro vv a w4 D2 hr hF2 Z
  obtain ⟨rfl, I3, K⟩ := hr
  have H : Hf I D w I3 w4 [OEtree_Tree_int g1 p.2, BxC b1 5 [.int .u8 (i_2.tdiv 256), .int .u8 (i_2.tmod 256)], SlC NElaw15_Act v1_l l] := hF2 K
  clear hF2 K
  refine s_end Z [0, 1, 4, 5, 6, 11, 12, 13, 14, 15, 18, 19, 20, 21, 22, 23, 24, 25, 26, 27] rfl ?_; clear Z; intro Z
  refine p_blk ?_
  refine p_then ?_
  obtain ⟨hg5, hF⟩ := chk_in hF
  refine f_region Z ?_; clear Z; intro Z
  refine s_runk tTreeW Z 1 rfl rfl ?_; clear Z a; intro a Z
  refine s_ob Z (v := .int .i64 (i_2 + 1)) rfl rfl (by decide) rfl (Ob_add rfl rfl rfl (wrI hg5)) ?_; clear Z a; intro a Z
  refine s_runk tTreeW Z 1 rfl rfl ?_; clear Z a; intro a Z
  refine s_end Z [0, 1, 4, 5, 6, 11, 12, 13, 14, 15, 18, 19, 20, 21, 22, 23, 24, 25, 26, 27, 16, 17] rfl ?_; clear Z; intro Z
  refine p_then ?_
  exact ⟨(i_2 + 1, p.2), ⟨Z.sub (ts := [0, 1, 4, 5, 6]) rfl, ⟨I3, (H.sub [(0, false), (1, true)] rfl).eq rfl⟩⟩, hF⟩
 ·replace hF := ite_f hc1 hF
  refine wp_exit ?_
  refine p_then_x ?_
  refine p_then_x ?_
  refine f_exit_here ?_
  refine p_then (wp_seq ?_)
  refine wp_seq (f_region Z ?_); clear Z; intro Z
  refine s_runk tTreeW Z 1 rfl rfl ?_; clear Z a; intro a Z
  refine s_end Z [0, 4, 5, 7] rfl ?_; clear Z; intro Z
  refine p_then (wp_block ?_)
  refine f_iter hF (fun sg a' w' => match sg with | (i_3, t_2) => Sl 105 [(0, v1_l), (4, .bool false), (5, .pointer (some ⟨g1, 0, none⟩)), (7, .int .i64 i_3)] a' ∧ ∃ I2, Hf I D w I2 w' [OEtree_Tree_int g1 t_2, SlC NElaw15_Act v1_l l]) ⟨Z.sub (ts := [0, 4, 5, 7]) rfl, ⟨I2, (H.sub [(0, false), (0, true)] rfl).eq rfl⟩⟩ ?_
  clear Z H hF a
  rintro rc_2 ⟨i_3, t_2⟩ a w5 ⟨Z, I4, H⟩ hF
  unfold F_law15_TreeFlat_l2 at hF
  try dsimp only at hF
  refine wp_seq ?_
  refine wp_seq (f_region Z ?_); clear Z; intro Z
  refine s_runk tTreeW Z 2 rfl rfl ?_; clear Z a; intro a Z
  refine s_ob Z (v := .int .i64 (l.length : Int)) rfl rfl (by decide) rfl (Ob_slen tTreeW rfl rfl rfl (H.slshape 1 rfl)) ?_; clear Z a; intro a Z
  refine s_runk tTreeW Z 2 rfl rfl ?_; clear Z a; intro a Z
  refine g_ob Z (p := (decide (i_3 < (l.length : Int)))) (v := .int .i64 i_3) (S' := [(7, .int .i64 i_3)]) rfl rfl rfl (wantB_t _) rfl (by decide) (fun hp hS => hS.sub (ts := [7]) rfl) (fun hp => Ob_c tTreeW rfl) ?_; clear Z a; intro a Z
  refine g_ob Z (p := (decide (i_3 < (l.length : Int)))) (v := .bool (decide (i_3 < 100))) (S' := [(34, .int .i64 i_3)]) rfl rfl rfl (wantB_t _) rfl (by decide) (fun hp hS => (hS.conv (t := 34) rfl (cond_t hp)).sub (ts := [34]) rfl) (fun hp => Ob_c tTreeW rfl) ?_; clear Z a; intro a Z
  refine s_ob Z (v := .bool ((decide (i_3 < (l.length : Int))) && (decide (i_3 < 100)))) rfl rfl (by decide) rfl (Ob_pick rfl rfl rfl rfl (pick_and _ _)) ?_; clear Z a; intro a Z
  refine s_end Z [0, 4, 5, 7, 29, 30, 31, 32, 33, 36] rfl ?_; clear Z; intro Z
  refine p_then ?_
  refine f_cond Z rfl (fun hc2 => ?_) (fun hc2 => ?_)
  ·replace hF := ite_t hc2 hF
   refine wp_skip ?_
   refine p_then (wp_seq ?_)
   refine wp_block ?_
   refine f_cut (fun a' w' => ∃ (t_3 : Etree_Tree_int), Sl 105 [(0, v1_l), (4, .bool false), (5, .pointer (some ⟨g1, 0, none⟩)), (7, .int .i64 i_3), (29, .int .i64 i_3), (30, v1_l), (31, .int .i64 (l.length : Int)), (32, .bool (decide (i_3 < (l.length : Int)))), (33, .bool (decide (i_3 < (l.length : Int)))), (36, .bool ((decide (i_3 < (l.length : Int))) && (decide (i_3 < 100)))), (39, v1_l), (40, .int .i64 i_3), (41, .pointer (some ⟨blkOf v1_l, oofOf v1_l + (i_3).toNat * 4, none⟩)), (42, .pointer (some ⟨blkOf v1_l, oofOf v1_l + (i_3).toNat * 4, none⟩)), (43, .int .i64 ((l.getD (i_3).toNat default).c)), (44, .bool (((l.getD (i_3).toNat default).c) == 2))] a' ∧ (∃ I2, Hf I D w I2 w' [OEtree_Tree_int g1 t_3, SlC NElaw15_Act v1_l l]) ∧ F_law15_TreeFlat_k3 i_3 rc_2 t_3 = some rr) ?_ ?_
   ·rintro a w6 ⟨t_3, Z, ⟨I5, H⟩, hF⟩
    unfold F_law15_TreeFlat_k3 at hF
    try dsimp only at hF
    refine wp_seq ?_
    obtain ⟨d, hx3, hF⟩ := bnd_in hF
    refine f_region Z ?_; clear Z; intro Z
    refine s_runk tTreeW Z 1 rfl rfl ?_; clear Z a; intro a Z
    refine h_call Z H (js := [(0, false)]) rfl (caps := #[]) fn_22_YTreeW rfl rfl rfl rfl rfl (by decide) rfl rfl (fun D1 hS => have hq := c_tree_Tree_int_Depth hx3 hS; hq) ?_; clear Z a; intro vv a w7 D2 hr hF2 Z
    obtain ⟨rfl, I6, K⟩ := hr
    have H : Hf I D w I6 w7 [OEtree_Tree_int g1 t_3, SlC NElaw15_Act v1_l l] := hF2 K
    clear hF2 K
    refine s_runk tTreeW Z 1 rfl rfl ?_; clear Z a; intro a Z
    refine s_end Z [0, 4, 5, 7, 29, 30, 31, 32, 33, 36, 39, 40, 41, 42, 43, 44, 64, 65, 8] rfl ?_; clear Z; intro Z
    refine p_then (wp_seq ?_)
    obtain ⟨l_2, hx4, hF⟩ := bnd_in hF
    obtain ⟨l_3, hx5, hF⟩ := bnd_in hF
    refine f_region Z ?_; clear Z; intro Z
    refine s_runk tTreeW Z 3 rfl rfl ?_; clear Z a; intro a Z
    refine g_ob Z (p := (!(decide (d < 0)))) (v := .int .i64 d) (S' := [(8, .int .i64 d)]) rfl rfl rfl (wantB_f _) rfl (by decide) (fun hp hS => hS.sub (ts := [8]) rfl) (fun hp => Ob_c tTreeW rfl) ?_; clear Z a; intro a Z
    refine g_ob Z (p := (!(decide (d < 0)))) (v := .bool (decide (d > 40))) (S' := [(69, .int .i64 d)]) rfl rfl rfl (wantB_f _) rfl (by decide) (fun hp hS => (hS.conv (t := 69) rfl (cond_t hp)).sub (ts := [69]) rfl) (fun hp => Ob_c tTreeW rfl) ?_; clear Z a; intro a Z
    refine s_ob Z (v := .bool ((decide (d < 0)) || (decide (d > 40)))) rfl rfl (by decide) rfl (Ob_pick rfl rfl rfl rfl (pick_or _ _)) ?_; clear Z a; intro a Z
    refine s_runk tTreeW Z 1 rfl rfl ?_; clear Z a; intro a Z
    refine g_ob Z (p := (!((decide (d < 0)) || (decide (d > 40))))) (v := .pointer (some ⟨g1, 0, none⟩)) (S' := [(5, .pointer (some ⟨g1, 0, none⟩))]) rfl rfl rfl (wantB_f _) rfl (by decide) (fun hp hS => hS.sub (ts := [5]) rfl) (fun hp => Ob_c tTreeW rfl) ?_; clear Z a; intro a Z
    refine h_gcall Z H (js := [(0, false)]) rfl (p := (!((decide (d < 0)) || (decide (d > 40))))) (v := .int .i64 l_2) (S' := [(73, .pointer (some ⟨g1, 0, none⟩))]) (caps := #[]) (fun _ => [OEtree_Tree_int g1 t_3]) fn_10_YTreeW rfl rfl rfl (wantB_f _) rfl (by decide) (fun hp hS => (hS.conv (t := 73) rfl (cond_t hp)).sub (ts := [73]) rfl) rfl rfl rfl rfl (fun hp D1 hS => have hq := c_tree_Tree_int_Len (gif_in hx4 hp) hS; hq) (fun hp => H.sub [(0, false), (0, true)] rfl) ?_; clear Z a H; intro a w8 I7 H Z
    replace H : Hf I D w I7 w8 [OEtree_Tree_int g1 t_3, SlC NElaw15_Act v1_l l] := H
    refine g_ob Z (p := (!((decide (d < 0)) || (decide (d > 40))))) (v := .int .i64 d) (S' := [(8, .int .i64 d)]) rfl rfl rfl (wantB_f _) rfl (by decide) (fun hp hS => hS.sub (ts := [8]) rfl) (fun hp => Ob_c tTreeW rfl) ?_; clear Z a; intro a Z
    refine g_call Z (p := (!((decide (d < 0)) || (decide (d > 40))))) (v := .int .i64 l_3) (S' := [(75, .int .i64 d)]) (caps := #[]) fn_23_YTreeW rfl rfl rfl (wantB_f _) rfl (by decide) (fun hp hS => (hS.conv (t := 75) rfl (cond_t hp)).sub (ts := [75]) rfl) rfl rfl rfl rfl (fun hp => have hq := c_ref15_Least (gif_in hx5 hp) (H.pick0 (js := []) rfl rfl); plainC hq) ?_; clear Z a; intro a w9 hb Z
    replace H : Hf I D w I7 w9 [OEtree_Tree_int g1 t_3, SlC NElaw15_Act v1_l l] := H.blw hb
    clear hb
    refine g_ob Z (p := (!((decide (d < 0)) || (decide (d > 40))))) (v := .bool (decide (l_2 < l_3))) (S' := [(74, .int .i64 l_2), (76, .int .i64 l_3)]) rfl rfl rfl (wantB_f _) rfl (by decide) (fun hp hS => ((hS.conv (t := 74) rfl (cond_t hp)).conv (t := 76) rfl (cond_t hp)).sub (ts := [74, 76]) rfl) (fun hp => Ob_c tTreeW rfl) ?_; clear Z a; intro a Z
    refine s_ob Z (v := .bool (((decide (d < 0)) || (decide (d > 40))) || (decide (l_2 < l_3)))) rfl rfl (by decide) rfl (Ob_pick rfl rfl rfl rfl (pick_or _ _)) ?_; clear Z a; intro a Z
    refine s_end Z [0, 4, 5, 7, 29, 30, 31, 32, 33, 36, 39, 40, 41, 42, 43, 44, 64, 65, 8, 66, 67, 68, 71, 72, 78] rfl ?_; clear Z; intro Z
    refine p_then ?_
    refine f_cond Z rfl (fun hc3 => ?_) (fun hc3 => ?_)
    ·replace hF := ite_t hc3 hF
     refine wp_seq (f_region Z ?_); clear Z; intro Z
     refine s_runk tTreeW Z 1 rfl rfl ?_; clear Z a; intro a Z
     refine s_end Z [0, 4, 5, 7, 29, 30, 31, 32, 33, 36, 39, 40, 41, 42, 43, 44, 64, 65, 8, 66, 67, 68, 71, 72, 78] rfl ?_; clear Z; intro Z
     refine p_then (wp_ret ?_)
     refine p_blk_r ?_
     refine p_then_r ?_
     refine p_then_r ?_
     refine p_blk_r ?_
     refine p_then_r ?_
     obtain rfl := some_in hF
     exact f_ret Z (run_results1 rfl Z rfl) ⟨rfl, I7, (H.sub [] rfl).eq rfl⟩
    ·replace hF := ite_f hc3 hF
     refine wp_skip ?_
     refine p_blk ?_
     refine p_then ?_
     obtain ⟨hg6, hF⟩ := chk_in hF
     refine f_region Z ?_; clear Z; intro Z
     refine s_runk tTreeW Z 1 rfl rfl ?_; clear Z a; intro a Z
     refine s_ob Z (v := .int .i64 (i_3 + 1)) rfl rfl (by decide) rfl (Ob_add rfl rfl rfl (wrI hg6)) ?_; clear Z a; intro a Z
     refine s_runk tTreeW Z 1 rfl rfl ?_; clear Z a; intro a Z
     refine s_end Z [0, 4, 5, 7, 29, 30, 31, 32, 33, 36, 39, 40, 41, 42, 43, 44, 64, 65, 8, 66, 67, 68, 71, 72, 78, 37, 38] rfl ?_; clear Z; intro Z
     refine p_then ?_
     exact ⟨(i_3 + 1, t_3), ⟨Z.sub (ts := [0, 4, 5, 7]) rfl, ⟨I7, (H.sub [(0, false), (0, true)] rfl).eq rfl⟩⟩, hF⟩
   ·skip
    refine wp_seq ?_
    obtain ⟨hg7, hF⟩ := chk_in hF
    refine f_region Z ?_; clear Z; intro Z
    refine s_runk tTreeW Z 2 rfl rfl ?_; clear Z a; intro a Z
    refine s_ob Z (v := .pointer (some ⟨blkOf v1_l, oofOf v1_l + (i_3).toNat * 4, none⟩)) rfl rfl (by decide) rfl (Ob_sidx tTreeW rfl rfl rfl rfl (slPl (H.sl 1 rfl) hg7) hg7) ?_; clear Z a; intro a Z
    refine s_runk tTreeW Z 1 rfl rfl ?_; clear Z a; intro a Z
    refine s_ob Z (v := .int .i64 ((l.getD (i_3).toNat default).c)) rfl rfl (by decide) rfl (Ob_load tTreeW rfl rfl rfl ((slFl (H.sl 1 rfl) hg7) 0 _ rfl)) ?_; clear Z a; intro a Z
    refine s_runk tTreeW Z 1 rfl rfl ?_; clear Z a; intro a Z
    refine s_end Z [0, 4, 5, 7, 29, 30, 31, 32, 33, 36, 39, 40, 41, 42, 43, 44] rfl ?_; clear Z; intro Z
    refine p_then ?_
    refine f_cond Z rfl (fun hc4 => ?_) (fun hc4 => ?_)
    ·replace hF := ite_t hc4 hF
     obtain ⟨hg8, hF⟩ := chk_in hF
     obtain ⟨d_2, hx6, hF⟩ := bnd_in hF
     refine f_region Z ?_; clear Z; intro Z
     refine s_runk tTreeW Z 3 rfl rfl ?_; clear Z a; intro a Z
     refine s_ob Z (v := .pointer (some ⟨blkOf v1_l, oofOf v1_l + (i_3).toNat * 4, none⟩)) rfl rfl (by decide) rfl (Ob_sidx tTreeW rfl rfl rfl rfl (slPl (H.sl 1 rfl) hg8) hg8) ?_; clear Z a; intro a Z
     refine s_runk tTreeW Z 1 rfl rfl ?_; clear Z a; intro a Z
     refine s_ob Z (v := .string ((l.getD (i_3).toNat default).k)) rfl rfl (by decide) rfl (Ob_load tTreeW rfl rfl rfl ((slFl (H.sl 1 rfl) hg8) 1 _ rfl)) ?_; clear Z a; intro a Z
     refine h_call Z H (js := [(0, false)]) rfl (caps := #[]) fn_16_YTreeW rfl rfl rfl rfl rfl (by decide) rfl rfl (fun D1 hS => have hq := c_tree_Tree_int_Del hx6 hS; hq) ?_; clear Z a; intro vv a w10 D2 hr hF2 Z
     obtain ⟨rfl, I8, K⟩ := hr
     have H : Hf I D w I8 w10 [OEtree_Tree_int g1 d_2.2, SlC NElaw15_Act v1_l l] := hF2 K
     clear hF2 K
     refine s_end Z [0, 4, 5, 7, 29, 30, 31, 32, 33, 36, 39, 40, 41, 42, 43, 44, 45, 46, 47, 48, 49, 50] rfl ?_; clear Z; intro Z
     refine p_then ?_
     exact ⟨d_2.2, Z.sub (ts := [0, 4, 5, 7, 29, 30, 31, 32, 33, 36, 39, 40, 41, 42, 43, 44]) rfl, ⟨I8, (H.sub [(0, false), (0, true)] rfl).eq rfl⟩, hF⟩
    ·replace hF := ite_f hc4 hF
     obtain ⟨hg9, hF⟩ := chk_in hF
     obtain ⟨hg10, hF⟩ := chk_in hF
     obtain ⟨p_2, hx7, hF⟩ := bnd_in hF
     refine f_quietS 11 (by kernel_rfl) (by kernel_rfl) (by kernel_rfl) (by kernel_rfl) (by kernel_rfl) Z ?_; clear Z; intro Z
     refine q_runk tTreeW Z 3 rfl rfl ?_; clear Z a; intro a Z
     refine q_ob Z (v := .pointer (some ⟨blkOf v1_l, oofOf v1_l + (i_3).toNat * 4, none⟩)) rfl rfl (by decide) rfl (fun _ hw => Ob_sidx tTreeW rfl rfl rfl rfl (slPl ((H.blw hw).sl 1 rfl) hg9) hg9) ?_; clear Z a; intro a Z
     refine q_runk tTreeW Z 1 rfl rfl ?_; clear Z a; intro a Z
     refine q_ob Z (v := .string ((l.getD (i_3).toNat default).k)) rfl rfl (by decide) rfl (fun _ hw => Ob_load tTreeW rfl rfl rfl ((slFl ((H.blw hw).sl 1 rfl) hg9) 1 _ rfl)) ?_; clear Z a; intro a Z
     refine q_runk tTreeW Z 2 rfl rfl ?_; clear Z a; intro a Z
     refine q_ob Z (v := .pointer (some ⟨blkOf v1_l, oofOf v1_l + (i_3).toNat * 4, none⟩)) rfl rfl (by decide) rfl (fun _ hw => Ob_sidx tTreeW rfl rfl rfl rfl (slPl ((H.blw hw).sl 1 rfl) hg10) hg10) ?_; clear Z a; intro a Z
     refine q_runk tTreeW Z 1 rfl rfl ?_; clear Z a; intro a Z
     refine q_ob Z (v := .int .i64 ((l.getD (i_3).toNat default).v)) rfl rfl (by decide) rfl (fun _ hw => Ob_load tTreeW rfl rfl rfl ((slFl ((H.blw hw).sl 1 rfl) hg10) 3 _ rfl)) ?_; clear Z a; intro a Z
     refine q_endS Z [0, 4, 5, 7, 29, 30, 31, 32, 33, 36, 39, 40, 41, 42, 43, 44, 52, 53, 54, 55, 56, 57, 58, 59, 60, 61, 62] rfl ?_; clear Z; intro w11 hb Z
     replace H : Hf I D w I4 w11 [OEtree_Tree_int g1 t_2, SlC NElaw15_Act v1_l l] := H.blw hb
     clear hb
     refine h_call Z H (js := [(0, false)]) rfl (caps := #[]) fn_8_YTreeW rfl rfl rfl rfl rfl (by decide) rfl rfl (fun D1 hS => have hq := c_tree_Tree_int_Put hx7 hS; hq) ?_; clear Z a; intro vv a w12 D2 hr hF2 Z
     obtain ⟨rfl, I9, K⟩ := hr
     have H : Hf I D w I9 w12 [OEtree_Tree_int g1 p_2.2, SlC NElaw15_Act v1_l l] := hF2 K
     clear hF2 K
     refine s_end Z [0, 4, 5, 7, 29, 30, 31, 32, 33, 36, 39, 40, 41, 42, 43, 44, 52, 53, 54, 55, 56, 57, 58, 59, 60, 61, 62] rfl ?_; clear Z; intro Z
     refine p_then ?_
     exact ⟨p_2.2, Z.sub (ts := [0, 4, 5, 7, 29, 30, 31, 32, 33, 36, 39, 40, 41, 42, 43, 44]) rfl, ⟨I9, (H.sub [(0, false), (0, true)] rfl).eq rfl⟩, hF⟩
  ·replace hF := ite_f hc2 hF
   refine wp_exit ?_
   refine p_then_x ?_
   refine p_then_x ?_
   refine f_exit_here ?_
   refine p_then (wp_seq ?_)
   obtain ⟨d_3, hx8, hF⟩ := bnd_in hF
   refine f_region Z ?_; clear Z; intro Z
   refine s_runk tTreeW Z 1 rfl rfl ?_; clear Z a; intro a Z
   refine h_call Z H (js := [(0, false)]) rfl (caps := #[]) fn_22_YTreeW rfl rfl rfl rfl rfl (by decide) rfl rfl (fun D1 hS => have hq := c_tree_Tree_int_Depth hx8 hS; hq) ?_; clear Z a; intro vv a w13 D2 hr hF2 Z
   obtain ⟨rfl, I10, K⟩ := hr
   have H : Hf I D w I10 w13 [OEtree_Tree_int g1 t_2, SlC NElaw15_Act v1_l l] := hF2 K
   clear hF2 K
   refine s_runk tTreeW Z 1 rfl rfl ?_; clear Z a; intro a Z
   refine s_end Z [4, 5, 9] rfl ?_; clear Z; intro Z
   refine p_then (wp_seq ?_)
   obtain ⟨l_4, hx9, hF⟩ := bnd_in hF
   obtain ⟨l_5, hx10, hF⟩ := bnd_in hF
   obtain ⟨l_6, hx11, hF⟩ := bnd_in hF
   obtain ⟨a0, hx12, hF⟩ := bnd_in hF
   refine f_region Z ?_; clear Z; intro Z
   refine s_runk tTreeW Z 3 rfl rfl ?_; clear Z a; intro a Z
   refine g_ob Z (p := (decide (d_3 ≥ 0))) (v := .int .i64 d_3) (S' := [(9, .int .i64 d_3)]) rfl rfl rfl (wantB_t _) rfl (by decide) (fun hp hS => hS.sub (ts := [9]) rfl) (fun hp => Ob_c tTreeW rfl) ?_; clear Z a; intro a Z
   refine g_ob Z (p := (decide (d_3 ≥ 0))) (v := .bool (decide (d_3 ≤ 40))) (S' := [(84, .int .i64 d_3)]) rfl rfl rfl (wantB_t _) rfl (by decide) (fun hp hS => (hS.conv (t := 84) rfl (cond_t hp)).sub (ts := [84]) rfl) (fun hp => Ob_c tTreeW rfl) ?_; clear Z a; intro a Z
   refine s_ob Z (v := .bool ((decide (d_3 ≥ 0)) && (decide (d_3 ≤ 40)))) rfl rfl (by decide) rfl (Ob_pick rfl rfl rfl rfl (pick_and _ _)) ?_; clear Z a; intro a Z
   refine s_runk tTreeW Z 1 rfl rfl ?_; clear Z a; intro a Z
   refine g_ob Z (p := ((decide (d_3 ≥ 0)) && (decide (d_3 ≤ 40)))) (v := .pointer (some ⟨g1, 0, none⟩)) (S' := [(5, .pointer (some ⟨g1, 0, none⟩))]) rfl rfl rfl (wantB_t _) rfl (by decide) (fun hp hS => hS.sub (ts := [5]) rfl) (fun hp => Ob_c tTreeW rfl) ?_; clear Z a; intro a Z
   refine h_gcall Z H (js := [(0, false)]) rfl (p := ((decide (d_3 ≥ 0)) && (decide (d_3 ≤ 40)))) (v := .int .i64 l_4) (S' := [(88, .pointer (some ⟨g1, 0, none⟩))]) (caps := #[]) (fun _ => [OEtree_Tree_int g1 t_2]) fn_10_YTreeW rfl rfl rfl (wantB_t _) rfl (by decide) (fun hp hS => (hS.conv (t := 88) rfl (cond_t hp)).sub (ts := [88]) rfl) rfl rfl rfl rfl (fun hp D1 hS => have hq := c_tree_Tree_int_Len (gif_in hx9 hp) hS; hq) (fun hp => H.sub [(0, false), (0, true)] rfl) ?_; clear Z a H; intro a w14 I11 H Z
   replace H : Hf I D w I11 w14 [OEtree_Tree_int g1 t_2, SlC NElaw15_Act v1_l l] := H
   refine g_ob Z (p := ((decide (d_3 ≥ 0)) && (decide (d_3 ≤ 40)))) (v := .int .i64 d_3) (S' := [(9, .int .i64 d_3)]) rfl rfl rfl (wantB_t _) rfl (by decide) (fun hp hS => hS.sub (ts := [9]) rfl) (fun hp => Ob_c tTreeW rfl) ?_; clear Z a; intro a Z
   refine g_call Z (p := ((decide (d_3 ≥ 0)) && (decide (d_3 ≤ 40)))) (v := .int .i64 l_5) (S' := [(90, .int .i64 d_3)]) (caps := #[]) fn_23_YTreeW rfl rfl rfl (wantB_t _) rfl (by decide) (fun hp hS => (hS.conv (t := 90) rfl (cond_t hp)).sub (ts := [90]) rfl) rfl rfl rfl rfl (fun hp => have hq := c_ref15_Least (gif_in hx10 hp) (H.pick0 (js := []) rfl rfl); plainC hq) ?_; clear Z a; intro a w15 hb Z
   replace H : Hf I D w I11 w15 [OEtree_Tree_int g1 t_2, SlC NElaw15_Act v1_l l] := H.blw hb
   clear hb
   refine g_ob Z (p := ((decide (d_3 ≥ 0)) && (decide (d_3 ≤ 40)))) (v := .bool (decide (l_4 ≥ l_5))) (S' := [(89, .int .i64 l_4), (91, .int .i64 l_5)]) rfl rfl rfl (wantB_t _) rfl (by decide) (fun hp hS => ((hS.conv (t := 89) rfl (cond_t hp)).conv (t := 91) rfl (cond_t hp)).sub (ts := [89, 91]) rfl) (fun hp => Ob_c tTreeW rfl) ?_; clear Z a; intro a Z
   refine s_ob Z (v := .bool (((decide (d_3 ≥ 0)) && (decide (d_3 ≤ 40))) && (decide (l_4 ≥ l_5)))) rfl rfl (by decide) rfl (Ob_pick rfl rfl rfl rfl (pick_and _ _)) ?_; clear Z a; intro a Z
   refine s_runk tTreeW Z 1 rfl rfl ?_; clear Z a; intro a Z
   refine g_ob Z (p := (((decide (d_3 ≥ 0)) && (decide (d_3 ≤ 40))) && (decide (l_4 ≥ l_5)))) (v := .int .i64 d_3) (S' := [(9, .int .i64 d_3)]) rfl rfl rfl (wantB_t _) rfl (by decide) (fun hp hS => hS.sub (ts := [9]) rfl) (fun hp => Ob_c tTreeW rfl) ?_; clear Z a; intro a Z
   refine g_ob Z (p := (((decide (d_3 ≥ 0)) && (decide (d_3 ≤ 40))) && (decide (l_4 ≥ l_5)))) (v := .bool (d_3 == 0)) (S' := [(95, .int .i64 d_3)]) rfl rfl rfl (wantB_t _) rfl (by decide) (fun hp hS => (hS.conv (t := 95) rfl (cond_t hp)).sub (ts := [95]) rfl) (fun hp => Ob_c tTreeW rfl) ?_; clear Z a; intro a Z
   refine g_ob Z (p := (((decide (d_3 ≥ 0)) && (decide (d_3 ≤ 40))) && (decide (l_4 ≥ l_5)))) (v := .pointer (some ⟨g1, 0, none⟩)) (S' := [(5, .pointer (some ⟨g1, 0, none⟩))]) rfl rfl rfl (wantB_t _) rfl (by decide) (fun hp hS => hS.sub (ts := [5]) rfl) (fun hp => Ob_c tTreeW rfl) ?_; clear Z a; intro a Z
   refine h_gcall Z H (js := [(0, false)]) rfl (p := (((decide (d_3 ≥ 0)) && (decide (d_3 ≤ 40))) && (decide (l_4 ≥ l_5)))) (v := .int .i64 l_6) (S' := [(97, .pointer (some ⟨g1, 0, none⟩))]) (caps := #[]) (fun _ => [OEtree_Tree_int g1 t_2]) fn_10_YTreeW rfl rfl rfl (wantB_t _) rfl (by decide) (fun hp hS => (hS.conv (t := 97) rfl (cond_t hp)).sub (ts := [97]) rfl) rfl rfl rfl rfl (fun hp D1 hS => have hq := c_tree_Tree_int_Len (gif_in hx11 hp) hS; hq) (fun hp => H.sub [(0, false), (0, true)] rfl) ?_; clear Z a H; intro a w16 I12 H Z
   replace H : Hf I D w I12 w16 [OEtree_Tree_int g1 t_2, SlC NElaw15_Act v1_l l] := H
   refine g_ob Z (p := (((decide (d_3 ≥ 0)) && (decide (d_3 ≤ 40))) && (decide (l_4 ≥ l_5)))) (v := .bool (l_6 == 0)) (S' := [(98, .int .i64 l_6)]) rfl rfl rfl (wantB_t _) rfl (by decide) (fun hp hS => (hS.conv (t := 98) rfl (cond_t hp)).sub (ts := [98]) rfl) (fun hp => Ob_c tTreeW rfl) ?_; clear Z a; intro a Z
   refine g_ob Z (p := (((decide (d_3 ≥ 0)) && (decide (d_3 ≤ 40))) && (decide (l_4 ≥ l_5)))) (v := .bool ((d_3 == 0) == (l_6 == 0))) (S' := [(96, .bool (d_3 == 0)), (99, .bool (l_6 == 0))]) rfl rfl rfl (wantB_t _) rfl (by decide) (fun hp hS => ((hS.conv (t := 96) rfl (cond_t hp)).conv (t := 99) rfl (cond_t hp)).sub (ts := [96, 99]) rfl) (fun hp => Ob_c tTreeW rfl) ?_; clear Z a; intro a Z
   refine s_ob Z (v := .bool ((((decide (d_3 ≥ 0)) && (decide (d_3 ≤ 40))) && (decide (l_4 ≥ l_5))) && ((d_3 == 0) == (l_6 == 0)))) rfl rfl (by decide) rfl (Ob_pick rfl rfl rfl rfl (pick_and _ _)) ?_; clear Z a; intro a Z
   refine s_runk tTreeW Z 1 rfl rfl ?_; clear Z a; intro a Z
   refine g_call Z (p := ((((decide (d_3 ≥ 0)) && (decide (d_3 ≤ 40))) && (decide (l_4 ≥ l_5))) && ((d_3 == 0) == (l_6 == 0)))) (v := .bool a0) (S' := []) (caps := #[]) fn_14_YTreeW rfl rfl rfl (wantB_t _) rfl (by decide) (fun hp hS => hS.sub (ts := []) rfl) rfl rfl rfl rfl (fun hp => have hq := c_law15_awake (gif_in hx12 hp) (H.pick0 (js := []) rfl rfl); plainC hq) ?_; clear Z a; intro a w17 hb Z
   replace H : Hf I D w I12 w17 [OEtree_Tree_int g1 t_2, SlC NElaw15_Act v1_l l] := H.blw hb
   clear hb
   refine s_ob Z (v := .bool (((((decide (d_3 ≥ 0)) && (decide (d_3 ≤ 40))) && (decide (l_4 ≥ l_5))) && ((d_3 == 0) == (l_6 == 0))) && a0)) rfl rfl (by decide) rfl (Ob_pick rfl rfl rfl rfl (pick_and _ _)) ?_; clear Z a; intro a Z
   refine s_runk tTreeW Z 1 rfl rfl ?_; clear Z a; intro a Z
   refine s_end Z [4] rfl ?_; clear Z; intro Z
   refine p_then (wp_ret ?_)
   obtain rfl := some_in hF
   exact f_ret Z (run_results1 rfl Z rfl) ⟨rfl, I12, (H.sub [] rfl).eq rfl⟩

end Go.Proofs.Ytfcdghlgcnjkoaa
