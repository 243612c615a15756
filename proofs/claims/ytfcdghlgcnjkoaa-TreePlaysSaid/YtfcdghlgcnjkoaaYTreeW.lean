/- Trees: the laws. -/
import Derived.Test.YtfcdghlgcnjkoaaYTreeG
import Derived.Test.YtfcdghlgcnjkoaaYTree2
namespace Go.Proofs.Ytfcdghlgcnjkoaa
open Go.RowKit
structure Elaw15_Act where
 c : Int
 k : ByteArray
 to_ : ByteArray
 v : Int

instance : Inhabited Elaw15_Act := ⟨⟨0, ByteArray.empty, ByteArray.empty, 0⟩⟩

def cElaw15_Act (x : Elaw15_Act) : List Value := [.int .i64 x.c, .string x.k, .string x.to_, .int .i64 x.v]

def NElaw15_Act : Rp Elaw15_Act := Rp.flat 4 (fun _ => True) (fun x => cElaw15_Act x) (fun _ => rfl) (fun x c hc => by simp only [cElaw15_Act, List.mem_cons, List.not_mem_nil, or_false] at hc; rcases hc with rfl | rfl | rfl | rfl <;> rfl)

def tTreeWL : TabL := ⟨[(38912, 0), (40960, 0), (40961, 1), (40962, 2), (40963, 3)], [], [4], [(22, (9, 1)), (34, (40, 4)), (36, (60, 2)), (46, (5, 1))], [(3, (1, false)), (9, (1, false)), (36, (1, false)), (38, (1, true)), (40, (4, true))]⟩

def tTreeW : Tab Try.prog := ⟨tTreeWL, by kernel_rfl⟩

theorem fn_7_YTreeW : IsFn Try.prog 7 := ⟨_, Try.func7, by kernel_rfl, by kernel_rfl⟩

theorem fn_8_YTreeW : IsFn Try.prog 8 := ⟨_, Try.func8, by kernel_rfl, by kernel_rfl⟩

theorem fn_9_YTreeW : IsFn Try.prog 9 := ⟨_, Try.func9, by kernel_rfl, by kernel_rfl⟩

theorem fn_10_YTreeW : IsFn Try.prog 10 := ⟨_, Try.func10, by kernel_rfl, by kernel_rfl⟩

theorem fn_11_YTreeW : IsFn Try.prog 11 := ⟨_, Try.func11, by kernel_rfl, by kernel_rfl⟩

theorem fn_12_YTreeW : IsFn Try.prog 12 := ⟨_, Try.func12, by kernel_rfl, by kernel_rfl⟩

theorem fn_14_YTreeW : IsFn Try.prog 14 := ⟨_, Try.func14, by kernel_rfl, by kernel_rfl⟩

theorem fn_15_YTreeW : IsFn Try.prog 15 := ⟨_, Try.func15, by kernel_rfl, by kernel_rfl⟩

theorem fn_16_YTreeW : IsFn Try.prog 16 := ⟨_, Try.func16, by kernel_rfl, by kernel_rfl⟩

theorem fn_17_YTreeW : IsFn Try.prog 17 := ⟨_, Try.func17, by kernel_rfl, by kernel_rfl⟩

theorem fn_18_YTreeW : IsFn Try.prog 18 := ⟨_, Try.func18, by kernel_rfl, by kernel_rfl⟩

theorem fn_19_YTreeW : IsFn Try.prog 19 := ⟨_, Try.func19, by kernel_rfl, by kernel_rfl⟩

theorem fn_20_YTreeW : IsFn Try.prog 20 := ⟨_, Try.func20, by kernel_rfl, by kernel_rfl⟩

theorem fn_21_YTreeW : IsFn Try.prog 21 := ⟨_, Try.func21, by kernel_rfl, by kernel_rfl⟩

def F_law15_awake : Option Bool := (F_tree_New_int).bind fun i => ((F_tree_Tree_int_Put i ⟨#[98]⟩ 1).bind fun p => ((F_tree_Tree_int_Put p.2 ⟨#[97]⟩ 2).bind fun p_2 => ((F_tree_Tree_int_Put p_2.2 ⟨#[98]⟩ 3).bind fun p_3 => ((F_tree_Tree_int_Get p_3.2 ⟨#[98]⟩).bind fun g => ((gif ((((!p.1 && !p_2.1) && p_3.1) && (g.1 == 3)) && g.2) (F_tree_Tree_int_Len p_3.2) default).bind fun l => (if (((((!p.1 && !p_2.1) && p_3.1) && (g.1 == 3)) && g.2) && (l == 2)) = true then ((F_tree_Tree_int_Keys p_3.2 ⟨#[]⟩ ⟨#[]⟩).bind fun k => ((F_ref05_Same k.1 [⟨#[97]⟩, ⟨#[98]⟩]).bind fun s0 => (some s0))) else (some false)))))))

set_option maxHeartbeats 1000000 in
theorem c_law15_awake {I D : Dm} {w : World} {rr : Bool} (hF : F_law15_awake = some rr) (H : St I D w []) :
  Calls Try.prog 14 #[] w (Ret fun vv w' => vv = .bool rr ∧ ∃ I', Hf I D w I' w' []) := by
 replace H := H.hf
 unfold F_law15_awake at hF
 refine f_enter 46 Try.func14 rfl rfl (Nat.le_of_ble_eq_true rfl) fun a Z => ?_
 replace Z := Z.sub (ts := []) rfl
 refine wp_seq (f_region Z ?_); clear Z; intro Z
 refine s_runk tTreeW Z 1 rfl rfl ?_; clear Z a; intro a Z
 refine s_end Z [0] rfl ?_; clear Z; intro Z
 refine p_then (wp_seq ?_)
 obtain ⟨i, hx1, hF⟩ := bnd_in hF
 refine f_region Z ?_; clear Z; intro Z
 refine h_call Z H (js := []) rfl (caps := #[]) fn_7_YTreeW rfl rfl rfl rfl rfl (by decide) rfl rfl (fun D1 hS => have hq := c_tree_New_int hx1 hS; hq) ?_; clear Z a; intro vv a w1 D2 hr hF2 Z
 obtain ⟨g1, rfl, I1, K⟩ := hr
 have H : Hf I D w I1 w1 [OEtree_Tree_int g1 i] := hF2 K
 clear hF2 K
 refine s_runk tTreeW Z 1 rfl rfl ?_; clear Z a; intro a Z
 refine s_end Z [0, 1] rfl ?_; clear Z; intro Z
 refine p_then (wp_seq ?_)
 obtain ⟨p, hx2, hF⟩ := bnd_in hF
 refine f_region Z ?_; clear Z; intro Z
 refine s_runk tTreeW Z 1 rfl rfl ?_; clear Z a; intro a Z
 refine h_call Z H (js := [(0, false)]) rfl (caps := #[]) fn_8_YTreeW rfl rfl rfl rfl rfl (by decide) rfl rfl (fun D1 hS => have hq := c_tree_Tree_int_Put hx2 hS; hq) ?_; clear Z a; intro vv a w2 D2 hr hF2 Z
 obtain ⟨rfl, I2, K⟩ := hr
 have H : Hf I D w I2 w2 [OEtree_Tree_int g1 p.2] := hF2 K
 clear hF2 K
 refine s_runk tTreeW Z 1 rfl rfl ?_; clear Z a; intro a Z
 refine s_end Z [0, 1, 2] rfl ?_; clear Z; intro Z
 refine p_then (wp_seq ?_)
 obtain ⟨p_2, hx3, hF⟩ := bnd_in hF
 refine f_region Z ?_; clear Z; intro Z
 refine s_runk tTreeW Z 1 rfl rfl ?_; clear Z a; intro a Z
 refine h_call Z H (js := [(0, false)]) rfl (caps := #[]) fn_8_YTreeW rfl rfl rfl rfl rfl (by decide) rfl rfl (fun D1 hS => have hq := c_tree_Tree_int_Put hx3 hS; hq) ?_; clear Z a; intro vv a w3 D2 hr hF2 Z
 obtain ⟨rfl, I3, K⟩ := hr
 have H : Hf I D w I3 w3 [OEtree_Tree_int g1 p_2.2] := hF2 K
 clear hF2 K
 refine s_runk tTreeW Z 1 rfl rfl ?_; clear Z a; intro a Z
 refine s_end Z [0, 1, 2, 3] rfl ?_; clear Z; intro Z
 refine p_then (wp_seq ?_)
 obtain ⟨p_3, hx4, hF⟩ := bnd_in hF
 refine f_region Z ?_; clear Z; intro Z
 refine s_runk tTreeW Z 1 rfl rfl ?_; clear Z a; intro a Z
 refine h_call Z H (js := [(0, false)]) rfl (caps := #[]) fn_8_YTreeW rfl rfl rfl rfl rfl (by decide) rfl rfl (fun D1 hS => have hq := c_tree_Tree_int_Put hx4 hS; hq) ?_; clear Z a; intro vv a w4 D2 hr hF2 Z
 obtain ⟨rfl, I4, K⟩ := hr
 have H : Hf I D w I4 w4 [OEtree_Tree_int g1 p_3.2] := hF2 K
 clear hF2 K
 refine s_runk tTreeW Z 1 rfl rfl ?_; clear Z a; intro a Z
 refine s_end Z [0, 1, 2, 3, 4] rfl ?_; clear Z; intro Z
 refine p_then (wp_seq ?_)
 obtain ⟨g, hx5, hF⟩ := bnd_in hF
 refine f_region Z ?_; clear Z; intro Z
 refine s_runk tTreeW Z 1 rfl rfl ?_; clear Z a; intro a Z
 refine h_call Z H (js := [(0, false)]) rfl (caps := #[]) fn_9_YTreeW rfl rfl rfl rfl rfl (by decide) rfl rfl (fun D1 hS => have hq := c_tree_Tree_int_Get hx5 hS; hq) ?_; clear Z a; intro vv a w5 D2 hr hF2 Z
 obtain ⟨rfl, I5, K⟩ := hr
 have H : Hf I D w I5 w5 [OEtree_Tree_int g1 p_3.2] := hF2 K
 clear hF2 K
 refine s_runk tTreeW Z 5 rfl rfl ?_; clear Z a; intro a Z
 refine s_end Z [0, 1, 2, 3, 4, 5, 6] rfl ?_; clear Z; intro Z
 refine p_then (wp_seq ?_)
 obtain ⟨l, hx6, hF⟩ := bnd_in hF
 refine f_region Z ?_; clear Z; intro Z
 refine s_runk tTreeW Z 3 rfl rfl ?_; clear Z a; intro a Z
 refine g_ob Z (p := !p.1) (v := .bool p_2.1) (S' := [(3, .bool p_2.1)]) rfl rfl rfl (wantB_t _) rfl (by decide) (fun hp hS => hS.sub (ts := [3]) rfl) (fun hp => Ob_c tTreeW rfl) ?_; clear Z a; intro a Z
 refine g_ob Z (p := !p.1) (v := .bool !p_2.1) (S' := [(22, .bool p_2.1)]) rfl rfl rfl (wantB_t _) rfl (by decide) (fun hp hS => (hS.conv (t := 22) rfl (cond_t hp)).sub (ts := [22]) rfl) (fun hp => Ob_c tTreeW rfl) ?_; clear Z a; intro a Z
 refine s_ob Z (v := .bool (!p.1 && !p_2.1)) rfl rfl (by decide) rfl (Ob_pick rfl rfl rfl rfl (pick_and _ _)) ?_; clear Z a; intro a Z
 refine s_runk tTreeW Z 1 rfl rfl ?_; clear Z a; intro a Z
 refine g_ob Z (p := (!p.1 && !p_2.1)) (v := .bool p_3.1) (S' := [(4, .bool p_3.1)]) rfl rfl rfl (wantB_t _) rfl (by decide) (fun hp hS => hS.sub (ts := [4]) rfl) (fun hp => Ob_c tTreeW rfl) ?_; clear Z a; intro a Z
 refine s_ob Z (v := .bool ((!p.1 && !p_2.1) && p_3.1)) rfl rfl (by decide) rfl (Ob_pick rfl rfl rfl rfl (pick_and _ _)) ?_; clear Z a; intro a Z
 refine s_runk tTreeW Z 1 rfl rfl ?_; clear Z a; intro a Z
 refine g_ob Z (p := ((!p.1 && !p_2.1) && p_3.1)) (v := .int .i64 g.1) (S' := [(5, .int .i64 g.1)]) rfl rfl rfl (wantB_t _) rfl (by decide) (fun hp hS => hS.sub (ts := [5]) rfl) (fun hp => Ob_c tTreeW rfl) ?_; clear Z a; intro a Z
 refine g_ob Z (p := ((!p.1 && !p_2.1) && p_3.1)) (v := .bool (g.1 == 3)) (S' := [(29, .int .i64 g.1)]) rfl rfl rfl (wantB_t _) rfl (by decide) (fun hp hS => (hS.conv (t := 29) rfl (cond_t hp)).sub (ts := [29]) rfl) (fun hp => Ob_c tTreeW rfl) ?_; clear Z a; intro a Z
 refine s_ob Z (v := .bool (((!p.1 && !p_2.1) && p_3.1) && (g.1 == 3))) rfl rfl (by decide) rfl (Ob_pick rfl rfl rfl rfl (pick_and _ _)) ?_; clear Z a; intro a Z
 refine s_runk tTreeW Z 1 rfl rfl ?_; clear Z a; intro a Z
 refine g_ob Z (p := (((!p.1 && !p_2.1) && p_3.1) && (g.1 == 3))) (v := .bool g.2) (S' := [(6, .bool g.2)]) rfl rfl rfl (wantB_t _) rfl (by decide) (fun hp hS => hS.sub (ts := [6]) rfl) (fun hp => Ob_c tTreeW rfl) ?_; clear Z a; intro a Z
 refine s_ob Z (v := .bool ((((!p.1 && !p_2.1) && p_3.1) && (g.1 == 3)) && g.2)) rfl rfl (by decide) rfl (Ob_pick rfl rfl rfl rfl (pick_and _ _)) ?_; clear Z a; intro a Z
 refine s_runk tTreeW Z 1 rfl rfl ?_; clear Z a; intro a Z
 refine g_ob Z (p := ((((!p.1 && !p_2.1) && p_3.1) && (g.1 == 3)) && g.2)) (v := .pointer (some ⟨g1, 0, none⟩)) (S' := [(1, .pointer (some ⟨g1, 0, none⟩))]) rfl rfl rfl (wantB_t _) rfl (by decide) (fun hp hS => hS.sub (ts := [1]) rfl) (fun hp => Ob_c tTreeW rfl) ?_; clear Z a; intro a Z
 refine h_gcall Z H (js := [(0, false)]) rfl (p := ((((!p.1 && !p_2.1) && p_3.1) && (g.1 == 3)) && g.2)) (v := .int .i64 l) (S' := [(36, .pointer (some ⟨g1, 0, none⟩))]) (caps := #[]) (fun _ => [OEtree_Tree_int g1 p_3.2]) fn_10_YTreeW rfl rfl rfl (wantB_t _) rfl (by decide) (fun hp hS => (hS.conv (t := 36) rfl (cond_t hp)).sub (ts := [36]) rfl) rfl rfl rfl rfl (fun hp D1 hS => have hq := c_tree_Tree_int_Len (gif_in hx6 hp) hS; hq) (fun hp => H.sub [(0, false)] rfl) ?_; clear Z a H; intro a w6 I6 H Z
 replace H : Hf I D w I6 w6 [OEtree_Tree_int g1 p_3.2] := H
 refine g_ob Z (p := ((((!p.1 && !p_2.1) && p_3.1) && (g.1 == 3)) && g.2)) (v := .bool (l == 2)) (S' := [(37, .int .i64 l)]) rfl rfl rfl (wantB_t _) rfl (by decide) (fun hp hS => (hS.conv (t := 37) rfl (cond_t hp)).sub (ts := [37]) rfl) (fun hp => Ob_c tTreeW rfl) ?_; clear Z a; intro a Z
 refine s_ob Z (v := .bool (((((!p.1 && !p_2.1) && p_3.1) && (g.1 == 3)) && g.2) && (l == 2))) rfl rfl (by decide) rfl (Ob_pick rfl rfl rfl rfl (pick_and _ _)) ?_; clear Z a; intro a Z
 refine s_runk tTreeW Z 1 rfl rfl ?_; clear Z a; intro a Z
 refine g_ob Z (p := (((((!p.1 && !p_2.1) && p_3.1) && (g.1 == 3)) && g.2) && (l == 2))) (v := .pointer (some ⟨g1, 0, none⟩)) (S' := [(1, .pointer (some ⟨g1, 0, none⟩))]) rfl rfl rfl (wantB_t _) rfl (by decide) (fun hp hS => hS.sub (ts := [1]) rfl) (fun hp => Ob_c tTreeW rfl) ?_; clear Z a; intro a Z
 refine bsplit (((((!p.1 && !p_2.1) && p_3.1) && (g.1 == 3)) && g.2) && (l == 2)) (fun hc1 => ?_) (fun hc1 => ?_)
 ·replace hF := ite_t hc1 hF; replace Z := Z.cnv (t := 40) rfl (show Value.bool (((((!p.1 && !p_2.1) && p_3.1) && (g.1 == 3)) && g.2) && (l == 2)) = .bool true from congrArg Value.bool hc1); replace Z := Z.sub (ts := [0, 1, 2, 3, 4, 5, 6, 19, 20, 21, 22, 23, 24, 25, 26, 27, 28, 29, 30, 31, 32, 33, 34, 35, 36, 37, 38, 39, 40, 41]) rfl
  replace Z := Z.cnv (t := 41) rfl (cond_t hc1); replace Z := Z.sub (ts := [0, 1, 2, 3, 4, 5, 6, 19, 20, 21, 22, 23, 24, 25, 26, 27, 28, 29, 30, 31, 32, 33, 34, 35, 36, 37, 38, 39, 40, 41]) rfl
  obtain ⟨k, hx7, hF⟩ := bnd_in hF
  obtain ⟨s0, hx8, hF⟩ := bnd_in hF
  refine g_if Z rfl rfl rfl (p := true) rfl rfl (by decide) (fun _ => ?_) (fun h => by cases h)
  refine h_call Z H (js := [(0, false)]) rfl (caps := #[]) fn_12_YTreeW rfl rfl rfl rfl rfl (by decide) rfl rfl (fun D1 hS => have hq := c_tree_Tree_int_Keys hx7 hS; hq) ?_; clear Z a; intro vv a w7 D2 hr hF2 Z
  obtain ⟨q1, hvv, I7, K⟩ := hr; obtain rfl := hvv.symm
  have H : Hf I D w I7 w7 [OEtree_Tree_int g1 k.2, SlC NS q1 k.1] := hF2 K
  clear hF2 K
  refine g_if Z rfl rfl rfl (p := true) rfl rfl (by decide) (fun _ => ?_) (fun h => by cases h)
  refine h_bslice Z H (vs := [(0, .string ⟨#[97]⟩), (1, .string ⟨#[98]⟩)]) (cl := [.string ⟨#[97]⟩, .string ⟨#[98]⟩]) (e := 9) rfl rfl rfl (by decide) rfl rfl (fun w => run_bslice (z := .string ByteArray.empty) (m := 1) Try.underlying22 (by kernel_rfl) rfl rfl (by decide) (by simp [Instr.fill, Value.cells]) w) ?_; clear Z a H; intro a w8 b1 H Z
  refine g_if Z rfl rfl rfl (p := true) rfl rfl (by decide) (fun _ => ?_) (fun h => by cases h)
  obtain ⟨I8, _, H⟩ := H.frzlit 0 rfl (R := NS) [[.string ⟨#[97]⟩], [.string ⟨#[98]⟩]] [⟨#[97]⟩, ⟨#[98]⟩] rfl rfl (fun i h1 h2 => by match i, h1, h2 with | 0, _, _ => exact ⟨rfl, trivial⟩ | 1, _, _ => exact ⟨rfl, trivial⟩) (show 2 ≤ maxLen from by decide) (n := 2) rfl
  replace H : Hf I D w I8 w8 [SlC NS (.slice (some ⟨b1, 0, none⟩) 2 2) [⟨#[97]⟩, ⟨#[98]⟩], OEtree_Tree_int g1 k.2, SlC NS q1 k.1] := H
  refine h_call Z H (js := [(2, true), (0, true)]) rfl (caps := #[]) fn_11_YTreeW rfl rfl rfl rfl rfl (by decide) rfl rfl (fun D1 hS => have hq := c_ref05_Same hx8 hS; hq) ?_; clear Z a; intro vv a w9 D2 hr hF2 Z
  obtain ⟨rfl, I9, K⟩ := hr
  have H : Hf I D w I9 w9 [SlC NS (.slice (some ⟨b1, 0, none⟩) 2 2) [⟨#[97]⟩, ⟨#[98]⟩], OEtree_Tree_int g1 k.2, SlC NS q1 k.1] := hF2 K
  clear hF2 K
  refine s_ob Z (v := .bool s0) rfl rfl (by decide) rfl (Ob_pick rfl rfl rfl rfl rfl) ?_; clear Z a; intro a Z
  refine s_runk tTreeW Z 1 rfl rfl ?_; clear Z a; intro a Z
  refine s_end Z [0] rfl ?_; clear Z; intro Z
  refine p_then (wp_ret ?_)
  obtain rfl := some_in hF
  exact f_ret Z (run_results1 rfl Z rfl) ⟨rfl, I9, (H.sub [] rfl).eq rfl⟩
 ·replace hF := ite_f hc1 hF; replace Z := Z.cnv (t := 40) rfl (show Value.bool (((((!p.1 && !p_2.1) && p_3.1) && (g.1 == 3)) && g.2) && (l == 2)) = .bool false from congrArg Value.bool hc1); replace Z := Z.sub (ts := [0, 1, 2, 3, 4, 5, 6, 19, 20, 21, 22, 23, 24, 25, 26, 27, 28, 29, 30, 31, 32, 33, 34, 35, 36, 37, 38, 39, 40, 41]) rfl
  refine g_if Z rfl rfl rfl (p := false) rfl rfl (by decide) (fun h => by cases h) ?_; clear Z; intro _ a Z
  refine g_if Z rfl rfl rfl (p := false) rfl rfl (by decide) (fun h => by cases h) ?_; clear Z; intro _ a Z
  refine g_if Z rfl rfl rfl (p := false) rfl rfl (by decide) (fun h => by cases h) ?_; clear Z; intro _ a Z
  refine s_ob Z (v := .bool false) rfl rfl (by decide) rfl (Ob_pick rfl rfl rfl rfl rfl) ?_; clear Z a; intro a Z
  refine s_runk tTreeW Z 1 rfl rfl ?_; clear Z a; intro a Z
  refine s_end Z [0] rfl ?_; clear Z; intro Z
  refine p_then (wp_ret ?_)
  obtain rfl := some_in hF
  exact f_ret Z (run_results1 rfl Z rfl) ⟨rfl, I6, (H.sub [] rfl).eq rfl⟩

def F_law15_TreePlays_k2 (i_2 : Int) (rc : (Int × Etree_Tree_int × (List Eref15_Row)) → Option Bool) (ok : Bool) (x_2 : Bool) (t_2 : Etree_Tree_int) (x_3 : Eref15_Tree) : Option Bool := (gif (!!ok) (F_tree_Tree_int_Len t_2) default).bind fun l_2 => (if (!ok || (l_2 != (x_3.l.length : Int))) = true then (some false) else (chk (inI (i_2 + 1)) (rc (i_2 + 1, t_2, x_3.l))))

def F_law15_TreePlays_k3 (l : List Elaw15_Act) (i_2 : Int) (t : Etree_Tree_int) (x : List Eref15_Row) (rc : (Int × Etree_Tree_int × (List Eref15_Row)) → Option Bool) (x_4 : Bool) : Option Bool := if (x_4) = true then ((F_tree_Tree_int_Put t ((l.getD (i_2).toNat default).k) ((l.getD (i_2).toNat default).v)).bind fun p => ((F_ref15_Tree_Put ({ l := x } : Eref15_Tree) ((l.getD (i_2).toNat default).k) ((l.getD (i_2).toNat default).v)).bind fun p_2 => (F_law15_TreePlays_k2 i_2 rc (p.1 == p_2.1) x_4 p.2 p_2.2))) else (if (((l.getD (i_2).toNat default).c) == 2) = true then ((F_tree_Tree_int_Del t ((l.getD (i_2).toNat default).k)).bind fun d => ((F_ref15_Tree_Del ({ l := x } : Eref15_Tree) ((l.getD (i_2).toNat default).k)).bind fun d_2 => (F_law15_TreePlays_k2 i_2 rc (d.1 == d_2.1) x_4 d.2 d_2.2))) else (if (((l.getD (i_2).toNat default).c) == 3) = true then ((F_tree_Tree_int_Get t ((l.getD (i_2).toNat default).k)).bind fun g => ((F_ref15_Tree_Get ({ l := x } : Eref15_Tree) ((l.getD (i_2).toNat default).k)).bind fun g_2 => (F_law15_TreePlays_k2 i_2 rc ((g.1 == g_2.1) && (g.2 == g_2.2)) x_4 t ({ l := x } : Eref15_Tree)))) else ((F_tree_Tree_int_Seek t ((l.getD (i_2).toNat default).k)).bind fun s0 => ((F_ref15_Tree_Seek ({ l := x } : Eref15_Tree) ((l.getD (i_2).toNat default).k)).bind fun s0_2 => (if ((seqB s0.1 s0_2.1) && (s0.2.1 == s0_2.2)) = true then ((F_tree_Tree_int_Keys s0.2.2 ((l.getD (i_2).toNat default).k) ((l.getD (i_2).toNat default).to_)).bind fun k => ((F_ref15_Tree_Keys ({ l := x } : Eref15_Tree) ((l.getD (i_2).toNat default).k) ((l.getD (i_2).toNat default).to_)).bind fun k_2 => ((F_ref05_Same k.1 k_2).bind fun s0_3 => (F_law15_TreePlays_k2 i_2 rc s0_3 x_4 k.2 ({ l := x } : Eref15_Tree))))) else (F_law15_TreePlays_k2 i_2 rc false x_4 s0.2.2 ({ l := x } : Eref15_Tree)))))))

def F_law15_TreePlays_l1 (l : List Elaw15_Act) (rc : (Int × Etree_Tree_int × (List Eref15_Row)) → Option Bool) (sg : Int × Etree_Tree_int × (List Eref15_Row)) : Option Bool := match sg with | (i_2, t, x) => if ((decide (i_2 < (l.length : Int))) && (decide (i_2 < 60))) = true then (chk ((0 : Int) ≤ i_2 ∧ i_2 < (l.length : Int)) (if (((l.getD (i_2).toNat default).c) == 0) = true then (F_law15_TreePlays_k3 l i_2 t x rc (((l.getD (i_2).toNat default).c) == 0)) else (F_law15_TreePlays_k3 l i_2 t x rc (((l.getD (i_2).toNat default).c) == 1)))) else ((F_tree_Tree_int_Keys t ⟨#[]⟩ ⟨#[]⟩).bind fun k_3 => ((F_ref15_Tree_Keys ({ l := x } : Eref15_Tree) ⟨#[]⟩ ⟨#[]⟩).bind fun k_4 => ((F_ref05_Same k_3.1 k_4).bind fun s0_4 => ((gif s0_4 (F_law15_awake) default).bind fun a0 => (some (s0_4 && a0))))))

def F_law15_TreePlays (l : List Elaw15_Act) : Option Bool := (F_tree_New_int).bind fun i => (iter (F_law15_TreePlays_l1 l) FU (0, i, ([] : List Eref15_Row)))

set_option maxHeartbeats 1000000 in
theorem c_law15_TreePlays {I D : Dm} {l : List Elaw15_Act} {v1_l : Value} {w : World} {rr : Bool} (hF : F_law15_TreePlays l = some rr) (H : St I D w [SlC NElaw15_Act v1_l l]) :
  Calls Try.prog 4 #[v1_l] w (Ret fun vv w' => vv = .bool rr ∧ ∃ I', Hf I D w I' w' []) := by
 replace H := H.hf
 unfold F_law15_TreePlays at hF
 refine f_enter 143 Try.func4 rfl rfl (Nat.le_of_ble_eq_true rfl) fun a Z => ?_
 replace Z := Z.sub (ts := [0]) rfl
 refine wp_seq (f_region Z ?_); clear Z; intro Z
 refine s_runk tTreeW Z 1 rfl rfl ?_; clear Z a; intro a Z
 refine s_end Z [0, 2] rfl ?_; clear Z; intro Z
 refine p_then (wp_seq ?_)
 obtain ⟨i, hx1, hF⟩ := bnd_in hF
 refine f_region Z ?_; clear Z; intro Z
 refine h_call Z H (js := []) rfl (caps := #[]) fn_7_YTreeW rfl rfl rfl rfl rfl (by decide) rfl rfl (fun D1 hS => have hq := c_tree_New_int hx1 hS; hq) ?_; clear Z a; intro vv a w1 D2 hr hF2 Z
 obtain ⟨g1, rfl, I1, K⟩ := hr
 have H : Hf I D w I1 w1 [OEtree_Tree_int g1 i, SlC NElaw15_Act v1_l l] := hF2 K
 clear hF2 K
 refine s_runk tTreeW Z 1 rfl rfl ?_; clear Z a; intro a Z
 refine s_end Z [0, 2, 3] rfl ?_; clear Z; intro Z
 refine p_then (wp_seq (f_region Z ?_)); clear Z; intro Z
 refine s_ob Z (v := .agg #[.slice none 0 0]) rfl rfl (by decide) rfl (Ob_build (vs := []) rfl rfl (by go_simp <;> rfl)) ?_; clear Z a; intro a Z
 refine h_boxv Z H (cl := [.slice none 0 0]) rfl rfl rfl (by decide) rfl rfl rfl ?_; clear Z a H; intro a w2 b1 H Z
 refine s_runk tTreeW Z 1 rfl rfl ?_; clear Z a; intro a Z
 refine s_end Z [0, 2, 3, 4] rfl ?_; clear Z; intro Z
 refine p_then (wp_seq ?_)
 refine wp_seq (f_region Z ?_); clear Z; intro Z
 refine s_runk tTreeW Z 1 rfl rfl ?_; clear Z a; intro a Z
 refine s_end Z [0, 2, 3, 4, 5] rfl ?_; clear Z; intro Z
 refine p_then (wp_block ?_)
 replace H : Hf I D w I1 w2 [OwC NEref15_Row 60 (.slice none 0 0) ([] : List Eref15_Row), BxC b1 38 [.slice none 0 0], OEtree_Tree_int g1 i, SlC NElaw15_Act v1_l l] := H.nilow NEref15_Row 60
 refine f_iter hF (fun sg a' w' => match sg with | (i_2, t, x) => ∃ v2 : Value, Sl 143 [(0, v1_l), (2, .bool false), (3, .pointer (some ⟨g1, 0, none⟩)), (4, .pointer (some ⟨b1, 0, none⟩)), (5, .int .i64 i_2)] a' ∧ ∃ I2, Hf I D w I2 w' [OEtree_Tree_int g1 t, BxC b1 38 [v2], SlC NElaw15_Act v1_l l, OwC NEref15_Row 60 v2 x]) ⟨.slice none 0 0, Z.sub (ts := [0, 2, 3, 4, 5]) rfl, ⟨I1, (H.sub [(2, false), (1, false), (1, true), (0, false)] rfl).eq rfl⟩⟩ ?_
 clear Z H hF a
 rintro rc ⟨i_2, t, x⟩ a w3 ⟨v2, Z, I2, H⟩ hF
 unfold F_law15_TreePlays_l1 at hF
 try dsimp only at hF
 refine wp_seq ?_
 refine wp_seq (f_region Z ?_); clear Z; intro Z
 refine s_runk tTreeW Z 2 rfl rfl ?_; clear Z a; intro a Z
 refine s_ob Z (v := .int .i64 (l.length : Int)) rfl rfl (by decide) rfl (Ob_slen tTreeW rfl rfl rfl (H.slshape 2 rfl)) ?_; clear Z a; intro a Z
 refine s_runk tTreeW Z 2 rfl rfl ?_; clear Z a; intro a Z
 refine g_ob Z (p := (decide (i_2 < (l.length : Int)))) (v := .int .i64 i_2) (S' := [(5, .int .i64 i_2)]) rfl rfl rfl (wantB_t _) rfl (by decide) (fun hp hS => hS.sub (ts := [5]) rfl) (fun hp => Ob_c tTreeW rfl) ?_; clear Z a; intro a Z
 refine g_ob Z (p := (decide (i_2 < (l.length : Int)))) (v := .bool (decide (i_2 < 60))) (S' := [(24, .int .i64 i_2)]) rfl rfl rfl (wantB_t _) rfl (by decide) (fun hp hS => (hS.conv (t := 24) rfl (cond_t hp)).sub (ts := [24]) rfl) (fun hp => Ob_c tTreeW rfl) ?_; clear Z a; intro a Z
 refine s_ob Z (v := .bool ((decide (i_2 < (l.length : Int))) && (decide (i_2 < 60)))) rfl rfl (by decide) rfl (Ob_pick rfl rfl rfl rfl (pick_and _ _)) ?_; clear Z a; intro a Z
 refine s_end Z [0, 2, 3, 4, 5, 19, 20, 21, 22, 23, 26] rfl ?_; clear Z; intro Z
 refine p_then ?_
 refine f_cond Z rfl (fun hc1 => ?_) (fun hc1 => ?_)
 ·replace hF := ite_t hc1 hF
  refine wp_skip ?_
  refine p_then (wp_seq ?_)
  refine wp_block ?_
  refine wp_seq ?_
  obtain ⟨hg1, hF⟩ := chk_in hF
  refine f_region Z ?_; clear Z; intro Z
  refine s_runk tTreeW Z 2 rfl rfl ?_; clear Z a; intro a Z
  refine s_ob Z (v := .pointer (some ⟨blkOf v1_l, oofOf v1_l + (i_2).toNat * 4, none⟩)) rfl rfl (by decide) rfl (Ob_sidx tTreeW rfl rfl rfl rfl (slPl (H.sl 2 rfl) hg1) hg1) ?_; clear Z a; intro a Z
  refine s_ob Z (v := .agg #[.int .i64 ((l.getD (i_2).toNat default).c), .string ((l.getD (i_2).toNat default).k), .string ((l.getD (i_2).toNat default).to_), .int .i64 ((l.getD (i_2).toNat default).v)]) rfl rfl (by decide) rfl (Ob_loads tTreeW rfl rfl rfl ((slFl (H.sl 2 rfl) hg1).part 0 rfl)) ?_; clear Z a; intro a Z
  refine h_alloc Z H (cl := [.int .i64 0, .string ByteArray.empty, .string ByteArray.empty, .int .i64 0]) (z := .agg #[.int .i64 0, .string ByteArray.empty, .string ByteArray.empty, .int .i64 0]) rfl rfl rfl (by decide) rfl (by kernel_rfl) rfl ?_; clear Z a H; intro a w4 b2 H Z
  refine h_store tTreeW Z H 0 rfl rfl rfl rfl rfl rfl rfl rfl rfl (one_cons rfl (one_cons rfl (one_cons rfl (one_cons rfl one_nil)))) (Nat.le_of_ble_eq_true rfl) rfl ?_; clear H; intro w5 H
  dsimp only [List.eraseIdx] at H
  refine s_end Z [0, 2, 3, 4, 5, 19, 20, 21, 22, 23, 26, 29, 30, 31, 32, 6] rfl ?_; clear Z; intro Z
  refine p_then (wp_seq (f_region Z ?_)); clear Z; intro Z
  refine s_runk tTreeW Z 1 rfl rfl ?_; clear Z a; intro a Z
  refine s_end Z [0, 2, 3, 4, 5, 19, 20, 21, 22, 23, 26, 29, 30, 31, 32, 6, 7] rfl ?_; clear Z; intro Z
  refine p_then ?_
  refine f_cut (fun a' w' => ∃ (ok : Bool) (x_2 : Bool) (t_2 : Etree_Tree_int) (x_3 : Eref15_Tree), Sl 143 [(0, v1_l), (2, .bool false), (3, .pointer (some ⟨g1, 0, none⟩)), (4, .pointer (some ⟨b1, 0, none⟩)), (5, .int .i64 i_2), (6, .pointer (some ⟨b2, 0, none⟩)), (7, .bool ok), (19, .int .i64 i_2), (20, v1_l), (21, .int .i64 (l.length : Int)), (22, .bool (decide (i_2 < (l.length : Int)))), (23, .bool (decide (i_2 < (l.length : Int)))), (26, .bool ((decide (i_2 < (l.length : Int))) && (decide (i_2 < 60)))), (29, v1_l), (30, .int .i64 i_2), (31, .pointer (some ⟨blkOf v1_l, oofOf v1_l + (i_2).toNat * 4, none⟩)), (32, .agg #[.int .i64 ((l.getD (i_2).toNat default).c), .string ((l.getD (i_2).toNat default).k), .string ((l.getD (i_2).toNat default).to_), .int .i64 ((l.getD (i_2).toNat default).v)]), (33, .pointer (some ⟨b2, 0, none⟩)), (34, .int .i64 ((l.getD (i_2).toNat default).c)), (72, .bool x_2), (73, .bool (((l.getD (i_2).toNat default).c) == 0))] a' ∧ (∃ I2, Hf I D w I2 w' [OEtree_Tree_int g1 t_2, OEref15_Tree b1 x_3, BxC b2 40 [.int .i64 ((l.getD (i_2).toNat default).c), .string ((l.getD (i_2).toNat default).k), .string ((l.getD (i_2).toNat default).to_), .int .i64 ((l.getD (i_2).toNat default).v)], SlC NElaw15_Act v1_l l]) ∧ F_law15_TreePlays_k2 i_2 rc ok x_2 t_2 x_3 = some rr) ?_ ?_
  ·rintro a w6 ⟨ok, x_2, t_2, x_3, Z, ⟨I3, H⟩, hF⟩
   unfold F_law15_TreePlays_k2 at hF
   try dsimp only at hF
   refine wp_seq ?_
   obtain ⟨v3, H⟩ := H.openX 1 rfl
   replace H : Hf I D w I3 w6 [BxC b1 38 [v3], OwC NEref15_Row 60 v3 x_3.l, OEtree_Tree_int g1 t_2, BxC b2 40 [.int .i64 ((l.getD (i_2).toNat default).c), .string ((l.getD (i_2).toNat default).k), .string ((l.getD (i_2).toNat default).to_), .int .i64 ((l.getD (i_2).toNat default).v)], SlC NElaw15_Act v1_l l] := H
   obtain ⟨l_2, hx2, hF⟩ := bnd_in hF
   refine f_regionL Z (by kernel_rfl) (by kernel_rfl) (by decide) (by decide) [4] [(0, 0, 0), (1, 0, 0), (3, 0, 0), (7, 0, 0), (15, 0, 0), (7, 0, 1), (39, 0, 1), (103, 0, 1), (231, 0, 1), (487, 0, 1), (1023, 1, 1), (2047, 1, 1)] (by kernel_rfl) (fun jj vv => match jj with | 0 => vv = .bool ok | 1 => vv = .bool !ok | 2 => vv = .bool !ok | 3 => vv = cond (!!ok) (.pointer (some ⟨g1, 0, none⟩)) undef | 4 => vv = cond (!!ok) (.int .i64 l_2) undef | 5 => vv = cond (!!ok) (.pointer (some ⟨b1, 0, none⟩)) undef | 6 => vv = cond (!!ok) (.pointer (some ⟨b1, 0, none⟩)) undef | 7 => vv = cond (!!ok) (.pointer (some ⟨b1, 0, none⟩)) undef | 8 => vv = cond (!!ok) (v3) undef | 9 => vv = cond (!!ok) (.int .i64 (x_3.l.length : Int)) undef | 10 => vv = cond (!!ok) (.bool (l_2 != (x_3.l.length : Int))) undef | 11 => vv = .bool (!ok || (l_2 != (x_3.l.length : Int))) | _ => True) (fun ss vals1 xw => match ss with | 0 => Gx I D w I3 w6 xw [BxC b1 38 [v3], OwC NEref15_Row 60 v3 x_3.l, OEtree_Tree_int g1 t_2, BxC b2 40 [.int .i64 ((l.getD (i_2).toNat default).c), .string ((l.getD (i_2).toNat default).k), .string ((l.getD (i_2).toNat default).to_), .int .i64 ((l.getD (i_2).toNat default).v)], SlC NElaw15_Act v1_l l] | _ => Gx I D w I3 w6 xw [OEtree_Tree_int g1 t_2, BxC b1 38 [v3], OwC NEref15_Row 60 v3 x_3.l, BxC b2 40 [.int .i64 ((l.getD (i_2).toNat default).c), .string ((l.getD (i_2).toNat default).k), .string ((l.getD (i_2).toNat default).to_), .int .i64 ((l.getD (i_2).toNat default).v)], SlC NElaw15_Act v1_l l]) (fun _ => Gx.start H) ?_ ?_
   ·intro fr hfr hfe
    refine .cons (fun ss hlo hhi vals1 xw hG hV => ?_) ?_
    ·obtain rfl : ss = 0 := Nat.le_antisymm hhi hlo
     rw [← hfe]
     have hS := (hfr vals1).sub (ts := [7]) (S' := [(7, .bool ok)]) rfl
     exact L_val hS rfl (Ob_c tTreeW rfl) ⟨rfl, hG⟩
    refine .cons (fun ss hlo hhi vals1 xw hG hV => ?_) ?_
    ·obtain rfl : ss = 0 := Nat.le_antisymm hhi hlo
     rw [← hfe]
     have hS := (hfr vals1).sub (ts := [123]) (S' := [(123, vals1 0)]) rfl
     replace hS := hS.conv (t := 123) rfl (show (vals1 0) = .bool ok from hV 0 (by decide))
     exact L_val hS rfl (Ob_c tTreeW rfl) ⟨rfl, hG⟩
    refine .cons (fun ss hlo hhi vals1 xw hG hV => ?_) ?_
    ·obtain rfl : ss = 0 := Nat.le_antisymm hhi hlo
     rw [← hfe]
     have hS := (hfr vals1).sub (ts := [124]) (S' := [(124, vals1 1)]) rfl
     replace hS := hS.conv (t := 124) rfl (show (vals1 1) = .bool !ok from hV 1 (by decide))
     exact L_val hS rfl (Ob_c tTreeW rfl) ⟨rfl, hG⟩
    refine .cons (fun ss hlo hhi vals1 xw hG hV => ?_) ?_
    ·obtain rfl : ss = 0 := Nat.le_antisymm hhi hlo
     rw [← hfe]
     have hS := (hfr vals1).sub (ts := [125, 3]) (S' := [(125, vals1 2), (3, .pointer (some ⟨g1, 0, none⟩))]) rfl
     replace hS := hS.conv (t := 125) rfl (show (vals1 2) = .bool !ok from hV 2 (by decide))
     refine L_gw (p := (!!ok)) hS rfl rfl rfl (wantB_f _) (fun hp => ?_) (fun hp => ⟨by rw [hp]; rfl, hG⟩)
     exact L_val hS rfl (Ob_c tTreeW rfl) ⟨(by rw [hp]; rfl), hG⟩
    refine .cons (fun ss hlo hhi vals1 xw hG hV => ?_) ?_
    ·obtain rfl : ss = 0 := Nat.le_antisymm hhi hlo
     rw [← hfe]
     have hS := (hfr vals1).sub (ts := [126, 125]) (S' := [(126, vals1 3), (125, vals1 2)]) rfl
     replace hS := hS.conv (t := 126) rfl (show (vals1 3) = cond (!!ok) (.pointer (some ⟨g1, 0, none⟩)) undef from hV 3 (by decide))
     replace hS := hS.conv (t := 125) rfl (show (vals1 2) = .bool !ok from hV 2 (by decide))
     refine L_gw (p := (!!ok)) hS rfl rfl rfl (wantB_f _) (fun hp => ?_) (fun hp => ⟨by rw [hp]; rfl, ?_⟩)
     ·obtain ⟨I2, hI2, H⟩ := Gx.ex hG
      replace hS := hS.conv (t := 126) rfl (cond_t hp)
      refine L_hcall H (js := [(2, false)]) rfl (caps := #[]) hS fn_10_YTreeW rfl rfl rfl rfl rfl (fun D1 hS => have hq := c_tree_Tree_int_Len (gif_in hx2 hp) hS; hq) fun _ yw D1 hr hF2 => ?_
      obtain ⟨rfl, I3, K⟩ := hr
      obtain ⟨hK, H2⟩ := hF2 K
      exact ⟨by rw [hp]; rfl, by first | (rw [hp]; exact Gx.go hG hI2 hK K.imm H2) | exact Gx.go hG hI2 hK K.imm H2⟩
     ·(try rw [hp]); obtain ⟨I2, hI2, H⟩ := Gx.ex hG; exact Gx.go hG hI2 (Keep.refl _ _) (fun _ h => h) (H.sub [(2, false), (0, false), (0, false), (0, false), (0, true)] rfl)
    refine .cons (fun ss hlo hhi vals1 xw hG hV => ?_) ?_
    ·obtain rfl | rfl : ss = 0 ∨ ss = 1 := st1 hlo hhi
     all_goals
     ·rw [← hfe]
      have hS := (hfr vals1).sub (ts := [125, 4]) (S' := [(125, vals1 2), (4, .pointer (some ⟨b1, 0, none⟩))]) rfl
      replace hS := hS.conv (t := 125) rfl (show (vals1 2) = .bool !ok from hV 2 (by decide))
      refine L_gw (p := (!!ok)) hS rfl rfl rfl (wantB_f _) (fun hp => ?_) (fun hp => ⟨by rw [hp]; rfl, hG⟩)
      exact L_val hS rfl (Ob_c tTreeW rfl) ⟨(by rw [hp]; rfl), hG⟩
    refine .cons (fun ss hlo hhi vals1 xw hG hV => ?_) ?_
    ·obtain rfl | rfl : ss = 0 ∨ ss = 1 := st1 hlo hhi
     all_goals
     ·rw [← hfe]
      have hS := (hfr vals1).sub (ts := [128, 125]) (S' := [(128, vals1 5), (125, vals1 2)]) rfl
      replace hS := hS.conv (t := 128) rfl (show (vals1 5) = cond (!!ok) (.pointer (some ⟨b1, 0, none⟩)) undef from hV 5 (by decide))
      replace hS := hS.conv (t := 125) rfl (show (vals1 2) = .bool !ok from hV 2 (by decide))
      refine L_gw (p := (!!ok)) hS rfl rfl rfl (wantB_f _) (fun hp => ?_) (fun hp => ⟨by rw [hp]; rfl, hG⟩)
      replace hS := hS.conv (t := 128) rfl (cond_t hp)
      exact L_val hS rfl (Ob_c tTreeW rfl) ⟨(by rw [hp]; rfl), hG⟩
    refine .cons (fun ss hlo hhi vals1 xw hG hV => ?_) ?_
    ·obtain rfl | rfl : ss = 0 ∨ ss = 1 := st1 hlo hhi
     all_goals
     ·rw [← hfe]
      have hS := (hfr vals1).sub (ts := [129, 125]) (S' := [(129, vals1 6), (125, vals1 2)]) rfl
      replace hS := hS.conv (t := 129) rfl (show (vals1 6) = cond (!!ok) (.pointer (some ⟨b1, 0, none⟩)) undef from hV 6 (by decide))
      replace hS := hS.conv (t := 125) rfl (show (vals1 2) = .bool !ok from hV 2 (by decide))
      refine L_gw (p := (!!ok)) hS rfl rfl rfl (wantB_f _) (fun hp => ?_) (fun hp => ⟨by rw [hp]; rfl, hG⟩)
      replace hS := hS.conv (t := 129) rfl (cond_t hp)
      exact L_val hS rfl (Ob_c tTreeW rfl) ⟨(by rw [hp]; rfl), hG⟩
    refine .cons (fun ss hlo hhi vals1 xw hG hV => ?_) ?_
    ·obtain rfl | rfl : ss = 0 ∨ ss = 1 := st1 hlo hhi
     ·rw [← hfe]
      have hS := (hfr vals1).sub (ts := [130, 125]) (S' := [(130, vals1 7), (125, vals1 2)]) rfl
      replace hS := hS.conv (t := 130) rfl (show (vals1 7) = cond (!!ok) (.pointer (some ⟨b1, 0, none⟩)) undef from hV 7 (by decide))
      replace hS := hS.conv (t := 125) rfl (show (vals1 2) = .bool !ok from hV 2 (by decide))
      refine L_gw (p := (!!ok)) hS rfl rfl rfl (wantB_f _) (fun hp => ?_) (fun hp => ⟨by rw [hp]; rfl, hG⟩)
      replace hS := hS.conv (t := 130) rfl (cond_t hp)
      obtain ⟨I2, hI2, H⟩ := Gx.ex hG
      exact L_val hS rfl (Ob_load tTreeW rfl rfl rfl ((H.bx 0 rfl).cell 0 rfl)) ⟨(by rw [hp]; rfl), hG⟩
     ·rw [← hfe]
      have hS := (hfr vals1).sub (ts := [130, 125]) (S' := [(130, vals1 7), (125, vals1 2)]) rfl
      replace hS := hS.conv (t := 130) rfl (show (vals1 7) = cond (!!ok) (.pointer (some ⟨b1, 0, none⟩)) undef from hV 7 (by decide))
      replace hS := hS.conv (t := 125) rfl (show (vals1 2) = .bool !ok from hV 2 (by decide))
      refine L_gw (p := (!!ok)) hS rfl rfl rfl (wantB_f _) (fun hp => ?_) (fun hp => ⟨by rw [hp]; rfl, hG⟩)
      replace hS := hS.conv (t := 130) rfl (cond_t hp)
      obtain ⟨I2, hI2, H⟩ := Gx.ex hG
      exact L_val hS rfl (Ob_load tTreeW rfl rfl rfl ((H.bx 1 rfl).cell 0 rfl)) ⟨(by rw [hp]; rfl), hG⟩
    refine .cons (fun ss hlo hhi vals1 xw hG hV => ?_) ?_
    ·obtain rfl | rfl : ss = 0 ∨ ss = 1 := st1 hlo hhi
     ·rw [← hfe]
      have hS := (hfr vals1).sub (ts := [131, 125]) (S' := [(131, vals1 8), (125, vals1 2)]) rfl
      replace hS := hS.conv (t := 131) rfl (show (vals1 8) = cond (!!ok) (v3) undef from hV 8 (by decide))
      replace hS := hS.conv (t := 125) rfl (show (vals1 2) = .bool !ok from hV 2 (by decide))
      refine L_gw (p := (!!ok)) hS rfl rfl rfl (wantB_f _) (fun hp => ?_) (fun hp => ⟨by rw [hp]; rfl, hG⟩)
      replace hS := hS.conv (t := 131) rfl (cond_t hp)
      obtain ⟨I2, hI2, H⟩ := Gx.ex hG
      exact L_val hS rfl (Ob_slen tTreeW rfl rfl rfl (H.owshape 1 rfl)) ⟨(by rw [hp]; rfl), hG⟩
     ·rw [← hfe]
      have hS := (hfr vals1).sub (ts := [131, 125]) (S' := [(131, vals1 8), (125, vals1 2)]) rfl
      replace hS := hS.conv (t := 131) rfl (show (vals1 8) = cond (!!ok) (v3) undef from hV 8 (by decide))
      replace hS := hS.conv (t := 125) rfl (show (vals1 2) = .bool !ok from hV 2 (by decide))
      refine L_gw (p := (!!ok)) hS rfl rfl rfl (wantB_f _) (fun hp => ?_) (fun hp => ⟨by rw [hp]; rfl, hG⟩)
      replace hS := hS.conv (t := 131) rfl (cond_t hp)
      obtain ⟨I2, hI2, H⟩ := Gx.ex hG
      exact L_val hS rfl (Ob_slen tTreeW rfl rfl rfl (H.owshape 2 rfl)) ⟨(by rw [hp]; rfl), hG⟩
    refine .cons (fun ss hlo hhi vals1 xw hG hV => ?_) ?_
    ·obtain rfl : ss = 1 := Nat.le_antisymm hhi hlo
     rw [← hfe]
     have hS := (hfr vals1).sub (ts := [127, 132, 125]) (S' := [(127, vals1 4), (132, vals1 9), (125, vals1 2)]) rfl
     replace hS := hS.conv (t := 127) rfl (show (vals1 4) = cond (!!ok) (.int .i64 l_2) undef from hV 4 (by decide))
     replace hS := hS.conv (t := 132) rfl (show (vals1 9) = cond (!!ok) (.int .i64 (x_3.l.length : Int)) undef from hV 9 (by decide))
     replace hS := hS.conv (t := 125) rfl (show (vals1 2) = .bool !ok from hV 2 (by decide))
     refine L_gw (p := (!!ok)) hS rfl rfl rfl (wantB_f _) (fun hp => ?_) (fun hp => ⟨by rw [hp]; rfl, hG⟩)
     replace hS := hS.conv (t := 127) rfl (cond_t hp)
     replace hS := hS.conv (t := 132) rfl (cond_t hp)
     exact L_val hS rfl (Ob_c tTreeW rfl) ⟨(by rw [hp]; rfl), hG⟩
    refine .cons (fun ss hlo hhi vals1 xw hG hV => ?_) ?_
    ·obtain rfl : ss = 1 := Nat.le_antisymm hhi hlo
     rw [← hfe]
     have hS := (hfr vals1).sub (ts := [125, 133]) (S' := [(125, vals1 2), (133, vals1 10)]) rfl
     replace hS := hS.conv (t := 125) rfl (show (vals1 2) = .bool !ok from hV 2 (by decide))
     replace hS := hS.conv (t := 133) rfl (show (vals1 10) = cond (!!ok) (.bool (l_2 != (x_3.l.length : Int))) undef from hV 10 (by decide))
     exact L_val hS rfl (Ob_pick rfl rfl rfl rfl (pick_or _ _)) ⟨rfl, hG⟩
    exact .nil
   ·intro vals1 a w7 Z hG hV
    replace Z := Z.sub (ts := [0, 2, 3, 4, 5, 6, 7, 19, 20, 21, 22, 23, 26, 29, 30, 31, 32, 33, 34, 72, 73, 123, 124, 125, 134]) (S' := [(0, v1_l), (2, .bool false), (3, .pointer (some ⟨g1, 0, none⟩)), (4, .pointer (some ⟨b1, 0, none⟩)), (5, .int .i64 i_2), (6, .pointer (some ⟨b2, 0, none⟩)), (7, .bool ok), (19, .int .i64 i_2), (20, v1_l), (21, .int .i64 (l.length : Int)), (22, .bool (decide (i_2 < (l.length : Int)))), (23, .bool (decide (i_2 < (l.length : Int)))), (26, .bool ((decide (i_2 < (l.length : Int))) && (decide (i_2 < 60)))), (29, v1_l), (30, .int .i64 i_2), (31, .pointer (some ⟨blkOf v1_l, oofOf v1_l + (i_2).toNat * 4, none⟩)), (32, .agg #[.int .i64 ((l.getD (i_2).toNat default).c), .string ((l.getD (i_2).toNat default).k), .string ((l.getD (i_2).toNat default).to_), .int .i64 ((l.getD (i_2).toNat default).v)]), (33, .pointer (some ⟨b2, 0, none⟩)), (34, .int .i64 ((l.getD (i_2).toNat default).c)), (72, .bool x_2), (73, .bool (((l.getD (i_2).toNat default).c) == 0)), (123, vals1 0), (124, vals1 1), (125, vals1 2), (134, vals1 11)]) rfl
    replace Z := Z.conv (t := 123) rfl (show (vals1 0) = .bool ok from hV 0 (by decide))
    replace Z := Z.conv (t := 124) rfl (show (vals1 1) = .bool !ok from hV 1 (by decide))
    replace Z := Z.conv (t := 125) rfl (show (vals1 2) = .bool !ok from hV 2 (by decide))
    replace Z := Z.conv (t := 134) rfl (show (vals1 11) = .bool (!ok || (l_2 != (x_3.l.length : Int))) from hV 11 (by decide))
    obtain ⟨I4, _, H⟩ := Gx.ex hG
    clear hG hV
    replace Z := Z.sub (ts := [0, 2, 3, 4, 5, 6, 7, 19, 20, 21, 22, 23, 26, 29, 30, 31, 32, 33, 34, 72, 73, 123, 124, 125, 134]) rfl
    replace H : Hf I D w I4 w7 [OEtree_Tree_int g1 t_2, BxC b1 38 [v3], OwC NEref15_Row 60 v3 x_3.l, BxC b2 40 [.int .i64 ((l.getD (i_2).toNat default).c), .string ((l.getD (i_2).toNat default).k), .string ((l.getD (i_2).toNat default).to_), .int .i64 ((l.getD (i_2).toNat default).v)], SlC NElaw15_Act v1_l l] := H
    refine p_then ?_
    refine f_cond Z rfl (fun hc2 => ?_) (fun hc2 => ?_)
    ·replace hF := ite_t hc2 hF
     refine wp_seq (f_region Z ?_); clear Z; intro Z
     refine s_runk tTreeW Z 1 rfl rfl ?_; clear Z a; intro a Z
     refine s_end Z [0, 2, 3, 4, 5, 6, 7, 19, 20, 21, 22, 23, 26, 29, 30, 31, 32, 33, 34, 72, 73, 123, 124, 125, 134] rfl ?_; clear Z; intro Z
     refine p_then (wp_ret ?_)
     refine p_blk_r ?_
     refine p_then_r ?_
     refine p_then_r ?_
     refine p_blk_r ?_
     refine p_then_r ?_
     obtain rfl := some_in hF
     exact f_ret Z (run_results1 rfl Z rfl) ⟨rfl, I4, (H.sub [] rfl).eq rfl⟩
    ·replace hF := ite_f hc2 hF
     refine wp_skip ?_
     refine p_blk ?_
     refine p_then ?_
     obtain ⟨hg2, hF⟩ := chk_in hF
     refine f_region Z ?_; clear Z; intro Z
     refine s_runk tTreeW Z 1 rfl rfl ?_; clear Z a; intro a Z
     refine s_ob Z (v := .int .i64 (i_2 + 1)) rfl rfl (by decide) rfl (Ob_add rfl rfl rfl (wrI hg2)) ?_; clear Z a; intro a Z
     refine s_runk tTreeW Z 1 rfl rfl ?_; clear Z a; intro a Z
     refine s_end Z [0, 2, 3, 4, 5, 6, 7, 19, 20, 21, 22, 23, 26, 29, 30, 31, 32, 33, 34, 72, 73, 123, 124, 125, 134, 27, 28] rfl ?_; clear Z; intro Z
     refine p_then ?_
     exact ⟨(i_2 + 1, t_2, x_3.l), ⟨v3, Z.sub (ts := [0, 2, 3, 4, 5]) rfl, ⟨I4, (H.sub [(0, false), (0, false), (2, true), (0, false)] rfl).eq rfl⟩⟩, hF⟩
  ·skip
   refine wp_seq (f_region Z ?_); clear Z; intro Z
   refine s_runk tTreeW Z 1 rfl rfl ?_; clear Z a; intro a Z
   refine s_ob Z (v := .int .i64 ((l.getD (i_2).toNat default).c)) rfl rfl (by decide) rfl (Ob_load tTreeW rfl rfl rfl ((H.bx 0 rfl).cell 0 rfl)) ?_; clear Z a; intro a Z
   refine s_end Z [0, 2, 3, 4, 5, 19, 20, 21, 22, 23, 26, 29, 30, 31, 32, 6, 7, 33, 34] rfl ?_; clear Z; intro Z
   refine p_then (wp_block ?_)
   refine f_cut (fun a' w' => ∃ (x_4 : Bool), Sl 143 [(0, v1_l), (2, .bool false), (3, .pointer (some ⟨g1, 0, none⟩)), (4, .pointer (some ⟨b1, 0, none⟩)), (5, .int .i64 i_2), (6, .pointer (some ⟨b2, 0, none⟩)), (7, .bool true), (19, .int .i64 i_2), (20, v1_l), (21, .int .i64 (l.length : Int)), (22, .bool (decide (i_2 < (l.length : Int)))), (23, .bool (decide (i_2 < (l.length : Int)))), (26, .bool ((decide (i_2 < (l.length : Int))) && (decide (i_2 < 60)))), (29, v1_l), (30, .int .i64 i_2), (31, .pointer (some ⟨blkOf v1_l, oofOf v1_l + (i_2).toNat * 4, none⟩)), (32, .agg #[.int .i64 ((l.getD (i_2).toNat default).c), .string ((l.getD (i_2).toNat default).k), .string ((l.getD (i_2).toNat default).to_), .int .i64 ((l.getD (i_2).toNat default).v)]), (33, .pointer (some ⟨b2, 0, none⟩)), (34, .int .i64 ((l.getD (i_2).toNat default).c)), (72, .bool x_4), (73, .bool (((l.getD (i_2).toNat default).c) == 0))] a' ∧ (∃ I2, Hf I D w I2 w' [OEtree_Tree_int g1 t, BxC b1 38 [v2], BxC b2 40 [.int .i64 ((l.getD (i_2).toNat default).c), .string ((l.getD (i_2).toNat default).k), .string ((l.getD (i_2).toNat default).to_), .int .i64 ((l.getD (i_2).toNat default).v)], SlC NElaw15_Act v1_l l, OwC NEref15_Row 60 v2 x]) ∧ F_law15_TreePlays_k3 l i_2 t x rc x_4 = some rr) ?_ ?_
   ·rintro a w8 ⟨x_4, Z, ⟨I5, H⟩, hF⟩
    unfold F_law15_TreePlays_k3 at hF
    try dsimp only at hF
    refine f_cond Z rfl (fun hc3 => ?_) (fun hc3 => ?_)
    ·replace hF := ite_t hc3 hF
     replace H : Hf I D w I5 w8 [OEref15_Tree b1 ({ l := x } : Eref15_Tree), OEtree_Tree_int g1 t, BxC b2 40 [.int .i64 ((l.getD (i_2).toNat default).c), .string ((l.getD (i_2).toNat default).k), .string ((l.getD (i_2).toNat default).to_), .int .i64 ((l.getD (i_2).toNat default).v)], SlC NElaw15_Act v1_l l] := H.shutX (v2) [(1, false), (3, false)] rfl
     obtain ⟨p, hx3, hF⟩ := bnd_in hF
     obtain ⟨p_2, hx4, hF⟩ := bnd_in hF
     refine f_regionL Z (by kernel_rfl) (by kernel_rfl) (by decide) (by decide) [5, 11] [(0, 0, 0), (0, 0, 0), (2, 0, 0), (0, 0, 0), (8, 0, 0), (31, 0, 0), (0, 0, 1), (0, 0, 1), (128, 0, 1), (0, 0, 1), (512, 0, 1), (2047, 1, 1), (4095, 2, 2), (8191, 2, 2)] (by kernel_rfl) (fun jj vv => cond (Nat.blt jj 7) (cond (Nat.blt jj 3) (cond (Nat.blt jj 1) (vv = .pointer (some ⟨g1, 0, none⟩)) (cond (Nat.blt jj 2) (vv = .pointer (some ⟨b2, 1, none⟩)) (vv = .string ((l.getD (i_2).toNat default).k)))) (cond (Nat.blt jj 5) (cond (Nat.blt jj 4) (vv = .pointer (some ⟨b2, 3, none⟩)) (vv = .int .i64 ((l.getD (i_2).toNat default).v))) (cond (Nat.blt jj 6) (vv = .bool p.1) (vv = .pointer (some ⟨b1, 0, none⟩))))) (cond (Nat.blt jj 10) (cond (Nat.blt jj 8) (vv = .pointer (some ⟨b2, 1, none⟩)) (cond (Nat.blt jj 9) (vv = .string ((l.getD (i_2).toNat default).k)) (vv = .pointer (some ⟨b2, 3, none⟩)))) (cond (Nat.blt jj 12) (cond (Nat.blt jj 11) (vv = .int .i64 ((l.getD (i_2).toNat default).v)) (vv = .bool p_2.1)) (cond (Nat.blt jj 13) (vv = .bool (p.1 == p_2.1)) (vv = .bool (p.1 == p_2.1)))))) (fun ss vals2 xw => match ss with | 0 => Gx I D w I5 w8 xw [OEref15_Tree b1 ({ l := x } : Eref15_Tree), OEtree_Tree_int g1 t, BxC b2 40 [.int .i64 ((l.getD (i_2).toNat default).c), .string ((l.getD (i_2).toNat default).k), .string ((l.getD (i_2).toNat default).to_), .int .i64 ((l.getD (i_2).toNat default).v)], SlC NElaw15_Act v1_l l] | 1 => Gx I D w I5 w8 xw [OEtree_Tree_int g1 p.2, OEref15_Tree b1 ({ l := x } : Eref15_Tree), BxC b2 40 [.int .i64 ((l.getD (i_2).toNat default).c), .string ((l.getD (i_2).toNat default).k), .string ((l.getD (i_2).toNat default).to_), .int .i64 ((l.getD (i_2).toNat default).v)], SlC NElaw15_Act v1_l l] | _ => Gx I D w I5 w8 xw [OEref15_Tree b1 p_2.2, OEtree_Tree_int g1 p.2, BxC b2 40 [.int .i64 ((l.getD (i_2).toNat default).c), .string ((l.getD (i_2).toNat default).k), .string ((l.getD (i_2).toNat default).to_), .int .i64 ((l.getD (i_2).toNat default).v)], SlC NElaw15_Act v1_l l]) (fun _ => Gx.start H) ?_ ?_
     ·intro fr hfr hfe
      refine .cons (fun ss hlo hhi vals2 xw hG hV => ?_) ?_
      ·obtain rfl : ss = 0 := Nat.le_antisymm hhi hlo
       rw [← hfe]
       have hS := (hfr vals2).sub (ts := [3]) (S' := [(3, .pointer (some ⟨g1, 0, none⟩))]) rfl
       exact L_val hS rfl (Ob_c tTreeW rfl) ⟨rfl, hG⟩
      refine .cons (fun ss hlo hhi vals2 xw hG hV => ?_) ?_
      ·obtain rfl : ss = 0 := Nat.le_antisymm hhi hlo
       rw [← hfe]
       have hS := (hfr vals2).sub (ts := [6]) (S' := [(6, .pointer (some ⟨b2, 0, none⟩))]) rfl
       exact L_val hS rfl (Ob_c tTreeW rfl) ⟨rfl, hG⟩
      refine .cons (fun ss hlo hhi vals2 xw hG hV => ?_) ?_
      ·obtain rfl : ss = 0 := Nat.le_antisymm hhi hlo
       rw [← hfe]
       have hS := (hfr vals2).sub (ts := [76]) (S' := [(76, vals2 1)]) rfl
       replace hS := hS.conv (t := 76) rfl (show (vals2 1) = .pointer (some ⟨b2, 1, none⟩) from hV 1 (by decide))
       obtain ⟨I2, hI2, H⟩ := Gx.ex hG
       exact L_val hS rfl (Ob_load tTreeW rfl rfl rfl ((H.bx 2 rfl).cell 1 rfl)) ⟨rfl, hG⟩
      refine .cons (fun ss hlo hhi vals2 xw hG hV => ?_) ?_
      ·obtain rfl : ss = 0 := Nat.le_antisymm hhi hlo
       rw [← hfe]
       have hS := (hfr vals2).sub (ts := [6]) (S' := [(6, .pointer (some ⟨b2, 0, none⟩))]) rfl
       exact L_val hS rfl (Ob_c tTreeW rfl) ⟨rfl, hG⟩
      refine .cons (fun ss hlo hhi vals2 xw hG hV => ?_) ?_
      ·obtain rfl : ss = 0 := Nat.le_antisymm hhi hlo
       rw [← hfe]
       have hS := (hfr vals2).sub (ts := [78]) (S' := [(78, vals2 3)]) rfl
       replace hS := hS.conv (t := 78) rfl (show (vals2 3) = .pointer (some ⟨b2, 3, none⟩) from hV 3 (by decide))
       obtain ⟨I2, hI2, H⟩ := Gx.ex hG
       exact L_val hS rfl (Ob_load tTreeW rfl rfl rfl ((H.bx 2 rfl).cell 3 rfl)) ⟨rfl, hG⟩
      refine .cons (fun ss hlo hhi vals2 xw hG hV => ?_) ?_
      ·obtain rfl : ss = 0 := Nat.le_antisymm hhi hlo
       rw [← hfe]
       have hS := (hfr vals2).sub (ts := [75, 77, 79]) (S' := [(75, vals2 0), (77, vals2 2), (79, vals2 4)]) rfl
       replace hS := hS.conv (t := 75) rfl (show (vals2 0) = .pointer (some ⟨g1, 0, none⟩) from hV 0 (by decide))
       replace hS := hS.conv (t := 77) rfl (show (vals2 2) = .string ((l.getD (i_2).toNat default).k) from hV 2 (by decide))
       replace hS := hS.conv (t := 79) rfl (show (vals2 4) = .int .i64 ((l.getD (i_2).toNat default).v) from hV 4 (by decide))
       obtain ⟨I2, hI2, H⟩ := Gx.ex hG
       refine L_hcall H (js := [(1, false)]) rfl (caps := #[]) hS fn_8_YTreeW rfl rfl rfl rfl rfl (fun D1 hS => have hq := c_tree_Tree_int_Put hx3 hS; hq) fun _ yw D1 hr hF2 => ?_
       obtain ⟨rfl, I3, K⟩ := hr
       obtain ⟨hK, H2⟩ := hF2 K
       exact ⟨rfl, Gx.go hG hI2 hK K.imm H2⟩
      refine .cons (fun ss hlo hhi vals2 xw hG hV => ?_) ?_
      ·obtain rfl | rfl : ss = 0 ∨ ss = 1 := st1 hlo hhi
       all_goals
       ·rw [← hfe]
        have hS := (hfr vals2).sub (ts := [4]) (S' := [(4, .pointer (some ⟨b1, 0, none⟩))]) rfl
        exact L_val hS rfl (Ob_c tTreeW rfl) ⟨rfl, hG⟩
      refine .cons (fun ss hlo hhi vals2 xw hG hV => ?_) ?_
      ·obtain rfl | rfl : ss = 0 ∨ ss = 1 := st1 hlo hhi
       all_goals
       ·rw [← hfe]
        have hS := (hfr vals2).sub (ts := [6]) (S' := [(6, .pointer (some ⟨b2, 0, none⟩))]) rfl
        exact L_val hS rfl (Ob_c tTreeW rfl) ⟨rfl, hG⟩
      refine .cons (fun ss hlo hhi vals2 xw hG hV => ?_) ?_
      ·obtain rfl | rfl : ss = 0 ∨ ss = 1 := st1 hlo hhi
       all_goals
       ·rw [← hfe]
        have hS := (hfr vals2).sub (ts := [82]) (S' := [(82, vals2 7)]) rfl
        replace hS := hS.conv (t := 82) rfl (show (vals2 7) = .pointer (some ⟨b2, 1, none⟩) from hV 7 (by decide))
        obtain ⟨I2, hI2, H⟩ := Gx.ex hG
        exact L_val hS rfl (Ob_load tTreeW rfl rfl rfl ((H.bx 2 rfl).cell 1 rfl)) ⟨rfl, hG⟩
      refine .cons (fun ss hlo hhi vals2 xw hG hV => ?_) ?_
      ·obtain rfl | rfl : ss = 0 ∨ ss = 1 := st1 hlo hhi
       all_goals
       ·rw [← hfe]
        have hS := (hfr vals2).sub (ts := [6]) (S' := [(6, .pointer (some ⟨b2, 0, none⟩))]) rfl
        exact L_val hS rfl (Ob_c tTreeW rfl) ⟨rfl, hG⟩
      refine .cons (fun ss hlo hhi vals2 xw hG hV => ?_) ?_
      ·obtain rfl | rfl : ss = 0 ∨ ss = 1 := st1 hlo hhi
       all_goals
       ·rw [← hfe]
        have hS := (hfr vals2).sub (ts := [84]) (S' := [(84, vals2 9)]) rfl
        replace hS := hS.conv (t := 84) rfl (show (vals2 9) = .pointer (some ⟨b2, 3, none⟩) from hV 9 (by decide))
        obtain ⟨I2, hI2, H⟩ := Gx.ex hG
        exact L_val hS rfl (Ob_load tTreeW rfl rfl rfl ((H.bx 2 rfl).cell 3 rfl)) ⟨rfl, hG⟩
      refine .cons (fun ss hlo hhi vals2 xw hG hV => ?_) ?_
      ·obtain rfl : ss = 1 := Nat.le_antisymm hhi hlo
       rw [← hfe]
       have hS := (hfr vals2).sub (ts := [81, 83, 85]) (S' := [(81, vals2 6), (83, vals2 8), (85, vals2 10)]) rfl
       replace hS := hS.conv (t := 81) rfl (show (vals2 6) = .pointer (some ⟨b1, 0, none⟩) from hV 6 (by decide))
       replace hS := hS.conv (t := 83) rfl (show (vals2 8) = .string ((l.getD (i_2).toNat default).k) from hV 8 (by decide))
       replace hS := hS.conv (t := 85) rfl (show (vals2 10) = .int .i64 ((l.getD (i_2).toNat default).v) from hV 10 (by decide))
       obtain ⟨I2, hI2, H⟩ := Gx.ex hG
       refine L_hcall H (js := [(1, false)]) rfl (caps := #[]) hS fn_15_YTreeW rfl rfl rfl rfl rfl (fun D1 hS => have hq := c_ref15_Tree_Put hx4 hS; hq) fun _ yw D1 hr hF2 => ?_
       obtain ⟨rfl, I3, K⟩ := hr
       obtain ⟨hK, H2⟩ := hF2 K
       exact ⟨rfl, Gx.go hG hI2 hK K.imm H2⟩
      refine .cons (fun ss hlo hhi vals2 xw hG hV => ?_) ?_
      ·obtain rfl : ss = 2 := Nat.le_antisymm hhi hlo
       rw [← hfe]
       have hS := (hfr vals2).sub (ts := [80, 86]) (S' := [(80, vals2 5), (86, vals2 11)]) rfl
       replace hS := hS.conv (t := 80) rfl (show (vals2 5) = .bool p.1 from hV 5 (by decide))
       replace hS := hS.conv (t := 86) rfl (show (vals2 11) = .bool p_2.1 from hV 11 (by decide))
       exact L_val hS rfl (Ob_c tTreeW rfl) ⟨rfl, hG⟩
      refine .cons (fun ss hlo hhi vals2 xw hG hV => ?_) ?_
      ·obtain rfl : ss = 2 := Nat.le_antisymm hhi hlo
       rw [← hfe]
       have hS := (hfr vals2).sub (ts := [87]) (S' := [(87, vals2 12)]) rfl
       replace hS := hS.conv (t := 87) rfl (show (vals2 12) = .bool (p.1 == p_2.1) from hV 12 (by decide))
       exact L_val hS rfl (Ob_c tTreeW rfl) ⟨rfl, hG⟩
      exact .nil
     ·intro vals2 a w9 Z hG hV
      replace Z := Z.sub (ts := [0, 2, 3, 4, 5, 6, 7, 19, 20, 21, 22, 23, 26, 29, 30, 31, 32, 33, 34, 72, 73, 75, 76, 77, 78, 79, 80, 81, 82, 83, 84, 85, 86, 87]) (S' := [(0, v1_l), (2, .bool false), (3, .pointer (some ⟨g1, 0, none⟩)), (4, .pointer (some ⟨b1, 0, none⟩)), (5, .int .i64 i_2), (6, .pointer (some ⟨b2, 0, none⟩)), (7, vals2 13), (19, .int .i64 i_2), (20, v1_l), (21, .int .i64 (l.length : Int)), (22, .bool (decide (i_2 < (l.length : Int)))), (23, .bool (decide (i_2 < (l.length : Int)))), (26, .bool ((decide (i_2 < (l.length : Int))) && (decide (i_2 < 60)))), (29, v1_l), (30, .int .i64 i_2), (31, .pointer (some ⟨blkOf v1_l, oofOf v1_l + (i_2).toNat * 4, none⟩)), (32, .agg #[.int .i64 ((l.getD (i_2).toNat default).c), .string ((l.getD (i_2).toNat default).k), .string ((l.getD (i_2).toNat default).to_), .int .i64 ((l.getD (i_2).toNat default).v)]), (33, .pointer (some ⟨b2, 0, none⟩)), (34, .int .i64 ((l.getD (i_2).toNat default).c)), (72, .bool x_4), (73, .bool (((l.getD (i_2).toNat default).c) == 0)), (75, vals2 0), (76, vals2 1), (77, vals2 2), (78, vals2 3), (79, vals2 4), (80, vals2 5), (81, vals2 6), (82, vals2 7), (83, vals2 8), (84, vals2 9), (85, vals2 10), (86, vals2 11), (87, vals2 12)]) rfl
      replace Z := Z.conv (t := 7) rfl (show (vals2 13) = .bool (p.1 == p_2.1) from hV 13 (by decide))
      replace Z := Z.conv (t := 75) rfl (show (vals2 0) = .pointer (some ⟨g1, 0, none⟩) from hV 0 (by decide))
      replace Z := Z.conv (t := 76) rfl (show (vals2 1) = .pointer (some ⟨b2, 1, none⟩) from hV 1 (by decide))
      replace Z := Z.conv (t := 77) rfl (show (vals2 2) = .string ((l.getD (i_2).toNat default).k) from hV 2 (by decide))
      replace Z := Z.conv (t := 78) rfl (show (vals2 3) = .pointer (some ⟨b2, 3, none⟩) from hV 3 (by decide))
      replace Z := Z.conv (t := 79) rfl (show (vals2 4) = .int .i64 ((l.getD (i_2).toNat default).v) from hV 4 (by decide))
      replace Z := Z.conv (t := 80) rfl (show (vals2 5) = .bool p.1 from hV 5 (by decide))
      replace Z := Z.conv (t := 81) rfl (show (vals2 6) = .pointer (some ⟨b1, 0, none⟩) from hV 6 (by decide))
      replace Z := Z.conv (t := 82) rfl (show (vals2 7) = .pointer (some ⟨b2, 1, none⟩) from hV 7 (by decide))
      replace Z := Z.conv (t := 83) rfl (show (vals2 8) = .string ((l.getD (i_2).toNat default).k) from hV 8 (by decide))
      replace Z := Z.conv (t := 84) rfl (show (vals2 9) = .pointer (some ⟨b2, 3, none⟩) from hV 9 (by decide))
      replace Z := Z.conv (t := 85) rfl (show (vals2 10) = .int .i64 ((l.getD (i_2).toNat default).v) from hV 10 (by decide))
      replace Z := Z.conv (t := 86) rfl (show (vals2 11) = .bool p_2.1 from hV 11 (by decide))
      replace Z := Z.conv (t := 87) rfl (show (vals2 12) = .bool (p.1 == p_2.1) from hV 12 (by decide))
      obtain ⟨I6, _, H⟩ := Gx.ex hG
      clear hG hV
      replace Z := Z.sub (ts := [0, 2, 3, 4, 5, 6, 7, 19, 20, 21, 22, 23, 26, 29, 30, 31, 32, 33, 34, 72, 73, 75, 76, 77, 78, 79, 80, 81, 82, 83, 84, 85, 86, 87]) rfl
      replace H : Hf I D w I6 w9 [OEref15_Tree b1 p_2.2, OEtree_Tree_int g1 p.2, BxC b2 40 [.int .i64 ((l.getD (i_2).toNat default).c), .string ((l.getD (i_2).toNat default).k), .string ((l.getD (i_2).toNat default).to_), .int .i64 ((l.getD (i_2).toNat default).v)], SlC NElaw15_Act v1_l l] := H
      refine p_blk ?_
      refine p_then ?_
      exact ⟨p.1 == p_2.1, x_4, p.2, p_2.2, Z.sub (ts := [0, 2, 3, 4, 5, 6, 7, 19, 20, 21, 22, 23, 26, 29, 30, 31, 32, 33, 34, 72, 73]) rfl, ⟨I6, (H.sub [(1, false), (0, false), (0, false), (0, true)] rfl).eq rfl⟩, hF⟩
    ·replace hF := ite_f hc3 hF
     refine wp_seq (f_region Z ?_); clear Z; intro Z
     refine s_runk tTreeW Z 2 rfl rfl ?_; clear Z a; intro a Z
     refine s_end Z [0, 2, 3, 4, 5, 6, 7, 19, 20, 21, 22, 23, 26, 29, 30, 31, 32, 33, 34, 72, 73, 89, 88] rfl ?_; clear Z; intro Z
     refine p_then ?_
     refine f_cond Z rfl (fun hc4 => ?_) (fun hc4 => ?_)
     ·replace hF := ite_t hc4 hF
      replace H : Hf I D w I5 w8 [OEref15_Tree b1 ({ l := x } : Eref15_Tree), OEtree_Tree_int g1 t, BxC b2 40 [.int .i64 ((l.getD (i_2).toNat default).c), .string ((l.getD (i_2).toNat default).k), .string ((l.getD (i_2).toNat default).to_), .int .i64 ((l.getD (i_2).toNat default).v)], SlC NElaw15_Act v1_l l] := H.shutX (v2) [(1, false), (3, false)] rfl
      obtain ⟨d, hx5, hF⟩ := bnd_in hF
      obtain ⟨d_2, hx6, hF⟩ := bnd_in hF
      refine f_regionL Z (by kernel_rfl) (by kernel_rfl) (by decide) (by decide) [3, 7] [(0, 0, 0), (0, 0, 0), (2, 0, 0), (7, 0, 0), (0, 0, 1), (0, 0, 1), (32, 0, 1), (127, 1, 1), (255, 2, 2), (511, 2, 2)] (by kernel_rfl) (fun jj vv => match jj with | 0 => vv = .pointer (some ⟨g1, 0, none⟩) | 1 => vv = .pointer (some ⟨b2, 1, none⟩) | 2 => vv = .string ((l.getD (i_2).toNat default).k) | 3 => vv = .bool d.1 | 4 => vv = .pointer (some ⟨b1, 0, none⟩) | 5 => vv = .pointer (some ⟨b2, 1, none⟩) | 6 => vv = .string ((l.getD (i_2).toNat default).k) | 7 => vv = .bool d_2.1 | 8 => vv = .bool (d.1 == d_2.1) | 9 => vv = .bool (d.1 == d_2.1) | _ => True) (fun ss vals3 xw => match ss with | 0 => Gx I D w I5 w8 xw [OEref15_Tree b1 ({ l := x } : Eref15_Tree), OEtree_Tree_int g1 t, BxC b2 40 [.int .i64 ((l.getD (i_2).toNat default).c), .string ((l.getD (i_2).toNat default).k), .string ((l.getD (i_2).toNat default).to_), .int .i64 ((l.getD (i_2).toNat default).v)], SlC NElaw15_Act v1_l l] | 1 => Gx I D w I5 w8 xw [OEtree_Tree_int g1 d.2, OEref15_Tree b1 ({ l := x } : Eref15_Tree), BxC b2 40 [.int .i64 ((l.getD (i_2).toNat default).c), .string ((l.getD (i_2).toNat default).k), .string ((l.getD (i_2).toNat default).to_), .int .i64 ((l.getD (i_2).toNat default).v)], SlC NElaw15_Act v1_l l] | _ => Gx I D w I5 w8 xw [OEref15_Tree b1 d_2.2, OEtree_Tree_int g1 d.2, BxC b2 40 [.int .i64 ((l.getD (i_2).toNat default).c), .string ((l.getD (i_2).toNat default).k), .string ((l.getD (i_2).toNat default).to_), .int .i64 ((l.getD (i_2).toNat default).v)], SlC NElaw15_Act v1_l l]) (fun _ => Gx.start H) ?_ ?_
      ·intro fr hfr hfe
       refine .cons (fun ss hlo hhi vals3 xw hG hV => ?_) ?_
       ·obtain rfl : ss = 0 := Nat.le_antisymm hhi hlo
        rw [← hfe]
        have hS := (hfr vals3).sub (ts := [3]) (S' := [(3, .pointer (some ⟨g1, 0, none⟩))]) rfl
        exact L_val hS rfl (Ob_c tTreeW rfl) ⟨rfl, hG⟩
       refine .cons (fun ss hlo hhi vals3 xw hG hV => ?_) ?_
       ·obtain rfl : ss = 0 := Nat.le_antisymm hhi hlo
        rw [← hfe]
        have hS := (hfr vals3).sub (ts := [6]) (S' := [(6, .pointer (some ⟨b2, 0, none⟩))]) rfl
        exact L_val hS rfl (Ob_c tTreeW rfl) ⟨rfl, hG⟩
       refine .cons (fun ss hlo hhi vals3 xw hG hV => ?_) ?_
       ·obtain rfl : ss = 0 := Nat.le_antisymm hhi hlo
        rw [← hfe]
        have hS := (hfr vals3).sub (ts := [91]) (S' := [(91, vals3 1)]) rfl
        replace hS := hS.conv (t := 91) rfl (show (vals3 1) = .pointer (some ⟨b2, 1, none⟩) from hV 1 (by decide))
        obtain ⟨I2, hI2, H⟩ := Gx.ex hG
        exact L_val hS rfl (Ob_load tTreeW rfl rfl rfl ((H.bx 2 rfl).cell 1 rfl)) ⟨rfl, hG⟩
       refine .cons (fun ss hlo hhi vals3 xw hG hV => ?_) ?_
       ·obtain rfl : ss = 0 := Nat.le_antisymm hhi hlo
        rw [← hfe]
        have hS := (hfr vals3).sub (ts := [90, 92]) (S' := [(90, vals3 0), (92, vals3 2)]) rfl
        replace hS := hS.conv (t := 90) rfl (show (vals3 0) = .pointer (some ⟨g1, 0, none⟩) from hV 0 (by decide))
        replace hS := hS.conv (t := 92) rfl (show (vals3 2) = .string ((l.getD (i_2).toNat default).k) from hV 2 (by decide))
        obtain ⟨I2, hI2, H⟩ := Gx.ex hG
        refine L_hcall H (js := [(1, false)]) rfl (caps := #[]) hS fn_16_YTreeW rfl rfl rfl rfl rfl (fun D1 hS => have hq := c_tree_Tree_int_Del hx5 hS; hq) fun _ yw D1 hr hF2 => ?_
        obtain ⟨rfl, I3, K⟩ := hr
        obtain ⟨hK, H2⟩ := hF2 K
        exact ⟨rfl, Gx.go hG hI2 hK K.imm H2⟩
       refine .cons (fun ss hlo hhi vals3 xw hG hV => ?_) ?_
       ·obtain rfl | rfl : ss = 0 ∨ ss = 1 := st1 hlo hhi
        all_goals
        ·rw [← hfe]
         have hS := (hfr vals3).sub (ts := [4]) (S' := [(4, .pointer (some ⟨b1, 0, none⟩))]) rfl
         exact L_val hS rfl (Ob_c tTreeW rfl) ⟨rfl, hG⟩
       refine .cons (fun ss hlo hhi vals3 xw hG hV => ?_) ?_
       ·obtain rfl | rfl : ss = 0 ∨ ss = 1 := st1 hlo hhi
        all_goals
        ·rw [← hfe]
         have hS := (hfr vals3).sub (ts := [6]) (S' := [(6, .pointer (some ⟨b2, 0, none⟩))]) rfl
         exact L_val hS rfl (Ob_c tTreeW rfl) ⟨rfl, hG⟩
       refine .cons (fun ss hlo hhi vals3 xw hG hV => ?_) ?_
       ·obtain rfl | rfl : ss = 0 ∨ ss = 1 := st1 hlo hhi
        all_goals
        ·rw [← hfe]
         have hS := (hfr vals3).sub (ts := [95]) (S' := [(95, vals3 5)]) rfl
         replace hS := hS.conv (t := 95) rfl (show (vals3 5) = .pointer (some ⟨b2, 1, none⟩) from hV 5 (by decide))
         obtain ⟨I2, hI2, H⟩ := Gx.ex hG
         exact L_val hS rfl (Ob_load tTreeW rfl rfl rfl ((H.bx 2 rfl).cell 1 rfl)) ⟨rfl, hG⟩
       refine .cons (fun ss hlo hhi vals3 xw hG hV => ?_) ?_
       ·obtain rfl : ss = 1 := Nat.le_antisymm hhi hlo
        rw [← hfe]
        have hS := (hfr vals3).sub (ts := [94, 96]) (S' := [(94, vals3 4), (96, vals3 6)]) rfl
        replace hS := hS.conv (t := 94) rfl (show (vals3 4) = .pointer (some ⟨b1, 0, none⟩) from hV 4 (by decide))
        replace hS := hS.conv (t := 96) rfl (show (vals3 6) = .string ((l.getD (i_2).toNat default).k) from hV 6 (by decide))
        obtain ⟨I2, hI2, H⟩ := Gx.ex hG
        refine L_hcall H (js := [(1, false)]) rfl (caps := #[]) hS fn_17_YTreeW rfl rfl rfl rfl rfl (fun D1 hS => have hq := c_ref15_Tree_Del hx6 hS; hq) fun _ yw D1 hr hF2 => ?_
        obtain ⟨rfl, I3, K⟩ := hr
        obtain ⟨hK, H2⟩ := hF2 K
        exact ⟨rfl, Gx.go hG hI2 hK K.imm H2⟩
       refine .cons (fun ss hlo hhi vals3 xw hG hV => ?_) ?_
       ·obtain rfl : ss = 2 := Nat.le_antisymm hhi hlo
        rw [← hfe]
        have hS := (hfr vals3).sub (ts := [93, 97]) (S' := [(93, vals3 3), (97, vals3 7)]) rfl
        replace hS := hS.conv (t := 93) rfl (show (vals3 3) = .bool d.1 from hV 3 (by decide))
        replace hS := hS.conv (t := 97) rfl (show (vals3 7) = .bool d_2.1 from hV 7 (by decide))
        exact L_val hS rfl (Ob_c tTreeW rfl) ⟨rfl, hG⟩
       refine .cons (fun ss hlo hhi vals3 xw hG hV => ?_) ?_
       ·obtain rfl : ss = 2 := Nat.le_antisymm hhi hlo
        rw [← hfe]
        have hS := (hfr vals3).sub (ts := [98]) (S' := [(98, vals3 8)]) rfl
        replace hS := hS.conv (t := 98) rfl (show (vals3 8) = .bool (d.1 == d_2.1) from hV 8 (by decide))
        exact L_val hS rfl (Ob_c tTreeW rfl) ⟨rfl, hG⟩
       exact .nil
      ·intro vals3 a w10 Z hG hV
       replace Z := Z.sub (ts := [0, 2, 3, 4, 5, 6, 7, 19, 20, 21, 22, 23, 26, 29, 30, 31, 32, 33, 34, 72, 73, 89, 88, 90, 91, 92, 93, 94, 95, 96, 97, 98]) (S' := [(0, v1_l), (2, .bool false), (3, .pointer (some ⟨g1, 0, none⟩)), (4, .pointer (some ⟨b1, 0, none⟩)), (5, .int .i64 i_2), (6, .pointer (some ⟨b2, 0, none⟩)), (7, vals3 9), (19, .int .i64 i_2), (20, v1_l), (21, .int .i64 (l.length : Int)), (22, .bool (decide (i_2 < (l.length : Int)))), (23, .bool (decide (i_2 < (l.length : Int)))), (26, .bool ((decide (i_2 < (l.length : Int))) && (decide (i_2 < 60)))), (29, v1_l), (30, .int .i64 i_2), (31, .pointer (some ⟨blkOf v1_l, oofOf v1_l + (i_2).toNat * 4, none⟩)), (32, .agg #[.int .i64 ((l.getD (i_2).toNat default).c), .string ((l.getD (i_2).toNat default).k), .string ((l.getD (i_2).toNat default).to_), .int .i64 ((l.getD (i_2).toNat default).v)]), (33, .pointer (some ⟨b2, 0, none⟩)), (34, .int .i64 ((l.getD (i_2).toNat default).c)), (72, .bool x_4), (73, .bool (((l.getD (i_2).toNat default).c) == 0)), (89, .bool (((l.getD (i_2).toNat default).c) == 2)), (88, .bool (((l.getD (i_2).toNat default).c) == 2)), (90, vals3 0), (91, vals3 1), (92, vals3 2), (93, vals3 3), (94, vals3 4), (95, vals3 5), (96, vals3 6), (97, vals3 7), (98, vals3 8)]) rfl
       replace Z := Z.conv (t := 7) rfl (show (vals3 9) = .bool (d.1 == d_2.1) from hV 9 (by decide))
       replace Z := Z.conv (t := 90) rfl (show (vals3 0) = .pointer (some ⟨g1, 0, none⟩) from hV 0 (by decide))
       replace Z := Z.conv (t := 91) rfl (show (vals3 1) = .pointer (some ⟨b2, 1, none⟩) from hV 1 (by decide))
       replace Z := Z.conv (t := 92) rfl (show (vals3 2) = .string ((l.getD (i_2).toNat default).k) from hV 2 (by decide))
       replace Z := Z.conv (t := 93) rfl (show (vals3 3) = .bool d.1 from hV 3 (by decide))
       replace Z := Z.conv (t := 94) rfl (show (vals3 4) = .pointer (some ⟨b1, 0, none⟩) from hV 4 (by decide))
       replace Z := Z.conv (t := 95) rfl (show (vals3 5) = .pointer (some ⟨b2, 1, none⟩) from hV 5 (by decide))
       replace Z := Z.conv (t := 96) rfl (show (vals3 6) = .string ((l.getD (i_2).toNat default).k) from hV 6 (by decide))
       replace Z := Z.conv (t := 97) rfl (show (vals3 7) = .bool d_2.1 from hV 7 (by decide))
       replace Z := Z.conv (t := 98) rfl (show (vals3 8) = .bool (d.1 == d_2.1) from hV 8 (by decide))
       obtain ⟨I7, _, H⟩ := Gx.ex hG
       clear hG hV
       replace Z := Z.sub (ts := [0, 2, 3, 4, 5, 6, 7, 19, 20, 21, 22, 23, 26, 29, 30, 31, 32, 33, 34, 72, 73, 89, 88, 90, 91, 92, 93, 94, 95, 96, 97, 98]) rfl
       replace H : Hf I D w I7 w10 [OEref15_Tree b1 d_2.2, OEtree_Tree_int g1 d.2, BxC b2 40 [.int .i64 ((l.getD (i_2).toNat default).c), .string ((l.getD (i_2).toNat default).k), .string ((l.getD (i_2).toNat default).to_), .int .i64 ((l.getD (i_2).toNat default).v)], SlC NElaw15_Act v1_l l] := H
       refine p_blk ?_
       refine p_then ?_
       exact ⟨d.1 == d_2.1, x_4, d.2, d_2.2, Z.sub (ts := [0, 2, 3, 4, 5, 6, 7, 19, 20, 21, 22, 23, 26, 29, 30, 31, 32, 33, 34, 72, 73]) rfl, ⟨I7, (H.sub [(1, false), (0, false), (0, false), (0, true)] rfl).eq rfl⟩, hF⟩
     ·replace hF := ite_f hc4 hF
      refine wp_seq (f_region Z ?_); clear Z; intro Z
      refine s_runk tTreeW Z 2 rfl rfl ?_; clear Z a; intro a Z
      refine s_end Z [0, 2, 3, 4, 5, 6, 7, 19, 20, 21, 22, 23, 26, 29, 30, 31, 32, 33, 34, 72, 73, 89, 88, 100, 99] rfl ?_; clear Z; intro Z
      refine p_then ?_
      refine f_cond Z rfl (fun hc5 => ?_) (fun hc5 => ?_)
      ·replace hF := ite_t hc5 hF
       refine wp_seq ?_
       obtain ⟨g, hx7, hF⟩ := bnd_in hF
       refine f_region Z ?_; clear Z; intro Z
       refine s_runk tTreeW Z 2 rfl rfl ?_; clear Z a; intro a Z
       refine s_ob Z (v := .string ((l.getD (i_2).toNat default).k)) rfl rfl (by decide) rfl (Ob_load tTreeW rfl rfl rfl ((H.bx 2 rfl).cell 1 rfl)) ?_; clear Z a; intro a Z
       refine h_call Z H (js := [(0, false)]) rfl (caps := #[]) fn_9_YTreeW rfl rfl rfl rfl rfl (by decide) rfl rfl (fun D1 hS => have hq := c_tree_Tree_int_Get hx7 hS; hq) ?_; clear Z a; intro vv a w11 D2 hr hF2 Z
       obtain ⟨rfl, I8, K⟩ := hr
       have H : Hf I D w I8 w11 [OEtree_Tree_int g1 t, BxC b1 38 [v2], BxC b2 40 [.int .i64 ((l.getD (i_2).toNat default).c), .string ((l.getD (i_2).toNat default).k), .string ((l.getD (i_2).toNat default).to_), .int .i64 ((l.getD (i_2).toNat default).v)], SlC NElaw15_Act v1_l l, OwC NEref15_Row 60 v2 x] := hF2 K
       clear hF2 K
       refine s_runk tTreeW Z 5 rfl rfl ?_; clear Z a; intro a Z
       refine s_end Z [0, 2, 3, 4, 5, 6, 7, 19, 20, 21, 22, 23, 26, 29, 30, 31, 32, 33, 34, 72, 73, 89, 88, 100, 99, 102, 103, 104, 105, 101, 106, 107, 8, 9] rfl ?_; clear Z; intro Z
       refine p_then (wp_seq ?_)
       obtain ⟨g_2, hx8, hF⟩ := bnd_in hF
       refine f_region Z ?_; clear Z; intro Z
       refine s_runk tTreeW Z 2 rfl rfl ?_; clear Z a; intro a Z
       refine s_ob Z (v := .string ((l.getD (i_2).toNat default).k)) rfl rfl (by decide) rfl (Ob_load tTreeW rfl rfl rfl ((H.bx 2 rfl).cell 1 rfl)) ?_; clear Z a; intro a Z
       replace H : Hf I D w I8 w11 [OEref15_Tree b1 ({ l := x } : Eref15_Tree), OEtree_Tree_int g1 t, BxC b2 40 [.int .i64 ((l.getD (i_2).toNat default).c), .string ((l.getD (i_2).toNat default).k), .string ((l.getD (i_2).toNat default).to_), .int .i64 ((l.getD (i_2).toNat default).v)], SlC NElaw15_Act v1_l l] := H.shutX (v2) [(1, false), (3, false)] rfl
       refine h_call Z H (js := [(0, false)]) rfl (caps := #[]) fn_18_YTreeW rfl rfl rfl rfl rfl (by decide) rfl rfl (fun D1 hS => have hq := c_ref15_Tree_Get hx8 hS; hq) ?_; clear Z a; intro vv a w12 D2 hr hF2 Z
       obtain ⟨rfl, I9, K⟩ := hr
       have H : Hf I D w I9 w12 [OEref15_Tree b1 ({ l := x } : Eref15_Tree), OEtree_Tree_int g1 t, BxC b2 40 [.int .i64 ((l.getD (i_2).toNat default).c), .string ((l.getD (i_2).toNat default).k), .string ((l.getD (i_2).toNat default).to_), .int .i64 ((l.getD (i_2).toNat default).v)], SlC NElaw15_Act v1_l l] := hF2 K
       clear hF2 K
       refine s_runk tTreeW Z 5 rfl rfl ?_; clear Z a; intro a Z
       refine s_end Z [0, 2, 3, 4, 5, 6, 7, 19, 20, 21, 22, 23, 26, 29, 30, 31, 32, 33, 34, 72, 73, 89, 88, 100, 99, 102, 103, 104, 105, 101, 106, 107, 8, 9, 109, 110, 111, 112, 108, 113, 114, 10, 11] rfl ?_; clear Z; intro Z
       refine p_then ?_
       refine f_region Z ?_; clear Z; intro Z
       refine s_runk tTreeW Z 4 rfl rfl ?_; clear Z a; intro a Z
       refine g_ob Z (p := (g.1 == g_2.1)) (v := .bool g.2) (S' := [(9, .bool g.2)]) rfl rfl rfl (wantB_t _) rfl (by decide) (fun hp hS => hS.sub (ts := [9]) rfl) (fun hp => Ob_c tTreeW rfl) ?_; clear Z a; intro a Z
       refine g_ob Z (p := (g.1 == g_2.1)) (v := .bool g_2.2) (S' := [(11, .bool g_2.2)]) rfl rfl rfl (wantB_t _) rfl (by decide) (fun hp hS => hS.sub (ts := [11]) rfl) (fun hp => Ob_c tTreeW rfl) ?_; clear Z a; intro a Z
       refine g_ob Z (p := (g.1 == g_2.1)) (v := .bool (g.2 == g_2.2)) (S' := [(119, .bool g.2), (120, .bool g_2.2)]) rfl rfl rfl (wantB_t _) rfl (by decide) (fun hp hS => ((hS.conv (t := 119) rfl (cond_t hp)).conv (t := 120) rfl (cond_t hp)).sub (ts := [119, 120]) rfl) (fun hp => Ob_c tTreeW rfl) ?_; clear Z a; intro a Z
       refine s_ob Z (v := .bool ((g.1 == g_2.1) && (g.2 == g_2.2))) rfl rfl (by decide) rfl (Ob_pick rfl rfl rfl rfl (pick_and _ _)) ?_; clear Z a; intro a Z
       refine s_runk tTreeW Z 1 rfl rfl ?_; clear Z a; intro a Z
       refine s_end Z [0, 2, 3, 4, 5, 6, 7, 19, 20, 21, 22, 23, 26, 29, 30, 31, 32, 33, 34, 72, 73, 89, 88, 100, 99, 102, 103, 104, 105, 101, 106, 107, 8, 9, 109, 110, 111, 112, 108, 113, 114, 10, 11, 115, 116, 117, 118, 122] rfl ?_; clear Z; intro Z
       refine p_blk ?_
       refine p_then ?_
       exact ⟨(g.1 == g_2.1) && (g.2 == g_2.2), x_4, t, ({ l := x } : Eref15_Tree), Z.sub (ts := [0, 2, 3, 4, 5, 6, 7, 19, 20, 21, 22, 23, 26, 29, 30, 31, 32, 33, 34, 72, 73]) rfl, ⟨I9, (H.sub [(1, false), (0, false), (0, false), (0, true)] rfl).eq rfl⟩, hF⟩
      ·replace hF := ite_f hc5 hF
       refine wp_seq ?_
       obtain ⟨s0, hx9, hF⟩ := bnd_in hF
       refine f_region Z ?_; clear Z; intro Z
       refine s_runk tTreeW Z 2 rfl rfl ?_; clear Z a; intro a Z
       refine s_ob Z (v := .string ((l.getD (i_2).toNat default).k)) rfl rfl (by decide) rfl (Ob_load tTreeW rfl rfl rfl ((H.bx 2 rfl).cell 1 rfl)) ?_; clear Z a; intro a Z
       refine h_call Z H (js := [(0, false)]) rfl (caps := #[]) fn_19_YTreeW rfl rfl rfl rfl rfl (by decide) rfl rfl (fun D1 hS => have hq := c_tree_Tree_int_Seek hx9 hS; hq) ?_; clear Z a; intro vv a w13 D2 hr hF2 Z
       obtain ⟨rfl, I10, K⟩ := hr
       have H : Hf I D w I10 w13 [OEtree_Tree_int g1 s0.2.2, BxC b1 38 [v2], BxC b2 40 [.int .i64 ((l.getD (i_2).toNat default).c), .string ((l.getD (i_2).toNat default).k), .string ((l.getD (i_2).toNat default).to_), .int .i64 ((l.getD (i_2).toNat default).v)], SlC NElaw15_Act v1_l l, OwC NEref15_Row 60 v2 x] := hF2 K
       clear hF2 K
       refine s_runk tTreeW Z 5 rfl rfl ?_; clear Z a; intro a Z
       refine s_end Z [0, 2, 3, 4, 5, 6, 7, 19, 20, 21, 22, 23, 26, 29, 30, 31, 32, 33, 34, 72, 73, 89, 88, 100, 99, 36, 37, 38, 39, 35, 40, 41, 12, 13] rfl ?_; clear Z; intro Z
       refine p_then (wp_seq ?_)
       obtain ⟨s0_2, hx10, hF⟩ := bnd_in hF
       refine f_region Z ?_; clear Z; intro Z
       refine s_runk tTreeW Z 2 rfl rfl ?_; clear Z a; intro a Z
       refine s_ob Z (v := .string ((l.getD (i_2).toNat default).k)) rfl rfl (by decide) rfl (Ob_load tTreeW rfl rfl rfl ((H.bx 2 rfl).cell 1 rfl)) ?_; clear Z a; intro a Z
       replace H : Hf I D w I10 w13 [OEref15_Tree b1 ({ l := x } : Eref15_Tree), OEtree_Tree_int g1 s0.2.2, BxC b2 40 [.int .i64 ((l.getD (i_2).toNat default).c), .string ((l.getD (i_2).toNat default).k), .string ((l.getD (i_2).toNat default).to_), .int .i64 ((l.getD (i_2).toNat default).v)], SlC NElaw15_Act v1_l l] := H.shutX (v2) [(1, false), (3, false)] rfl
       refine h_call Z H (js := [(0, false)]) rfl (caps := #[]) fn_20_YTreeW rfl rfl rfl rfl rfl (by decide) rfl rfl (fun D1 hS => have hq := c_ref15_Tree_Seek hx10 hS; hq) ?_; clear Z a; intro vv a w14 D2 hr hF2 Z
       obtain ⟨rfl, I11, K⟩ := hr
       have H : Hf I D w I11 w14 [OEref15_Tree b1 ({ l := x } : Eref15_Tree), OEtree_Tree_int g1 s0.2.2, BxC b2 40 [.int .i64 ((l.getD (i_2).toNat default).c), .string ((l.getD (i_2).toNat default).k), .string ((l.getD (i_2).toNat default).to_), .int .i64 ((l.getD (i_2).toNat default).v)], SlC NElaw15_Act v1_l l] := hF2 K
       clear hF2 K
       refine s_runk tTreeW Z 5 rfl rfl ?_; clear Z a; intro a Z
       refine s_end Z [0, 2, 3, 4, 5, 6, 7, 19, 20, 21, 22, 23, 26, 29, 30, 31, 32, 33, 34, 72, 73, 89, 88, 100, 99, 36, 37, 38, 39, 35, 40, 41, 12, 13, 43, 44, 45, 46, 42, 47, 48, 14, 15] rfl ?_; clear Z; intro Z
       refine p_then ?_
       refine bsplit ((seqB s0.1 s0_2.1) && (s0.2.1 == s0_2.2)) (fun hb1 => ?_) (fun hb1 => ?_)
       ·replace hF := ite_t hb1 hF
        obtain ⟨k, hx11, hF⟩ := bnd_in hF
        obtain ⟨k_2, hx12, hF⟩ := bnd_in hF
        obtain ⟨s0_3, hx13, hF⟩ := bnd_in hF
        refine f_regionL Z (by kernel_rfl) (by kernel_rfl) (by decide) (by decide) [14, 20] [(0, 0, 0), (0, 0, 0), (3, 0, 0), (7, 0, 0), (15, 0, 0), (15, 0, 0), (63, 0, 0), (127, 0, 0), (255, 0, 0), (511, 0, 0), (511, 0, 0), (1535, 0, 0), (511, 0, 0), (4607, 0, 0), (16383, 0, 0), (511, 0, 1), (511, 0, 1), (66047, 0, 1), (511, 0, 1), (262655, 0, 1), (1048575, 1, 1), (2097151, 2, 2), (4194303, 2, 2), (8388607, 2, 2)] (by kernel_rfl) (fun jj vv => cond (Nat.blt jj 12) (cond (Nat.blt jj 6) (cond (Nat.blt jj 3) (cond (Nat.blt jj 1) (vv = .string s0.1) (cond (Nat.blt jj 2) (vv = .string s0_2.1) (vv = .bool (seqB s0.1 s0_2.1)))) (cond (Nat.blt jj 4) (vv = .bool (seqB s0.1 s0_2.1)) (cond (Nat.blt jj 5) (vv = cond (seqB s0.1 s0_2.1) (.bool s0.2.1) undef) (vv = cond (seqB s0.1 s0_2.1) (.bool s0_2.2) undef)))) (cond (Nat.blt jj 9) (cond (Nat.blt jj 7) (vv = cond (seqB s0.1 s0_2.1) (.bool (s0.2.1 == s0_2.2)) undef) (cond (Nat.blt jj 8) (vv = .bool true) (vv = .bool true))) (cond (Nat.blt jj 10) (vv = .pointer (some ⟨g1, 0, none⟩)) (cond (Nat.blt jj 11) (vv = .pointer (some ⟨b2, 1, none⟩)) (vv = .string ((l.getD (i_2).toNat default).k)))))) (cond (Nat.blt jj 18) (cond (Nat.blt jj 15) (cond (Nat.blt jj 13) (vv = .pointer (some ⟨b2, 2, none⟩)) (cond (Nat.blt jj 14) (vv = .string ((l.getD (i_2).toNat default).to_)) (True))) (cond (Nat.blt jj 16) (vv = .pointer (some ⟨b1, 0, none⟩)) (cond (Nat.blt jj 17) (vv = .pointer (some ⟨b2, 1, none⟩)) (vv = .string ((l.getD (i_2).toNat default).k))))) (cond (Nat.blt jj 21) (cond (Nat.blt jj 19) (vv = .pointer (some ⟨b2, 2, none⟩)) (cond (Nat.blt jj 20) (vv = .string ((l.getD (i_2).toNat default).to_)) (True))) (cond (Nat.blt jj 22) (vv = .bool s0_3) (cond (Nat.blt jj 23) (vv = .bool s0_3) (vv = .bool s0_3)))))) (fun ss vals4 xw => match ss with | 0 => Gx I D w I11 w14 xw [OEref15_Tree b1 ({ l := x } : Eref15_Tree), OEtree_Tree_int g1 s0.2.2, BxC b2 40 [.int .i64 ((l.getD (i_2).toNat default).c), .string ((l.getD (i_2).toNat default).k), .string ((l.getD (i_2).toNat default).to_), .int .i64 ((l.getD (i_2).toNat default).v)], SlC NElaw15_Act v1_l l] | 1 => Gx I D w I11 w14 xw [OEtree_Tree_int g1 k.2, SlC NS (vals4 14) k.1, OEref15_Tree b1 ({ l := x } : Eref15_Tree), BxC b2 40 [.int .i64 ((l.getD (i_2).toNat default).c), .string ((l.getD (i_2).toNat default).k), .string ((l.getD (i_2).toNat default).to_), .int .i64 ((l.getD (i_2).toNat default).v)], SlC NElaw15_Act v1_l l] | _ => Gx I D w I11 w14 xw [OEref15_Tree b1 ({ l := x } : Eref15_Tree), SlC NS (vals4 20) k_2, OEtree_Tree_int g1 k.2, SlC NS (vals4 14) k.1, BxC b2 40 [.int .i64 ((l.getD (i_2).toNat default).c), .string ((l.getD (i_2).toNat default).k), .string ((l.getD (i_2).toNat default).to_), .int .i64 ((l.getD (i_2).toNat default).v)], SlC NElaw15_Act v1_l l]) (fun _ => Gx.start H) ?_ ?_
        ·intro fr hfr hfe
         refine .cons (fun ss hlo hhi vals4 xw hG hV => ?_) ?_
         ·obtain rfl : ss = 0 := Nat.le_antisymm hhi hlo
          rw [← hfe]
          have hS := (hfr vals4).sub (ts := [12]) (S' := [(12, .string s0.1)]) rfl
          exact L_val hS rfl (Ob_c tTreeW rfl) ⟨rfl, hG⟩
         refine .cons (fun ss hlo hhi vals4 xw hG hV => ?_) ?_
         ·obtain rfl : ss = 0 := Nat.le_antisymm hhi hlo
          rw [← hfe]
          have hS := (hfr vals4).sub (ts := [14]) (S' := [(14, .string s0_2.1)]) rfl
          exact L_val hS rfl (Ob_c tTreeW rfl) ⟨rfl, hG⟩
         refine .cons (fun ss hlo hhi vals4 xw hG hV => ?_) ?_
         ·obtain rfl : ss = 0 := Nat.le_antisymm hhi hlo
          rw [← hfe]
          have hS := (hfr vals4).sub (ts := [49, 50]) (S' := [(49, vals4 0), (50, vals4 1)]) rfl
          replace hS := hS.conv (t := 49) rfl (show (vals4 0) = .string s0.1 from hV 0 (by decide))
          replace hS := hS.conv (t := 50) rfl (show (vals4 1) = .string s0_2.1 from hV 1 (by decide))
          exact L_val hS rfl (Ob_c tTreeW rfl) ⟨rfl, hG⟩
         refine .cons (fun ss hlo hhi vals4 xw hG hV => ?_) ?_
         ·obtain rfl : ss = 0 := Nat.le_antisymm hhi hlo
          rw [← hfe]
          have hS := (hfr vals4).sub (ts := [51]) (S' := [(51, vals4 2)]) rfl
          replace hS := hS.conv (t := 51) rfl (show (vals4 2) = .bool (seqB s0.1 s0_2.1) from hV 2 (by decide))
          exact L_val hS rfl (Ob_c tTreeW rfl) ⟨rfl, hG⟩
         refine .cons (fun ss hlo hhi vals4 xw hG hV => ?_) ?_
         ·obtain rfl : ss = 0 := Nat.le_antisymm hhi hlo
          rw [← hfe]
          have hS := (hfr vals4).sub (ts := [52, 13]) (S' := [(52, vals4 3), (13, .bool s0.2.1)]) rfl
          replace hS := hS.conv (t := 52) rfl (show (vals4 3) = .bool (seqB s0.1 s0_2.1) from hV 3 (by decide))
          refine L_gw (p := (seqB s0.1 s0_2.1)) hS rfl rfl rfl (wantB_t _) (fun hp => ?_) (fun hp => ⟨by rw [hp]; rfl, hG⟩)
          exact L_val hS rfl (Ob_c tTreeW rfl) ⟨(by rw [hp]; rfl), hG⟩
         refine .cons (fun ss hlo hhi vals4 xw hG hV => ?_) ?_
         ·obtain rfl : ss = 0 := Nat.le_antisymm hhi hlo
          rw [← hfe]
          have hS := (hfr vals4).sub (ts := [52, 15]) (S' := [(52, vals4 3), (15, .bool s0_2.2)]) rfl
          replace hS := hS.conv (t := 52) rfl (show (vals4 3) = .bool (seqB s0.1 s0_2.1) from hV 3 (by decide))
          refine L_gw (p := (seqB s0.1 s0_2.1)) hS rfl rfl rfl (wantB_t _) (fun hp => ?_) (fun hp => ⟨by rw [hp]; rfl, hG⟩)
          exact L_val hS rfl (Ob_c tTreeW rfl) ⟨(by rw [hp]; rfl), hG⟩
         refine .cons (fun ss hlo hhi vals4 xw hG hV => ?_) ?_
         ·obtain rfl : ss = 0 := Nat.le_antisymm hhi hlo
          rw [← hfe]
          have hS := (hfr vals4).sub (ts := [53, 54, 52]) (S' := [(53, vals4 4), (54, vals4 5), (52, vals4 3)]) rfl
          replace hS := hS.conv (t := 53) rfl (show (vals4 4) = cond (seqB s0.1 s0_2.1) (.bool s0.2.1) undef from hV 4 (by decide))
          replace hS := hS.conv (t := 54) rfl (show (vals4 5) = cond (seqB s0.1 s0_2.1) (.bool s0_2.2) undef from hV 5 (by decide))
          replace hS := hS.conv (t := 52) rfl (show (vals4 3) = .bool (seqB s0.1 s0_2.1) from hV 3 (by decide))
          refine L_gw (p := (seqB s0.1 s0_2.1)) hS rfl rfl rfl (wantB_t _) (fun hp => ?_) (fun hp => ⟨by rw [hp]; rfl, hG⟩)
          replace hS := hS.conv (t := 53) rfl (cond_t hp)
          replace hS := hS.conv (t := 54) rfl (cond_t hp)
          exact L_val hS rfl (Ob_c tTreeW rfl) ⟨(by rw [hp]; rfl), hG⟩
         refine .cons (fun ss hlo hhi vals4 xw hG hV => ?_) ?_
         ·obtain rfl : ss = 0 := Nat.le_antisymm hhi hlo
          rw [← hfe]
          have hS := (hfr vals4).sub (ts := [52, 55]) (S' := [(52, vals4 3), (55, vals4 6)]) rfl
          replace hS := hS.conv (t := 52) rfl (show (vals4 3) = .bool (seqB s0.1 s0_2.1) from hV 3 (by decide))
          replace hS := hS.conv (t := 55) rfl (show (vals4 6) = cond (seqB s0.1 s0_2.1) (.bool (s0.2.1 == s0_2.2)) undef from hV 6 (by decide))
          exact L_val hS rfl (Ob_bc (Ob_pick rfl rfl rfl rfl (pick_and _ _)) hb1) ⟨rfl, hG⟩
         refine .cons (fun ss hlo hhi vals4 xw hG hV => ?_) ?_
         ·obtain rfl : ss = 0 := Nat.le_antisymm hhi hlo
          rw [← hfe]
          have hS := (hfr vals4).sub (ts := [56]) (S' := [(56, vals4 7)]) rfl
          replace hS := hS.conv (t := 56) rfl (show (vals4 7) = .bool true from hV 7 (by decide))
          exact L_val hS rfl (Ob_c tTreeW rfl) ⟨rfl, hG⟩
         refine .cons (fun ss hlo hhi vals4 xw hG hV => ?_) ?_
         ·obtain rfl : ss = 0 := Nat.le_antisymm hhi hlo
          rw [← hfe]
          have hS := (hfr vals4).sub (ts := [57, 3]) (S' := [(57, vals4 8), (3, .pointer (some ⟨g1, 0, none⟩))]) rfl
          replace hS := hS.conv (t := 57) rfl (show (vals4 8) = .bool true from hV 8 (by decide))
          refine L_gw (p := true) hS rfl rfl rfl rfl (fun _ => ?_) (fun h => by cases h)
          exact L_val hS rfl (Ob_c tTreeW rfl) ⟨rfl, hG⟩
         refine .cons (fun ss hlo hhi vals4 xw hG hV => ?_) ?_
         ·obtain rfl : ss = 0 := Nat.le_antisymm hhi hlo
          rw [← hfe]
          have hS := (hfr vals4).sub (ts := [57, 6]) (S' := [(57, vals4 8), (6, .pointer (some ⟨b2, 0, none⟩))]) rfl
          replace hS := hS.conv (t := 57) rfl (show (vals4 8) = .bool true from hV 8 (by decide))
          refine L_gw (p := true) hS rfl rfl rfl rfl (fun _ => ?_) (fun h => by cases h)
          exact L_val hS rfl (Ob_c tTreeW rfl) ⟨rfl, hG⟩
         refine .cons (fun ss hlo hhi vals4 xw hG hV => ?_) ?_
         ·obtain rfl : ss = 0 := Nat.le_antisymm hhi hlo
          rw [← hfe]
          have hS := (hfr vals4).sub (ts := [59, 57]) (S' := [(59, vals4 10), (57, vals4 8)]) rfl
          replace hS := hS.conv (t := 59) rfl (show (vals4 10) = .pointer (some ⟨b2, 1, none⟩) from hV 10 (by decide))
          replace hS := hS.conv (t := 57) rfl (show (vals4 8) = .bool true from hV 8 (by decide))
          refine L_gw (p := true) hS rfl rfl rfl rfl (fun _ => ?_) (fun h => by cases h)
          obtain ⟨I2, hI2, H⟩ := Gx.ex hG
          exact L_val hS rfl (Ob_load tTreeW rfl rfl rfl ((H.bx 2 rfl).cell 1 rfl)) ⟨rfl, hG⟩
         refine .cons (fun ss hlo hhi vals4 xw hG hV => ?_) ?_
         ·obtain rfl : ss = 0 := Nat.le_antisymm hhi hlo
          rw [← hfe]
          have hS := (hfr vals4).sub (ts := [57, 6]) (S' := [(57, vals4 8), (6, .pointer (some ⟨b2, 0, none⟩))]) rfl
          replace hS := hS.conv (t := 57) rfl (show (vals4 8) = .bool true from hV 8 (by decide))
          refine L_gw (p := true) hS rfl rfl rfl rfl (fun _ => ?_) (fun h => by cases h)
          exact L_val hS rfl (Ob_c tTreeW rfl) ⟨rfl, hG⟩
         refine .cons (fun ss hlo hhi vals4 xw hG hV => ?_) ?_
         ·obtain rfl : ss = 0 := Nat.le_antisymm hhi hlo
          rw [← hfe]
          have hS := (hfr vals4).sub (ts := [61, 57]) (S' := [(61, vals4 12), (57, vals4 8)]) rfl
          replace hS := hS.conv (t := 61) rfl (show (vals4 12) = .pointer (some ⟨b2, 2, none⟩) from hV 12 (by decide))
          replace hS := hS.conv (t := 57) rfl (show (vals4 8) = .bool true from hV 8 (by decide))
          refine L_gw (p := true) hS rfl rfl rfl rfl (fun _ => ?_) (fun h => by cases h)
          obtain ⟨I2, hI2, H⟩ := Gx.ex hG
          exact L_val hS rfl (Ob_load tTreeW rfl rfl rfl ((H.bx 2 rfl).cell 2 rfl)) ⟨rfl, hG⟩
         refine .cons (fun ss hlo hhi vals4 xw hG hV => ?_) ?_
         ·obtain rfl : ss = 0 := Nat.le_antisymm hhi hlo
          rw [← hfe]
          have hS := (hfr vals4).sub (ts := [58, 60, 62, 57]) (S' := [(58, vals4 9), (60, vals4 11), (62, vals4 13), (57, vals4 8)]) rfl
          replace hS := hS.conv (t := 58) rfl (show (vals4 9) = .pointer (some ⟨g1, 0, none⟩) from hV 9 (by decide))
          replace hS := hS.conv (t := 60) rfl (show (vals4 11) = .string ((l.getD (i_2).toNat default).k) from hV 11 (by decide))
          replace hS := hS.conv (t := 62) rfl (show (vals4 13) = .string ((l.getD (i_2).toNat default).to_) from hV 13 (by decide))
          replace hS := hS.conv (t := 57) rfl (show (vals4 8) = .bool true from hV 8 (by decide))
          refine L_gw (p := true) hS rfl rfl rfl rfl (fun _ => ?_) (fun h => by cases h)
          obtain ⟨I2, hI2, H⟩ := Gx.ex hG
          refine L_hcall H (js := [(1, false)]) rfl (caps := #[]) hS fn_12_YTreeW rfl rfl rfl rfl rfl (fun D1 hS => have hq := c_tree_Tree_int_Keys hx11 hS; hq) fun _ yw D1 hr hF2 => ?_
          obtain ⟨q0_, rfl, I3, K⟩ := hr
          obtain ⟨hK, H2⟩ := hF2 K
          exact ⟨trivial, Gx.go hG hI2 hK K.imm H2⟩
         refine .cons (fun ss hlo hhi vals4 xw hG hV => ?_) ?_
         ·obtain rfl | rfl : ss = 0 ∨ ss = 1 := st1 hlo hhi
          all_goals
          ·rw [← hfe]
           have hS := (hfr vals4).sub (ts := [57, 4]) (S' := [(57, vals4 8), (4, .pointer (some ⟨b1, 0, none⟩))]) rfl
           replace hS := hS.conv (t := 57) rfl (show (vals4 8) = .bool true from hV 8 (by decide))
           refine L_gw (p := true) hS rfl rfl rfl rfl (fun _ => ?_) (fun h => by cases h)
           exact L_val hS rfl (Ob_c tTreeW rfl) ⟨rfl, hG⟩
         refine .cons (fun ss hlo hhi vals4 xw hG hV => ?_) ?_
         ·obtain rfl | rfl : ss = 0 ∨ ss = 1 := st1 hlo hhi
          all_goals
          ·rw [← hfe]
           have hS := (hfr vals4).sub (ts := [57, 6]) (S' := [(57, vals4 8), (6, .pointer (some ⟨b2, 0, none⟩))]) rfl
           replace hS := hS.conv (t := 57) rfl (show (vals4 8) = .bool true from hV 8 (by decide))
           refine L_gw (p := true) hS rfl rfl rfl rfl (fun _ => ?_) (fun h => by cases h)
           exact L_val hS rfl (Ob_c tTreeW rfl) ⟨rfl, hG⟩
         refine .cons (fun ss hlo hhi vals4 xw hG hV => ?_) ?_
         ·obtain rfl | rfl : ss = 0 ∨ ss = 1 := st1 hlo hhi
          ·rw [← hfe]
           have hS := (hfr vals4).sub (ts := [65, 57]) (S' := [(65, vals4 16), (57, vals4 8)]) rfl
           replace hS := hS.conv (t := 65) rfl (show (vals4 16) = .pointer (some ⟨b2, 1, none⟩) from hV 16 (by decide))
           replace hS := hS.conv (t := 57) rfl (show (vals4 8) = .bool true from hV 8 (by decide))
           refine L_gw (p := true) hS rfl rfl rfl rfl (fun _ => ?_) (fun h => by cases h)
           obtain ⟨I2, hI2, H⟩ := Gx.ex hG
           exact L_val hS rfl (Ob_load tTreeW rfl rfl rfl ((H.bx 2 rfl).cell 1 rfl)) ⟨rfl, hG⟩
          ·rw [← hfe]
           have hS := (hfr vals4).sub (ts := [65, 57]) (S' := [(65, vals4 16), (57, vals4 8)]) rfl
           replace hS := hS.conv (t := 65) rfl (show (vals4 16) = .pointer (some ⟨b2, 1, none⟩) from hV 16 (by decide))
           replace hS := hS.conv (t := 57) rfl (show (vals4 8) = .bool true from hV 8 (by decide))
           refine L_gw (p := true) hS rfl rfl rfl rfl (fun _ => ?_) (fun h => by cases h)
           obtain ⟨I2, hI2, H⟩ := Gx.ex hG
           exact L_val hS rfl (Ob_load tTreeW rfl rfl rfl ((H.bx 3 rfl).cell 1 rfl)) ⟨rfl, hG⟩
         refine .cons (fun ss hlo hhi vals4 xw hG hV => ?_) ?_
         ·obtain rfl | rfl : ss = 0 ∨ ss = 1 := st1 hlo hhi
          all_goals
          ·rw [← hfe]
           have hS := (hfr vals4).sub (ts := [57, 6]) (S' := [(57, vals4 8), (6, .pointer (some ⟨b2, 0, none⟩))]) rfl
           replace hS := hS.conv (t := 57) rfl (show (vals4 8) = .bool true from hV 8 (by decide))
           refine L_gw (p := true) hS rfl rfl rfl rfl (fun _ => ?_) (fun h => by cases h)
           exact L_val hS rfl (Ob_c tTreeW rfl) ⟨rfl, hG⟩
         refine .cons (fun ss hlo hhi vals4 xw hG hV => ?_) ?_
         ·obtain rfl | rfl : ss = 0 ∨ ss = 1 := st1 hlo hhi
          ·rw [← hfe]
           have hS := (hfr vals4).sub (ts := [67, 57]) (S' := [(67, vals4 18), (57, vals4 8)]) rfl
           replace hS := hS.conv (t := 67) rfl (show (vals4 18) = .pointer (some ⟨b2, 2, none⟩) from hV 18 (by decide))
           replace hS := hS.conv (t := 57) rfl (show (vals4 8) = .bool true from hV 8 (by decide))
           refine L_gw (p := true) hS rfl rfl rfl rfl (fun _ => ?_) (fun h => by cases h)
           obtain ⟨I2, hI2, H⟩ := Gx.ex hG
           exact L_val hS rfl (Ob_load tTreeW rfl rfl rfl ((H.bx 2 rfl).cell 2 rfl)) ⟨rfl, hG⟩
          ·rw [← hfe]
           have hS := (hfr vals4).sub (ts := [67, 57]) (S' := [(67, vals4 18), (57, vals4 8)]) rfl
           replace hS := hS.conv (t := 67) rfl (show (vals4 18) = .pointer (some ⟨b2, 2, none⟩) from hV 18 (by decide))
           replace hS := hS.conv (t := 57) rfl (show (vals4 8) = .bool true from hV 8 (by decide))
           refine L_gw (p := true) hS rfl rfl rfl rfl (fun _ => ?_) (fun h => by cases h)
           obtain ⟨I2, hI2, H⟩ := Gx.ex hG
           exact L_val hS rfl (Ob_load tTreeW rfl rfl rfl ((H.bx 3 rfl).cell 2 rfl)) ⟨rfl, hG⟩
         refine .cons (fun ss hlo hhi vals4 xw hG hV => ?_) ?_
         ·obtain rfl : ss = 1 := Nat.le_antisymm hhi hlo
          rw [← hfe]
          have hS := (hfr vals4).sub (ts := [64, 66, 68, 57]) (S' := [(64, vals4 15), (66, vals4 17), (68, vals4 19), (57, vals4 8)]) rfl
          replace hS := hS.conv (t := 64) rfl (show (vals4 15) = .pointer (some ⟨b1, 0, none⟩) from hV 15 (by decide))
          replace hS := hS.conv (t := 66) rfl (show (vals4 17) = .string ((l.getD (i_2).toNat default).k) from hV 17 (by decide))
          replace hS := hS.conv (t := 68) rfl (show (vals4 19) = .string ((l.getD (i_2).toNat default).to_) from hV 19 (by decide))
          replace hS := hS.conv (t := 57) rfl (show (vals4 8) = .bool true from hV 8 (by decide))
          refine L_gw (p := true) hS rfl rfl rfl rfl (fun _ => ?_) (fun h => by cases h)
          obtain ⟨I2, hI2, H⟩ := Gx.ex hG
          refine L_hcall H (js := [(2, false)]) rfl (caps := #[]) hS fn_21_YTreeW rfl rfl rfl rfl rfl (fun D1 hS => have hq := c_ref15_Tree_Keys hx12 hS; hq) fun _ yw D1 hr hF2 => ?_
          obtain ⟨q0_, rfl, I3, K⟩ := hr
          obtain ⟨hK, H2⟩ := hF2 K
          exact ⟨trivial, Gx.go hG hI2 hK K.imm H2⟩
         refine .cons (fun ss hlo hhi vals4 xw hG hV => ?_) ?_
         ·obtain rfl : ss = 2 := Nat.le_antisymm hhi hlo
          rw [← hfe]
          have hS := (hfr vals4).sub (ts := [63, 69, 57]) (S' := [(63, vals4 14), (69, vals4 20), (57, vals4 8)]) rfl
          replace hS := hS.conv (t := 57) rfl (show (vals4 8) = .bool true from hV 8 (by decide))
          refine L_gw (p := true) hS rfl rfl rfl rfl (fun _ => ?_) (fun h => by cases h)
          obtain ⟨I2, hI2, H⟩ := Gx.ex hG
          refine L_call (caps := #[]) hS fn_11_YTreeW rfl rfl rfl rfl rfl ((have hq := c_ref05_Same hx13 ((H).pick0 (js := [(3, true), (1, true)]) rfl rfl); plainC hq)) fun r yw hr => ?_
          obtain ⟨rfl, hb⟩ := hr
          exact ⟨rfl, Gx.blw hG hb⟩
         refine .cons (fun ss hlo hhi vals4 xw hG hV => ?_) ?_
         ·obtain rfl : ss = 2 := Nat.le_antisymm hhi hlo
          rw [← hfe]
          have hS := (hfr vals4).sub (ts := [57, 70]) (S' := [(57, vals4 8), (70, vals4 21)]) rfl
          replace hS := hS.conv (t := 57) rfl (show (vals4 8) = .bool true from hV 8 (by decide))
          replace hS := hS.conv (t := 70) rfl (show (vals4 21) = .bool s0_3 from hV 21 (by decide))
          exact L_val hS rfl (Ob_pick rfl rfl rfl rfl rfl) ⟨rfl, hG⟩
         refine .cons (fun ss hlo hhi vals4 xw hG hV => ?_) ?_
         ·obtain rfl : ss = 2 := Nat.le_antisymm hhi hlo
          rw [← hfe]
          have hS := (hfr vals4).sub (ts := [71]) (S' := [(71, vals4 22)]) rfl
          replace hS := hS.conv (t := 71) rfl (show (vals4 22) = .bool s0_3 from hV 22 (by decide))
          exact L_val hS rfl (Ob_c tTreeW rfl) ⟨rfl, hG⟩
         exact .nil
        ·intro vals4 a w15 Z hG hV
         replace Z := Z.sub (ts := [0, 2, 3, 4, 5, 6, 7, 19, 20, 21, 22, 23, 26, 29, 30, 31, 32, 33, 34, 72, 73, 89, 88, 100, 99, 36, 37, 38, 39, 35, 40, 41, 12, 13, 43, 44, 45, 46, 42, 47, 48, 14, 15, 49, 50, 51, 52, 56, 57, 58, 59, 60, 61, 62, 63, 64, 65, 66, 67, 68, 69, 70, 71]) (S' := [(0, v1_l), (2, .bool false), (3, .pointer (some ⟨g1, 0, none⟩)), (4, .pointer (some ⟨b1, 0, none⟩)), (5, .int .i64 i_2), (6, .pointer (some ⟨b2, 0, none⟩)), (7, vals4 23), (19, .int .i64 i_2), (20, v1_l), (21, .int .i64 (l.length : Int)), (22, .bool (decide (i_2 < (l.length : Int)))), (23, .bool (decide (i_2 < (l.length : Int)))), (26, .bool ((decide (i_2 < (l.length : Int))) && (decide (i_2 < 60)))), (29, v1_l), (30, .int .i64 i_2), (31, .pointer (some ⟨blkOf v1_l, oofOf v1_l + (i_2).toNat * 4, none⟩)), (32, .agg #[.int .i64 ((l.getD (i_2).toNat default).c), .string ((l.getD (i_2).toNat default).k), .string ((l.getD (i_2).toNat default).to_), .int .i64 ((l.getD (i_2).toNat default).v)]), (33, .pointer (some ⟨b2, 0, none⟩)), (34, .int .i64 ((l.getD (i_2).toNat default).c)), (72, .bool x_4), (73, .bool (((l.getD (i_2).toNat default).c) == 0)), (89, .bool (((l.getD (i_2).toNat default).c) == 2)), (88, .bool (((l.getD (i_2).toNat default).c) == 2)), (100, .bool (((l.getD (i_2).toNat default).c) == 3)), (99, .bool (((l.getD (i_2).toNat default).c) == 3)), (36, .pointer (some ⟨g1, 0, none⟩)), (37, .pointer (some ⟨b2, 1, none⟩)), (38, .string ((l.getD (i_2).toNat default).k)), (39, .tuple #[.string s0.1, .bool s0.2.1]), (35, .tuple #[.string s0.1, .bool s0.2.1]), (40, .string s0.1), (41, .bool s0.2.1), (12, .string s0.1), (13, .bool s0.2.1), (43, .pointer (some ⟨b1, 0, none⟩)), (44, .pointer (some ⟨b2, 1, none⟩)), (45, .string ((l.getD (i_2).toNat default).k)), (46, .tuple #[.string s0_2.1, .bool s0_2.2]), (42, .tuple #[.string s0_2.1, .bool s0_2.2]), (47, .string s0_2.1), (48, .bool s0_2.2), (14, .string s0_2.1), (15, .bool s0_2.2), (49, vals4 0), (50, vals4 1), (51, vals4 2), (52, vals4 3), (56, vals4 7), (57, vals4 8), (58, vals4 9), (59, vals4 10), (60, vals4 11), (61, vals4 12), (62, vals4 13), (63, vals4 14), (64, vals4 15), (65, vals4 16), (66, vals4 17), (67, vals4 18), (68, vals4 19), (69, vals4 20), (70, vals4 21), (71, vals4 22)]) rfl
         replace Z := Z.conv (t := 7) rfl (show (vals4 23) = .bool s0_3 from hV 23 (by decide))
         replace Z := Z.conv (t := 49) rfl (show (vals4 0) = .string s0.1 from hV 0 (by decide))
         replace Z := Z.conv (t := 50) rfl (show (vals4 1) = .string s0_2.1 from hV 1 (by decide))
         replace Z := Z.conv (t := 51) rfl (show (vals4 2) = .bool (seqB s0.1 s0_2.1) from hV 2 (by decide))
         replace Z := Z.conv (t := 52) rfl (show (vals4 3) = .bool (seqB s0.1 s0_2.1) from hV 3 (by decide))
         replace Z := Z.conv (t := 56) rfl (show (vals4 7) = .bool true from hV 7 (by decide))
         replace Z := Z.conv (t := 57) rfl (show (vals4 8) = .bool true from hV 8 (by decide))
         replace Z := Z.conv (t := 58) rfl (show (vals4 9) = .pointer (some ⟨g1, 0, none⟩) from hV 9 (by decide))
         replace Z := Z.conv (t := 59) rfl (show (vals4 10) = .pointer (some ⟨b2, 1, none⟩) from hV 10 (by decide))
         replace Z := Z.conv (t := 60) rfl (show (vals4 11) = .string ((l.getD (i_2).toNat default).k) from hV 11 (by decide))
         replace Z := Z.conv (t := 61) rfl (show (vals4 12) = .pointer (some ⟨b2, 2, none⟩) from hV 12 (by decide))
         replace Z := Z.conv (t := 62) rfl (show (vals4 13) = .string ((l.getD (i_2).toNat default).to_) from hV 13 (by decide))
         replace Z := Z.conv (t := 64) rfl (show (vals4 15) = .pointer (some ⟨b1, 0, none⟩) from hV 15 (by decide))
         replace Z := Z.conv (t := 65) rfl (show (vals4 16) = .pointer (some ⟨b2, 1, none⟩) from hV 16 (by decide))
         replace Z := Z.conv (t := 66) rfl (show (vals4 17) = .string ((l.getD (i_2).toNat default).k) from hV 17 (by decide))
         replace Z := Z.conv (t := 67) rfl (show (vals4 18) = .pointer (some ⟨b2, 2, none⟩) from hV 18 (by decide))
         replace Z := Z.conv (t := 68) rfl (show (vals4 19) = .string ((l.getD (i_2).toNat default).to_) from hV 19 (by decide))
         replace Z := Z.conv (t := 70) rfl (show (vals4 21) = .bool s0_3 from hV 21 (by decide))
         replace Z := Z.conv (t := 71) rfl (show (vals4 22) = .bool s0_3 from hV 22 (by decide))
         obtain ⟨I12, _, H⟩ := Gx.ex hG
         clear hG hV
         replace Z := Z.sub (ts := [0, 2, 3, 4, 5, 6, 7, 19, 20, 21, 22, 23, 26, 29, 30, 31, 32, 33, 34, 72, 73, 89, 88, 100, 99, 36, 37, 38, 39, 35, 40, 41, 12, 13, 43, 44, 45, 46, 42, 47, 48, 14, 15, 49, 50, 51, 52, 56, 57, 58, 59, 60, 61, 62, 63, 64, 65, 66, 67, 68, 69, 70, 71]) rfl
         replace H : Hf I D w I12 w15 [OEref15_Tree b1 ({ l := x } : Eref15_Tree), SlC NS (vals4 20) k_2, OEtree_Tree_int g1 k.2, SlC NS (vals4 14) k.1, BxC b2 40 [.int .i64 ((l.getD (i_2).toNat default).c), .string ((l.getD (i_2).toNat default).k), .string ((l.getD (i_2).toNat default).to_), .int .i64 ((l.getD (i_2).toNat default).v)], SlC NElaw15_Act v1_l l] := H
         refine p_blk ?_
         refine p_then ?_
         exact ⟨s0_3, x_4, k.2, ({ l := x } : Eref15_Tree), Z.sub (ts := [0, 2, 3, 4, 5, 6, 7, 19, 20, 21, 22, 23, 26, 29, 30, 31, 32, 33, 34, 72, 73]) rfl, ⟨I12, (H.sub [(2, false), (0, false), (2, false), (2, true)] rfl).eq rfl⟩, hF⟩
       ·replace hF := ite_f hb1 hF
        refine f_regionL Z (by kernel_rfl) (by kernel_rfl) (by decide) (by decide) [] [(0, 0, 0), (0, 0, 0), (3, 0, 0), (7, 0, 0), (15, 0, 0), (15, 0, 0), (63, 0, 0), (127, 0, 0), (255, 0, 0), (511, 0, 0), (511, 0, 0), (1535, 0, 0), (511, 0, 0), (4607, 0, 0), (16383, 0, 0), (511, 0, 0), (511, 0, 0), (66047, 0, 0), (511, 0, 0), (262655, 0, 0), (1048575, 0, 0), (2097151, 0, 0), (4194303, 0, 0), (8388607, 0, 0)] (by kernel_rfl) (fun jj vv => cond (Nat.blt jj 12) (cond (Nat.blt jj 6) (cond (Nat.blt jj 3) (cond (Nat.blt jj 1) (vv = .string s0.1) (cond (Nat.blt jj 2) (vv = .string s0_2.1) (vv = .bool (seqB s0.1 s0_2.1)))) (cond (Nat.blt jj 4) (vv = .bool (seqB s0.1 s0_2.1)) (cond (Nat.blt jj 5) (vv = cond (seqB s0.1 s0_2.1) (.bool s0.2.1) undef) (vv = cond (seqB s0.1 s0_2.1) (.bool s0_2.2) undef)))) (cond (Nat.blt jj 9) (cond (Nat.blt jj 7) (vv = cond (seqB s0.1 s0_2.1) (.bool (s0.2.1 == s0_2.2)) undef) (cond (Nat.blt jj 8) (vv = .bool false) (vv = .bool false))) (cond (Nat.blt jj 10) (vv = undef) (cond (Nat.blt jj 11) (vv = undef) (vv = undef))))) (cond (Nat.blt jj 18) (cond (Nat.blt jj 15) (cond (Nat.blt jj 13) (vv = undef) (cond (Nat.blt jj 14) (vv = undef) (vv = undef))) (cond (Nat.blt jj 16) (vv = undef) (cond (Nat.blt jj 17) (vv = undef) (vv = undef)))) (cond (Nat.blt jj 21) (cond (Nat.blt jj 19) (vv = undef) (cond (Nat.blt jj 20) (vv = undef) (vv = undef))) (cond (Nat.blt jj 22) (vv = undef) (cond (Nat.blt jj 23) (vv = .bool false) (vv = .bool false)))))) (fun ss vals5 xw => match ss with | _ => Gx I D w I11 w14 xw [OEref15_Tree b1 ({ l := x } : Eref15_Tree), OEtree_Tree_int g1 s0.2.2, BxC b2 40 [.int .i64 ((l.getD (i_2).toNat default).c), .string ((l.getD (i_2).toNat default).k), .string ((l.getD (i_2).toNat default).to_), .int .i64 ((l.getD (i_2).toNat default).v)], SlC NElaw15_Act v1_l l]) (fun _ => Gx.start H) ?_ ?_
        ·intro fr hfr hfe
         refine .cons (fun ss hlo hhi vals5 xw hG hV => ?_) ?_
         ·obtain rfl : ss = 0 := Nat.le_antisymm hhi hlo
          rw [← hfe]
          have hS := (hfr vals5).sub (ts := [12]) (S' := [(12, .string s0.1)]) rfl
          exact L_val hS rfl (Ob_c tTreeW rfl) ⟨rfl, hG⟩
         refine .cons (fun ss hlo hhi vals5 xw hG hV => ?_) ?_
         ·obtain rfl : ss = 0 := Nat.le_antisymm hhi hlo
          rw [← hfe]
          have hS := (hfr vals5).sub (ts := [14]) (S' := [(14, .string s0_2.1)]) rfl
          exact L_val hS rfl (Ob_c tTreeW rfl) ⟨rfl, hG⟩
         refine .cons (fun ss hlo hhi vals5 xw hG hV => ?_) ?_
         ·obtain rfl : ss = 0 := Nat.le_antisymm hhi hlo
          rw [← hfe]
          have hS := (hfr vals5).sub (ts := [49, 50]) (S' := [(49, vals5 0), (50, vals5 1)]) rfl
          replace hS := hS.conv (t := 49) rfl (show (vals5 0) = .string s0.1 from hV 0 (by decide))
          replace hS := hS.conv (t := 50) rfl (show (vals5 1) = .string s0_2.1 from hV 1 (by decide))
          exact L_val hS rfl (Ob_c tTreeW rfl) ⟨rfl, hG⟩
         refine .cons (fun ss hlo hhi vals5 xw hG hV => ?_) ?_
         ·obtain rfl : ss = 0 := Nat.le_antisymm hhi hlo
          rw [← hfe]
          have hS := (hfr vals5).sub (ts := [51]) (S' := [(51, vals5 2)]) rfl
          replace hS := hS.conv (t := 51) rfl (show (vals5 2) = .bool (seqB s0.1 s0_2.1) from hV 2 (by decide))
          exact L_val hS rfl (Ob_c tTreeW rfl) ⟨rfl, hG⟩
         refine .cons (fun ss hlo hhi vals5 xw hG hV => ?_) ?_
         ·obtain rfl : ss = 0 := Nat.le_antisymm hhi hlo
          rw [← hfe]
          have hS := (hfr vals5).sub (ts := [52, 13]) (S' := [(52, vals5 3), (13, .bool s0.2.1)]) rfl
          replace hS := hS.conv (t := 52) rfl (show (vals5 3) = .bool (seqB s0.1 s0_2.1) from hV 3 (by decide))
          refine L_gw (p := (seqB s0.1 s0_2.1)) hS rfl rfl rfl (wantB_t _) (fun hp => ?_) (fun hp => ⟨by rw [hp]; rfl, hG⟩)
          exact L_val hS rfl (Ob_c tTreeW rfl) ⟨(by rw [hp]; rfl), hG⟩
         refine .cons (fun ss hlo hhi vals5 xw hG hV => ?_) ?_
         ·obtain rfl : ss = 0 := Nat.le_antisymm hhi hlo
          rw [← hfe]
          have hS := (hfr vals5).sub (ts := [52, 15]) (S' := [(52, vals5 3), (15, .bool s0_2.2)]) rfl
          replace hS := hS.conv (t := 52) rfl (show (vals5 3) = .bool (seqB s0.1 s0_2.1) from hV 3 (by decide))
          refine L_gw (p := (seqB s0.1 s0_2.1)) hS rfl rfl rfl (wantB_t _) (fun hp => ?_) (fun hp => ⟨by rw [hp]; rfl, hG⟩)
          exact L_val hS rfl (Ob_c tTreeW rfl) ⟨(by rw [hp]; rfl), hG⟩
         refine .cons (fun ss hlo hhi vals5 xw hG hV => ?_) ?_
         ·obtain rfl : ss = 0 := Nat.le_antisymm hhi hlo
          rw [← hfe]
          have hS := (hfr vals5).sub (ts := [53, 54, 52]) (S' := [(53, vals5 4), (54, vals5 5), (52, vals5 3)]) rfl
          replace hS := hS.conv (t := 53) rfl (show (vals5 4) = cond (seqB s0.1 s0_2.1) (.bool s0.2.1) undef from hV 4 (by decide))
          replace hS := hS.conv (t := 54) rfl (show (vals5 5) = cond (seqB s0.1 s0_2.1) (.bool s0_2.2) undef from hV 5 (by decide))
          replace hS := hS.conv (t := 52) rfl (show (vals5 3) = .bool (seqB s0.1 s0_2.1) from hV 3 (by decide))
          refine L_gw (p := (seqB s0.1 s0_2.1)) hS rfl rfl rfl (wantB_t _) (fun hp => ?_) (fun hp => ⟨by rw [hp]; rfl, hG⟩)
          replace hS := hS.conv (t := 53) rfl (cond_t hp)
          replace hS := hS.conv (t := 54) rfl (cond_t hp)
          exact L_val hS rfl (Ob_c tTreeW rfl) ⟨(by rw [hp]; rfl), hG⟩
         refine .cons (fun ss hlo hhi vals5 xw hG hV => ?_) ?_
         ·obtain rfl : ss = 0 := Nat.le_antisymm hhi hlo
          rw [← hfe]
          have hS := (hfr vals5).sub (ts := [52, 55]) (S' := [(52, vals5 3), (55, vals5 6)]) rfl
          replace hS := hS.conv (t := 52) rfl (show (vals5 3) = .bool (seqB s0.1 s0_2.1) from hV 3 (by decide))
          replace hS := hS.conv (t := 55) rfl (show (vals5 6) = cond (seqB s0.1 s0_2.1) (.bool (s0.2.1 == s0_2.2)) undef from hV 6 (by decide))
          exact L_val hS rfl (Ob_bc (Ob_pick rfl rfl rfl rfl (pick_and _ _)) hb1) ⟨rfl, hG⟩
         refine .cons (fun ss hlo hhi vals5 xw hG hV => ?_) ?_
         ·obtain rfl : ss = 0 := Nat.le_antisymm hhi hlo
          rw [← hfe]
          have hS := (hfr vals5).sub (ts := [56]) (S' := [(56, vals5 7)]) rfl
          replace hS := hS.conv (t := 56) rfl (show (vals5 7) = .bool false from hV 7 (by decide))
          exact L_val hS rfl (Ob_c tTreeW rfl) ⟨rfl, hG⟩
         refine .cons (fun ss hlo hhi vals5 xw hG hV => ?_) ?_
         ·obtain rfl : ss = 0 := Nat.le_antisymm hhi hlo
          rw [← hfe]
          have hS := (hfr vals5).sub (ts := [57, 3]) (S' := [(57, vals5 8), (3, .pointer (some ⟨g1, 0, none⟩))]) rfl
          replace hS := hS.conv (t := 57) rfl (show (vals5 8) = .bool false from hV 8 (by decide))
          exact L_gw (p := false) hS rfl rfl rfl rfl (fun h => by cases h) (fun _ => ⟨rfl, hG⟩)
         refine .cons (fun ss hlo hhi vals5 xw hG hV => ?_) ?_
         ·obtain rfl : ss = 0 := Nat.le_antisymm hhi hlo
          rw [← hfe]
          have hS := (hfr vals5).sub (ts := [57, 6]) (S' := [(57, vals5 8), (6, .pointer (some ⟨b2, 0, none⟩))]) rfl
          replace hS := hS.conv (t := 57) rfl (show (vals5 8) = .bool false from hV 8 (by decide))
          exact L_gw (p := false) hS rfl rfl rfl rfl (fun h => by cases h) (fun _ => ⟨rfl, hG⟩)
         refine .cons (fun ss hlo hhi vals5 xw hG hV => ?_) ?_
         ·obtain rfl : ss = 0 := Nat.le_antisymm hhi hlo
          rw [← hfe]
          have hS := (hfr vals5).sub (ts := [59, 57]) (S' := [(59, vals5 10), (57, vals5 8)]) rfl
          replace hS := hS.conv (t := 59) rfl (show (vals5 10) = undef from hV 10 (by decide))
          replace hS := hS.conv (t := 57) rfl (show (vals5 8) = .bool false from hV 8 (by decide))
          exact L_gw (p := false) hS rfl rfl rfl rfl (fun h => by cases h) (fun _ => ⟨rfl, hG⟩)
         refine .cons (fun ss hlo hhi vals5 xw hG hV => ?_) ?_
         ·obtain rfl : ss = 0 := Nat.le_antisymm hhi hlo
          rw [← hfe]
          have hS := (hfr vals5).sub (ts := [57, 6]) (S' := [(57, vals5 8), (6, .pointer (some ⟨b2, 0, none⟩))]) rfl
          replace hS := hS.conv (t := 57) rfl (show (vals5 8) = .bool false from hV 8 (by decide))
          exact L_gw (p := false) hS rfl rfl rfl rfl (fun h => by cases h) (fun _ => ⟨rfl, hG⟩)
         refine .cons (fun ss hlo hhi vals5 xw hG hV => ?_) ?_
         ·obtain rfl : ss = 0 := Nat.le_antisymm hhi hlo
          rw [← hfe]
          have hS := (hfr vals5).sub (ts := [61, 57]) (S' := [(61, vals5 12), (57, vals5 8)]) rfl
          replace hS := hS.conv (t := 61) rfl (show (vals5 12) = undef from hV 12 (by decide))
          replace hS := hS.conv (t := 57) rfl (show (vals5 8) = .bool false from hV 8 (by decide))
          exact L_gw (p := false) hS rfl rfl rfl rfl (fun h => by cases h) (fun _ => ⟨rfl, hG⟩)
         refine .cons (fun ss hlo hhi vals5 xw hG hV => ?_) ?_
         ·obtain rfl : ss = 0 := Nat.le_antisymm hhi hlo
          rw [← hfe]
          have hS := (hfr vals5).sub (ts := [58, 60, 62, 57]) (S' := [(58, vals5 9), (60, vals5 11), (62, vals5 13), (57, vals5 8)]) rfl
          replace hS := hS.conv (t := 58) rfl (show (vals5 9) = undef from hV 9 (by decide))
          replace hS := hS.conv (t := 60) rfl (show (vals5 11) = undef from hV 11 (by decide))
          replace hS := hS.conv (t := 62) rfl (show (vals5 13) = undef from hV 13 (by decide))
          replace hS := hS.conv (t := 57) rfl (show (vals5 8) = .bool false from hV 8 (by decide))
          exact L_gw (p := false) hS rfl rfl rfl rfl (fun h => by cases h) (fun _ => ⟨rfl, hG⟩)
         refine .cons (fun ss hlo hhi vals5 xw hG hV => ?_) ?_
         ·obtain rfl : ss = 0 := Nat.le_antisymm hhi hlo
          rw [← hfe]
          have hS := (hfr vals5).sub (ts := [57, 4]) (S' := [(57, vals5 8), (4, .pointer (some ⟨b1, 0, none⟩))]) rfl
          replace hS := hS.conv (t := 57) rfl (show (vals5 8) = .bool false from hV 8 (by decide))
          exact L_gw (p := false) hS rfl rfl rfl rfl (fun h => by cases h) (fun _ => ⟨rfl, hG⟩)
         refine .cons (fun ss hlo hhi vals5 xw hG hV => ?_) ?_
         ·obtain rfl : ss = 0 := Nat.le_antisymm hhi hlo
          rw [← hfe]
          have hS := (hfr vals5).sub (ts := [57, 6]) (S' := [(57, vals5 8), (6, .pointer (some ⟨b2, 0, none⟩))]) rfl
          replace hS := hS.conv (t := 57) rfl (show (vals5 8) = .bool false from hV 8 (by decide))
          exact L_gw (p := false) hS rfl rfl rfl rfl (fun h => by cases h) (fun _ => ⟨rfl, hG⟩)
         refine .cons (fun ss hlo hhi vals5 xw hG hV => ?_) ?_
         ·obtain rfl : ss = 0 := Nat.le_antisymm hhi hlo
          rw [← hfe]
          have hS := (hfr vals5).sub (ts := [65, 57]) (S' := [(65, vals5 16), (57, vals5 8)]) rfl
          replace hS := hS.conv (t := 65) rfl (show (vals5 16) = undef from hV 16 (by decide))
          replace hS := hS.conv (t := 57) rfl (show (vals5 8) = .bool false from hV 8 (by decide))
          exact L_gw (p := false) hS rfl rfl rfl rfl (fun h => by cases h) (fun _ => ⟨rfl, hG⟩)
         refine .cons (fun ss hlo hhi vals5 xw hG hV => ?_) ?_
         ·obtain rfl : ss = 0 := Nat.le_antisymm hhi hlo
          rw [← hfe]
          have hS := (hfr vals5).sub (ts := [57, 6]) (S' := [(57, vals5 8), (6, .pointer (some ⟨b2, 0, none⟩))]) rfl
          replace hS := hS.conv (t := 57) rfl (show (vals5 8) = .bool false from hV 8 (by decide))
          exact L_gw (p := false) hS rfl rfl rfl rfl (fun h => by cases h) (fun _ => ⟨rfl, hG⟩)
         refine .cons (fun ss hlo hhi vals5 xw hG hV => ?_) ?_
         ·obtain rfl : ss = 0 := Nat.le_antisymm hhi hlo
          rw [← hfe]
          have hS := (hfr vals5).sub (ts := [67, 57]) (S' := [(67, vals5 18), (57, vals5 8)]) rfl
          replace hS := hS.conv (t := 67) rfl (show (vals5 18) = undef from hV 18 (by decide))
          replace hS := hS.conv (t := 57) rfl (show (vals5 8) = .bool false from hV 8 (by decide))
          exact L_gw (p := false) hS rfl rfl rfl rfl (fun h => by cases h) (fun _ => ⟨rfl, hG⟩)
         refine .cons (fun ss hlo hhi vals5 xw hG hV => ?_) ?_
         ·obtain rfl : ss = 0 := Nat.le_antisymm hhi hlo
          rw [← hfe]
          have hS := (hfr vals5).sub (ts := [64, 66, 68, 57]) (S' := [(64, vals5 15), (66, vals5 17), (68, vals5 19), (57, vals5 8)]) rfl
          replace hS := hS.conv (t := 64) rfl (show (vals5 15) = undef from hV 15 (by decide))
          replace hS := hS.conv (t := 66) rfl (show (vals5 17) = undef from hV 17 (by decide))
          replace hS := hS.conv (t := 68) rfl (show (vals5 19) = undef from hV 19 (by decide))
          replace hS := hS.conv (t := 57) rfl (show (vals5 8) = .bool false from hV 8 (by decide))
          exact L_gw (p := false) hS rfl rfl rfl rfl (fun h => by cases h) (fun _ => ⟨rfl, hG⟩)
         refine .cons (fun ss hlo hhi vals5 xw hG hV => ?_) ?_
         ·obtain rfl : ss = 0 := Nat.le_antisymm hhi hlo
          rw [← hfe]
          have hS := (hfr vals5).sub (ts := [63, 69, 57]) (S' := [(63, vals5 14), (69, vals5 20), (57, vals5 8)]) rfl
          replace hS := hS.conv (t := 63) rfl (show (vals5 14) = undef from hV 14 (by decide))
          replace hS := hS.conv (t := 69) rfl (show (vals5 20) = undef from hV 20 (by decide))
          replace hS := hS.conv (t := 57) rfl (show (vals5 8) = .bool false from hV 8 (by decide))
          exact L_gw (p := false) hS rfl rfl rfl rfl (fun h => by cases h) (fun _ => ⟨rfl, hG⟩)
         refine .cons (fun ss hlo hhi vals5 xw hG hV => ?_) ?_
         ·obtain rfl : ss = 0 := Nat.le_antisymm hhi hlo
          rw [← hfe]
          have hS := (hfr vals5).sub (ts := [57, 70]) (S' := [(57, vals5 8), (70, vals5 21)]) rfl
          replace hS := hS.conv (t := 57) rfl (show (vals5 8) = .bool false from hV 8 (by decide))
          replace hS := hS.conv (t := 70) rfl (show (vals5 21) = undef from hV 21 (by decide))
          exact L_val hS rfl (Ob_pick rfl rfl rfl rfl rfl) ⟨rfl, hG⟩
         refine .cons (fun ss hlo hhi vals5 xw hG hV => ?_) ?_
         ·obtain rfl : ss = 0 := Nat.le_antisymm hhi hlo
          rw [← hfe]
          have hS := (hfr vals5).sub (ts := [71]) (S' := [(71, vals5 22)]) rfl
          replace hS := hS.conv (t := 71) rfl (show (vals5 22) = .bool false from hV 22 (by decide))
          exact L_val hS rfl (Ob_c tTreeW rfl) ⟨rfl, hG⟩
         exact .nil
        ·intro vals5 a w16 Z hG hV
         replace Z := Z.sub (ts := [0, 2, 3, 4, 5, 6, 7, 19, 20, 21, 22, 23, 26, 29, 30, 31, 32, 33, 34, 72, 73, 89, 88, 100, 99, 36, 37, 38, 39, 35, 40, 41, 12, 13, 43, 44, 45, 46, 42, 47, 48, 14, 15, 49, 50, 51, 52, 56, 57, 71]) (S' := [(0, v1_l), (2, .bool false), (3, .pointer (some ⟨g1, 0, none⟩)), (4, .pointer (some ⟨b1, 0, none⟩)), (5, .int .i64 i_2), (6, .pointer (some ⟨b2, 0, none⟩)), (7, vals5 23), (19, .int .i64 i_2), (20, v1_l), (21, .int .i64 (l.length : Int)), (22, .bool (decide (i_2 < (l.length : Int)))), (23, .bool (decide (i_2 < (l.length : Int)))), (26, .bool ((decide (i_2 < (l.length : Int))) && (decide (i_2 < 60)))), (29, v1_l), (30, .int .i64 i_2), (31, .pointer (some ⟨blkOf v1_l, oofOf v1_l + (i_2).toNat * 4, none⟩)), (32, .agg #[.int .i64 ((l.getD (i_2).toNat default).c), .string ((l.getD (i_2).toNat default).k), .string ((l.getD (i_2).toNat default).to_), .int .i64 ((l.getD (i_2).toNat default).v)]), (33, .pointer (some ⟨b2, 0, none⟩)), (34, .int .i64 ((l.getD (i_2).toNat default).c)), (72, .bool x_4), (73, .bool (((l.getD (i_2).toNat default).c) == 0)), (89, .bool (((l.getD (i_2).toNat default).c) == 2)), (88, .bool (((l.getD (i_2).toNat default).c) == 2)), (100, .bool (((l.getD (i_2).toNat default).c) == 3)), (99, .bool (((l.getD (i_2).toNat default).c) == 3)), (36, .pointer (some ⟨g1, 0, none⟩)), (37, .pointer (some ⟨b2, 1, none⟩)), (38, .string ((l.getD (i_2).toNat default).k)), (39, .tuple #[.string s0.1, .bool s0.2.1]), (35, .tuple #[.string s0.1, .bool s0.2.1]), (40, .string s0.1), (41, .bool s0.2.1), (12, .string s0.1), (13, .bool s0.2.1), (43, .pointer (some ⟨b1, 0, none⟩)), (44, .pointer (some ⟨b2, 1, none⟩)), (45, .string ((l.getD (i_2).toNat default).k)), (46, .tuple #[.string s0_2.1, .bool s0_2.2]), (42, .tuple #[.string s0_2.1, .bool s0_2.2]), (47, .string s0_2.1), (48, .bool s0_2.2), (14, .string s0_2.1), (15, .bool s0_2.2), (49, vals5 0), (50, vals5 1), (51, vals5 2), (52, vals5 3), (56, vals5 7), (57, vals5 8), (71, vals5 22)]) rfl
         replace Z := Z.conv (t := 7) rfl (show (vals5 23) = .bool false from hV 23 (by decide))
         replace Z := Z.conv (t := 49) rfl (show (vals5 0) = .string s0.1 from hV 0 (by decide))
         replace Z := Z.conv (t := 50) rfl (show (vals5 1) = .string s0_2.1 from hV 1 (by decide))
         replace Z := Z.conv (t := 51) rfl (show (vals5 2) = .bool (seqB s0.1 s0_2.1) from hV 2 (by decide))
         replace Z := Z.conv (t := 52) rfl (show (vals5 3) = .bool (seqB s0.1 s0_2.1) from hV 3 (by decide))
         replace Z := Z.conv (t := 56) rfl (show (vals5 7) = .bool false from hV 7 (by decide))
         replace Z := Z.conv (t := 57) rfl (show (vals5 8) = .bool false from hV 8 (by decide))
         replace Z := Z.conv (t := 71) rfl (show (vals5 22) = .bool false from hV 22 (by decide))
         obtain ⟨I13, _, H⟩ := Gx.ex hG
         clear hG hV
         replace Z := Z.sub (ts := [0, 2, 3, 4, 5, 6, 7, 19, 20, 21, 22, 23, 26, 29, 30, 31, 32, 33, 34, 72, 73, 89, 88, 100, 99, 36, 37, 38, 39, 35, 40, 41, 12, 13, 43, 44, 45, 46, 42, 47, 48, 14, 15, 49, 50, 51, 52, 56, 57, 71]) rfl
         replace H : Hf I D w I13 w16 [OEref15_Tree b1 ({ l := x } : Eref15_Tree), OEtree_Tree_int g1 s0.2.2, BxC b2 40 [.int .i64 ((l.getD (i_2).toNat default).c), .string ((l.getD (i_2).toNat default).k), .string ((l.getD (i_2).toNat default).to_), .int .i64 ((l.getD (i_2).toNat default).v)], SlC NElaw15_Act v1_l l] := H
         refine p_blk ?_
         refine p_then ?_
         exact ⟨false, x_4, s0.2.2, ({ l := x } : Eref15_Tree), Z.sub (ts := [0, 2, 3, 4, 5, 6, 7, 19, 20, 21, 22, 23, 26, 29, 30, 31, 32, 33, 34, 72, 73]) rfl, ⟨I13, (H.sub [(1, false), (0, false), (0, false), (0, true)] rfl).eq rfl⟩, hF⟩
   ·skip
    refine wp_seq (f_region Z ?_); clear Z; intro Z
    refine s_runk tTreeW Z 2 rfl rfl ?_; clear Z a; intro a Z
    refine s_end Z [0, 2, 3, 4, 5, 19, 20, 21, 22, 23, 26, 29, 30, 31, 32, 6, 7, 33, 34, 73, 72] rfl ?_; clear Z; intro Z
    refine p_then ?_
    refine f_cond Z rfl (fun hc6 => ?_) (fun hc6 => ?_)
    ·replace hF := ite_t hc6 hF
     refine wp_skip ?_
     refine p_then ?_
     exact ⟨((l.getD (i_2).toNat default).c) == 0, Z.sub (ts := [0, 2, 3, 4, 5, 6, 7, 19, 20, 21, 22, 23, 26, 29, 30, 31, 32, 33, 34, 72, 73]) rfl, ⟨I2, (H.sub [(1, false), (1, false), (0, false), (0, true), (1, false)] rfl).eq rfl⟩, hF⟩
    ·replace hF := ite_f hc6 hF
     refine f_region Z ?_; clear Z; intro Z
     refine s_runk tTreeW Z 2 rfl rfl ?_; clear Z a; intro a Z
     refine s_end Z [0, 2, 3, 4, 5, 19, 20, 21, 22, 23, 26, 29, 30, 31, 32, 6, 7, 33, 34, 73, 72, 74] rfl ?_; clear Z; intro Z
     refine p_then ?_
     exact ⟨((l.getD (i_2).toNat default).c) == 1, Z.sub (ts := [0, 2, 3, 4, 5, 6, 7, 19, 20, 21, 22, 23, 26, 29, 30, 31, 32, 33, 34, 72, 73]) rfl, ⟨I2, (H.sub [(1, false), (1, false), (0, false), (0, true), (1, false)] rfl).eq rfl⟩, hF⟩
 ·replace hF := ite_f hc1 hF
  refine wp_exit ?_
  refine p_then_x ?_
  refine p_then_x ?_
  refine f_exit_here ?_
  refine p_then (wp_seq ?_)
  obtain ⟨k_3, hx14, hF⟩ := bnd_in hF
  obtain ⟨k_4, hx15, hF⟩ := bnd_in hF
  obtain ⟨s0_4, hx16, hF⟩ := bnd_in hF
  obtain ⟨a0, hx17, hF⟩ := bnd_in hF
  refine f_region Z ?_; clear Z; intro Z
  refine s_runk tTreeW Z 1 rfl rfl ?_; clear Z a; intro a Z
  refine h_call Z H (js := [(0, false)]) rfl (caps := #[]) fn_12_YTreeW rfl rfl rfl rfl rfl (by decide) rfl rfl (fun D1 hS => have hq := c_tree_Tree_int_Keys hx14 hS; hq) ?_; clear Z a; intro vv a w17 D2 hr hF2 Z
  obtain ⟨q1, hvv, I14, K⟩ := hr; obtain rfl := hvv.symm
  have H : Hf I D w I14 w17 [OEtree_Tree_int g1 k_3.2, SlC NS q1 k_3.1, BxC b1 38 [v2], SlC NElaw15_Act v1_l l, OwC NEref15_Row 60 v2 x] := hF2 K
  clear hF2 K
  refine s_runk tTreeW Z 1 rfl rfl ?_; clear Z a; intro a Z
  replace H : Hf I D w I14 w17 [OEref15_Tree b1 ({ l := x } : Eref15_Tree), OEtree_Tree_int g1 k_3.2, SlC NS q1 k_3.1, SlC NElaw15_Act v1_l l] := H.shutX (v2) [(2, false), (3, false)] rfl
  refine h_call Z H (js := [(0, false)]) rfl (caps := #[]) fn_21_YTreeW rfl rfl rfl rfl rfl (by decide) rfl rfl (fun D1 hS => have hq := c_ref15_Tree_Keys hx15 hS; hq) ?_; clear Z a; intro vv a w18 D2 hr hF2 Z
  obtain ⟨q2, hvv, I15, K⟩ := hr; obtain rfl := hvv.symm
  have H : Hf I D w I15 w18 [OEref15_Tree b1 ({ l := x } : Eref15_Tree), SlC NS q2 k_4, OEtree_Tree_int g1 k_3.2, SlC NS q1 k_3.1, SlC NElaw15_Act v1_l l] := hF2 K
  clear hF2 K
  refine h_call Z H (js := [(3, true), (1, true)]) rfl (caps := #[]) fn_11_YTreeW rfl rfl rfl rfl rfl (by decide) rfl rfl (fun D1 hS => have hq := c_ref05_Same hx16 hS; hq) ?_; clear Z a; intro vv a w19 D2 hr hF2 Z
  obtain ⟨rfl, I16, K⟩ := hr
  have H : Hf I D w I16 w19 [OEref15_Tree b1 ({ l := x } : Eref15_Tree), SlC NS q2 k_4, OEtree_Tree_int g1 k_3.2, SlC NS q1 k_3.1, SlC NElaw15_Act v1_l l] := hF2 K
  clear hF2 K
  refine s_runk tTreeW Z 1 rfl rfl ?_; clear Z a; intro a Z
  refine g_call Z (p := s0_4) (v := .bool a0) (S' := []) (caps := #[]) fn_14_YTreeW rfl rfl rfl (wantB_t _) rfl (by decide) (fun hp hS => hS.sub (ts := []) rfl) rfl rfl rfl rfl (fun hp => have hq := c_law15_awake (gif_in hx17 hp) (H.pick0 (js := []) rfl rfl); plainC hq) ?_; clear Z a; intro a w20 hb Z
  replace H : Hf I D w I16 w20 [OEref15_Tree b1 ({ l := x } : Eref15_Tree), SlC NS q2 k_4, OEtree_Tree_int g1 k_3.2, SlC NS q1 k_3.1, SlC NElaw15_Act v1_l l] := H.blw hb
  clear hb
  refine s_ob Z (v := .bool (s0_4 && a0)) rfl rfl (by decide) rfl (Ob_pick rfl rfl rfl rfl (pick_and _ _)) ?_; clear Z a; intro a Z
  refine s_runk tTreeW Z 1 rfl rfl ?_; clear Z a; intro a Z
  refine s_end Z [2] rfl ?_; clear Z; intro Z
  refine p_then (wp_ret ?_)
  obtain rfl := some_in hF
  exact f_ret Z (run_results1 rfl Z rfl) ⟨rfl, I16, (H.sub [] rfl).eq rfl⟩

end Go.Proofs.Ytfcdghlgcnjkoaa
