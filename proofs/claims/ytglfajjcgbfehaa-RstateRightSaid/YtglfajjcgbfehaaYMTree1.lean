/- Trees of versions: going through them; the methods. -/
import Derived.Test.YtglfajjcgbfehaaYMTree
namespace Go.Proofs.Ytglfajjcgbfehaa
open Go.RowKit
structure Etree_Tree_api_Cell where
 top : TT (List ECell)
 n : Int
 made : Bool

instance : Inhabited Etree_Tree_api_Cell := ⟨⟨TT.nil, 0, false⟩⟩

def cEtree_Tree_api_Cell (x : Etree_Tree_api_Cell) (v0 : Value) : List Value := [v0, .int .i64 x.n, .bool x.made]

def OEtree_Tree_api_Cell (b : Nat) (x : Etree_Tree_api_Cell) : Ch := ExC fun (p : Value) => [BxC b 133 (cEtree_Tree_api_Cell x p), TrG NECell 145 x.top p]

def tMTree1L : TabL := ⟨[(136192, 0), (136193, 1), (136194, 2), (148480, 0), (148483, 3), (148484, 4)], [], [], [(99, (9, 1))], [(3, (1, false)), (4, (1, false)), (9, (1, false)), (84, (1, false)), (99, (1, false)), (131, (1, false)), (133, (3, true))]⟩

def tMTree1 : Tab Try.prog := ⟨tMTree1L, by kernel_rfl⟩

theorem fn_78_YMTree1 : IsFn Try.prog 78 := ⟨_, Try.func78, by kernel_rfl, by kernel_rfl⟩

theorem fn_89_YMTree1 : IsFn Try.prog 89 := ⟨_, Try.func89, by kernel_rfl, by kernel_rfl⟩

def F_tree_New_api_Cell : Option Etree_Tree_api_Cell := some ({ (default : Etree_Tree_api_Cell) with made := true } : Etree_Tree_api_Cell)

set_option maxHeartbeats 1000000 in
theorem c_tree_New_api_Cell {I D : Dm} {w : World} {rr : Etree_Tree_api_Cell} (hF : F_tree_New_api_Cell = some rr) (H : St I D w []) :
  Calls Try.prog 39 #[] w (Ret fun vv w' => ∃ g1 : Nat, vv = .pointer (some ⟨g1, 0, none⟩) ∧ ∃ I', Hf I D w I' w' [OEtree_Tree_api_Cell g1 rr]) := by
 replace H := H.hf
 unfold F_tree_New_api_Cell at hF
 refine f_enter 3 Try.func39 rfl rfl (Nat.le_of_ble_eq_true rfl) fun a Z => ?_
 replace Z := Z.sub (ts := []) rfl
 refine wp_seq (f_region Z ?_); clear Z; intro Z
 refine s_runk tMTree1 Z 1 rfl rfl ?_; clear Z a; intro a Z
 refine s_end Z [0] rfl ?_; clear Z; intro Z
 refine p_then (wp_seq (f_region Z ?_)); clear Z; intro Z
 refine s_ob Z (v := .agg #[.pointer none, .int .i64 0, .bool true]) rfl rfl (by decide) rfl (Ob_build (vs := [(2, .bool true)]) rfl rfl (by go_simp <;> rfl)) ?_; clear Z a; intro a Z
 refine h_boxv Z H (cl := [.pointer none, .int .i64 0, .bool true]) rfl rfl rfl (by decide) rfl rfl rfl ?_; clear Z a H; intro a w1 b1 H Z
 refine s_runk tMTree1 Z 1 rfl rfl ?_; clear Z a; intro a Z
 refine s_end Z [0] rfl ?_; clear Z; intro Z
 refine p_then (wp_ret ?_)
 replace H : Hf I D w I w1 [TrG NECell 145 TT.nil (.pointer none), BxC b1 133 [.pointer none, .int .i64 0, .bool true]] := H.mkTNG NECell 145
 replace H : Hf I D w I w1 [OEtree_Tree_api_Cell b1 ({ (default : Etree_Tree_api_Cell) with made := true } : Etree_Tree_api_Cell)] := H.shutX (.pointer none) [(1, false), (0, false)] rfl
 obtain rfl := some_in hF
 exact f_ret Z (run_results1 rfl Z rfl) ⟨b1, rfl, I, (H.sub [(0, false)] rfl).eq rfl⟩

def F_tree_Tree_api_Cell_none (t : Etree_Tree_api_Cell) : Option Bool := some (!t.made)

set_option maxHeartbeats 1000000 in
theorem c_tree_Tree_api_Cell_none {I D : Dm} {b_t : Nat} {t : Etree_Tree_api_Cell} {w : World} {rr : Bool} (hF : F_tree_Tree_api_Cell_none t = some rr) (H : St I D w [OEtree_Tree_api_Cell b_t t]) :
  Calls Try.prog 78 #[.pointer (some ⟨b_t, 0, none⟩)] w (Ret fun vv w' => vv = .bool rr ∧ ∃ I', Hf I D w I' w' [OEtree_Tree_api_Cell b_t t]) := by
 replace H := H.hf
 unfold F_tree_Tree_api_Cell_none at hF
 refine f_enter 12 Try.func78 rfl rfl (Nat.le_of_ble_eq_true rfl) fun a Z => ?_
 replace Z := Z.sub (ts := [0]) rfl
 refine wp_seq (f_region Z ?_); clear Z; intro Z
 refine s_runk tMTree1 Z 1 rfl rfl ?_; clear Z a; intro a Z
 refine s_end Z [0, 2] rfl ?_; clear Z; intro Z
 refine p_then (wp_seq (f_region Z ?_)); clear Z; intro Z
 refine s_runk tMTree1 Z 1 rfl rfl ?_; clear Z a; intro a Z
 refine s_ob Z (v := .bool false) rfl rfl (by decide) rfl (Ob_pnil rfl rfl rfl Try.underlying84 (.inl ⟨rfl, rfl⟩)) ?_; clear Z a; intro a Z
 refine s_runk tMTree1 Z 1 rfl rfl ?_; clear Z a; intro a Z
 refine g_if Z rfl rfl rfl (p := true) rfl rfl (by decide) (fun _ => ?_) (fun h => by cases h)
 refine s_runk tMTree1 Z 1 rfl rfl ?_; clear Z a; intro a Z
 refine g_if Z rfl rfl rfl (p := true) rfl rfl (by decide) (fun _ => ?_) (fun h => by cases h)
 refine s_runk tMTree1 Z 1 rfl rfl ?_; clear Z a; intro a Z
 refine g_if Z rfl rfl rfl (p := true) rfl rfl (by decide) (fun _ => ?_) (fun h => by cases h)
 refine s_runk tMTree1 Z 1 rfl rfl ?_; clear Z a; intro a Z
 refine g_if Z rfl rfl rfl (p := true) rfl rfl (by decide) (fun _ => ?_) (fun h => by cases h)
 obtain ⟨v1, H⟩ := H.openX 0 rfl
 replace H : Hf I D w I w [BxC b_t 133 [v1, .int .i64 t.n, .bool t.made], TrG NECell 145 t.top v1] := H
 refine s_ob Z (v := .bool t.made) rfl rfl (by decide) rfl (Ob_load tMTree1 rfl rfl rfl ((H.bx 0 rfl).cell 2 rfl)) ?_; clear Z a; intro a Z
 refine g_if Z rfl rfl rfl (p := true) rfl rfl (by decide) (fun _ => ?_) (fun h => by cases h)
 refine s_runk tMTree1 Z 1 rfl rfl ?_; clear Z a; intro a Z
 refine s_ob Z (v := .bool (!t.made)) rfl rfl (by decide) rfl (Ob_pick rfl rfl rfl rfl rfl) ?_; clear Z a; intro a Z
 refine s_runk tMTree1 Z 1 rfl rfl ?_; clear Z a; intro a Z
 refine s_end Z [2] rfl ?_; clear Z; intro Z
 refine p_then (wp_ret ?_)
 replace H : Hf I D w I w [OEtree_Tree_api_Cell b_t t] := H.shutX (v1) [(0, false), (0, false)] rfl
 obtain rfl := some_in hF
 exact f_ret Z (run_results1 rfl Z rfl) ⟨rfl, I, (H.sub [(0, false)] rfl).eq rfl⟩

def F_tree_Tree_api_Cell_Put_k1 (t : Etree_Tree_api_Cell) (had : Bool) (yb_t_top : TT (List ECell)) (yb_t_n : Int) : Option (Bool × Etree_Tree_api_Cell) := some (had, ({ t with top := yb_t_top, n := yb_t_n } : Etree_Tree_api_Cell))

def F_tree_Tree_api_Cell_Put (t : Etree_Tree_api_Cell) (k : ByteArray) (v : List ECell) : Option (Bool × Etree_Tree_api_Cell) := (F_tree_Tree_api_Cell_none t).bind fun n0 => (if (n0) = true then (some (false, t)) else ((F_tree_put_api_Cell t.top k v).bind fun c => (if (!c.2) = true then (chk (inI (t.n + 1)) (F_tree_Tree_api_Cell_Put_k1 t c.2 c.1 (t.n + 1))) else (F_tree_Tree_api_Cell_Put_k1 t c.2 c.1 t.n))))

set_option maxHeartbeats 1000000 in
theorem c_tree_Tree_api_Cell_Put {I D : Dm} {b_t : Nat} {t : Etree_Tree_api_Cell} {k : ByteArray} {v : List ECell} {v1_v : Value} {w : World} {rr : Bool × Etree_Tree_api_Cell} (hF : F_tree_Tree_api_Cell_Put t k v = some rr) (H : St I D w [OEtree_Tree_api_Cell b_t t, SlC NECell v1_v v]) :
  Calls Try.prog 73 #[.pointer (some ⟨b_t, 0, none⟩), .string k, v1_v] w (Ret fun vv w' => vv = .bool rr.1 ∧ ∃ I', Hf I D w I' w' [OEtree_Tree_api_Cell b_t rr.2]) := by
 replace H := H.hf
 unfold F_tree_Tree_api_Cell_Put at hF
 refine f_enter 33 Try.func73 rfl rfl (Nat.le_of_ble_eq_true rfl) fun a Z => ?_
 replace Z := Z.sub (ts := [0, 1, 2]) rfl
 refine wp_seq (f_region Z ?_); clear Z; intro Z
 refine s_runk tMTree1 Z 1 rfl rfl ?_; clear Z a; intro a Z
 refine s_end Z [0, 1, 2, 6] rfl ?_; clear Z; intro Z
 refine p_then (wp_seq ?_)
 refine wp_seq ?_
 obtain ⟨n0, hx1, hF⟩ := bnd_in hF
 refine f_region Z ?_; clear Z; intro Z
 refine s_runk tMTree1 Z 1 rfl rfl ?_; clear Z a; intro a Z
 refine h_call Z H (js := [(0, false)]) rfl (caps := #[]) fn_78_YMTree1 rfl rfl rfl rfl rfl (by decide) rfl rfl (fun D1 hS => have hq := c_tree_Tree_api_Cell_none hx1 hS; hq) ?_; clear Z a; intro vv a w1 D2 hr hF2 Z
 obtain ⟨rfl, I1, K⟩ := hr
 have H : Hf I D w I1 w1 [OEtree_Tree_api_Cell b_t t, SlC NECell v1_v v] := hF2 K
 clear hF2 K
 refine s_end Z [0, 1, 2, 6, 9] rfl ?_; clear Z; intro Z
 refine p_then ?_
 refine f_cond Z rfl (fun hc1 => ?_) (fun hc1 => ?_)
 ·replace hF := ite_t hc1 hF
  refine wp_seq (f_region Z ?_); clear Z; intro Z
  refine s_runk tMTree1 Z 1 rfl rfl ?_; clear Z a; intro a Z
  refine s_end Z [0, 1, 2, 6] rfl ?_; clear Z; intro Z
  refine p_then (wp_ret ?_)
  refine p_then_r ?_
  obtain rfl := some_in hF
  exact f_ret Z (run_results1 rfl Z rfl) ⟨rfl, I1, (H.sub [(0, false)] rfl).eq rfl⟩
 ·replace hF := ite_f hc1 hF
  refine wp_skip ?_
  refine p_then (wp_seq (f_region Z ?_)); clear Z; intro Z
  refine s_runk tMTree1 Z 1 rfl rfl ?_; clear Z a; intro a Z
  refine s_end Z [0, 1, 2, 6, 7] rfl ?_; clear Z; intro Z
  refine p_then ?_
  refine f_cut (fun a' w' => ∃ (had : Bool) (yb_t_top : TT (List ECell)) (yb_t_n : Int), ∃ v2 : Value, Sl 33 [(6, .bool false), (7, .bool had)] a' ∧ (∃ I2, Hf I D w I2 w' [BxC b_t 133 [v2, .int .i64 yb_t_n, .bool t.made], TrG NECell 145 yb_t_top v2]) ∧ F_tree_Tree_api_Cell_Put_k1 t had yb_t_top yb_t_n = some rr) ?_ ?_
  ·rintro a w2 ⟨had, yb_t_top, yb_t_n, v2, Z, ⟨I2, H⟩, hF⟩
   unfold F_tree_Tree_api_Cell_Put_k1 at hF
   try dsimp only at hF
   refine wp_seq (f_region Z ?_); clear Z; intro Z
   refine s_runk tMTree1 Z 2 rfl rfl ?_; clear Z a; intro a Z
   refine s_end Z [6] rfl ?_; clear Z; intro Z
   refine p_then (wp_ret ?_)
   replace H : Hf I D w I2 w2 [OEtree_Tree_api_Cell b_t ({ t with top := yb_t_top, n := yb_t_n } : Etree_Tree_api_Cell)] := H.shutX (v2) [(0, false), (0, false)] rfl
   obtain rfl := some_in hF
   exact f_ret Z (run_results1 rfl Z rfl) ⟨rfl, I2, (H.sub [(0, false)] rfl).eq rfl⟩
  ·skip
   refine wp_seq ?_
   obtain ⟨c, hx2, hF⟩ := bnd_in hF
   refine f_region Z ?_; clear Z; intro Z
   refine s_runk tMTree1 Z 4 rfl rfl ?_; clear Z a; intro a Z
   obtain ⟨v3, H⟩ := H.openX 0 rfl
   replace H : Hf I D w I1 w1 [BxC b_t 133 [v3, .int .i64 t.n, .bool t.made], TrG NECell 145 t.top v3, SlC NECell v1_v v] := H
   refine s_ob Z (v := v3) rfl rfl (by decide) rfl (Ob_load tMTree1 rfl rfl rfl ((H.bx 0 rfl).cell 0 rfl)) ?_; clear Z a; intro a Z
   refine s_runk tMTree1 Z 2 rfl rfl ?_; clear Z a; intro a Z
   refine h_call Z H (js := [(1, false), (1, true)]) rfl (caps := #[]) fn_89_YMTree1 rfl rfl rfl rfl rfl (by decide) rfl rfl (fun D1 hS => have hq := c_tree_put_api_Cell hx2 hS; hq) ?_; clear Z a; intro vv a w3 D2 hr hF2 Z
   obtain ⟨q1, rfl, I3, K⟩ := hr
   have H : Hf I D w I3 w3 [TrG NECell 145 c.1 q1, BxC b_t 133 [v3, .int .i64 t.n, .bool t.made], SlC NECell v1_v v] := hF2 K
   clear hF2 K
   refine s_runk tMTree1 Z 5 rfl rfl ?_; clear Z a; intro a Z
   refine h_store tMTree1 Z H 1 rfl rfl rfl rfl rfl rfl (H.trPG 0 rfl).cells rfl rfl (one_cons (H.trPG 0 rfl).one one_nil) (Nat.le_of_ble_eq_true rfl) rfl ?_; clear H; intro w4 H
   dsimp only [List.eraseIdx] at H
   refine s_runk tMTree1 Z 1 rfl rfl ?_; clear Z a; intro a Z
   refine s_end Z [0, 6, 7] rfl ?_; clear Z; intro Z
   refine p_then (wp_seq (f_region Z ?_)); clear Z; intro Z
   refine s_runk tMTree1 Z 2 rfl rfl ?_; clear Z a; intro a Z
   refine s_end Z [0, 6, 7, 24] rfl ?_; clear Z; intro Z
   refine p_then ?_
   refine f_cond Z rfl (fun hc2 => ?_) (fun hc2 => ?_)
   ·replace hF := ite_t hc2 hF
    obtain ⟨hg1, hF⟩ := chk_in hF
    refine f_region Z ?_; clear Z; intro Z
    refine s_runk tMTree1 Z 3 rfl rfl ?_; clear Z a; intro a Z
    refine s_ob Z (v := .int .i64 t.n) rfl rfl (by decide) rfl (Ob_load tMTree1 rfl rfl rfl ((H.bx 0 rfl).cell 1 rfl)) ?_; clear Z a; intro a Z
    refine s_ob Z (v := .int .i64 (t.n + 1)) rfl rfl (by decide) rfl (Ob_add rfl rfl rfl (wrI hg1)) ?_; clear Z a; intro a Z
    refine s_runk tMTree1 Z 2 rfl rfl ?_; clear Z a; intro a Z
    refine h_store tMTree1 Z H 0 rfl rfl rfl rfl rfl rfl rfl rfl rfl (one_cons rfl one_nil) (Nat.le_of_ble_eq_true rfl) rfl ?_; clear H; intro w5 H
    dsimp only [List.eraseIdx] at H
    refine s_end Z [6, 7] rfl ?_; clear Z; intro Z
    refine p_then ?_
    exact ⟨c.2, c.1, t.n + 1, q1, Z.sub (ts := [6, 7]) rfl, ⟨I3, (H.sub [(0, false), (0, false)] rfl).eq rfl⟩, hF⟩
   ·replace hF := ite_f hc2 hF
    refine wp_skip ?_
    refine p_then ?_
    exact ⟨c.2, c.1, t.n, q1, Z.sub (ts := [6, 7]) rfl, ⟨I3, (H.sub [(0, false), (0, false)] rfl).eq rfl⟩, hF⟩

end Go.Proofs.Ytglfajjcgbfehaa
