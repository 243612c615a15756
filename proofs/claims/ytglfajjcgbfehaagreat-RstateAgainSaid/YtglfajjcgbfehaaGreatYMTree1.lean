/- Trees of versions: going through them; the methods. -/
import Derived.Test.YtglfajjcgbfehaaGreatYMTree
namespace Go.Proofs.YtglfajjcgbfehaaGreat
open Go.RowKit
structure Etree_Tree_api_Cell where
 top : TT (List ECell)
 n : Int
 made : Bool

instance : Inhabited Etree_Tree_api_Cell := ⟨⟨TT.nil, 0, false⟩⟩

def cEtree_Tree_api_Cell (x : Etree_Tree_api_Cell) (v0 : Value) : List Value := [v0, .int .i64 x.n, .bool x.made]

def OEtree_Tree_api_Cell (b : Nat) (x : Etree_Tree_api_Cell) : Ch := ExC fun (p : Value) => [BxC b 132 (cEtree_Tree_api_Cell x p), TrG NECell 140 x.top p]

def tMTree1L : TabL := ⟨[(135168, 0), (135169, 1), (135170, 2)], [], [], [], [(3, (1, false)), (4, (1, false)), (130, (1, false)), (132, (3, true))]⟩

def tMTree1 : Tab Tryz.prog := ⟨tMTree1L, by kernel_rfl⟩

theorem fn_84_YMTree1 : IsFn Tryz.prog 84 := ⟨_, Tryz.func84, by kernel_rfl, by kernel_rfl⟩

theorem fn_97_YMTree1 : IsFn Tryz.prog 97 := ⟨_, Tryz.func97, by kernel_rfl, by kernel_rfl⟩

def F_tree_New_api_Cell : Option Etree_Tree_api_Cell := some ({ (default : Etree_Tree_api_Cell) with made := true } : Etree_Tree_api_Cell)

set_option maxHeartbeats 1000000 in
theorem c_tree_New_api_Cell {I D : Dm} {w : World} {rr : Etree_Tree_api_Cell} (hF : F_tree_New_api_Cell = some rr) (H : St I D w []) :
  Calls Tryz.prog 43 #[] w (Ret fun vv w' => ∃ g1 : Nat, vv = pp g1 0 ∧ ∃ I', Hf I D w I' w' [OEtree_Tree_api_Cell g1 rr]) := by
 replace H := H.hf
 unfold F_tree_New_api_Cell at hF
 refine f_enter 3 Tryz.func43 rfl rfl (Nat.le_of_ble_eq_true rfl) fun a Z => ?_
 replace Z := Z.sub (ts := []) rfl
 refine sR Z fun Z => ?_
 refine s_runk tMTree1 Z 1 rfl rfl fun a Z => ?_
 refine s_end Z [0] rfl fun Z => ?_
 refine pR Z fun Z => ?_
 refine sO Z (.agg #[nP, vI 0, vT true]) rfl (Ob_build (vs := [(2, vT true)]) rfl rfl (by go_simp <;> rfl)) fun a Z => ?_
 refine hB Z H [nP, vI 0, vT true] rfl rfl rfl rfl fun a w1 b1 H Z => ?_
 refine s_runk tMTree1 Z 1 rfl rfl fun a Z => ?_
 refine s_end Z [0] rfl fun Z => ?_
 refine p_then (wp_ret ?_)
 replace H := H.mkTNG NECell 140
 replace H := H.sX (OEtree_Tree_api_Cell b1 ({ (default : Etree_Tree_api_Cell) with made := true } : Etree_Tree_api_Cell)) (nP) [(1, false), (0, false)] rfl rfl rfl
 obtain rfl := some_in hF
 exact f_ret Z (run_results1 rfl Z rfl) ⟨b1, rfl, I, (H.sub [(0, false)] rfl).eq rfl⟩

def F_tree_Tree_api_Cell_none (t : Etree_Tree_api_Cell) : Option Bool := some (!t.made)

set_option maxHeartbeats 1000000 in
theorem c_tree_Tree_api_Cell_none {I D : Dm} {b_t : Nat} {t : Etree_Tree_api_Cell} {w : World} {rr : Bool} (hF : F_tree_Tree_api_Cell_none t = some rr) (H : St I D w [OEtree_Tree_api_Cell b_t t]) :
  Calls Tryz.prog 84 #[pp b_t 0] w (Ret fun vv w' => vv = vT rr ∧ ∃ I', Hf I D w I' w' [OEtree_Tree_api_Cell b_t t]) := by
 replace H := H.hf
 unfold F_tree_Tree_api_Cell_none at hF
 refine f_enter 12 Tryz.func84 rfl rfl (Nat.le_of_ble_eq_true rfl) fun a Z => ?_
 replace Z := Z.sub (ts := [0]) rfl
 refine sR Z fun Z => ?_
 refine s_runk tMTree1 Z 1 rfl rfl fun a Z => ?_
 refine s_end Z [0, 2] rfl fun Z => ?_
 refine pR Z fun Z => ?_
 refine s_runk tMTree1 Z 1 rfl rfl fun a Z => ?_
 refine sO Z (vT false) rfl (Ob_pnil rfl rfl rfl Tryz.underlying88 (.inl ⟨rfl, rfl⟩)) fun a Z => ?_
 refine s_runk tMTree1 Z 1 rfl rfl fun a Z => ?_
 refine g_if Z rfl rfl rfl (p := true) rfl rfl (by decide) (fun _ => ?_) (fun h => by cases h)
 refine s_runk tMTree1 Z 1 rfl rfl fun a Z => ?_
 refine g_if Z rfl rfl rfl (p := true) rfl rfl (by decide) (fun _ => ?_) (fun h => by cases h)
 refine s_runk tMTree1 Z 1 rfl rfl fun a Z => ?_
 refine g_if Z rfl rfl rfl (p := true) rfl rfl (by decide) (fun _ => ?_) (fun h => by cases h)
 refine s_runk tMTree1 Z 1 rfl rfl fun a Z => ?_
 refine g_if Z rfl rfl rfl (p := true) rfl rfl (by decide) (fun _ => ?_) (fun h => by cases h)
 obtain ⟨v1, H⟩ := H.openX 0 rfl
 replace H := H.nf rfl; try dsimp only at H
 refine sO Z _ rfl (oL tMTree1 rfl rfl (H.bc 0 2 rfl rfl)) fun a Z => ?_
 refine g_if Z rfl rfl rfl (p := true) rfl rfl (by decide) (fun _ => ?_) (fun h => by cases h)
 refine s_runk tMTree1 Z 1 rfl rfl fun a Z => ?_
 refine sO Z (vT (!t.made)) rfl (Ob_pick rfl rfl rfl rfl rfl) fun a Z => ?_
 refine s_runk tMTree1 Z 1 rfl rfl fun a Z => ?_
 refine s_end Z [2] rfl fun Z => ?_
 refine p_then (wp_ret ?_)
 replace H := H.sX (OEtree_Tree_api_Cell b_t t) (v1) [(0, false), (0, false)] rfl rfl rfl
 obtain rfl := some_in hF
 exact f_ret Z (run_results1 rfl Z rfl) ⟨rfl, I, (H.sub [(0, false)] rfl).eq rfl⟩

def F_tree_Tree_api_Cell_Put_k1 (t : Etree_Tree_api_Cell) (had : Bool) (yb_t_top : TT (List ECell)) (yb_t_n : Int) : Option (Bool × Etree_Tree_api_Cell) := some (had, ({ t with top := yb_t_top, n := yb_t_n } : Etree_Tree_api_Cell))

def F_tree_Tree_api_Cell_Put (t : Etree_Tree_api_Cell) (k : ByteArray) (v : List ECell) : Option (Bool × Etree_Tree_api_Cell) := (F_tree_Tree_api_Cell_none t).bind fun n0 => (if (n0) = true then (some (false, t)) else ((F_tree_put_api_Cell t.top k v).bind fun c => (if (!c.2) = true then (chk (inI (t.n + 1)) (F_tree_Tree_api_Cell_Put_k1 t c.2 c.1 (t.n + 1))) else (F_tree_Tree_api_Cell_Put_k1 t c.2 c.1 t.n))))

set_option maxHeartbeats 1000000 in
theorem c_tree_Tree_api_Cell_Put {I D : Dm} {b_t : Nat} {t : Etree_Tree_api_Cell} {k : ByteArray} {v : List ECell} {v1_v : Value} {w : World} {rr : Bool × Etree_Tree_api_Cell} (hF : F_tree_Tree_api_Cell_Put t k v = some rr) (H : St I D w [OEtree_Tree_api_Cell b_t t, SlC NECell v1_v v]) :
  Calls Tryz.prog 83 #[pp b_t 0, vS k, v1_v] w (Ret fun vv w' => vv = vT rr.1 ∧ ∃ I', Hf I D w I' w' [OEtree_Tree_api_Cell b_t rr.2]) := by
 replace H := H.hf
 unfold F_tree_Tree_api_Cell_Put at hF
 refine f_enter 33 Tryz.func83 rfl rfl (Nat.le_of_ble_eq_true rfl) fun a Z => ?_
 replace Z := Z.sub (ts := [0, 1, 2]) rfl
 refine sR Z fun Z => ?_
 refine s_runk tMTree1 Z 1 rfl rfl fun a Z => ?_
 refine s_end Z [0, 1, 2, 6] rfl fun Z => ?_
 refine p_then (wp_seq ?_)
 refine wp_seq ?_
 obtain ⟨n0, hx1, hF⟩ := bnd_in hF
 refine f_region Z fun Z => ?_
 refine s_runk tMTree1 Z 1 rfl rfl fun a Z => ?_
 refine hC Z H [(0, false)] rfl #[] fn_84_YMTree1 rfl rfl (fun D h => have q := c_tree_Tree_api_Cell_none hx1 h; q) fun vv a w1 D2 hr hF2 Z => ?_
 obtain ⟨rfl, I1, K⟩ := hr
 have H := (hF2 K).nf rfl
 refine s_end Z [0, 1, 2, 6, 9] rfl fun Z => ?_
 refine p_then ?_
 refine f_cond Z rfl (fun hc1 => ?_) (fun hc1 => ?_)
 ·replace hF := ite_t hc1 hF
  refine sR Z fun Z => ?_
  refine s_runk tMTree1 Z 1 rfl rfl fun a Z => ?_
  refine s_end Z [0, 1, 2, 6] rfl fun Z => ?_
  refine p_then (wp_ret ?_)
  refine p_then_r ?_
  obtain rfl := some_in hF
  exact f_ret Z (run_results1 rfl Z rfl) ⟨rfl, I1, (H.sub [(0, false)] rfl).eq rfl⟩
 ·replace hF := ite_f hc1 hF
  refine wp_skip ?_
  refine pR Z fun Z => ?_
  refine s_runk tMTree1 Z 1 rfl rfl fun a Z => ?_
  refine s_end Z [0, 1, 2, 6, 7] rfl fun Z => ?_
  refine p_then ?_
  refine f_cut (fun a' w' => ∃ (had : Bool) (yb_t_top : TT (List ECell)) (yb_t_n : Int), ∃ v2 : Value, Sl 33 [(6, vT false), (7, vT had)] a' ∧ (∃ I2, Hf I D w I2 w' [BxC b_t 132 [v2, vI yb_t_n, vT t.made], TrG NECell 140 yb_t_top v2]) ∧ F_tree_Tree_api_Cell_Put_k1 t had yb_t_top yb_t_n = some rr) ?_ ?_
  ·rintro a w2 ⟨had, yb_t_top, yb_t_n, v2, Z, ⟨I2, H⟩, hF⟩
   unfold F_tree_Tree_api_Cell_Put_k1 at hF
   try dsimp only at hF
   refine sR Z fun Z => ?_
   refine s_runk tMTree1 Z 2 rfl rfl fun a Z => ?_
   refine s_end Z [6] rfl fun Z => ?_
   refine p_then (wp_ret ?_)
   replace H := H.sX (OEtree_Tree_api_Cell b_t ({ t with top := yb_t_top, n := yb_t_n } : Etree_Tree_api_Cell)) (v2) [(0, false), (0, false)] rfl rfl rfl
   obtain rfl := some_in hF
   exact f_ret Z (run_results1 rfl Z rfl) ⟨rfl, I2, (H.sub [(0, false)] rfl).eq rfl⟩
  ·skip
   refine wp_seq ?_
   obtain ⟨c, hx2, hF⟩ := bnd_in hF
   refine f_region Z fun Z => ?_
   refine s_runk tMTree1 Z 4 rfl rfl fun a Z => ?_
   obtain ⟨v3, H⟩ := H.openX 0 rfl
   replace H := H.nf rfl; try dsimp only at H
   refine sO Z _ rfl (oL tMTree1 rfl rfl (H.bc 0 0 rfl rfl)) fun a Z => ?_
   refine s_runk tMTree1 Z 2 rfl rfl fun a Z => ?_
   refine hC Z H [(1, false), (1, true)] rfl #[] fn_97_YMTree1 rfl rfl (fun D h => have q := c_tree_put_api_Cell hx2 h; q) fun vv a w3 D2 hr hF2 Z => ?_
   obtain ⟨q1, rfl, I3, K⟩ := hr
   have H := (hF2 K).nf rfl
   refine s_runk tMTree1 Z 5 rfl rfl fun a Z => ?_
   refine hT tMTree1 Z H 1 rfl rfl (H.trPG 0 rfl).cells rfl rfl (one_cons (H.trPG 0 rfl).one one_nil) (Nat.le_of_ble_eq_true rfl) rfl fun w4 H => ?_
   dsimp only [List.eraseIdx] at H
   refine s_runk tMTree1 Z 1 rfl rfl fun a Z => ?_
   refine s_end Z [0, 6, 7] rfl fun Z => ?_
   refine pR Z fun Z => ?_
   refine s_runk tMTree1 Z 2 rfl rfl fun a Z => ?_
   refine s_end Z [0, 6, 7, 24] rfl fun Z => ?_
   refine p_then ?_
   refine f_cond Z rfl (fun hc2 => ?_) (fun hc2 => ?_)
   ·replace hF := ite_t hc2 hF
    obtain ⟨hg1, hF⟩ := chk_in hF
    refine f_region Z fun Z => ?_
    refine s_runk tMTree1 Z 3 rfl rfl fun a Z => ?_
    refine sO Z _ rfl (oL tMTree1 rfl rfl (H.bc 0 1 rfl rfl)) fun a Z => ?_
    refine sO Z (vI (t.n + 1)) rfl (Ob_add rfl rfl rfl (wrI hg1)) fun a Z => ?_
    refine s_runk tMTree1 Z 2 rfl rfl fun a Z => ?_
    refine hT tMTree1 Z H 0 rfl rfl rfl rfl rfl (one_cons rfl one_nil) (Nat.le_of_ble_eq_true rfl) rfl fun w5 H => ?_
    dsimp only [List.eraseIdx] at H
    refine s_end Z [6, 7] rfl fun Z => ?_
    refine p_then ?_
    exact ⟨c.2, c.1, t.n + 1, q1, Z.sub (ts := [6, 7]) rfl, ⟨I3, (H.sub [(0, false), (0, false)] rfl).eq rfl⟩, hF⟩
   ·replace hF := ite_f hc2 hF
    refine wp_skip ?_
    refine p_then ?_
    exact ⟨c.2, c.1, t.n, q1, Z.sub (ts := [6, 7]) rfl, ⟨I3, (H.sub [(0, false), (0, false)] rfl).eq rfl⟩, hF⟩

end Go.Proofs.YtglfajjcgbfehaaGreat
