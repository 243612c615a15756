/- Trees of versions: going through them; the methods. -/
import Derived.Test.YtglfajjcgbfehaaYMTree
namespace Go.Proofs.Ytglfajjcgbfehaa
open Go.RowKit
structure Etree_Tree_api_Cell where
 top : TT (List ECell)
 n : Int
 made : Bool

instance : Inhabited Etree_Tree_api_Cell := ⟨⟨TT.nil, 0, false⟩⟩

def cEtree_Tree_api_Cell (x : Etree_Tree_api_Cell) (v0 : Value) : List Value := [v0, .int .i64 x.n, .bool x.made]

def OEtree_Tree_api_Cell (b : Nat) (x : Etree_Tree_api_Cell) : Ch := ExC fun (p : Value) => [BxC b 133 (cEtree_Tree_api_Cell x p), TrG NECell 145 x.top p]

def tMTree1L : TabL := ⟨[(136192, 0), (136193, 1), (136194, 2), (148480, 0), (148483, 3), (148484, 4)], [], [], [(99, (9, 1))], [(3, (1, false)), (4, (1, false)), (9, (1, false)), (84, (1, false)), (99, (1, false)), (131, (1, false)), (133, (3, true))]⟩

def tMTree1 : Tab Try.prog := ⟨tMTree1L, by kernel_rfl⟩

theorem fn_76_YMTree1 : IsFn Try.prog 76 := ⟨_, Try.func76, by kernel_rfl, by kernel_rfl⟩

theorem fn_78_YMTree1 : IsFn Try.prog 78 := ⟨_, Try.func78, by kernel_rfl, by kernel_rfl⟩

theorem fn_89_YMTree1 : IsFn Try.prog 89 := ⟨_, Try.func89, by kernel_rfl, by kernel_rfl⟩

theorem fn_90_YMTree1 : IsFn Try.prog 90 := ⟨_, Try.func90, by kernel_rfl, by kernel_rfl⟩

theorem fn_91_YMTree1 : IsFn Try.prog 91 := ⟨_, Try.func91, by kernel_rfl, by kernel_rfl⟩

theorem E_99_YMTree1 : Elem Try.prog 99 9 1 16 := ⟨Try.underlying99, by
 have h : (Try.prog.info? 9).map (fun i => (i.zero, i.size, i.bytes)) = some (some (.string ByteArray.empty), 1, 16) := by kernel_rfl
 obtain ⟨i, hi, h1⟩ := Option.map_eq_some_iff.1 h
 simp only [Prod.mk.injEq] at h1
 exact ⟨i, _, hi, h1.1, h1.2.1, h1.2.2, by rfl⟩, by decide⟩

def F_tree_New_api_Cell : Option Etree_Tree_api_Cell := some ({ (default : Etree_Tree_api_Cell) with made := true } : Etree_Tree_api_Cell)

set_option maxHeartbeats 1000000 in
theorem c_tree_New_api_Cell {I D : Dm} {w : World} {rr : Etree_Tree_api_Cell} (hF : F_tree_New_api_Cell = some rr) (H : St I D w []) :
  Calls Try.prog 39 #[] w (Ret fun vv w' => ∃ g1 : Nat, vv = pp g1 0 ∧ ∃ I', Hf I D w I' w' [OEtree_Tree_api_Cell g1 rr]) := by
 replace H := H.hf
 unfold F_tree_New_api_Cell at hF
 refine f_enter 3 Try.func39 rfl rfl (Nat.le_of_ble_eq_true rfl) fun a Z => ?_
 replace Z := Z.sub (ts := []) rfl
 refine wp_seq (f_region Z ?_); clear Z; intro Z
 refine s_runk tMTree1 Z 1 rfl rfl fun a Z => ?_
 refine s_end Z [0] rfl fun Z => ?_
 refine p_then (wp_seq (f_region Z ?_)); clear Z; intro Z
 refine sO Z (.agg #[nP, vI 0, vT true]) rfl (Ob_build (vs := [(2, vT true)]) rfl rfl (by go_simp <;> rfl)) fun a Z => ?_
 refine hB Z H [nP, vI 0, vT true] rfl rfl rfl rfl fun a w1 b1 H Z => ?_
 refine s_runk tMTree1 Z 1 rfl rfl fun a Z => ?_
 refine s_end Z [0] rfl fun Z => ?_
 refine p_then (wp_ret ?_)
 replace H := H.mkTNG NECell 145
 replace H := H.sX (OEtree_Tree_api_Cell b1 ({ (default : Etree_Tree_api_Cell) with made := true } : Etree_Tree_api_Cell)) (nP) [(1, false), (0, false)] rfl rfl rfl
 obtain rfl := some_in hF
 exact f_ret Z (run_results1 rfl Z rfl) ⟨b1, rfl, I, (H.sub [(0, false)] rfl).eq rfl⟩

def F_tree_Tree_api_Cell_none (t : Etree_Tree_api_Cell) : Option Bool := some (!t.made)

set_option maxHeartbeats 1000000 in
theorem c_tree_Tree_api_Cell_none {I D : Dm} {b_t : Nat} {t : Etree_Tree_api_Cell} {w : World} {rr : Bool} (hF : F_tree_Tree_api_Cell_none t = some rr) (H : St I D w [OEtree_Tree_api_Cell b_t t]) :
  Calls Try.prog 78 #[pp b_t 0] w (Ret fun vv w' => vv = vT rr ∧ ∃ I', Hf I D w I' w' [OEtree_Tree_api_Cell b_t t]) := by
 replace H := H.hf
 unfold F_tree_Tree_api_Cell_none at hF
 refine f_enter 12 Try.func78 rfl rfl (Nat.le_of_ble_eq_true rfl) fun a Z => ?_
 replace Z := Z.sub (ts := [0]) rfl
 refine wp_seq (f_region Z ?_); clear Z; intro Z
 refine s_runk tMTree1 Z 1 rfl rfl fun a Z => ?_
 refine s_end Z [0, 2] rfl fun Z => ?_
 refine p_then (wp_seq (f_region Z ?_)); clear Z; intro Z
 refine s_runk tMTree1 Z 1 rfl rfl fun a Z => ?_
 refine sO Z (vT false) rfl (Ob_pnil rfl rfl rfl Try.underlying84 (.inl ⟨rfl, rfl⟩)) fun a Z => ?_
 refine s_runk tMTree1 Z 1 rfl rfl fun a Z => ?_
 refine g_if Z rfl rfl rfl (p := true) rfl rfl (by decide) (fun _ => ?_) (fun h => by cases h)
 refine s_runk tMTree1 Z 1 rfl rfl fun a Z => ?_
 refine g_if Z rfl rfl rfl (p := true) rfl rfl (by decide) (fun _ => ?_) (fun h => by cases h)
 refine s_runk tMTree1 Z 1 rfl rfl fun a Z => ?_
 refine g_if Z rfl rfl rfl (p := true) rfl rfl (by decide) (fun _ => ?_) (fun h => by cases h)
 refine s_runk tMTree1 Z 1 rfl rfl fun a Z => ?_
 refine g_if Z rfl rfl rfl (p := true) rfl rfl (by decide) (fun _ => ?_) (fun h => by cases h)
 obtain ⟨v1, H⟩ := H.openX 0 rfl
 replace H := H.nf rfl; try dsimp only at H
 refine sO Z _ rfl (oL tMTree1 rfl rfl (H.bc 0 2 rfl rfl)) fun a Z => ?_
 refine g_if Z rfl rfl rfl (p := true) rfl rfl (by decide) (fun _ => ?_) (fun h => by cases h)
 refine s_runk tMTree1 Z 1 rfl rfl fun a Z => ?_
 refine sO Z (vT (!t.made)) rfl (Ob_pick rfl rfl rfl rfl rfl) fun a Z => ?_
 refine s_runk tMTree1 Z 1 rfl rfl fun a Z => ?_
 refine s_end Z [2] rfl fun Z => ?_
 refine p_then (wp_ret ?_)
 replace H := H.sX (OEtree_Tree_api_Cell b_t t) (v1) [(0, false), (0, false)] rfl rfl rfl
 obtain rfl := some_in hF
 exact f_ret Z (run_results1 rfl Z rfl) ⟨rfl, I, (H.sub [(0, false)] rfl).eq rfl⟩

def F_tree_Tree_api_Cell_Put_k1 (t : Etree_Tree_api_Cell) (had : Bool) (yb_t_top : TT (List ECell)) (yb_t_n : Int) : Option (Bool × Etree_Tree_api_Cell) := some (had, ({ t with top := yb_t_top, n := yb_t_n } : Etree_Tree_api_Cell))

def F_tree_Tree_api_Cell_Put (t : Etree_Tree_api_Cell) (k : ByteArray) (v : List ECell) : Option (Bool × Etree_Tree_api_Cell) := (F_tree_Tree_api_Cell_none t).bind fun n0 => (if (n0) = true then (some (false, t)) else ((F_tree_put_api_Cell t.top k v).bind fun c => (if (!c.2) = true then (chk (inI (t.n + 1)) (F_tree_Tree_api_Cell_Put_k1 t c.2 c.1 (t.n + 1))) else (F_tree_Tree_api_Cell_Put_k1 t c.2 c.1 t.n))))

set_option maxHeartbeats 1000000 in
theorem c_tree_Tree_api_Cell_Put {I D : Dm} {b_t : Nat} {t : Etree_Tree_api_Cell} {k : ByteArray} {v : List ECell} {v1_v : Value} {w : World} {rr : Bool × Etree_Tree_api_Cell} (hF : F_tree_Tree_api_Cell_Put t k v = some rr) (H : St I D w [OEtree_Tree_api_Cell b_t t, SlC NECell v1_v v]) :
  Calls Try.prog 73 #[pp b_t 0, vS k, v1_v] w (Ret fun vv w' => vv = vT rr.1 ∧ ∃ I', Hf I D w I' w' [OEtree_Tree_api_Cell b_t rr.2]) := by
 replace H := H.hf
 unfold F_tree_Tree_api_Cell_Put at hF
 refine f_enter 33 Try.func73 rfl rfl (Nat.le_of_ble_eq_true rfl) fun a Z => ?_
 replace Z := Z.sub (ts := [0, 1, 2]) rfl
 refine wp_seq (f_region Z ?_); clear Z; intro Z
 refine s_runk tMTree1 Z 1 rfl rfl fun a Z => ?_
 refine s_end Z [0, 1, 2, 6] rfl fun Z => ?_
 refine p_then (wp_seq ?_)
 refine wp_seq ?_
 obtain ⟨n0, hx1, hF⟩ := bnd_in hF
 refine f_region Z fun Z => ?_
 refine s_runk tMTree1 Z 1 rfl rfl fun a Z => ?_
 refine hC Z H [(0, false)] rfl #[] fn_78_YMTree1 rfl rfl (fun D h => have q := c_tree_Tree_api_Cell_none hx1 h; q) fun vv a w1 D2 hr hF2 Z => ?_
 obtain ⟨rfl, I1, K⟩ := hr
 have H := (hF2 K).nf rfl
 refine s_end Z [0, 1, 2, 6, 9] rfl fun Z => ?_
 refine p_then ?_
 refine f_cond Z rfl (fun hc1 => ?_) (fun hc1 => ?_)
 ·replace hF := ite_t hc1 hF
  refine wp_seq (f_region Z ?_); clear Z; intro Z
  refine s_runk tMTree1 Z 1 rfl rfl fun a Z => ?_
  refine s_end Z [0, 1, 2, 6] rfl fun Z => ?_
  refine p_then (wp_ret ?_)
  refine p_then_r ?_
  obtain rfl := some_in hF
  exact f_ret Z (run_results1 rfl Z rfl) ⟨rfl, I1, (H.sub [(0, false)] rfl).eq rfl⟩
 ·replace hF := ite_f hc1 hF
  refine wp_skip ?_
  refine p_then (wp_seq (f_region Z ?_)); clear Z; intro Z
  refine s_runk tMTree1 Z 1 rfl rfl fun a Z => ?_
  refine s_end Z [0, 1, 2, 6, 7] rfl fun Z => ?_
  refine p_then ?_
  refine f_cut (fun a' w' => ∃ (had : Bool) (yb_t_top : TT (List ECell)) (yb_t_n : Int), ∃ v2 : Value, Sl 33 [(6, vT false), (7, vT had)] a' ∧ (∃ I2, Hf I D w I2 w' [BxC b_t 133 [v2, vI yb_t_n, vT t.made], TrG NECell 145 yb_t_top v2]) ∧ F_tree_Tree_api_Cell_Put_k1 t had yb_t_top yb_t_n = some rr) ?_ ?_
  ·rintro a w2 ⟨had, yb_t_top, yb_t_n, v2, Z, ⟨I2, H⟩, hF⟩
   unfold F_tree_Tree_api_Cell_Put_k1 at hF
   try dsimp only at hF
   refine wp_seq (f_region Z ?_); clear Z; intro Z
   refine s_runk tMTree1 Z 2 rfl rfl fun a Z => ?_
   refine s_end Z [6] rfl fun Z => ?_
   refine p_then (wp_ret ?_)
   replace H := H.sX (OEtree_Tree_api_Cell b_t ({ t with top := yb_t_top, n := yb_t_n } : Etree_Tree_api_Cell)) (v2) [(0, false), (0, false)] rfl rfl rfl
   obtain rfl := some_in hF
   exact f_ret Z (run_results1 rfl Z rfl) ⟨rfl, I2, (H.sub [(0, false)] rfl).eq rfl⟩
  ·skip
   refine wp_seq ?_
   obtain ⟨c, hx2, hF⟩ := bnd_in hF
   refine f_region Z fun Z => ?_
   refine s_runk tMTree1 Z 4 rfl rfl fun a Z => ?_
   obtain ⟨v3, H⟩ := H.openX 0 rfl
   replace H := H.nf rfl; try dsimp only at H
   refine sO Z _ rfl (oL tMTree1 rfl rfl (H.bc 0 0 rfl rfl)) fun a Z => ?_
   refine s_runk tMTree1 Z 2 rfl rfl fun a Z => ?_
   refine hC Z H [(1, false), (1, true)] rfl #[] fn_89_YMTree1 rfl rfl (fun D h => have q := c_tree_put_api_Cell hx2 h; q) fun vv a w3 D2 hr hF2 Z => ?_
   obtain ⟨q1, rfl, I3, K⟩ := hr
   have H := (hF2 K).nf rfl
   refine s_runk tMTree1 Z 5 rfl rfl fun a Z => ?_
   refine hT tMTree1 Z H 1 rfl rfl (H.trPG 0 rfl).cells rfl rfl (one_cons (H.trPG 0 rfl).one one_nil) (Nat.le_of_ble_eq_true rfl) rfl fun w4 H => ?_
   dsimp only [List.eraseIdx] at H
   refine s_runk tMTree1 Z 1 rfl rfl fun a Z => ?_
   refine s_end Z [0, 6, 7] rfl fun Z => ?_
   refine p_then (wp_seq (f_region Z ?_)); clear Z; intro Z
   refine s_runk tMTree1 Z 2 rfl rfl fun a Z => ?_
   refine s_end Z [0, 6, 7, 24] rfl fun Z => ?_
   refine p_then ?_
   refine f_cond Z rfl (fun hc2 => ?_) (fun hc2 => ?_)
   ·replace hF := ite_t hc2 hF
    obtain ⟨hg1, hF⟩ := chk_in hF
    refine f_region Z fun Z => ?_
    refine s_runk tMTree1 Z 3 rfl rfl fun a Z => ?_
    refine sO Z _ rfl (oL tMTree1 rfl rfl (H.bc 0 1 rfl rfl)) fun a Z => ?_
    refine sO Z (vI (t.n + 1)) rfl (Ob_add rfl rfl rfl (wrI hg1)) fun a Z => ?_
    refine s_runk tMTree1 Z 2 rfl rfl fun a Z => ?_
    refine hT tMTree1 Z H 0 rfl rfl rfl rfl rfl (one_cons rfl one_nil) (Nat.le_of_ble_eq_true rfl) rfl fun w5 H => ?_
    dsimp only [List.eraseIdx] at H
    refine s_end Z [6, 7] rfl fun Z => ?_
    refine p_then ?_
    exact ⟨c.2, c.1, t.n + 1, q1, Z.sub (ts := [6, 7]) rfl, ⟨I3, (H.sub [(0, false), (0, false)] rfl).eq rfl⟩, hF⟩
   ·replace hF := ite_f hc2 hF
    refine wp_skip ?_
    refine p_then ?_
    exact ⟨c.2, c.1, t.n, q1, Z.sub (ts := [6, 7]) rfl, ⟨I3, (H.sub [(0, false), (0, false)] rfl).eq rfl⟩, hF⟩

def F_tree_Tree_api_Cell_from (t : Etree_Tree_api_Cell) (k : ByteArray) : Option ByteArray := some k

set_option maxHeartbeats 1000000 in
theorem c_tree_Tree_api_Cell_from {I D : Dm} {b_t : Nat} {t : Etree_Tree_api_Cell} {k : ByteArray} {w : World} {rr : ByteArray} (hF : F_tree_Tree_api_Cell_from t k = some rr) (H : St I D w [OEtree_Tree_api_Cell b_t t]) :
  Calls Try.prog 76 #[pp b_t 0, vS k] w (Ret fun vv w' => ∃ g1 g2 : Nat, vv = .func (.func 90) #[] #[pp g1 0, pp g2 0] ∧ ∃ I', Hf I D w I' w' [OEtree_Tree_api_Cell b_t t, BxC g1 84 [pp b_t 0], BxC g2 9 [vS rr]]) := by
 replace H := H.hf
 unfold F_tree_Tree_api_Cell_from at hF
 refine f_enter 6 Try.func76 rfl rfl (Nat.le_of_ble_eq_true rfl) fun a Z => ?_
 replace Z := Z.sub (ts := [0, 1]) rfl
 refine wp_seq (f_region Z ?_); clear Z; intro Z
 refine hB Z H [pp b_t 0] rfl rfl rfl rfl fun a w1 b1 H Z => ?_
 refine hB Z H [vS k] rfl rfl rfl rfl fun a w2 b2 H Z => ?_
 refine s_runk tMTree1 Z 1 rfl rfl fun a Z => ?_
 refine s_end Z [2, 3, 4] rfl fun Z => ?_
 refine p_then (wp_seq (f_region Z ?_)); clear Z; intro Z
 refine s_runk tMTree1 Z 2 rfl rfl fun a Z => ?_
 refine s_end Z [4] rfl fun Z => ?_
 refine p_then (wp_ret ?_)
 obtain rfl := some_in hF
 exact f_ret Z (run_results1 rfl Z rfl) ⟨b1, b2, rfl, I, (H.sub [(2, false), (1, false), (0, false)] rfl).eq rfl⟩

def F_tree_node_api_Cell_walk_b {σ : Type} (self : (TT (List ECell)) → ByteArray → (ByteArray → σ → Option (Bool × σ)) → (Bool × σ) → Option (Bool × (TT (List ECell)) × (Bool × σ))) (n0 : TT (List ECell)) (from_ : ByteArray) (y : ByteArray → σ → Option (Bool × σ)) (x0 : Bool × σ) : Option (Bool × (TT (List ECell)) × (Bool × σ)) := if (n0.isNil) = true then (some (true, n0, x0)) else (ttE n0 (none) (fun k x d l r0 => if (sltB k from_) = true then ((self r0 from_ y x0).bind fun w0 => (some (w0.1, (TT.node k x d l w0.2.1), w0.2.2))) else ((self l from_ y x0).bind fun w0_2 => (if (w0_2.1) = true then (chk (w0_2.2.2.1 = true) ((y k w0_2.2.2.2).bind fun r0_2 => (if (r0_2.1) = true then ((self r0 from_ y r0_2).bind fun w0_3 => (some (w0_3.1, (TT.node k x d w0_2.2.1 w0_3.2.1), w0_3.2.2))) else (some (false, (TT.node k x d w0_2.2.1 r0), r0_2))))) else (some (false, (TT.node k x d w0_2.2.1 r0), w0_2.2.2))))))

def F_tree_node_api_Cell_walkR {σ : Type} : Nat → (TT (List ECell)) → ByteArray → (ByteArray → σ → Option (Bool × σ)) → (Bool × σ) → Option (Bool × (TT (List ECell)) × (Bool × σ))
 | 0 => fun _ _ _ _ => none
 | fu + 1 => F_tree_node_api_Cell_walk_b (F_tree_node_api_Cell_walkR fu)

def F_tree_node_api_Cell_walk {σ : Type} (n0 : TT (List ECell)) (from_ : ByteArray) (y : ByteArray → σ → Option (Bool × σ)) (x0 : Bool × σ) : Option (Bool × (TT (List ECell)) × (Bool × σ)) := F_tree_node_api_Cell_walkR FU n0 from_ y x0

set_option maxHeartbeats 1000000 in
theorem c_tree_node_api_Cell_walk_b {σ : Type} {self : (TT (List ECell)) → ByteArray → (ByteArray → σ → Option (Bool × σ)) → (Bool × σ) → Option (Bool × (TT (List ECell)) × (Bool × σ))} (ih : ∀ {I D : Dm} {v_n0 : Value} {n0 : TT (List ECell)} {from_ : ByteArray} {Y : Bool × σ → Ch} {y : ByteArray → σ → Option (Bool × σ)} {x0 : Bool × σ} {ly : Nat} {w : World} {rr : Bool × (TT (List ECell)) × (Bool × σ)} (hy : YieldOk Try.prog ly Y (fun (e_ : ByteArray) (v_ : Unit) => vS e_) (fun (e_ : ByteArray) (v_ : Unit) => []) y), self n0 from_ y x0 = some rr → St I D w [TrG NECell 145 n0 v_n0, Y x0] → Calls Try.prog 91 #[v_n0, vS from_, .func (.yield ly) #[] #[]] w (Ret fun vv w' => vv = vT rr.1 ∧ ∃ I', Hf I D w I' w' [TrG NECell 145 rr.2.1 v_n0, Y rr.2.2])) {I D : Dm} {v_n0 : Value} {n0 : TT (List ECell)} {from_ : ByteArray} {Y : Bool × σ → Ch} {y : ByteArray → σ → Option (Bool × σ)} {x0 : Bool × σ} {ly : Nat} {w : World} {rr : Bool × (TT (List ECell)) × (Bool × σ)} (hy : YieldOk Try.prog ly Y (fun (e_ : ByteArray) (v_ : Unit) => vS e_) (fun (e_ : ByteArray) (v_ : Unit) => []) y) (hF : F_tree_node_api_Cell_walk_b self n0 from_ y x0 = some rr) (H : St I D w [TrG NECell 145 n0 v_n0, Y x0]) :
  Calls Try.prog 91 #[v_n0, vS from_, .func (.yield ly) #[] #[]] w (Ret fun vv w' => vv = vT rr.1 ∧ ∃ I', Hf I D w I' w' [TrG NECell 145 rr.2.1 v_n0, Y rr.2.2]) := by
 replace H := H.hf
 unfold F_tree_node_api_Cell_walk_b at hF
 refine f_enter 46 Try.func91 rfl rfl (Nat.le_of_ble_eq_true rfl) fun a Z => ?_
 replace Z := Z.sub (ts := [0, 1, 2]) rfl
 refine wp_seq (f_region Z ?_); clear Z; intro Z
 refine s_runk tMTree1 Z 1 rfl rfl fun a Z => ?_
 refine s_end Z [0, 1, 2, 6] rfl fun Z => ?_
 refine p_then (wp_seq ?_)
 refine wp_seq (f_region Z ?_); clear Z; intro Z
 refine s_runk tMTree1 Z 1 rfl rfl fun a Z => ?_
 refine sO Z (vT n0.isNil) rfl (Ob_tnilG (q := n0) rfl rfl rfl Try.underlying131 (H.trIG 0 rfl) (.inl ⟨rfl, rfl⟩)) fun a Z => ?_
 refine s_end Z [0, 1, 2, 6, 8] rfl fun Z => ?_
 refine p_then ?_
 refine f_cond Z rfl (fun hc1 => ?_) (fun hc1 => ?_)
 ·replace hF := ite_t hc1 hF
  refine wp_seq (f_region Z ?_); clear Z; intro Z
  refine s_runk tMTree1 Z 1 rfl rfl fun a Z => ?_
  refine s_end Z [0, 1, 2, 6] rfl fun Z => ?_
  refine p_then (wp_ret ?_)
  refine p_then_r ?_
  obtain rfl := some_in hF
  exact f_ret Z (run_results1 rfl Z rfl) ⟨rfl, I, (H.sub [(0, false), (0, false)] rfl).eq rfl⟩
 ·replace hF := ite_f hc1 hF
  refine wp_skip ?_
  refine p_then (wp_seq ?_)
  refine wp_seq ?_
  rcases ttE_in hF with ⟨ho1, hF⟩ | ⟨k, x, d, l, r0, ho1, hF⟩
  ·obtain ⟨hv, H⟩ := H.trNG 0 rfl ho1
   (try have Zq21 := Z); subst hv; (try have Z := Zq21)
   replace H := H.nf rfl; try dsimp only at H
   cases hF
  ·obtain ⟨b1, v1, v2, v3, hv, H⟩ := H.trSG 0 rfl ho1
   (try have Zq22 := Z); subst hv; (try have Z := Zq22)
   replace H := H.nf rfl; try dsimp only at H
   refine f_region Z fun Z => ?_
   refine s_runk tMTree1 Z 3 rfl rfl fun a Z => ?_
   refine sO Z _ rfl (oL tMTree1 rfl rfl (H.bc 0 0 rfl rfl)) fun a Z => ?_
   refine s_runk tMTree1 Z 2 rfl rfl fun a Z => ?_
   refine s_end Z [0, 1, 2, 6, 14] rfl fun Z => ?_
   refine p_then ?_
   refine f_cond Z rfl (fun hc2 => ?_) (fun hc2 => ?_)
   ·replace hF := ite_t hc2 hF
    refine wp_seq ?_
    obtain ⟨w0, hx1, hF⟩ := bnd_in hF
    refine f_region Z fun Z => ?_
    refine s_runk tMTree1 Z 3 rfl rfl fun a Z => ?_
    refine sO Z _ rfl (oL tMTree1 rfl rfl (H.bc 0 4 rfl rfl)) fun a Z => ?_
    refine s_runk tMTree1 Z 2 rfl rfl fun a Z => ?_
    refine hC Z H [(3, false), (3, false)] rfl #[] fn_91_YMTree1 rfl rfl (fun D h => have q := ih hy hx1 h; q) fun vv a w1 D2 hr hF2 Z => ?_
    obtain ⟨rfl, I1, K⟩ := hr
    have H := (hF2 K).nf rfl
    refine s_runk tMTree1 Z 1 rfl rfl fun a Z => ?_
    refine s_end Z [0, 1, 2, 6] rfl fun Z => ?_
    refine p_then (wp_ret ?_)
    refine p_then_r ?_
    replace H : Hf I D w I1 w1 [TrG NECell 145 (TT.node k x d l w0.2.1) (pp b1 0), Y w0.2.2, SlC NECell v1 x] := H.mkTG [(2, false), (2, true), (3, false), (0, false)] rfl
    obtain rfl := some_in hF
    exact f_ret Z (run_results1 rfl Z rfl) ⟨rfl, I1, (H.sub [(0, false), (0, false)] rfl).eq rfl⟩
   ·replace hF := ite_f hc2 hF
    refine wp_skip ?_
    refine p_then (wp_seq ?_)
    obtain ⟨w0_2, hx2, hF⟩ := bnd_in hF
    refine f_regionY 13 (by kernel_rfl) (by rintro ⟨_, _, h⟩; exact h) Z fun Z => ?_
    refine s_runk tMTree1 Z 3 rfl rfl fun a Z => ?_
    refine sO Z _ rfl (oL tMTree1 rfl rfl (H.bc 0 3 rfl rfl)) fun a Z => ?_
    refine s_runk tMTree1 Z 2 rfl rfl fun a Z => ?_
    refine hC Z H [(2, false), (3, false)] rfl #[] fn_91_YMTree1 rfl rfl (fun D h => have q := ih hy hx2 h; q) fun vv a w2 D2 hr hF2 Z => ?_
    obtain ⟨rfl, I2, K⟩ := hr
    have H := (hF2 K).nf rfl
    refine s_runk tMTree1 Z 1 rfl rfl fun a Z => ?_
    refine gO Z (.func (.yield ly) #[] #[]) rfl (wantB_t _) (.n 2 rfl .z) (fun hp => Ob_c tMTree1 rfl) fun a Z => ?_
    refine gO Z (pp b1 0) rfl (wantB_t _) (.n 0 rfl .z) (fun hp => Ob_c tMTree1 rfl) fun a Z => ?_
    refine gO Z (pp b1 0) rfl (wantB_t _) (.c 31 rfl id .z) (fun hp => Ob_c tMTree1 rfl) fun a Z => ?_
    refine gO Z (pp b1 0) rfl (wantB_t _) (.c 32 rfl id .z) (fun hp => Ob_c tMTree1 rfl) fun a Z => ?_
    refine gO Z _ rfl (wantB_t _) (.c 33 rfl id .z) (fun hp => oL tMTree1 rfl rfl (H.bc 2 0 rfl rfl)) fun a Z => ?_
    refine s_mid ?_
    refine bsplit (w0_2.1) (fun hc3 => ?_) (fun hc3 => ?_)
    ·replace hF := ite_t hc3 hF; replace Z := Z.cnv (t := 29) rfl (show Value.bool w0_2.1 = vT true from congrArg Value.bool hc3); replace Z := Z.sub (ts := [0, 1, 2, 6, 14, 22, 23, 24, 25, 26, 27, 28, 29, 30, 31, 32, 33, 34]) rfl
     replace Z := Z.cnv (t := 30) rfl (cond_t hc3); replace Z := Z.sub (ts := [0, 1, 2, 6, 14, 22, 23, 24, 25, 26, 27, 28, 29, 30, 31, 32, 33, 34]) rfl
     replace Z := Z.cnv (t := 31) rfl (cond_t hc3); replace Z := Z.sub (ts := [0, 1, 2, 6, 14, 22, 23, 24, 25, 26, 27, 28, 29, 30, 31, 32, 33, 34]) rfl
     replace Z := Z.cnv (t := 32) rfl (cond_t hc3); replace Z := Z.sub (ts := [0, 1, 2, 6, 14, 22, 23, 24, 25, 26, 27, 28, 29, 30, 31, 32, 33, 34]) rfl
     replace Z := Z.cnv (t := 33) rfl (cond_t hc3); replace Z := Z.sub (ts := [0, 1, 2, 6, 14, 22, 23, 24, 25, 26, 27, 28, 29, 30, 31, 32, 33, 34]) rfl
     replace Z := Z.cnv (t := 34) rfl (cond_t hc3); replace Z := Z.sub (ts := [0, 1, 2, 6, 14, 22, 23, 24, 25, 26, 27, 28, 29, 30, 31, 32, 33, 34]) rfl
     obtain ⟨hg1, hF⟩ := chk_in hF
     obtain ⟨r0_2, hx3, hF⟩ := bnd_in hF
     refine gY_yes Z rfl rfl rfl rfl ?_
     refine h_yield Z H (js := [(1, false)]) rfl rfl rfl rfl rfl rfl (by decide) rfl rfl (fun D1 hS => have hq := hy k () w0_2.2.2 _ hg1 hx3 hS; hq) fun vv a w3 D2 hr hF2 Z => ?_
     obtain ⟨rfl, I3, K⟩ := hr
     have H := (hF2 K).nf rfl
     refine l_back (by rintro ⟨_, _, h⟩; exact h) (by kernel_rfl) ?_
     refine sO Z (vT r0_2.1) rfl (Ob_pick rfl rfl rfl rfl rfl) fun a Z => ?_
     refine s_runk tMTree1 Z 1 rfl rfl fun a Z => ?_
     refine gO Z (pp b1 0) rfl (wantB_t _) (.n 0 rfl .z) (fun hp => Ob_c tMTree1 rfl) fun a Z => ?_
     refine gO Z (pp b1 0) rfl (wantB_t _) (.c 38 rfl id .z) (fun hp => Ob_c tMTree1 rfl) fun a Z => ?_
     refine gO Z (pp b1 4) rfl (wantB_t _) (.c 39 rfl id .z) (fun hp => Ob_c tMTree1 rfl) fun a Z => ?_
     refine gO Z _ rfl (wantB_t _) (.c 40 rfl id .z) (fun hp => oL tMTree1 rfl rfl (H.bc 2 4 rfl rfl)) fun a Z => ?_
     refine gO Z (vS from_) rfl (wantB_t _) (.n 1 rfl .z) (fun hp => Ob_c tMTree1 rfl) fun a Z => ?_
     refine gO Z (.func (.yield ly) #[] #[]) rfl (wantB_t _) (.n 2 rfl .z) (fun hp => Ob_c tMTree1 rfl) fun a Z => ?_
     refine bsplit (r0_2.1) (fun hc4 => ?_) (fun hc4 => ?_)
     ·replace hF := ite_t hc4 hF; replace Z := Z.cnv (t := 37) rfl (show Value.bool r0_2.1 = vT true from congrArg Value.bool hc4); replace Z := Z.sub (ts := [0, 1, 2, 6, 14, 22, 23, 24, 25, 26, 27, 28, 29, 30, 31, 32, 33, 34, 35, 36, 37, 38, 39, 40, 41, 42, 43]) rfl
      replace Z := Z.cnv (t := 38) rfl (cond_t hc4); replace Z := Z.sub (ts := [0, 1, 2, 6, 14, 22, 23, 24, 25, 26, 27, 28, 29, 30, 31, 32, 33, 34, 35, 36, 37, 38, 39, 40, 41, 42, 43]) rfl
      replace Z := Z.cnv (t := 39) rfl (cond_t hc4); replace Z := Z.sub (ts := [0, 1, 2, 6, 14, 22, 23, 24, 25, 26, 27, 28, 29, 30, 31, 32, 33, 34, 35, 36, 37, 38, 39, 40, 41, 42, 43]) rfl
      replace Z := Z.cnv (t := 40) rfl (cond_t hc4); replace Z := Z.sub (ts := [0, 1, 2, 6, 14, 22, 23, 24, 25, 26, 27, 28, 29, 30, 31, 32, 33, 34, 35, 36, 37, 38, 39, 40, 41, 42, 43]) rfl
      replace Z := Z.cnv (t := 41) rfl (cond_t hc4); replace Z := Z.sub (ts := [0, 1, 2, 6, 14, 22, 23, 24, 25, 26, 27, 28, 29, 30, 31, 32, 33, 34, 35, 36, 37, 38, 39, 40, 41, 42, 43]) rfl
      replace Z := Z.cnv (t := 42) rfl (cond_t hc4); replace Z := Z.sub (ts := [0, 1, 2, 6, 14, 22, 23, 24, 25, 26, 27, 28, 29, 30, 31, 32, 33, 34, 35, 36, 37, 38, 39, 40, 41, 42, 43]) rfl
      replace Z := Z.cnv (t := 43) rfl (cond_t hc4); replace Z := Z.sub (ts := [0, 1, 2, 6, 14, 22, 23, 24, 25, 26, 27, 28, 29, 30, 31, 32, 33, 34, 35, 36, 37, 38, 39, 40, 41, 42, 43]) rfl
      obtain ⟨w0_3, hx4, hF⟩ := bnd_in hF
      refine g_if Z rfl rfl rfl (p := true) rfl rfl (by decide) (fun _ => ?_) (fun h => by cases h)
      refine hC Z H [(4, false), (0, false)] rfl #[] fn_91_YMTree1 rfl rfl (fun D h => have q := ih hy hx4 h; q) fun vv a w4 D2 hr hF2 Z => ?_
      obtain ⟨rfl, I4, K⟩ := hr
      have H := (hF2 K).nf rfl
      refine sO Z (vT w0_3.1) rfl (Ob_pick rfl rfl rfl rfl rfl) fun a Z => ?_
      refine s_runk tMTree1 Z 1 rfl rfl fun a Z => ?_
      refine s_end Z [0, 6] rfl fun Z => ?_
      refine p_then (wp_ret ?_)
      replace H : Hf I D w I4 w4 [TrG NECell 145 (TT.node k x d w0_2.2.1 w0_3.2.1) (pp b1 0), Y w0_3.2.2, SlC NECell v1 x] := H.mkTG [(3, false), (3, true), (2, false), (0, false)] rfl
      obtain rfl := some_in hF
      exact f_ret Z (run_results1 rfl Z rfl) ⟨rfl, I4, (H.sub [(0, false), (0, false)] rfl).eq rfl⟩
     ·replace hF := ite_f hc4 hF; replace Z := Z.cnv (t := 37) rfl (show Value.bool r0_2.1 = vT false from congrArg Value.bool hc4); replace Z := Z.sub (ts := [0, 1, 2, 6, 14, 22, 23, 24, 25, 26, 27, 28, 29, 30, 31, 32, 33, 34, 35, 36, 37, 38, 39, 40, 41, 42, 43]) rfl
      refine g_if Z rfl rfl rfl (p := false) rfl rfl (by decide) (fun h => by cases h) fun _ a Z => ?_
      refine sO Z (vT false) rfl (Ob_pick rfl rfl rfl rfl rfl) fun a Z => ?_
      refine s_runk tMTree1 Z 1 rfl rfl fun a Z => ?_
      refine s_end Z [0, 6] rfl fun Z => ?_
      refine p_then (wp_ret ?_)
      replace H : Hf I D w I3 w3 [TrG NECell 145 (TT.node k x d w0_2.2.1 r0) (pp b1 0), Y r0_2, SlC NECell v1 x] := H.mkTG [(2, false), (2, true), (1, false), (2, false)] rfl
      obtain rfl := some_in hF
      exact f_ret Z (run_results1 rfl Z rfl) ⟨rfl, I3, (H.sub [(0, false), (0, false)] rfl).eq rfl⟩
    ·replace hF := ite_f hc3 hF; replace Z := Z.cnv (t := 29) rfl (show Value.bool w0_2.1 = vT false from congrArg Value.bool hc3); replace Z := Z.sub (ts := [0, 1, 2, 6, 14, 22, 23, 24, 25, 26, 27, 28, 29, 30, 31, 32, 33, 34]) rfl
     refine gY_no Z rfl rfl rfl rfl rfl (by decide) fun a Z => ?_
     refine l_back (by rintro ⟨_, _, h⟩; exact h) (by kernel_rfl) ?_
     refine sO Z (vT false) rfl (Ob_pick rfl rfl rfl rfl rfl) fun a Z => ?_
     refine s_runk tMTree1 Z 1 rfl rfl fun a Z => ?_
     refine g_if Z rfl rfl rfl (p := false) rfl rfl (by decide) (fun h => by cases h) fun _ a Z => ?_
     refine g_if Z rfl rfl rfl (p := false) rfl rfl (by decide) (fun h => by cases h) fun _ a Z => ?_
     refine g_if Z rfl rfl rfl (p := false) rfl rfl (by decide) (fun h => by cases h) fun _ a Z => ?_
     refine g_if Z rfl rfl rfl (p := false) rfl rfl (by decide) (fun h => by cases h) fun _ a Z => ?_
     refine g_if Z rfl rfl rfl (p := false) rfl rfl (by decide) (fun h => by cases h) fun _ a Z => ?_
     refine g_if Z rfl rfl rfl (p := false) rfl rfl (by decide) (fun h => by cases h) fun _ a Z => ?_
     refine g_if Z rfl rfl rfl (p := false) rfl rfl (by decide) (fun h => by cases h) fun _ a Z => ?_
     refine sO Z (vT false) rfl (Ob_pick rfl rfl rfl rfl rfl) fun a Z => ?_
     refine s_runk tMTree1 Z 1 rfl rfl fun a Z => ?_
     refine s_end Z [0, 6] rfl fun Z => ?_
     refine p_then (wp_ret ?_)
     replace H : Hf I D w I2 w2 [TrG NECell 145 (TT.node k x d w0_2.2.1 r0) (pp b1 0), Y w0_2.2.2, SlC NECell v1 x] := H.mkTG [(2, false), (2, true), (0, false), (2, false)] rfl
     obtain rfl := some_in hF
     exact f_ret Z (run_results1 rfl Z rfl) ⟨rfl, I2, (H.sub [(0, false), (0, false)] rfl).eq rfl⟩

theorem c_tree_node_api_Cell_walkR {σ : Type} : ∀ (fu : Nat) {I D : Dm} {v_n0 : Value} {n0 : TT (List ECell)} {from_ : ByteArray} {Y : Bool × σ → Ch} {y : ByteArray → σ → Option (Bool × σ)} {x0 : Bool × σ} {ly : Nat} {w : World} {rr : Bool × (TT (List ECell)) × (Bool × σ)} (hy : YieldOk Try.prog ly Y (fun (e_ : ByteArray) (v_ : Unit) => vS e_) (fun (e_ : ByteArray) (v_ : Unit) => []) y), F_tree_node_api_Cell_walkR fu n0 from_ y x0 = some rr → St I D w [TrG NECell 145 n0 v_n0, Y x0] → Calls Try.prog 91 #[v_n0, vS from_, .func (.yield ly) #[] #[]] w (Ret fun vv w' => vv = vT rr.1 ∧ ∃ I', Hf I D w I' w' [TrG NECell 145 rr.2.1 v_n0, Y rr.2.2])
 | 0 => fun hy hF _ => by cases hF
 | fu + 1 => fun hy hF H => c_tree_node_api_Cell_walk_b (c_tree_node_api_Cell_walkR fu) hy hF H

theorem c_tree_node_api_Cell_walk {σ : Type} {I D : Dm} {v_n0 : Value} {n0 : TT (List ECell)} {from_ : ByteArray} {Y : Bool × σ → Ch} {y : ByteArray → σ → Option (Bool × σ)} {x0 : Bool × σ} {ly : Nat} {w : World} {rr : Bool × (TT (List ECell)) × (Bool × σ)} (hy : YieldOk Try.prog ly Y (fun (e_ : ByteArray) (v_ : Unit) => vS e_) (fun (e_ : ByteArray) (v_ : Unit) => []) y) (hF : F_tree_node_api_Cell_walk n0 from_ y x0 = some rr) (H : St I D w [TrG NECell 145 n0 v_n0, Y x0]) : Calls Try.prog 91 #[v_n0, vS from_, .func (.yield ly) #[] #[]] w (Ret fun vv w' => vv = vT rr.1 ∧ ∃ I', Hf I D w I' w' [TrG NECell 145 rr.2.1 v_n0, Y rr.2.2]) := c_tree_node_api_Cell_walkR FU hy hF H

def F_tree_Tree_api_Cell_from_1 {σ : Type} (y : ByteArray → σ → Option (Bool × σ)) (x0 : Bool × σ) (p1 : Etree_Tree_api_Cell) (p2 : ByteArray) : Option (Etree_Tree_api_Cell × (Bool × σ)) := (F_tree_Tree_api_Cell_none p1).bind fun n0 => (if (!n0) = true then ((F_tree_node_api_Cell_walk p1.top p2 y x0).bind fun w0 => (some (({ p1 with top := w0.2.1 } : Etree_Tree_api_Cell), w0.2.2))) else (some (p1, x0)))

set_option maxHeartbeats 1000000 in
theorem c_tree_Tree_api_Cell_from_1 {σ : Type} {I D : Dm} {Y : Bool × σ → Ch} {y : ByteArray → σ → Option (Bool × σ)} {x0 : Bool × σ} {ly : Nat} {b_p1 : Nat} {p1 : Etree_Tree_api_Cell} {bb_p1 : Nat} {b_p2 : Nat} {p2 : ByteArray} {w : World} {rr : Etree_Tree_api_Cell × (Bool × σ)} (hy : YieldOk Try.prog ly Y (fun (e_ : ByteArray) (v_ : Unit) => vS e_) (fun (e_ : ByteArray) (v_ : Unit) => []) y) (hF : F_tree_Tree_api_Cell_from_1 y x0 p1 p2 = some rr) (H : St I D w [BxC b_p1 84 [pp bb_p1 0], OEtree_Tree_api_Cell bb_p1 p1, BxC b_p2 9 [vS p2], Y x0]) :
  Calls Try.prog 90 #[.func (.yield ly) #[] #[], pp b_p1 0, pp b_p2 0] w (Ret fun vv w' => vv = .tuple #[] ∧ ∃ I', Hf I D w I' w' [BxC b_p1 84 [pp bb_p1 0], OEtree_Tree_api_Cell bb_p1 rr.1, BxC b_p2 9 [vS p2], Y rr.2]) := by
 replace H := H.hf
 unfold F_tree_Tree_api_Cell_from_1 at hF
 refine f_enter 14 Try.func90 rfl rfl (Nat.le_of_ble_eq_true rfl) fun a Z => ?_
 replace Z := Z.sub (ts := [0, 1, 2]) rfl
 refine wp_seq ?_
 obtain ⟨n0, hx1, hF⟩ := bnd_in hF
 refine f_region Z fun Z => ?_
 refine sO Z _ rfl (oL tMTree1 rfl rfl (H.bc 0 0 rfl rfl)) fun a Z => ?_
 refine hC Z H [(1, false)] rfl #[] fn_78_YMTree1 rfl rfl (fun D h => have q := c_tree_Tree_api_Cell_none hx1 h; q) fun vv a w1 D2 hr hF2 Z => ?_
 obtain ⟨rfl, I1, K⟩ := hr
 have H := (hF2 K).nf rfl
 refine s_runk tMTree1 Z 1 rfl rfl fun a Z => ?_
 refine s_end Z [0, 1, 2, 6] rfl fun Z => ?_
 refine p_then ?_
 refine f_cond Z rfl (fun hc1 => ?_) (fun hc1 => ?_)
 ·replace hF := ite_t hc1 hF
  obtain ⟨v1, H⟩ := H.openX 0 rfl
  replace H := H.nf rfl; try dsimp only at H
  obtain ⟨w0, hx2, hF⟩ := bnd_in hF
  refine f_quietS 6 (by kernel_rfl) (by kernel_rfl) (by kernel_rfl) (by kernel_rfl) (by kernel_rfl) Z fun Z => ?_
  refine qO Z _ rfl (fun _ hw => oL tMTree1 rfl rfl ((H.blw hw).bc 2 0 rfl rfl)) fun a Z => ?_
  refine q_runk tMTree1 Z 2 rfl rfl fun a Z => ?_
  refine qO Z _ rfl (fun _ hw => oL tMTree1 rfl rfl ((H.blw hw).bc 0 0 rfl rfl)) fun a Z => ?_
  refine qO Z _ rfl (fun _ hw => oL tMTree1 rfl rfl ((H.blw hw).bc 3 0 rfl rfl)) fun a Z => ?_
  refine q_runk tMTree1 Z 1 rfl rfl fun a Z => ?_
  refine q_endS Z [0, 1, 2, 6, 7, 8, 9, 10, 11, 12] rfl fun w2 hb Z => ?_
  replace H := H.blw hb
  clear hb
  refine hC Z H [(1, false), (3, false)] rfl #[] fn_91_YMTree1 rfl rfl (fun D h => have q := c_tree_node_api_Cell_walk hy hx2 h; q) fun vv a w3 D2 hr hF2 Z => ?_
  obtain ⟨rfl, I2, K⟩ := hr
  have H := (hF2 K).nf rfl
  refine s_end Z [] rfl fun Z => ?_
  replace H := H.sX (OEtree_Tree_api_Cell bb_p1 ({ p1 with top := w0.2.1 } : Etree_Tree_api_Cell)) (v1) [(2, false), (0, false)] rfl rfl rfl
  obtain rfl := some_in hF
  exact f_fall Z (run_results0 rfl) ⟨rfl, I2, (H.sub [(2, false), (0, false), (1, false), (0, false)] rfl).eq rfl⟩
 ·replace hF := ite_f hc1 hF
  refine wp_skip ?_
  obtain rfl := some_in hF
  exact f_fall Z (run_results0 rfl) ⟨rfl, I1, (H.sub [(1, false), (0, false), (0, false), (0, false)] rfl).eq rfl⟩

def F_tree_Tree_api_Cell_Keys_y1 (to_ : ByteArray) (e_ : ByteArray) (sg : (List ByteArray)) : Option (Bool × (List ByteArray)) := match sg with | out => if ((!seqB to_ ⟨#[]⟩) && (!sltB e_ to_)) = true then (some (false, out)) else (chk (((out.length + [e_].length : Nat) : Int) * 16 ≤ 140737488355328) (some (true, (out ++ [e_]))))

def F_tree_Tree_api_Cell_Keys (t : Etree_Tree_api_Cell) (from_ : ByteArray) (to_ : ByteArray) : Option ((List ByteArray) × Etree_Tree_api_Cell) := (F_tree_Tree_api_Cell_from t from_).bind fun f => ((F_tree_Tree_api_Cell_from_1 (F_tree_Tree_api_Cell_Keys_y1 to_) (true, ([] : List ByteArray)) t f).bind fun r0 => (if (r0.2.1) = true then (some (r0.2.2, r0.1)) else (some (r0.2.2, r0.1))))

set_option maxHeartbeats 1000000 in
theorem c_tree_Tree_api_Cell_Keys {I D : Dm} {b_t : Nat} {t : Etree_Tree_api_Cell} {from_ : ByteArray} {to_ : ByteArray} {w : World} {rr : (List ByteArray) × Etree_Tree_api_Cell} (hF : F_tree_Tree_api_Cell_Keys t from_ to_ = some rr) (H : St I D w [OEtree_Tree_api_Cell b_t t]) :
  Calls Try.prog 46 #[pp b_t 0, vS from_, vS to_] w (Ret fun vv w' => ∃ q1 : Value, vv = q1 ∧ ∃ I', Hf I D w I' w' [OEtree_Tree_api_Cell b_t rr.2, SlC NS q1 rr.1]) := by
 replace H := H.hf
 unfold F_tree_Tree_api_Cell_Keys at hF
 refine f_enterM 25 Try.func46 rfl rfl (Nat.le_of_ble_eq_true rfl) fun a Z => ?_
 replace Z := Z.sub (ts := [0, 1, 2]) rfl
 refine wp_seq (f_region Z ?_); clear Z; intro Z
 refine hB Z H [vS to_] rfl rfl rfl rfl fun a w1 b1 H Z => ?_
 refine s_runk tMTree1 Z 1 rfl rfl fun a Z => ?_
 refine s_end Z [0, 1, 5, 6] rfl fun Z => ?_
 refine p_then (wp_seq (f_region Z ?_)); clear Z; intro Z
 refine hA1 Z H (nS) rfl rfl (by kernel_rfl) rfl fun a w2 b2 H Z => ?_
 refine s_end Z [0, 1, 5, 6, 7] rfl fun Z => ?_
 refine p_then (wp_seq ?_)
 refine wp_seq ?_
 obtain ⟨f, hx1, hF⟩ := bnd_in hF
 refine f_region Z fun Z => ?_
 refine s_runk tMTree1 Z 2 rfl rfl fun a Z => ?_
 refine hC Z H [(2, false)] rfl #[] fn_76_YMTree1 rfl rfl (fun D h => have q := c_tree_Tree_api_Cell_from hx1 h; q) fun vv a w3 D2 hr hF2 Z => ?_
 obtain ⟨g1, g2, rfl, I1, K⟩ := hr
 have H := (hF2 K).nf rfl
 refine s_end Z [5, 6, 7, 11] rfl fun Z => ?_
 refine p_then (wp_block ?_)
 replace H := H.nilow NS 9
 replace H := Hf.shutX (f := fun (xv_ : Value) => [BxC b1 9 [vS to_], BxC b2 99 [xv_], OwC NS 9 xv_ ([] : List ByteArray)]) (nS) H [(5, false), (4, false), (0, false)] rfl
 obtain ⟨r0, hx2, hF⟩ := bnd_in hF
 refine f_rangeFunc (KC := (fun (sg_ : (List ByteArray)) => ExC fun (xv_ : Value) => [BxC b1 9 [vS to_], BxC b2 99 [xv_], OwC NS 9 xv_ sg_])) (s0 := ([] : List ByteArray)) (enc := (fun (e_ : ByteArray) (v_ : Unit) => vS e_)) (ech := (fun (e_ : ByteArray) (v_ : Unit) => [])) (c0 := .exit 0) (rr := r0.2) Z H (js := [(0, false), (1, false), (0, false), (0, false)]) rfl [BxC g1 84 [pp b_t 0], OEtree_Tree_api_Cell b_t r0.1, BxC g2 9 [vS f]] fn_90_YMTree1 rfl (by decide) ?_ (fun L Y hyk hS => have hq := c_tree_Tree_api_Cell_from_1 hyk hx2 hS; Ret.mono hq fun _ _ h => h.2) ?_
 ·clear hF H Z
  intro m I D w L D0 fn tm e_ v_ sg_ rr a hF Z H
  obtain ⟨out, rfl⟩ : ∃ x_, x_ = sg_ := ⟨_, rfl⟩
  obtain ⟨v1, H⟩ := H.openX 1 rfl
  replace H := H.nf rfl; try dsimp only at H
  unfold F_tree_Tree_api_Cell_Keys_y1 at hF; try dsimp only at hF
  refine f_regionI (by kernel_rfl) (by rintro ⟨_, _, h⟩; exact h) Z fun Z => ?_
  refine s_runk tMTree1 Z 1 rfl rfl fun a Z => ?_
  refine s_end Z [5, 6, 7, 11, 12, 8] rfl fun Z => ?_
  refine p_begin H 3 rfl fun w5 H => ?_
  replace H := H.nf rfl; try dsimp only at H
  refine wpIn_block ?_
  refine wpIn_seq ?_
  refine wpIn_seq ?_
  refine f_regionI (by kernel_rfl) (by rintro ⟨_, _, h⟩; exact h) Z fun Z => ?_
  refine sO Z _ rfl (oL tMTree1 rfl rfl (H.bc 1 0 rfl rfl)) fun a Z => ?_
  refine s_runk tMTree1 Z 2 rfl rfl fun a Z => ?_
  refine gO Z (vS e_) rfl (wantB_t _) (.n 8 rfl .z) (fun hp => Ob_c tMTree1 rfl) fun a Z => ?_
  refine gO Z _ rfl (wantB_t _) (.n 5 rfl .z) (fun hp => oL tMTree1 rfl rfl (H.bc 1 0 rfl rfl)) fun a Z => ?_
  refine gO Z (vT (!sltB e_ to_)) rfl (wantB_t _) (.c 16 rfl id (.c 17 rfl id .z)) (fun hp => Ob_c tMTree1 rfl) fun a Z => ?_
  refine sO Z (vT ((!seqB to_ ⟨#[]⟩) && (!sltB e_ to_))) rfl (Ob_pick rfl rfl rfl rfl (pick_and _ _)) fun a Z => ?_
  refine s_end Z [5, 6, 7, 11, 12, 8, 13, 14, 15, 19] rfl fun Z => ?_
  refine p_then ?_
  refine f_condI Z rfl (fun hc1 => ?_) (fun hc1 => ?_)
  ·replace hF := ite_t hc1 hF
   refine wpIn_exit ?_
   refine p_then_x ?_
   refine f_exit_out (by decide) ?_
   refine y_exit H 0 rfl fun w6 H => ?_
   obtain rfl := some_in hF
   exact ⟨rfl, I, ((Hf.shutX (f := fun (xv_ : Value) => [BxC b1 9 [vS to_], BxC b2 99 [xv_], OwC NS 9 xv_ out]) v1 H [(1, false), (1, false), (1, false)] rfl).sub [(1, false), (0, false)] rfl).eq rfl⟩
  ·replace hF := ite_f hc1 hF
   refine wpIn_skip ?_
   refine p_then ?_
   obtain ⟨hg1, hF⟩ := chk_in hF
   refine f_regionI (by kernel_rfl) (by rintro ⟨_, _, h⟩; exact h) Z fun Z => ?_
   refine sO Z _ rfl (oL tMTree1 rfl rfl (H.bc 2 0 rfl rfl)) fun a Z => ?_
   refine s_runk tMTree1 Z 1 rfl rfl fun a Z => ?_
   refine h_bslice Z H (vs := [(0, vS e_)]) (cl := [vS e_]) (e := 9) rfl rfl rfl (by decide) rfl rfl (fun w => run_bslice (z := vS ByteArray.empty) (m := 1) Try.underlying99 (by kernel_rfl) rfl rfl (by decide) (by simp [Instr.fill, Value.cells]) w) fun a w7 b3 H Z => ?_
   refine h_appO Z H 4 E_99_YMTree1 [e_] rfl rfl rfl rfl rfl (by decide) rfl rfl rfl (slRep2.box1 (H.bx 0 rfl) ⟨rfl, trivial⟩) hg1 (by decide) fun v2 a w8 H Z => ?_
   dsimp only [List.eraseIdx] at H
   replace H := (H.sub [(0, false), (1, false), (1, false), (1, false)] rfl).nf rfl
   refine hT tMTree1 Z H 3 rfl rfl (slS.cells (H.owshape 0 rfl)) rfl rfl (one_cons (slS.one (H.owshape 0 rfl)) one_nil) (Nat.le_of_ble_eq_true rfl) rfl fun w9 H => ?_
   dsimp only [List.eraseIdx] at H
   refine s_end Z [5, 6, 7, 11, 12, 8, 13, 14, 15, 19, 20, 21, 22, 23] rfl fun Z => ?_
   refine p_blk ?_
   refine y_norm H 2 rfl fun w10 H => ?_
   obtain rfl := some_in hF
   exact ⟨rfl, I, ((Hf.shutX (f := fun (xv_ : Value) => [BxC b1 9 [vS to_], BxC b2 99 [xv_], OwC NS 9 xv_ (out ++ [e_])]) v2 H [(3, false), (1, false), (1, false)] rfl).sub [(1, false), (0, false)] rfl).eq rfl⟩
 ·intro D0_1 a w11 I3 Z H
  obtain ⟨v3, H⟩ := H.openX 1 rfl
  replace H := H.nf rfl; try dsimp only at H
  refine ⟨fun hc2 => ?_, fun hc2 => ?_⟩
  ·replace hF := ite_t hc2 hF
   refine p_blk ?_
   refine p_then (wp_seq (f_region Z ?_)); clear Z; intro Z
   refine sO Z _ rfl (oL tMTree1 rfl rfl (H.bc 1 0 rfl rfl)) fun a Z => ?_
   refine s_runk tMTree1 Z 1 rfl rfl fun a Z => ?_
   refine s_end Z [6] rfl fun Z => ?_
   refine p_then (wp_ret ?_)
   refine f_retM Z H 3 rfl fun w12 H => ?_
   replace H := H.nf rfl; try dsimp only at H
   obtain ⟨I4, _, H⟩ := H.frzow 3 rfl
   replace H := H.nf rfl; try dsimp only at H
   obtain rfl := some_in hF
   exact ⟨_, (run_results1 rfl Z rfl), v3, rfl, I4, (H.sub [(5, false), (0, true)] rfl).eq rfl⟩
  ·replace hF := ite_f hc2 hF
   refine wp_exit ?_
   refine f_exit_here ?_
   refine p_then (wp_seq (f_region Z ?_)); clear Z; intro Z
   refine sO Z _ rfl (oL tMTree1 rfl rfl (H.bc 1 0 rfl rfl)) fun a Z => ?_
   refine s_runk tMTree1 Z 1 rfl rfl fun a Z => ?_
   refine s_end Z [6] rfl fun Z => ?_
   refine p_then (wp_ret ?_)
   refine f_retM Z H 3 rfl fun w13 H => ?_
   replace H := H.nf rfl; try dsimp only at H
   obtain ⟨I5, _, H⟩ := H.frzow 3 rfl
   replace H := H.nf rfl; try dsimp only at H
   obtain rfl := some_in hF
   exact ⟨_, (run_results1 rfl Z rfl), v3, rfl, I5, (H.sub [(5, false), (0, true)] rfl).eq rfl⟩

end Go.Proofs.Ytglfajjcgbfehaa
