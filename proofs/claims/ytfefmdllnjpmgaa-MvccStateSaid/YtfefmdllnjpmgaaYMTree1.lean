/- Trees of versions: going through them; the methods. -/
import Derived.Test.YtfefmdllnjpmgaaYMTree
namespace Go.Proofs.Ytfefmdllnjpmgaa
open Go.RowKit
structure Etree_Tree_api_Cell where
 top : TT (List ECell)
 n : Int
 made : Bool

instance : Inhabited Etree_Tree_api_Cell := ⟨⟨TT.nil, 0, false⟩⟩

def cEtree_Tree_api_Cell (x : Etree_Tree_api_Cell) (v0 : Value) : List Value := [v0, .int .i64 x.n, .bool x.made]

def OEtree_Tree_api_Cell (b : Nat) (x : Etree_Tree_api_Cell) : Ch := ExC fun (p : Value) => [BxC b 87 (cEtree_Tree_api_Cell x p), TrG NECell 90 x.top p]

def tMTree1L : TabL := ⟨[(89088, 0), (89089, 1), (89090, 2), (92160, 0), (92163, 3), (92164, 4)], [], [], [(73, (9, 1))], [(3, (1, false)), (4, (1, false)), (9, (1, false)), (55, (1, false)), (73, (1, false)), (85, (1, false)), (87, (3, true))]⟩

def tMTree1 : Tab Try.prog := ⟨tMTree1L, by kernel_rfl⟩

theorem fn_42_YMTree1 : IsFn Try.prog 42 := ⟨_, Try.func42, by kernel_rfl, by kernel_rfl⟩

theorem fn_44_YMTree1 : IsFn Try.prog 44 := ⟨_, Try.func44, by kernel_rfl, by kernel_rfl⟩

theorem fn_45_YMTree1 : IsFn Try.prog 45 := ⟨_, Try.func45, by kernel_rfl, by kernel_rfl⟩

theorem fn_55_YMTree1 : IsFn Try.prog 55 := ⟨_, Try.func55, by kernel_rfl, by kernel_rfl⟩

theorem fn_56_YMTree1 : IsFn Try.prog 56 := ⟨_, Try.func56, by kernel_rfl, by kernel_rfl⟩

theorem E_73_YMTree1 : Elem Try.prog 73 9 1 16 := ⟨Try.underlying73, by
 have h : (Try.prog.info? 9).map (fun i => (i.zero, i.size, i.bytes)) = some (some (.string ByteArray.empty), 1, 16) := by kernel_rfl
 obtain ⟨i, hi, h1⟩ := Option.map_eq_some_iff.1 h
 simp only [Prod.mk.injEq] at h1
 exact ⟨i, _, hi, h1.1, h1.2.1, h1.2.2, by rfl⟩, by decide⟩

def F_tree_New_api_Cell : Option Etree_Tree_api_Cell := some ({ (default : Etree_Tree_api_Cell) with made := true } : Etree_Tree_api_Cell)

set_option maxHeartbeats 1000000 in
theorem c_tree_New_api_Cell {I D : Dm} {w : World} {rr : Etree_Tree_api_Cell} (hF : F_tree_New_api_Cell = some rr) (H : St I D w []) :
  Calls Try.prog 24 #[] w (Ret fun vv w' => ∃ g1 : Nat, vv = .pointer (some ⟨g1, 0, none⟩) ∧ ∃ I', Hf I D w I' w' [OEtree_Tree_api_Cell g1 rr]) := by
 replace H := H.hf
 unfold F_tree_New_api_Cell at hF
 refine f_enter 3 Try.func24 rfl rfl (Nat.le_of_ble_eq_true rfl) fun a Z => ?_
 replace Z := Z.sub (ts := []) rfl
 refine wp_seq (f_region Z ?_); clear Z; intro Z
 refine s_runk tMTree1 Z 1 rfl rfl ?_; clear Z a; intro a Z
 refine s_end Z [0] rfl ?_; clear Z; intro Z
 refine p_then (wp_seq (f_region Z ?_)); clear Z; intro Z
 refine s_ob Z (v := .agg #[.pointer none, .int .i64 0, .bool true]) rfl rfl (by decide) rfl (Ob_build (vs := [(2, .bool true)]) rfl rfl (by go_simp <;> rfl)) ?_; clear Z a; intro a Z
 refine h_boxv Z H (cl := [.pointer none, .int .i64 0, .bool true]) rfl rfl rfl (by decide) rfl rfl rfl ?_; clear Z a H; intro a w1 b1 H Z
 refine s_runk tMTree1 Z 1 rfl rfl ?_; clear Z a; intro a Z
 refine s_end Z [0] rfl ?_; clear Z; intro Z
 refine p_then (wp_ret ?_)
 replace H : Hf I D w I w1 [TrG NECell 90 TT.nil (.pointer none), BxC b1 87 [.pointer none, .int .i64 0, .bool true]] := H.mkTNG NECell 90
 replace H : Hf I D w I w1 [OEtree_Tree_api_Cell b1 ({ (default : Etree_Tree_api_Cell) with made := true } : Etree_Tree_api_Cell)] := H.shutX (.pointer none) [(1, false), (0, false)] rfl
 obtain rfl := some_in hF
 exact f_ret Z (run_results1 rfl Z rfl) ⟨b1, rfl, I, (H.sub [(0, false)] rfl).eq rfl⟩

def F_tree_Tree_api_Cell_none (t : Etree_Tree_api_Cell) : Option Bool := some (!t.made)

set_option maxHeartbeats 1000000 in
theorem c_tree_Tree_api_Cell_none {I D : Dm} {b_t : Nat} {t : Etree_Tree_api_Cell} {w : World} {rr : Bool} (hF : F_tree_Tree_api_Cell_none t = some rr) (H : St I D w [OEtree_Tree_api_Cell b_t t]) :
  Calls Try.prog 42 #[.pointer (some ⟨b_t, 0, none⟩)] w (Ret fun vv w' => vv = .bool rr ∧ ∃ I', Hf I D w I' w' [OEtree_Tree_api_Cell b_t t]) := by
 replace H := H.hf
 unfold F_tree_Tree_api_Cell_none at hF
 refine f_enter 12 Try.func42 rfl rfl (Nat.le_of_ble_eq_true rfl) fun a Z => ?_
 replace Z := Z.sub (ts := [0]) rfl
 refine wp_seq (f_region Z ?_); clear Z; intro Z
 refine s_runk tMTree1 Z 1 rfl rfl ?_; clear Z a; intro a Z
 refine s_end Z [0, 2] rfl ?_; clear Z; intro Z
 refine p_then (wp_seq (f_region Z ?_)); clear Z; intro Z
 refine s_runk tMTree1 Z 1 rfl rfl ?_; clear Z a; intro a Z
 refine s_ob Z (v := .bool false) rfl rfl (by decide) rfl (Ob_pnil rfl rfl rfl Try.underlying55 (.inl ⟨rfl, rfl⟩)) ?_; clear Z a; intro a Z
 refine s_runk tMTree1 Z 1 rfl rfl ?_; clear Z a; intro a Z
 refine g_if Z rfl rfl rfl (p := true) rfl rfl (by decide) (fun _ => ?_) (fun h => by cases h)
 refine s_runk tMTree1 Z 1 rfl rfl ?_; clear Z a; intro a Z
 refine g_if Z rfl rfl rfl (p := true) rfl rfl (by decide) (fun _ => ?_) (fun h => by cases h)
 refine s_runk tMTree1 Z 1 rfl rfl ?_; clear Z a; intro a Z
 refine g_if Z rfl rfl rfl (p := true) rfl rfl (by decide) (fun _ => ?_) (fun h => by cases h)
 refine s_runk tMTree1 Z 1 rfl rfl ?_; clear Z a; intro a Z
 refine g_if Z rfl rfl rfl (p := true) rfl rfl (by decide) (fun _ => ?_) (fun h => by cases h)
 obtain ⟨v1, H⟩ := H.openX 0 rfl
 replace H : Hf I D w I w [BxC b_t 87 [v1, .int .i64 t.n, .bool t.made], TrG NECell 90 t.top v1] := H
 refine s_ob Z (v := .bool t.made) rfl rfl (by decide) rfl (Ob_load tMTree1 rfl rfl rfl ((H.bx 0 rfl).cell 2 rfl)) ?_; clear Z a; intro a Z
 refine g_if Z rfl rfl rfl (p := true) rfl rfl (by decide) (fun _ => ?_) (fun h => by cases h)
 refine s_runk tMTree1 Z 1 rfl rfl ?_; clear Z a; intro a Z
 refine s_ob Z (v := .bool (!t.made)) rfl rfl (by decide) rfl (Ob_pick rfl rfl rfl rfl rfl) ?_; clear Z a; intro a Z
 refine s_runk tMTree1 Z 1 rfl rfl ?_; clear Z a; intro a Z
 refine s_end Z [2] rfl ?_; clear Z; intro Z
 refine p_then (wp_ret ?_)
 replace H : Hf I D w I w [OEtree_Tree_api_Cell b_t t] := H.shutX (v1) [(0, false), (0, false)] rfl
 obtain rfl := some_in hF
 exact f_ret Z (run_results1 rfl Z rfl) ⟨rfl, I, (H.sub [(0, false)] rfl).eq rfl⟩

def F_tree_Tree_api_Cell_Put_k1 (t : Etree_Tree_api_Cell) (had : Bool) (yb_t_top : TT (List ECell)) (yb_t_n : Int) : Option (Bool × Etree_Tree_api_Cell) := some (had, ({ t with top := yb_t_top, n := yb_t_n } : Etree_Tree_api_Cell))

def F_tree_Tree_api_Cell_Put (t : Etree_Tree_api_Cell) (k : ByteArray) (v : List ECell) : Option (Bool × Etree_Tree_api_Cell) := (F_tree_Tree_api_Cell_none t).bind fun n0 => (if (n0) = true then (some (false, t)) else ((F_tree_put_api_Cell t.top k v).bind fun c => (if (!c.2) = true then (chk (inI (t.n + 1)) (F_tree_Tree_api_Cell_Put_k1 t c.2 c.1 (t.n + 1))) else (F_tree_Tree_api_Cell_Put_k1 t c.2 c.1 t.n))))

set_option maxHeartbeats 1000000 in
theorem c_tree_Tree_api_Cell_Put {I D : Dm} {b_t : Nat} {t : Etree_Tree_api_Cell} {k : ByteArray} {v : List ECell} {v1_v : Value} {w : World} {rr : Bool × Etree_Tree_api_Cell} (hF : F_tree_Tree_api_Cell_Put t k v = some rr) (H : St I D w [OEtree_Tree_api_Cell b_t t, SlC NECell v1_v v]) :
  Calls Try.prog 29 #[.pointer (some ⟨b_t, 0, none⟩), .string k, v1_v] w (Ret fun vv w' => vv = .bool rr.1 ∧ ∃ I', Hf I D w I' w' [OEtree_Tree_api_Cell b_t rr.2]) := by
 replace H := H.hf
 unfold F_tree_Tree_api_Cell_Put at hF
 refine f_enter 33 Try.func29 rfl rfl (Nat.le_of_ble_eq_true rfl) fun a Z => ?_
 replace Z := Z.sub (ts := [0, 1, 2]) rfl
 refine wp_seq (f_region Z ?_); clear Z; intro Z
 refine s_runk tMTree1 Z 1 rfl rfl ?_; clear Z a; intro a Z
 refine s_end Z [0, 1, 2, 6] rfl ?_; clear Z; intro Z
 refine p_then (wp_seq ?_)
 refine wp_seq ?_
 obtain ⟨n0, hx1, hF⟩ := bnd_in hF
 refine f_region Z ?_; clear Z; intro Z
 refine s_runk tMTree1 Z 1 rfl rfl ?_; clear Z a; intro a Z
 refine h_call Z H (js := [(0, false)]) rfl (caps := #[]) fn_42_YMTree1 rfl rfl rfl rfl rfl (by decide) rfl rfl (fun D1 hS => have hq := c_tree_Tree_api_Cell_none hx1 hS; hq) ?_; clear Z a; intro vv a w1 D2 hr hF2 Z
 obtain ⟨rfl, I1, K⟩ := hr
 have H : Hf I D w I1 w1 [OEtree_Tree_api_Cell b_t t, SlC NECell v1_v v] := hF2 K
 clear hF2 K
 refine s_end Z [0, 1, 2, 6, 9] rfl ?_; clear Z; intro Z
 refine p_then ?_
 refine f_cond Z rfl (fun hc1 => ?_) (fun hc1 => ?_)
 ·replace hF := ite_t hc1 hF
  refine wp_seq (f_region Z ?_); clear Z; intro Z
  refine s_runk tMTree1 Z 1 rfl rfl ?_; clear Z a; intro a Z
  refine s_end Z [0, 1, 2, 6] rfl ?_; clear Z; intro Z
  refine p_then (wp_ret ?_)
  refine p_then_r ?_
  obtain rfl := some_in hF
  exact f_ret Z (run_results1 rfl Z rfl) ⟨rfl, I1, (H.sub [(0, false)] rfl).eq rfl⟩
 ·replace hF := ite_f hc1 hF
  refine wp_skip ?_
  refine p_then (wp_seq (f_region Z ?_)); clear Z; intro Z
  refine s_runk tMTree1 Z 1 rfl rfl ?_; clear Z a; intro a Z
  refine s_end Z [0, 1, 2, 6, 7] rfl ?_; clear Z; intro Z
  refine p_then ?_
  refine f_cut (fun a' w' => ∃ (had : Bool) (yb_t_top : TT (List ECell)) (yb_t_n : Int), ∃ v2 : Value, Sl 33 [(6, .bool false), (7, .bool had)] a' ∧ (∃ I2, Hf I D w I2 w' [BxC b_t 87 [v2, .int .i64 yb_t_n, .bool t.made], TrG NECell 90 yb_t_top v2]) ∧ F_tree_Tree_api_Cell_Put_k1 t had yb_t_top yb_t_n = some rr) ?_ ?_
  ·rintro a w2 ⟨had, yb_t_top, yb_t_n, v2, Z, ⟨I2, H⟩, hF⟩
   unfold F_tree_Tree_api_Cell_Put_k1 at hF
   try dsimp only at hF
   refine wp_seq (f_region Z ?_); clear Z; intro Z
   refine s_runk tMTree1 Z 2 rfl rfl ?_; clear Z a; intro a Z
   refine s_end Z [6] rfl ?_; clear Z; intro Z
   refine p_then (wp_ret ?_)
   replace H : Hf I D w I2 w2 [OEtree_Tree_api_Cell b_t ({ t with top := yb_t_top, n := yb_t_n } : Etree_Tree_api_Cell)] := H.shutX (v2) [(0, false), (0, false)] rfl
   obtain rfl := some_in hF
   exact f_ret Z (run_results1 rfl Z rfl) ⟨rfl, I2, (H.sub [(0, false)] rfl).eq rfl⟩
  ·skip
   refine wp_seq ?_
   obtain ⟨c, hx2, hF⟩ := bnd_in hF
   refine f_region Z ?_; clear Z; intro Z
   refine s_runk tMTree1 Z 4 rfl rfl ?_; clear Z a; intro a Z
   obtain ⟨v3, H⟩ := H.openX 0 rfl
   replace H : Hf I D w I1 w1 [BxC b_t 87 [v3, .int .i64 t.n, .bool t.made], TrG NECell 90 t.top v3, SlC NECell v1_v v] := H
   refine s_ob Z (v := v3) rfl rfl (by decide) rfl (Ob_load tMTree1 rfl rfl rfl ((H.bx 0 rfl).cell 0 rfl)) ?_; clear Z a; intro a Z
   refine s_runk tMTree1 Z 2 rfl rfl ?_; clear Z a; intro a Z
   refine h_call Z H (js := [(1, false), (1, true)]) rfl (caps := #[]) fn_44_YMTree1 rfl rfl rfl rfl rfl (by decide) rfl rfl (fun D1 hS => have hq := c_tree_put_api_Cell hx2 hS; hq) ?_; clear Z a; intro vv a w3 D2 hr hF2 Z
   obtain ⟨q1, rfl, I3, K⟩ := hr
   have H : Hf I D w I3 w3 [TrG NECell 90 c.1 q1, BxC b_t 87 [v3, .int .i64 t.n, .bool t.made], SlC NECell v1_v v] := hF2 K
   clear hF2 K
   refine s_runk tMTree1 Z 5 rfl rfl ?_; clear Z a; intro a Z
   refine h_store tMTree1 Z H 1 rfl rfl rfl rfl rfl rfl (H.trPG 0 rfl).cells rfl rfl (one_cons (H.trPG 0 rfl).one one_nil) (Nat.le_of_ble_eq_true rfl) rfl ?_; clear H; intro w4 H
   dsimp only [List.eraseIdx] at H
   refine s_runk tMTree1 Z 1 rfl rfl ?_; clear Z a; intro a Z
   refine s_end Z [0, 6, 7] rfl ?_; clear Z; intro Z
   refine p_then (wp_seq (f_region Z ?_)); clear Z; intro Z
   refine s_runk tMTree1 Z 2 rfl rfl ?_; clear Z a; intro a Z
   refine s_end Z [0, 6, 7, 24] rfl ?_; clear Z; intro Z
   refine p_then ?_
   refine f_cond Z rfl (fun hc2 => ?_) (fun hc2 => ?_)
   ·replace hF := ite_t hc2 hF
    obtain ⟨hg1, hF⟩ := chk_in hF
    refine f_region Z ?_; clear Z; intro Z
    refine s_runk tMTree1 Z 3 rfl rfl ?_; clear Z a; intro a Z
    refine s_ob Z (v := .int .i64 t.n) rfl rfl (by decide) rfl (Ob_load tMTree1 rfl rfl rfl ((H.bx 0 rfl).cell 1 rfl)) ?_; clear Z a; intro a Z
    refine s_ob Z (v := .int .i64 (t.n + 1)) rfl rfl (by decide) rfl (Ob_add rfl rfl rfl (wrI hg1)) ?_; clear Z a; intro a Z
    refine s_runk tMTree1 Z 2 rfl rfl ?_; clear Z a; intro a Z
    refine h_store tMTree1 Z H 0 rfl rfl rfl rfl rfl rfl rfl rfl rfl (one_cons rfl one_nil) (Nat.le_of_ble_eq_true rfl) rfl ?_; clear H; intro w5 H
    dsimp only [List.eraseIdx] at H
    refine s_end Z [6, 7] rfl ?_; clear Z; intro Z
    refine p_then ?_
    exact ⟨c.2, c.1, t.n + 1, q1, Z.sub (ts := [6, 7]) rfl, ⟨I3, (H.sub [(0, false), (0, false)] rfl).eq rfl⟩, hF⟩
   ·replace hF := ite_f hc2 hF
    refine wp_skip ?_
    refine p_then ?_
    exact ⟨c.2, c.1, t.n, q1, Z.sub (ts := [6, 7]) rfl, ⟨I3, (H.sub [(0, false), (0, false)] rfl).eq rfl⟩, hF⟩

def F_tree_Tree_api_Cell_from (t : Etree_Tree_api_Cell) (k : ByteArray) : Option ByteArray := some k

set_option maxHeartbeats 1000000 in
theorem c_tree_Tree_api_Cell_from {I D : Dm} {b_t : Nat} {t : Etree_Tree_api_Cell} {k : ByteArray} {w : World} {rr : ByteArray} (hF : F_tree_Tree_api_Cell_from t k = some rr) (H : St I D w [OEtree_Tree_api_Cell b_t t]) :
  Calls Try.prog 45 #[.pointer (some ⟨b_t, 0, none⟩), .string k] w (Ret fun vv w' => ∃ g1 g2 : Nat, vv = .func (.func 55) #[] #[.pointer (some ⟨g1, 0, none⟩), .pointer (some ⟨g2, 0, none⟩)] ∧ ∃ I', Hf I D w I' w' [OEtree_Tree_api_Cell b_t t, BxC g1 55 [.pointer (some ⟨b_t, 0, none⟩)], BxC g2 9 [.string rr]]) := by
 replace H := H.hf
 unfold F_tree_Tree_api_Cell_from at hF
 refine f_enter 6 Try.func45 rfl rfl (Nat.le_of_ble_eq_true rfl) fun a Z => ?_
 replace Z := Z.sub (ts := [0, 1]) rfl
 refine wp_seq (f_region Z ?_); clear Z; intro Z
 refine h_boxv Z H (cl := [.pointer (some ⟨b_t, 0, none⟩)]) rfl rfl rfl (by decide) rfl rfl rfl ?_; clear Z a H; intro a w1 b1 H Z
 refine h_boxv Z H (cl := [.string k]) rfl rfl rfl (by decide) rfl rfl rfl ?_; clear Z a H; intro a w2 b2 H Z
 refine s_runk tMTree1 Z 1 rfl rfl ?_; clear Z a; intro a Z
 refine s_end Z [2, 3, 4] rfl ?_; clear Z; intro Z
 refine p_then (wp_seq (f_region Z ?_)); clear Z; intro Z
 refine s_runk tMTree1 Z 2 rfl rfl ?_; clear Z a; intro a Z
 refine s_end Z [4] rfl ?_; clear Z; intro Z
 refine p_then (wp_ret ?_)
 obtain rfl := some_in hF
 exact f_ret Z (run_results1 rfl Z rfl) ⟨b1, b2, rfl, I, (H.sub [(2, false), (1, false), (0, false)] rfl).eq rfl⟩

def F_tree_node_api_Cell_walk_b {σ : Type} (self : (TT (List ECell)) → ByteArray → (ByteArray → σ → Option (Bool × σ)) → (Bool × σ) → Option (Bool × (TT (List ECell)) × (Bool × σ))) (n0 : TT (List ECell)) (from_ : ByteArray) (y : ByteArray → σ → Option (Bool × σ)) (x0 : Bool × σ) : Option (Bool × (TT (List ECell)) × (Bool × σ)) := if (n0.isNil) = true then (some (true, n0, x0)) else (ttE n0 (none) (fun k x d l r0 => if (sltB k from_) = true then ((self r0 from_ y x0).bind fun w0 => (some (w0.1, (TT.node k x d l w0.2.1), w0.2.2))) else ((self l from_ y x0).bind fun w0_2 => (if (w0_2.1) = true then (chk (w0_2.2.2.1 = true) ((y k w0_2.2.2.2).bind fun r0_2 => (if (r0_2.1) = true then ((self r0 from_ y r0_2).bind fun w0_3 => (some (w0_3.1, (TT.node k x d w0_2.2.1 w0_3.2.1), w0_3.2.2))) else (some (false, (TT.node k x d w0_2.2.1 r0), r0_2))))) else (some (false, (TT.node k x d w0_2.2.1 r0), w0_2.2.2))))))

def F_tree_node_api_Cell_walkR {σ : Type} : Nat → (TT (List ECell)) → ByteArray → (ByteArray → σ → Option (Bool × σ)) → (Bool × σ) → Option (Bool × (TT (List ECell)) × (Bool × σ))
 | 0 => fun _ _ _ _ => none
 | fu + 1 => F_tree_node_api_Cell_walk_b (F_tree_node_api_Cell_walkR fu)

def F_tree_node_api_Cell_walk {σ : Type} (n0 : TT (List ECell)) (from_ : ByteArray) (y : ByteArray → σ → Option (Bool × σ)) (x0 : Bool × σ) : Option (Bool × (TT (List ECell)) × (Bool × σ)) := F_tree_node_api_Cell_walkR FU n0 from_ y x0

set_option maxHeartbeats 1000000 in
theorem c_tree_node_api_Cell_walk_b {σ : Type} {self : (TT (List ECell)) → ByteArray → (ByteArray → σ → Option (Bool × σ)) → (Bool × σ) → Option (Bool × (TT (List ECell)) × (Bool × σ))} (ih : ∀ {I D : Dm} {v_n0 : Value} {n0 : TT (List ECell)} {from_ : ByteArray} {Y : Bool × σ → Ch} {y : ByteArray → σ → Option (Bool × σ)} {x0 : Bool × σ} {ly : Nat} {w : World} {rr : Bool × (TT (List ECell)) × (Bool × σ)} (hy : YieldOk Try.prog ly Y (fun (e_ : ByteArray) (v_ : Unit) => .string e_) (fun (e_ : ByteArray) (v_ : Unit) => []) y), self n0 from_ y x0 = some rr → St I D w [TrG NECell 90 n0 v_n0, Y x0] → Calls Try.prog 56 #[v_n0, .string from_, .func (.yield ly) #[] #[]] w (Ret fun vv w' => vv = .bool rr.1 ∧ ∃ I', Hf I D w I' w' [TrG NECell 90 rr.2.1 v_n0, Y rr.2.2])) {I D : Dm} {v_n0 : Value} {n0 : TT (List ECell)} {from_ : ByteArray} {Y : Bool × σ → Ch} {y : ByteArray → σ → Option (Bool × σ)} {x0 : Bool × σ} {ly : Nat} {w : World} {rr : Bool × (TT (List ECell)) × (Bool × σ)} (hy : YieldOk Try.prog ly Y (fun (e_ : ByteArray) (v_ : Unit) => .string e_) (fun (e_ : ByteArray) (v_ : Unit) => []) y) (hF : F_tree_node_api_Cell_walk_b self n0 from_ y x0 = some rr) (H : St I D w [TrG NECell 90 n0 v_n0, Y x0]) :
  Calls Try.prog 56 #[v_n0, .string from_, .func (.yield ly) #[] #[]] w (Ret fun vv w' => vv = .bool rr.1 ∧ ∃ I', Hf I D w I' w' [TrG NECell 90 rr.2.1 v_n0, Y rr.2.2]) := by
 replace H := H.hf
 unfold F_tree_node_api_Cell_walk_b at hF
 refine f_enter 46 Try.func56 rfl rfl (Nat.le_of_ble_eq_true rfl) fun a Z => ?_
 replace Z := Z.sub (ts := [0, 1, 2]) rfl
 refine wp_seq (f_region Z ?_); clear Z; intro Z
 refine s_runk tMTree1 Z 1 rfl rfl ?_; clear Z a; intro a Z
 refine s_end Z [0, 1, 2, 6] rfl ?_; clear Z; intro Z
 refine p_then (wp_seq ?_)
 refine wp_seq (f_region Z ?_); clear Z; intro Z
 refine s_runk tMTree1 Z 1 rfl rfl ?_; clear Z a; intro a Z
 refine s_ob Z (v := .bool n0.isNil) rfl rfl (by decide) rfl (Ob_tnilG (q := n0) rfl rfl rfl Try.underlying85 (H.trIG 0 rfl) (.inl ⟨rfl, rfl⟩)) ?_; clear Z a; intro a Z
 refine s_end Z [0, 1, 2, 6, 8] rfl ?_; clear Z; intro Z
 refine p_then ?_
 refine f_cond Z rfl (fun hc1 => ?_) (fun hc1 => ?_)
 ·replace hF := ite_t hc1 hF
  refine wp_seq (f_region Z ?_); clear Z; intro Z
  refine s_runk tMTree1 Z 1 rfl rfl ?_; clear Z a; intro a Z
  refine s_end Z [0, 1, 2, 6] rfl ?_; clear Z; intro Z
  refine p_then (wp_ret ?_)
  refine p_then_r ?_
  obtain rfl := some_in hF
  exact f_ret Z (run_results1 rfl Z rfl) ⟨rfl, I, (H.sub [(0, false), (0, false)] rfl).eq rfl⟩
 ·replace hF := ite_f hc1 hF
  refine wp_skip ?_
  refine p_then (wp_seq ?_)
  refine wp_seq ?_
  rcases ttE_in hF with ⟨ho1, hF⟩ | ⟨k, x, d, l, r0, ho1, hF⟩
  ·obtain ⟨hv, H⟩ := H.trNG 0 rfl ho1
   subst hv
   replace H : Hf I D w I w [Y x0] := H
   cases hF
  ·obtain ⟨b1, v1, v2, v3, hv, H⟩ := H.trSG 0 rfl ho1
   subst hv
   replace H : Hf I D w I w [BxC b1 90 [.string k, v1, .int .i64 d, v2, v3], SlC NECell v1 x, TrG NECell 90 l v2, TrG NECell 90 r0 v3, Y x0] := H
   refine f_region Z ?_; clear Z; intro Z
   refine s_runk tMTree1 Z 3 rfl rfl ?_; clear Z a; intro a Z
   refine s_ob Z (v := .string k) rfl rfl (by decide) rfl (Ob_load tMTree1 rfl rfl rfl ((H.bx 0 rfl).cell 0 rfl)) ?_; clear Z a; intro a Z
   refine s_runk tMTree1 Z 2 rfl rfl ?_; clear Z a; intro a Z
   refine s_end Z [0, 1, 2, 6, 14] rfl ?_; clear Z; intro Z
   refine p_then ?_
   refine f_cond Z rfl (fun hc2 => ?_) (fun hc2 => ?_)
   ·replace hF := ite_t hc2 hF
    refine wp_seq ?_
    obtain ⟨w0, hx1, hF⟩ := bnd_in hF
    refine f_region Z ?_; clear Z; intro Z
    refine s_runk tMTree1 Z 3 rfl rfl ?_; clear Z a; intro a Z
    refine s_ob Z (v := v3) rfl rfl (by decide) rfl (Ob_load tMTree1 rfl rfl rfl ((H.bx 0 rfl).cell 4 rfl)) ?_; clear Z a; intro a Z
    refine s_runk tMTree1 Z 2 rfl rfl ?_; clear Z a; intro a Z
    refine h_call Z H (js := [(3, false), (3, false)]) rfl (caps := #[]) fn_56_YMTree1 rfl rfl rfl rfl rfl (by decide) rfl rfl (fun D1 hS => have hq := ih hy hx1 hS; hq) ?_; clear Z a; intro vv a w1 D2 hr hF2 Z
    obtain ⟨rfl, I1, K⟩ := hr
    have H : Hf I D w I1 w1 [TrG NECell 90 w0.2.1 v3, Y w0.2.2, BxC b1 90 [.string k, v1, .int .i64 d, v2, v3], SlC NECell v1 x, TrG NECell 90 l v2] := hF2 K
    clear hF2 K
    refine s_runk tMTree1 Z 1 rfl rfl ?_; clear Z a; intro a Z
    refine s_end Z [0, 1, 2, 6] rfl ?_; clear Z; intro Z
    refine p_then (wp_ret ?_)
    refine p_then_r ?_
    replace H : Hf I D w I1 w1 [TrG NECell 90 (TT.node k x d l w0.2.1) (.pointer (some ⟨b1, 0, none⟩)), Y w0.2.2, SlC NECell v1 x] := H.mkTG [(2, false), (2, true), (3, false), (0, false)] rfl
    obtain rfl := some_in hF
    exact f_ret Z (run_results1 rfl Z rfl) ⟨rfl, I1, (H.sub [(0, false), (0, false)] rfl).eq rfl⟩
   ·replace hF := ite_f hc2 hF
    refine wp_skip ?_
    refine p_then (wp_seq ?_)
    obtain ⟨w0_2, hx2, hF⟩ := bnd_in hF
    refine f_regionY 13 (by kernel_rfl) (by rintro ⟨_, _, h⟩; exact h) Z ?_; clear Z; intro Z
    refine s_runk tMTree1 Z 3 rfl rfl ?_; clear Z a; intro a Z
    refine s_ob Z (v := v2) rfl rfl (by decide) rfl (Ob_load tMTree1 rfl rfl rfl ((H.bx 0 rfl).cell 3 rfl)) ?_; clear Z a; intro a Z
    refine s_runk tMTree1 Z 2 rfl rfl ?_; clear Z a; intro a Z
    refine h_call Z H (js := [(2, false), (3, false)]) rfl (caps := #[]) fn_56_YMTree1 rfl rfl rfl rfl rfl (by decide) rfl rfl (fun D1 hS => have hq := ih hy hx2 hS; hq) ?_; clear Z a; intro vv a w2 D2 hr hF2 Z
    obtain ⟨rfl, I2, K⟩ := hr
    have H : Hf I D w I2 w2 [TrG NECell 90 w0_2.2.1 v2, Y w0_2.2.2, BxC b1 90 [.string k, v1, .int .i64 d, v2, v3], SlC NECell v1 x, TrG NECell 90 r0 v3] := hF2 K
    clear hF2 K
    refine s_runk tMTree1 Z 1 rfl rfl ?_; clear Z a; intro a Z
    refine g_ob Z (p := w0_2.1) (v := .func (.yield ly) #[] #[]) (S' := [(2, .func (.yield ly) #[] #[])]) rfl rfl rfl (wantB_t _) rfl (by decide) (fun hp hS => hS.sub (ts := [2]) rfl) (fun hp => Ob_c tMTree1 rfl) ?_; clear Z a; intro a Z
    refine g_ob Z (p := w0_2.1) (v := .pointer (some ⟨b1, 0, none⟩)) (S' := [(0, .pointer (some ⟨b1, 0, none⟩))]) rfl rfl rfl (wantB_t _) rfl (by decide) (fun hp hS => hS.sub (ts := [0]) rfl) (fun hp => Ob_c tMTree1 rfl) ?_; clear Z a; intro a Z
    refine g_ob Z (p := w0_2.1) (v := .pointer (some ⟨b1, 0, none⟩)) (S' := [(31, .pointer (some ⟨b1, 0, none⟩))]) rfl rfl rfl (wantB_t _) rfl (by decide) (fun hp hS => (hS.conv (t := 31) rfl (cond_t hp)).sub (ts := [31]) rfl) (fun hp => Ob_c tMTree1 rfl) ?_; clear Z a; intro a Z
    refine g_ob Z (p := w0_2.1) (v := .pointer (some ⟨b1, 0, none⟩)) (S' := [(32, .pointer (some ⟨b1, 0, none⟩))]) rfl rfl rfl (wantB_t _) rfl (by decide) (fun hp hS => (hS.conv (t := 32) rfl (cond_t hp)).sub (ts := [32]) rfl) (fun hp => Ob_c tMTree1 rfl) ?_; clear Z a; intro a Z
    refine g_ob Z (p := w0_2.1) (v := .string k) (S' := [(33, .pointer (some ⟨b1, 0, none⟩))]) rfl rfl rfl (wantB_t _) rfl (by decide) (fun hp hS => (hS.conv (t := 33) rfl (cond_t hp)).sub (ts := [33]) rfl) (fun hp => Ob_load tMTree1 rfl rfl rfl ((H.bx 2 rfl).cell 0 rfl)) ?_; clear Z a; intro a Z
    refine s_mid ?_
    refine bsplit (w0_2.1) (fun hc3 => ?_) (fun hc3 => ?_)
    ·replace hF := ite_t hc3 hF; replace Z := Z.cnv (t := 29) rfl (show Value.bool w0_2.1 = .bool true from congrArg Value.bool hc3); replace Z := Z.sub (ts := [0, 1, 2, 6, 14, 22, 23, 24, 25, 26, 27, 28, 29, 30, 31, 32, 33, 34]) rfl
     replace Z := Z.cnv (t := 30) rfl (cond_t hc3); replace Z := Z.sub (ts := [0, 1, 2, 6, 14, 22, 23, 24, 25, 26, 27, 28, 29, 30, 31, 32, 33, 34]) rfl
     replace Z := Z.cnv (t := 31) rfl (cond_t hc3); replace Z := Z.sub (ts := [0, 1, 2, 6, 14, 22, 23, 24, 25, 26, 27, 28, 29, 30, 31, 32, 33, 34]) rfl
     replace Z := Z.cnv (t := 32) rfl (cond_t hc3); replace Z := Z.sub (ts := [0, 1, 2, 6, 14, 22, 23, 24, 25, 26, 27, 28, 29, 30, 31, 32, 33, 34]) rfl
     replace Z := Z.cnv (t := 33) rfl (cond_t hc3); replace Z := Z.sub (ts := [0, 1, 2, 6, 14, 22, 23, 24, 25, 26, 27, 28, 29, 30, 31, 32, 33, 34]) rfl
     replace Z := Z.cnv (t := 34) rfl (cond_t hc3); replace Z := Z.sub (ts := [0, 1, 2, 6, 14, 22, 23, 24, 25, 26, 27, 28, 29, 30, 31, 32, 33, 34]) rfl
     obtain ⟨hg1, hF⟩ := chk_in hF
     obtain ⟨r0_2, hx3, hF⟩ := bnd_in hF
     refine gY_yes Z rfl rfl rfl rfl ?_
     refine h_yield Z H (js := [(1, false)]) rfl rfl rfl rfl rfl rfl (by decide) rfl rfl (fun D1 hS => have hq := hy k () w0_2.2.2 _ hg1 hx3 hS; hq) ?_; clear Z a; intro vv a w3 D2 hr hF2 Z
     obtain ⟨rfl, I3, K⟩ := hr
     have H : Hf I D w I3 w3 [Y r0_2, TrG NECell 90 w0_2.2.1 v2, BxC b1 90 [.string k, v1, .int .i64 d, v2, v3], SlC NECell v1 x, TrG NECell 90 r0 v3] := hF2 K
     clear hF2 K
     refine l_back (by rintro ⟨_, _, h⟩; exact h) (by kernel_rfl) ?_
     refine s_ob Z (v := .bool r0_2.1) rfl rfl (by decide) rfl (Ob_pick rfl rfl rfl rfl rfl) ?_; clear Z a; intro a Z
     refine s_runk tMTree1 Z 1 rfl rfl ?_; clear Z a; intro a Z
     refine g_ob Z (p := r0_2.1) (v := .pointer (some ⟨b1, 0, none⟩)) (S' := [(0, .pointer (some ⟨b1, 0, none⟩))]) rfl rfl rfl (wantB_t _) rfl (by decide) (fun hp hS => hS.sub (ts := [0]) rfl) (fun hp => Ob_c tMTree1 rfl) ?_; clear Z a; intro a Z
     refine g_ob Z (p := r0_2.1) (v := .pointer (some ⟨b1, 0, none⟩)) (S' := [(38, .pointer (some ⟨b1, 0, none⟩))]) rfl rfl rfl (wantB_t _) rfl (by decide) (fun hp hS => (hS.conv (t := 38) rfl (cond_t hp)).sub (ts := [38]) rfl) (fun hp => Ob_c tMTree1 rfl) ?_; clear Z a; intro a Z
     refine g_ob Z (p := r0_2.1) (v := .pointer (some ⟨b1, 4, none⟩)) (S' := [(39, .pointer (some ⟨b1, 0, none⟩))]) rfl rfl rfl (wantB_t _) rfl (by decide) (fun hp hS => (hS.conv (t := 39) rfl (cond_t hp)).sub (ts := [39]) rfl) (fun hp => Ob_c tMTree1 rfl) ?_; clear Z a; intro a Z
     refine g_ob Z (p := r0_2.1) (v := v3) (S' := [(40, .pointer (some ⟨b1, 4, none⟩))]) rfl rfl rfl (wantB_t _) rfl (by decide) (fun hp hS => (hS.conv (t := 40) rfl (cond_t hp)).sub (ts := [40]) rfl) (fun hp => Ob_load tMTree1 rfl rfl rfl ((H.bx 2 rfl).cell 4 rfl)) ?_; clear Z a; intro a Z
     refine g_ob Z (p := r0_2.1) (v := .string from_) (S' := [(1, .string from_)]) rfl rfl rfl (wantB_t _) rfl (by decide) (fun hp hS => hS.sub (ts := [1]) rfl) (fun hp => Ob_c tMTree1 rfl) ?_; clear Z a; intro a Z
     refine g_ob Z (p := r0_2.1) (v := .func (.yield ly) #[] #[]) (S' := [(2, .func (.yield ly) #[] #[])]) rfl rfl rfl (wantB_t _) rfl (by decide) (fun hp hS => hS.sub (ts := [2]) rfl) (fun hp => Ob_c tMTree1 rfl) ?_; clear Z a; intro a Z
     refine bsplit (r0_2.1) (fun hc4 => ?_) (fun hc4 => ?_)
     ·replace hF := ite_t hc4 hF; replace Z := Z.cnv (t := 37) rfl (show Value.bool r0_2.1 = .bool true from congrArg Value.bool hc4); replace Z := Z.sub (ts := [0, 1, 2, 6, 14, 22, 23, 24, 25, 26, 27, 28, 29, 30, 31, 32, 33, 34, 35, 36, 37, 38, 39, 40, 41, 42, 43]) rfl
      replace Z := Z.cnv (t := 38) rfl (cond_t hc4); replace Z := Z.sub (ts := [0, 1, 2, 6, 14, 22, 23, 24, 25, 26, 27, 28, 29, 30, 31, 32, 33, 34, 35, 36, 37, 38, 39, 40, 41, 42, 43]) rfl
      replace Z := Z.cnv (t := 39) rfl (cond_t hc4); replace Z := Z.sub (ts := [0, 1, 2, 6, 14, 22, 23, 24, 25, 26, 27, 28, 29, 30, 31, 32, 33, 34, 35, 36, 37, 38, 39, 40, 41, 42, 43]) rfl
      replace Z := Z.cnv (t := 40) rfl (cond_t hc4); replace Z := Z.sub (ts := [0, 1, 2, 6, 14, 22, 23, 24, 25, 26, 27, 28, 29, 30, 31, 32, 33, 34, 35, 36, 37, 38, 39, 40, 41, 42, 43]) rfl
      replace Z := Z.cnv (t := 41) rfl (cond_t hc4); replace Z := Z.sub (ts := [0, 1, 2, 6, 14, 22, 23, 24, 25, 26, 27, 28, 29, 30, 31, 32, 33, 34, 35, 36, 37, 38, 39, 40, 41, 42, 43]) rfl
      replace Z := Z.cnv (t := 42) rfl (cond_t hc4); replace Z := Z.sub (ts := [0, 1, 2, 6, 14, 22, 23, 24, 25, 26, 27, 28, 29, 30, 31, 32, 33, 34, 35, 36, 37, 38, 39, 40, 41, 42, 43]) rfl
      replace Z := Z.cnv (t := 43) rfl (cond_t hc4); replace Z := Z.sub (ts := [0, 1, 2, 6, 14, 22, 23, 24, 25, 26, 27, 28, 29, 30, 31, 32, 33, 34, 35, 36, 37, 38, 39, 40, 41, 42, 43]) rfl
      obtain ⟨w0_3, hx4, hF⟩ := bnd_in hF
      refine g_if Z rfl rfl rfl (p := true) rfl rfl (by decide) (fun _ => ?_) (fun h => by cases h)
      refine h_call Z H (js := [(4, false), (0, false)]) rfl (caps := #[]) fn_56_YMTree1 rfl rfl rfl rfl rfl (by decide) rfl rfl (fun D1 hS => have hq := ih hy hx4 hS; hq) ?_; clear Z a; intro vv a w4 D2 hr hF2 Z
      obtain ⟨rfl, I4, K⟩ := hr
      have H : Hf I D w I4 w4 [TrG NECell 90 w0_3.2.1 v3, Y w0_3.2.2, TrG NECell 90 w0_2.2.1 v2, BxC b1 90 [.string k, v1, .int .i64 d, v2, v3], SlC NECell v1 x] := hF2 K
      clear hF2 K
      refine s_ob Z (v := .bool w0_3.1) rfl rfl (by decide) rfl (Ob_pick rfl rfl rfl rfl rfl) ?_; clear Z a; intro a Z
      refine s_runk tMTree1 Z 1 rfl rfl ?_; clear Z a; intro a Z
      refine s_end Z [0, 6] rfl ?_; clear Z; intro Z
      refine p_then (wp_ret ?_)
      replace H : Hf I D w I4 w4 [TrG NECell 90 (TT.node k x d w0_2.2.1 w0_3.2.1) (.pointer (some ⟨b1, 0, none⟩)), Y w0_3.2.2, SlC NECell v1 x] := H.mkTG [(3, false), (3, true), (2, false), (0, false)] rfl
      obtain rfl := some_in hF
      exact f_ret Z (run_results1 rfl Z rfl) ⟨rfl, I4, (H.sub [(0, false), (0, false)] rfl).eq rfl⟩
     ·replace hF := ite_f hc4 hF; replace Z := Z.cnv (t := 37) rfl (show Value.bool r0_2.1 = .bool false from congrArg Value.bool hc4); replace Z := Z.sub (ts := [0, 1, 2, 6, 14, 22, 23, 24, 25, 26, 27, 28, 29, 30, 31, 32, 33, 34, 35, 36, 37, 38, 39, 40, 41, 42, 43]) rfl
      refine g_if Z rfl rfl rfl (p := false) rfl rfl (by decide) (fun h => by cases h) ?_; clear Z; intro _ a Z
      refine s_ob Z (v := .bool false) rfl rfl (by decide) rfl (Ob_pick rfl rfl rfl rfl rfl) ?_; clear Z a; intro a Z
      refine s_runk tMTree1 Z 1 rfl rfl ?_; clear Z a; intro a Z
      refine s_end Z [0, 6] rfl ?_; clear Z; intro Z
      refine p_then (wp_ret ?_)
      replace H : Hf I D w I3 w3 [TrG NECell 90 (TT.node k x d w0_2.2.1 r0) (.pointer (some ⟨b1, 0, none⟩)), Y r0_2, SlC NECell v1 x] := H.mkTG [(2, false), (2, true), (1, false), (2, false)] rfl
      obtain rfl := some_in hF
      exact f_ret Z (run_results1 rfl Z rfl) ⟨rfl, I3, (H.sub [(0, false), (0, false)] rfl).eq rfl⟩
    ·replace hF := ite_f hc3 hF; replace Z := Z.cnv (t := 29) rfl (show Value.bool w0_2.1 = .bool false from congrArg Value.bool hc3); replace Z := Z.sub (ts := [0, 1, 2, 6, 14, 22, 23, 24, 25, 26, 27, 28, 29, 30, 31, 32, 33, 34]) rfl
     refine gY_no Z rfl rfl rfl rfl rfl (by decide) ?_; clear Z; intro a Z
     refine l_back (by rintro ⟨_, _, h⟩; exact h) (by kernel_rfl) ?_
     refine s_ob Z (v := .bool false) rfl rfl (by decide) rfl (Ob_pick rfl rfl rfl rfl rfl) ?_; clear Z a; intro a Z
     refine s_runk tMTree1 Z 1 rfl rfl ?_; clear Z a; intro a Z
     refine g_if Z rfl rfl rfl (p := false) rfl rfl (by decide) (fun h => by cases h) ?_; clear Z; intro _ a Z
     refine g_if Z rfl rfl rfl (p := false) rfl rfl (by decide) (fun h => by cases h) ?_; clear Z; intro _ a Z
     refine g_if Z rfl rfl rfl (p := false) rfl rfl (by decide) (fun h => by cases h) ?_; clear Z; intro _ a Z
     refine g_if Z rfl rfl rfl (p := false) rfl rfl (by decide) (fun h => by cases h) ?_; clear Z; intro _ a Z
     refine g_if Z rfl rfl rfl (p := false) rfl rfl (by decide) (fun h => by cases h) ?_; clear Z; intro _ a Z
     refine g_if Z rfl rfl rfl (p := false) rfl rfl (by decide) (fun h => by cases h) ?_; clear Z; intro _ a Z
     refine g_if Z rfl rfl rfl (p := false) rfl rfl (by decide) (fun h => by cases h) ?_; clear Z; intro _ a Z
     refine s_ob Z (v := .bool false) rfl rfl (by decide) rfl (Ob_pick rfl rfl rfl rfl rfl) ?_; clear Z a; intro a Z
     refine s_runk tMTree1 Z 1 rfl rfl ?_; clear Z a; intro a Z
     refine s_end Z [0, 6] rfl ?_; clear Z; intro Z
     refine p_then (wp_ret ?_)
     replace H : Hf I D w I2 w2 [TrG NECell 90 (TT.node k x d w0_2.2.1 r0) (.pointer (some ⟨b1, 0, none⟩)), Y w0_2.2.2, SlC NECell v1 x] := H.mkTG [(2, false), (2, true), (0, false), (2, false)] rfl
     obtain rfl := some_in hF
     exact f_ret Z (run_results1 rfl Z rfl) ⟨rfl, I2, (H.sub [(0, false), (0, false)] rfl).eq rfl⟩

theorem c_tree_node_api_Cell_walkR {σ : Type} : ∀ (fu : Nat) {I D : Dm} {v_n0 : Value} {n0 : TT (List ECell)} {from_ : ByteArray} {Y : Bool × σ → Ch} {y : ByteArray → σ → Option (Bool × σ)} {x0 : Bool × σ} {ly : Nat} {w : World} {rr : Bool × (TT (List ECell)) × (Bool × σ)} (hy : YieldOk Try.prog ly Y (fun (e_ : ByteArray) (v_ : Unit) => .string e_) (fun (e_ : ByteArray) (v_ : Unit) => []) y), F_tree_node_api_Cell_walkR fu n0 from_ y x0 = some rr → St I D w [TrG NECell 90 n0 v_n0, Y x0] → Calls Try.prog 56 #[v_n0, .string from_, .func (.yield ly) #[] #[]] w (Ret fun vv w' => vv = .bool rr.1 ∧ ∃ I', Hf I D w I' w' [TrG NECell 90 rr.2.1 v_n0, Y rr.2.2])
 | 0 => fun hy hF _ => by cases hF
 | fu + 1 => fun hy hF H => c_tree_node_api_Cell_walk_b (c_tree_node_api_Cell_walkR fu) hy hF H

theorem c_tree_node_api_Cell_walk {σ : Type} {I D : Dm} {v_n0 : Value} {n0 : TT (List ECell)} {from_ : ByteArray} {Y : Bool × σ → Ch} {y : ByteArray → σ → Option (Bool × σ)} {x0 : Bool × σ} {ly : Nat} {w : World} {rr : Bool × (TT (List ECell)) × (Bool × σ)} (hy : YieldOk Try.prog ly Y (fun (e_ : ByteArray) (v_ : Unit) => .string e_) (fun (e_ : ByteArray) (v_ : Unit) => []) y) (hF : F_tree_node_api_Cell_walk n0 from_ y x0 = some rr) (H : St I D w [TrG NECell 90 n0 v_n0, Y x0]) : Calls Try.prog 56 #[v_n0, .string from_, .func (.yield ly) #[] #[]] w (Ret fun vv w' => vv = .bool rr.1 ∧ ∃ I', Hf I D w I' w' [TrG NECell 90 rr.2.1 v_n0, Y rr.2.2]) := c_tree_node_api_Cell_walkR FU hy hF H

def F_tree_Tree_api_Cell_from_1 {σ : Type} (y : ByteArray → σ → Option (Bool × σ)) (x0 : Bool × σ) (p1 : Etree_Tree_api_Cell) (p2 : ByteArray) : Option (Etree_Tree_api_Cell × (Bool × σ)) := (F_tree_Tree_api_Cell_none p1).bind fun n0 => (if (!n0) = true then ((F_tree_node_api_Cell_walk p1.top p2 y x0).bind fun w0 => (some (({ p1 with top := w0.2.1 } : Etree_Tree_api_Cell), w0.2.2))) else (some (p1, x0)))

set_option maxHeartbeats 1000000 in
theorem c_tree_Tree_api_Cell_from_1 {σ : Type} {I D : Dm} {Y : Bool × σ → Ch} {y : ByteArray → σ → Option (Bool × σ)} {x0 : Bool × σ} {ly : Nat} {b_p1 : Nat} {p1 : Etree_Tree_api_Cell} {bb_p1 : Nat} {b_p2 : Nat} {p2 : ByteArray} {w : World} {rr : Etree_Tree_api_Cell × (Bool × σ)} (hy : YieldOk Try.prog ly Y (fun (e_ : ByteArray) (v_ : Unit) => .string e_) (fun (e_ : ByteArray) (v_ : Unit) => []) y) (hF : F_tree_Tree_api_Cell_from_1 y x0 p1 p2 = some rr) (H : St I D w [BxC b_p1 55 [.pointer (some ⟨bb_p1, 0, none⟩)], OEtree_Tree_api_Cell bb_p1 p1, BxC b_p2 9 [.string p2], Y x0]) :
  Calls Try.prog 55 #[.func (.yield ly) #[] #[], .pointer (some ⟨b_p1, 0, none⟩), .pointer (some ⟨b_p2, 0, none⟩)] w (Ret fun vv w' => vv = .tuple #[] ∧ ∃ I', Hf I D w I' w' [BxC b_p1 55 [.pointer (some ⟨bb_p1, 0, none⟩)], OEtree_Tree_api_Cell bb_p1 rr.1, BxC b_p2 9 [.string p2], Y rr.2]) := by
 replace H := H.hf
 unfold F_tree_Tree_api_Cell_from_1 at hF
 refine f_enter 14 Try.func55 rfl rfl (Nat.le_of_ble_eq_true rfl) fun a Z => ?_
 replace Z := Z.sub (ts := [0, 1, 2]) rfl
 refine wp_seq ?_
 obtain ⟨n0, hx1, hF⟩ := bnd_in hF
 refine f_region Z ?_; clear Z; intro Z
 refine s_ob Z (v := .pointer (some ⟨bb_p1, 0, none⟩)) rfl rfl (by decide) rfl (Ob_load tMTree1 rfl rfl rfl ((H.bx 0 rfl).cell 0 rfl)) ?_; clear Z a; intro a Z
 refine h_call Z H (js := [(1, false)]) rfl (caps := #[]) fn_42_YMTree1 rfl rfl rfl rfl rfl (by decide) rfl rfl (fun D1 hS => have hq := c_tree_Tree_api_Cell_none hx1 hS; hq) ?_; clear Z a; intro vv a w1 D2 hr hF2 Z
 obtain ⟨rfl, I1, K⟩ := hr
 have H : Hf I D w I1 w1 [OEtree_Tree_api_Cell bb_p1 p1, BxC b_p1 55 [.pointer (some ⟨bb_p1, 0, none⟩)], BxC b_p2 9 [.string p2], Y x0] := hF2 K
 clear hF2 K
 refine s_runk tMTree1 Z 1 rfl rfl ?_; clear Z a; intro a Z
 refine s_end Z [0, 1, 2, 6] rfl ?_; clear Z; intro Z
 refine p_then ?_
 refine f_cond Z rfl (fun hc1 => ?_) (fun hc1 => ?_)
 ·replace hF := ite_t hc1 hF
  obtain ⟨v1, H⟩ := H.openX 0 rfl
  replace H : Hf I D w I1 w1 [BxC bb_p1 87 [v1, .int .i64 p1.n, .bool p1.made], TrG NECell 90 p1.top v1, BxC b_p1 55 [.pointer (some ⟨bb_p1, 0, none⟩)], BxC b_p2 9 [.string p2], Y x0] := H
  obtain ⟨w0, hx2, hF⟩ := bnd_in hF
  refine f_quietS 6 (by kernel_rfl) (by kernel_rfl) (by kernel_rfl) (by kernel_rfl) (by kernel_rfl) Z ?_; clear Z; intro Z
  refine q_ob Z (v := .pointer (some ⟨bb_p1, 0, none⟩)) rfl rfl (by decide) rfl (fun _ hw => Ob_load tMTree1 rfl rfl rfl (((H.blw hw).bx 2 rfl).cell 0 rfl)) ?_; clear Z a; intro a Z
  refine q_runk tMTree1 Z 2 rfl rfl ?_; clear Z a; intro a Z
  refine q_ob Z (v := v1) rfl rfl (by decide) rfl (fun _ hw => Ob_load tMTree1 rfl rfl rfl (((H.blw hw).bx 0 rfl).cell 0 rfl)) ?_; clear Z a; intro a Z
  refine q_ob Z (v := .string p2) rfl rfl (by decide) rfl (fun _ hw => Ob_load tMTree1 rfl rfl rfl (((H.blw hw).bx 3 rfl).cell 0 rfl)) ?_; clear Z a; intro a Z
  refine q_runk tMTree1 Z 1 rfl rfl ?_; clear Z a; intro a Z
  refine q_endS Z [0, 1, 2, 6, 7, 8, 9, 10, 11, 12] rfl ?_; clear Z; intro w2 hb Z
  replace H : Hf I D w I1 w2 [BxC bb_p1 87 [v1, .int .i64 p1.n, .bool p1.made], TrG NECell 90 p1.top v1, BxC b_p1 55 [.pointer (some ⟨bb_p1, 0, none⟩)], BxC b_p2 9 [.string p2], Y x0] := H.blw hb
  clear hb
  refine h_call Z H (js := [(1, false), (3, false)]) rfl (caps := #[]) fn_56_YMTree1 rfl rfl rfl rfl rfl (by decide) rfl rfl (fun D1 hS => have hq := c_tree_node_api_Cell_walk hy hx2 hS; hq) ?_; clear Z a; intro vv a w3 D2 hr hF2 Z
  obtain ⟨rfl, I2, K⟩ := hr
  have H : Hf I D w I2 w3 [TrG NECell 90 w0.2.1 v1, Y w0.2.2, BxC bb_p1 87 [v1, .int .i64 p1.n, .bool p1.made], BxC b_p1 55 [.pointer (some ⟨bb_p1, 0, none⟩)], BxC b_p2 9 [.string p2]] := hF2 K
  clear hF2 K
  refine s_end Z [] rfl ?_; clear Z; intro Z
  replace H : Hf I D w I2 w3 [OEtree_Tree_api_Cell bb_p1 ({ p1 with top := w0.2.1 } : Etree_Tree_api_Cell), Y w0.2.2, BxC b_p1 55 [.pointer (some ⟨bb_p1, 0, none⟩)], BxC b_p2 9 [.string p2]] := H.shutX (v1) [(2, false), (0, false)] rfl
  obtain rfl := some_in hF
  exact f_fall Z (run_results0 rfl) ⟨rfl, I2, (H.sub [(2, false), (0, false), (1, false), (0, false)] rfl).eq rfl⟩
 ·replace hF := ite_f hc1 hF
  refine wp_skip ?_
  obtain rfl := some_in hF
  exact f_fall Z (run_results0 rfl) ⟨rfl, I1, (H.sub [(1, false), (0, false), (0, false), (0, false)] rfl).eq rfl⟩

def F_tree_Tree_api_Cell_Keys_y1 (to_ : ByteArray) (e_ : ByteArray) (sg : (List ByteArray)) : Option (Bool × (List ByteArray)) := match sg with | out => if ((!seqB to_ ⟨#[]⟩) && (!sltB e_ to_)) = true then (some (false, out)) else (chk (((out.length + [e_].length : Nat) : Int) * 16 ≤ 140737488355328) (some (true, (out ++ [e_]))))

def F_tree_Tree_api_Cell_Keys (t : Etree_Tree_api_Cell) (from_ : ByteArray) (to_ : ByteArray) : Option ((List ByteArray) × Etree_Tree_api_Cell) := (F_tree_Tree_api_Cell_from t from_).bind fun f => ((F_tree_Tree_api_Cell_from_1 (F_tree_Tree_api_Cell_Keys_y1 to_) (true, ([] : List ByteArray)) t f).bind fun r0 => (if (r0.2.1) = true then (some (r0.2.2, r0.1)) else (some (r0.2.2, r0.1))))

set_option maxHeartbeats 1000000 in
theorem c_tree_Tree_api_Cell_Keys {I D : Dm} {b_t : Nat} {t : Etree_Tree_api_Cell} {from_ : ByteArray} {to_ : ByteArray} {w : World} {rr : (List ByteArray) × Etree_Tree_api_Cell} (hF : F_tree_Tree_api_Cell_Keys t from_ to_ = some rr) (H : St I D w [OEtree_Tree_api_Cell b_t t]) :
  Calls Try.prog 30 #[.pointer (some ⟨b_t, 0, none⟩), .string from_, .string to_] w (Ret fun vv w' => ∃ q1 : Value, vv = q1 ∧ ∃ I', Hf I D w I' w' [OEtree_Tree_api_Cell b_t rr.2, SlC NS q1 rr.1]) := by
 replace H := H.hf
 unfold F_tree_Tree_api_Cell_Keys at hF
 refine f_enterM 25 Try.func30 rfl rfl (Nat.le_of_ble_eq_true rfl) fun a Z => ?_
 replace Z := Z.sub (ts := [0, 1, 2]) rfl
 refine wp_seq (f_region Z ?_); clear Z; intro Z
 refine h_boxv Z H (cl := [.string to_]) rfl rfl rfl (by decide) rfl rfl rfl ?_; clear Z a H; intro a w1 b1 H Z
 refine s_runk tMTree1 Z 1 rfl rfl ?_; clear Z a; intro a Z
 refine s_end Z [0, 1, 5, 6] rfl ?_; clear Z; intro Z
 refine p_then (wp_seq (f_region Z ?_)); clear Z; intro Z
 refine h_alloc Z H (cl := [.slice none 0 0]) (z := .slice none 0 0) rfl rfl rfl (by decide) rfl (by kernel_rfl) rfl ?_; clear Z a H; intro a w2 b2 H Z
 refine s_end Z [0, 1, 5, 6, 7] rfl ?_; clear Z; intro Z
 refine p_then (wp_seq ?_)
 refine wp_seq ?_
 obtain ⟨f, hx1, hF⟩ := bnd_in hF
 refine f_region Z ?_; clear Z; intro Z
 refine s_runk tMTree1 Z 2 rfl rfl ?_; clear Z a; intro a Z
 refine h_call Z H (js := [(2, false)]) rfl (caps := #[]) fn_45_YMTree1 rfl rfl rfl rfl rfl (by decide) rfl rfl (fun D1 hS => have hq := c_tree_Tree_api_Cell_from hx1 hS; hq) ?_; clear Z a; intro vv a w3 D2 hr hF2 Z
 obtain ⟨g1, g2, rfl, I1, K⟩ := hr
 have H : Hf I D w I1 w3 [OEtree_Tree_api_Cell b_t t, BxC g1 55 [.pointer (some ⟨b_t, 0, none⟩)], BxC g2 9 [.string f], BxC b2 73 [.slice none 0 0], BxC b1 9 [.string to_]] := hF2 K
 clear hF2 K
 refine s_end Z [5, 6, 7, 11] rfl ?_; clear Z; intro Z
 refine p_then (wp_block ?_)
 replace H : Hf I D w I1 w3 [OwC NS 9 (.slice none 0 0) ([] : List ByteArray), OEtree_Tree_api_Cell b_t t, BxC g1 55 [.pointer (some ⟨b_t, 0, none⟩)], BxC g2 9 [.string f], BxC b2 73 [.slice none 0 0], BxC b1 9 [.string to_]] := H.nilow NS 9
 replace H := Hf.shutX (f := fun (xv_ : Value) => [BxC b1 9 [.string to_], BxC b2 73 [xv_], OwC NS 9 xv_ ([] : List ByteArray)]) (.slice none 0 0) H [(5, false), (4, false), (0, false)] rfl
 obtain ⟨r0, hx2, hF⟩ := bnd_in hF
 refine f_rangeFunc (KC := (fun (sg_ : (List ByteArray)) => ExC fun (xv_ : Value) => [BxC b1 9 [.string to_], BxC b2 73 [xv_], OwC NS 9 xv_ sg_])) (s0 := ([] : List ByteArray)) (enc := (fun (e_ : ByteArray) (v_ : Unit) => .string e_)) (ech := (fun (e_ : ByteArray) (v_ : Unit) => [])) (c0 := .exit 0) (rr := r0.2) Z H (js := [(0, false), (1, false), (0, false), (0, false)]) rfl [BxC g1 55 [.pointer (some ⟨b_t, 0, none⟩)], OEtree_Tree_api_Cell b_t r0.1, BxC g2 9 [.string f]] fn_55_YMTree1 rfl (by decide) ?_ (fun L Y hyk hS => have hq := c_tree_Tree_api_Cell_from_1 hyk hx2 hS; Ret.mono hq fun _ _ h => h.2) ?_
 ·clear hF H Z
  intro m I D w L D0 fn tm e_ v_ sg_ rr a hF Z H
  obtain ⟨out, rfl⟩ : ∃ x_, x_ = sg_ := ⟨_, rfl⟩
  obtain ⟨v1, H⟩ := H.openX 1 rfl
  replace H : Hf I D w I w [BxC b1 9 [.string to_], BxC b2 73 [v1], OwC NS 9 v1 out, LpC L (lrec fn tm #[12] _ _ D0 .ready none)] := H
  unfold F_tree_Tree_api_Cell_Keys_y1 at hF; try dsimp only at hF
  refine f_regionI (by kernel_rfl) (by rintro ⟨_, _, h⟩; exact h) Z ?_; clear Z; intro Z
  refine s_runk tMTree1 Z 1 rfl rfl ?_; clear Z a; intro a Z
  refine s_end Z [5, 6, 7, 11, 12, 8] rfl ?_; clear Z; intro Z
  refine p_begin H 3 rfl fun w5 H => ?_
  replace H : Hf I D w I w5 [LpC L (lrec fn tm #[12] _ _ D0 .busy none), BxC b1 9 [.string to_], BxC b2 73 [v1], OwC NS 9 v1 out] := H
  refine wpIn_block ?_
  refine wpIn_seq ?_
  refine wpIn_seq ?_
  refine f_regionI (by kernel_rfl) (by rintro ⟨_, _, h⟩; exact h) Z ?_; clear Z; intro Z
  refine s_ob Z (v := .string to_) rfl rfl (by decide) rfl (Ob_load tMTree1 rfl rfl rfl ((H.bx 1 rfl).cell 0 rfl)) ?_; clear Z a; intro a Z
  refine s_runk tMTree1 Z 2 rfl rfl ?_; clear Z a; intro a Z
  refine g_ob Z (p := (!seqB to_ ⟨#[]⟩)) (v := .string e_) (S' := [(8, .string e_)]) rfl rfl rfl (wantB_t _) rfl (by decide) (fun hp hS => hS.sub (ts := [8]) rfl) (fun hp => Ob_c tMTree1 rfl) ?_; clear Z a; intro a Z
  refine g_ob Z (p := (!seqB to_ ⟨#[]⟩)) (v := .string to_) (S' := [(5, .pointer (some ⟨b1, 0, none⟩))]) rfl rfl rfl (wantB_t _) rfl (by decide) (fun hp hS => hS.sub (ts := [5]) rfl) (fun hp => Ob_load tMTree1 rfl rfl rfl ((H.bx 1 rfl).cell 0 rfl)) ?_; clear Z a; intro a Z
  refine g_ob Z (p := (!seqB to_ ⟨#[]⟩)) (v := .bool (!sltB e_ to_)) (S' := [(16, .string e_), (17, .string to_)]) rfl rfl rfl (wantB_t _) rfl (by decide) (fun hp hS => ((hS.conv (t := 16) rfl (cond_t hp)).conv (t := 17) rfl (cond_t hp)).sub (ts := [16, 17]) rfl) (fun hp => Ob_c tMTree1 rfl) ?_; clear Z a; intro a Z
  refine s_ob Z (v := .bool ((!seqB to_ ⟨#[]⟩) && (!sltB e_ to_))) rfl rfl (by decide) rfl (Ob_pick rfl rfl rfl rfl (pick_and _ _)) ?_; clear Z a; intro a Z
  refine s_end Z [5, 6, 7, 11, 12, 8, 13, 14, 15, 19] rfl ?_; clear Z; intro Z
  refine p_then ?_
  refine f_condI Z rfl (fun hc1 => ?_) (fun hc1 => ?_)
  ·replace hF := ite_t hc1 hF
   refine wpIn_exit ?_
   refine p_then_x ?_
   refine f_exit_out (by decide) ?_
   refine y_exit H 0 rfl fun w6 H => ?_
   obtain rfl := some_in hF
   exact ⟨rfl, I, ((Hf.shutX (f := fun (xv_ : Value) => [BxC b1 9 [.string to_], BxC b2 73 [xv_], OwC NS 9 xv_ out]) v1 H [(1, false), (1, false), (1, false)] rfl).sub [(1, false), (0, false)] rfl).eq rfl⟩
  ·replace hF := ite_f hc1 hF
   refine wpIn_skip ?_
   refine p_then ?_
   obtain ⟨hg1, hF⟩ := chk_in hF
   refine f_regionI (by kernel_rfl) (by rintro ⟨_, _, h⟩; exact h) Z ?_; clear Z; intro Z
   refine s_ob Z (v := v1) rfl rfl (by decide) rfl (Ob_load tMTree1 rfl rfl rfl ((H.bx 2 rfl).cell 0 rfl)) ?_; clear Z a; intro a Z
   refine s_runk tMTree1 Z 1 rfl rfl ?_; clear Z a; intro a Z
   refine h_bslice Z H (vs := [(0, .string e_)]) (cl := [.string e_]) (e := 9) rfl rfl rfl (by decide) rfl rfl (fun w => run_bslice (z := .string ByteArray.empty) (m := 1) Try.underlying73 (by kernel_rfl) rfl rfl (by decide) (by simp [Instr.fill, Value.cells]) w) ?_; clear Z a H; intro a w7 b3 H Z
   refine h_appO Z H 4 E_73_YMTree1 [e_] rfl rfl rfl rfl rfl (by decide) rfl rfl rfl (slRep2.box1 (H.bx 0 rfl) ⟨rfl, trivial⟩) hg1 (by decide) ?_; clear Z a H; intro v2 a w8 H Z
   dsimp only [List.eraseIdx] at H
   replace H : Hf I D w I w8 [OwC NS 9 v2 (out ++ [e_]), LpC L (lrec fn tm #[12] _ _ D0 .busy none), BxC b1 9 [.string to_], BxC b2 73 [v1]] := H.sub [(0, false), (1, false), (1, false), (1, false)] rfl
   refine h_store tMTree1 Z H 3 rfl rfl rfl rfl rfl rfl (slS.cells (H.owshape 0 rfl)) rfl rfl (one_cons (slS.one (H.owshape 0 rfl)) one_nil) (Nat.le_of_ble_eq_true rfl) rfl ?_; clear H; intro w9 H
   dsimp only [List.eraseIdx] at H
   refine s_end Z [5, 6, 7, 11, 12, 8, 13, 14, 15, 19, 20, 21, 22, 23] rfl ?_; clear Z; intro Z
   refine p_blk ?_
   refine y_norm H 2 rfl fun w10 H => ?_
   obtain rfl := some_in hF
   exact ⟨rfl, I, ((Hf.shutX (f := fun (xv_ : Value) => [BxC b1 9 [.string to_], BxC b2 73 [xv_], OwC NS 9 xv_ (out ++ [e_])]) v2 H [(3, false), (1, false), (1, false)] rfl).sub [(1, false), (0, false)] rfl).eq rfl⟩
 ·intro D0_1 a w11 I3 Z H
  obtain ⟨v3, H⟩ := H.openX 1 rfl
  replace H : Hf I D w I3 w11 [BxC b1 9 [.string to_], BxC b2 73 [v3], OwC NS 9 v3 r0.2.2, DfC D0_1, BxC g1 55 [.pointer (some ⟨b_t, 0, none⟩)], OEtree_Tree_api_Cell b_t r0.1, BxC g2 9 [.string f]] := H
  refine ⟨fun hc2 => ?_, fun hc2 => ?_⟩
  ·replace hF := ite_t hc2 hF
   refine p_blk ?_
   refine p_then (wp_seq (f_region Z ?_)); clear Z; intro Z
   refine s_ob Z (v := v3) rfl rfl (by decide) rfl (Ob_load tMTree1 rfl rfl rfl ((H.bx 1 rfl).cell 0 rfl)) ?_; clear Z a; intro a Z
   refine s_runk tMTree1 Z 1 rfl rfl ?_; clear Z a; intro a Z
   refine s_end Z [6] rfl ?_; clear Z; intro Z
   refine p_then (wp_ret ?_)
   refine f_retM Z H 3 rfl fun w12 H => ?_
   replace H : Hf I D w I3 w12 [ObC D0_1 (.deferred none), BxC b1 9 [.string to_], BxC b2 73 [v3], OwC NS 9 v3 r0.2.2, BxC g1 55 [.pointer (some ⟨b_t, 0, none⟩)], OEtree_Tree_api_Cell b_t r0.1, BxC g2 9 [.string f]] := H
   obtain ⟨I4, _, H⟩ := H.frzow 3 rfl
   replace H : Hf I D w I4 w12 [SlC NS v3 r0.2.2, ObC D0_1 (.deferred none), BxC b1 9 [.string to_], BxC b2 73 [v3], BxC g1 55 [.pointer (some ⟨b_t, 0, none⟩)], OEtree_Tree_api_Cell b_t r0.1, BxC g2 9 [.string f]] := H
   obtain rfl := some_in hF
   exact ⟨_, (run_results1 rfl Z rfl), v3, rfl, I4, (H.sub [(5, false), (0, true)] rfl).eq rfl⟩
  ·replace hF := ite_f hc2 hF
   refine wp_exit ?_
   refine f_exit_here ?_
   refine p_then (wp_seq (f_region Z ?_)); clear Z; intro Z
   refine s_ob Z (v := v3) rfl rfl (by decide) rfl (Ob_load tMTree1 rfl rfl rfl ((H.bx 1 rfl).cell 0 rfl)) ?_; clear Z a; intro a Z
   refine s_runk tMTree1 Z 1 rfl rfl ?_; clear Z a; intro a Z
   refine s_end Z [6] rfl ?_; clear Z; intro Z
   refine p_then (wp_ret ?_)
   refine f_retM Z H 3 rfl fun w13 H => ?_
   replace H : Hf I D w I3 w13 [ObC D0_1 (.deferred none), BxC b1 9 [.string to_], BxC b2 73 [v3], OwC NS 9 v3 r0.2.2, BxC g1 55 [.pointer (some ⟨b_t, 0, none⟩)], OEtree_Tree_api_Cell b_t r0.1, BxC g2 9 [.string f]] := H
   obtain ⟨I5, _, H⟩ := H.frzow 3 rfl
   replace H : Hf I D w I5 w13 [SlC NS v3 r0.2.2, ObC D0_1 (.deferred none), BxC b1 9 [.string to_], BxC b2 73 [v3], BxC g1 55 [.pointer (some ⟨b_t, 0, none⟩)], OEtree_Tree_api_Cell b_t r0.1, BxC g2 9 [.string f]] := H
   obtain rfl := some_in hF
   exact ⟨_, (run_results1 rfl Z rfl), v3, rfl, I5, (H.sub [(5, false), (0, true)] rfl).eq rfl⟩

end Go.Proofs.Ytfefmdllnjpmgaa
