/- Trees: the program's. -/
import Derived.Test.YtfcdghlgcnjkoaaYT
import Derived.Test.YtfcdghlgcnjkoaaProg
namespace Go.Proofs.Ytfcdghlgcnjkoaa
open Go.RowKit
def tTreeL : TabL := ⟨[(56320, 0), (56321, 1), (56322, 2), (56323, 3), (56324, 4)], [], [], [], [(3, (1, false)), (9, (1, false)), (49, (1, false)), (55, (5, true))]⟩

def tTree : Tab Try.prog := ⟨tTreeL, by kernel_rfl⟩

theorem fn_25_YTree : IsFn Try.prog 25 := ⟨_, Try.func25, by kernel_rfl, by kernel_rfl⟩

theorem fn_30_YTree : IsFn Try.prog 30 := ⟨_, Try.func30, by kernel_rfl, by kernel_rfl⟩

theorem fn_31_YTree : IsFn Try.prog 31 := ⟨_, Try.func31, by kernel_rfl, by kernel_rfl⟩

theorem fn_35_YTree : IsFn Try.prog 35 := ⟨_, Try.func35, by kernel_rfl, by kernel_rfl⟩

theorem fn_36_YTree : IsFn Try.prog 36 := ⟨_, Try.func36, by kernel_rfl, by kernel_rfl⟩

theorem fn_37_YTree : IsFn Try.prog 37 := ⟨_, Try.func37, by kernel_rfl, by kernel_rfl⟩

def deepT {α : Type} : TT α → Int
 | .nil => 0
 | .node _ _ d _ _ => d

def F_deepx (n0 : TT Int) : Option Int := if (n0.isNil) = true then (some 0) else (ttE n0 (none) (fun k x d l r0 => some d))

set_option maxHeartbeats 1000000 in
theorem c_deepx {I D : Dm} {v_n0 : Value} {n0 : TT Int} {w : World} {rr : Int} (hF : F_deepx n0 = some rr) (H : St I D w [TrC 55 n0 v_n0]) :
  Calls Try.prog 30 #[v_n0] w (Ret fun vv w' => vv = .int .i64 rr ∧ Below w.heap.size w w') := by
 replace H := H.hf
 unfold F_deepx at hF
 refine f_enter 9 Try.func30 rfl rfl (Nat.le_of_ble_eq_true rfl) fun a Z => ?_
 replace Z := Z.sub (ts := [0]) rfl
 refine wp_seq (f_region Z ?_); clear Z; intro Z
 refine s_runk tTree Z 1 rfl rfl ?_; clear Z a; intro a Z
 refine s_end Z [0, 2] rfl ?_; clear Z; intro Z
 refine p_then (wp_seq ?_)
 refine wp_seq (f_region Z ?_); clear Z; intro Z
 refine s_runk tTree Z 1 rfl rfl ?_; clear Z a; intro a Z
 refine s_ob Z (v := .bool n0.isNil) rfl rfl (by decide) rfl (Ob_tnil (q := n0) rfl rfl rfl Try.underlying49 (H.trI 0 rfl) (.inl ⟨rfl, rfl⟩)) ?_; clear Z a; intro a Z
 refine s_end Z [0, 2, 4] rfl ?_; clear Z; intro Z
 refine p_then ?_
 refine f_cond Z rfl (fun hc1 => ?_) (fun hc1 => ?_)
 ·replace hF := ite_t hc1 hF
  refine wp_seq (f_region Z ?_); clear Z; intro Z
  refine s_runk tTree Z 1 rfl rfl ?_; clear Z a; intro a Z
  refine s_end Z [0, 2] rfl ?_; clear Z; intro Z
  refine p_then (wp_ret ?_)
  refine p_then_r ?_
  obtain rfl := some_in hF
  exact f_ret Z (run_results1 rfl Z rfl) ⟨rfl, Below.refl _ w⟩
 ·replace hF := ite_f hc1 hF
  refine wp_skip ?_
  refine p_then (wp_seq ?_)
  rcases ttE_in hF with ⟨ho1, hF⟩ | ⟨k, x, d, l, r0, ho1, hF⟩
  ·obtain ⟨hv, H⟩ := H.trN 0 rfl ho1
   subst hv
   replace H : Hf I D w I w [] := H
   cases hF
  ·obtain ⟨b1, v1, v2, hv, H⟩ := H.trS 0 rfl ho1
   subst hv
   replace H : Hf I D w I w [BxC b1 55 [.string k, .int .i64 x, .int .i64 d, v1, v2], TrC 55 l v1, TrC 55 r0 v2] := H
   refine f_region Z ?_; clear Z; intro Z
   refine s_runk tTree Z 3 rfl rfl ?_; clear Z a; intro a Z
   refine s_ob Z (v := .int .i64 d) rfl rfl (by decide) rfl (Ob_load tTree rfl rfl rfl ((H.bx 0 rfl).cell 2 rfl)) ?_; clear Z a; intro a Z
   refine s_runk tTree Z 1 rfl rfl ?_; clear Z a; intro a Z
   refine s_end Z [0, 2] rfl ?_; clear Z; intro Z
   refine p_then (wp_ret ?_)
   replace H : Hf I D w I w [TrC 55 (TT.node k x d l r0) (.pointer (some ⟨b1, 0, none⟩))] := H.mkT [(0, false), (0, false), (0, false)] rfl
   rw [← ho1] at H
   obtain rfl := some_in hF
   exact f_ret Z (run_results1 rfl Z rfl) ⟨rfl, Below.refl _ w⟩

def F_deep (t : TT Int) : Option Int := some (deepT t)

theorem deepx_eq (t : TT Int) : F_deepx t = F_deep t := by cases t <;> rfl

theorem c_deep_q {I0 D : Dm} {w0 : World} {I : Dm} {w : World} {cs : List Ch} {t : TT Int} {rr : Int} (hF : F_deep t = some rr) (H : Hf I0 D w0 I w cs) (i : Nat) {v : Value} (hi : cs[i]? = some (TrC 55 t v)) : Calls Try.prog 30 #[v] w (Ret fun vv w' => vv = .int .i64 rr ∧ Below w.heap.size w w') := by
 have hp : pickN [(i, false)] cs = some ([TrC 55 t v], cs.eraseIdx i) := by simp [pickN, hi]
 obtain ⟨D1, h1, _⟩ := H.call hp
 exact c_deepx ((deepx_eq t).trans hF) h1

def F_tree_node_int_tell (n0 : TT Int) : Option (TT Int) := ttE n0 (none) (fun k x d l r0 => (F_deep l).bind fun i => ((F_deep r0).bind fun i_2 => (chk (inI (1 + (max i i_2))) (some (TT.node k x (1 + (max i i_2)) l r0)))))

set_option maxHeartbeats 1000000 in
theorem c_tree_node_int_tell {I D : Dm} {v_n0 : Value} {n0 : TT Int} {w : World} {rr : TT Int} (hF : F_tree_node_int_tell n0 = some rr) (H : St I D w [TrC 55 n0 v_n0]) :
  Calls Try.prog 35 #[v_n0] w (Ret fun vv w' => vv = .tuple #[] ∧ ∃ I', Hf I D w I' w' [TrC 55 rr v_n0]) := by
 replace H := H.hf
 unfold F_tree_node_int_tell at hF
 refine f_enter 17 Try.func35 rfl rfl (Nat.le_of_ble_eq_true rfl) fun a Z => ?_
 replace Z := Z.sub (ts := [0]) rfl
 rcases ttE_in hF with ⟨ho1, hF⟩ | ⟨k, x, d, l, r0, ho1, hF⟩
 ·obtain ⟨hv, H⟩ := H.trN 0 rfl ho1
  subst hv
  replace H : Hf I D w I w [] := H
  cases hF
 ·obtain ⟨b1, v1, v2, hv, H⟩ := H.trS 0 rfl ho1
  subst hv
  replace H : Hf I D w I w [BxC b1 55 [.string k, .int .i64 x, .int .i64 d, v1, v2], TrC 55 l v1, TrC 55 r0 v2] := H
  obtain ⟨i, hx1, hF⟩ := bnd_in hF
  obtain ⟨i_2, hx2, hF⟩ := bnd_in hF
  obtain ⟨hg1, hF⟩ := chk_in hF
  refine f_quietS 13 (by kernel_rfl) (by kernel_rfl) (by kernel_rfl) (by kernel_rfl) (by kernel_rfl) Z ?_; clear Z; intro Z
  refine q_runk tTree Z 4 rfl rfl ?_; clear Z a; intro a Z
  refine q_ob Z (v := v1) rfl rfl (by decide) rfl (fun _ hw => Ob_load tTree rfl rfl rfl (((H.blw hw).bx 0 rfl).cell 3 rfl)) ?_; clear Z a; intro a Z
  refine q_call Z (caps := #[]) fn_30_YTree rfl rfl rfl rfl rfl (by decide) rfl rfl (fun _ hw => (c_deep_q hx1 (H.blw hw) 1 rfl)) ?_; clear Z a; intro a Z
  refine q_runk tTree Z 3 rfl rfl ?_; clear Z a; intro a Z
  refine q_ob Z (v := v2) rfl rfl (by decide) rfl (fun _ hw => Ob_load tTree rfl rfl rfl (((H.blw hw).bx 0 rfl).cell 4 rfl)) ?_; clear Z a; intro a Z
  refine q_call Z (caps := #[]) fn_30_YTree rfl rfl rfl rfl rfl (by decide) rfl rfl (fun _ hw => (c_deep_q hx2 (H.blw hw) 2 rfl)) ?_; clear Z a; intro a Z
  refine q_runk tTree Z 1 rfl rfl ?_; clear Z a; intro a Z
  refine q_ob Z (v := .int .i64 (1 + (max i i_2))) rfl rfl (by decide) rfl (fun _ hw => Ob_add rfl rfl rfl (wrI hg1)) ?_; clear Z a; intro a Z
  refine q_endS Z [0, 2, 3, 4, 5, 6, 7, 8, 9, 10, 11, 12, 13, 14] rfl ?_; clear Z; intro w1 hb Z
  replace H : Hf I D w I w1 [BxC b1 55 [.string k, .int .i64 x, .int .i64 d, v1, v2], TrC 55 l v1, TrC 55 r0 v2] := H.blw hb
  clear hb
  refine s_runk tTree Z 2 rfl rfl ?_; clear Z a; intro a Z
  refine h_store tTree Z H 0 rfl rfl rfl rfl rfl rfl rfl rfl rfl (one_cons rfl one_nil) (Nat.le_of_ble_eq_true rfl) rfl ?_; clear H; intro w2 H
  dsimp only [List.eraseIdx] at H
  refine s_end Z [0] rfl ?_; clear Z; intro Z
  replace H : Hf I D w I w2 [TrC 55 (TT.node k x (1 + (max i i_2)) l r0) (.pointer (some ⟨b1, 0, none⟩))] := H.mkT [(0, false), (0, false), (0, false)] rfl
  obtain rfl := some_in hF
  exact f_fall Z (run_results0 rfl) ⟨rfl, I, (H.sub [(0, false)] rfl).eq rfl⟩

def F_tree_node_int_right (n0 : TT Int) : Option (TT Int) := ttE n0 (none) (fun k x d l r0 => ttE l (none) (fun k_2 x_2 d_2 l_2 r0_2 => (F_tree_node_int_tell (TT.node k x d r0_2 r0)).bind fun t => ((F_tree_node_int_tell (TT.node k_2 x_2 d_2 l_2 t)).bind fun t_2 => (some t_2))))

set_option maxHeartbeats 1000000 in
theorem c_tree_node_int_right {I D : Dm} {v_n0 : Value} {n0 : TT Int} {w : World} {rr : TT Int} (hF : F_tree_node_int_right n0 = some rr) (H : St I D w [TrC 55 n0 v_n0]) :
  Calls Try.prog 37 #[v_n0] w (Ret fun vv w' => ∃ q1 : Value, vv = q1 ∧ ∃ I', Hf I D w I' w' [TrC 55 rr q1]) := by
 replace H := H.hf
 unfold F_tree_node_int_right at hF
 refine f_enter 24 Try.func37 rfl rfl (Nat.le_of_ble_eq_true rfl) fun a Z => ?_
 replace Z := Z.sub (ts := [0]) rfl
 refine wp_seq (f_region Z ?_); clear Z; intro Z
 refine s_runk tTree Z 1 rfl rfl ?_; clear Z a; intro a Z
 refine s_end Z [0, 2] rfl ?_; clear Z; intro Z
 refine p_then (wp_seq ?_)
 rcases ttE_in hF with ⟨ho1, hF⟩ | ⟨k, x, d, l, r0, ho1, hF⟩
 ·obtain ⟨hv, H⟩ := H.trN 0 rfl ho1
  subst hv
  replace H : Hf I D w I w [] := H
  cases hF
 ·obtain ⟨b1, v1, v2, hv, H⟩ := H.trS 0 rfl ho1
  subst hv
  replace H : Hf I D w I w [BxC b1 55 [.string k, .int .i64 x, .int .i64 d, v1, v2], TrC 55 l v1, TrC 55 r0 v2] := H
  refine f_region Z ?_; clear Z; intro Z
  refine s_runk tTree Z 3 rfl rfl ?_; clear Z a; intro a Z
  refine s_ob Z (v := v1) rfl rfl (by decide) rfl (Ob_load tTree rfl rfl rfl ((H.bx 0 rfl).cell 3 rfl)) ?_; clear Z a; intro a Z
  refine s_runk tTree Z 1 rfl rfl ?_; clear Z a; intro a Z
  refine s_end Z [0, 2, 3] rfl ?_; clear Z; intro Z
  refine p_then (wp_seq ?_)
  rcases ttE_in hF with ⟨ho2, hF⟩ | ⟨k_2, x_2, d_2, l_2, r0_2, ho2, hF⟩
  ·obtain ⟨hv, H⟩ := H.trN 1 rfl ho2
   subst hv
   replace H : Hf I D w I w [BxC b1 55 [.string k, .int .i64 x, .int .i64 d, .pointer none, v2], TrC 55 r0 v2] := H
   cases hF
  ·obtain ⟨b2, v3, v4, hv, H⟩ := H.trS 1 rfl ho2
   subst hv
   replace H : Hf I D w I w [BxC b2 55 [.string k_2, .int .i64 x_2, .int .i64 d_2, v3, v4], TrC 55 l_2 v3, TrC 55 r0_2 v4, BxC b1 55 [.string k, .int .i64 x, .int .i64 d, .pointer (some ⟨b2, 0, none⟩), v2], TrC 55 r0 v2] := H
   refine f_region Z ?_; clear Z; intro Z
   refine s_runk tTree Z 5 rfl rfl ?_; clear Z a; intro a Z
   refine s_ob Z (v := v4) rfl rfl (by decide) rfl (Ob_load tTree rfl rfl rfl ((H.bx 0 rfl).cell 4 rfl)) ?_; clear Z a; intro a Z
   refine s_runk tTree Z 3 rfl rfl ?_; clear Z a; intro a Z
   refine h_store tTree Z H 3 rfl rfl rfl rfl rfl rfl (H.trP 2 rfl).cells rfl rfl (one_cons (H.trP 2 rfl).one one_nil) (Nat.le_of_ble_eq_true rfl) rfl ?_; clear H; intro w1 H
   dsimp only [List.eraseIdx] at H
   refine s_runk tTree Z 2 rfl rfl ?_; clear Z a; intro a Z
   refine h_store tTree Z H 1 rfl rfl rfl rfl rfl rfl rfl rfl rfl (one_cons rfl one_nil) (Nat.le_of_ble_eq_true rfl) rfl ?_; clear H; intro w2 H
   dsimp only [List.eraseIdx] at H
   refine s_end Z [0, 2, 3] rfl ?_; clear Z; intro Z
   refine p_then (wp_seq ?_)
   obtain ⟨t, hx1, hF⟩ := bnd_in hF
   refine f_region Z ?_; clear Z; intro Z
   refine s_runk tTree Z 1 rfl rfl ?_; clear Z a; intro a Z
   replace H : Hf I D w I w2 [TrC 55 (TT.node k x d r0_2 r0) (.pointer (some ⟨b1, 0, none⟩)), BxC b2 55 [.string k_2, .int .i64 x_2, .int .i64 d_2, v3, .pointer (some ⟨b1, 0, none⟩)], TrC 55 l_2 v3] := H.mkT [(1, false), (2, false), (2, false)] rfl
   refine h_call Z H (js := [(0, false)]) rfl (caps := #[]) fn_35_YTree rfl rfl rfl rfl rfl (by decide) rfl rfl (fun D1 hS => have hq := c_tree_node_int_tell hx1 hS; hq) ?_; clear Z a; intro vv a w3 D2 hr hF2 Z
   obtain ⟨rfl, I1, K⟩ := hr
   have H : Hf I D w I1 w3 [TrC 55 t (.pointer (some ⟨b1, 0, none⟩)), BxC b2 55 [.string k_2, .int .i64 x_2, .int .i64 d_2, v3, .pointer (some ⟨b1, 0, none⟩)], TrC 55 l_2 v3] := hF2 K
   clear hF2 K
   refine s_end Z [2, 3] rfl ?_; clear Z; intro Z
   refine p_then (wp_seq ?_)
   obtain ⟨t_2, hx2, hF⟩ := bnd_in hF
   refine f_region Z ?_; clear Z; intro Z
   refine s_runk tTree Z 1 rfl rfl ?_; clear Z a; intro a Z
   replace H : Hf I D w I1 w3 [TrC 55 (TT.node k_2 x_2 d_2 l_2 t) (.pointer (some ⟨b2, 0, none⟩))] := H.mkT [(1, false), (1, false), (0, false)] rfl
   refine h_call Z H (js := [(0, false)]) rfl (caps := #[]) fn_35_YTree rfl rfl rfl rfl rfl (by decide) rfl rfl (fun D1 hS => have hq := c_tree_node_int_tell hx2 hS; hq) ?_; clear Z a; intro vv a w4 D2 hr hF2 Z
   obtain ⟨rfl, I2, K⟩ := hr
   have H : Hf I D w I2 w4 [TrC 55 t_2 (.pointer (some ⟨b2, 0, none⟩))] := hF2 K
   clear hF2 K
   refine s_end Z [2, 3] rfl ?_; clear Z; intro Z
   refine p_then (wp_seq (f_region Z ?_)); clear Z; intro Z
   refine s_runk tTree Z 2 rfl rfl ?_; clear Z a; intro a Z
   refine s_end Z [2] rfl ?_; clear Z; intro Z
   refine p_then (wp_ret ?_)
   obtain rfl := some_in hF
   exact f_ret Z (run_results1 rfl Z rfl) ⟨.pointer (some ⟨b2, 0, none⟩), rfl, I2, (H.sub [(0, false)] rfl).eq rfl⟩

def F_tree_node_int_left (n0 : TT Int) : Option (TT Int) := ttE n0 (none) (fun k x d l r0 => ttE r0 (none) (fun k_2 x_2 d_2 l_2 r0_2 => (F_tree_node_int_tell (TT.node k x d l l_2)).bind fun t => ((F_tree_node_int_tell (TT.node k_2 x_2 d_2 t r0_2)).bind fun t_2 => (some t_2))))

set_option maxHeartbeats 1000000 in
theorem c_tree_node_int_left {I D : Dm} {v_n0 : Value} {n0 : TT Int} {w : World} {rr : TT Int} (hF : F_tree_node_int_left n0 = some rr) (H : St I D w [TrC 55 n0 v_n0]) :
  Calls Try.prog 36 #[v_n0] w (Ret fun vv w' => ∃ q1 : Value, vv = q1 ∧ ∃ I', Hf I D w I' w' [TrC 55 rr q1]) := by
 replace H := H.hf
 unfold F_tree_node_int_left at hF
 refine f_enter 24 Try.func36 rfl rfl (Nat.le_of_ble_eq_true rfl) fun a Z => ?_
 replace Z := Z.sub (ts := [0]) rfl
 refine wp_seq (f_region Z ?_); clear Z; intro Z
 refine s_runk tTree Z 1 rfl rfl ?_; clear Z a; intro a Z
 refine s_end Z [0, 2] rfl ?_; clear Z; intro Z
 refine p_then (wp_seq ?_)
 rcases ttE_in hF with ⟨ho1, hF⟩ | ⟨k, x, d, l, r0, ho1, hF⟩
 ·obtain ⟨hv, H⟩ := H.trN 0 rfl ho1
  subst hv
  replace H : Hf I D w I w [] := H
  cases hF
 ·obtain ⟨b1, v1, v2, hv, H⟩ := H.trS 0 rfl ho1
  subst hv
  replace H : Hf I D w I w [BxC b1 55 [.string k, .int .i64 x, .int .i64 d, v1, v2], TrC 55 l v1, TrC 55 r0 v2] := H
  refine f_region Z ?_; clear Z; intro Z
  refine s_runk tTree Z 3 rfl rfl ?_; clear Z a; intro a Z
  refine s_ob Z (v := v2) rfl rfl (by decide) rfl (Ob_load tTree rfl rfl rfl ((H.bx 0 rfl).cell 4 rfl)) ?_; clear Z a; intro a Z
  refine s_runk tTree Z 1 rfl rfl ?_; clear Z a; intro a Z
  refine s_end Z [0, 2, 3] rfl ?_; clear Z; intro Z
  refine p_then (wp_seq ?_)
  rcases ttE_in hF with ⟨ho2, hF⟩ | ⟨k_2, x_2, d_2, l_2, r0_2, ho2, hF⟩
  ·obtain ⟨hv, H⟩ := H.trN 2 rfl ho2
   subst hv
   replace H : Hf I D w I w [BxC b1 55 [.string k, .int .i64 x, .int .i64 d, v1, .pointer none], TrC 55 l v1] := H
   cases hF
  ·obtain ⟨b2, v3, v4, hv, H⟩ := H.trS 2 rfl ho2
   subst hv
   replace H : Hf I D w I w [BxC b2 55 [.string k_2, .int .i64 x_2, .int .i64 d_2, v3, v4], TrC 55 l_2 v3, TrC 55 r0_2 v4, BxC b1 55 [.string k, .int .i64 x, .int .i64 d, v1, .pointer (some ⟨b2, 0, none⟩)], TrC 55 l v1] := H
   refine f_region Z ?_; clear Z; intro Z
   refine s_runk tTree Z 5 rfl rfl ?_; clear Z a; intro a Z
   refine s_ob Z (v := v3) rfl rfl (by decide) rfl (Ob_load tTree rfl rfl rfl ((H.bx 0 rfl).cell 3 rfl)) ?_; clear Z a; intro a Z
   refine s_runk tTree Z 3 rfl rfl ?_; clear Z a; intro a Z
   refine h_store tTree Z H 3 rfl rfl rfl rfl rfl rfl (H.trP 1 rfl).cells rfl rfl (one_cons (H.trP 1 rfl).one one_nil) (Nat.le_of_ble_eq_true rfl) rfl ?_; clear H; intro w1 H
   dsimp only [List.eraseIdx] at H
   refine s_runk tTree Z 2 rfl rfl ?_; clear Z a; intro a Z
   refine h_store tTree Z H 1 rfl rfl rfl rfl rfl rfl rfl rfl rfl (one_cons rfl one_nil) (Nat.le_of_ble_eq_true rfl) rfl ?_; clear H; intro w2 H
   dsimp only [List.eraseIdx] at H
   refine s_end Z [0, 2, 3] rfl ?_; clear Z; intro Z
   refine p_then (wp_seq ?_)
   obtain ⟨t, hx1, hF⟩ := bnd_in hF
   refine f_region Z ?_; clear Z; intro Z
   refine s_runk tTree Z 1 rfl rfl ?_; clear Z a; intro a Z
   replace H : Hf I D w I w2 [TrC 55 (TT.node k x d l l_2) (.pointer (some ⟨b1, 0, none⟩)), BxC b2 55 [.string k_2, .int .i64 x_2, .int .i64 d_2, .pointer (some ⟨b1, 0, none⟩), v4], TrC 55 r0_2 v4] := H.mkT [(1, false), (3, false), (1, false)] rfl
   refine h_call Z H (js := [(0, false)]) rfl (caps := #[]) fn_35_YTree rfl rfl rfl rfl rfl (by decide) rfl rfl (fun D1 hS => have hq := c_tree_node_int_tell hx1 hS; hq) ?_; clear Z a; intro vv a w3 D2 hr hF2 Z
   obtain ⟨rfl, I1, K⟩ := hr
   have H : Hf I D w I1 w3 [TrC 55 t (.pointer (some ⟨b1, 0, none⟩)), BxC b2 55 [.string k_2, .int .i64 x_2, .int .i64 d_2, .pointer (some ⟨b1, 0, none⟩), v4], TrC 55 r0_2 v4] := hF2 K
   clear hF2 K
   refine s_end Z [2, 3] rfl ?_; clear Z; intro Z
   refine p_then (wp_seq ?_)
   obtain ⟨t_2, hx2, hF⟩ := bnd_in hF
   refine f_region Z ?_; clear Z; intro Z
   refine s_runk tTree Z 1 rfl rfl ?_; clear Z a; intro a Z
   replace H : Hf I D w I1 w3 [TrC 55 (TT.node k_2 x_2 d_2 t r0_2) (.pointer (some ⟨b2, 0, none⟩))] := H.mkT [(1, false), (0, false), (0, false)] rfl
   refine h_call Z H (js := [(0, false)]) rfl (caps := #[]) fn_35_YTree rfl rfl rfl rfl rfl (by decide) rfl rfl (fun D1 hS => have hq := c_tree_node_int_tell hx2 hS; hq) ?_; clear Z a; intro vv a w4 D2 hr hF2 Z
   obtain ⟨rfl, I2, K⟩ := hr
   have H : Hf I D w I2 w4 [TrC 55 t_2 (.pointer (some ⟨b2, 0, none⟩))] := hF2 K
   clear hF2 K
   refine s_end Z [2, 3] rfl ?_; clear Z; intro Z
   refine p_then (wp_seq (f_region Z ?_)); clear Z; intro Z
   refine s_runk tTree Z 2 rfl rfl ?_; clear Z a; intro a Z
   refine s_end Z [2] rfl ?_; clear Z; intro Z
   refine p_then (wp_ret ?_)
   obtain rfl := some_in hF
   exact f_ret Z (run_results1 rfl Z rfl) ⟨.pointer (some ⟨b2, 0, none⟩), rfl, I2, (H.sub [(0, false)] rfl).eq rfl⟩

def F_tree_node_int_level_k1 (n0_2 : TT Int) : Option (TT Int) := (F_tree_node_int_right n0_2).bind fun r0_2 => (some r0_2)

def F_tree_node_int_level_k2 (n0_3 : TT Int) : Option (TT Int) := (F_tree_node_int_left n0_3).bind fun l_4 => (some l_4)

def F_tree_node_int_level (n0 : TT Int) : Option (TT Int) := (F_tree_node_int_tell n0).bind fun t => (ttE t (none) (fun k x d l r0 => (F_deep l).bind fun i => ((F_deep r0).bind fun i_2 => (chk (inI (i - i_2)) (if (decide (i - i_2 > 1)) = true then (ttE l (none) (fun k_2 x_2 d_2 l_2 r0_3 => (F_deep l_2).bind fun i_3 => ((F_deep r0_3).bind fun i_4 => (if (decide (i_3 < i_4)) = true then ((F_tree_node_int_left l).bind fun l_3 => (F_tree_node_int_level_k1 (TT.node k x d l_3 r0))) else (F_tree_node_int_level_k1 t))))) else (if (decide (i - i_2 < (-1))) = true then (ttE r0 (none) (fun k_3 x_3 d_3 l_5 r0_4 => (F_deep r0_4).bind fun i_5 => ((F_deep l_5).bind fun i_6 => (if (decide (i_5 < i_6)) = true then ((F_tree_node_int_right r0).bind fun r0_5 => (F_tree_node_int_level_k2 (TT.node k x d l r0_5))) else (F_tree_node_int_level_k2 t))))) else (some t)))))))

set_option maxHeartbeats 1000000 in
theorem c_tree_node_int_level {I D : Dm} {v_n0 : Value} {n0 : TT Int} {w : World} {rr : TT Int} (hF : F_tree_node_int_level n0 = some rr) (H : St I D w [TrC 55 n0 v_n0]) :
  Calls Try.prog 31 #[v_n0] w (Ret fun vv w' => ∃ q1 : Value, vv = q1 ∧ ∃ I', Hf I D w I' w' [TrC 55 rr q1]) := by
 replace H := H.hf
 unfold F_tree_node_int_level at hF
 refine f_enter 78 Try.func31 rfl rfl (Nat.le_of_ble_eq_true rfl) fun a Z => ?_
 replace Z := Z.sub (ts := [0]) rfl
 refine wp_seq (f_region Z ?_); clear Z; intro Z
 refine s_runk tTree Z 1 rfl rfl ?_; clear Z a; intro a Z
 refine s_end Z [0, 2] rfl ?_; clear Z; intro Z
 refine p_then (wp_seq ?_)
 obtain ⟨t, hx1, hF⟩ := bnd_in hF
 refine f_region Z ?_; clear Z; intro Z
 refine s_runk tTree Z 1 rfl rfl ?_; clear Z a; intro a Z
 refine h_call Z H (js := [(0, false)]) rfl (caps := #[]) fn_35_YTree rfl rfl rfl rfl rfl (by decide) rfl rfl (fun D1 hS => have hq := c_tree_node_int_tell hx1 hS; hq) ?_; clear Z a; intro vv a w1 D2 hr hF2 Z
 obtain ⟨rfl, I1, K⟩ := hr
 have H : Hf I D w I1 w1 [TrC 55 t v_n0] := hF2 K
 clear hF2 K
 refine s_end Z [0, 2] rfl ?_; clear Z; intro Z
 refine p_then (wp_seq ?_)
 refine wp_seq ?_
 rcases ttE_in hF with ⟨ho1, hF⟩ | ⟨k, x, d, l, r0, ho1, hF⟩
 ·obtain ⟨hv, H⟩ := H.trN 0 rfl ho1
  subst hv
  replace H : Hf I D w I1 w1 [] := H
  cases hF
 ·obtain ⟨b1, v1, v2, hv, H⟩ := H.trS 0 rfl ho1
  subst hv
  replace H : Hf I D w I1 w1 [BxC b1 55 [.string k, .int .i64 x, .int .i64 d, v1, v2], TrC 55 l v1, TrC 55 r0 v2] := H
  obtain ⟨i, hx2, hF⟩ := bnd_in hF
  obtain ⟨i_2, hx3, hF⟩ := bnd_in hF
  obtain ⟨hg1, hF⟩ := chk_in hF
  refine f_quietd (by kernel_rfl) (by kernel_rfl) Z ?_; clear Z; intro Z
  refine q_runk tTree Z 3 rfl rfl ?_; clear Z a; intro a Z
  refine q_ob Z (v := v1) rfl rfl (by decide) rfl (fun _ hw => Ob_load tTree rfl rfl rfl (((H.blw hw).bx 0 rfl).cell 3 rfl)) ?_; clear Z a; intro a Z
  refine q_call Z (caps := #[]) fn_30_YTree rfl rfl rfl rfl rfl (by decide) rfl rfl (fun _ hw => (c_deep_q hx2 (H.blw hw) 1 rfl)) ?_; clear Z a; intro a Z
  refine q_runk tTree Z 3 rfl rfl ?_; clear Z a; intro a Z
  refine q_ob Z (v := v2) rfl rfl (by decide) rfl (fun _ hw => Ob_load tTree rfl rfl rfl (((H.blw hw).bx 0 rfl).cell 4 rfl)) ?_; clear Z a; intro a Z
  refine q_call Z (caps := #[]) fn_30_YTree rfl rfl rfl rfl rfl (by decide) rfl rfl (fun _ hw => (c_deep_q hx3 (H.blw hw) 2 rfl)) ?_; clear Z a; intro a Z
  refine q_ob Z (v := .int .i64 (i - i_2)) rfl rfl (by decide) rfl (fun _ hw => Ob_sub rfl rfl rfl (wrI hg1)) ?_; clear Z a; intro a Z
  refine q_runk tTree Z 1 rfl rfl ?_; clear Z a; intro a Z
  refine q_end Z [0, 2, 3] rfl ?_; clear Z; intro w2 hb Z
  replace H : Hf I D w I1 w2 [BxC b1 55 [.string k, .int .i64 x, .int .i64 d, v1, v2], TrC 55 l v1, TrC 55 r0 v2] := H.blw hb
  clear hb
  refine p_then (wp_block ?_)
  refine wp_seq (f_region Z ?_); clear Z; intro Z
  refine s_runk tTree Z 3 rfl rfl ?_; clear Z a; intro a Z
  refine s_end Z [0, 2, 3, 17] rfl ?_; clear Z; intro Z
  refine p_then ?_
  refine f_cond Z rfl (fun hc1 => ?_) (fun hc1 => ?_)
  ·replace hF := ite_t hc1 hF
   refine f_cut (fun a' w' => ∃ (n0_2 : TT Int), ∃ v3 : Value, Sl 78 [(0, v3), (2, .pointer none)] a' ∧ (∃ I2, Hf I D w I2 w' [TrC 55 n0_2 v3]) ∧ F_tree_node_int_level_k1 n0_2 = some rr) ?_ ?_
   ·rintro a w3 ⟨n0_2, v3, Z, ⟨I2, H⟩, hF⟩
    unfold F_tree_node_int_level_k1 at hF
    try dsimp only at hF
    refine wp_seq ?_
    obtain ⟨r0_2, hx4, hF⟩ := bnd_in hF
    refine f_region Z ?_; clear Z; intro Z
    refine s_runk tTree Z 1 rfl rfl ?_; clear Z a; intro a Z
    refine h_call Z H (js := [(0, false)]) rfl (caps := #[]) fn_37_YTree rfl rfl rfl rfl rfl (by decide) rfl rfl (fun D1 hS => have hq := c_tree_node_int_right hx4 hS; hq) ?_; clear Z a; intro vv a w4 D2 hr hF2 Z
    obtain ⟨q1, hvv, I3, K⟩ := hr; obtain rfl := hvv.symm
    have H : Hf I D w I3 w4 [TrC 55 r0_2 q1] := hF2 K
    clear hF2 K
    refine s_runk tTree Z 1 rfl rfl ?_; clear Z a; intro a Z
    refine s_end Z [0, 2] rfl ?_; clear Z; intro Z
    refine p_then (wp_ret ?_)
    refine p_blk_r ?_
    refine p_then_r ?_
    obtain rfl := some_in hF
    exact f_ret Z (run_results1 rfl Z rfl) ⟨q1, rfl, I3, (H.sub [(0, false)] rfl).eq rfl⟩
   ·skip
    refine wp_seq ?_
    rcases ttE_in hF with ⟨ho2, hF⟩ | ⟨k_2, x_2, d_2, l_2, r0_3, ho2, hF⟩
    ·obtain ⟨hv, H⟩ := H.trN 1 rfl ho2
     subst hv
     replace H : Hf I D w I1 w2 [BxC b1 55 [.string k, .int .i64 x, .int .i64 d, .pointer none, v2], TrC 55 r0 v2] := H
     cases hF
    ·obtain ⟨b2, v4, v5, hv, H⟩ := H.trS 1 rfl ho2
     subst hv
     replace H : Hf I D w I1 w2 [BxC b2 55 [.string k_2, .int .i64 x_2, .int .i64 d_2, v4, v5], TrC 55 l_2 v4, TrC 55 r0_3 v5, BxC b1 55 [.string k, .int .i64 x, .int .i64 d, .pointer (some ⟨b2, 0, none⟩), v2], TrC 55 r0 v2] := H
     obtain ⟨i_3, hx5, hF⟩ := bnd_in hF
     obtain ⟨i_4, hx6, hF⟩ := bnd_in hF
     refine f_quietd (by kernel_rfl) (by kernel_rfl) Z ?_; clear Z; intro Z
     refine q_runk tTree Z 3 rfl rfl ?_; clear Z a; intro a Z
     refine q_ob Z (v := .pointer (some ⟨b2, 0, none⟩)) rfl rfl (by decide) rfl (fun _ hw => Ob_load tTree rfl rfl rfl (((H.blw hw).bx 3 rfl).cell 3 rfl)) ?_; clear Z a; intro a Z
     refine q_runk tTree Z 2 rfl rfl ?_; clear Z a; intro a Z
     refine q_ob Z (v := v4) rfl rfl (by decide) rfl (fun _ hw => Ob_load tTree rfl rfl rfl (((H.blw hw).bx 0 rfl).cell 3 rfl)) ?_; clear Z a; intro a Z
     refine q_call Z (caps := #[]) fn_30_YTree rfl rfl rfl rfl rfl (by decide) rfl rfl (fun _ hw => (c_deep_q hx5 (H.blw hw) 1 rfl)) ?_; clear Z a; intro a Z
     refine q_runk tTree Z 3 rfl rfl ?_; clear Z a; intro a Z
     refine q_ob Z (v := .pointer (some ⟨b2, 0, none⟩)) rfl rfl (by decide) rfl (fun _ hw => Ob_load tTree rfl rfl rfl (((H.blw hw).bx 3 rfl).cell 3 rfl)) ?_; clear Z a; intro a Z
     refine q_runk tTree Z 2 rfl rfl ?_; clear Z a; intro a Z
     refine q_ob Z (v := v5) rfl rfl (by decide) rfl (fun _ hw => Ob_load tTree rfl rfl rfl (((H.blw hw).bx 0 rfl).cell 4 rfl)) ?_; clear Z a; intro a Z
     refine q_call Z (caps := #[]) fn_30_YTree rfl rfl rfl rfl rfl (by decide) rfl rfl (fun _ hw => (c_deep_q hx6 (H.blw hw) 2 rfl)) ?_; clear Z a; intro a Z
     refine q_runk tTree Z 1 rfl rfl ?_; clear Z a; intro a Z
     refine q_end Z [0, 2, 36] rfl ?_; clear Z; intro w5 hb Z
     replace H : Hf I D w I1 w5 [BxC b2 55 [.string k_2, .int .i64 x_2, .int .i64 d_2, v4, v5], TrC 55 l_2 v4, TrC 55 r0_3 v5, BxC b1 55 [.string k, .int .i64 x, .int .i64 d, .pointer (some ⟨b2, 0, none⟩), v2], TrC 55 r0 v2] := H.blw hb
     clear hb
     refine p_then ?_
     refine f_cond Z rfl (fun hc2 => ?_) (fun hc2 => ?_)
     ·replace hF := ite_t hc2 hF
      obtain ⟨l_3, hx7, hF⟩ := bnd_in hF
      refine f_region Z ?_; clear Z; intro Z
      refine s_runk tTree Z 4 rfl rfl ?_; clear Z a; intro a Z
      refine s_ob Z (v := .pointer (some ⟨b2, 0, none⟩)) rfl rfl (by decide) rfl (Ob_load tTree rfl rfl rfl ((H.bx 3 rfl).cell 3 rfl)) ?_; clear Z a; intro a Z
      replace H : Hf I D w I1 w5 [TrC 55 (TT.node k_2 x_2 d_2 l_2 r0_3) (.pointer (some ⟨b2, 0, none⟩)), BxC b1 55 [.string k, .int .i64 x, .int .i64 d, .pointer (some ⟨b2, 0, none⟩), v2], TrC 55 r0 v2] := H.mkT [(0, false), (0, false), (0, false)] rfl
      rw [← ho2] at H
      refine h_call Z H (js := [(0, false)]) rfl (caps := #[]) fn_36_YTree rfl rfl rfl rfl rfl (by decide) rfl rfl (fun D1 hS => have hq := c_tree_node_int_left hx7 hS; hq) ?_; clear Z a; intro vv a w6 D2 hr hF2 Z
      obtain ⟨q2, hvv, I4, K⟩ := hr; obtain rfl := hvv.symm
      have H : Hf I D w I4 w6 [TrC 55 l_3 q2, BxC b1 55 [.string k, .int .i64 x, .int .i64 d, .pointer (some ⟨b2, 0, none⟩), v2], TrC 55 r0 v2] := hF2 K
      clear hF2 K
      refine s_runk tTree Z 2 rfl rfl ?_; clear Z a; intro a Z
      refine h_store tTree Z H 1 rfl rfl rfl rfl rfl rfl (H.trP 0 rfl).cells rfl rfl (one_cons (H.trP 0 rfl).one one_nil) (Nat.le_of_ble_eq_true rfl) rfl ?_; clear H; intro w7 H
      dsimp only [List.eraseIdx] at H
      refine s_end Z [0, 2] rfl ?_; clear Z; intro Z
      refine p_then ?_
      replace H : Hf I D w I4 w7 [TrC 55 (TT.node k x d l_3 r0) (.pointer (some ⟨b1, 0, none⟩))] := H.mkT [(0, false), (0, false), (0, false)] rfl
      exact ⟨(TT.node k x d l_3 r0), .pointer (some ⟨b1, 0, none⟩), Z.sub (ts := [0, 2]) rfl, ⟨I4, (H.sub [(0, false)] rfl).eq rfl⟩, hF⟩
     ·replace hF := ite_f hc2 hF
      refine wp_skip ?_
      refine p_then ?_
      replace H : Hf I D w I1 w5 [TrC 55 (TT.node k_2 x_2 d_2 l_2 r0_3) (.pointer (some ⟨b2, 0, none⟩)), BxC b1 55 [.string k, .int .i64 x, .int .i64 d, .pointer (some ⟨b2, 0, none⟩), v2], TrC 55 r0 v2] := H.mkT [(0, false), (0, false), (0, false)] rfl
      rw [← ho2] at H
      replace H : Hf I D w I1 w5 [TrC 55 (TT.node k x d l r0) (.pointer (some ⟨b1, 0, none⟩))] := H.mkT [(1, false), (0, false), (0, false)] rfl
      rw [← ho1] at H
      exact ⟨t, .pointer (some ⟨b1, 0, none⟩), Z.sub (ts := [0, 2]) rfl, ⟨I1, (H.sub [(0, false)] rfl).eq rfl⟩, hF⟩
  ·replace hF := ite_f hc1 hF
   refine wp_seq (f_region Z ?_); clear Z; intro Z
   refine s_runk tTree Z 3 rfl rfl ?_; clear Z a; intro a Z
   refine s_end Z [0, 2, 47] rfl ?_; clear Z; intro Z
   refine p_then ?_
   refine f_cond Z rfl (fun hc3 => ?_) (fun hc3 => ?_)
   ·replace hF := ite_t hc3 hF
    refine f_cut (fun a' w' => ∃ (n0_3 : TT Int), ∃ v6 : Value, Sl 78 [(0, v6), (2, .pointer none)] a' ∧ (∃ I2, Hf I D w I2 w' [TrC 55 n0_3 v6]) ∧ F_tree_node_int_level_k2 n0_3 = some rr) ?_ ?_
    ·rintro a w8 ⟨n0_3, v6, Z, ⟨I5, H⟩, hF⟩
     unfold F_tree_node_int_level_k2 at hF
     try dsimp only at hF
     refine wp_seq ?_
     obtain ⟨l_4, hx8, hF⟩ := bnd_in hF
     refine f_region Z ?_; clear Z; intro Z
     refine s_runk tTree Z 1 rfl rfl ?_; clear Z a; intro a Z
     refine h_call Z H (js := [(0, false)]) rfl (caps := #[]) fn_36_YTree rfl rfl rfl rfl rfl (by decide) rfl rfl (fun D1 hS => have hq := c_tree_node_int_left hx8 hS; hq) ?_; clear Z a; intro vv a w9 D2 hr hF2 Z
     obtain ⟨q3, hvv, I6, K⟩ := hr; obtain rfl := hvv.symm
     have H : Hf I D w I6 w9 [TrC 55 l_4 q3] := hF2 K
     clear hF2 K
     refine s_runk tTree Z 1 rfl rfl ?_; clear Z a; intro a Z
     refine s_end Z [0, 2] rfl ?_; clear Z; intro Z
     refine p_then (wp_ret ?_)
     refine p_blk_r ?_
     refine p_then_r ?_
     obtain rfl := some_in hF
     exact f_ret Z (run_results1 rfl Z rfl) ⟨q3, rfl, I6, (H.sub [(0, false)] rfl).eq rfl⟩
    ·skip
     refine wp_seq ?_
     rcases ttE_in hF with ⟨ho3, hF⟩ | ⟨k_3, x_3, d_3, l_5, r0_4, ho3, hF⟩
     ·obtain ⟨hv, H⟩ := H.trN 2 rfl ho3
      subst hv
      replace H : Hf I D w I1 w2 [BxC b1 55 [.string k, .int .i64 x, .int .i64 d, v1, .pointer none], TrC 55 l v1] := H
      cases hF
     ·obtain ⟨b3, v7, v8, hv, H⟩ := H.trS 2 rfl ho3
      subst hv
      replace H : Hf I D w I1 w2 [BxC b3 55 [.string k_3, .int .i64 x_3, .int .i64 d_3, v7, v8], TrC 55 l_5 v7, TrC 55 r0_4 v8, BxC b1 55 [.string k, .int .i64 x, .int .i64 d, v1, .pointer (some ⟨b3, 0, none⟩)], TrC 55 l v1] := H
      obtain ⟨i_5, hx9, hF⟩ := bnd_in hF
      obtain ⟨i_6, hx10, hF⟩ := bnd_in hF
      refine f_quietd (by kernel_rfl) (by kernel_rfl) Z ?_; clear Z; intro Z
      refine q_runk tTree Z 3 rfl rfl ?_; clear Z a; intro a Z
      refine q_ob Z (v := .pointer (some ⟨b3, 0, none⟩)) rfl rfl (by decide) rfl (fun _ hw => Ob_load tTree rfl rfl rfl (((H.blw hw).bx 3 rfl).cell 4 rfl)) ?_; clear Z a; intro a Z
      refine q_runk tTree Z 2 rfl rfl ?_; clear Z a; intro a Z
      refine q_ob Z (v := v8) rfl rfl (by decide) rfl (fun _ hw => Ob_load tTree rfl rfl rfl (((H.blw hw).bx 0 rfl).cell 4 rfl)) ?_; clear Z a; intro a Z
      refine q_call Z (caps := #[]) fn_30_YTree rfl rfl rfl rfl rfl (by decide) rfl rfl (fun _ hw => (c_deep_q hx9 (H.blw hw) 2 rfl)) ?_; clear Z a; intro a Z
      refine q_runk tTree Z 3 rfl rfl ?_; clear Z a; intro a Z
      refine q_ob Z (v := .pointer (some ⟨b3, 0, none⟩)) rfl rfl (by decide) rfl (fun _ hw => Ob_load tTree rfl rfl rfl (((H.blw hw).bx 3 rfl).cell 4 rfl)) ?_; clear Z a; intro a Z
      refine q_runk tTree Z 2 rfl rfl ?_; clear Z a; intro a Z
      refine q_ob Z (v := v7) rfl rfl (by decide) rfl (fun _ hw => Ob_load tTree rfl rfl rfl (((H.blw hw).bx 0 rfl).cell 3 rfl)) ?_; clear Z a; intro a Z
      refine q_call Z (caps := #[]) fn_30_YTree rfl rfl rfl rfl rfl (by decide) rfl rfl (fun _ hw => (c_deep_q hx10 (H.blw hw) 1 rfl)) ?_; clear Z a; intro a Z
      refine q_runk tTree Z 1 rfl rfl ?_; clear Z a; intro a Z
      refine q_end Z [0, 2, 66] rfl ?_; clear Z; intro w10 hb Z
      replace H : Hf I D w I1 w10 [BxC b3 55 [.string k_3, .int .i64 x_3, .int .i64 d_3, v7, v8], TrC 55 l_5 v7, TrC 55 r0_4 v8, BxC b1 55 [.string k, .int .i64 x, .int .i64 d, v1, .pointer (some ⟨b3, 0, none⟩)], TrC 55 l v1] := H.blw hb
      clear hb
      refine p_then ?_
      refine f_cond Z rfl (fun hc4 => ?_) (fun hc4 => ?_)
      ·replace hF := ite_t hc4 hF
       obtain ⟨r0_5, hx11, hF⟩ := bnd_in hF
       refine f_region Z ?_; clear Z; intro Z
       refine s_runk tTree Z 4 rfl rfl ?_; clear Z a; intro a Z
       refine s_ob Z (v := .pointer (some ⟨b3, 0, none⟩)) rfl rfl (by decide) rfl (Ob_load tTree rfl rfl rfl ((H.bx 3 rfl).cell 4 rfl)) ?_; clear Z a; intro a Z
       replace H : Hf I D w I1 w10 [TrC 55 (TT.node k_3 x_3 d_3 l_5 r0_4) (.pointer (some ⟨b3, 0, none⟩)), BxC b1 55 [.string k, .int .i64 x, .int .i64 d, v1, .pointer (some ⟨b3, 0, none⟩)], TrC 55 l v1] := H.mkT [(0, false), (0, false), (0, false)] rfl
       rw [← ho3] at H
       refine h_call Z H (js := [(0, false)]) rfl (caps := #[]) fn_37_YTree rfl rfl rfl rfl rfl (by decide) rfl rfl (fun D1 hS => have hq := c_tree_node_int_right hx11 hS; hq) ?_; clear Z a; intro vv a w11 D2 hr hF2 Z
       obtain ⟨q4, hvv, I7, K⟩ := hr; obtain rfl := hvv.symm
       have H : Hf I D w I7 w11 [TrC 55 r0_5 q4, BxC b1 55 [.string k, .int .i64 x, .int .i64 d, v1, .pointer (some ⟨b3, 0, none⟩)], TrC 55 l v1] := hF2 K
       clear hF2 K
       refine s_runk tTree Z 2 rfl rfl ?_; clear Z a; intro a Z
       refine h_store tTree Z H 1 rfl rfl rfl rfl rfl rfl (H.trP 0 rfl).cells rfl rfl (one_cons (H.trP 0 rfl).one one_nil) (Nat.le_of_ble_eq_true rfl) rfl ?_; clear H; intro w12 H
       dsimp only [List.eraseIdx] at H
       refine s_end Z [0, 2] rfl ?_; clear Z; intro Z
       refine p_then ?_
       replace H : Hf I D w I7 w12 [TrC 55 (TT.node k x d l r0_5) (.pointer (some ⟨b1, 0, none⟩))] := H.mkT [(0, false), (1, false), (0, false)] rfl
       exact ⟨(TT.node k x d l r0_5), .pointer (some ⟨b1, 0, none⟩), Z.sub (ts := [0, 2]) rfl, ⟨I7, (H.sub [(0, false)] rfl).eq rfl⟩, hF⟩
      ·replace hF := ite_f hc4 hF
       refine wp_skip ?_
       refine p_then ?_
       replace H : Hf I D w I1 w10 [TrC 55 (TT.node k_3 x_3 d_3 l_5 r0_4) (.pointer (some ⟨b3, 0, none⟩)), BxC b1 55 [.string k, .int .i64 x, .int .i64 d, v1, .pointer (some ⟨b3, 0, none⟩)], TrC 55 l v1] := H.mkT [(0, false), (0, false), (0, false)] rfl
       rw [← ho3] at H
       replace H : Hf I D w I1 w10 [TrC 55 (TT.node k x d l r0) (.pointer (some ⟨b1, 0, none⟩))] := H.mkT [(1, false), (1, false), (0, false)] rfl
       rw [← ho1] at H
       exact ⟨t, .pointer (some ⟨b1, 0, none⟩), Z.sub (ts := [0, 2]) rfl, ⟨I1, (H.sub [(0, false)] rfl).eq rfl⟩, hF⟩
   ·replace hF := ite_f hc3 hF
    refine wp_skip ?_
    refine p_blk ?_
    refine p_then (wp_seq (f_region Z ?_)); clear Z; intro Z
    refine s_runk tTree Z 2 rfl rfl ?_; clear Z a; intro a Z
    refine s_end Z [2] rfl ?_; clear Z; intro Z
    refine p_then (wp_ret ?_)
    replace H : Hf I D w I1 w2 [TrC 55 (TT.node k x d l r0) (.pointer (some ⟨b1, 0, none⟩))] := H.mkT [(0, false), (0, false), (0, false)] rfl
    rw [← ho1] at H
    obtain rfl := some_in hF
    exact f_ret Z (run_results1 rfl Z rfl) ⟨.pointer (some ⟨b1, 0, none⟩), rfl, I1, (H.sub [(0, false)] rfl).eq rfl⟩

def F_tree_put_int_k1 (n0_2 : TT Int) (had : Bool) : Option ((TT Int) × Bool) := (F_tree_node_int_level n0_2).bind fun l => (some (l, had))

def F_tree_put_int_b (self : (TT Int) → ByteArray → Int → Option ((TT Int) × Bool)) (n0 : TT Int) (k : ByteArray) (v : Int) : Option ((TT Int) × Bool) := if (n0.isNil) = true then (some ((TT.node k v 1 TT.nil TT.nil), false)) else (ttE n0 (none) (fun k_2 x d l_2 r0 => if (sltB k k_2) = true then ((self l_2 k v).bind fun i => (F_tree_put_int_k1 (TT.node k_2 x d i.1 r0) i.2)) else (if (!(sltB k k_2 || seqB k k_2)) = true then ((self r0 k v).bind fun i_2 => (F_tree_put_int_k1 (TT.node k_2 x d l_2 i_2.1) i_2.2)) else (some ((TT.node k_2 v d l_2 r0), true)))))

def F_tree_put_intR : Nat → (TT Int) → ByteArray → Int → Option ((TT Int) × Bool)
 | 0 => fun _ _ _ => none
 | fu + 1 => F_tree_put_int_b (F_tree_put_intR fu)

def F_tree_put_int (n0 : TT Int) (k : ByteArray) (v : Int) : Option ((TT Int) × Bool) := F_tree_put_intR FU n0 k v

set_option maxHeartbeats 1000000 in
theorem c_tree_put_int_b {self : (TT Int) → ByteArray → Int → Option ((TT Int) × Bool)} (ih : ∀ {I D : Dm} {v_n0 : Value} {n0 : TT Int} {k : ByteArray} {v : Int} {w : World} {rr : (TT Int) × Bool}, self n0 k v = some rr → St I D w [TrC 55 n0 v_n0] → Calls Try.prog 25 #[v_n0, .string k, .int .i64 v] w (Ret fun vv w' => ∃ q1 : Value, vv = .tuple #[q1, .bool rr.2] ∧ ∃ I', Hf I D w I' w' [TrC 55 rr.1 q1])) {I D : Dm} {v_n0 : Value} {n0 : TT Int} {k : ByteArray} {v : Int} {w : World} {rr : (TT Int) × Bool} (hF : F_tree_put_int_b self n0 k v = some rr) (H : St I D w [TrC 55 n0 v_n0]) :
  Calls Try.prog 25 #[v_n0, .string k, .int .i64 v] w (Ret fun vv w' => ∃ q1 : Value, vv = .tuple #[q1, .bool rr.2] ∧ ∃ I', Hf I D w I' w' [TrC 55 rr.1 q1]) := by
 replace H := H.hf
 unfold F_tree_put_int_b at hF
 refine f_enter 63 Try.func25 rfl rfl (Nat.le_of_ble_eq_true rfl) fun a Z => ?_
 replace Z := Z.sub (ts := [0, 1, 2]) rfl
 refine wp_seq (f_region Z ?_); clear Z; intro Z
 refine s_runk tTree Z 2 rfl rfl ?_; clear Z a; intro a Z
 refine s_end Z [0, 1, 2, 6, 7] rfl ?_; clear Z; intro Z
 refine p_then (wp_seq ?_)
 refine wp_seq (f_region Z ?_); clear Z; intro Z
 refine s_runk tTree Z 1 rfl rfl ?_; clear Z a; intro a Z
 refine s_ob Z (v := .bool n0.isNil) rfl rfl (by decide) rfl (Ob_tnil (q := n0) rfl rfl rfl Try.underlying49 (H.trI 0 rfl) (.inl ⟨rfl, rfl⟩)) ?_; clear Z a; intro a Z
 refine s_end Z [0, 1, 2, 6, 7, 10] rfl ?_; clear Z; intro Z
 refine p_then ?_
 refine f_cond Z rfl (fun hc1 => ?_) (fun hc1 => ?_)
 ·replace hF := ite_t hc1 hF
  refine wp_seq (f_region Z ?_); clear Z; intro Z
  refine s_runk tTree Z 2 rfl rfl ?_; clear Z a; intro a Z
  refine s_ob Z (v := .agg #[.string k, .int .i64 v, .int .i64 1, .pointer none, .pointer none]) rfl rfl (by decide) rfl (Ob_build (vs := [(0, .string k), (1, .int .i64 v), (2, .int .i64 1)]) rfl rfl (by go_simp <;> rfl)) ?_; clear Z a; intro a Z
  refine h_boxv Z H (cl := [.string k, .int .i64 v, .int .i64 1, .pointer none, .pointer none]) rfl rfl rfl (by decide) rfl rfl rfl ?_; clear Z a H; intro a w1 b1 H Z
  refine s_runk tTree Z 2 rfl rfl ?_; clear Z a; intro a Z
  refine s_end Z [0, 1, 2, 6, 7] rfl ?_; clear Z; intro Z
  refine p_then (wp_ret ?_)
  refine p_then_r ?_
  replace H : Hf I D w I w1 [TrC 55 TT.nil (.pointer none), BxC b1 55 [.string k, .int .i64 v, .int .i64 1, .pointer none, .pointer none], TrC 55 n0 v_n0] := H.mkTN 55
  replace H : Hf I D w I w1 [TrC 55 TT.nil (.pointer none), TrC 55 TT.nil (.pointer none), BxC b1 55 [.string k, .int .i64 v, .int .i64 1, .pointer none, .pointer none], TrC 55 n0 v_n0] := H.mkTN 55
  replace H : Hf I D w I w1 [TrC 55 (TT.node k v 1 TT.nil TT.nil) (.pointer (some ⟨b1, 0, none⟩)), TrC 55 n0 v_n0] := H.mkT [(2, false), (1, false), (0, false)] rfl
  obtain rfl := some_in hF
  exact f_ret Z (run_results2 rfl Z rfl rfl) ⟨.pointer (some ⟨b1, 0, none⟩), rfl, I, (H.sub [(0, false)] rfl).eq rfl⟩
 ·replace hF := ite_f hc1 hF
  refine wp_skip ?_
  refine p_then (wp_seq (f_region Z ?_)); clear Z; intro Z
  refine s_runk tTree Z 1 rfl rfl ?_; clear Z a; intro a Z
  refine s_end Z [0, 1, 2, 6, 7, 8] rfl ?_; clear Z; intro Z
  refine p_then ?_
  refine f_cut (fun a' w' => ∃ (n0_2 : TT Int) (had : Bool), ∃ v1 : Value, Sl 63 [(0, v1), (6, .pointer none), (7, .bool false), (8, .bool had)] a' ∧ (∃ I2, Hf I D w I2 w' [TrC 55 n0_2 v1]) ∧ F_tree_put_int_k1 n0_2 had = some rr) ?_ ?_
  ·rintro a w2 ⟨n0_2, had, v1, Z, ⟨I1, H⟩, hF⟩
   unfold F_tree_put_int_k1 at hF
   try dsimp only at hF
   refine wp_seq ?_
   obtain ⟨l, hx1, hF⟩ := bnd_in hF
   refine f_region Z ?_; clear Z; intro Z
   refine s_runk tTree Z 1 rfl rfl ?_; clear Z a; intro a Z
   refine h_call Z H (js := [(0, false)]) rfl (caps := #[]) fn_31_YTree rfl rfl rfl rfl rfl (by decide) rfl rfl (fun D1 hS => have hq := c_tree_node_int_level hx1 hS; hq) ?_; clear Z a; intro vv a w3 D2 hr hF2 Z
   obtain ⟨q1, hvv, I2, K⟩ := hr; obtain rfl := hvv.symm
   have H : Hf I D w I2 w3 [TrC 55 l q1] := hF2 K
   clear hF2 K
   refine s_runk tTree Z 3 rfl rfl ?_; clear Z a; intro a Z
   refine s_end Z [6, 7] rfl ?_; clear Z; intro Z
   refine p_then (wp_ret ?_)
   obtain rfl := some_in hF
   exact f_ret Z (run_results2 rfl Z rfl rfl) ⟨q1, rfl, I2, (H.sub [(0, false)] rfl).eq rfl⟩
  ·skip
   refine wp_block ?_
   refine wp_seq ?_
   rcases ttE_in hF with ⟨ho1, hF⟩ | ⟨k_2, x, d, l_2, r0, ho1, hF⟩
   ·obtain ⟨hv, H⟩ := H.trN 0 rfl ho1
    subst hv
    replace H : Hf I D w I w [] := H
    cases hF
   ·obtain ⟨b2, v2, v3, hv, H⟩ := H.trS 0 rfl ho1
    subst hv
    replace H : Hf I D w I w [BxC b2 55 [.string k_2, .int .i64 x, .int .i64 d, v2, v3], TrC 55 l_2 v2, TrC 55 r0 v3] := H
    refine f_region Z ?_; clear Z; intro Z
    refine s_runk tTree Z 4 rfl rfl ?_; clear Z a; intro a Z
    refine s_ob Z (v := .string k_2) rfl rfl (by decide) rfl (Ob_load tTree rfl rfl rfl ((H.bx 0 rfl).cell 0 rfl)) ?_; clear Z a; intro a Z
    refine s_runk tTree Z 2 rfl rfl ?_; clear Z a; intro a Z
    refine s_end Z [0, 1, 2, 6, 7, 8, 20] rfl ?_; clear Z; intro Z
    refine p_then ?_
    refine f_cond Z rfl (fun hc2 => ?_) (fun hc2 => ?_)
    ·replace hF := ite_t hc2 hF
     obtain ⟨i, hx2, hF⟩ := bnd_in hF
     refine f_region Z ?_; clear Z; intro Z
     refine s_runk tTree Z 4 rfl rfl ?_; clear Z a; intro a Z
     refine s_ob Z (v := v2) rfl rfl (by decide) rfl (Ob_load tTree rfl rfl rfl ((H.bx 0 rfl).cell 3 rfl)) ?_; clear Z a; intro a Z
     refine s_runk tTree Z 2 rfl rfl ?_; clear Z a; intro a Z
     refine h_call Z H (js := [(1, false)]) rfl (caps := #[]) fn_25_YTree rfl rfl rfl rfl rfl (by decide) rfl rfl (fun D1 hS => have hq := ih hx2 hS; hq) ?_; clear Z a; intro vv a w4 D2 hr hF2 Z
     obtain ⟨q2, rfl, I3, K⟩ := hr
     have H : Hf I D w I3 w4 [TrC 55 i.1 q2, BxC b2 55 [.string k_2, .int .i64 x, .int .i64 d, v2, v3], TrC 55 r0 v3] := hF2 K
     clear hF2 K
     refine s_runk tTree Z 5 rfl rfl ?_; clear Z a; intro a Z
     refine h_store tTree Z H 1 rfl rfl rfl rfl rfl rfl (H.trP 0 rfl).cells rfl rfl (one_cons (H.trP 0 rfl).one one_nil) (Nat.le_of_ble_eq_true rfl) rfl ?_; clear H; intro w5 H
     dsimp only [List.eraseIdx] at H
     refine s_runk tTree Z 1 rfl rfl ?_; clear Z a; intro a Z
     refine s_end Z [0, 6, 7, 8] rfl ?_; clear Z; intro Z
     refine p_blk ?_
     refine p_then ?_
     replace H : Hf I D w I3 w5 [TrC 55 (TT.node k_2 x d i.1 r0) (.pointer (some ⟨b2, 0, none⟩))] := H.mkT [(0, false), (0, false), (0, false)] rfl
     exact ⟨(TT.node k_2 x d i.1 r0), i.2, .pointer (some ⟨b2, 0, none⟩), Z.sub (ts := [0, 6, 7, 8]) rfl, ⟨I3, (H.sub [(0, false)] rfl).eq rfl⟩, hF⟩
    ·replace hF := ite_f hc2 hF
     refine wp_seq (f_region Z ?_); clear Z; intro Z
     refine s_runk tTree Z 4 rfl rfl ?_; clear Z a; intro a Z
     refine s_ob Z (v := .string k_2) rfl rfl (by decide) rfl (Ob_load tTree rfl rfl rfl ((H.bx 0 rfl).cell 0 rfl)) ?_; clear Z a; intro a Z
     refine s_runk tTree Z 2 rfl rfl ?_; clear Z a; intro a Z
     refine s_end Z [0, 1, 2, 6, 7, 8, 40] rfl ?_; clear Z; intro Z
     refine p_then ?_
     refine f_cond Z rfl (fun hc3 => ?_) (fun hc3 => ?_)
     ·replace hF := ite_t hc3 hF
      obtain ⟨i_2, hx3, hF⟩ := bnd_in hF
      refine f_region Z ?_; clear Z; intro Z
      refine s_runk tTree Z 4 rfl rfl ?_; clear Z a; intro a Z
      refine s_ob Z (v := v3) rfl rfl (by decide) rfl (Ob_load tTree rfl rfl rfl ((H.bx 0 rfl).cell 4 rfl)) ?_; clear Z a; intro a Z
      refine s_runk tTree Z 2 rfl rfl ?_; clear Z a; intro a Z
      refine h_call Z H (js := [(2, false)]) rfl (caps := #[]) fn_25_YTree rfl rfl rfl rfl rfl (by decide) rfl rfl (fun D1 hS => have hq := ih hx3 hS; hq) ?_; clear Z a; intro vv a w6 D2 hr hF2 Z
      obtain ⟨q3, rfl, I4, K⟩ := hr
      have H : Hf I D w I4 w6 [TrC 55 i_2.1 q3, BxC b2 55 [.string k_2, .int .i64 x, .int .i64 d, v2, v3], TrC 55 l_2 v2] := hF2 K
      clear hF2 K
      refine s_runk tTree Z 5 rfl rfl ?_; clear Z a; intro a Z
      refine h_store tTree Z H 1 rfl rfl rfl rfl rfl rfl (H.trP 0 rfl).cells rfl rfl (one_cons (H.trP 0 rfl).one one_nil) (Nat.le_of_ble_eq_true rfl) rfl ?_; clear H; intro w7 H
      dsimp only [List.eraseIdx] at H
      refine s_runk tTree Z 1 rfl rfl ?_; clear Z a; intro a Z
      refine s_end Z [0, 6, 7, 8] rfl ?_; clear Z; intro Z
      refine p_blk ?_
      refine p_then ?_
      replace H : Hf I D w I4 w7 [TrC 55 (TT.node k_2 x d l_2 i_2.1) (.pointer (some ⟨b2, 0, none⟩))] := H.mkT [(0, false), (1, false), (0, false)] rfl
      exact ⟨(TT.node k_2 x d l_2 i_2.1), i_2.2, .pointer (some ⟨b2, 0, none⟩), Z.sub (ts := [0, 6, 7, 8]) rfl, ⟨I4, (H.sub [(0, false)] rfl).eq rfl⟩, hF⟩
     ·replace hF := ite_f hc3 hF
      refine wp_seq (f_region Z ?_); clear Z; intro Z
      refine s_runk tTree Z 4 rfl rfl ?_; clear Z a; intro a Z
      refine h_store tTree Z H 0 rfl rfl rfl rfl rfl rfl rfl rfl rfl (one_cons rfl one_nil) (Nat.le_of_ble_eq_true rfl) rfl ?_; clear H; intro w8 H
      dsimp only [List.eraseIdx] at H
      refine s_end Z [0, 6, 7, 8] rfl ?_; clear Z; intro Z
      refine p_then (wp_seq (f_region Z ?_)); clear Z; intro Z
      refine s_runk tTree Z 3 rfl rfl ?_; clear Z a; intro a Z
      refine s_end Z [0, 6, 7, 8] rfl ?_; clear Z; intro Z
      refine p_then (wp_ret ?_)
      refine p_blk_r ?_
      refine p_then_r ?_
      replace H : Hf I D w I w8 [TrC 55 (TT.node k_2 v d l_2 r0) (.pointer (some ⟨b2, 0, none⟩))] := H.mkT [(0, false), (0, false), (0, false)] rfl
      obtain rfl := some_in hF
      exact f_ret Z (run_results2 rfl Z rfl rfl) ⟨.pointer (some ⟨b2, 0, none⟩), rfl, I, (H.sub [(0, false)] rfl).eq rfl⟩

theorem c_tree_put_intR : ∀ (fu : Nat) {I D : Dm} {v_n0 : Value} {n0 : TT Int} {k : ByteArray} {v : Int} {w : World} {rr : (TT Int) × Bool}, F_tree_put_intR fu n0 k v = some rr → St I D w [TrC 55 n0 v_n0] → Calls Try.prog 25 #[v_n0, .string k, .int .i64 v] w (Ret fun vv w' => ∃ q1 : Value, vv = .tuple #[q1, .bool rr.2] ∧ ∃ I', Hf I D w I' w' [TrC 55 rr.1 q1])
 | 0 => fun hF _ => by cases hF
 | fu + 1 => fun hF H => c_tree_put_int_b (c_tree_put_intR fu) hF H

theorem c_tree_put_int {I D : Dm} {v_n0 : Value} {n0 : TT Int} {k : ByteArray} {v : Int} {w : World} {rr : (TT Int) × Bool} (hF : F_tree_put_int n0 k v = some rr) (H : St I D w [TrC 55 n0 v_n0]) : Calls Try.prog 25 #[v_n0, .string k, .int .i64 v] w (Ret fun vv w' => ∃ q1 : Value, vv = .tuple #[q1, .bool rr.2] ∧ ∃ I', Hf I D w I' w' [TrC 55 rr.1 q1]) := c_tree_put_intR FU hF H

end Go.Proofs.Ytfcdghlgcnjkoaa
