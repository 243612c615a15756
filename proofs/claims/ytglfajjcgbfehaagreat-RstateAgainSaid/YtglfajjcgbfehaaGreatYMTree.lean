/- Trees: the program's. -/
import Derived.Test.YtglfajjcgbfehaaGreatYTG
import Derived.Test.YtglfajjcgbfehaaGreatYRv
import Derived.Test.YtglfajjcgbfehaaGreatProg
namespace Go.Proofs.YtglfajjcgbfehaaGreat
open Go.RowKit
structure ECell where
 ts : Int
 val : ByteArray
 del : Bool

instance : Inhabited ECell := ⟨⟨0, ByteArray.empty, false⟩⟩

def cECell (x : ECell) : List Value := [.int .u64 x.ts, .string x.val, .bool x.del]

def NECell : Rp ECell := Rp.flat 3 (fun _ => True) (fun x => cECell x) (fun _ => rfl) (fun x c hc => by simp only [cECell, List.mem_cons, List.not_mem_nil, or_false] at hc; rcases hc with rfl | rfl | rfl <;> rfl)

def tMTreeL : TabL := ⟨[(143360, 0), (143361, 1), (143362, 2), (143363, 3), (143364, 4)], [], [], [], [(3, (1, false)), (9, (1, false)), (90, (1, false)), (130, (1, false)), (140, (5, true))]⟩

def tMTree : Tab Tryz.prog := ⟨tMTreeL, by kernel_rfl⟩

theorem fn_97_YMTree : IsFn Tryz.prog 97 := ⟨_, Tryz.func97, by kernel_rfl, by kernel_rfl⟩

theorem fn_104_YMTree : IsFn Tryz.prog 104 := ⟨_, Tryz.func104, by kernel_rfl, by kernel_rfl⟩

theorem fn_106_YMTree : IsFn Tryz.prog 106 := ⟨_, Tryz.func106, by kernel_rfl, by kernel_rfl⟩

theorem fn_107_YMTree : IsFn Tryz.prog 107 := ⟨_, Tryz.func107, by kernel_rfl, by kernel_rfl⟩

theorem fn_108_YMTree : IsFn Tryz.prog 108 := ⟨_, Tryz.func108, by kernel_rfl, by kernel_rfl⟩

theorem fn_109_YMTree : IsFn Tryz.prog 109 := ⟨_, Tryz.func109, by kernel_rfl, by kernel_rfl⟩

abbrev TM := TT (List ECell)

def deepT {α : Type} : TT α → Int
 | .nil => 0
 | .node _ _ d _ _ => d

def F_deepx (n0 : TM) : Option Int := if (n0.isNil) = true then (some 0) else (ttE n0 (none) (fun k x d l r0 => some d))

set_option maxHeartbeats 1000000 in
theorem c_deepx {I D : Dm} {v_n0 : Value} {n0 : TM} {w : World} {rr : Int} (hF : F_deepx n0 = some rr) (H : St I D w [TrG NECell 140 n0 v_n0]) :
  Calls Tryz.prog 107 #[v_n0] w (Ret fun vv w' => vv = vI rr ∧ Below w.heap.size w w') := by
 replace H := H.hf
 unfold F_deepx at hF
 refine f_enter 9 Tryz.func107 rfl rfl (Nat.le_of_ble_eq_true rfl) fun a Z => ?_
 replace Z := Z.sub (ts := [0]) rfl
 refine sR Z fun Z => ?_
 refine s_runk tMTree Z 1 rfl rfl fun a Z => ?_
 refine s_end Z [0, 2] rfl fun Z => ?_
 refine p_then (wp_seq ?_)
 refine sR Z fun Z => ?_
 refine s_runk tMTree Z 1 rfl rfl fun a Z => ?_
 refine sO Z (vT n0.isNil) rfl (Ob_tnilG (q := n0) rfl rfl rfl Tryz.underlying130 (H.trIG 0 rfl) (.inl ⟨rfl, rfl⟩)) fun a Z => ?_
 refine s_end Z [0, 2, 4] rfl fun Z => ?_
 refine p_then ?_
 refine f_cond Z rfl (fun hc1 => ?_) (fun hc1 => ?_)
 ·replace hF := ite_t hc1 hF
  refine sR Z fun Z => ?_
  refine s_runk tMTree Z 1 rfl rfl fun a Z => ?_
  refine s_end Z [0, 2] rfl fun Z => ?_
  refine p_then (wp_ret ?_)
  refine p_then_r ?_
  obtain rfl := some_in hF
  exact f_ret Z (run_results1 rfl Z rfl) ⟨rfl, Below.refl _ w⟩
 ·replace hF := ite_f hc1 hF
  refine wp_skip ?_
  refine p_then (wp_seq ?_)
  rcases ttE_in hF with ⟨ho1, hF⟩ | ⟨k, x, d, l, r0, ho1, hF⟩
  ·obtain ⟨hv, H⟩ := H.trNG 0 rfl ho1
   (try have Zq1 := Z); subst hv; (try have Z := Zq1)
   cases hF
  ·obtain ⟨b1, xv, v1, v2, hv, H⟩ := H.trSG 0 rfl ho1
   (try have Zq2 := Z); subst hv; (try have Z := Zq2)
   replace H := H.nf rfl; try dsimp only at H
   refine f_region Z fun Z => ?_
   refine s_runk tMTree Z 3 rfl rfl fun a Z => ?_
   refine sO Z _ rfl (oL tMTree rfl rfl (H.bc 0 2 rfl rfl)) fun a Z => ?_
   refine s_runk tMTree Z 1 rfl rfl fun a Z => ?_
   refine s_end Z [0, 2] rfl fun Z => ?_
   refine p_then (wp_ret ?_)
   obtain rfl := some_in hF
   exact f_ret Z (run_results1 rfl Z rfl) ⟨rfl, Below.refl _ w⟩

def F_deep (t : TM) : Option Int := some (deepT t)

theorem deepx_eq (t : TM) : F_deepx t = F_deep t := by cases t <;> rfl

theorem c_deep_q {I0 D : Dm} {w0 : World} {I : Dm} {w : World} {cs : List Ch} {t : TM} {rr : Int} (hF : F_deep t = some rr) (H : Hf I0 D w0 I w cs) (i : Nat) {v : Value} (hi : cs[i]? = some (TrG NECell 140 t v)) : Calls Tryz.prog 107 #[v] w (Ret fun vv w' => vv = vI rr ∧ Below w.heap.size w w') := by
 have hp : pickN [(i, false)] cs = some ([TrG NECell 140 t v], cs.eraseIdx i) := by simp [pickN, hi]
 obtain ⟨D1, h1, _⟩ := H.call hp
 exact c_deepx ((deepx_eq t).trans hF) h1

def F_tree_node_api_Cell_tell (n0 : TT (List ECell)) : Option (TT (List ECell)) := ttE n0 (none) (fun k x d l r0 => (F_deep l).bind fun c => ((F_deep r0).bind fun c_2 => (chk (inI (1 + (max c c_2))) (some (TT.node k x (1 + (max c c_2)) l r0)))))

set_option maxHeartbeats 1000000 in
theorem c_tree_node_api_Cell_tell {I D : Dm} {v_n0 : Value} {n0 : TT (List ECell)} {w : World} {rr : TT (List ECell)} (hF : F_tree_node_api_Cell_tell n0 = some rr) (H : St I D w [TrG NECell 140 n0 v_n0]) :
  Calls Tryz.prog 106 #[v_n0] w (Ret fun vv w' => vv = .tuple #[] ∧ ∃ I', Hf I D w I' w' [TrG NECell 140 rr v_n0]) := by
 replace H := H.hf
 unfold F_tree_node_api_Cell_tell at hF
 refine f_enter 17 Tryz.func106 rfl rfl (Nat.le_of_ble_eq_true rfl) fun a Z => ?_
 replace Z := Z.sub (ts := [0]) rfl
 rcases ttE_in hF with ⟨ho1, hF⟩ | ⟨k, x, d, l, r0, ho1, hF⟩
 ·obtain ⟨hv, H⟩ := H.trNG 0 rfl ho1
  (try have Zq3 := Z); subst hv; (try have Z := Zq3)
  replace H := H.nf rfl; try dsimp only at H
  cases hF
 ·obtain ⟨b1, v1, v2, v3, hv, H⟩ := H.trSG 0 rfl ho1
  (try have Zq4 := Z); subst hv; (try have Z := Zq4)
  replace H := H.nf rfl; try dsimp only at H
  obtain ⟨c, hx1, hF⟩ := bnd_in hF
  obtain ⟨c_2, hx2, hF⟩ := bnd_in hF
  obtain ⟨hg1, hF⟩ := chk_in hF
  refine f_quietS 13 (by kernel_rfl) (by kernel_rfl) (by kernel_rfl) (by kernel_rfl) (by kernel_rfl) Z fun Z => ?_
  refine q_runk tMTree Z 4 rfl rfl fun a Z => ?_
  refine qO Z _ rfl (fun _ hw => oL tMTree rfl rfl ((H.blw hw).bc 0 3 rfl rfl)) fun a Z => ?_
  refine q_call Z (caps := #[]) fn_107_YMTree rfl rfl rfl rfl rfl (by decide) rfl rfl (fun _ hw => (c_deep_q hx1 (H.blw hw) 2 rfl)) fun a Z => ?_
  refine q_runk tMTree Z 3 rfl rfl fun a Z => ?_
  refine qO Z _ rfl (fun _ hw => oL tMTree rfl rfl ((H.blw hw).bc 0 4 rfl rfl)) fun a Z => ?_
  refine q_call Z (caps := #[]) fn_107_YMTree rfl rfl rfl rfl rfl (by decide) rfl rfl (fun _ hw => (c_deep_q hx2 (H.blw hw) 3 rfl)) fun a Z => ?_
  refine q_runk tMTree Z 1 rfl rfl fun a Z => ?_
  refine qO Z (vI (1 + (max c c_2))) rfl (fun _ hw => Ob_add rfl rfl rfl (wrI hg1)) fun a Z => ?_
  refine q_endS Z [0, 2, 3, 4, 5, 6, 7, 8, 9, 10, 11, 12, 13, 14] rfl fun w1 hb Z => ?_
  replace H := H.blw hb
  clear hb
  refine s_runk tMTree Z 2 rfl rfl fun a Z => ?_
  refine hT tMTree Z H 0 rfl rfl rfl rfl rfl (one_cons rfl one_nil) (Nat.le_of_ble_eq_true rfl) rfl fun w2 H => ?_
  dsimp only [List.eraseIdx] at H
  refine s_end Z [0] rfl fun Z => ?_
  replace H : Hf I D w I w2 [TrG NECell 140 (TT.node k x (1 + (max c c_2)) l r0) (pp b1 0), SlC NECell v1 x] := H.mkTG [(0, false), (0, true), (1, false), (1, false)] rfl
  obtain rfl := some_in hF
  exact f_fall Z (run_results0 rfl) ⟨rfl, I, (H.sub [(0, false)] rfl).eq rfl⟩

def F_tree_node_api_Cell_right (n0 : TT (List ECell)) : Option (TT (List ECell)) := ttE n0 (none) (fun k x d l r0 => ttE l (none) (fun k_2 x_2 d_2 l_2 r0_2 => (F_tree_node_api_Cell_tell (TT.node k x d r0_2 r0)).bind fun t => ((F_tree_node_api_Cell_tell (TT.node k_2 x_2 d_2 l_2 t)).bind fun t_2 => (some t_2))))

set_option maxHeartbeats 1000000 in
theorem c_tree_node_api_Cell_right {I D : Dm} {v_n0 : Value} {n0 : TT (List ECell)} {w : World} {rr : TT (List ECell)} (hF : F_tree_node_api_Cell_right n0 = some rr) (H : St I D w [TrG NECell 140 n0 v_n0]) :
  Calls Tryz.prog 109 #[v_n0] w (Ret fun vv w' => ∃ q1 : Value, vv = q1 ∧ ∃ I', Hf I D w I' w' [TrG NECell 140 rr q1]) := by
 replace H := H.hf
 unfold F_tree_node_api_Cell_right at hF
 refine f_enter 24 Tryz.func109 rfl rfl (Nat.le_of_ble_eq_true rfl) fun a Z => ?_
 replace Z := Z.sub (ts := [0]) rfl
 refine sR Z fun Z => ?_
 refine s_runk tMTree Z 1 rfl rfl fun a Z => ?_
 refine s_end Z [0, 2] rfl fun Z => ?_
 refine p_then (wp_seq ?_)
 rcases ttE_in hF with ⟨ho1, hF⟩ | ⟨k, x, d, l, r0, ho1, hF⟩
 ·obtain ⟨hv, H⟩ := H.trNG 0 rfl ho1
  (try have Zq5 := Z); subst hv; (try have Z := Zq5)
  replace H := H.nf rfl; try dsimp only at H
  cases hF
 ·obtain ⟨b1, v1, v2, v3, hv, H⟩ := H.trSG 0 rfl ho1
  (try have Zq6 := Z); subst hv; (try have Z := Zq6)
  replace H := H.nf rfl; try dsimp only at H
  refine f_region Z fun Z => ?_
  refine s_runk tMTree Z 3 rfl rfl fun a Z => ?_
  refine sO Z _ rfl (oL tMTree rfl rfl (H.bc 0 3 rfl rfl)) fun a Z => ?_
  refine s_runk tMTree Z 1 rfl rfl fun a Z => ?_
  refine s_end Z [0, 2, 3] rfl fun Z => ?_
  refine p_then (wp_seq ?_)
  rcases ttE_in hF with ⟨ho2, hF⟩ | ⟨k_2, x_2, d_2, l_2, r0_2, ho2, hF⟩
  ·obtain ⟨hv, H⟩ := H.trNG 2 rfl ho2
   (try have Zq7 := Z); subst hv; (try have Z := Zq7)
   replace H := H.nf rfl; try dsimp only at H
   cases hF
  ·obtain ⟨b2, v4, v5, v6, hv, H⟩ := H.trSG 2 rfl ho2
   (try have Zq8 := Z); subst hv; (try have Z := Zq8)
   replace H := H.nf rfl; try dsimp only at H
   refine f_region Z fun Z => ?_
   refine s_runk tMTree Z 5 rfl rfl fun a Z => ?_
   refine sO Z _ rfl (oL tMTree rfl rfl (H.bc 0 4 rfl rfl)) fun a Z => ?_
   refine s_runk tMTree Z 3 rfl rfl fun a Z => ?_
   refine hT tMTree Z H 4 rfl rfl (H.trPG 3 rfl).cells rfl rfl (one_cons (H.trPG 3 rfl).one one_nil) (Nat.le_of_ble_eq_true rfl) rfl fun w1 H => ?_
   dsimp only [List.eraseIdx] at H
   refine s_runk tMTree Z 2 rfl rfl fun a Z => ?_
   refine hT tMTree Z H 1 rfl rfl rfl rfl rfl (one_cons rfl one_nil) (Nat.le_of_ble_eq_true rfl) rfl fun w2 H => ?_
   dsimp only [List.eraseIdx] at H
   refine s_end Z [0, 2, 3] rfl fun Z => ?_
   refine p_then (wp_seq ?_)
   obtain ⟨t, hx1, hF⟩ := bnd_in hF
   refine f_region Z fun Z => ?_
   refine s_runk tMTree Z 1 rfl rfl fun a Z => ?_
   replace H : Hf I D w I w2 [TrG NECell 140 (TT.node k x d r0_2 r0) (pp b1 0), BxC b2 140 [vS k_2, v4, vI d_2, v5, pp b1 0], SlC NECell v4 x_2, TrG NECell 140 l_2 v5, SlC NECell v1 x] := H.mkTG [(1, false), (4, true), (3, false), (4, false)] rfl
   refine hC Z H [(0, false)] rfl #[] fn_106_YMTree rfl rfl (fun D h => have q := c_tree_node_api_Cell_tell hx1 h; q) fun vv a w3 D2 hr hF2 Z => ?_
   obtain ⟨rfl, I1, K⟩ := hr
   have H := (hF2 K).nf rfl
   refine s_end Z [2, 3] rfl fun Z => ?_
   refine p_then (wp_seq ?_)
   obtain ⟨t_2, hx2, hF⟩ := bnd_in hF
   refine f_region Z fun Z => ?_
   refine s_runk tMTree Z 1 rfl rfl fun a Z => ?_
   replace H : Hf I D w I1 w3 [TrG NECell 140 (TT.node k_2 x_2 d_2 l_2 t) (pp b2 0), SlC NECell v4 x_2, SlC NECell v1 x] := H.mkTG [(1, false), (1, true), (2, false), (0, false)] rfl
   refine hC Z H [(0, false)] rfl #[] fn_106_YMTree rfl rfl (fun D h => have q := c_tree_node_api_Cell_tell hx2 h; q) fun vv a w4 D2 hr hF2 Z => ?_
   obtain ⟨rfl, I2, K⟩ := hr
   have H := (hF2 K).nf rfl
   refine s_end Z [2, 3] rfl fun Z => ?_
   refine pR Z fun Z => ?_
   refine s_runk tMTree Z 2 rfl rfl fun a Z => ?_
   refine s_end Z [2] rfl fun Z => ?_
   refine p_then (wp_ret ?_)
   obtain rfl := some_in hF
   exact f_ret Z (run_results1 rfl Z rfl) ⟨pp b2 0, rfl, I2, (H.sub [(0, false)] rfl).eq rfl⟩

def F_tree_node_api_Cell_left (n0 : TT (List ECell)) : Option (TT (List ECell)) := ttE n0 (none) (fun k x d l r0 => ttE r0 (none) (fun k_2 x_2 d_2 l_2 r0_2 => (F_tree_node_api_Cell_tell (TT.node k x d l l_2)).bind fun t => ((F_tree_node_api_Cell_tell (TT.node k_2 x_2 d_2 t r0_2)).bind fun t_2 => (some t_2))))

set_option maxHeartbeats 1000000 in
theorem c_tree_node_api_Cell_left {I D : Dm} {v_n0 : Value} {n0 : TT (List ECell)} {w : World} {rr : TT (List ECell)} (hF : F_tree_node_api_Cell_left n0 = some rr) (H : St I D w [TrG NECell 140 n0 v_n0]) :
  Calls Tryz.prog 108 #[v_n0] w (Ret fun vv w' => ∃ q1 : Value, vv = q1 ∧ ∃ I', Hf I D w I' w' [TrG NECell 140 rr q1]) := by
 replace H := H.hf
 unfold F_tree_node_api_Cell_left at hF
 refine f_enter 24 Tryz.func108 rfl rfl (Nat.le_of_ble_eq_true rfl) fun a Z => ?_
 replace Z := Z.sub (ts := [0]) rfl
 refine sR Z fun Z => ?_
 refine s_runk tMTree Z 1 rfl rfl fun a Z => ?_
 refine s_end Z [0, 2] rfl fun Z => ?_
 refine p_then (wp_seq ?_)
 rcases ttE_in hF with ⟨ho1, hF⟩ | ⟨k, x, d, l, r0, ho1, hF⟩
 ·obtain ⟨hv, H⟩ := H.trNG 0 rfl ho1
  (try have Zq9 := Z); subst hv; (try have Z := Zq9)
  replace H := H.nf rfl; try dsimp only at H
  cases hF
 ·obtain ⟨b1, v1, v2, v3, hv, H⟩ := H.trSG 0 rfl ho1
  (try have Zq10 := Z); subst hv; (try have Z := Zq10)
  replace H := H.nf rfl; try dsimp only at H
  refine f_region Z fun Z => ?_
  refine s_runk tMTree Z 3 rfl rfl fun a Z => ?_
  refine sO Z _ rfl (oL tMTree rfl rfl (H.bc 0 4 rfl rfl)) fun a Z => ?_
  refine s_runk tMTree Z 1 rfl rfl fun a Z => ?_
  refine s_end Z [0, 2, 3] rfl fun Z => ?_
  refine p_then (wp_seq ?_)
  rcases ttE_in hF with ⟨ho2, hF⟩ | ⟨k_2, x_2, d_2, l_2, r0_2, ho2, hF⟩
  ·obtain ⟨hv, H⟩ := H.trNG 3 rfl ho2
   (try have Zq11 := Z); subst hv; (try have Z := Zq11)
   replace H := H.nf rfl; try dsimp only at H
   cases hF
  ·obtain ⟨b2, v4, v5, v6, hv, H⟩ := H.trSG 3 rfl ho2
   (try have Zq12 := Z); subst hv; (try have Z := Zq12)
   replace H := H.nf rfl; try dsimp only at H
   refine f_region Z fun Z => ?_
   refine s_runk tMTree Z 5 rfl rfl fun a Z => ?_
   refine sO Z _ rfl (oL tMTree rfl rfl (H.bc 0 3 rfl rfl)) fun a Z => ?_
   refine s_runk tMTree Z 3 rfl rfl fun a Z => ?_
   refine hT tMTree Z H 4 rfl rfl (H.trPG 2 rfl).cells rfl rfl (one_cons (H.trPG 2 rfl).one one_nil) (Nat.le_of_ble_eq_true rfl) rfl fun w1 H => ?_
   dsimp only [List.eraseIdx] at H
   refine s_runk tMTree Z 2 rfl rfl fun a Z => ?_
   refine hT tMTree Z H 1 rfl rfl rfl rfl rfl (one_cons rfl one_nil) (Nat.le_of_ble_eq_true rfl) rfl fun w2 H => ?_
   dsimp only [List.eraseIdx] at H
   refine s_end Z [0, 2, 3] rfl fun Z => ?_
   refine p_then (wp_seq ?_)
   obtain ⟨t, hx1, hF⟩ := bnd_in hF
   refine f_region Z fun Z => ?_
   refine s_runk tMTree Z 1 rfl rfl fun a Z => ?_
   replace H : Hf I D w I w2 [TrG NECell 140 (TT.node k x d l l_2) (pp b1 0), BxC b2 140 [vS k_2, v4, vI d_2, pp b1 0, v6], SlC NECell v4 x_2, TrG NECell 140 r0_2 v6, SlC NECell v1 x] := H.mkTG [(1, false), (4, true), (5, false), (2, false)] rfl
   refine hC Z H [(0, false)] rfl #[] fn_106_YMTree rfl rfl (fun D h => have q := c_tree_node_api_Cell_tell hx1 h; q) fun vv a w3 D2 hr hF2 Z => ?_
   obtain ⟨rfl, I1, K⟩ := hr
   have H := (hF2 K).nf rfl
   refine s_end Z [2, 3] rfl fun Z => ?_
   refine p_then (wp_seq ?_)
   obtain ⟨t_2, hx2, hF⟩ := bnd_in hF
   refine f_region Z fun Z => ?_
   refine s_runk tMTree Z 1 rfl rfl fun a Z => ?_
   replace H : Hf I D w I1 w3 [TrG NECell 140 (TT.node k_2 x_2 d_2 t r0_2) (pp b2 0), SlC NECell v4 x_2, SlC NECell v1 x] := H.mkTG [(1, false), (1, true), (0, false), (1, false)] rfl
   refine hC Z H [(0, false)] rfl #[] fn_106_YMTree rfl rfl (fun D h => have q := c_tree_node_api_Cell_tell hx2 h; q) fun vv a w4 D2 hr hF2 Z => ?_
   obtain ⟨rfl, I2, K⟩ := hr
   have H := (hF2 K).nf rfl
   refine s_end Z [2, 3] rfl fun Z => ?_
   refine pR Z fun Z => ?_
   refine s_runk tMTree Z 2 rfl rfl fun a Z => ?_
   refine s_end Z [2] rfl fun Z => ?_
   refine p_then (wp_ret ?_)
   obtain rfl := some_in hF
   exact f_ret Z (run_results1 rfl Z rfl) ⟨pp b2 0, rfl, I2, (H.sub [(0, false)] rfl).eq rfl⟩

def F_tree_node_api_Cell_level_k1 (n0_2 : TT (List ECell)) : Option (TT (List ECell)) := (F_tree_node_api_Cell_right n0_2).bind fun r0_2 => (some r0_2)

def F_tree_node_api_Cell_level_k2 (n0_3 : TT (List ECell)) : Option (TT (List ECell)) := (F_tree_node_api_Cell_left n0_3).bind fun l_4 => (some l_4)

def F_tree_node_api_Cell_level (n0 : TT (List ECell)) : Option (TT (List ECell)) := (F_tree_node_api_Cell_tell n0).bind fun t => (ttE t (none) (fun k x d l r0 => (F_deep l).bind fun c => ((F_deep r0).bind fun c_2 => (chk (inI (c - c_2)) (if (decide (c - c_2 > 1)) = true then (ttE l (none) (fun k_2 x_2 d_2 l_2 r0_3 => (F_deep l_2).bind fun c_3 => ((F_deep r0_3).bind fun c_4 => (if (decide (c_3 < c_4)) = true then ((F_tree_node_api_Cell_left l).bind fun l_3 => (F_tree_node_api_Cell_level_k1 (TT.node k x d l_3 r0))) else (F_tree_node_api_Cell_level_k1 t))))) else (if (decide (c - c_2 < (-1))) = true then (ttE r0 (none) (fun k_3 x_3 d_3 l_5 r0_4 => (F_deep r0_4).bind fun c_5 => ((F_deep l_5).bind fun c_6 => (if (decide (c_5 < c_6)) = true then ((F_tree_node_api_Cell_right r0).bind fun r0_5 => (F_tree_node_api_Cell_level_k2 (TT.node k x d l r0_5))) else (F_tree_node_api_Cell_level_k2 t))))) else (some t)))))))

set_option maxHeartbeats 1000000 in
theorem c_tree_node_api_Cell_level {I D : Dm} {v_n0 : Value} {n0 : TT (List ECell)} {w : World} {rr : TT (List ECell)} (hF : F_tree_node_api_Cell_level n0 = some rr) (H : St I D w [TrG NECell 140 n0 v_n0]) :
  Calls Tryz.prog 104 #[v_n0] w (Ret fun vv w' => ∃ q1 : Value, vv = q1 ∧ ∃ I', Hf I D w I' w' [TrG NECell 140 rr q1]) := by
 replace H := H.hf
 unfold F_tree_node_api_Cell_level at hF
 refine f_enter 78 Tryz.func104 rfl rfl (Nat.le_of_ble_eq_true rfl) fun a Z => ?_
 replace Z := Z.sub (ts := [0]) rfl
 refine sR Z fun Z => ?_
 refine s_runk tMTree Z 1 rfl rfl fun a Z => ?_
 refine s_end Z [0, 2] rfl fun Z => ?_
 refine p_then (wp_seq ?_)
 obtain ⟨t, hx1, hF⟩ := bnd_in hF
 refine f_region Z fun Z => ?_
 refine s_runk tMTree Z 1 rfl rfl fun a Z => ?_
 refine hC Z H [(0, false)] rfl #[] fn_106_YMTree rfl rfl (fun D h => have q := c_tree_node_api_Cell_tell hx1 h; q) fun vv a w1 D2 hr hF2 Z => ?_
 obtain ⟨rfl, I1, K⟩ := hr
 have H := (hF2 K).nf rfl
 refine s_end Z [0, 2] rfl fun Z => ?_
 refine p_then (wp_seq ?_)
 refine wp_seq ?_
 rcases ttE_in hF with ⟨ho1, hF⟩ | ⟨k, x, d, l, r0, ho1, hF⟩
 ·obtain ⟨hv, H⟩ := H.trNG 0 rfl ho1
  (try have Zq13 := Z); subst hv; (try have Z := Zq13)
  replace H := H.nf rfl; try dsimp only at H
  cases hF
 ·obtain ⟨b1, v1, v2, v3, hv, H⟩ := H.trSG 0 rfl ho1
  (try have Zq14 := Z); subst hv; (try have Z := Zq14)
  replace H := H.nf rfl; try dsimp only at H
  obtain ⟨c, hx2, hF⟩ := bnd_in hF
  obtain ⟨c_2, hx3, hF⟩ := bnd_in hF
  obtain ⟨hg1, hF⟩ := chk_in hF
  refine f_quietd (by kernel_rfl) (by kernel_rfl) Z fun Z => ?_
  refine q_runk tMTree Z 3 rfl rfl fun a Z => ?_
  refine qO Z _ rfl (fun _ hw => oL tMTree rfl rfl ((H.blw hw).bc 0 3 rfl rfl)) fun a Z => ?_
  refine q_call Z (caps := #[]) fn_107_YMTree rfl rfl rfl rfl rfl (by decide) rfl rfl (fun _ hw => (c_deep_q hx2 (H.blw hw) 2 rfl)) fun a Z => ?_
  refine q_runk tMTree Z 3 rfl rfl fun a Z => ?_
  refine qO Z _ rfl (fun _ hw => oL tMTree rfl rfl ((H.blw hw).bc 0 4 rfl rfl)) fun a Z => ?_
  refine q_call Z (caps := #[]) fn_107_YMTree rfl rfl rfl rfl rfl (by decide) rfl rfl (fun _ hw => (c_deep_q hx3 (H.blw hw) 3 rfl)) fun a Z => ?_
  refine qO Z (vI (c - c_2)) rfl (fun _ hw => Ob_sub rfl rfl rfl (wrI hg1)) fun a Z => ?_
  refine q_runk tMTree Z 1 rfl rfl fun a Z => ?_
  refine q_end Z [0, 2, 3] rfl fun w2 hb Z => ?_
  replace H := H.blw hb
  clear hb
  refine p_then (wp_block ?_)
  refine sR Z fun Z => ?_
  refine s_runk tMTree Z 3 rfl rfl fun a Z => ?_
  refine s_end Z [0, 2, 3, 17] rfl fun Z => ?_
  refine p_then ?_
  refine f_cond Z rfl (fun hc1 => ?_) (fun hc1 => ?_)
  ·replace hF := ite_t hc1 hF
   refine f_cut (fun a' w' => ∃ (n0_2 : TT (List ECell)), ∃ v4 : Value, Sl 78 [(0, v4), (2, nP)] a' ∧ (∃ I2, Hf I D w I2 w' [TrG NECell 140 n0_2 v4]) ∧ F_tree_node_api_Cell_level_k1 n0_2 = some rr) ?_ ?_
   ·rintro a w3 ⟨n0_2, v4, Z, ⟨I2, H⟩, hF⟩
    unfold F_tree_node_api_Cell_level_k1 at hF
    try dsimp only at hF
    refine wp_seq ?_
    obtain ⟨r0_2, hx4, hF⟩ := bnd_in hF
    refine f_region Z fun Z => ?_
    refine s_runk tMTree Z 1 rfl rfl fun a Z => ?_
    refine hC Z H [(0, false)] rfl #[] fn_109_YMTree rfl rfl (fun D h => have q := c_tree_node_api_Cell_right hx4 h; q) fun vv a w4 D2 hr hF2 Z => ?_
    obtain ⟨q1, hvv, I3, K⟩ := hr; obtain rfl := hvv.symm
    have H := (hF2 K).nf rfl
    refine s_runk tMTree Z 1 rfl rfl fun a Z => ?_
    refine s_end Z [0, 2] rfl fun Z => ?_
    refine p_then (wp_ret ?_)
    refine p_blk_r ?_
    refine p_then_r ?_
    obtain rfl := some_in hF
    exact f_ret Z (run_results1 rfl Z rfl) ⟨q1, rfl, I3, (H.sub [(0, false)] rfl).eq rfl⟩
   ·skip
    refine wp_seq ?_
    rcases ttE_in hF with ⟨ho2, hF⟩ | ⟨k_2, x_2, d_2, l_2, r0_3, ho2, hF⟩
    ·obtain ⟨hv, H⟩ := H.trNG 2 rfl ho2
     (try have Zq15 := Z); subst hv; (try have Z := Zq15)
     replace H := H.nf rfl; try dsimp only at H
     cases hF
    ·obtain ⟨b2, v5, v6, v7, hv, H⟩ := H.trSG 2 rfl ho2
     (try have Zq16 := Z); subst hv; (try have Z := Zq16)
     replace H := H.nf rfl; try dsimp only at H
     obtain ⟨c_3, hx5, hF⟩ := bnd_in hF
     obtain ⟨c_4, hx6, hF⟩ := bnd_in hF
     refine f_quietd (by kernel_rfl) (by kernel_rfl) Z fun Z => ?_
     refine q_runk tMTree Z 3 rfl rfl fun a Z => ?_
     refine qO Z _ rfl (fun _ hw => oL tMTree rfl rfl ((H.blw hw).bc 4 3 rfl rfl)) fun a Z => ?_
     refine q_runk tMTree Z 2 rfl rfl fun a Z => ?_
     refine qO Z _ rfl (fun _ hw => oL tMTree rfl rfl ((H.blw hw).bc 0 3 rfl rfl)) fun a Z => ?_
     refine q_call Z (caps := #[]) fn_107_YMTree rfl rfl rfl rfl rfl (by decide) rfl rfl (fun _ hw => (c_deep_q hx5 (H.blw hw) 2 rfl)) fun a Z => ?_
     refine q_runk tMTree Z 3 rfl rfl fun a Z => ?_
     refine qO Z _ rfl (fun _ hw => oL tMTree rfl rfl ((H.blw hw).bc 4 3 rfl rfl)) fun a Z => ?_
     refine q_runk tMTree Z 2 rfl rfl fun a Z => ?_
     refine qO Z _ rfl (fun _ hw => oL tMTree rfl rfl ((H.blw hw).bc 0 4 rfl rfl)) fun a Z => ?_
     refine q_call Z (caps := #[]) fn_107_YMTree rfl rfl rfl rfl rfl (by decide) rfl rfl (fun _ hw => (c_deep_q hx6 (H.blw hw) 3 rfl)) fun a Z => ?_
     refine q_runk tMTree Z 1 rfl rfl fun a Z => ?_
     refine q_end Z [0, 2, 36] rfl fun w5 hb Z => ?_
     replace H := H.blw hb
     clear hb
     refine p_then ?_
     refine f_cond Z rfl (fun hc2 => ?_) (fun hc2 => ?_)
     ·replace hF := ite_t hc2 hF
      obtain ⟨l_3, hx7, hF⟩ := bnd_in hF
      refine f_region Z fun Z => ?_
      refine s_runk tMTree Z 4 rfl rfl fun a Z => ?_
      refine sO Z _ rfl (oL tMTree rfl rfl (H.bc 4 3 rfl rfl)) fun a Z => ?_
      replace H : Hf I D w I1 w5 [TrG NECell 140 (TT.node k_2 x_2 d_2 l_2 r0_3) (pp b2 0), SlC NECell v5 x_2, BxC b1 140 [vS k, v1, vI d, pp b2 0, v3], SlC NECell v1 x, TrG NECell 140 r0 v3] := H.mkTG [(0, false), (0, true), (1, false), (1, false)] rfl
      rw [← ho2] at H
      refine hC Z H [(0, false)] rfl #[] fn_108_YMTree rfl rfl (fun D h => have q := c_tree_node_api_Cell_left hx7 h; q) fun vv a w6 D2 hr hF2 Z => ?_
      obtain ⟨q2, hvv, I4, K⟩ := hr; obtain rfl := hvv.symm
      have H := (hF2 K).nf rfl
      refine s_runk tMTree Z 2 rfl rfl fun a Z => ?_
      refine hT tMTree Z H 2 rfl rfl (H.trPG 0 rfl).cells rfl rfl (one_cons (H.trPG 0 rfl).one one_nil) (Nat.le_of_ble_eq_true rfl) rfl fun w7 H => ?_
      dsimp only [List.eraseIdx] at H
      refine s_end Z [0, 2] rfl fun Z => ?_
      refine p_then ?_
      replace H : Hf I D w I4 w7 [TrG NECell 140 (TT.node k x d l_3 r0) (pp b1 0), SlC NECell v5 x_2, SlC NECell v1 x] := H.mkTG [(0, false), (2, true), (0, false), (2, false)] rfl
      exact ⟨(TT.node k x d l_3 r0), pp b1 0, Z.sub (ts := [0, 2]) rfl, ⟨I4, (H.sub [(0, false)] rfl).eq rfl⟩, hF⟩
     ·replace hF := ite_f hc2 hF
      refine wp_skip ?_
      refine p_then ?_
      replace H : Hf I D w I1 w5 [TrG NECell 140 (TT.node k_2 x_2 d_2 l_2 r0_3) (pp b2 0), SlC NECell v5 x_2, BxC b1 140 [vS k, v1, vI d, pp b2 0, v3], SlC NECell v1 x, TrG NECell 140 r0 v3] := H.mkTG [(0, false), (0, true), (1, false), (1, false)] rfl
      rw [← ho2] at H
      replace H : Hf I D w I1 w5 [TrG NECell 140 (TT.node k x d l r0) (pp b1 0), SlC NECell v5 x_2, SlC NECell v1 x] := H.mkTG [(2, false), (2, true), (0, false), (2, false)] rfl
      rw [← ho1] at H
      exact ⟨t, pp b1 0, Z.sub (ts := [0, 2]) rfl, ⟨I1, (H.sub [(0, false)] rfl).eq rfl⟩, hF⟩
  ·replace hF := ite_f hc1 hF
   refine sR Z fun Z => ?_
   refine s_runk tMTree Z 3 rfl rfl fun a Z => ?_
   refine s_end Z [0, 2, 47] rfl fun Z => ?_
   refine p_then ?_
   refine f_cond Z rfl (fun hc3 => ?_) (fun hc3 => ?_)
   ·replace hF := ite_t hc3 hF
    refine f_cut (fun a' w' => ∃ (n0_3 : TT (List ECell)), ∃ v8 : Value, Sl 78 [(0, v8), (2, nP)] a' ∧ (∃ I2, Hf I D w I2 w' [TrG NECell 140 n0_3 v8]) ∧ F_tree_node_api_Cell_level_k2 n0_3 = some rr) ?_ ?_
    ·rintro a w8 ⟨n0_3, v8, Z, ⟨I5, H⟩, hF⟩
     unfold F_tree_node_api_Cell_level_k2 at hF
     try dsimp only at hF
     refine wp_seq ?_
     obtain ⟨l_4, hx8, hF⟩ := bnd_in hF
     refine f_region Z fun Z => ?_
     refine s_runk tMTree Z 1 rfl rfl fun a Z => ?_
     refine hC Z H [(0, false)] rfl #[] fn_108_YMTree rfl rfl (fun D h => have q := c_tree_node_api_Cell_left hx8 h; q) fun vv a w9 D2 hr hF2 Z => ?_
     obtain ⟨q3, hvv, I6, K⟩ := hr; obtain rfl := hvv.symm
     have H := (hF2 K).nf rfl
     refine s_runk tMTree Z 1 rfl rfl fun a Z => ?_
     refine s_end Z [0, 2] rfl fun Z => ?_
     refine p_then (wp_ret ?_)
     refine p_blk_r ?_
     refine p_then_r ?_
     obtain rfl := some_in hF
     exact f_ret Z (run_results1 rfl Z rfl) ⟨q3, rfl, I6, (H.sub [(0, false)] rfl).eq rfl⟩
    ·skip
     refine wp_seq ?_
     rcases ttE_in hF with ⟨ho3, hF⟩ | ⟨k_3, x_3, d_3, l_5, r0_4, ho3, hF⟩
     ·obtain ⟨hv, H⟩ := H.trNG 3 rfl ho3
      (try have Zq17 := Z); subst hv; (try have Z := Zq17)
      replace H := H.nf rfl; try dsimp only at H
      cases hF
     ·obtain ⟨b3, v9, v10, v11, hv, H⟩ := H.trSG 3 rfl ho3
      (try have Zq18 := Z); subst hv; (try have Z := Zq18)
      replace H := H.nf rfl; try dsimp only at H
      obtain ⟨c_5, hx9, hF⟩ := bnd_in hF
      obtain ⟨c_6, hx10, hF⟩ := bnd_in hF
      refine f_quietd (by kernel_rfl) (by kernel_rfl) Z fun Z => ?_
      refine q_runk tMTree Z 3 rfl rfl fun a Z => ?_
      refine qO Z _ rfl (fun _ hw => oL tMTree rfl rfl ((H.blw hw).bc 4 4 rfl rfl)) fun a Z => ?_
      refine q_runk tMTree Z 2 rfl rfl fun a Z => ?_
      refine qO Z _ rfl (fun _ hw => oL tMTree rfl rfl ((H.blw hw).bc 0 4 rfl rfl)) fun a Z => ?_
      refine q_call Z (caps := #[]) fn_107_YMTree rfl rfl rfl rfl rfl (by decide) rfl rfl (fun _ hw => (c_deep_q hx9 (H.blw hw) 3 rfl)) fun a Z => ?_
      refine q_runk tMTree Z 3 rfl rfl fun a Z => ?_
      refine qO Z _ rfl (fun _ hw => oL tMTree rfl rfl ((H.blw hw).bc 4 4 rfl rfl)) fun a Z => ?_
      refine q_runk tMTree Z 2 rfl rfl fun a Z => ?_
      refine qO Z _ rfl (fun _ hw => oL tMTree rfl rfl ((H.blw hw).bc 0 3 rfl rfl)) fun a Z => ?_
      refine q_call Z (caps := #[]) fn_107_YMTree rfl rfl rfl rfl rfl (by decide) rfl rfl (fun _ hw => (c_deep_q hx10 (H.blw hw) 2 rfl)) fun a Z => ?_
      refine q_runk tMTree Z 1 rfl rfl fun a Z => ?_
      refine q_end Z [0, 2, 66] rfl fun w10 hb Z => ?_
      replace H := H.blw hb
      clear hb
      refine p_then ?_
      refine f_cond Z rfl (fun hc4 => ?_) (fun hc4 => ?_)
      ·replace hF := ite_t hc4 hF
       obtain ⟨r0_5, hx11, hF⟩ := bnd_in hF
       refine f_region Z fun Z => ?_
       refine s_runk tMTree Z 4 rfl rfl fun a Z => ?_
       refine sO Z _ rfl (oL tMTree rfl rfl (H.bc 4 4 rfl rfl)) fun a Z => ?_
       replace H : Hf I D w I1 w10 [TrG NECell 140 (TT.node k_3 x_3 d_3 l_5 r0_4) (pp b3 0), SlC NECell v9 x_3, BxC b1 140 [vS k, v1, vI d, v2, pp b3 0], SlC NECell v1 x, TrG NECell 140 l v2] := H.mkTG [(0, false), (0, true), (1, false), (1, false)] rfl
       rw [← ho3] at H
       refine hC Z H [(0, false)] rfl #[] fn_109_YMTree rfl rfl (fun D h => have q := c_tree_node_api_Cell_right hx11 h; q) fun vv a w11 D2 hr hF2 Z => ?_
       obtain ⟨q4, hvv, I7, K⟩ := hr; obtain rfl := hvv.symm
       have H := (hF2 K).nf rfl
       refine s_runk tMTree Z 2 rfl rfl fun a Z => ?_
       refine hT tMTree Z H 2 rfl rfl (H.trPG 0 rfl).cells rfl rfl (one_cons (H.trPG 0 rfl).one one_nil) (Nat.le_of_ble_eq_true rfl) rfl fun w12 H => ?_
       dsimp only [List.eraseIdx] at H
       refine s_end Z [0, 2] rfl fun Z => ?_
       refine p_then ?_
       replace H : Hf I D w I7 w12 [TrG NECell 140 (TT.node k x d l r0_5) (pp b1 0), SlC NECell v9 x_3, SlC NECell v1 x] := H.mkTG [(0, false), (2, true), (3, false), (0, false)] rfl
       exact ⟨(TT.node k x d l r0_5), pp b1 0, Z.sub (ts := [0, 2]) rfl, ⟨I7, (H.sub [(0, false)] rfl).eq rfl⟩, hF⟩
      ·replace hF := ite_f hc4 hF
       refine wp_skip ?_
       refine p_then ?_
       replace H : Hf I D w I1 w10 [TrG NECell 140 (TT.node k_3 x_3 d_3 l_5 r0_4) (pp b3 0), SlC NECell v9 x_3, BxC b1 140 [vS k, v1, vI d, v2, pp b3 0], SlC NECell v1 x, TrG NECell 140 l v2] := H.mkTG [(0, false), (0, true), (1, false), (1, false)] rfl
       rw [← ho3] at H
       replace H : Hf I D w I1 w10 [TrG NECell 140 (TT.node k x d l r0) (pp b1 0), SlC NECell v9 x_3, SlC NECell v1 x] := H.mkTG [(2, false), (2, true), (3, false), (0, false)] rfl
       rw [← ho1] at H
       exact ⟨t, pp b1 0, Z.sub (ts := [0, 2]) rfl, ⟨I1, (H.sub [(0, false)] rfl).eq rfl⟩, hF⟩
   ·replace hF := ite_f hc3 hF
    refine wp_skip ?_
    refine p_blk ?_
    refine pR Z fun Z => ?_
    refine s_runk tMTree Z 2 rfl rfl fun a Z => ?_
    refine s_end Z [2] rfl fun Z => ?_
    refine p_then (wp_ret ?_)
    replace H : Hf I D w I1 w2 [TrG NECell 140 (TT.node k x d l r0) (pp b1 0), SlC NECell v1 x] := H.mkTG [(0, false), (0, true), (1, false), (1, false)] rfl
    rw [← ho1] at H
    obtain rfl := some_in hF
    exact f_ret Z (run_results1 rfl Z rfl) ⟨pp b1 0, rfl, I1, (H.sub [(0, false)] rfl).eq rfl⟩

def F_tree_put_api_Cell_k1 (n0_2 : TT (List ECell)) (had : Bool) : Option ((TT (List ECell)) × Bool) := (F_tree_node_api_Cell_level n0_2).bind fun l => (some (l, had))

def F_tree_put_api_Cell_b (self : (TT (List ECell)) → ByteArray → (List ECell) → Option ((TT (List ECell)) × Bool)) (n0 : TT (List ECell)) (k : ByteArray) (v : List ECell) : Option ((TT (List ECell)) × Bool) := if (n0.isNil) = true then (some ((TT.node k v 1 TT.nil TT.nil), false)) else (ttE n0 (none) (fun k_2 x d l_2 r0 => if (sltB k k_2) = true then ((self l_2 k v).bind fun c => (F_tree_put_api_Cell_k1 (TT.node k_2 x d c.1 r0) c.2)) else (if (!(sltB k k_2 || seqB k k_2)) = true then ((self r0 k v).bind fun c_2 => (F_tree_put_api_Cell_k1 (TT.node k_2 x d l_2 c_2.1) c_2.2)) else (some ((TT.node k_2 v d l_2 r0), true)))))

def F_tree_put_api_CellR : Nat → (TT (List ECell)) → ByteArray → (List ECell) → Option ((TT (List ECell)) × Bool)
 | 0 => fun _ _ _ => none
 | fu + 1 => F_tree_put_api_Cell_b (F_tree_put_api_CellR fu)

def F_tree_put_api_Cell (n0 : TT (List ECell)) (k : ByteArray) (v : List ECell) : Option ((TT (List ECell)) × Bool) := F_tree_put_api_CellR FU n0 k v

set_option maxHeartbeats 1000000 in
theorem c_tree_put_api_Cell_b {self : (TT (List ECell)) → ByteArray → (List ECell) → Option ((TT (List ECell)) × Bool)} (ih : ∀ {I D : Dm} {v_n0 : Value} {n0 : TT (List ECell)} {k : ByteArray} {v : List ECell} {v1_v : Value} {w : World} {rr : (TT (List ECell)) × Bool}, self n0 k v = some rr → St I D w [TrG NECell 140 n0 v_n0, SlC NECell v1_v v] → Calls Tryz.prog 97 #[v_n0, vS k, v1_v] w (Ret fun vv w' => ∃ q1 : Value, vv = .tuple #[q1, vT rr.2] ∧ ∃ I', Hf I D w I' w' [TrG NECell 140 rr.1 q1])) {I D : Dm} {v_n0 : Value} {n0 : TT (List ECell)} {k : ByteArray} {v : List ECell} {v1_v : Value} {w : World} {rr : (TT (List ECell)) × Bool} (hF : F_tree_put_api_Cell_b self n0 k v = some rr) (H : St I D w [TrG NECell 140 n0 v_n0, SlC NECell v1_v v]) :
  Calls Tryz.prog 97 #[v_n0, vS k, v1_v] w (Ret fun vv w' => ∃ q1 : Value, vv = .tuple #[q1, vT rr.2] ∧ ∃ I', Hf I D w I' w' [TrG NECell 140 rr.1 q1]) := by
 replace H := H.hf
 unfold F_tree_put_api_Cell_b at hF
 refine f_enter 63 Tryz.func97 rfl rfl (Nat.le_of_ble_eq_true rfl) fun a Z => ?_
 replace Z := Z.sub (ts := [0, 1, 2]) rfl
 refine sR Z fun Z => ?_
 refine s_runk tMTree Z 2 rfl rfl fun a Z => ?_
 refine s_end Z [0, 1, 2, 6, 7] rfl fun Z => ?_
 refine p_then (wp_seq ?_)
 refine sR Z fun Z => ?_
 refine s_runk tMTree Z 1 rfl rfl fun a Z => ?_
 refine sO Z (vT n0.isNil) rfl (Ob_tnilG (q := n0) rfl rfl rfl Tryz.underlying130 (H.trIG 0 rfl) (.inl ⟨rfl, rfl⟩)) fun a Z => ?_
 refine s_end Z [0, 1, 2, 6, 7, 10] rfl fun Z => ?_
 refine p_then ?_
 refine f_cond Z rfl (fun hc1 => ?_) (fun hc1 => ?_)
 ·replace hF := ite_t hc1 hF
  refine sR Z fun Z => ?_
  refine s_runk tMTree Z 2 rfl rfl fun a Z => ?_
  refine sO Z (.agg #[vS k, v1_v, vI 1, nP, nP]) rfl (Ob_build (vs := [(0, vS k), (1, v1_v), (2, vI 1)]) rfl rfl (by obtain ⟨_, _, e, _⟩ := (H.slshape 1 rfl); rw [e]; clear e; go_simp <;> rfl)) fun a Z => ?_
  refine hB Z H [vS k, v1_v, vI 1, nP, nP] rfl rfl rfl rfl fun a w1 b1 H Z => ?_
  refine s_runk tMTree Z 2 rfl rfl fun a Z => ?_
  refine s_end Z [0, 1, 2, 6, 7] rfl fun Z => ?_
  refine p_then (wp_ret ?_)
  refine p_then_r ?_
  replace H := H.mkTNG NECell 140
  replace H := H.mkTNG NECell 140
  replace H : Hf I D w I w1 [TrG NECell 140 (TT.node k v 1 TT.nil TT.nil) (pp b1 0), TrG NECell 140 n0 v_n0, SlC NECell v1_v v] := H.mkTG [(2, false), (3, true), (1, false), (0, false)] rfl
  obtain rfl := some_in hF
  exact f_ret Z (run_results2 rfl Z rfl rfl) ⟨pp b1 0, rfl, I, (H.sub [(0, false)] rfl).eq rfl⟩
 ·replace hF := ite_f hc1 hF
  refine wp_skip ?_
  refine pR Z fun Z => ?_
  refine s_runk tMTree Z 1 rfl rfl fun a Z => ?_
  refine s_end Z [0, 1, 2, 6, 7, 8] rfl fun Z => ?_
  refine p_then ?_
  refine f_cut (fun a' w' => ∃ (n0_2 : TT (List ECell)) (had : Bool), ∃ v2 : Value, Sl 63 [(0, v2), (6, nP), (7, vT false), (8, vT had)] a' ∧ (∃ I2, Hf I D w I2 w' [TrG NECell 140 n0_2 v2]) ∧ F_tree_put_api_Cell_k1 n0_2 had = some rr) ?_ ?_
  ·rintro a w2 ⟨n0_2, had, v2, Z, ⟨I1, H⟩, hF⟩
   unfold F_tree_put_api_Cell_k1 at hF
   try dsimp only at hF
   refine wp_seq ?_
   obtain ⟨l, hx1, hF⟩ := bnd_in hF
   refine f_region Z fun Z => ?_
   refine s_runk tMTree Z 1 rfl rfl fun a Z => ?_
   refine hC Z H [(0, false)] rfl #[] fn_104_YMTree rfl rfl (fun D h => have q := c_tree_node_api_Cell_level hx1 h; q) fun vv a w3 D2 hr hF2 Z => ?_
   obtain ⟨q1, hvv, I2, K⟩ := hr; obtain rfl := hvv.symm
   have H := (hF2 K).nf rfl
   refine s_runk tMTree Z 3 rfl rfl fun a Z => ?_
   refine s_end Z [6, 7] rfl fun Z => ?_
   refine p_then (wp_ret ?_)
   obtain rfl := some_in hF
   exact f_ret Z (run_results2 rfl Z rfl rfl) ⟨q1, rfl, I2, (H.sub [(0, false)] rfl).eq rfl⟩
  ·skip
   refine wp_block ?_
   refine wp_seq ?_
   rcases ttE_in hF with ⟨ho1, hF⟩ | ⟨k_2, x, d, l_2, r0, ho1, hF⟩
   ·obtain ⟨hv, H⟩ := H.trNG 0 rfl ho1
    (try have Zq19 := Z); subst hv; (try have Z := Zq19)
    replace H := H.nf rfl; try dsimp only at H
    cases hF
   ·obtain ⟨b2, v3, v4, v5, hv, H⟩ := H.trSG 0 rfl ho1
    (try have Zq20 := Z); subst hv; (try have Z := Zq20)
    replace H := H.nf rfl; try dsimp only at H
    refine f_region Z fun Z => ?_
    refine s_runk tMTree Z 4 rfl rfl fun a Z => ?_
    refine sO Z _ rfl (oL tMTree rfl rfl (H.bc 0 0 rfl rfl)) fun a Z => ?_
    refine s_runk tMTree Z 2 rfl rfl fun a Z => ?_
    refine s_end Z [0, 1, 2, 6, 7, 8, 20] rfl fun Z => ?_
    refine p_then ?_
    refine f_cond Z rfl (fun hc2 => ?_) (fun hc2 => ?_)
    ·replace hF := ite_t hc2 hF
     obtain ⟨c, hx2, hF⟩ := bnd_in hF
     refine f_region Z fun Z => ?_
     refine s_runk tMTree Z 4 rfl rfl fun a Z => ?_
     refine sO Z _ rfl (oL tMTree rfl rfl (H.bc 0 3 rfl rfl)) fun a Z => ?_
     refine s_runk tMTree Z 2 rfl rfl fun a Z => ?_
     refine hC Z H [(2, false), (3, true)] rfl #[] fn_97_YMTree rfl rfl (fun D h => have q := ih hx2 h; q) fun vv a w4 D2 hr hF2 Z => ?_
     obtain ⟨q2, rfl, I3, K⟩ := hr
     have H := (hF2 K).nf rfl
     refine s_runk tMTree Z 5 rfl rfl fun a Z => ?_
     refine hT tMTree Z H 1 rfl rfl (H.trPG 0 rfl).cells rfl rfl (one_cons (H.trPG 0 rfl).one one_nil) (Nat.le_of_ble_eq_true rfl) rfl fun w5 H => ?_
     dsimp only [List.eraseIdx] at H
     refine s_runk tMTree Z 1 rfl rfl fun a Z => ?_
     refine s_end Z [0, 6, 7, 8] rfl fun Z => ?_
     refine p_blk ?_
     refine p_then ?_
     replace H : Hf I D w I3 w5 [TrG NECell 140 (TT.node k_2 x d c.1 r0) (pp b2 0), SlC NECell v3 x, SlC NECell v1_v v] := H.mkTG [(0, false), (1, true), (0, false), (1, false)] rfl
     exact ⟨(TT.node k_2 x d c.1 r0), c.2, pp b2 0, Z.sub (ts := [0, 6, 7, 8]) rfl, ⟨I3, (H.sub [(0, false)] rfl).eq rfl⟩, hF⟩
    ·replace hF := ite_f hc2 hF
     refine sR Z fun Z => ?_
     refine s_runk tMTree Z 4 rfl rfl fun a Z => ?_
     refine sO Z _ rfl (oL tMTree rfl rfl (H.bc 0 0 rfl rfl)) fun a Z => ?_
     refine s_runk tMTree Z 2 rfl rfl fun a Z => ?_
     refine s_end Z [0, 1, 2, 6, 7, 8, 40] rfl fun Z => ?_
     refine p_then ?_
     refine f_cond Z rfl (fun hc3 => ?_) (fun hc3 => ?_)
     ·replace hF := ite_t hc3 hF
      obtain ⟨c_2, hx3, hF⟩ := bnd_in hF
      refine f_region Z fun Z => ?_
      refine s_runk tMTree Z 4 rfl rfl fun a Z => ?_
      refine sO Z _ rfl (oL tMTree rfl rfl (H.bc 0 4 rfl rfl)) fun a Z => ?_
      refine s_runk tMTree Z 2 rfl rfl fun a Z => ?_
      refine hC Z H [(3, false), (3, true)] rfl #[] fn_97_YMTree rfl rfl (fun D h => have q := ih hx3 h; q) fun vv a w6 D2 hr hF2 Z => ?_
      obtain ⟨q3, rfl, I4, K⟩ := hr
      have H := (hF2 K).nf rfl
      refine s_runk tMTree Z 5 rfl rfl fun a Z => ?_
      refine hT tMTree Z H 1 rfl rfl (H.trPG 0 rfl).cells rfl rfl (one_cons (H.trPG 0 rfl).one one_nil) (Nat.le_of_ble_eq_true rfl) rfl fun w7 H => ?_
      dsimp only [List.eraseIdx] at H
      refine s_runk tMTree Z 1 rfl rfl fun a Z => ?_
      refine s_end Z [0, 6, 7, 8] rfl fun Z => ?_
      refine p_blk ?_
      refine p_then ?_
      replace H : Hf I D w I4 w7 [TrG NECell 140 (TT.node k_2 x d l_2 c_2.1) (pp b2 0), SlC NECell v3 x, SlC NECell v1_v v] := H.mkTG [(0, false), (1, true), (2, false), (0, false)] rfl
      exact ⟨(TT.node k_2 x d l_2 c_2.1), c_2.2, pp b2 0, Z.sub (ts := [0, 6, 7, 8]) rfl, ⟨I4, (H.sub [(0, false)] rfl).eq rfl⟩, hF⟩
     ·replace hF := ite_f hc3 hF
      refine sR Z fun Z => ?_
      refine s_runk tMTree Z 4 rfl rfl fun a Z => ?_
      refine hT tMTree Z H 0 rfl rfl (slS.cells (H.slshape 4 rfl)) rfl rfl (one_cons (slS.one (H.slshape 4 rfl)) one_nil) (Nat.le_of_ble_eq_true rfl) rfl fun w8 H => ?_
      dsimp only [List.eraseIdx] at H
      refine s_end Z [0, 6, 7, 8] rfl fun Z => ?_
      refine pR Z fun Z => ?_
      refine s_runk tMTree Z 3 rfl rfl fun a Z => ?_
      refine s_end Z [0, 6, 7, 8] rfl fun Z => ?_
      refine p_then (wp_ret ?_)
      refine p_blk_r ?_
      refine p_then_r ?_
      replace H : Hf I D w I w8 [TrG NECell 140 (TT.node k_2 v d l_2 r0) (pp b2 0), SlC NECell v3 x, SlC NECell v1_v v] := H.mkTG [(0, false), (3, true), (1, false), (1, false)] rfl
      obtain rfl := some_in hF
      exact f_ret Z (run_results2 rfl Z rfl rfl) ⟨pp b2 0, rfl, I, (H.sub [(0, false)] rfl).eq rfl⟩

theorem c_tree_put_api_CellR : ∀ (fu : Nat) {I D : Dm} {v_n0 : Value} {n0 : TT (List ECell)} {k : ByteArray} {v : List ECell} {v1_v : Value} {w : World} {rr : (TT (List ECell)) × Bool}, F_tree_put_api_CellR fu n0 k v = some rr → St I D w [TrG NECell 140 n0 v_n0, SlC NECell v1_v v] → Calls Tryz.prog 97 #[v_n0, vS k, v1_v] w (Ret fun vv w' => ∃ q1 : Value, vv = .tuple #[q1, vT rr.2] ∧ ∃ I', Hf I D w I' w' [TrG NECell 140 rr.1 q1])
 | 0 => fun hF _ => by cases hF
 | fu + 1 => fun hF H => c_tree_put_api_Cell_b (c_tree_put_api_CellR fu) hF H

theorem c_tree_put_api_Cell {I D : Dm} {v_n0 : Value} {n0 : TT (List ECell)} {k : ByteArray} {v : List ECell} {v1_v : Value} {w : World} {rr : (TT (List ECell)) × Bool} (hF : F_tree_put_api_Cell n0 k v = some rr) (H : St I D w [TrG NECell 140 n0 v_n0, SlC NECell v1_v v]) : Calls Tryz.prog 97 #[v_n0, vS k, v1_v] w (Ret fun vv w' => ∃ q1 : Value, vv = .tuple #[q1, vT rr.2] ∧ ∃ I', Hf I D w I' w' [TrG NECell 140 rr.1 q1]) := c_tree_put_api_CellR FU hF H

end Go.Proofs.YtglfajjcgbfehaaGreat
