/- Trees: what a key has. -/
import Derived.Test.YtglfajjcgbfehaaGreatYMTree1
namespace Go.Proofs.YtglfajjcgbfehaaGreat
open Go.RowKit

/-- a tree, read only -/
def TrR (I : Dm) (w : World) (T : Nat) : TM → Value → Prop
 | .nil, v => v = .pointer none
 | .node k x d l r, v => ∃ b xv lv rv, v = .pointer (some ⟨b, 0, none⟩) ∧ Box w b T [.string k, xv, .int .i64 d, lv, rv] ∧ slRep NECell I w xv x ∧ TrR I w T l lv ∧ TrR I w T r rv

theorem Hf.trR {I0 D : Dm} {w0 : World} {I : Dm} {w : World} {T : Nat} : ∀ (t : TM) {cs : List Ch} (H : Hf I0 D w0 I w cs) (i : Nat) {v : Value} (h : cs[i]? = some (TrG NECell T t v)), TrR I w T t v := by
 intro t
 induction t with
 | nil => intro cs H i v h; exact (H.trNG i h rfl).1
 | node k x d l r ihl ihr =>
  intro cs H i v h
  obtain ⟨b, xv, lv, rv, hv, H2⟩ := H.trSG i h rfl
  exact ⟨b, xv, lv, rv, hv, H2.bx 0 rfl, H2.sl 1 rfl, ihl H2 2 rfl, ihr H2 3 rfl⟩

def getT (k : ByteArray) : TM → List ECell × Bool
 | .nil => ([], false)
 | .node j x _ l r => if (!seqB j k) = true then (if (sltB k j) = true then getT k l else getT k r) else (x, true)

def sizeT : TM → Nat
 | .nil => 0
 | .node _ _ _ l r => sizeT l + sizeT r + 1

def F_tree_Tree_api_Cell_Get (t : Etree_Tree_api_Cell) (k : ByteArray) : Option (List ECell × Bool) := (F_tree_Tree_api_Cell_none t).bind fun n0 => (if (n0) = true then (some ([], false)) else some (getT k t.top))

set_option maxHeartbeats 1000000 in
theorem c_tree_Tree_api_Cell_Get {I D : Dm} {b_t : Nat} {t : Etree_Tree_api_Cell} {k : ByteArray} {w : World} {rr : List ECell × Bool} (hF : F_tree_Tree_api_Cell_Get t k = some rr) (H : St I D w [OEtree_Tree_api_Cell b_t t]) :
  Calls Tryz.prog 47 #[pp b_t 0, vS k] w (Ret fun vv w' => ∃ q1 : Value, vv = .tuple #[q1, vT rr.2] ∧ ∃ I', Hf I D w I' w' [OEtree_Tree_api_Cell b_t t, SlC NECell q1 rr.1]) := by
 replace H := H.hf
 unfold F_tree_Tree_api_Cell_Get at hF
 refine f_enter 46 Tryz.func47 rfl rfl (Nat.le_of_ble_eq_true rfl) fun a Z => ?_
 replace Z := Z.sub (ts := [0, 1]) rfl
 refine sR Z fun Z => ?_
 refine s_runk tMTree1 Z 2 rfl rfl fun a Z => ?_
 refine s_end Z [0, 1, 4, 5] rfl fun Z => ?_
 refine pR Z fun Z => ?_
 refine s_runk tMTree1 Z 1 rfl rfl fun a Z => ?_
 refine s_end Z [0, 1, 4, 5, 6] rfl fun Z => ?_
 refine p_then (wp_seq ?_)
 refine wp_seq ?_
 obtain ⟨n0, hx1, hF⟩ := bnd_in hF
 refine f_region Z fun Z => ?_
 refine s_runk tMTree1 Z 1 rfl rfl fun a Z => ?_
 refine hC Z H [(0, false)] rfl #[] fn_84_YMTree1 rfl rfl (fun D h => have q := c_tree_Tree_api_Cell_none hx1 h; q) fun vv a w1 D2 hr hF2 Z => ?_
 obtain ⟨rfl, I1, K⟩ := hr
 have H := (hF2 K).nf rfl
 refine s_end Z [0, 1, 4, 5, 6, 9] rfl fun Z => ?_
 refine p_then ?_
 refine f_cond Z rfl (fun hc1 => ?_) (fun hc1 => ?_)
 ·replace hF := ite_t hc1 hF
  refine sR Z fun Z => ?_
  refine s_runk tMTree1 Z 3 rfl rfl fun a Z => ?_
  refine s_end Z [4, 5] rfl fun Z => ?_
  refine p_then (wp_ret ?_)
  refine p_then_r ?_
  obtain rfl := some_in hF
  exact f_ret Z (run_results2 rfl Z rfl rfl) ⟨_, rfl, I1, ((H.slNil NECell).sub [(1, false), (0, true)] rfl).eq rfl⟩
 ·replace hF := ite_f hc1 hF
  obtain rfl := some_in hF
  refine wp_skip ?_
  refine p_then (wp_seq ?_)
  obtain ⟨v1, H⟩ := H.openX 0 rfl
  replace H := H.nf rfl; try dsimp only at H
  have hT := H.trR t.top 1 rfl
  refine f_region Z fun Z => ?_
  refine s_runk tMTree1 Z 3 rfl rfl fun a Z => ?_
  refine sO Z _ rfl (oL tMTree1 rfl rfl (H.bc 0 0 rfl rfl)) fun a Z => ?_
  refine s_runk tMTree1 Z 1 rfl rfl fun a Z => ?_
  refine s_end Z [0, 1, 4, 5, 6, 7] rfl fun Z => ?_
  replace H := H.sX (OEtree_Tree_api_Cell b_t t) (v1) [(0, false), (0, false)] rfl rfl rfl
  refine p_then (wp_seq ?_)
  refine wp_block ?_
  refine f_loop (fun (sg : TM) a' w' => w' = w1 ∧ getT k sg = getT k t.top ∧ ∃ v, TrR I1 w1 140 sg v ∧ Sl 46 [(0, pp b_t 0), (1, vS k), (4, nS), (5, vT false), (6, nS), (7, v)] a') sizeT t.top ⟨rfl, rfl, v1, hT, Z.sub (ts := [0, 1, 4, 5, 6, 7]) rfl⟩ ?_
  rintro sg a w' ⟨rfl, hg, v, hT, Z⟩
  rw [← hg]
  cases sg with
  | nil =>
   obtain rfl : v = nP := hT
   refine wp_seq ?_
   refine sR Z fun Z => ?_
   refine s_runk tMTree Z 1 rfl rfl fun a Z => ?_
   refine sO Z (vT false) rfl (Ob_tnilG (q := (TT.nil : TM)) rfl rfl rfl Tryz.underlying130 ⟨none, rfl, rfl⟩ (.inr ⟨rfl, rfl⟩)) fun a Z => ?_
   refine s_runk tMTree Z 1 rfl rfl fun a Z => ?_
   refine g_ob Z (p := false) (v := vT false) (S' := []) rfl rfl rfl rfl rfl (by decide) (fun hp _ => absurd hp (by decide)) (fun hp => absurd hp (by decide)) fun a Z => ?_
   refine g_ob Z (p := false) (v := vT false) (S' := []) rfl rfl rfl rfl rfl (by decide) (fun hp _ => absurd hp (by decide)) (fun hp => absurd hp (by decide)) fun a Z => ?_
   refine g_ob Z (p := false) (v := vT false) (S' := []) rfl rfl rfl rfl rfl (by decide) (fun hp _ => absurd hp (by decide)) (fun hp => absurd hp (by decide)) fun a Z => ?_
   refine g_ob Z (p := false) (v := vT false) (S' := []) rfl rfl rfl rfl rfl (by decide) (fun hp _ => absurd hp (by decide)) (fun hp => absurd hp (by decide)) fun a Z => ?_
   refine g_ob Z (p := false) (v := vT false) (S' := []) rfl rfl rfl rfl rfl (by decide) (fun hp _ => absurd hp (by decide)) (fun hp => absurd hp (by decide)) fun a Z => ?_
   refine g_ob Z (p := false) (v := vT false) (S' := []) rfl rfl rfl rfl rfl (by decide) (fun hp _ => absurd hp (by decide)) (fun hp => absurd hp (by decide)) fun a Z => ?_
   refine sO Z (vT false) rfl (Ob_pick rfl rfl rfl rfl (pick_and false false)) fun a Z => ?_
   refine s_end Z [0, 1, 4, 5, 6, 7, 24] rfl fun Z => ?_
   refine p_then ?_
   refine f_cond Z rfl (fun hc1 => absurd hc1 (by decide)) (fun hc1 => ?_)
   refine wp_exit ?_
   refine p_then_x ?_
   refine p_then_x ?_
   refine f_exit_here ?_
   refine p_then (wp_seq ?_)
   refine sR Z fun Z => ?_
   refine s_runk tMTree Z 1 rfl rfl fun a Z => ?_
   refine sO Z (vT true) rfl (Ob_tnilG (q := (TT.nil : TM)) rfl rfl rfl Tryz.underlying130 ⟨none, rfl, rfl⟩ (.inl ⟨rfl, rfl⟩)) fun a Z => ?_
   refine s_end Z [0, 1, 4, 5, 6, 7, 40] rfl fun Z => ?_
   refine p_then ?_
   refine f_cond Z rfl (fun hc1 => ?_) (fun hc1 => absurd hc1 (by decide))
   refine sR Z fun Z => ?_
   refine s_runk tMTree1 Z 3 rfl rfl fun a Z => ?_
   refine s_end Z [4, 5] rfl fun Z => ?_
   refine p_then (wp_ret ?_)
   refine p_then_r ?_
   exact f_ret Z (run_results2 rfl Z rfl rfl) ⟨_, rfl, I1, ((H.slNil NECell).sub [(1, false), (0, true)] rfl).eq rfl⟩
  | node j x d l r =>
   obtain ⟨b, xv, lv, rv, rfl, hB, hX, hL, hR⟩ := hT
   refine wp_seq ?_
   refine sR Z fun Z => ?_
   refine s_runk tMTree Z 1 rfl rfl fun a Z => ?_
   refine sO Z (vT true) rfl (Ob_tnilG (q := TT.node j x d l r) rfl rfl rfl Tryz.underlying130 ⟨_, rfl, rfl⟩ (.inr ⟨rfl, rfl⟩)) fun a Z => ?_
   refine s_runk tMTree Z 1 rfl rfl fun a Z => ?_
   refine gO Z (pp b 0) rfl rfl (.n 7 rfl .z) (fun hp => Ob_c tMTree rfl) fun a Z => ?_
   refine gO Z (pp b 0) rfl rfl (.c 18 rfl id .z) (fun hp => Ob_c tMTree rfl) fun a Z => ?_
   refine gO Z (pp b 0) rfl rfl (.c 19 rfl id .z) (fun hp => Ob_c tMTree rfl) fun a Z => ?_
   refine gO Z _ rfl rfl (.c 20 rfl id .z) (fun hp => oL tMTree rfl rfl (hB.cell 0 rfl)) fun a Z => ?_
   refine gO Z (vS k) rfl rfl (.n 1 rfl .z) (fun hp => Ob_c tMTree rfl) fun a Z => ?_
   refine gO Z (vT (!seqB j k)) rfl rfl (.c 21 rfl id (.c 22 rfl id .z)) (fun hp => Ob_c tMTree rfl) fun a Z => ?_
   refine sO Z (vT (!seqB j k)) rfl (Ob_pick rfl rfl rfl rfl (pick_and true (!seqB j k))) fun a Z => ?_
   refine s_end Z [0, 1, 4, 5, 6, 7, 24] rfl fun Z => ?_
   refine p_then ?_
   refine f_cond Z rfl (fun hc1 => ?_) (fun hc1 => ?_)
   ·refine wp_skip ?_
    refine p_then (wp_block ?_)
    refine sR Z fun Z => ?_
    refine s_runk tMTree Z 4 rfl rfl fun a Z => ?_
    refine sO Z _ rfl (oL tMTree rfl rfl (hB.cell 0 rfl)) fun a Z => ?_
    refine sO Z (vT (sltB k j)) rfl (Ob_c tMTree rfl) fun a Z => ?_
    refine s_end Z [0, 1, 4, 5, 6, 7, 30] rfl fun Z => ?_
    refine p_then ?_
    refine f_cond Z rfl (fun hc2 => ?_) (fun hc2 => ?_)
    ·refine f_region Z fun Z => ?_
     refine s_runk tMTree Z 3 rfl rfl fun a Z => ?_
     refine sO Z _ rfl (oL tMTree rfl rfl (hB.cell 3 rfl)) fun a Z => ?_
     refine s_runk tMTree Z 1 rfl rfl fun a Z => ?_
     refine s_end Z [0, 1, 4, 5, 6, 7] rfl fun Z => ?_
     refine p_blk ?_
     refine p_then ?_
     exact ⟨l, ⟨rfl, by rw [getT.eq_2, if_pos hc1, if_pos hc2], lv, hL, Z.sub (ts := [0, 1, 4, 5, 6, 7]) rfl⟩, by simp only [sizeT]; omega⟩
    ·refine f_region Z fun Z => ?_
     refine s_runk tMTree Z 3 rfl rfl fun a Z => ?_
     refine sO Z _ rfl (oL tMTree rfl rfl (hB.cell 4 rfl)) fun a Z => ?_
     refine s_runk tMTree Z 1 rfl rfl fun a Z => ?_
     refine s_end Z [0, 1, 4, 5, 6, 7] rfl fun Z => ?_
     refine p_blk ?_
     refine p_then ?_
     exact ⟨r, ⟨rfl, by rw [getT.eq_2, if_pos hc1, if_neg (by simp [hc2])], rv, hR, Z.sub (ts := [0, 1, 4, 5, 6, 7]) rfl⟩, by simp only [sizeT]; omega⟩
   ·refine wp_exit ?_
    refine p_then_x ?_
    refine p_then_x ?_
    refine f_exit_here ?_
    refine p_then (wp_seq ?_)
    refine sR Z fun Z => ?_
    refine s_runk tMTree Z 1 rfl rfl fun a Z => ?_
    refine sO Z (vT false) rfl (Ob_tnilG (q := TT.node j x d l r) rfl rfl rfl Tryz.underlying130 ⟨_, rfl, rfl⟩ (.inl ⟨rfl, rfl⟩)) fun a Z => ?_
    refine s_end Z [0, 1, 4, 5, 6, 7, 40] rfl fun Z => ?_
    refine p_then ?_
    refine f_cond Z rfl (fun hc2 => absurd hc2 (by decide)) (fun hc2 => ?_)
    refine wp_skip ?_
    refine pR Z fun Z => ?_
    refine s_runk tMTree Z 3 rfl rfl fun a Z => ?_
    refine sO Z _ rfl (oL tMTree rfl rfl (hB.cell 1 rfl)) fun a Z => ?_
    refine s_runk tMTree Z 2 rfl rfl fun a Z => ?_
    refine s_end Z [4, 5] rfl fun Z => ?_
    refine p_then (wp_ret ?_)
    have he : getT k (.node j x d l r) = (x, true) := by rw [getT, if_neg (by simp [hc1])]
    rw [he]
    exact f_ret Z (run_results2 rfl Z rfl rfl) ⟨_, rfl, I1, ((H.addsl hX).sub [(1, false), (0, true)] rfl).eq rfl⟩

end Go.Proofs.YtglfajjcgbfehaaGreat
