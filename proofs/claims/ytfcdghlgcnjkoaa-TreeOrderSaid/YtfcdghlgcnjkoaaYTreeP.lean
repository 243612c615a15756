/- Trees: they stay level. -/
import Derived.Test.YtfcdghlgcnjkoaaYTreeW
import Derived.Test.YtfcdghlgcnjkoaaYK
import Derived.Test.YtfcdghlgcnjkoaaYO
namespace Go.Proofs.Ytfcdghlgcnjkoaa

theorem awake15 : F_law15_awake = some true := by kernel_rfl

abbrev Rw := Eref15_Row

def rowsT : TT Int → List Rw
 | .nil => []
 | .node k x _ l r => rowsT l ++ ⟨k, x⟩ :: rowsT r

theorem dN : deepT (TT.nil : TT Int) = 0 := rfl

theorem dC (k : ByteArray) (x d : Int) (l r : TT Int) : deepT (TT.node k x d l r) = d := rfl

/-- level: a node's depth is told, its sides differ by one at most -/
def avl : TT Int → Prop
 | .nil => True
 | .node _ _ d l r => avl l ∧ avl r ∧ d = 1 + max (deepT l) (deepT r) ∧ deepT l ≤ deepT r + 1 ∧ deepT r ≤ deepT l + 1

theorem deep_ok : ∀ {t : TT Int}, avl t → 0 ≤ deepT t ∧ deepT t ≤ sizeT t ∧ (deepT t = 0 → t = .nil)
 | .nil, _ => ⟨Int.le_refl _, Int.le_refl _, fun _ => rfl⟩
 | .node k x d l r, ⟨hl, hr, hd, h1, h2⟩ => by
  have a := deep_ok hl; have b := deep_ok hr
  simp only [dN, dC, sizeT]
  refine ⟨by omega, by omega, fun h => by omega⟩

theorem rows_len : ∀ t : TT Int, (rowsT t).length = sizeT t
 | .nil => rfl
 | .node k x d l r => by simp only [rowsT, sizeT, List.length_append, List.length_cons, rows_len l, rows_len r]; omega

def big : Nat := 1000000

theorem tell_eq {k : ByteArray} {x d : Int} {l r : TT Int} (hl : avl l) (hr : avl r) (hs : sizeT l + sizeT r ≤ big) : F_tree_node_int_tell (.node k x d l r) = some (.node k x (1 + max (deepT l) (deepT r)) l r) := by
 have a := deep_ok hl; have b := deep_ok hr
 unfold F_tree_node_int_tell big at *
 simp only [ttE, F_deep, Option.bind_some]
 rw [chk_t (by unfold inI; omega)]

/-- the depth of a node that is brought to balance -/
theorem level_ok {k : ByteArray} {x d : Int} {l r : TT Int} (hl : avl l) (hr : avl r) (hs : sizeT l + sizeT r ≤ big) (h1 : deepT l ≤ deepT r + 2) (h2 : deepT r ≤ deepT l + 2) :
  ∃ t, F_tree_node_int_level (.node k x d l r) = some t ∧ avl t ∧ rowsT t = rowsT l ++ ⟨k, x⟩ :: rowsT r ∧ max (deepT l) (deepT r) ≤ deepT t ∧ deepT t ≤ 1 + max (deepT l) (deepT r) ∧ (deepT l ≤ deepT r + 1 → deepT r ≤ deepT l + 1 → deepT t = 1 + max (deepT l) (deepT r)) := by
 have a := deep_ok hl; have b := deep_ok hr
 unfold F_tree_node_int_level
 rw [tell_eq hl hr hs, Option.bind_some]
 simp only [ttE, F_deep, Option.bind_some]
 rw [chk_t (by unfold inI big at *; omega)]
 by_cases c1 : deepT l - deepT r > 1
 ·rw [if_pos (decide_eq_true c1)]
  cases l with
  | nil => simp only [dN, dC] at c1 a b; omega
  | node k2 x2 d2 l2 r2 =>
   obtain ⟨hl2, hr2, hd2, h3, h4⟩ := hl
   have a2 := deep_ok hl2; have b2 := deep_ok hr2
   simp only [ttE, F_deep, Option.bind_some, sizeT, dN, dC] at *
   by_cases c2 : deepT l2 < deepT r2
   ·rw [if_pos (decide_eq_true c2)]
    cases r2 with
    | nil => simp only [dN, dC] at c2 b2; omega
    | node k3 x3 d3 l3 r3 =>
     obtain ⟨hl3, hr3, hd3, h5, h6⟩ := hr2
     have a3 := deep_ok hl3; have b3 := deep_ok hr3
     simp only [sizeT, dN, dC] at *
     unfold F_tree_node_int_left
     simp only [ttE]
     rw [tell_eq hl2 hl3 (by omega), Option.bind_some, tell_eq (l := .node _ _ _ _ _) ⟨hl2, hl3, rfl, by omega, by omega⟩ hr3 (by simp only [sizeT]; omega), Option.bind_some, Option.bind_some]
     unfold F_tree_node_int_level_k1 F_tree_node_int_right
     simp only [ttE]
     rw [tell_eq hr3 hr (by omega), Option.bind_some, tell_eq (l := .node _ _ _ _ _) (r := .node _ _ _ _ _) ⟨hl2, hl3, rfl, by omega, by omega⟩ ⟨hr3, hr, rfl, by omega, by omega⟩ (by simp only [sizeT]; omega)]
     refine ⟨_, rfl, ⟨⟨hl2, hl3, rfl, by omega, by omega⟩, ⟨hr3, hr, rfl, by omega, by omega⟩, rfl, by simp only [dN, dC]; omega, by simp only [dN, dC]; omega⟩, by simp only [rowsT, List.append_assoc, List.cons_append], by simp only [dN, dC]; omega, by simp only [dN, dC]; omega, fun _ _ => by omega⟩
   ·rw [if_neg (by rw [decide_eq_false c2]; decide)]
    unfold F_tree_node_int_level_k1 F_tree_node_int_right
    simp only [ttE]
    rw [tell_eq hr2 hr (by omega), Option.bind_some, tell_eq (r := .node _ _ _ _ _) hl2 ⟨hr2, hr, rfl, by omega, by omega⟩ (by simp only [sizeT]; omega)]
    refine ⟨_, rfl, ⟨hl2, ⟨hr2, hr, rfl, by omega, by omega⟩, rfl, by simp only [dN, dC]; omega, by simp only [dN, dC]; omega⟩, by simp only [rowsT, List.append_assoc, List.cons_append], by simp only [dN, dC]; omega, by simp only [dN, dC]; omega, fun _ _ => by omega⟩
 rw [if_neg (by rw [decide_eq_false c1]; decide)]
 by_cases c3 : deepT l - deepT r < -1
 ·rw [if_pos (decide_eq_true c3)]
  cases r with
  | nil => simp only [dN, dC] at c3 a b; omega
  | node k2 x2 d2 l2 r2 =>
   obtain ⟨hl2, hr2, hd2, h3, h4⟩ := hr
   have a2 := deep_ok hl2; have b2 := deep_ok hr2
   simp only [ttE, F_deep, Option.bind_some, sizeT, dN, dC] at *
   by_cases c2 : deepT r2 < deepT l2
   ·rw [if_pos (decide_eq_true c2)]
    cases l2 with
    | nil => simp only [dN, dC] at c2 a2; omega
    | node k3 x3 d3 l3 r3 =>
     obtain ⟨hl3, hr3, hd3, h5, h6⟩ := hl2
     have a3 := deep_ok hl3; have b3 := deep_ok hr3
     simp only [sizeT, dN, dC] at *
     unfold F_tree_node_int_right
     simp only [ttE]
     rw [tell_eq hr3 hr2 (by omega), Option.bind_some, tell_eq (r := .node _ _ _ _ _) hl3 ⟨hr3, hr2, rfl, by omega, by omega⟩ (by simp only [sizeT]; omega), Option.bind_some, Option.bind_some]
     unfold F_tree_node_int_level_k2 F_tree_node_int_left
     simp only [ttE]
     rw [tell_eq hl hl3 (by omega), Option.bind_some, tell_eq (l := .node _ _ _ _ _) (r := .node _ _ _ _ _) ⟨hl, hl3, rfl, by omega, by omega⟩ ⟨hr3, hr2, rfl, by omega, by omega⟩ (by simp only [sizeT]; omega)]
     refine ⟨_, rfl, ⟨⟨hl, hl3, rfl, by omega, by omega⟩, ⟨hr3, hr2, rfl, by omega, by omega⟩, rfl, by simp only [dN, dC]; omega, by simp only [dN, dC]; omega⟩, by simp only [rowsT, List.append_assoc, List.cons_append], by simp only [dN, dC]; omega, by simp only [dN, dC]; omega, fun _ _ => by omega⟩
   ·rw [if_neg (by rw [decide_eq_false c2]; decide)]
    unfold F_tree_node_int_level_k2 F_tree_node_int_left
    simp only [ttE]
    rw [tell_eq hl hl2 (by omega), Option.bind_some, tell_eq (l := .node _ _ _ _ _) ⟨hl, hl2, rfl, by omega, by omega⟩ hr2 (by simp only [sizeT]; omega)]
    refine ⟨_, rfl, ⟨⟨hl, hl2, rfl, by omega, by omega⟩, hr2, rfl, by simp only [dN, dC]; omega, by simp only [dN, dC]; omega⟩, by simp only [rowsT, List.append_assoc, List.cons_append], by simp only [dN, dC]; omega, by simp only [dN, dC]; omega, fun _ _ => by omega⟩
 rw [if_neg (by rw [decide_eq_false c3]; decide)]
 exact ⟨_, rfl, ⟨hl, hr, rfl, by omega, by omega⟩, rfl, by simp only [dN, dC]; omega, by simp only [dN, dC]; omega, fun _ _ => by simp only [dN, dC]⟩

end Go.Proofs.Ytfcdghlgcnjkoaa
