/- Trees: TreePlays, TreeFlat. -/
import Derived.Test.YtfcdghlgcnjkoaaYTreeP3
namespace Go.Proofs.Ytfcdghlgcnjkoaa
structure bdElaw15_Act (x : Elaw15_Act) : Prop where
 c : inI x.c
 k : bdStr x.k
 to_ : bdStr x.to_
 v : inI x.v

structure trOk (t : Etree_Tree_int) : Prop where
 made : t.made = true
 avl : avl t.top
 srt : Srt (rowsT t.top)
 n : t.n = ((rowsT t.top).length : Int)

theorem trOk.none {t : Etree_Tree_int} (h : trOk t) : F_tree_Tree_int_none t = some false := by unfold F_tree_Tree_int_none; rw [h.made]; rfl

def newT : Etree_Tree_int := { (default : Etree_Tree_int) with made := true }

theorem new_eq : F_tree_New_int = some newT := rfl

theorem new_ok : trOk newT := ⟨rfl, trivial, List.Pairwise.nil, rfl⟩

section
variable {t : Etree_Tree_int} (h : trOk t) (hz : (rowsT t.top).length < big)
include h hz
theorem tree_Put (k : ByteArray) (v : Int) : ∃ t', F_tree_Tree_int_Put t k v = some (hasR k (rowsT t.top), t') ∧ trOk t' ∧ rowsT t'.top = insR k v (rowsT t.top) := by
 have hz2 := hz; rw [rows_len] at hz2
 obtain ⟨u, e1, e2, e3, e4, e5⟩ := put_ok k v t.top FU (by unfold FU; unfold big at hz2; omega) hz2 h.avl h.srt
 have hn := h.n
 have hl := ins_len (k := k) (v := v) (rowsT t.top)
 unfold F_tree_Tree_int_Put
 rw [h.none, Option.bind_some, if_neg (by decide), F_tree_put_int, e1, Option.bind_some]
 simp only []
 by_cases c : hasR k (rowsT t.top) = true
 ·rw [if_neg (by rw [c]; decide)]
  rw [if_pos c] at hl
  exact ⟨_, rfl, ⟨h.made, e2, by rw [e3]; exact ins_srt h.srt, by show t.n = ((rowsT u).length : Int); rw [e3, hl]; exact hn⟩, e3⟩
 ·have c' : hasR k (rowsT t.top) = false := by simpa using c
  rw [if_pos (by rw [c']; rfl), chk_t (by unfold inI; unfold big at hz; omega)]
  rw [if_neg c] at hl
  exact ⟨_, rfl, ⟨h.made, e2, by rw [e3]; exact ins_srt h.srt, by show t.n + 1 = ((rowsT u).length : Int); rw [e3, hl]; omega⟩, e3⟩

theorem tree_Del (k : ByteArray) : ∃ t', F_tree_Tree_int_Del t k = some (hasR k (rowsT t.top), t') ∧ trOk t' ∧ rowsT t'.top = delR k (rowsT t.top) := by
 have hz2 := hz; rw [rows_len] at hz2
 obtain ⟨u, e1, e2, e3, e4, e5⟩ := del_ok k t.top FU (by unfold FU; unfold big at hz2; omega) hz2 h.avl h.srt
 have hn := h.n
 have hl := del_len (k := k) (rowsT t.top)
 unfold F_tree_Tree_int_Del
 rw [h.none, Option.bind_some, if_neg (by decide), F_tree_del_int, e1, Option.bind_some]
 simp only []
 by_cases c : hasR k (rowsT t.top) = true
 ·have := has_len c
  rw [if_pos c, chk_t (by unfold inI; unfold big at hz; omega)]
  rw [if_pos c] at hl
  exact ⟨_, rfl, ⟨h.made, e2, by rw [e3]; exact del_srt h.srt, by show t.n - 1 = ((rowsT u).length : Int); rw [e3, hl]; omega⟩, e3⟩
 ·rw [if_neg c]
  rw [if_neg c] at hl
  exact ⟨_, rfl, ⟨h.made, e2, by rw [e3]; exact del_srt h.srt, by show t.n = ((rowsT u).length : Int); rw [e3, hl]; omega⟩, e3⟩

omit hz in
theorem tree_Len : F_tree_Tree_int_Len t = some ((rowsT t.top).length : Int) := by
 unfold F_tree_Tree_int_Len
 rw [h.none, Option.bind_some, if_neg (by decide), h.n]

omit hz in
theorem tree_Depth : F_tree_Tree_int_Depth t = some (deepT t.top) := by
 unfold F_tree_Tree_int_Depth
 rw [h.none, Option.bind_some, if_neg (by decide)]; rfl

end
-- TreePlays
end Go.Proofs.Ytfcdghlgcnjkoaa
