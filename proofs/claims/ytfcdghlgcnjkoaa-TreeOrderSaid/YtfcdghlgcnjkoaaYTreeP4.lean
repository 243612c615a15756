/- Trees: TreePlays, TreeFlat. -/
import Derived.Test.YtfcdghlgcnjkoaaYTreeP3
namespace Go.Proofs.Ytfcdghlgcnjkoaa
structure trOk (t : Etree_Tree_int) : Prop where
 made : t.made = true
 avl : avl t.top
 srt : Srt (rowsT t.top)
 n : t.n = ((rowsT t.top).length : Int)

theorem trOk.none {t : Etree_Tree_int} (h : trOk t) : F_tree_Tree_int_none t = some false := by unfold F_tree_Tree_int_none; rw [h.made]; rfl

def newT : Etree_Tree_int := { (default : Etree_Tree_int) with made := true }

theorem new_eq : F_tree_New_int = some newT := rfl

theorem new_ok : trOk newT := ⟨rfl, trivial, List.Pairwise.nil, rfl⟩

theorem keys_walk (to_ : ByteArray) : ∀ (L : List Rw) (out : List ByteArray), Srt L → out.length + L.length ≤ big → ∃ b, walkL (F_tree_Tree_int_Keys_y1 to_) L out = some (b, out ++ (L.filter fun r => seqB to_ ⟨#[]⟩ || sltB r.k to_).map (·.k))
 | [], out, _, _ => ⟨true, by simp [walkL]⟩
 | r :: L, out, hs, hb => by
  obtain ⟨h1, h2⟩ := List.pairwise_cons.1 hs
  rw [List.length_cons] at hb
  unfold walkL F_tree_Tree_int_Keys_y1
  by_cases c : (seqB to_ ⟨#[]⟩ || sltB r.k to_) = true
  ·rw [if_neg (by simp only [Bool.or_eq_true] at c; rcases c with c | c <;> simp [c]), chk_t (by simp only [List.length_cons, List.length_nil]; unfold big at hb; omega), Option.bind_some, if_pos rfl]
   obtain ⟨b, e⟩ := keys_walk to_ L (out ++ [r.k]) h2 (by simp only [List.length_append, List.length_cons, List.length_nil]; omega)
   exact ⟨b, by rw [List.filter_cons_of_pos (by exact c)]; refine (show _ = walkL (F_tree_Tree_int_Keys_y1 to_) L (out ++ [r.k]) from rfl).trans (e.trans ?_); simp⟩
  ·have c' : (seqB to_ ⟨#[]⟩ || sltB r.k to_) = false := by simpa using c
   simp only [Bool.or_eq_false_iff] at c'
   rw [if_pos (by rw [c'.1, c'.2]; rfl), Option.bind_some, if_neg (by rintro ⟨⟩), List.filter_cons_of_neg (by exact c), List.filter_eq_nil_iff.2 fun x hx => ?_]
   ·exact ⟨false, by simp⟩
   ·rw [c'.1, Bool.false_or]
    intro e
    exact absurd (slt_trans (h1 x hx) e) (by rw [c'.2]; decide)

section
variable {t : Etree_Tree_int} (h : trOk t) (hz : (rowsT t.top).length < big)
include h hz
theorem tree_Put (k : ByteArray) (v : Int) : ∃ t', F_tree_Tree_int_Put t k v = some (hasR k (rowsT t.top), t') ∧ trOk t' ∧ rowsT t'.top = insR k v (rowsT t.top) := by
 have hz2 := hz; rw [rows_len] at hz2
 obtain ⟨u, e1, e2, e3, e4, e5⟩ := put_ok k v t.top FU (by unfold FU; unfold big at hz2; omega) hz2 h.avl h.srt
 have hn := h.n
 have hl := ins_len (k := k) (v := v) (rowsT t.top)
 unfold F_tree_Tree_int_Put
 rw [h.none, Option.bind_some, if_neg (by decide), F_tree_put_int, e1, Option.bind_some]
 simp only []
 by_cases c : hasR k (rowsT t.top) = true
 ·rw [if_neg (by rw [c]; decide)]
  rw [if_pos c] at hl
  exact ⟨_, rfl, ⟨h.made, e2, by rw [e3]; exact ins_srt h.srt, by show t.n = ((rowsT u).length : Int); rw [e3, hl]; exact hn⟩, e3⟩
 ·have c' : hasR k (rowsT t.top) = false := by simpa using c
  rw [if_pos (by rw [c']; rfl), chk_t (by unfold inI; unfold big at hz; omega)]
  rw [if_neg c] at hl
  exact ⟨_, rfl, ⟨h.made, e2, by rw [e3]; exact ins_srt h.srt, by show t.n + 1 = ((rowsT u).length : Int); rw [e3, hl]; omega⟩, e3⟩

omit hz in
theorem tree_Get (k : ByteArray) : F_tree_Tree_int_Get t k = some (getR k (rowsT t.top)) := by
 unfold F_tree_Tree_int_Get
 rw [h.none, Option.bind_some, if_neg (by decide), get_ok k t.top h.srt]

omit hz in
theorem tree_Len : F_tree_Tree_int_Len t = some ((rowsT t.top).length : Int) := by
 unfold F_tree_Tree_int_Len
 rw [h.none, Option.bind_some, if_neg (by decide), h.n]

theorem from_ok {σ : Type} (y : ByteArray → σ → Option (Bool × σ)) (f : ByteArray) (s : σ) : F_tree_Tree_int_from_1 y (true, s) t f = (walkL y (geR f (rowsT t.top)) s).bind fun p => some (t, p) := by
 rw [rows_len] at hz
 unfold F_tree_Tree_int_from_1
 rw [h.none, Option.bind_some, if_pos (by decide), F_tree_node_int_walk, walk_ok f y t.top FU s (by unfold FU; unfold big at hz; omega) h.srt]
 cases walkL y (geR f (rowsT t.top)) s with
 | none => rfl
 | some p => rfl

theorem tree_Keys (f to_ : ByteArray) : F_tree_Tree_int_Keys t f to_ = some (keysR f to_ (rowsT t.top), t) := by
 unfold F_tree_Tree_int_Keys F_tree_Tree_int_from
 rw [Option.bind_some, from_ok h hz]
 obtain ⟨b, e⟩ := keys_walk to_ (geR f (rowsT t.top)) [] (h.srt.sublist List.filter_sublist) (by have := List.length_filter_le (fun r : Rw => !sltB r.k f) (rowsT t.top); unfold geR; simp only [List.length_nil]; omega)
 rw [e, Option.bind_some, Option.bind_some]
 have e2 : [] ++ ((geR f (rowsT t.top)).filter fun r => seqB to_ ⟨#[]⟩ || sltB r.k to_).map (·.k) = keysR f to_ (rowsT t.top) := by
  unfold geR keysR inR
  rw [List.nil_append, List.filter_filter]
  congr 1
  refine List.filter_congr fun x _ => ?_
  rw [Bool.and_comm]
 simp only [e2]
 split <;> rfl

end
-- TreePlays
end Go.Proofs.Ytfcdghlgcnjkoaa
