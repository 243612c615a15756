/- Trees: TreePlays, TreeFlat. -/
import Derived.Test.YtfcdghlgcnjkoaaYTreeP3
namespace Go.Proofs.Ytfcdghlgcnjkoaa
structure bdElaw15_Act (x : Elaw15_Act) : Prop where
 c : inI x.c
 k : bdStr x.k
 to_ : bdStr x.to_
 v : inI x.v

structure trOk (t : Etree_Tree_int) : Prop where
 made : t.made = true
 avl : avl t.top
 srt : Srt (rowsT t.top)
 n : t.n = ((rowsT t.top).length : Int)

theorem trOk.none {t : Etree_Tree_int} (h : trOk t) : F_tree_Tree_int_none t = some false := by unfold F_tree_Tree_int_none; rw [h.made]; rfl

def newT : Etree_Tree_int := { (default : Etree_Tree_int) with made := true }

theorem new_eq : F_tree_New_int = some newT := rfl

theorem new_ok : trOk newT := ⟨rfl, trivial, List.Pairwise.nil, rfl⟩

theorem keys_walk (to_ : ByteArray) : ∀ (L : List Rw) (out : List ByteArray), Srt L → out.length + L.length ≤ big → ∃ b, walkL (F_tree_Tree_int_Keys_y1 to_) L out = some (b, out ++ (L.filter fun r => seqB to_ ⟨#[]⟩ || sltB r.k to_).map (·.k))
 | [], out, _, _ => ⟨true, by simp [walkL]⟩
 | r :: L, out, hs, hb => by
  obtain ⟨h1, h2⟩ := List.pairwise_cons.1 hs
  rw [List.length_cons] at hb
  unfold walkL F_tree_Tree_int_Keys_y1
  by_cases c : (seqB to_ ⟨#[]⟩ || sltB r.k to_) = true
  ·rw [if_neg (by simp only [Bool.or_eq_true] at c; rcases c with c | c <;> simp [c]), chk_t (by simp only [List.length_cons, List.length_nil]; unfold big at hb; omega), Option.bind_some, if_pos rfl]
   obtain ⟨b, e⟩ := keys_walk to_ L (out ++ [r.k]) h2 (by simp only [List.length_append, List.length_cons, List.length_nil]; omega)
   exact ⟨b, by rw [List.filter_cons_of_pos (by exact c)]; refine (show _ = walkL (F_tree_Tree_int_Keys_y1 to_) L (out ++ [r.k]) from rfl).trans (e.trans ?_); simp⟩
  ·have c' : (seqB to_ ⟨#[]⟩ || sltB r.k to_) = false := by simpa using c
   simp only [Bool.or_eq_false_iff] at c'
   rw [if_pos (by rw [c'.1, c'.2]; rfl), Option.bind_some, if_neg (by rintro ⟨⟩), List.filter_cons_of_neg (by exact c), List.filter_eq_nil_iff.2 fun x hx => ?_]
   ·exact ⟨false, by simp⟩
   ·rw [c'.1, Bool.false_or]
    intro e
    exact absurd (slt_trans (h1 x hx) e) (by rw [c'.2]; decide)

section
variable {t : Etree_Tree_int} (h : trOk t) (hz : (rowsT t.top).length < big)
include h hz
theorem tree_Put (k : ByteArray) (v : Int) : ∃ t', F_tree_Tree_int_Put t k v = some (hasR k (rowsT t.top), t') ∧ trOk t' ∧ rowsT t'.top = insR k v (rowsT t.top) := by
 have hz2 := hz; rw [rows_len] at hz2
 obtain ⟨u, e1, e2, e3, e4, e5⟩ := put_ok k v t.top FU (by unfold FU; unfold big at hz2; omega) hz2 h.avl h.srt
 have hn := h.n
 have hl := ins_len (k := k) (v := v) (rowsT t.top)
 unfold F_tree_Tree_int_Put
 rw [h.none, Option.bind_some, if_neg (by decide), F_tree_put_int, e1, Option.bind_some]
 simp only []
 by_cases c : hasR k (rowsT t.top) = true
 ·rw [if_neg (by rw [c]; decide)]
  rw [if_pos c] at hl
  exact ⟨_, rfl, ⟨h.made, e2, by rw [e3]; exact ins_srt h.srt, by show t.n = ((rowsT u).length : Int); rw [e3, hl]; exact hn⟩, e3⟩
 ·have c' : hasR k (rowsT t.top) = false := by simpa using c
  rw [if_pos (by rw [c']; rfl), chk_t (by unfold inI; unfold big at hz; omega)]
  rw [if_neg c] at hl
  exact ⟨_, rfl, ⟨h.made, e2, by rw [e3]; exact ins_srt h.srt, by show t.n + 1 = ((rowsT u).length : Int); rw [e3, hl]; omega⟩, e3⟩

theorem tree_Del (k : ByteArray) : ∃ t', F_tree_Tree_int_Del t k = some (hasR k (rowsT t.top), t') ∧ trOk t' ∧ rowsT t'.top = delR k (rowsT t.top) := by
 have hz2 := hz; rw [rows_len] at hz2
 obtain ⟨u, e1, e2, e3, e4, e5⟩ := del_ok k t.top FU (by unfold FU; unfold big at hz2; omega) hz2 h.avl h.srt
 have hn := h.n
 have hl := del_len (k := k) (rowsT t.top)
 unfold F_tree_Tree_int_Del
 rw [h.none, Option.bind_some, if_neg (by decide), F_tree_del_int, e1, Option.bind_some]
 simp only []
 by_cases c : hasR k (rowsT t.top) = true
 ·have := has_len c
  rw [if_pos c, chk_t (by unfold inI; unfold big at hz; omega)]
  rw [if_pos c] at hl
  exact ⟨_, rfl, ⟨h.made, e2, by rw [e3]; exact del_srt h.srt, by show t.n - 1 = ((rowsT u).length : Int); rw [e3, hl]; omega⟩, e3⟩
 ·rw [if_neg c]
  rw [if_neg c] at hl
  exact ⟨_, rfl, ⟨h.made, e2, by rw [e3]; exact del_srt h.srt, by show t.n = ((rowsT u).length : Int); rw [e3, hl]; omega⟩, e3⟩

omit hz in
theorem tree_Get (k : ByteArray) : F_tree_Tree_int_Get t k = some (getR k (rowsT t.top)) := by
 unfold F_tree_Tree_int_Get
 rw [h.none, Option.bind_some, if_neg (by decide), get_ok k t.top h.srt]

omit hz in
theorem tree_Len : F_tree_Tree_int_Len t = some ((rowsT t.top).length : Int) := by
 unfold F_tree_Tree_int_Len
 rw [h.none, Option.bind_some, if_neg (by decide), h.n]

theorem from_ok {σ : Type} (y : ByteArray → σ → Option (Bool × σ)) (f : ByteArray) (s : σ) : F_tree_Tree_int_from_1 y (true, s) t f = (walkL y (geR f (rowsT t.top)) s).bind fun p => some (t, p) := by
 rw [rows_len] at hz
 unfold F_tree_Tree_int_from_1
 rw [h.none, Option.bind_some, if_pos (by decide), F_tree_node_int_walk, walk_ok f y t.top FU s (by unfold FU; unfold big at hz; omega) h.srt]
 cases walkL y (geR f (rowsT t.top)) s with
 | none => rfl
 | some p => rfl

theorem tree_Keys (f to_ : ByteArray) : F_tree_Tree_int_Keys t f to_ = some (keysR f to_ (rowsT t.top), t) := by
 unfold F_tree_Tree_int_Keys F_tree_Tree_int_from
 rw [Option.bind_some, from_ok h hz]
 obtain ⟨b, e⟩ := keys_walk to_ (geR f (rowsT t.top)) [] (h.srt.sublist List.filter_sublist) (by have := List.length_filter_le (fun r : Rw => !sltB r.k f) (rowsT t.top); unfold geR; simp only [List.length_nil]; omega)
 rw [e, Option.bind_some, Option.bind_some]
 have e2 : [] ++ ((geR f (rowsT t.top)).filter fun r => seqB to_ ⟨#[]⟩ || sltB r.k to_).map (·.k) = keysR f to_ (rowsT t.top) := by
  unfold geR keysR inR
  rw [List.nil_append, List.filter_filter]
  congr 1
  refine List.filter_congr fun x _ => ?_
  rw [Bool.and_comm]
 simp only [e2]
 split <;> rfl

theorem tree_Seek (k : ByteArray) : F_tree_Tree_int_Seek t k = some ((if posR k (rowsT t.top) < (rowsT t.top).length then (((rowsT t.top).getD (posR k (rowsT t.top)) default).k, true, t) else (⟨#[]⟩, false, t)) : ByteArray × Bool × Etree_Tree_int) := by
 unfold F_tree_Tree_int_Seek F_tree_Tree_int_from
 rw [Option.bind_some, from_ok h hz, ge_drop h.srt]
 by_cases c : posR k (rowsT t.top) < (rowsT t.top).length
 ·rw [drop_cons (d := default) c, if_pos c]; rfl
 ·rw [List.drop_eq_nil_of_le (by omega), if_neg c]; rfl

end
-- TreePlays
theorem TreePlays_k2 {rc : Int × Etree_Tree_int × List Rw → Option Bool} {k : Nat} (hk : k < 60) {b : Bool} {t : Etree_Tree_int} (h : trOk t) (hz : (rowsT t.top).length < big) (hrc : rc ((k : Int) + 1, t, rowsT t.top) = some true) : F_law15_TreePlays_k2 (k : Int) rc true b t ⟨rowsT t.top⟩ = some true := by
 unfold F_law15_TreePlays_k2
 rw [show (!!true) = true from rfl, gif_true, tree_Len h, Option.bind_some, if_neg (by rw [bne_self_eq_false]; decide), chk_t (by unfold inI; omega), hrc]

theorem beq_refl_b (b : Bool) : (b == b) = true := by cases b <;> rfl

theorem TreePlays_k3 {l : List Elaw15_Act} {rc : Int × Etree_Tree_int × List Rw → Option Bool} {k : Nat} (hk : k < 60) {b : Bool} {t : Etree_Tree_int} (h : trOk t) (hz : (rowsT t.top).length ≤ k)
  (hrc : ∀ t', trOk t' → (rowsT t'.top).length ≤ k + 1 → rc ((k : Int) + 1, t', rowsT t'.top) = some true) : F_law15_TreePlays_k3 l (k : Int) t (rowsT t.top) rc b = some true := by
 have hb : (rowsT t.top).length < big := by unfold big; omega
 have hb' : (rowsT t.top).length ≤ big := by omega
 unfold F_law15_TreePlays_k3
 simp only [toNat_cast]
 generalize l.getD k default = a
 by_cases c1 : b = true
 ·rw [if_pos c1]
  obtain ⟨t', e1, e2, e3⟩ := tree_Put h hb a.k a.v
  rw [e1, Option.bind_some, ref_Put a.k a.v _ hb', Option.bind_some]
  simp only [beq_refl_b]
  have hl := ins_len (k := a.k) (v := a.v) (rowsT t.top)
  rw [← e3] at hl ⊢
  have hl2 : (rowsT t'.top).length ≤ k + 1 := by split at hl <;> omega
  exact TreePlays_k2 hk e2 (by unfold big; omega) (hrc t' e2 hl2)
 rw [if_neg c1]
 by_cases c2 : (a.c == 2) = true
 ·rw [if_pos c2]
  obtain ⟨t', e1, e2, e3⟩ := tree_Del h hb a.k
  rw [e1, Option.bind_some, ref_Del a.k _ hb', Option.bind_some]
  simp only [beq_refl_b]
  have hl := del_len (k := a.k) (rowsT t.top)
  rw [← e3] at hl ⊢
  have hl2 : (rowsT t'.top).length ≤ k + 1 := by split at hl <;> omega
  exact TreePlays_k2 hk e2 (by unfold big; omega) (hrc t' e2 hl2)
 rw [if_neg c2]
 by_cases c3 : (a.c == 3) = true
 ·rw [if_pos c3, tree_Get h, Option.bind_some, ref_Get a.k _ hb', Option.bind_some, beq_self_eq_true, beq_refl_b]
  exact TreePlays_k2 hk h hb (hrc t h (by omega))
 rw [if_neg c3, tree_Seek h hb, Option.bind_some, ref_Seek a.k _ hb', Option.bind_some]
 have hs : ∀ (p : Prop) [Decidable p] (x : ByteArray), (if p then (x, true, t) else (⟨#[]⟩, false, t) : ByteArray × Bool × Etree_Tree_int) = ((if p then (x, true) else (⟨#[]⟩, false) : ByteArray × Bool).1, (if p then (x, true) else (⟨#[]⟩, false) : ByteArray × Bool).2, t) := fun p _ x => by split <;> rfl
 rw [hs]
 simp only []
 rw [if_pos (by rw [seqB_iff.2 rfl, beq_refl_b]; rfl), tree_Keys h hb, Option.bind_some, ref_Keys _ _ _ hb', Option.bind_some, same_refl _ (Nat.le_trans (keys_len _ _ _) hb'), Option.bind_some]
 exact TreePlays_k2 hk h hb (hrc t h (by omega))

theorem pure_TreePlays (l : List Elaw15_Act) (_ : bdSl bdElaw15_Act l) : F_law15_TreePlays l = some true := by
 unfold F_law15_TreePlays
 rw [new_eq, Option.bind_some]
 refine iter_up2 (min l.length 60) (fun _ _ => some true) (fun k s => trOk s.1 ∧ s.2 = rowsT s.1.top ∧ s.2.length ≤ k) (by unfold bdM; omega) (s0 := (newT, [])) ⟨new_ok, rfl, Nat.le_refl _⟩ fun rc k s hk hp hrc => ?_
 obtain ⟨t, x⟩ := s
 obtain ⟨h, e, hz⟩ := hp
 simp only at h e hz
 subst e
 simp only [F_law15_TreePlays_l1, toNat_cast]
 have hb : (rowsT t.top).length < big := by unfold big; omega
 by_cases c : k < min l.length 60
 ·have c2 : k < l.length := by omega
  rw [if_pos (by rw [decide_eq_true (show (k : Int) < (l.length : Int) by omega), decide_eq_true (show (k : Int) < 60 by omega)]; rfl), chk_t (by omega)]
  have hr : ∀ t', trOk t' → (rowsT t'.top).length ≤ k + 1 → rc ((k : Int) + 1, t', rowsT t'.top) = some true := fun t' h1 h2 => hrc (t', rowsT t'.top) c ⟨h1, rfl, h2⟩
  split
  ·exact TreePlays_k3 (by omega) h hz hr
  ·exact TreePlays_k3 (by omega) h hz hr
 ·rw [if_neg (by
   intro e
   rw [Bool.and_eq_true] at e
   have e1 := of_decide_eq_true e.1; have e2 := of_decide_eq_true e.2
   omega), tree_Keys h hb, Option.bind_some, ref_Keys _ _ _ (by omega), Option.bind_some, same_refl _ (Nat.le_trans (keys_len _ _ _) (by omega)), Option.bind_some, gif_true, awake15]
  rfl

end Go.Proofs.Ytfcdghlgcnjkoaa
