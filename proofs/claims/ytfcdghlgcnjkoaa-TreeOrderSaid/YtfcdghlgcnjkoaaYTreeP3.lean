/- Trees: the document's, and going through. -/
import Derived.Test.YtfcdghlgcnjkoaaYTreeP2
namespace Go.Proofs.Ytfcdghlgcnjkoaa

def posR (k : ByteArray) : List Rw → Nat
 | [] => 0
 | r :: l => if sltB r.k k = true then posR k l + 1 else 0

section
variable {k : ByteArray}
theorem pos_t {r : Rw} {l : List Rw} (h : sltB r.k k = true) : posR k (r :: l) = posR k l + 1 := if_pos h

theorem pos_f {r : Rw} {l : List Rw} (h : ¬ sltB r.k k = true) : posR k (r :: l) = 0 := if_neg h

theorem has_t {r : Rw} {l : List Rw} (h : sltB r.k k = true) : hasR k (r :: l) = hasR k l := if_pos h

theorem has_f {r : Rw} {l : List Rw} (h : ¬ sltB r.k k = true) : hasR k (r :: l) = seqB r.k k := if_neg h

theorem pos_le : ∀ l : List Rw, posR k l ≤ l.length
 | [] => Nat.le_refl _
 | r :: l => by
  by_cases h : sltB r.k k = true
  ·rw [pos_t h, List.length_cons]; have := pos_le l; omega
  ·rw [pos_f h]; omega

theorem pos_lt : ∀ (l : List Rw) (i : Nat), i < posR k l → sltB (l.getD i default).k k = true
 | [], i, h => by simp only [posR] at h; omega
 | r :: l, i, h => by
  by_cases c : sltB r.k k = true
  ·rw [pos_t c] at h
   cases i with
   | zero => exact c
   | succ i => exact pos_lt l i (by omega)
  ·rw [pos_f c] at h; omega

theorem pos_at : ∀ (l : List Rw), posR k l < l.length → sltB (l.getD (posR k l) default).k k = false ∧ hasR k l = seqB (l.getD (posR k l) default).k k
 | [], h => by simp only [List.length_nil] at h; omega
 | r :: l, h => by
  by_cases c : sltB r.k k = true
  ·rw [pos_t c, List.length_cons] at h
   rw [pos_t c, has_t c]
   exact pos_at l (by omega)
  ·rw [pos_f c, has_f c]
   exact ⟨by simpa using c, rfl⟩

theorem pos_end : ∀ (l : List Rw), posR k l = l.length → hasR k l = false
 | [], _ => rfl
 | r :: l, h => by
  by_cases c : sltB r.k k = true
  ·rw [pos_t c, List.length_cons] at h
   rw [has_t c]
   exact pos_end l (by omega)
  ·rw [pos_f c, List.length_cons] at h; omega

theorem has_pos {l : List Rw} (h : hasR k l = true) : posR k l < l.length := by
 have := pos_le (k := k) l
 by_cases e : posR k l = l.length
 ·rw [pos_end l e] at h; cases h
 ·omega

theorem ins_new {v : Int} : ∀ (l : List Rw), hasR k l = false → insR k v l = l.take (posR k l) ++ ⟨k, v⟩ :: l.drop (posR k l)
 | [], _ => rfl
 | r :: l, h => by
  by_cases c : sltB r.k k = true
  ·rw [has_t c] at h
   rw [pos_t c, show insR k v (r :: l) = _ from if_pos c, ins_new l h]; rfl
  ·rw [has_f c] at h
   rw [pos_f c, show insR k v (r :: l) = _ from if_neg c, if_neg (by rw [h]; decide)]; rfl

def geR (k : ByteArray) (l : List Rw) : List Rw := l.filter fun r => !sltB r.k k

end
-- the document's tree
def inR (f t k : ByteArray) : Bool := !sltB k f && (seqB t ⟨#[]⟩ || sltB k t)

def keysR (f t : ByteArray) (l : List Rw) : List ByteArray := (l.filter fun r => inR f t r.k).map (·.k)

theorem keys_len (f t : ByteArray) (l : List Rw) : (keysR f t l).length ≤ l.length := by unfold keysR; rw [List.length_map]; exact List.length_filter_le _ _

theorem same_refl (l : List ByteArray) (h : l.length ≤ big) : F_ref05_Same l l = some true := by
 unfold F_ref05_Same
 rw [if_neg (by rw [bne_self_eq_false]; decide)]
 unfold big at h
 refine iter_up l.length (fun _ => some true) (by unfold bdM; omega) fun rc i hi hrc => ?_
 simp only [F_ref05_Same_l1, toNat_cast]
 by_cases c : i < l.length
 ·rw [if_pos (by rw [decide_eq_true (by omega)]; rfl), chk_t (by omega), chk_t (by omega), if_neg (by rw [seqB_iff.2 rfl]; decide), chk_t (by unfold inI; omega)]
  exact hrc c
 ·rw [if_neg (by rw [decide_eq_false (by omega)]; decide)]

-- going through a tree
def walkL {σ : Type} (y : ByteArray → σ → Option (Bool × σ)) : List Rw → σ → Option (Bool × σ)
 | [], s => some (true, s)
 | r :: l, s => (y r.k s).bind fun p => if p.1 = true then walkL y l p.2 else some p

theorem walkL_app {σ : Type} {y : ByteArray → σ → Option (Bool × σ)} {B : List Rw} : ∀ (A : List Rw) (s : σ), walkL y (A ++ B) s = (walkL y A s).bind fun p => if p.1 = true then walkL y B p.2 else some p
 | [], s => rfl
 | r :: A, s => by
  simp only [List.cons_append, walkL]
  cases y r.k s with
  | none => rfl
  | some p =>
   simp only [Option.bind_some]
   by_cases c : p.1 = true
   ·rw [if_pos c, if_pos c, walkL_app A]
   ·rw [if_neg c, if_neg c, Option.bind_some, if_neg c]

theorem walk_ok {σ : Type} (f : ByteArray) (y : ByteArray → σ → Option (Bool × σ)) : ∀ (t : TT Int) (n : Nat) (s : σ), sizeT t < n → Srt (rowsT t) → F_tree_node_int_walkR n t f y (true, s) = (walkL y (geR f (rowsT t)) s).bind fun p => some (p.1, t, p)
 | .nil, n + 1, s, _, _ => rfl
 | .node j x d l r, n + 1, s, hn, hs => by
  obtain ⟨s1, s2, s3, s4⟩ := srt_app.1 hs
  simp only [sizeT] at hn
  show F_tree_node_int_walk_b (F_tree_node_int_walkR n) (.node j x d l r) f y (true, s) = _
  unfold F_tree_node_int_walk_b
  rw [if_neg (by rintro ⟨⟩)]
  simp only [ttE]
  by_cases c : sltB j f = true
  ·rw [if_pos c, walk_ok f y r n s (by omega) s2]
   have e : geR f (rowsT (.node j x d l r)) = geR f (rowsT r) := by
    unfold geR
    rw [rowsT, List.filter_append, List.filter_cons_of_neg (by simp [c]), List.filter_eq_nil_iff.2 fun a ha => by simp [slt_trans (s3 a ha) c], List.nil_append]
   rw [e]
   cases walkL y (geR f (rowsT r)) s with
   | none => rfl
   | some p => rfl
  ·rw [if_neg c, walk_ok f y l n s (by omega) s1]
   have e : geR f (rowsT (.node j x d l r)) = geR f (rowsT l) ++ ⟨j, x⟩ :: geR f (rowsT r) := by
    unfold geR
    rw [rowsT, List.filter_append, List.filter_cons_of_pos (by simp [c])]
   rw [e, walkL_app]
   cases walkL y (geR f (rowsT l)) s with
   | none => rfl
   | some p =>
    obtain ⟨b, s'⟩ := p
    simp only [Option.bind_some]
    cases b with
    | false => rfl
    | true =>
     rw [if_pos rfl, if_pos rfl, chk_t rfl, walkL]
     cases y j s' with
     | none => rfl
     | some q =>
      obtain ⟨b2, s2'⟩ := q
      simp only [Option.bind_some]
      cases b2 with
      | false => rfl
      | true =>
       rw [if_pos rfl, if_pos rfl, walk_ok f y r n s2' (by omega) s2]
       cases walkL y (geR f (rowsT r)) s2' with
       | none => rfl
       | some p2 => rfl

end Go.Proofs.Ytfcdghlgcnjkoaa
