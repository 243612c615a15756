/- Trees: the document's, and going through. -/
import Derived.Test.YtfcdghlgcnjkoaaYTreeP2
namespace Go.Proofs.Ytfcdghlgcnjkoaa

def posR (k : ByteArray) : List Rw → Nat
 | [] => 0
 | r :: l => if sltB r.k k = true then posR k l + 1 else 0

section
variable {k : ByteArray}
theorem pos_t {r : Rw} {l : List Rw} (h : sltB r.k k = true) : posR k (r :: l) = posR k l + 1 := if_pos h

theorem pos_f {r : Rw} {l : List Rw} (h : ¬ sltB r.k k = true) : posR k (r :: l) = 0 := if_neg h

theorem has_t {r : Rw} {l : List Rw} (h : sltB r.k k = true) : hasR k (r :: l) = hasR k l := if_pos h

theorem has_f {r : Rw} {l : List Rw} (h : ¬ sltB r.k k = true) : hasR k (r :: l) = seqB r.k k := if_neg h

theorem pos_le : ∀ l : List Rw, posR k l ≤ l.length
 | [] => Nat.le_refl _
 | r :: l => by
  by_cases h : sltB r.k k = true
  ·rw [pos_t h, List.length_cons]; have := pos_le l; omega
  ·rw [pos_f h]; omega

theorem pos_lt : ∀ (l : List Rw) (i : Nat), i < posR k l → sltB (l.getD i default).k k = true
 | [], i, h => by simp only [posR] at h; omega
 | r :: l, i, h => by
  by_cases c : sltB r.k k = true
  ·rw [pos_t c] at h
   cases i with
   | zero => exact c
   | succ i => exact pos_lt l i (by omega)
  ·rw [pos_f c] at h; omega

theorem pos_at : ∀ (l : List Rw), posR k l < l.length → sltB (l.getD (posR k l) default).k k = false ∧ hasR k l = seqB (l.getD (posR k l) default).k k
 | [], h => by simp only [List.length_nil] at h; omega
 | r :: l, h => by
  by_cases c : sltB r.k k = true
  ·rw [pos_t c, List.length_cons] at h
   rw [pos_t c, has_t c]
   exact pos_at l (by omega)
  ·rw [pos_f c, has_f c]
   exact ⟨by simpa using c, rfl⟩

theorem pos_end : ∀ (l : List Rw), posR k l = l.length → hasR k l = false
 | [], _ => rfl
 | r :: l, h => by
  by_cases c : sltB r.k k = true
  ·rw [pos_t c, List.length_cons] at h
   rw [has_t c]
   exact pos_end l (by omega)
  ·rw [pos_f c, List.length_cons] at h; omega

theorem has_pos {l : List Rw} (h : hasR k l = true) : posR k l < l.length := by
 have := pos_le (k := k) l
 by_cases e : posR k l = l.length
 ·rw [pos_end l e] at h; cases h
 ·omega

theorem ins_set {v : Int} : ∀ (l : List Rw), hasR k l = true → insR k v l = l.set (posR k l) { l.getD (posR k l) default with v := v }
 | [], h => by cases h
 | r :: l, h => by
  by_cases c : sltB r.k k = true
  ·rw [has_t c] at h
   rw [pos_t c, show insR k v (r :: l) = _ from if_pos c, ins_set l h]; rfl
  ·rw [has_f c] at h
   rw [pos_f c, show insR k v (r :: l) = _ from if_neg c, if_pos h]; rfl

theorem ins_new {v : Int} : ∀ (l : List Rw), hasR k l = false → insR k v l = l.take (posR k l) ++ ⟨k, v⟩ :: l.drop (posR k l)
 | [], _ => rfl
 | r :: l, h => by
  by_cases c : sltB r.k k = true
  ·rw [has_t c] at h
   rw [pos_t c, show insR k v (r :: l) = _ from if_pos c, ins_new l h]; rfl
  ·rw [has_f c] at h
   rw [pos_f c, show insR k v (r :: l) = _ from if_neg c, if_neg (by rw [h]; decide)]; rfl

theorem del_at : ∀ (l : List Rw), hasR k l = true → delR k l = l.take (posR k l) ++ l.drop (posR k l + 1)
 | [], h => by cases h
 | r :: l, h => by
  by_cases c : sltB r.k k = true
  ·rw [has_t c] at h
   rw [pos_t c, show delR k (r :: l) = _ from if_pos c, del_at l h]; rfl
  ·rw [has_f c] at h
   rw [pos_f c, show delR k (r :: l) = _ from if_neg c, if_pos h]; rfl

theorem del_no : ∀ (l : List Rw), hasR k l = false → delR k l = l
 | [], _ => rfl
 | r :: l, h => by
  by_cases c : sltB r.k k = true
  ·rw [has_t c] at h
   rw [show delR k (r :: l) = _ from if_pos c, del_no l h]
  ·rw [has_f c] at h
   rw [show delR k (r :: l) = _ from if_neg c, if_neg (by rw [h]; decide)]

theorem get_at : ∀ (l : List Rw), getR k l = if hasR k l = true then ((l.getD (posR k l) default).v, true) else (0, false)
 | [] => rfl
 | r :: l => by
  by_cases c : sltB r.k k = true
  ·rw [has_t c, pos_t c, show getR k (r :: l) = _ from if_pos c, get_at l]; rfl
  ·rw [has_f c, pos_f c, show getR k (r :: l) = _ from if_neg c]; rfl

def geR (k : ByteArray) (l : List Rw) : List Rw := l.filter fun r => !sltB r.k k

theorem ge_all {l : List Rw} (h : ∀ r ∈ l, sltB r.k k = false) : geR k l = l := List.filter_eq_self.2 fun r hr => by rw [h r hr]; rfl

theorem ge_drop : ∀ {l : List Rw}, Srt l → geR k l = l.drop (posR k l)
 | [], _ => rfl
 | r :: l, h => by
  obtain ⟨h1, h2⟩ := List.pairwise_cons.1 h
  by_cases c : sltB r.k k = true
  ·rw [pos_t c, List.drop_succ_cons, ← ge_drop h2]
   unfold geR
   rw [List.filter_cons_of_neg (by rw [c]; decide)]
  ·rw [pos_f c, List.drop_zero]
   refine ge_all fun x hx => ?_
   rcases List.mem_cons.1 hx with rfl | hx
   ·simpa using c
   ·cases e : sltB x.k k with
    | false => rfl
    | true => exact absurd (slt_trans (h1 x hx) e) c

end
-- the document's tree
theorem ref_at (k : ByteArray) (l : List Rw) (h : l.length ≤ big) : F_ref15_Tree_at ⟨l⟩ k = some ((posR k l : Int), hasR k l) := by
 have hp := pos_le (k := k) l
 unfold F_ref15_Tree_at
 refine iter_up (posR k l) (fun _ => some ((posR k l : Int), hasR k l)) (by unfold bdM; unfold big at h; omega) fun rc i hi hrc => ?_
 simp only [F_ref15_Tree_at_l1, toNat_cast]
 rw [chk_t (by intro hh; have := of_decide_eq_true hh; omega)]
 by_cases c : i < posR k l
 ·have c2 : i < l.length := by omega
  rw [if_pos (by rw [decide_eq_true (by omega), pos_lt l i c]; rfl), chk_t (by unfold inI; unfold big at h; omega)]
  exact hrc c
 ·obtain rfl : i = posR k l := by omega
  by_cases c2 : posR k l < l.length
  ·obtain ⟨e1, e2⟩ := pos_at l c2
   rw [if_neg (by rw [e1, Bool.and_false]; decide), chk_t (by intro hh; have := of_decide_eq_true hh; omega), decide_eq_true (by omega), Bool.true_and, ← e2]
  ·rw [decide_eq_false (by omega), if_neg (by rw [Bool.false_and]; decide), chk_t (by intro hh; cases hh), Bool.false_and, pos_end l (by omega)]

theorem ref_Put (k : ByteArray) (v : Int) (l : List Rw) (h : l.length ≤ big) : F_ref15_Tree_Put ⟨l⟩ k v = some (hasR k l, ⟨insR k v l⟩) := by
 have hp := pos_le (k := k) l
 unfold F_ref15_Tree_Put
 rw [ref_at k l h, Option.bind_some]
 unfold big at h
 by_cases c : hasR k l = true
 ·have := has_pos c
  simp only [c, toNat_cast]
  rw [if_pos trivial, chk_t (by omega), ins_set l c]
 ·have c' : hasR k l = false := by simpa using c
  simp only [c', toNat_cast]
  rw [if_neg (by decide), chk_t (by omega), chk_t (by simp only [List.length_nil, List.length_take]; omega), chk_t (by simp only [List.length_append, List.length_cons, List.length_nil, List.length_take]; omega), chk_t (by omega), chk_t (by simp only [List.length_append, List.length_cons, List.length_nil, List.length_take, List.length_drop]; omega), ins_new l c']
  simp only [List.nil_append, List.append_assoc, List.cons_append]

theorem ref_Get (k : ByteArray) (l : List Rw) (h : l.length ≤ big) : F_ref15_Tree_Get ⟨l⟩ k = some (getR k l) := by
 unfold F_ref15_Tree_Get
 rw [ref_at k l h, Option.bind_some, get_at]
 by_cases c : hasR k l = true
 ·have := has_pos c
  simp only [c, toNat_cast]
  rw [if_neg (by decide), chk_t (by omega), if_pos trivial]
 ·have c' : hasR k l = false := by simpa using c
  simp only [c', toNat_cast]
  rw [if_pos (by decide), if_neg (by decide)]

theorem ref_Del (k : ByteArray) (l : List Rw) (h : l.length ≤ big) : F_ref15_Tree_Del ⟨l⟩ k = some (hasR k l, ⟨delR k l⟩) := by
 have hp := pos_le (k := k) l
 unfold F_ref15_Tree_Del
 rw [ref_at k l h, Option.bind_some]
 unfold big at h
 by_cases c : hasR k l = true
 ·have := has_pos c
  simp only [c, toNat_cast, toNat_cast1]
  rw [if_pos trivial, chk_t (by omega), chk_t (by simp only [List.length_nil, List.length_take]; omega), chk_t (by unfold inI; omega), chk_t (by omega), chk_t (by simp only [List.length_append, List.length_nil, List.length_take, List.length_drop]; omega)]
  unfold F_ref15_Tree_Del_k1
  rw [del_at l c, List.nil_append]
 ·have c' : hasR k l = false := by simpa using c
  simp only [c']
  rw [if_neg (by decide), del_no l c']
  rfl

theorem ref_Seek (k : ByteArray) (l : List Rw) (h : l.length ≤ big) : F_ref15_Tree_Seek ⟨l⟩ k = some (if posR k l < l.length then ((l.getD (posR k l) default).k, true) else (⟨#[]⟩, false)) := by
 have hp := pos_le (k := k) l
 unfold F_ref15_Tree_Seek
 rw [ref_at k l h, Option.bind_some]
 by_cases c : posR k l < l.length
 ·simp only [toNat_cast]
  rw [if_neg (by rw [beq_iff_eq]; omega), chk_t (by omega), if_pos c]
 ·simp only []
  rw [if_pos (by rw [beq_iff_eq]; omega), if_neg c]

def inR (f t k : ByteArray) : Bool := !sltB k f && (seqB t ⟨#[]⟩ || sltB k t)

def keysR (f t : ByteArray) (l : List Rw) : List ByteArray := (l.filter fun r => inR f t r.k).map (·.k)

theorem keys_len (f t : ByteArray) (l : List Rw) : (keysR f t l).length ≤ l.length := by unfold keysR; rw [List.length_map]; exact List.length_filter_le _ _

theorem ref_Keys (f t : ByteArray) (l : List Rw) (h : l.length ≤ big) : F_ref15_Tree_Keys ⟨l⟩ f t = some (keysR f t l) := by
 unfold F_ref15_Tree_Keys
 refine (iter_rule (fun s : List ByteArray × Int => l.length - s.2.toNat) (fun _ => some (keysR f t l)) (fun s => 0 ≤ s.2 ∧ s.2 ≤ (l.length : Int) ∧ s.1 = keysR f t (l.take s.2.toNat)) ?_ FU _ ⟨by simp, by simp, by rfl⟩ (by unfold FU; unfold big at h; simp only; omega))
 rintro rc ⟨o, i⟩ ⟨h1, h2, h3⟩ hrc
 simp only at h1 h2 h3 hrc
 obtain ⟨j, rfl⟩ := Int.eq_ofNat_of_zero_le h1
 have hk := keys_len f t (l.take j)
 rw [toNat_cast] at h3
 rw [List.length_take] at hk
 simp only [F_ref15_Tree_Keys_l1, toNat_cast] at *
 by_cases c : j < l.length
 ·rw [if_pos (decide_eq_true (by omega)), chk_t (by omega)]
  unfold F_ref05_In
  rw [Option.bind_some]
  unfold big at h
  have hs : keysR f t (l.take (j + 1)) = o ++ if inR f t (l.getD j default).k = true then [(l.getD j default).k] else [] := by
   rw [take_snoc (d := default) c, h3]
   unfold keysR
   rw [List.filter_append, List.map_append]
   congr 1
   by_cases e : inR f t (l.getD j default).k = true
   ·rw [if_pos e, List.filter_cons_of_pos (by exact e)]; rfl
   ·rw [if_neg e, List.filter_cons_of_neg (by exact e)]; rfl
  by_cases e : inR f t (l.getD j default).k = true
  ·rw [if_pos (by exact e), chk_t (by omega), chk_t (by rw [h3]; simp only [List.length_cons, List.length_nil]; omega)]
   unfold F_ref15_Tree_Keys_k2
   rw [chk_t (by unfold inI; omega)]
   refine hrc (_, (j : Int) + 1) ⟨by simp only; omega, by simp only; omega, ?_⟩ (by simp only [toNat_cast1]; omega)
   simp only [toNat_cast1]
   rw [hs, if_pos e]
  ·rw [if_neg (by exact e)]
   unfold F_ref15_Tree_Keys_k2
   rw [chk_t (by unfold inI; omega)]
   refine hrc (_, (j : Int) + 1) ⟨by simp only; omega, by simp only; omega, ?_⟩ (by simp only [toNat_cast1]; omega)
   simp only [toNat_cast1]
   rw [hs, if_neg e, List.append_nil]
 ·rw [if_neg (by rw [decide_eq_false (by omega)]; decide), h3, List.take_of_length_le (by omega)]

theorem same_refl (l : List ByteArray) (h : l.length ≤ big) : F_ref05_Same l l = some true := by
 unfold F_ref05_Same
 rw [if_neg (by rw [bne_self_eq_false]; decide)]
 unfold big at h
 refine iter_up l.length (fun _ => some true) (by unfold bdM; omega) fun rc i hi hrc => ?_
 simp only [F_ref05_Same_l1, toNat_cast]
 by_cases c : i < l.length
 ·rw [if_pos (by rw [decide_eq_true (by omega)]; rfl), chk_t (by omega), chk_t (by omega), if_neg (by rw [seqB_iff.2 rfl]; decide), chk_t (by unfold inI; omega)]
  exact hrc c
 ·rw [if_neg (by rw [decide_eq_false (by omega)]; decide)]

-- going through a tree
def walkL {σ : Type} (y : ByteArray → σ → Option (Bool × σ)) : List Rw → σ → Option (Bool × σ)
 | [], s => some (true, s)
 | r :: l, s => (y r.k s).bind fun p => if p.1 = true then walkL y l p.2 else some p

theorem walkL_app {σ : Type} {y : ByteArray → σ → Option (Bool × σ)} {B : List Rw} : ∀ (A : List Rw) (s : σ), walkL y (A ++ B) s = (walkL y A s).bind fun p => if p.1 = true then walkL y B p.2 else some p
 | [], s => rfl
 | r :: A, s => by
  simp only [List.cons_append, walkL]
  cases y r.k s with
  | none => rfl
  | some p =>
   simp only [Option.bind_some]
   by_cases c : p.1 = true
   ·rw [if_pos c, if_pos c, walkL_app A]
   ·rw [if_neg c, if_neg c, Option.bind_some, if_neg c]

theorem walk_ok {σ : Type} (f : ByteArray) (y : ByteArray → σ → Option (Bool × σ)) : ∀ (t : TT Int) (n : Nat) (s : σ), sizeT t < n → Srt (rowsT t) → F_tree_node_int_walkR n t f y (true, s) = (walkL y (geR f (rowsT t)) s).bind fun p => some (p.1, t, p)
 | .nil, n + 1, s, _, _ => rfl
 | .node j x d l r, n + 1, s, hn, hs => by
  obtain ⟨s1, s2, s3, s4⟩ := srt_app.1 hs
  simp only [sizeT] at hn
  show F_tree_node_int_walk_b (F_tree_node_int_walkR n) (.node j x d l r) f y (true, s) = _
  unfold F_tree_node_int_walk_b
  rw [if_neg (by rintro ⟨⟩)]
  simp only [ttE]
  by_cases c : sltB j f = true
  ·rw [if_pos c, walk_ok f y r n s (by omega) s2]
   have e : geR f (rowsT (.node j x d l r)) = geR f (rowsT r) := by
    unfold geR
    rw [rowsT, List.filter_append, List.filter_cons_of_neg (by simp [c]), List.filter_eq_nil_iff.2 fun a ha => by simp [slt_trans (s3 a ha) c], List.nil_append]
   rw [e]
   cases walkL y (geR f (rowsT r)) s with
   | none => rfl
   | some p => rfl
  ·rw [if_neg c, walk_ok f y l n s (by omega) s1]
   have e : geR f (rowsT (.node j x d l r)) = geR f (rowsT l) ++ ⟨j, x⟩ :: geR f (rowsT r) := by
    unfold geR
    rw [rowsT, List.filter_append, List.filter_cons_of_pos (by simp [c])]
   rw [e, walkL_app]
   cases walkL y (geR f (rowsT l)) s with
   | none => rfl
   | some p =>
    obtain ⟨b, s'⟩ := p
    simp only [Option.bind_some]
    cases b with
    | false => rfl
    | true =>
     rw [if_pos rfl, if_pos rfl, chk_t rfl, walkL]
     cases y j s' with
     | none => rfl
     | some q =>
      obtain ⟨b2, s2'⟩ := q
      simp only [Option.bind_some]
      cases b2 with
      | false => rfl
      | true =>
       rw [if_pos rfl, if_pos rfl, walk_ok f y r n s2' (by omega) s2]
       cases walkL y (geR f (rowsT r)) s2' with
       | none => rfl
       | some p2 => rfl

end Go.Proofs.Ytfcdghlgcnjkoaa
