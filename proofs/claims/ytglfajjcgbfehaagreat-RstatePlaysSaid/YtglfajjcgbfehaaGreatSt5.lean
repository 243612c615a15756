/- A region that draws its order, by one fact for each operation's value and world: each operation keeps the facts of those that need not come behind it. No order is walked. -/
import Derived.Test.YtglfajjcgbfehaaGreatSt4
namespace Go.Proofs.YtglfajjcgbfehaaGreat
open Go.RowKit
variable {ds : List Deferred}

/-- what an operation owes besides its own fact -/
abbrev Kp (all : List Oper) (C : World → Prop) (F : Nat → Value → World → Prop) (k : Nat) (x y : World) : Prop := C y ∧ ∀ j v, j < all.length → j ≠ k → (ancs all all.length j).contains k = false → F j v x → F j v y

def owesF (P : Program) (ops : Array Oper) (C : World → Prop) (F : Nat → Value → World → Prop) (a : Act) (all : List Oper) : List Oper → Nat → Prop
 | [], _ => True
 | o :: r, k => (∀ (vals : Nat → Value) (w' : World), C w' → (∀ j ∈ need o, F j (vals j) w') → (∀ j, later all k j = true → vals j = orig all a j) → wpList P ops (OpPost (Kp all C F k) (F k) (putAll a vals all 0) o.dst w') [o] (putAll a vals all 0) w') ∧ owesF P ops C F a all r (k + 1)

/-- the region's slots and those beside it -/
def regS (vals : Nat → Value) : List Oper → Nat → Slots
 | [], _ => []
 | o :: r, k => match o.dst with
  | some d => (d, vals k) :: regS vals r (k + 1)
  | none => regS vals r (k + 1)

theorem regS_lookup {vals : Nat → Value} : ∀ (l : List Oper) (k t : Nat) (v : Value), (regS vals l k).lookup t = some v → ∃ j o, l[j]? = some o ∧ o.dst = some t ∧ vals (k + j) = v
 | [], _, _, _, h => by simp [regS] at h
 | o :: r, k, t, v, h => by
  unfold regS at h
  split at h
  ·rename_i d hd
   rw [lookup_cons] at h
   split at h
   ·rename_i e; subst e; injection h with h; subst h; exact ⟨0, o, rfl, hd, rfl⟩
   ·obtain ⟨j, o', h1, h2, h3⟩ := regS_lookup r (k + 1) t v h
    exact ⟨j + 1, o', by simpa using h1, h2, by rw [← h3]; congr 1; omega⟩
  ·obtain ⟨j, o', h1, h2, h3⟩ := regS_lookup r (k + 1) t v h
   exact ⟨j + 1, o', by simpa using h1, h2, by rw [← h3]; congr 1; omega⟩

theorem putAll_size {vals : Nat → Value} : ∀ (l : List Oper) (k : Nat) (a : Act), (putAll a vals l k).tmps.size = a.tmps.size ∧ (putAll a vals l k).defers = a.defers
 | [], _, _ => ⟨rfl, rfl⟩
 | o :: r, k, a => by
  obtain ⟨h1, h2⟩ := putAll_size (vals := vals) r (k + 1) (a.put o.dst (vals k))
  simp only [putAll]
  rw [h1, h2]
  cases o.dst <;> simp [Act.put]

theorem putAll_out {vals : Nat → Value} : ∀ (l : List Oper) (k : Nat) (a : Act) (t : Nat), t ∉ dsts l → (putAll a vals l k).tmps[t]? = a.tmps[t]?
 | [], _, _, _, _ => rfl
 | o :: r, k, a, t, h => by
  simp only [putAll]
  have hr : t ∉ dsts r := fun hm => h (by unfold dsts at *; cases hd : o.dst <;> simp [hd, hm])
  rw [putAll_out r (k + 1) _ t hr]
  cases hd : o.dst with
  | none => rfl
  | some d =>
   have : d ≠ t := fun e => h (by simp [dsts, hd, e])
   rw [put_tmps, Array.getElem?_setIfInBounds, if_neg this]

theorem putAll_in {vals : Nat → Value} : ∀ (l : List Oper) (k : Nat) (a : Act) (j : Nat) (o : Oper) (t : Nat), (dsts l).Nodup → l[j]? = some o → o.dst = some t → t < a.tmps.size → (putAll a vals l k).tmps[t]? = some (vals (k + j))
 | [], _, _, _, _, _, _, h, _, _ => by simp at h
 | x :: r, k, a, j, o, t, hn, h, hd, ht => by
  simp only [putAll]
  cases j with
  | zero =>
   simp at h; subst h
   have hr : t ∉ dsts r := fun hm => by
    simp [dsts, hd] at hn
    simp [dsts] at hm
    obtain ⟨y, hy1, hy2⟩ := hm
    exact hn.1 y hy1 hy2
   rw [putAll_out r (k + 1) _ t hr, hd, put_tmps, Array.getElem?_setIfInBounds, if_pos rfl, if_pos ht]
   rfl
  | succ j =>
   have hn' : (dsts r).Nodup := by
    cases hx : x.dst <;> simp [dsts, hx] at hn ⊢
    ·exact hn
    ·exact hn.2
   rw [putAll_in r (k + 1) _ j o t hn' (by simpa using h) hd (by cases hx : x.dst <;> simp [Act.put]; exact ht; exact ht)]
   congr 2; omega

theorem SlD.reg {n : Nat} {S : Slots} {a : Act} (h : SlD ds n S a) {l : List Oper} (hN : (dsts l).Nodup) (hd : (dsts l).all (decide <| · < n) = true) (vals : Nat → Value) : SlD ds n (regS vals l 0 ++ S.filter (fun p => !(dsts l).contains p.1)) (putAll a vals l 0) := by
 obtain ⟨h1, h2⟩ := putAll_size (vals := vals) l 0 a
 refine ⟨by rw [h2]; exact h.1, by rw [h1]; exact h.2.1, fun t v hv => ?_⟩
 have key : ∀ (X Y : Slots), (X ++ Y).lookup t = some v → X.lookup t = some v ∨ (X.lookup t = none ∧ Y.lookup t = some v) := by
  intro X
  induction X with
  | nil => intro Y h; exact .inr ⟨rfl, h⟩
  | cons x X ih =>
   intro Y h
   obtain ⟨k, u⟩ := x
   rw [List.cons_append, lookup_cons] at h
   rw [lookup_cons]
   split at h
   ·rename_i e; rw [if_pos e]; exact .inl h
   ·rename_i e; rw [if_neg e]; exact ih Y h
 rcases key _ _ hv with h3 | ⟨_, h3⟩
 ·obtain ⟨j, o, h4, h5, h6⟩ := regS_lookup l 0 t v h3
  have ht : t < n := by
   rw [List.all_eq_true] at hd
   have := hd t (by unfold dsts; rw [List.mem_filterMap]; exact ⟨o, List.mem_of_getElem? h4, h5⟩)
   simpa using this
  rw [putAll_in l 0 a j o t hN h4 h5 (by rw [h.2.1]; exact ht), h6]
 ·have hf : ∀ (S : Slots), (S.filter (fun p => !(dsts l).contains p.1)).lookup t = some v → t ∉ dsts l ∧ S.lookup t = some v := by
   intro S
   induction S with
   | nil => intro h; simp at h
   | cons x S ih =>
    obtain ⟨k, u⟩ := x
    intro h
    simp only [List.filter_cons] at h
    rw [lookup_cons]
    split at h
    ·rename_i hk
     rw [lookup_cons] at h
     split at h
     ·rename_i e; subst e; rw [if_pos rfl]; exact ⟨by simpa using hk, h⟩
     ·rename_i e; rw [if_neg e]; exact ih h
    ·rename_i hk
     obtain ⟨h5, h6⟩ := ih h
     rw [if_neg (fun e => by subst e; simp at hk; exact h5 hk)]
     exact ⟨h5, h6⟩
  obtain ⟨h4, h5⟩ := hf S h3
  rw [putAll_out l 0 a t h4]
  exact h.2.2 _ _ h5

section frules
variable {P : Program} (T : Tab P) {ops : Array Oper} {all : List Oper} {C : World → Prop} {F : Nat → Value → World → Prop} {a : Act} {w : World} {o : Oper} {n k : Nat} {S : Slots}

end frules

end Go.Proofs.YtglfajjcgbfehaaGreat
