/- A region that draws its order, by one fact for each operation's value: each operation is shown once, from the facts of those that must come ahead of it; no order is walked. -/
import Derived.Test.YtglfajjcgbfehaaGreatBase
import Derived.Orders
namespace Go.Proofs.YtglfajjcgbfehaaGreat
open Go.RowKit

/-- what one operation comes to: its value, with its fact, in a later world -/
def OpPost (G : World → World → Prop) (F : Value → World → Prop) (a : Act) (dst : Option Tmp) (w : World) : Exit → Act → World → Prop
 | .normal, a', w' => ∃ v, a' = a.put dst v ∧ G w w' ∧ F v w'
 | _, _, _ => False

/-- the frame, the region's slots filled by 'vals' -/
def putAll (a : Act) (vals : Nat → Value) : List Oper → Nat → Act
 | [], _ => a
 | o :: r, k => putAll (a.put o.dst (vals k)) vals r (k + 1)

def dsts (l : List Oper) : List Tmp := l.filterMap (·.dst)

theorem put_putAll {vals : Nat → Value} (v : Value) : ∀ (l : List Oper) (k : Nat) (a : Act) (d : Option Tmp), (∀ t, d = some t → t ∉ dsts l) → (putAll a vals l k).put d v = putAll (a.put d v) vals l k
 | [], _, _, _, _ => rfl
 | o :: r, k, a, d, h => by
  simp only [putAll]
  rw [put_putAll v r (k + 1) _ d (fun t ht hm => h t ht (by unfold dsts at *; cases hd : o.dst <;> simp [hd, hm]))]
  congr 1
  refine Act.put_comm a _ _ (fun t ht he => ?_)
  exact h t he (by simp [dsts, ht])

theorem putAll_congr {vals vals' : Nat → Value} : ∀ (l : List Oper) (k : Nat) (a : Act), (∀ j, k ≤ j → j < k + l.length → vals j = vals' j) → putAll a vals l k = putAll a vals' l k
 | [], _, _, _ => rfl
 | o :: r, k, a, h => by
  simp only [putAll]
  rw [h k (Nat.le_refl _) (by simp), putAll_congr r (k + 1) _ (fun j h1 h2 => h j (by omega) (by simp at h2 ⊢; omega))]

def upd (vals : Nat → Value) (i : Nat) (v : Value) : Nat → Value := fun j => if j = i then v else vals j

theorem putAll_put {vals : Nat → Value} (v : Value) : ∀ (l : List Oper) (k : Nat) (a : Act) (j : Nat) (o : Oper), l[j]? = some o → (dsts l).Nodup → (putAll a vals l k).put o.dst v = putAll a (upd vals (k + j) v) l k
 | [], _, _, _, _, h, _ => by simp at h
 | x :: r, k, a, j, o, h, hn => by
  simp only [putAll]
  cases j with
  | zero =>
   simp at h
   subst h
   have hnr : ∀ t, x.dst = some t → t ∉ dsts r := fun t ht hm => by
    simp [dsts, ht] at hn
    simp [dsts] at hm
    obtain ⟨y, hy1, hy2⟩ := hm
    exact hn.1 y hy1 hy2
   rw [put_putAll v r (k + 1) _ x.dst hnr]
   have e1 : upd vals (k + 0) v k = v := by simp [upd]
   rw [e1, putAll_congr (vals := vals) (vals' := upd vals (k + 0) v) r (k + 1) _ (fun j h1 h2 => by simp [upd]; omega)]
   congr 1
   cases x.dst <;> simp [Act.put]
  | succ j =>
   have h' : r[j]? = some o := by simpa using h
   have hn' : (dsts r).Nodup := by
    cases hd : x.dst <;> simp [dsts, hd] at hn ⊢
    ·exact hn
    ·exact hn.2
   have e1 : upd vals (k + (j + 1)) v k = vals k := by simp [upd]
   rw [e1, putAll_put v r (k + 1) _ j o h' hn']
   rw [show k + 1 + j = k + (j + 1) by omega]

theorem put_same (a : Act) (d : Option Tmp) : a.put d (match d with | some d => a.tmps.getD d undef | none => undef) = a := by
 cases d with
 | none => rfl
 | some d =>
  obtain ⟨t, ds⟩ := a
  simp only [Act.put]
  congr 1
  apply Array.ext (by simp)
  intro i h1 h2
  rw [Array.getElem_setIfInBounds (by simpa using h1)]
  split
  ·rename_i e; subst e; simp at h2 ⊢; rw [Array.getElem?_eq_getElem h2]; rfl
  ·rfl

theorem putAll_same (vals : Nat → Value) : ∀ (l : List Oper) (k : Nat) (a : Act), (∀ j o, l[j]? = some o → vals (k + j) = match o.dst with | some d => a.tmps.getD d undef | none => undef) → putAll a vals l k = a
 | [], _, _, _ => rfl
 | o :: r, k, a, h => by
  simp only [putAll]
  have h0 := h 0 o rfl
  simp only [Nat.add_zero] at h0
  rw [h0, put_same]
  exact putAll_same vals r (k + 1) a (fun j x hx => by
   have := h (j + 1) x (by simpa using hx)
   rw [show k + 1 + j = k + (j + 1) by omega]
   exact this)

/-- every edge that binds leads back -/
def edgesBack (l : List Oper) : Bool := l.zipIdx.all fun x => x.1.after.all fun e => !Region.binds .any e || decide (e.on < x.2)

/-- the direct forerunners of an operation -/
def fore (o : Oper) : List Nat := (o.after.toList.filter fun e => Region.binds .any e).map (·.on)

theorem Oper.wp_of_OpPost {P : Program} {o : Oper} {a : Act} {w : World} {G : World → World → Prop} {F : Value → World → Prop} {Q : Exit → Act → World → Prop} {K : Act → World → Prop} {ops : Array Oper}
  (h : wpList P ops (OpPost G F a o.dst w) [o] a w) (hK : ∀ v w', G w w' → F v w' → K (a.put o.dst v) w') :
  if Region.wanted o (yielded ops a.tmps) then o.wp P a w K Q ∨ (o.asks P a w ∧ LetsOut Q) else K (a.put o.dst undef) w := by
 have hnorm : ∀ a' w', OpPost G F a o.dst w .normal a' w' → K a' w' := fun a' w' ⟨v, e, hg, hf⟩ => by subst e; exact hK v w' hg hf
 unfold wpList at h
 split
 ·rename_i hw
  rw [if_pos hw] at h
  rcases h with h | ⟨_, a', w', hf⟩
  ·left
   unfold Oper.wp at h ⊢
   generalize (execOp a.eval o).run P w = r at h ⊢
   cases r with
   | ok n w' =>
    cases n with
    | value v => exact hnorm _ _ h
    | skip => exact hnorm _ _ h
    | defer d =>
     obtain ⟨v, e, _⟩ := (show OpPost G F a o.dst w .normal _ w' from h)
     exfalso
     have h1 := congrArg Act.defers e
     cases hd : o.dst <;> simp [hd, Act.put] at h1
    | enter f args =>
     simp only [Oper.upon] at h ⊢
     refine Calls.mono h fun e w'' he => ?_
     cases e with
     | returned v => exact hnorm _ _ he
     | panicked c => exact (he : False).elim
     | outgrown => obtain ⟨_, _, hf⟩ := he; exact (hf : False).elim
    | row row args =>
     simp only [Oper.upon] at h ⊢
     exact Rows.mono h fun v w'' he => hnorm _ _ he
    | _ => exact (h : False).elim
   | halt x w' => cases x <;> simp only [Oper.upon] at h ⊢ <;> exact (h : False).elim
  ·exact (hf : False).elim
 ·rename_i hw
  rw [if_neg hw] at h
  exact hnorm _ _ h

/-- those whose value it looks at -/
def need (o : Oper) : List Nat := (o.after.toList.filter fun e => Region.binds .any e && (match e.ground with | .data => true | .guard => true | _ => false)).map (·.on)

/-- the forerunners of an operation, and theirs -/
def ancs (l : List Oper) : Nat → Nat → List Nat
 | 0, _ => []
 | n + 1, i => match l[i]? with
  | none => []
  | some o => fore o ++ (fore o).flatMap (ancs l n)

def stepRel (G : World → World → Prop) (dirty : List Nat) (k : Nat) : World → World → Prop := match dirty.contains k with | true => G | false => fun x y => Below x.heap.size x y

/-- what a region's slot held ahead of it -/
def orig (l : List Oper) (a : Act) (j : Nat) : Value := match (l[j]?).bind (·.dst) with | some d => a.tmps.getD d undef | none => undef

/-- j cannot have come up ahead of k -/
def later (l : List Oper) (k j : Nat) : Bool := decide (j < l.length) && (j == k || (ancs l l.length j).contains k)

/-- no dirty operation can have come up ahead of k -/
def clearFor (l : List Oper) (dirty : List Nat) (k : Nat) : Bool := dirty.all fun i => later l k i

/-- what is owed of each operation -/
def owes (P : Program) (ops : Array Oper) (G : World → World → Prop) (dirty : List Nat) (I : World → Prop) (F : Nat → Value → World → Prop) (a : Act) (w : World) (all : List Oper) : List Oper → Nat → Prop
 | [], _ => True
 | o :: r, k => (∀ (vals : Nat → Value) (w' : World), G w w' → (∀ j ∈ need o, F j (vals j) w') → (∀ j, later all k j = true → vals j = orig all a j) → (clearFor all dirty k = true → I w') → wpList P ops (OpPost (stepRel G dirty k) (F k) (putAll a vals all 0) o.dst w') [o] (putAll a vals all 0) w') ∧ owes P ops G dirty I F a w all r (k + 1)

theorem ancs_in {l : List Oper} {D : Nat → Prop} (hD : ∀ i o, l[i]? = some o → D i → ∀ j ∈ fore o, D j) : ∀ n i, D i → ∀ j ∈ ancs l n i, D j
 | 0, _, _, j, hj => by simp [ancs] at hj
 | n + 1, i, hi, j, hj => by
  unfold ancs at hj
  split at hj
  ·simp at hj
  ·rename_i o ho
   rw [List.mem_append, List.mem_flatMap] at hj
   rcases hj with hj | ⟨m, hm, hj⟩
   ·exact hD i o ho hi j hj
   ·exact ancs_in hD n m (hD i o ho hi m hm) j hj

end Go.Proofs.YtglfajjcgbfehaaGreat
