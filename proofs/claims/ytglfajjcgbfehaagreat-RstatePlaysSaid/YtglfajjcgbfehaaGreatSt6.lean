/- A region that draws its order, whose last operations stand behind all others: those ahead by facts, the last ones in their order. -/
import Derived.Test.YtglfajjcgbfehaaGreatSt5
namespace Go.Proofs.YtglfajjcgbfehaaGreat
open Go.RowKit
variable {ds : List Deferred}

/-- from the m-th on, each operation stands behind all ahead of it: the m-th behind all, each further one behind the one just ahead -/
def sealedB (l : List Oper) (m : Nat) : Bool := decide (m ≤ l.length) && (decide (m = l.length) || ((List.range m).all fun j => (ancs l l.length m).contains j)) && (List.range l.length).all fun i => decide (i ≤ m) || match l[i]? with | some o => (fore o).contains (i - 1) | none => false

theorem edges_lt {l : List Oper} (hE : edgesBack l = true) : ∀ i o, l[i]? = some o → ∀ e ∈ o.after, Region.binds .any e = true → e.on < i := by
 intro i o hi e he hb
 unfold edgesBack at hE
 rw [List.all_eq_true] at hE
 have h1 := hE (o, i) (by rw [List.mem_iff_getElem?]; exact ⟨i, by simp [List.getElem?_zipIdx, hi]⟩)
 simp only [Array.all_eq_true'] at h1
 have h2 := h1 e he
 simpa [hb] using h2

theorem fore_lt {l : List Oper} (hE : edgesBack l = true) : ∀ i o, l[i]? = some o → ∀ j ∈ fore o, j < i := by
 intro i o hi j hj
 unfold fore at hj
 obtain ⟨e, he, rfl⟩ := List.mem_map.1 hj
 rw [List.mem_filter] at he
 exact edges_lt hE i o hi e (Array.mem_toList_iff.1 he.1) he.2

/-- what stands ahead of one that may come next is listed -/
theorem ready_ancs {l : List Oper} {listed : Array Bool} (hsz : listed.size = l.length) (hE : edgesBack l = true) (hcl : ∀ (i : Nat) (o : Oper), l[i]? = some o → listed[i]? = some true → ∀ j ∈ fore o, listed[j]? = some true) {i : Nat} (hi : i ∈ Region.ready .any l.toArray listed) : i < l.length ∧ listed[i]? = some false ∧ (∀ k o, l[k]? = some o → (k = i ∨ listed[k]? = some true) → ∀ j ∈ fore o, j = i ∨ listed[j]? = some true) := by
 unfold Region.ready at hi
 rw [List.mem_filter] at hi
 obtain ⟨h1, h2⟩ := hi
 have hil : i < l.length := by simpa using h1
 have hla : l.toArray[i]? = some l[i] := by simp [List.getElem?_eq_getElem hil]
 rw [hla] at h2
 simp only [Option.map_some, Option.getD_some, Bool.and_eq_true, Bool.not_eq_true', Array.all_eq_true'] at h2
 obtain ⟨h3, h4⟩ := h2
 have hif : listed[i]'(by omega) = false := by
  unfold Array.getD at h3
  rw [dif_pos (show i < listed.size by omega)] at h3
  exact h3
 refine ⟨hil, by rw [Array.getElem?_eq_getElem (by omega), hif], fun k o hk hd j2 hj2 => ?_⟩
 rcases hd with rfl | hd
 ·right
  have hjk := fore_lt hE k o hk j2 hj2
  unfold fore at hj2
  obtain ⟨e, he, rfl⟩ := List.mem_map.1 hj2
  rw [List.mem_filter] at he
  have ho : o = l[k] := by rw [List.getElem?_eq_getElem hil] at hk; injection hk with hk; exact hk.symm
  subst ho
  have h5 := h4 e (Array.mem_toList_iff.1 he.1)
  simp only [he.2, Bool.not_true, Bool.false_or] at h5
  unfold Array.getD at h5
  rw [dif_pos (show e.on < listed.size by omega)] at h5
  rw [Array.getElem?_eq_getElem (by omega)]
  exact congrArg some h5
 ·exact .inr (hcl k o hk hd j2 hj2)

/-- the least one that is not listed may come next -/
theorem ready_least {l : List Oper} {listed : Array Bool} (hsz : listed.size = l.length) (hE : edgesBack l = true) {p : Nat} (hp : p < l.length) (hn : listed[p]? = some false) (hl : ∀ j, j < p → listed[j]? = some true) : p ∈ Region.ready .any l.toArray listed := by
 unfold Region.ready
 rw [List.mem_filter]
 refine ⟨List.mem_range.2 (by simpa using hp), ?_⟩
 have hlj : l.toArray[p]? = some l[p] := by simp [List.getElem?_eq_getElem hp]
 have hgd : listed.getD p true = false := by
  unfold Array.getD
  rw [dif_pos (show p < listed.size by omega)]
  rw [Array.getElem?_eq_getElem (by omega)] at hn
  injection hn
 rw [hgd, hlj]
 simp only [Bool.not_false, Bool.true_and, Option.map_some, Option.getD_some]
 rw [Array.all_eq_true']
 intro e he
 cases hbd : Region.binds .any e with
 | false => rfl
 | true =>
  have hlt := edges_lt hE p l[p] (List.getElem?_eq_getElem hp) e he hbd
  have := hl e.on hlt
  have hlt2 : e.on < listed.size := by omega
  rw [Array.getElem?_eq_getElem hlt2] at this
  unfold Array.getD
  rw [dif_pos hlt2]
  simp at this
  simp [this]

/-- what is closed under forerunners and holds of the i-th one holds of all ahead of it -/
theorem sealed_in {l : List Oper} {m : Nat} (h : sealedB l m = true) : m ≤ l.length ∧ ∀ (D : Nat → Prop), (∀ i o, l[i]? = some o → D i → ∀ j ∈ fore o, D j) → ∀ i, m ≤ i → i < l.length → D i → ∀ j, j < i → D j := by
 unfold sealedB at h
 simp only [Bool.and_eq_true, decide_eq_true_eq, List.all_eq_true, List.mem_range, Bool.or_eq_true, List.contains_eq_mem] at h
 obtain ⟨⟨h1, h2⟩, h3⟩ := h
 refine ⟨h1, fun D hD i => ?_⟩
 induction i with
 | zero => intro _ _ _ j hj; omega
 | succ i ih =>
  intro hm hl hd j hj
  by_cases he : i + 1 = m
  ·rcases h2 with h2 | h2
   ·omega
   ·have h4 := h2 j (by omega)
    rw [← he] at h4
    exact ancs_in hD l.length (i + 1) hd j h4
  ·have h5 : D i := by
    rcases h3 (i + 1) hl with h4 | h4
    ·omega
    ·rw [List.getElem?_eq_getElem hl] at h4
     simp only [Nat.add_sub_cancel, decide_eq_true_eq] at h4
     exact hD (i + 1) _ (List.getElem?_eq_getElem hl) hd i h4
   by_cases hji : j = i
   ·subst hji; exact h5
   ·exact ih (by omega) (by omega) h5 j (by omega)

/-- the last ones, in their order -/
theorem wpAny_tail {P : Program} {l : List Oper} {Q : Exit → Act → World → Prop} {m : Nat} (hE : edgesBack l = true) (hS : sealedB l m = true) : ∀ (fuel p : Nat) (listed : Array Bool) (a : Act) (w : World), m ≤ p → p ≤ l.length → l.length - p ≤ fuel → listed.size = l.length → (∀ j, j < p → listed[j]? = some true) → (∀ j, p ≤ j → j < l.length → listed[j]? = some false) → wpList P l.toArray Q (l.drop p) a w → wpAny P .any l.toArray Q fuel listed a w := by
 obtain ⟨_, hS⟩ := sealed_in hS
 have hcl : ∀ (p : Nat) (listed : Array Bool), (∀ j, j < p → listed[j]? = some true) → (∀ j, p ≤ j → j < l.length → listed[j]? = some false) → ∀ (i : Nat) (o : Oper), l[i]? = some o → listed[i]? = some true → ∀ j ∈ fore o, listed[j]? = some true := by
  intro p listed h1 h2 i o hi hl j hj
  refine h1 j ?_
  have := fore_lt hE i o hi j hj
  by_cases hip : i < p
  ·omega
  ·have hil := (List.getElem?_eq_some_iff.1 hi).1
   rw [h2 i (by omega) hil] at hl
   cases hl
 have hone : ∀ (p : Nat) (listed : Array Bool), m ≤ p → listed.size = l.length → (∀ j, j < p → listed[j]? = some true) → (∀ j, p ≤ j → j < l.length → listed[j]? = some false) → ∀ i ∈ Region.ready .any l.toArray listed, i = p := by
  intro p listed hm hsz h1 h2 i hi
  obtain ⟨hil, hn, ha⟩ := ready_ancs hsz hE (hcl p listed h1 h2) hi
  by_cases hip : i < p
  ·rw [h1 i hip] at hn; cases hn
  ·by_cases hpe : i = p
   ·exact hpe
   ·rcases hS _ ha i (by omega) hil (.inl rfl) p (by omega) with h | h
    ·exact h.symm
    ·rw [h2 p (Nat.le_refl _) (by omega)] at h; cases h
 intro fuel
 induction fuel with
 | zero =>
  intro p listed a w hm hp hf hsz h1 h2 h
  have hpl : p = l.length := by omega
  subst hpl
  have hr : Region.ready .any l.toArray listed = [] := List.eq_nil_iff_forall_not_mem.2 fun i hi => by
   have h3 := (ready_ancs hsz hE (hcl _ listed h1 h2) hi).1
   have h4 := hone _ listed hm hsz h1 h2 i hi
   omega
  refine ⟨hr, ?_⟩
  simpa [wpList] using h
 | succ fuel ih =>
  intro p listed a w hm hp hf hsz h1 h2 h
  by_cases hpl : p = l.length
  ·subst hpl
   have hr : ∀ i, i ∉ Region.ready .any l.toArray listed := fun i hi => by
    have h3 := (ready_ancs hsz hE (hcl _ listed h1 h2) hi).1
    have h4 := hone _ listed hm hsz h1 h2 i hi
    omega
   exact ⟨fun _ => by simpa [wpList] using h, fun i hi => absurd hi (hr i)⟩
  ·have hp' : p < l.length := by omega
   have hmem := ready_least hsz hE hp' (h2 p (Nat.le_refl _) hp') h1
   refine ⟨fun he => (by rw [he] at hmem; cases hmem), fun i hi => ?_⟩
   have := hone p listed hm hsz h1 h2 i hi
   subst this
   rw [List.drop_eq_getElem_cons hp'] at h
   have hla : l.toArray[i]? = some l[i] := by simp [List.getElem?_eq_getElem hp']
   have h3 : wpOp P l.toArray Q i (wpList P l.toArray Q (l.drop (i + 1))) a w := by
    unfold wpOp
    rw [hla]
    unfold wpList at h
    exact h
   refine wpOp_mono (fun a' w' hk => ?_) h3
   refine ih (i + 1) _ a' w' (by omega) (by omega) (by omega) (by simpa using hsz) (fun j hj => ?_) (fun j hj hjl => ?_) hk
   ·by_cases hji : j = i
    ·subst hji; rw [Array.getElem?_setIfInBounds_self, if_pos (by omega)]
    ·rw [Array.getElem?_setIfInBounds_ne (fun e => hji e.symm)]; exact h1 j (by omega)
   ·rw [Array.getElem?_setIfInBounds_ne (by omega)]; exact h2 j (by omega) hjl

theorem PsD.sub {ops : Array Oper} {n : Nat} {S S' : Slots} {G : List GV} {a : Act} (h : PsD ds ops n S G a) {ts : List Nat} (e : pickS S ts = some S') : PsD ds ops n S' G a := ⟨h.sl.sub e, h.gv⟩

/-- a store over all of a block -/
theorem putCells_over : ∀ (us pre cs : List Value), us.length = cs.length → putCells (pre ++ cs) pre.length us = pre ++ us
 | [], pre, [], _ => rfl
 | u :: us, pre, c :: cs, h => by
  have := putCells_over us (pre ++ [u]) cs (by simpa using h)
  simp only [putCells]
  rw [List.set_append_right _ _ (Nat.le_refl _), Nat.sub_self, List.set_cons_zero]
  simpa using this

theorem putCells_all {cs us : List Value} (h : us.length = cs.length) : putCells cs 0 us = us := by simpa using putCells_over us [] cs h

section frules
variable {P : Program} (T : Tab P) {ops : Array Oper} {all : List Oper} {C : World → Prop} {F : Nat → Value → World → Prop} {a : Act} {w : World} {o : Oper} {n k : Nat} {S : Slots}

end frules

end Go.Proofs.YtglfajjcgbfehaaGreat
