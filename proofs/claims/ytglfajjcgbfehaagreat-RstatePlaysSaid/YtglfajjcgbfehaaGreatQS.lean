/- A region that draws its order, whose last operations stand behind all others: the first ones leave what was as it was, the last ones in their order. No program is named here. -/
import Derived.Test.YtglfajjcgbfehaaGreatH4
namespace Go.Proofs.YtglfajjcgbfehaaGreat
open Go.RowKit
variable {ds : List Deferred}

def guardsIn (l : List Oper) (m : Nat) : Bool := (l.take m).all fun o => match o.guard with | none => true | some (j, _) => decide (j < m)

theorem yielded_take {l : List Oper} {m j : Nat} (hj : j < m) (tmps : Array Value) : yielded (l.take m).toArray tmps j = yielded l.toArray tmps j := by
 unfold yielded
 simp [List.getElem?_take, hj]

theorem qOp_take {P : Program} {C : World → Prop} {l : List Oper} {m i : Nat} (hG : guardsIn l m = true) (hi : i < m) {K : Act → Prop} {a : Act} (h : qOp P (l.take m).toArray C i K a) : qOp P l.toArray C i K a := by
 unfold qOp at h ⊢
 have e : (l.take m).toArray[i]? = l.toArray[i]? := by simp [List.getElem?_take, hi]
 rw [e] at h
 split at h
 ·exact h
 ·rename_i o ho
  have ho' : (l.take m)[i]? = some o := by rw [← e] at ho; simpa using ho
  have hmem : o ∈ l.take m := List.mem_of_getElem? ho'
  have hg := List.all_eq_true.1 hG o hmem
  have hw : Region.wanted o (yielded (l.take m).toArray a.tmps) = Region.wanted o (yielded l.toArray a.tmps) := by
   unfold Region.wanted
   split
   ·rfl
   ·rename_i j want hj
    rw [hj] at hg
    rw [yielded_take (of_decide_eq_true hg)]
  rw [hw] at h
  exact h

/-- what may come next, as long as something of the first ones is left -/
theorem ready_take {l : List Oper} {m : Nat} (hE : edgesBack l = true) (hS : sealedB l m = true) {L : Array Bool} (hL : L.size = m) (hcl : ∀ (i : Nat) (o : Oper), l[i]? = some o → (L ++ Array.replicate (l.length - m) false)[i]? = some true → ∀ j ∈ fore o, (L ++ Array.replicate (l.length - m) false)[j]? = some true)
  {p : Nat} (hp : p < m) (hpn : L[p]? = some false) {i : Nat} (hi : i ∈ Region.ready .any l.toArray (L ++ Array.replicate (l.length - m) false)) : i < m ∧ i ∈ Region.ready .any (l.take m).toArray L := by
 obtain ⟨hml, hsl⟩ := sealed_in hS
 have hsz : (L ++ Array.replicate (l.length - m) false).size = l.length := by simp [hL]; omega
 obtain ⟨h1, h2, h3⟩ := ready_ancs hsz hE hcl hi
 have him : i < m := by
  rcases Nat.lt_or_ge i m with h | h
  ·exact h
  ·exfalso
   have := hsl (fun k => k = i ∨ (L ++ Array.replicate (l.length - m) false)[k]? = some true) (fun k o hk hd j hj => h3 k o hk hd j hj) i h h1 (.inl rfl) p (by omega)
   rcases this with h4 | h4
   ·omega
   ·rw [Array.getElem?_append_left (by omega)] at h4
    rw [hpn] at h4; cases h4
 refine ⟨him, ?_⟩
 unfold Region.ready at hi ⊢
 rw [List.mem_filter] at hi ⊢
 refine ⟨by simp; omega, ?_⟩
 have h5 := hi.2
 have e1 : (L ++ Array.replicate (l.length - m) false).getD i true = L.getD i true := by
  rw [Array.getD_eq_getD_getElem?, Array.getD_eq_getD_getElem?, Array.getElem?_append_left (by omega)]
 have e2 : (l.take m).toArray[i]? = l.toArray[i]? := by simp [List.getElem?_take, him]
 rw [e1] at h5
 rw [e2]
 simp only [Bool.and_eq_true] at h5 ⊢
 refine ⟨h5.1, ?_⟩
 have h6 := h5.2
 cases ho : l.toArray[i]? with
 | none => rw [ho] at h6; exact h6
 | some o =>
  rw [ho] at h6
  simp only [Option.map_some, Option.getD_some] at h6 ⊢
  rw [Array.all_eq_true] at h6 ⊢
  intro q hq
  have h7 := h6 q hq
  simp only [Bool.or_eq_true, Bool.not_eq_true'] at h7 ⊢
  rcases hb : Region.binds .any o.after[q] with _ | _
  ·exact .inl rfl
  ·right
   have hlt : o.after[q].on < i := edges_lt hE i o (by simpa using ho) _ (Array.getElem_mem hq) hb
   rcases h7 with h7 | h7
   ·rw [hb] at h7; cases h7
   ·rw [Array.getD_eq_getD_getElem?] at h7 ⊢
    rwa [Array.getElem?_append_left (by omega)] at h7

theorem any_head {P : Program} {C : World → Prop} {l : List Oper} {m : Nat} {Q : Exit → Act → World → Prop} {K : Act → Prop} (hE : edgesBack l = true) (hS : sealedB l m = true) (hG : guardsIn l m = true) (hK : ∀ a w, C w → K a → wpList P l.toArray Q (l.drop m) a w) :
  ∀ (fuel : Nat) (L : Array Bool) (a : Act) (w : World), L.size = m → C w → (∀ (i : Nat) (o : Oper), l[i]? = some o → (L ++ Array.replicate (l.length - m) false)[i]? = some true → ∀ j ∈ fore o, (L ++ Array.replicate (l.length - m) false)[j]? = some true) →
   wpAnyQ P .any (l.take m).toArray C K fuel L a → wpAny P .any l.toArray Q (fuel + (l.length - m)) (L ++ Array.replicate (l.length - m) false) a w := by
 obtain ⟨hml, _⟩ := sealed_in hS
 have hE' : edgesBack (l.take m) = true := by
  unfold edgesBack at hE ⊢
  rw [List.all_eq_true] at hE ⊢
  intro x hx
  refine hE x ?_
  obtain ⟨y, k⟩ := x
  have h1 := List.mem_zipIdx' hx
  refine List.mem_zipIdx_iff_getElem?.2 ?_
  have h2 := List.mem_zipIdx_iff_getElem?.1 hx
  rw [List.getElem?_take] at h2
  split at h2
  ·exact h2
  ·cases h2
 have done : ∀ (fuel : Nat) (L : Array Bool) (a : Act) (w : World), L.size = m → C w → K a → (∀ j, j < m → L[j]? = some true) → wpAny P .any l.toArray Q (fuel + (l.length - m)) (L ++ Array.replicate (l.length - m) false) a w := by
  intro fuel L a w hL hC hk hall
  refine wpAny_tail hE hS (fuel + (l.length - m)) m _ a w (Nat.le_refl _) hml (by omega) (by simp [hL]; omega) (fun j hj => ?_) (fun j h1 h2 => ?_) (hK a w hC hk)
  ·rw [Array.getElem?_append_left (by omega)]; exact hall j hj
  ·rw [Array.getElem?_append_right (by omega)]; simp [Array.getElem?_replicate]; omega
 have full : ∀ (L : Array Bool), L.size = m → (∀ j, j < m → L[j]? = some true) ∨ ∃ p, p < m ∧ L[p]? = some false ∧ ∀ j, j < p → L[j]? = some true := by
  intro L hL
  have key : ∀ k, k ≤ m → (∀ j, j < k → L[j]? = some true) ∨ ∃ p, p < m ∧ L[p]? = some false ∧ ∀ j, j < p → L[j]? = some true := by
   intro k
   induction k with
   | zero => intro _; exact .inl fun j hj => by omega
   | succ k ih =>
    intro hk
    rcases ih (by omega) with h | h
    ·rcases hb : L[k]'(by omega) with _ | _
     ·exact .inr ⟨k, by omega, by rw [Array.getElem?_eq_getElem (by omega), hb], h⟩
     ·left; intro j hj
      rcases Nat.lt_or_ge j k with h2 | h2
      ·exact h j h2
      ·obtain rfl : j = k := by omega
       rw [Array.getElem?_eq_getElem (by omega), hb]
    ·exact .inr h
  exact key m (Nat.le_refl _)
 intro fuel
 induction fuel with
 | zero =>
  intro L a w hL hC hcl h
  rcases full L hL with hall | ⟨p, hp, hpn, hpl⟩
  ·exact done 0 L a w hL hC h.2 hall
  ·have := ready_least (l := l.take m) (listed := L) (by simp [hL]; omega) hE' (by simp; omega) hpn hpl
   rw [h.1] at this; cases this
 | succ fuel ih =>
  intro L a w hL hC hcl h
  rcases full L hL with hall | ⟨p, hp, hpn, hpl⟩
  ·refine done (fuel + 1) L a w hL hC (h.1 ?_) hall
   by_cases hr : Region.ready .any (l.take m).toArray L = []
   ·exact hr
   ·obtain ⟨i, hi⟩ := List.exists_mem_of_ne_nil _ hr
    unfold Region.ready at hi
    rw [List.mem_filter] at hi
    have h1 : i < m := by have := hi.1; simp at this; omega
    have h2 := hi.2
    rw [Array.getD_eq_getD_getElem?, hall i h1] at h2
    simp at h2
  ·rw [show fuel + 1 + (l.length - m) = (fuel + (l.length - m)) + 1 by omega]
   refine ⟨fun h0 => ?_, fun i hi => ?_⟩
   ·have h1 := ready_least (l := l) (listed := L ++ Array.replicate (l.length - m) false) (by simp [hL]; omega) hE (p := p) (by omega) (by rw [Array.getElem?_append_left (by omega)]; exact hpn) (fun j hj => by rw [Array.getElem?_append_left (by omega)]; exact hpl j hj)
    rw [h0] at h1; cases h1
   ·obtain ⟨him, hi'⟩ := ready_take hE hS hL hcl hp hpn hi
    have hq := qOp_take hG him (h.2 i hi')
    refine wpOp_of_qOp hC (fun a' w' hC' hk => ?_) hq
    have e : (L ++ Array.replicate (l.length - m) false).setIfInBounds i true = L.setIfInBounds i true ++ Array.replicate (l.length - m) false := by
     rw [Array.setIfInBounds_append_left (by omega)]
    rw [e]
    refine ih _ a' w' (by simp [hL]) hC' (fun k o hk2 ht j hj => ?_) hk
    obtain ⟨q1, q2, q3⟩ := ready_ancs (l := l) (listed := L ++ Array.replicate (l.length - m) false) (by simp [hL]; omega) hE hcl hi
    rw [← e] at ht ⊢
    rw [Array.getElem?_setIfInBounds] at ht ⊢
    have hk3 : k = i ∨ (L ++ Array.replicate (l.length - m) false)[k]? = some true := by
     by_cases hki : i = k
     ·exact .inl hki.symm
     ·rw [if_neg hki] at ht; exact .inr ht
    rcases q3 k o hk2 hk3 j hj with h4 | h4
    ·subst h4; rw [if_pos rfl, if_pos (by simp [hL]; omega)]
    ·by_cases hji : i = j
     ·subst hji; rw [if_pos rfl, if_pos (by simp [hL]; omega)]
     ·rw [if_neg hji]; exact h4

/-- the first ones leave what was as it was (one walk, in the text's order), the last ones in their order -/
theorem f_quietS {P : Program} {l : List Oper} {id : Nat} {Q : Exit → Act → World → Prop} {a : Act} {w : World} {n : Nat} {S : Slots} (m : Nat) (hS : sealedB l m = true) (hE : edgesBack l = true) (hG : guardsIn l m = true) (hm : P.follows .mixedOrders = true) (hB : Region.lexB .any (l.take m).toArray = true) (hok : SlD ds n S a)
  (h : PsD ds (l.take m).toArray n S [] a → wpQuiet P (l.take m).toArray (Lt w) (fun a' => ∀ w', Lt w w' → wpList P l.toArray Q (l.drop m) a' w') (l.take m) a) : (Code.region id l.toArray true).wp P Q a w := by
 obtain ⟨hml, _⟩ := sealed_in hS
 simp only [Region.lexB, Bool.and_eq_true] at hB
 have h1 := wpAnyQ_lex (P := P) (C := Lt w) (md := .any) (Q := fun a' => ∀ w', Lt w w' → wpList P l.toArray Q (l.drop m) a' w') hB.1 (l.take m) 0 (Array.replicate (l.take m).toArray.size false) a (by simp) (by simpa using hB.2) (h (PsD.start hok))
 refine wp_region_any hm ?_
 have hlen : (l.take m).length = m := by simp; omega
 have h2 := any_head hE hS hG (C := Lt w) (K := fun a' => ∀ w', Lt w w' → wpList P l.toArray Q (l.drop m) a' w') (fun a' w' hw' hk => hk w' hw') (l.take m).length (Array.replicate (l.take m).toArray.size false) a { w with drawn := w.drawn + 1 } (by simp [hlen]) ((Below.refl _ w).drew) (fun i o hi ht => ?_) h1
 ·rw [hlen] at h2
  have e1 : m + (l.length - m) = l.toArray.size := by simp; omega
  have e2 : Array.replicate (l.take m).toArray.size false ++ Array.replicate (l.length - m) false = Array.replicate l.toArray.size false := by
   rw [Array.replicate_append_replicate]; congr 1; simp; omega
  rw [e1, e2] at h2
  exact h2
 ·exfalso
  rw [Array.replicate_append_replicate, Array.getElem?_replicate] at ht
  split at ht
  ·cases ht
  ·cases ht

theorem q_endS {P : Program} {ops ops2 : Array Oper} {tl : List Oper} {Q : Exit → Act → World → Prop} {a : Act} {w : World} {n : Nat} {S S' : Slots} {G : List GV} (hok : PsD ds ops n S G a) (ts : List Nat) (hs : pickS S ts = some S') (h : ∀ w', Below w.heap.size w w' → PsD ds ops2 n S' [] a → wpList P ops2 Q tl a w') : wpQuiet P ops (Lt w) (fun a' => ∀ w', Lt w w' → wpList P ops2 Q tl a' w') [] a :=
 wpQuiet_nil fun w' hw' => h w' hw' (PsD.start (hok.sl.sub hs))

end Go.Proofs.YtglfajjcgbfehaaGreat
