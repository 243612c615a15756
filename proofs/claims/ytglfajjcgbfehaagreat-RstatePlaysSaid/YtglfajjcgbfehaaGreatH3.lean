/- A region that draws its order, some of whose operations turn the world, these one behind the other: by the stage that it has come to. Every other operation is shown at each stage at which it may come up. No program is named here. -/
import Derived.Test.YtglfajjcgbfehaaGreatH2
import Derived.LoopN
namespace Go.Proofs.YtglfajjcgbfehaaGreat
open Go.RowKit
variable {ds : List Deferred}

theorem wp_region_L {P : Program} {l : List Oper} {id : Nat} {Q : Exit → Act → World → Prop} {a : Act} {w : World} (hm : P.follows .mixedOrders = true) (hE : edgesBack l = true) (hN : (dsts l).Nodup)
  (C : (Nat → Bool) → (Nat → Value) → World → Prop) (hC : C (fun _ => false) (orig l a) w.drew)
  (hops : ∀ i o, l[i]? = some o → ∀ (L : Nat → Bool) (vals : Nat → Value) (w' : World), C L vals w' → L i = false → (∀ j ∈ fore o, L j = true) → (∀ k o', l[k]? = some o' → L k = true → ∀ j ∈ fore o', L j = true) →
   ∃ Fv : Value → World → Prop, wpList P l.toArray (OpPost (fun _ _ => True) Fv (putAll a vals l 0) o.dst w') [o] (putAll a vals l 0) w' ∧ ∀ v y, Fv v y → C (fun j => L j || j == i) (upd vals i v) y)
  (hend : ∀ (L : Nat → Bool) (vals : Nat → Value) (w' : World), C L vals w' → (∀ j, j < l.length → L j = true) → Q .normal (putAll a vals l 0) w') :
  (Code.region id l.toArray true).wp P Q a w := by
 refine wp_region_any hm ?_
 have key : ∀ (fuel : Nat) (listed : Array Bool) (vals : Nat → Value) (w' : World), listed.size = l.length → listed.toList.count false ≤ fuel → C (fun j => listed.getD j false) vals w' →
   (∀ (i : Nat) (o : Oper), l[i]? = some o → listed[i]? = some true → ∀ j ∈ fore o, listed[j]? = some true) →
   wpAny P .any l.toArray Q fuel listed (putAll a vals l 0) w' := by
  intro fuel
  have gd : ∀ (listed : Array Bool) (j : Nat), listed.getD j false = true ↔ listed[j]? = some true := fun listed j => by
   unfold Array.getD
   split
   ·rename_i h; rw [Array.getElem?_eq_getElem h]; simp
   ·rename_i h; rw [Array.getElem?_eq_none (by omega)]; simp
  have hdone : ∀ (listed : Array Bool) (vals : Nat → Value) (w' : World), listed.size = l.length → C (fun j => listed.getD j false) vals w' → Region.ready .any l.toArray listed = [] → Q .normal (putAll a vals l 0) w' := by
   intro listed vals w' hsz hg hr
   refine hend _ vals w' hg fun j hj => (gd _ _).2 ?_
   have hall : ∀ n, ∀ j, j < n → j < l.length → listed[j]? = some true := by
    intro n
    induction n with
    | zero => intro j hj; omega
    | succ n ih =>
     intro j hj hjl
     by_cases hjn : j < n
     ·exact ih j hjn hjl
     ·have hj' : j = n := by omega
      subst hj'
      cases hb : listed[j]'(by omega) with
      | true => rw [Array.getElem?_eq_getElem (by omega), hb]
      | false =>
       exfalso
       have hmem := ready_least hsz hE hjl (by rw [Array.getElem?_eq_getElem (by omega), hb]) (fun k hk => ih k hk (by omega))
       rw [hr] at hmem
       cases hmem
   exact hall l.length j hj hj
  induction fuel with
  | zero =>
   intro listed vals w' hsz hc hg hcl
   have hnone : Region.ready .any l.toArray listed = [] := by
    apply List.eq_nil_iff_forall_not_mem.2
    intro j hj
    obtain ⟨hjl, h3, _⟩ := ready_ancs hsz hE hcl hj
    have h4 : false ∈ listed.toList := by
     rw [Array.mem_toList_iff]
     exact Array.mem_of_getElem? h3
    have := List.count_pos_iff.2 h4
    omega
   exact ⟨hnone, hdone listed vals w' hsz hg hnone⟩
  | succ fuel ih =>
   intro listed vals w' hsz hc hg hcl
   refine ⟨hdone listed vals w' hsz hg, fun i hi => ?_⟩
   obtain ⟨hil, hif, hnext⟩ := ready_ancs hsz hE hcl hi
   have hlo : l[i]? = some l[i] := List.getElem?_eq_getElem hil
   have hla : l.toArray[i]? = some l[i] := by simp [hlo]
   have hfore : ∀ j ∈ fore l[i], listed[j]? = some true := fun j hj => by
    rcases hnext i l[i] hlo (.inl rfl) j hj with h | h
    ·have := fore_lt hE i l[i] hlo j hj; omega
    ·exact h
   obtain ⟨Fv, ho, hFv⟩ := hops i l[i] hlo (fun j => listed.getD j false) vals w' hg (by
    cases hx : listed.getD i false with
    | false => rfl
    | true => rw [(gd _ _).1 hx] at hif; cases hif) (fun j hj => (gd _ _).2 (hfore j hj)) (fun k o' hk hlk j hj => (gd _ _).2 (hcl k o' hk ((gd _ _).1 hlk) j hj))
   have hcont : ∀ v w'', True → Fv v w'' → wpAny P .any l.toArray Q fuel (listed.setIfInBounds i true) ((putAll a vals l 0).put l[i].dst v) w'' := by
    intro v w'' _ hg'
    replace hg' := hFv v w'' hg'
    rw [putAll_put v l 0 a i l[i] hlo hN, Nat.zero_add]
    have hset : ∀ j, (listed.setIfInBounds i true)[j]? = some true → j ≠ i → listed[j]? = some true := fun j hj hne => by
     rw [Array.getElem?_setIfInBounds_ne (fun e => hne e.symm)] at hj
     exact hj
    have hset2 : ∀ j, listed[j]? = some true → (listed.setIfInBounds i true)[j]? = some true := fun j hj => by
     by_cases hji : i = j
     ·subst hji
      rw [Array.getElem?_setIfInBounds_self, if_pos (by omega)]
     ·rw [Array.getElem?_setIfInBounds_ne hji]; exact hj
    have hseti : (listed.setIfInBounds i true)[i]? = some true := by
     rw [Array.getElem?_setIfInBounds_self, if_pos (by omega)]
    have hfun : (fun j => (listed.setIfInBounds i true).getD j false) = (fun j => listed.getD j false || j == i) := by
     funext j
     rw [Bool.eq_iff_iff, gd, Bool.or_eq_true, gd, beq_iff_eq]
     constructor
     ·intro h
      by_cases hji : j = i
      ·exact .inr hji
      ·exact .inl (hset j h hji)
     ·rintro (h | rfl)
      ·exact hset2 j h
      ·exact hseti
    refine ih _ _ _ (by simpa using hsz) ?_ (by rw [hfun]; exact hg') (fun k o hk hlk j hj => ?_)
    ·have hcs : (listed.setIfInBounds i true).toList.count false + 1 = listed.toList.count false := by
      rw [Array.toList_setIfInBounds]
      have hi' : i < listed.toList.length := by rw [Array.length_toList]; omega
      rw [List.count_set hi']
      have : listed.toList[i] = false := by
       have h9 := hif
       rw [Array.getElem?_eq_getElem (by omega)] at h9
       simpa using h9
      rw [this]
      have hpos : 0 < listed.toList.count false := List.count_pos_iff.2 (this ▸ List.getElem_mem hi')
      rw [if_pos (by rfl), if_neg (by decide)]
      omega
     omega
    ·by_cases hki : k = i
     ·subst hki
      rw [hlo] at hk
      injection hk with hk
      subst hk
      exact hset2 j (hfore j hj)
     ·exact hset2 j (hcl k o hk (hset k hlk hki) j hj)
   unfold wpOp
   rw [hla]
   exact Oper.wp_of_OpPost ho hcont
 have h0 : putAll a (orig l a) l 0 = a := putAll_same _ l 0 a (fun j o hj => by rw [Nat.zero_add]; unfold orig; rw [hj]; rfl)
 have h1 := key l.length (Array.replicate l.length false) (orig l a) w.drew (by simp) (by simp) (by
  have : (fun j => (Array.replicate l.length false).getD j false) = fun _ => false := by
   funext j; unfold Array.getD; split <;> simp
  rw [this]; exact hC) (fun i o hi hl => by simp [Array.getElem?_replicate] at hl)
 rw [h0] at h1
 simpa using h1

/-- the forerunners of each operation, as bits -/
def masks : List Oper → List Nat → List Nat
 | [], acc => acc
 | o :: r, acc => masks r (acc ++ [(fore o).foldl (fun m j => m ||| ((1 <<< j) ||| acc.getD j 0)) 0])

theorem foldl_bit (acc : List Nat) (q : Nat) : ∀ (js : List Nat) (m : Nat), (js.foldl (fun m j => m ||| ((1 <<< j) ||| acc.getD j 0)) m).testBit q = true → m.testBit q = true ∨ ∃ j ∈ js, q = j ∨ (acc.getD j 0).testBit q = true
 | [], m, h => .inl h
 | j :: js, m, h => by
  rw [List.foldl_cons] at h
  rcases foldl_bit acc q js _ h with h1 | ⟨j', h1, h2⟩
  ·rw [Nat.testBit_or, Bool.or_eq_true, Nat.testBit_or, Bool.or_eq_true] at h1
   rcases h1 with h1 | h1 | h1
   ·exact .inl h1
   ·refine .inr ⟨j, by simp, .inl ?_⟩
    rw [Nat.one_shiftLeft, Nat.testBit_two_pow] at h1
    simpa using (of_decide_eq_true h1).symm
   ·exact .inr ⟨j, by simp, .inr h1⟩
  ·exact .inr ⟨j', by simp [h1], h2⟩

theorem masks_in {D : Nat → Prop} {all : List Oper} (hD : ∀ i o, all[i]? = some o → D i → ∀ j ∈ fore o, D j) : ∀ (l : List Oper) (acc : List Nat), (∀ i o, l[i]? = some o → all[acc.length + i]? = some o) → (∀ i q, (acc.getD i 0).testBit q = true → D i → D q) → ∀ i q, ((masks l acc).getD i 0).testBit q = true → D i → D q
 | [], acc, _, ha, i, q, h, hi => ha i q h hi
 | o :: r, acc, hl, ha, i, q, h, hi => by
  refine masks_in hD r _ (fun i o' hi => ?_) (fun i q h hi => ?_) i q h hi
  ·rw [List.length_append, show acc.length + [(fore o).foldl (fun m j => m ||| ((1 <<< j) ||| acc.getD j 0)) 0].length + i = acc.length + (i + 1) by simp; omega]
   exact hl (i + 1) o' (by simpa using hi)
  ·by_cases h1 : i < acc.length
   ·rw [List.getD_eq_getElem?_getD, List.getElem?_append_left h1, ← List.getD_eq_getElem?_getD] at h
    exact ha i q h hi
   ·by_cases h2 : i = acc.length
    ·subst h2
     rw [List.getD_eq_getElem?_getD, List.getElem?_append_right (Nat.le_refl _), Nat.sub_self] at h
     simp only [List.getElem?_cons_zero, Option.getD_some] at h
     rcases foldl_bit acc q _ _ h with h3 | ⟨j, h3, h4⟩
     ·simp at h3
     ·have h5 := hD _ o (hl 0 o rfl) hi j h3
      rcases h4 with rfl | h4
      ·exact h5
      ·exact ha j q h4 h5
    ·rw [List.getD_eq_getElem?_getD, List.getElem?_eq_none (by simp; omega)] at h
     simp at h

/-- for each operation: the bits of its forerunners, the least and the last stage at which it may come up; E: those that turn the world -/
def okTab (l : List Oper) (E : List Nat) (tb : List (Nat × Nat × Nat)) : Bool :=
 masks l [] == tb.map (·.1) && decide E.Nodup && E.all (decide <| · < l.length) &&
 ((List.range E.length).all fun i => (List.range i).all fun j => (tb.getD (E.getD i 0) (0, 0, 0)).1.testBit (E.getD j 0)) &&
 (List.range l.length).all fun k => let t := tb.getD k (0, 0, 0)
  decide (t.2.1 ≤ E.countP fun e => t.1.testBit e) && (if E.contains k then decide (E.idxOf k ≤ t.2.2) else decide (E.length ≤ t.2.2) || (decide (t.2.2 < E.length) && (tb.getD (E.getD t.2.2 0) (0, 0, 0)).1.testBit k))

def owesL (P : Program) (ops : Array Oper) (E : List Nat) (F : Nat → Value → Prop) (G : Nat → (Nat → Value) → World → Prop) (a : Act) (all : List Oper) : List Oper → List (Nat × Nat × Nat) → Nat → Prop
 | o :: r, (m, lo, hi) :: tb, k => (∀ s, lo ≤ s → s ≤ hi → ∀ (vals : Nat → Value) (w' : World), G s vals w' → (∀ j, m.testBit j = true → F j (vals j)) → wpList P ops (OpPost (fun _ _ => True) (fun v y => F k v ∧ G (if E.contains k then s + 1 else s) (upd vals k v) y) (putAll a vals all 0) o.dst w') [o] (putAll a vals all 0) w') ∧ owesL P ops E F G a all r tb (k + 1)
 | _, _, _ => True

theorem owesL_at {P : Program} {ops : Array Oper} {E : List Nat} {F : Nat → Value → Prop} {G : Nat → (Nat → Value) → World → Prop} {a : Act} {all : List Oper} : ∀ (l : List Oper) (tb : List (Nat × Nat × Nat)) (k : Nat), owesL P ops E F G a all l tb k → ∀ i o m lo hi, l[i]? = some o → tb[i]? = some (m, lo, hi) →
  ∀ s, lo ≤ s → s ≤ hi → ∀ (vals : Nat → Value) (w' : World), G s vals w' → (∀ j, m.testBit j = true → F j (vals j)) → wpList P ops (OpPost (fun _ _ => True) (fun v y => F (k + i) v ∧ G (if E.contains (k + i) then s + 1 else s) (upd vals (k + i) v) y) (putAll a vals all 0) o.dst w') [o] (putAll a vals all 0) w'
 | [], _, _, _, i, o, _, _, _, h, _ => by simp at h
 | _ :: _, [], _, _, i, o, _, _, _, _, h => by simp at h
 | x :: r, (m', lo', hi') :: tb, k, h, i, o, m, lo, hi, h1, h2 => by
  cases i with
  | zero => simp at h1 h2; obtain ⟨rfl, rfl, rfl⟩ := h2; subst h1; exact h.1
  | succ i =>
   have := owesL_at r tb (k + 1) h.2 i o m lo hi (by simpa using h1) (by simpa using h2)
   rw [show k + 1 + i = k + (i + 1) by omega] at this
   exact this

/-- one operation's duty, behind a wall: nothing looks into it -/
structure WpL (P : Program) (ops : Array Oper) (Fv : Value → World → Prop) (o : Oper) (a : Act) (w : World) : Prop where
 h : wpList P ops (OpPost (fun _ _ => True) Fv a o.dst w) [o] a w

theorem owesL.cons {P : Program} {ops : Array Oper} {E : List Nat} {F : Nat → Value → Prop} {G : Nat → (Nat → Value) → World → Prop} {a : Act} {all : List Oper} {o : Oper} {r : List Oper} {m lo hi : Nat} {tb : List (Nat × Nat × Nat)} {k : Nat}
  (h1 : ∀ s, lo ≤ s → s ≤ hi → ∀ (vals : Nat → Value) (w' : World), G s vals w' → (∀ j, m.testBit j = true → F j (vals j)) → WpL P ops (fun v y => F k v ∧ G (if E.contains k then s + 1 else s) (upd vals k v) y) o (putAll a vals all 0) w')
  (h2 : owesL P ops E F G a all r tb (k + 1)) : owesL P ops E F G a all (o :: r) ((m, lo, hi) :: tb) k := ⟨fun s a b vals w' c d => (h1 s a b vals w' c d).h, h2⟩

theorem owesL.nil {P : Program} {ops : Array Oper} {E : List Nat} {F : Nat → Value → Prop} {G : Nat → (Nat → Value) → World → Prop} {a : Act} {all : List Oper} {k : Nat} : owesL P ops E F G a all [] [] k := trivial

theorem countP_upd {E : List Nat} {L : Nat → Bool} {k : Nat} (hn : E.Nodup) (hk : k ∈ E) (hL : L k = false) : E.countP (fun j => L j || j == k) = E.countP L + 1 := by
 induction E with
 | nil => cases hk
 | cons e E ih =>
  rw [List.nodup_cons] at hn
  rw [List.countP_cons, List.countP_cons]
  by_cases he : e = k
  ·subst he
   have : E.countP (fun j => L j || j == e) = E.countP L := List.countP_congr fun x hx => by
    have : x ≠ e := fun h => hn.1 (h ▸ hx)
    simp [this]
   rw [this]; simp [hL]
  ·have hk' : k ∈ E := by simpa [Ne.symm he] using hk
   rw [ih hn.2 hk']
   have : (L e || e == k) = L e := by simp [he]
   rw [this]; omega

theorem countP_le_of {E : List Nat} {L : Nat → Bool} (i : Nat) (hi : i < E.length) (h : ∀ j (hj : j < E.length), i ≤ j → L E[j] = false) : E.countP L ≤ i := by
 have e : E = E.take i ++ E.drop i := (List.take_append_drop i E).symm
 rw [e, List.countP_append]
 have h1 : (E.drop i).countP L = 0 := by
  rw [List.countP_eq_zero]
  intro x hx
  obtain ⟨q, hq, rfl⟩ := List.getElem_of_mem hx
  rw [List.length_drop] at hq
  rw [List.getElem_drop]
  have := h (i + q) (by omega) (by omega)
  simp [this]
 have h2 : (E.take i).countP L ≤ (E.take i).length := List.countP_le_length
 rw [List.length_take] at h2
 omega

theorem f_regionL {P : Program} {l : List Oper} {id : Nat} {Q : Exit → Act → World → Prop} {a : Act} {w : World} {n : Nat} {S : Slots} (hok : SlD ds n S a) (hm : P.follows .mixedOrders = true) (hE : edgesBack l = true) (hN : (dsts l).Nodup) (hd : (dsts l).all (decide <| · < n) = true)
  (E : List Nat) (tb : List (Nat × Nat × Nat)) (htb : okTab l E tb = true) (F : Nat → Value → Prop) (G : Nat → (Nat → Value) → World → Prop) (hG : ∀ vals, G 0 vals w.drew)
  (hops : ∀ fr : (Nat → Value) → Act, (∀ vals, SlD ds n (regS vals l 0 ++ S.filter (fun p => !(dsts l).contains p.1)) (fr vals)) → (∀ vals, fr vals = putAll a vals l 0) → owesL P l.toArray E F G a l l tb 0)
  (hend : ∀ (vals : Nat → Value) (a' : Act) (w' : World), SlD ds n (regS vals l 0 ++ S.filter (fun p => !(dsts l).contains p.1)) a' → G E.length vals w' → (∀ j, j < l.length → F j (vals j)) → Q .normal a' w') :
  (Code.region id l.toArray true).wp P Q a w := by
 unfold okTab at htb
 simp only [Bool.and_eq_true, beq_iff_eq, decide_eq_true_eq, List.all_eq_true, List.mem_range] at htb
 obtain ⟨⟨⟨⟨h1, h2⟩, h3⟩, h4⟩, h5⟩ := htb
 have hlen : tb.length = l.length := by
  have h6 := congrArg List.length h1
  have : ∀ (l : List Oper) (acc : List Nat), (masks l acc).length = acc.length + l.length := by
   intro l
   induction l with
   | nil => intro acc; simp [masks]
   | cons o r ih => intro acc; rw [masks, ih]; simp; omega
  rw [this] at h6
  simpa using h6.symm
 have hmask : ∀ k, (masks l []).getD k 0 = (tb.getD k (0, 0, 0)).1 := fun k => by
  rw [h1, List.getD_eq_getElem?_getD, List.getD_eq_getElem?_getD, List.getElem?_map]
  cases tb[k]? <;> rfl
 refine wp_region_L hm hE hN (fun L vals w' => (∀ j, j < l.length → L j = true → F j (vals j)) ∧ G (E.countP L) vals w') ⟨fun _ _ h => (by cases h), ?_⟩ (fun i o hi L vals w' hC hLi hf hcl => ?_) (fun L vals w' hC hL => ?_)
 ·have : E.countP (fun _ => false) = 0 := by simp
  rw [this]; exact hG _
 ·have hil : i < l.length := (List.getElem?_eq_some_iff.1 hi).1
  have hanc : ∀ (i : Nat) (q : Nat), (tb.getD i (0, 0, 0)).1.testBit q = true → L i = true → L q = true := fun i q h hL =>
   masks_in (D := fun i => L i = true) (fun i o hi h => hcl i o hi h) l [] (fun i o h => by simpa using h) (fun i q h => by simp at h) i q (by rw [hmask]; exact h) hL
  -- the forerunners of the operation at hand are listed
  have hanc2 : ∀ q, (tb.getD i (0, 0, 0)).1.testBit q = true → L q = true ∧ q < l.length := fun q h => by
   have h6 := masks_in (D := fun k => k = i ∨ L k = true) (fun k o' hk h j hj => by
    rcases h with rfl | h
    ·rw [hi] at hk; injection hk with hk; subst hk; exact .inr (hf j hj)
    ·exact .inr (hcl k o' hk h j hj)) l [] (fun i o h => by simpa using h) (fun i q h => by simp at h) i q (by rw [hmask]; exact h) (.inl rfl)
   have h7 := masks_in (D := fun k => k ≤ i) (fun k o' hk h j hj => by have := fore_lt hE k o' hk j hj; omega) l [] (fun i o h => by simpa using h) (fun i q h => by simp at h) i q (by rw [hmask]; exact h) (Nat.le_refl i)
   have hne : q ≠ i := fun e => by
    subst e
    have h8 := masks_in (D := fun k => k < q ∨ L k = true) (fun k o' hk h j hj => by
     rcases h with h | h
     ·have := fore_lt hE k o' hk j hj; exact .inl (by omega)
     ·exact .inr (hcl k o' hk h j hj)) l [] (fun i o h => by simpa using h) (fun i q h => by simp at h)
    -- a forerunner stands strictly ahead
    have key : ∀ (l' : List Oper) (acc : List Nat), (∀ i o, l'[i]? = some o → l[acc.length + i]? = some o) → (∀ i q, (acc.getD i 0).testBit q = true → q < i) → ∀ i q, ((masks l' acc).getD i 0).testBit q = true → q < i := by
     intro l'
     induction l' with
     | nil => intro acc _ ha i q h; exact ha i q h
     | cons o r ih =>
      intro acc hl ha
      refine ih _ (fun i o' hi => ?_) (fun i q h => ?_)
      ·rw [List.length_append, show acc.length + [(fore o).foldl (fun m j => m ||| ((1 <<< j) ||| acc.getD j 0)) 0].length + i = acc.length + (i + 1) by simp; omega]
       exact hl (i + 1) o' (by simpa using hi)
      ·by_cases h1 : i < acc.length
       ·rw [List.getD_eq_getElem?_getD, List.getElem?_append_left h1, ← List.getD_eq_getElem?_getD] at h
        exact ha i q h
       ·by_cases h2 : i = acc.length
        ·subst h2
         rw [List.getD_eq_getElem?_getD, List.getElem?_append_right (Nat.le_refl _), Nat.sub_self] at h
         simp only [List.getElem?_cons_zero, Option.getD_some] at h
         rcases foldl_bit acc q _ _ h with h3 | ⟨j, h3, h4⟩
         ·simp at h3
         ·have h5 := fore_lt hE _ o (hl 0 o rfl) j h3
          rcases h4 with rfl | h4
          ·exact h5
          ·have := ha j q h4; omega
        ·rw [List.getD_eq_getElem?_getD, List.getElem?_eq_none (by simp; omega)] at h
         simp at h
    have := key l [] (fun i o h => by simpa using h) (fun i q h => by simp at h) q q (by rw [hmask]; exact h)
    omega
   exact ⟨h6.resolve_left hne, by omega⟩
  have htb : tb[i]? = some (tb.getD i (0, 0, 0)) := by
   rw [List.getD_eq_getElem?_getD, List.getElem?_eq_getElem (by omega)]; rfl
  have h6 := h5 i hil
  obtain ⟨hlo, hhi⟩ := h6
  have hlo2 : (tb.getD i (0, 0, 0)).2.1 ≤ E.countP L := Nat.le_trans hlo (List.countP_mono_left fun e _ he => (hanc2 e he).1)
  have hchain : ∀ j j' (hj : j < E.length) (hj' : j' < E.length), j ≤ j' → L E[j'] = true → L E[j] = true := fun j j' hj hj' hle h => by
   by_cases e : j = j'
   ·subst e; exact h
   ·have := h4 j' hj' j (by omega)
    rw [getD_get _ _ _ hj', getD_get _ _ _ hj] at this
    exact hanc _ _ this h
  have hstage : ∀ j (hj : j < E.length), L E[j] = false → E.countP L ≤ j := fun j hj h => countP_le_of j hj fun q hq hle => by
   cases hx : L E[q] with
   | false => rfl
   | true => rw [hchain j q hj hq hle hx] at h; cases h
  have hhi2 : E.countP L ≤ (tb.getD i (0, 0, 0)).2.2 := by
   split at hhi
   ·rename_i hc
    have hc' : i ∈ E := by simpa using hc
    have hlt := List.idxOf_lt_length_of_mem hc'
    have := hstage (E.idxOf i) hlt (by rw [List.getElem_idxOf]; exact hLi)
    have := of_decide_eq_true hhi
    omega
   ·rw [Bool.or_eq_true, Bool.and_eq_true] at hhi
    rcases hhi with hh | ⟨hh, hb⟩
    ·have h7 := of_decide_eq_true hh
     have : E.countP L ≤ E.length := List.countP_le_length
     omega
    ·have hlt := of_decide_eq_true hh
     refine hstage _ hlt ?_
     cases hx : L E[(tb.getD i (0, 0, 0)).2.2] with
     | false => rfl
     | true =>
      rw [getD_get E _ _ hlt] at hb
      rw [hanc _ _ hb hx] at hLi; cases hLi
  have ho := owesL_at l tb 0 (hops (fun vals => putAll a vals l 0) (fun vals => hok.reg hN hd vals) (fun _ => rfl)) i o _ _ _ hi htb (E.countP L) hlo2 hhi2 vals w' hC.2 (fun j hj => hC.1 j (hanc2 j hj).2 (hanc2 j hj).1)
  rw [Nat.zero_add] at ho
  refine ⟨_, ho, fun v w'' ⟨hFv, hGv⟩ => ⟨fun j hj hLj => ?_, ?_⟩⟩
  ·unfold upd
   split
   ·rename_i e; subst e; exact hFv
   ·rename_i hne; exact hC.1 j hj (by simpa [hne] using hLj)
  ·have : E.countP (fun j => L j || j == i) = if E.contains i then E.countP L + 1 else E.countP L := by
    split
    ·rename_i hc; exact countP_upd h2 (by simpa using hc) hLi
    ·rename_i hc
     refine List.countP_congr fun x hx => ?_
     have : x ≠ i := fun e => by subst e; exact hc (by simpa using hx)
     simp [this]
   rw [this]; exact hGv
 ·refine hend vals _ w' (hok.reg hN hd vals) ?_ (fun j hj => hC.1 j hj (hL j hj))
  have : E.countP L = E.length := by
   rw [List.countP_eq_length]
   exact fun e he => hL e (h3 e he)
  rw [← this]; exact hC.2

/-- what is kept of a region's beginning, and what lies there at a stage -/
structure Gx (I0 D : Dm) (w0 : World) (I : Dm) (w xw : World) (cs : List Ch) : Prop where
 keep : Keep I w xw
 ex : ∃ I', (∀ k, I k → I' k) ∧ Hf I0 D w0 I' xw cs

theorem st1 {k s : Nat} (h1 : k ≤ s) (h2 : s ≤ k + 1) : s = k ∨ s = k + 1 := by omega

theorem st2 {k s : Nat} (h1 : k ≤ s) (h2 : s ≤ k + 2) : s = k ∨ s = k + 1 ∨ s = k + 2 := by omega

theorem st3 {k s : Nat} (h1 : k ≤ s) (h2 : s ≤ k + 3) : s = k ∨ s = k + 1 ∨ s = k + 2 ∨ s = k + 3 := by omega

theorem Gx.start {I0 D : Dm} {w0 : World} {I : Dm} {w : World} {cs : List Ch} (H : Hf I0 D w0 I w cs) : Gx I0 D w0 I w w.drew cs := ⟨Keep.below (Below.refl _ _).drew, I, fun _ h => h, H.blw (Below.refl _ _).drew⟩

theorem Gx.go {I0 D : Dm} {w0 : World} {I I2 I3 : Dm} {w x y : World} {cs cs' : List Ch} (h : Gx I0 D w0 I w x cs) (hI : ∀ k, I k → I2 k) (hk : Keep I2 x y) (h3 : ∀ k, I2 k → I3 k) (H : Hf I0 D w0 I3 y cs') : Gx I0 D w0 I w y cs' :=
 ⟨⟨Nat.le_trans h.keep.1 hk.1, fun k a b => (hk.2 k (hI k a) (Nat.lt_of_lt_of_le b h.keep.1)).trans (h.keep.2 k a b)⟩, I3, fun k a => h3 k (hI k a), H⟩

theorem Gx.blw {I0 D : Dm} {w0 : World} {I : Dm} {w x y : World} {cs : List Ch} (h : Gx I0 D w0 I w x cs) (hb : Below x.heap.size x y) : Gx I0 D w0 I w y cs := by
 obtain ⟨I2, h2, H⟩ := h.ex
 exact h.go h2 (Keep.below hb) (fun _ h => h) (H.blw hb)

theorem At.keep {w w' : World} {b off : Nat} {cl : List Value} {I : Dm} (h : At w b off cl) (hk : Keep I w w') (hI : I b) (hb : b < w.heap.size) : At w' b off cl := fun j v hv => by
 have := h j v hv
 unfold World.cell? at this ⊢
 simp only [hk.2 b hI hb]
 exact this

theorem Hf.bxI {I0 D : Dm} {w0 : World} {I : Dm} {w : World} {cs : List Ch} (H : Hf I0 D w0 I w cs) (i : Nat) {b : Nat} {t : TypeId} {l : List Value} (h : cs[i]? = some (BxC b t l)) : ¬ I b := fun hI => by
 obtain ⟨f, hf, h2⟩ := H.get i h
 exact (h2 b ((hf.1 b).2 rfl)).1 hI

/-- parts of a value -/
def aoOf : Value → Option Addr | .slice a _ _ => a | _ => none

def capOf : Value → Nat | .slice _ _ c => c | _ => 0

def blkOf : Value → Nat | .pointer (some a) => a.block | .slice (some a) _ _ => a.block | _ => 0

theorem slF {v : Value} {n : Nat} (h : ∃ ao cap, v = .slice ao n cap ∧ n ≤ cap ∧ cap ≤ maxLen) : v = .slice (aoOf v) n (capOf v) ∧ n ≤ capOf v ∧ capOf v ≤ maxLen := by
 obtain ⟨ao, cap, rfl, h1, h2⟩ := h
 exact ⟨rfl, h1, h2⟩

def aggAt (v : Value) (i : Nat) : Value := match v with | .agg vs => vs.getD i undef | _ => undef

def tupAt (v : Value) (i : Nat) : Value := match v with | .tuple vs => vs.getD i undef | _ => undef

section lrules
variable {P : Program} (T : Tab P) {ops : Array Oper} {Fv : Value → World → Prop} {a : Act} {w : World} {o : Oper} {n : Nat} {S : Slots}
variable {I0 D : Dm} {w0 : World} {I : Dm} {cs : List Ch}

theorem L_val {v : Value} (hS : SlD ds n S a) (hg : o.guard = none) (hob : Ob P (evS S) o v w) (h : Fv v w) : WpL P ops Fv o a w :=
 ⟨wpList_ob (fun x u hx => hS.ev hx) hob (wanted_none hg _) ⟨v, rfl, trivial, h⟩⟩

theorem L_call {f : Nat} {c : Call} {fv : Operand} {caps : Array Value} {vs : List Value} {R : Value → World → Prop} (hS : SlD ds n S a) (hf : IsFn P f) (hg : o.guard = none) (ho : o.op = .call c) (hcv : c.callee = .value fv) (hfv : evS S fv = some (.func (.func f) #[] caps))
  (hx : c.args.toList.mapM (evS S) = some vs) (hc : Calls P f (vs.toArray ++ caps) w (Ret R)) (h : ∀ v w', R v w' → Fv v w') : WpL P ops Fv o a w := by
 refine ⟨?_⟩
 have e1 : c.args.map a.eval = vs.toArray := by
  apply Array.toList_inj.1
  rw [Array.toList_map, evs_map (fun x u hx => hS.ev hx) _ _ hx]
 exact wpList_call hg (run_callv hf ho hcv (hS.ev hfv) e1) hc fun v w' hr => ⟨v, rfl, trivial, h v w' hr⟩

theorem L_hcall (H : Hf I0 D w0 I w cs) {js : List (Nat × Bool)} {cin rst : List Ch} (hp : pickN js cs = some (cin, rst)) {f : Nat} {c : Call} {fv : Operand} {caps : Array Value} {vs : List Value} {R : Dm → Value → World → Prop} (hS : SlD ds n S a) (hf : IsFn P f) (hg : o.guard = none) (ho : o.op = .call c) (hcv : c.callee = .value fv) (hfv : evS S fv = some (.func (.func f) #[] caps))
  (hx : c.args.toList.mapM (evS S) = some vs) (hc : ∀ D1, St I D1 w cin → Calls P f (vs.toArray ++ caps) w (Ret (R D1)))
  (h : ∀ v w' D1, R D1 v w' → (∀ {I' co}, Hf I D1 w I' w' co → Keep I w w' ∧ Hf I0 D w0 I' w' (co ++ rst)) → Fv v w') : WpL P ops Fv o a w := by
 refine ⟨?_⟩
 obtain ⟨D1, h1, h2⟩ := H.call hp
 exact (L_call hS hf hg ho hcv hfv hx (hc D1 h1) fun v w' hr => h v w' D1 hr fun K => ⟨⟨K.frm.size, fun k hk hl => K.frm.block k hl fun hd => (h1.sep k hd).1 hk⟩, h2 K⟩).h

theorem L_store (H : Hf I0 D w0 I w cs) (i : Nat) {t e b off m : Nat} {g : Bool} {p x : Operand} {v : Value} {cl us cl' : List Value} (hi : cs[i]? = some (BxC b e cl)) (hS : SlD ds n S a) (hg : o.guard = none) (ho : o.op = .store t p x) (hd : o.dst = none)
  (hp : evS S p = some (.pointer (some ⟨b, off, none⟩))) (hx : evS S x = some v) (hus : v.cells = us.toArray) (ht : T.sz t = some (m, g)) (hm : us.length = m) (h1 : ∀ u ∈ us, u.oneCell' = true) (hlt : off + us.length ≤ cl.length) (hcs : putCells cl off us = cl')
  (h : ∀ w', Keep I w w' → Hf I0 D w0 I w' (BxC b e cl' :: cs.eraseIdx i) → Fv undef w') : WpL P ops Fv o a w := by
 refine ⟨?_⟩
 obtain ⟨w', hr, hb', htn⟩ := run_storeCells_box (P := P) us 0 off cl w (H.bx i hi) (by omega) h1
 have h2 := h w' (htn.keep fun hI => H.bxI i hi hI) (H.store i hi htn (by rw [← hcs]; simpa using hb'))
 refine wpList_skip hg (w' := w') ?_ hd ⟨undef, by rw [hd]; rfl, trivial, h2⟩
 unfold execOp
 have hsz := (T.hsz ht w).2
 simp [ho, hS.ev hp, hS.ev hx, Instr.storeAt, Instr.sureAddr, storeVar, hsz, hus, hm, hr]

theorem L_bslice (H : Hf I0 D w0 I w cs) {t e m : Nat} {ps : Array (Nat × Operand)} {vs : List (Nat × Value)} {cl : List Value} (hS : SlD ds n S a) (hg : o.guard = none) (ho : o.op = .buildSlice t m ps)
  (hx : (ps.toList.mapM fun p => (evS S p.2).map fun v => (p.1, v)) = some vs)
  (hr : ∀ w : World, (Instr.buildSlice t m vs.toArray).run P w = .ok (.slice (some ⟨w.heap.size, 0, none⟩) m m) (w.alloc (.cells cl.toArray e)))
  (h : ∀ w' b, Keep I w w' → Hf I0 D w0 I w' (BxC b e cl :: cs) → Fv (.slice (some ⟨b, 0, none⟩) m m) w') : WpL P ops Fv o a w := by
 refine ⟨?_⟩
 obtain ⟨h1, h2, h3⟩ := new_box w cl e
 have hm : ∀ (l : List (Nat × Operand)) (vs : List (Nat × Value)), (l.mapM fun p => (evS S p.2).map fun v => (p.1, v)) = some vs → l.map (fun p => (p.1, a.eval p.2)) = vs := by
  intro l
  induction l with
  | nil => intro vs h; simp at h; simp [h]
  | cons p l ih =>
   intro vs h
   simp only [List.mapM_cons, Option.bind_eq_bind, Option.bind_eq_some_iff] at h
   obtain ⟨u, hu, us, hus, h⟩ := h
   injection h with h; subst h
   obtain ⟨v, hv, rfl⟩ := Option.map_eq_some_iff.1 hu
   rw [List.map_cons, hS.ev hv, ih _ hus]
 have e1 : (ps.map fun (i, x) => (i, a.eval x)) = vs.toArray := by
  apply Array.toList_inj.1
  rw [Array.toList_map, ← hm _ _ hx]
 refine wpList_run hg (v := .slice (some ⟨w.heap.size, 0, none⟩) m m) (w' := w.alloc (.cells cl.toArray e)) ?_ ⟨_, rfl, trivial, h _ _ (Keep.below h2) (H.newbx h2 rfl h3)⟩
 unfold execOp
 simp only [ho, e1, Sem.run_bind, hr, Result.andThen_ok]
 rfl

theorem L_app (H : Hf I0 D w0 I w cs) (i : Nat) {t e m bytes : Nat} {s x : Operand} {α : Type} {R : Rp α} (E : Elem P t e m bytes) {vs vx : Value} {l : List α} (l2 : List α) (hi : cs[i]? = some (OwC R e vs l)) (hn : R.n = m)
  (hS : SlD ds n S a) (hg : o.guard = none) (ho : o.op = .call { callee := .builtin .append, args := #[s, x], argTypes := #[t, t] })
  (hs : evS S s = some vs) (hx : evS S x = some vx) (hsrc : slRep2 R AnyA I w vx l2)
  (h63 : l.length + l2.length ≤ maxLen) (hbytes : (l.length + l2.length) * bytes ≤ 140737488355328)
  (h : ∀ ao cap w', Keep I w w' → Hf I0 D w0 I w' (OwC R e (.slice ao (l ++ l2).length cap) (l ++ l2) :: cs.eraseIdx i) → (l ++ l2).length ≤ cap → cap ≤ maxLen → Fv (.slice ao (l ++ l2).length cap) w') : WpL P ops Fv o a w := by
 refine ⟨?_⟩
 have hown := H.ow i hi
 obtain ⟨v', w', hr, h2, h3, h4⟩ := run_app2 (P := P) o.type E hn hown hsrc (fun cl y hr => R.mono hr (fun k hk => ⟨hk, H.ownI i hi k hk⟩) (Keep.refl _ _)) h63 hbytes (Nat.zero_le _)
 have h5 := run_app_own (P := P) o.type E hn hown hsrc h63 hbytes hr
 obtain ⟨ao, cap, rfl, hc, hm⟩ := h2.len_le
 have h8 : ∀ k, (Value.slice ao (l ++ l2).length cap).ownBlock = some k → k < w'.heap.size := fun k hk => by
  rcases h5 k hk with h6 | ⟨h6, h7⟩
  ·exact Nat.lt_of_lt_of_le (H.owlt i hi k h6) h3.size
  ·exact (h2.gLt (fun e => h7 (List.append_eq_nil_iff.1 e).2) k hk).2
 refine wpList_run hg (v := .slice ao (l ++ l2).length cap) (w' := w') ?_ ⟨_, rfl, trivial, h ao cap w' ⟨h3.size, fun k hk hl => h4.blk k hl (H.ownI i hi k hk)⟩ (H.app i hi h2 h3 h4.blk (fun k hk => (h5 k hk).imp id (·.1)) h8) hc hm⟩
 unfold execOp
 simp only [ho, resolve, invoke, builtin, Sem.run_bind, Sem.run_pure, Result.andThen_ok, List.map_toArray, List.map_cons, List.map_nil, hS.ev hs, hS.ev hx, hr]

end lrules

end Go.Proofs.YtglfajjcgbfehaaGreat
