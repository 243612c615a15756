/- A region that draws its order, whose last operations stand behind all others: those ahead by facts, the last ones in their order. -/
import Derived.Test.YtmdoimpeacndaaaSt5
namespace Go.Proofs.Ytmdoimpeacndaaa
open Go.RowKit

/-- from the m-th on, each operation stands behind all ahead of it: the m-th behind all, each further one behind the one just ahead -/
def sealedB (l : List Oper) (m : Nat) : Bool := decide (m ≤ l.length) && (decide (m = l.length) || ((List.range m).all fun j => (ancs l l.length m).contains j)) && (List.range l.length).all fun i => decide (i ≤ m) || match l[i]? with | some o => (fore o).contains (i - 1) | none => false

theorem edges_lt {l : List Oper} (hE : edgesBack l = true) : ∀ i o, l[i]? = some o → ∀ e ∈ o.after, Region.binds .any e = true → e.on < i := by
  intro i o hi e he hb
  unfold edgesBack at hE
  rw [List.all_eq_true] at hE
  have h1 := hE (o, i) (by rw [List.mem_iff_getElem?]; exact ⟨i, by simp [List.getElem?_zipIdx, hi]⟩)
  simp only [Array.all_eq_true'] at h1
  have h2 := h1 e he
  simpa [hb] using h2

theorem fore_lt {l : List Oper} (hE : edgesBack l = true) : ∀ i o, l[i]? = some o → ∀ j ∈ fore o, j < i := by
  intro i o hi j hj
  unfold fore at hj
  obtain ⟨e, he, rfl⟩ := List.mem_map.1 hj
  rw [List.mem_filter] at he
  exact edges_lt hE i o hi e (Array.mem_toList_iff.1 he.1) he.2

/-- what stands ahead of one that may come next is listed -/
theorem ready_ancs {l : List Oper} {listed : Array Bool} (hsz : listed.size = l.length) (hE : edgesBack l = true) (hcl : ∀ (i : Nat) (o : Oper), l[i]? = some o → listed[i]? = some true → ∀ j ∈ fore o, listed[j]? = some true) {i : Nat} (hi : i ∈ Region.ready .any l.toArray listed) : i < l.length ∧ listed[i]? = some false ∧ (∀ k o, l[k]? = some o → (k = i ∨ listed[k]? = some true) → ∀ j ∈ fore o, j = i ∨ listed[j]? = some true) := by
  unfold Region.ready at hi
  rw [List.mem_filter] at hi
  obtain ⟨h1, h2⟩ := hi
  have hil : i < l.length := by simpa using h1
  have hla : l.toArray[i]? = some l[i] := by simp [List.getElem?_eq_getElem hil]
  rw [hla] at h2
  simp only [Option.map_some, Option.getD_some, Bool.and_eq_true, Bool.not_eq_true', Array.all_eq_true'] at h2
  obtain ⟨h3, h4⟩ := h2
  have hif : listed[i]'(by omega) = false := by
    unfold Array.getD at h3
    rw [dif_pos (show i < listed.size by omega)] at h3
    exact h3
  refine ⟨hil, by rw [Array.getElem?_eq_getElem (by omega), hif], fun k o hk hd j2 hj2 => ?_⟩
  rcases hd with rfl | hd
  · right
    have hjk := fore_lt hE k o hk j2 hj2
    unfold fore at hj2
    obtain ⟨e, he, rfl⟩ := List.mem_map.1 hj2
    rw [List.mem_filter] at he
    have ho : o = l[k] := by rw [List.getElem?_eq_getElem hil] at hk; injection hk with hk; exact hk.symm
    subst ho
    have h5 := h4 e (Array.mem_toList_iff.1 he.1)
    simp only [he.2, Bool.not_true, Bool.false_or] at h5
    unfold Array.getD at h5
    rw [dif_pos (show e.on < listed.size by omega)] at h5
    rw [Array.getElem?_eq_getElem (by omega)]
    exact congrArg some h5
  · exact .inr (hcl k o hk hd j2 hj2)

/-- the least one that is not listed may come next -/
theorem ready_least {l : List Oper} {listed : Array Bool} (hsz : listed.size = l.length) (hE : edgesBack l = true) {p : Nat} (hp : p < l.length) (hn : listed[p]? = some false) (hl : ∀ j, j < p → listed[j]? = some true) : p ∈ Region.ready .any l.toArray listed := by
  unfold Region.ready
  rw [List.mem_filter]
  refine ⟨List.mem_range.2 (by simpa using hp), ?_⟩
  have hlj : l.toArray[p]? = some l[p] := by simp [List.getElem?_eq_getElem hp]
  have hgd : listed.getD p true = false := by
    unfold Array.getD
    rw [dif_pos (show p < listed.size by omega)]
    rw [Array.getElem?_eq_getElem (by omega)] at hn
    injection hn
  rw [hgd, hlj]
  simp only [Bool.not_false, Bool.true_and, Option.map_some, Option.getD_some]
  rw [Array.all_eq_true']
  intro e he
  cases hbd : Region.binds .any e with
  | false => rfl
  | true =>
    have hlt := edges_lt hE p l[p] (List.getElem?_eq_getElem hp) e he hbd
    have := hl e.on hlt
    have hlt2 : e.on < listed.size := by omega
    rw [Array.getElem?_eq_getElem hlt2] at this
    unfold Array.getD
    rw [dif_pos hlt2]
    simp at this
    simp [this]

/-- what is closed under forerunners and holds of the i-th one holds of all ahead of it -/
theorem sealed_in {l : List Oper} {m : Nat} (h : sealedB l m = true) : m ≤ l.length ∧ ∀ (D : Nat → Prop), (∀ i o, l[i]? = some o → D i → ∀ j ∈ fore o, D j) → ∀ i, m ≤ i → i < l.length → D i → ∀ j, j < i → D j := by
  unfold sealedB at h
  simp only [Bool.and_eq_true, decide_eq_true_eq, List.all_eq_true, List.mem_range, Bool.or_eq_true, List.contains_eq_mem] at h
  obtain ⟨⟨h1, h2⟩, h3⟩ := h
  refine ⟨h1, fun D hD i => ?_⟩
  induction i with
  | zero => intro _ _ _ j hj; omega
  | succ i ih =>
    intro hm hl hd j hj
    by_cases he : i + 1 = m
    · rcases h2 with h2 | h2
      · omega
      · have h4 := h2 j (by omega)
        rw [← he] at h4
        exact ancs_in hD l.length (i + 1) hd j h4
    · have h5 : D i := by
        rcases h3 (i + 1) hl with h4 | h4
        · omega
        · rw [List.getElem?_eq_getElem hl] at h4
          simp only [Nat.add_sub_cancel, decide_eq_true_eq] at h4
          exact hD (i + 1) _ (List.getElem?_eq_getElem hl) hd i h4
      by_cases hji : j = i
      · subst hji; exact h5
      · exact ih (by omega) (by omega) h5 j (by omega)

/-- the last ones, in their order -/
theorem wpAny_tail {P : Program} {l : List Oper} {Q : Exit → Act → World → Prop} {m : Nat} (hE : edgesBack l = true) (hS : sealedB l m = true) : ∀ (fuel p : Nat) (listed : Array Bool) (a : Act) (w : World), m ≤ p → p ≤ l.length → l.length - p ≤ fuel → listed.size = l.length → (∀ j, j < p → listed[j]? = some true) → (∀ j, p ≤ j → j < l.length → listed[j]? = some false) → wpList P l.toArray Q (l.drop p) a w → wpAny P .any l.toArray Q fuel listed a w := by
  obtain ⟨_, hS⟩ := sealed_in hS
  have hcl : ∀ (p : Nat) (listed : Array Bool), (∀ j, j < p → listed[j]? = some true) → (∀ j, p ≤ j → j < l.length → listed[j]? = some false) → ∀ (i : Nat) (o : Oper), l[i]? = some o → listed[i]? = some true → ∀ j ∈ fore o, listed[j]? = some true := by
    intro p listed h1 h2 i o hi hl j hj
    refine h1 j ?_
    have := fore_lt hE i o hi j hj
    by_cases hip : i < p
    · omega
    · have hil := (List.getElem?_eq_some_iff.1 hi).1
      rw [h2 i (by omega) hil] at hl
      cases hl
  have hone : ∀ (p : Nat) (listed : Array Bool), m ≤ p → listed.size = l.length → (∀ j, j < p → listed[j]? = some true) → (∀ j, p ≤ j → j < l.length → listed[j]? = some false) → ∀ i ∈ Region.ready .any l.toArray listed, i = p := by
    intro p listed hm hsz h1 h2 i hi
    obtain ⟨hil, hn, ha⟩ := ready_ancs hsz hE (hcl p listed h1 h2) hi
    by_cases hip : i < p
    · rw [h1 i hip] at hn; cases hn
    · by_cases hpe : i = p
      · exact hpe
      · rcases hS _ ha i (by omega) hil (.inl rfl) p (by omega) with h | h
        · exact h.symm
        · rw [h2 p (Nat.le_refl _) (by omega)] at h; cases h
  intro fuel
  induction fuel with
  | zero =>
    intro p listed a w hm hp hf hsz h1 h2 h
    have hpl : p = l.length := by omega
    subst hpl
    have hr : Region.ready .any l.toArray listed = [] := List.eq_nil_iff_forall_not_mem.2 fun i hi => by
      have h3 := (ready_ancs hsz hE (hcl _ listed h1 h2) hi).1
      have h4 := hone _ listed hm hsz h1 h2 i hi
      omega
    refine ⟨hr, ?_⟩
    simpa [wpList] using h
  | succ fuel ih =>
    intro p listed a w hm hp hf hsz h1 h2 h
    by_cases hpl : p = l.length
    · subst hpl
      have hr : ∀ i, i ∉ Region.ready .any l.toArray listed := fun i hi => by
        have h3 := (ready_ancs hsz hE (hcl _ listed h1 h2) hi).1
        have h4 := hone _ listed hm hsz h1 h2 i hi
        omega
      exact ⟨fun _ => by simpa [wpList] using h, fun i hi => absurd hi (hr i)⟩
    · have hp' : p < l.length := by omega
      have hmem := ready_least hsz hE hp' (h2 p (Nat.le_refl _) hp') h1
      refine ⟨fun he => (by rw [he] at hmem; cases hmem), fun i hi => ?_⟩
      have := hone p listed hm hsz h1 h2 i hi
      subst this
      rw [List.drop_eq_getElem_cons hp'] at h
      have hla : l.toArray[i]? = some l[i] := by simp [List.getElem?_eq_getElem hp']
      have h3 : wpOp P l.toArray Q i (wpList P l.toArray Q (l.drop (i + 1))) a w := by
        unfold wpOp
        rw [hla]
        unfold wpList at h
        exact h
      refine wpOp_mono (fun a' w' hk => ?_) h3
      refine ih (i + 1) _ a' w' (by omega) (by omega) (by omega) (by simpa using hsz) (fun j hj => ?_) (fun j hj hjl => ?_) hk
      · by_cases hji : j = i
        · subst hji; rw [Array.getElem?_setIfInBounds_self, if_pos (by omega)]
        · rw [Array.getElem?_setIfInBounds_ne (fun e => hji e.symm)]; exact h1 j (by omega)
      · rw [Array.getElem?_setIfInBounds_ne (by omega)]; exact h2 j (by omega) hjl

/-- the first ones by facts, the last ones in their order -/
theorem wp_region_FS {P : Program} {l : List Oper} {id : Nat} {Q : Exit → Act → World → Prop} {a : Act} {w : World} (hm : P.follows .mixedOrders = true) (hE : edgesBack l = true) (hN : (dsts l).Nodup) (m : Nat) (hS : sealedB l m = true)
    (C : World → Prop) (F : Nat → Value → World → Prop) (hC : C w.drew) (hops : owesF P l.toArray C F a l (l.take m) 0)
    (hend : ∀ (vals : Nat → Value) (w' : World), C w' → (∀ j, j < m → F j (vals j) w') → (∀ j, m ≤ j → j < l.length → vals j = orig l a j) → wpList P l.toArray Q (l.drop m) (putAll a vals l 0) w') :
    (Code.region id l.toArray true).wp P Q a w := by
  refine wp_region_any hm ?_
  obtain ⟨hml, _⟩ := sealed_in hS
  have key : ∀ (fuel : Nat) (listed : Array Bool) (vals : Nat → Value) (w' : World), listed.size = l.length → (listed.toList.take m).count false + (l.length - m) ≤ fuel → C w' →
      (∀ (i : Nat) (o : Oper), l[i]? = some o → listed[i]? = some true → ∀ j ∈ fore o, listed[j]? = some true) →
      (∀ j, m ≤ j → j < l.length → listed[j]? = some false) →
      (∀ (j : Nat), listed[j]? = some true → F j (vals j) w') →
      (∀ (j : Nat), listed[j]? = some false → vals j = orig l a j) →
      wpAny P .any l.toArray Q fuel listed (putAll a vals l 0) w' := by
    intro fuel
    have hdone : ∀ (fuel : Nat) (listed : Array Bool) (vals : Nat → Value) (w' : World), listed.size = l.length → l.length - m ≤ fuel → C w' → (∀ j, m ≤ j → j < l.length → listed[j]? = some false) → (∀ (j : Nat), listed[j]? = some true → F j (vals j) w') → (∀ (j : Nat), listed[j]? = some false → vals j = orig l a j) → (∀ j, j < m → listed[j]? = some true) → wpAny P .any l.toArray Q fuel listed (putAll a vals l 0) w' := by
      intro fuel listed vals w' hsz hfu hc hlo hf hor hall
      exact wpAny_tail hE hS fuel m listed _ _ (Nat.le_refl _) hml hfu hsz hall hlo (hend vals w' hc (fun j hj => hf j (hall j hj)) (fun j hj hjl => hor j (hlo j hj hjl)))
    induction fuel with
    | zero =>
      intro listed vals w' hsz hc hg hcl hlo hf hor
      refine hdone 0 listed vals w' hsz (by omega) hg hlo hf hor fun j hj => ?_
      have hjs : j < listed.size := by omega
      cases hb : listed[j] with
      | true => rw [Array.getElem?_eq_getElem hjs, hb]
      | false =>
        have h4 : false ∈ listed.toList.take m := List.mem_take_iff_getElem.2 ⟨j, by rw [Array.length_toList]; omega, by simpa using hb⟩
        have := List.count_pos_iff.2 h4
        omega
    | succ fuel ih =>
      intro listed vals w' hsz hc hg hcl hlo hf hor
      by_cases hall : ∀ j, j < m → listed[j]? = some true
      · exact hdone _ listed vals w' hsz (by omega) hg hlo hf hor hall
      have hready : Region.ready .any l.toArray listed ≠ [] := by
        intro hr
        refine hall fun j => ?_
        induction j using Nat.strongRecOn with
        | _ j ihj =>
          intro hj
          have hjs : j < listed.size := by omega
          cases hb : listed[j] with
          | true => rw [Array.getElem?_eq_getElem hjs, hb]
          | false =>
            have hmem := ready_least hsz hE (p := j) (by omega) (by rw [Array.getElem?_eq_getElem hjs, hb]) (fun k hk => ihj k hk (by omega))
            rw [hr] at hmem
            cases hmem
      refine ⟨fun hr => absurd hr hready, fun i hi => ?_⟩
      have him : i < m := by
        obtain ⟨hil, hn, ha⟩ := ready_ancs hsz hE hcl hi
        by_cases h : i < m
        · exact h
        · exfalso
          refine hall fun j hj => ?_
          rcases (sealed_in hS).2 _ ha i (by omega) hil (.inl rfl) j (by omega) with h1 | h1
          · omega
          · exact h1
      unfold Region.ready at hi
      rw [List.mem_filter] at hi
      obtain ⟨h1, h2⟩ := hi
      have hil : i < l.length := by simpa using h1
      have hli : l[i]? = some l[i] := List.getElem?_eq_getElem hil
      have hla : l.toArray[i]? = some l[i] := by simp [hli]
      rw [hla] at h2
      simp only [Option.map_some, Option.getD_some, Bool.and_eq_true, Bool.not_eq_true', Array.all_eq_true'] at h2
      obtain ⟨h3, h4⟩ := h2
      have hif : listed[i]'(by omega) = false := by
        unfold Array.getD at h3
        rw [dif_pos (show i < listed.size by omega)] at h3
        exact h3
      have hforel : ∀ j ∈ fore l[i], listed[j]? = some true := by
        intro j hj
        unfold fore at hj
        obtain ⟨e, he, rfl⟩ := List.mem_map.1 hj
        rw [List.mem_filter] at he
        have h5 := h4 e (Array.mem_toList_iff.1 he.1)
        simp only [he.2, Bool.not_true, Bool.false_or] at h5
        have hlt := edges_lt hE i l[i] hli e (Array.mem_toList_iff.1 he.1) he.2
        unfold Array.getD at h5
        rw [dif_pos (show e.on < listed.size by omega)] at h5
        rw [Array.getElem?_eq_getElem (by omega)]
        exact congrArg some h5
      have hpre : ∀ j ∈ need l[i], F j (vals j) w' := fun j hj => hf j (hforel j (need_fore hj))
      have hlate : ∀ j, later l (0 + i) j = true → vals j = orig l a j := by
        intro j hj
        unfold later at hj
        simp only [Bool.and_eq_true, decide_eq_true_eq, Bool.or_eq_true, beq_iff_eq, Nat.zero_add] at hj
        refine hor j ?_
        have hjs : j < listed.size := by omega
        rw [Array.getElem?_eq_getElem hjs]
        rcases hj.2 with hji | hji
        · subst hji; rw [hif]
        · cases hb : listed[j] with
          | false => rfl
          | true =>
            exfalso
            have h9 := ancs_in (D := fun i => listed[i]? = some true) hcl l.length j (by rw [Array.getElem?_eq_getElem hjs, hb]) i (by simpa using hji)
            rw [Array.getElem?_eq_getElem (by omega), hif] at h9
            cases h9
      have ho := owesF_at (l.take m) 0 hops i l[i] (by rw [List.getElem?_take_of_lt him]; exact hli) vals w' hg hpre hlate
      simp only [Nat.zero_add] at ho
      have hcont : ∀ v w'', Kp l C F i w' w'' → F i v w'' → wpAny P .any l.toArray Q fuel (listed.setIfInBounds i true) ((putAll a vals l 0).put l[i].dst v) w'' := by
        intro v w'' hg' hf'
        rw [putAll_put v l 0 a i l[i] hli hN, Nat.zero_add]
        have hset : ∀ j, (listed.setIfInBounds i true)[j]? = some true → j ≠ i → listed[j]? = some true := fun j hj hne => by
          rw [Array.getElem?_setIfInBounds_ne (fun e => hne e.symm)] at hj
          exact hj
        have hset2 : ∀ j, listed[j]? = some true → (listed.setIfInBounds i true)[j]? = some true := fun j hj => by
          by_cases hji : i = j
          · subst hji
            rw [Array.getElem?_setIfInBounds_self, if_pos (by omega)]
          · rw [Array.getElem?_setIfInBounds_ne hji]; exact hj
        have hseti : (listed.setIfInBounds i true)[i]? = some true := by
          rw [Array.getElem?_setIfInBounds_self, if_pos (by omega)]
        refine ih _ _ _ (by simpa using hsz) ?_ hg'.1 (fun k o hk hlk j hj => ?_) (fun j hj hjl => ?_) (fun j hj => ?_) (fun j hj => ?_)
        · have hcs : ((listed.setIfInBounds i true).toList.take m).count false + 1 = (listed.toList.take m).count false := by
            rw [Array.toList_setIfInBounds, List.take_set]
            have hi' : i < (listed.toList.take m).length := by rw [List.length_take, Array.length_toList]; omega
            rw [List.count_set hi']
            have : (listed.toList.take m)[i] = false := by simpa using hif
            rw [this]
            have hpos : 0 < (listed.toList.take m).count false := List.count_pos_iff.2 (this ▸ List.getElem_mem hi')
            rw [if_pos (by rfl), if_neg (by decide)]
            omega
          omega
        · by_cases hki : k = i
          · subst hki
            rw [hli] at hk
            injection hk with hk
            subst hk
            exact hset2 j (hforel j hj)
          · exact hset2 j (hcl k o hk (hset k hlk hki) j hj)
        · rw [Array.getElem?_setIfInBounds_ne (by omega)]; exact hlo j hj hjl
        · unfold upd
          split
          · rename_i e; subst e; exact hf'
          · rename_i hne
            have hlj := hset j hj hne
            refine hg'.2 j _ (by have := (Array.getElem?_eq_some_iff.1 hlj).1; omega) hne ?_ (hf j hlj)
            simp only [List.contains_eq_mem, decide_eq_false_iff_not]
            intro hin
            have := ancs_in (D := fun i => listed[i]? = some true) hcl _ _ hlj _ hin
            rw [Array.getElem?_eq_getElem (by omega), hif] at this
            cases this
        · by_cases hji : j = i
          · subst hji
            rw [hseti] at hj
            cases hj
          · rw [Array.getElem?_setIfInBounds_ne (fun e => hji e.symm)] at hj
            simp only [upd, if_neg hji]
            exact hor j hj
      unfold wpOp
      rw [hla]
      exact Oper.wp_of_OpPost ho hcont
  have h0 : putAll a (orig l a) l 0 = a := putAll_same _ l 0 a (fun j o hj => by rw [Nat.zero_add]; unfold orig; rw [hj]; rfl)
  have h1 := key l.length (Array.replicate l.length false) (orig l a) w.drew (by simp) (by simp [List.count_replicate]; omega) hC (fun i o hi hl => by simp [Array.getElem?_replicate] at hl) (fun j hj hjl => by simp [Array.getElem?_replicate, hjl]) (fun j hj => by simp [Array.getElem?_replicate] at hj) (fun j hj => rfl)
  rw [h0] at h1
  simpa using h1

/-- from what is known of the frame: the first ones by facts, the last ones in their order -/
theorem f_regionFS {P : Program} {l : List Oper} {id : Nat} {Q : Exit → Act → World → Prop} {a : Act} {w : World} {n : Nat} {S : Slots} (hok : Sl n S a) (m : Nat) (hS : sealedB l m = true) (hm : P.follows .mixedOrders = true) (hE : edgesBack l = true) (hN : (dsts l).Nodup) (hd : (dsts l).all (decide <| · < n) = true)
    (C : World → Prop) (F : Nat → Value → World → Prop) (hC : C w.drew)
    (hops : ∀ fr : (Nat → Value) → Act, (∀ vals, Sl n (regS vals l 0 ++ S.filter (fun p => !(dsts l).contains p.1)) (fr vals)) → (∀ vals, fr vals = putAll a vals l 0) → owesF P l.toArray C F a l (l.take m) 0)
    (hend : ∀ (vals : Nat → Value) (a' : Act) (w' : World), Ps l.toArray n (regS vals l 0 ++ S.filter (fun p => !(dsts l).contains p.1)) [] a' → C w' → (∀ j, j < m → F j (vals j) w') → wpList P l.toArray Q (l.drop m) a' w') :
    (Code.region id l.toArray true).wp P Q a w :=
  wp_region_FS hm hE hN m hS C F hC (hops (fun vals => putAll a vals l 0) (fun vals => hok.reg hN hd vals) (fun _ => rfl)) fun vals w' hc hf _ => hend vals _ w' (Ps.start (hok.reg hN hd vals)) hc hf

theorem Ps.sub {ops : Array Oper} {n : Nat} {S S' : Slots} {G : List GV} {a : Act} (h : Ps ops n S G a) {ts : List Nat} (e : pickS S ts = some S') : Ps ops n S' G a := ⟨h.sl.sub e, h.gv⟩

/-- a store over all of a block -/
theorem putCells_over : ∀ (us pre cs : List Value), us.length = cs.length → putCells (pre ++ cs) pre.length us = pre ++ us
  | [], pre, [], _ => rfl
  | u :: us, pre, c :: cs, h => by
    have := putCells_over us (pre ++ [u]) cs (by simpa using h)
    simp only [putCells]
    rw [List.set_append_right _ _ (Nat.le_refl _), Nat.sub_self, List.set_cons_zero]
    simpa using this

theorem putCells_all {cs us : List Value} (h : us.length = cs.length) : putCells cs 0 us = us := by simpa using putCells_over us [] cs h

theorem ones_all {us : List Value} (h : us.all (·.oneCell') = true) : ∀ u ∈ us, u.oneCell' = true := List.all_eq_true.1 h

section frules
variable {P : Program} (T : Tab P) {ops : Array Oper} {all : List Oper} {C : World → Prop} {F : Nat → Value → World → Prop} {a : Act} {w : World} {o : Oper} {n k : Nat} {S : Slots}

theorem F_bslice {t e m : Nat} {ps : Array (Nat × Operand)} {vs : List (Nat × Value)} {cs : List Value} (hS : Sl n S a) (hg : o.guard = none) (ho : o.op = .buildSlice t m ps)
    (hx : (ps.toList.mapM fun p => (evS S p.2).map fun v => (p.1, v)) = some vs)
    (hr : ∀ w : World, (Instr.buildSlice t m vs.toArray).run P w = .ok (.slice (some ⟨w.heap.size, 0, none⟩) m m) (w.alloc (.cells cs.toArray e)))
    (h : ∀ w' b, b = w.heap.size → Below w.heap.size w w' → Box w' b e cs → Kp all C F k w w' ∧ F k (.slice (some ⟨b, 0, none⟩) m m) w') : wpList P ops (OpPost (Kp all C F k) (F k) a o.dst w) [o] a w := by
  obtain ⟨h1, h2, h3⟩ := new_box w cs e
  have hm : ∀ (l : List (Nat × Operand)) (vs : List (Nat × Value)), (l.mapM fun p => (evS S p.2).map fun v => (p.1, v)) = some vs → l.map (fun p => (p.1, a.eval p.2)) = vs := by
    intro l
    induction l with
    | nil => intro vs h; simp at h; simp [h]
    | cons p l ih =>
      intro vs h
      simp only [List.mapM_cons, Option.bind_eq_bind, Option.bind_eq_some_iff] at h
      obtain ⟨u, hu, us, hus, h⟩ := h
      injection h with h; subst h
      obtain ⟨v, hv, rfl⟩ := Option.map_eq_some_iff.1 hu
      rw [List.map_cons, hS.ev hv, ih _ hus]
  have e1 : (ps.map fun (i, x) => (i, a.eval x)) = vs.toArray := by
    apply Array.toList_inj.1
    rw [Array.toList_map, ← hm _ _ hx]
  obtain ⟨h4, h5⟩ := h _ _ rfl h2 h3
  refine wpList_run hg (v := .slice (some ⟨w.heap.size, 0, none⟩) m m) (w' := w.alloc (.cells cs.toArray e)) ?_ ⟨_, rfl, h4, h5⟩
  unfold execOp
  simp only [ho, e1, Sem.run_bind, hr, Result.andThen_ok]
  rfl

end frules

end Go.Proofs.Ytmdoimpeacndaaa
