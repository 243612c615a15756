/- A region that draws its order, by one fact for each operation's value: each operation is shown once, from the facts of those that must come ahead of it; no order is walked. -/
import Derived.Test.YtmdoimpeacndaaaBase
import Derived.Orders
namespace Go.Proofs.Ytmdoimpeacndaaa
open Go.RowKit

/-- what one operation comes to: its value, with its fact, in a later world -/
def OpPost (G : World → World → Prop) (F : Value → World → Prop) (a : Act) (dst : Option Tmp) (w : World) : Exit → Act → World → Prop
  | .normal, a', w' => ∃ v, a' = a.put dst v ∧ G w w' ∧ F v w'
  | _, _, _ => False

theorem OpPost.mk {G : World → World → Prop} {F : Value → World → Prop} {a a' : Act} {dst : Option Tmp} {w w' : World} (v : Value) (h : a' = a.put dst v) (hg : G w w') (hf : F v w') : OpPost G F a dst w .normal a' w' := ⟨v, h, hg, hf⟩

/-- the frame, the region's slots filled by 'vals' -/
def putAll (a : Act) (vals : Nat → Value) : List Oper → Nat → Act
  | [], _ => a
  | o :: r, k => putAll (a.put o.dst (vals k)) vals r (k + 1)

def dsts (l : List Oper) : List Tmp := l.filterMap (·.dst)

theorem put_putAll {vals : Nat → Value} (v : Value) : ∀ (l : List Oper) (k : Nat) (a : Act) (d : Option Tmp), (∀ t, d = some t → t ∉ dsts l) → (putAll a vals l k).put d v = putAll (a.put d v) vals l k
  | [], _, _, _, _ => rfl
  | o :: r, k, a, d, h => by
    simp only [putAll]
    rw [put_putAll v r (k + 1) _ d (fun t ht hm => h t ht (by unfold dsts at *; cases hd : o.dst <;> simp [hd, hm]))]
    congr 1
    refine Act.put_comm a _ _ (fun t ht he => ?_)
    exact h t he (by simp [dsts, ht])

theorem putAll_congr {vals vals' : Nat → Value} : ∀ (l : List Oper) (k : Nat) (a : Act), (∀ j, k ≤ j → j < k + l.length → vals j = vals' j) → putAll a vals l k = putAll a vals' l k
  | [], _, _, _ => rfl
  | o :: r, k, a, h => by
    simp only [putAll]
    rw [h k (Nat.le_refl _) (by simp), putAll_congr r (k + 1) _ (fun j h1 h2 => h j (by omega) (by simp at h2 ⊢; omega))]

def upd (vals : Nat → Value) (i : Nat) (v : Value) : Nat → Value := fun j => if j = i then v else vals j

theorem putAll_put {vals : Nat → Value} (v : Value) : ∀ (l : List Oper) (k : Nat) (a : Act) (j : Nat) (o : Oper), l[j]? = some o → (dsts l).Nodup → (putAll a vals l k).put o.dst v = putAll a (upd vals (k + j) v) l k
  | [], _, _, _, _, h, _ => by simp at h
  | x :: r, k, a, j, o, h, hn => by
    simp only [putAll]
    cases j with
    | zero =>
      simp at h
      subst h
      have hnr : ∀ t, x.dst = some t → t ∉ dsts r := fun t ht hm => by
        simp [dsts, ht] at hn
        simp [dsts] at hm
        obtain ⟨y, hy1, hy2⟩ := hm
        exact hn.1 y hy1 hy2
      rw [put_putAll v r (k + 1) _ x.dst hnr]
      have e1 : upd vals (k + 0) v k = v := by simp [upd]
      rw [e1, putAll_congr (vals := vals) (vals' := upd vals (k + 0) v) r (k + 1) _ (fun j h1 h2 => by simp [upd]; omega)]
      congr 1
      cases x.dst <;> simp [Act.put]
    | succ j =>
      have h' : r[j]? = some o := by simpa using h
      have hn' : (dsts r).Nodup := by
        cases hd : x.dst <;> simp [dsts, hd] at hn ⊢
        · exact hn
        · exact hn.2
      have e1 : upd vals (k + (j + 1)) v k = vals k := by simp [upd]
      rw [e1, putAll_put v r (k + 1) _ j o h' hn']
      rw [show k + 1 + j = k + (j + 1) by omega]

theorem put_same (a : Act) (d : Option Tmp) : a.put d (match d with | some d => a.tmps.getD d undef | none => undef) = a := by
  cases d with
  | none => rfl
  | some d =>
    obtain ⟨t, ds⟩ := a
    simp only [Act.put]
    congr 1
    apply Array.ext (by simp)
    intro i h1 h2
    rw [Array.getElem_setIfInBounds (by simpa using h1)]
    split
    · rename_i e; subst e; simp at h2 ⊢; rw [Array.getElem?_eq_getElem h2]; rfl
    · rfl

theorem putAll_same (vals : Nat → Value) : ∀ (l : List Oper) (k : Nat) (a : Act), (∀ j o, l[j]? = some o → vals (k + j) = match o.dst with | some d => a.tmps.getD d undef | none => undef) → putAll a vals l k = a
  | [], _, _, _ => rfl
  | o :: r, k, a, h => by
    simp only [putAll]
    have h0 := h 0 o rfl
    simp only [Nat.add_zero] at h0
    rw [h0, put_same]
    exact putAll_same vals r (k + 1) a (fun j x hx => by
      have := h (j + 1) x (by simpa using hx)
      rw [show k + 1 + j = k + (j + 1) by omega]
      exact this)

/-- every edge that binds leads back -/
def edgesBack (l : List Oper) : Bool := l.zipIdx.all fun x => x.1.after.all fun e => !Region.binds .any e || decide (e.on < x.2)

/-- the direct forerunners of an operation -/
def fore (o : Oper) : List Nat := (o.after.toList.filter fun e => Region.binds .any e).map (·.on)

theorem Oper.wp_of_OpPost {P : Program} {o : Oper} {a : Act} {w : World} {G : World → World → Prop} {F : Value → World → Prop} {Q : Exit → Act → World → Prop} {K : Act → World → Prop} {ops : Array Oper}
    (h : wpList P ops (OpPost G F a o.dst w) [o] a w) (hK : ∀ v w', G w w' → F v w' → K (a.put o.dst v) w') :
    if Region.wanted o (yielded ops a.tmps) then o.wp P a w K Q ∨ (o.asks P a w ∧ LetsOut Q) else K (a.put o.dst undef) w := by
  have hnorm : ∀ a' w', OpPost G F a o.dst w .normal a' w' → K a' w' := fun a' w' ⟨v, e, hg, hf⟩ => by subst e; exact hK v w' hg hf
  unfold wpList at h
  split
  · rename_i hw
    rw [if_pos hw] at h
    rcases h with h | ⟨_, a', w', hf⟩
    · left
      unfold Oper.wp at h ⊢
      generalize (execOp a.eval o).run P w = r at h ⊢
      cases r with
      | ok n w' =>
        cases n with
        | value v => exact hnorm _ _ h
        | skip => exact hnorm _ _ h
        | defer d =>
          obtain ⟨v, e, _⟩ := (show OpPost G F a o.dst w .normal _ w' from h)
          exfalso
          have h1 := congrArg Act.defers e
          cases hd : o.dst <;> simp [hd, Act.put] at h1
        | enter f args =>
          simp only [Oper.upon] at h ⊢
          refine Calls.mono h fun e w'' he => ?_
          cases e with
          | returned v => exact hnorm _ _ he
          | panicked c => exact (he : False).elim
          | outgrown => obtain ⟨_, _, hf⟩ := he; exact (hf : False).elim
        | row row args =>
          simp only [Oper.upon] at h ⊢
          exact Rows.mono h fun v w'' he => hnorm _ _ he
        | _ => exact (h : False).elim
      | halt x w' => cases x <;> simp only [Oper.upon] at h ⊢ <;> exact (h : False).elim
    · exact (hf : False).elim
  · rename_i hw
    rw [if_neg hw] at h
    exact hnorm _ _ h

/-- those whose value it looks at -/
def need (o : Oper) : List Nat := (o.after.toList.filter fun e => Region.binds .any e && (match e.ground with | .data => true | .guard => true | _ => false)).map (·.on)
theorem need_fore {o : Oper} {j : Nat} (h : j ∈ need o) : j ∈ fore o := by
  unfold need at h
  obtain ⟨e, he, rfl⟩ := List.mem_map.1 h
  rw [List.mem_filter] at he
  unfold fore
  refine List.mem_map.2 ⟨e, List.mem_filter.2 ⟨he.1, ?_⟩, rfl⟩
  have := he.2
  simp only [Bool.and_eq_true] at this
  exact this.1

/-- the forerunners of an operation, and theirs -/
def ancs (l : List Oper) : Nat → Nat → List Nat
  | 0, _ => []
  | n + 1, i => match l[i]? with
    | none => []
    | some o => fore o ++ (fore o).flatMap (ancs l n)

/-- does a dirty operation i, when it comes up, take away what was known of j's value? -/
def kills (l : List Oper) (dirty pur : List Nat) (i j : Nat) : Bool := dirty.contains i && !pur.contains j && i != j && !(ancs l l.length j).contains i
/-- nobody wants to know what a dirty operation may have taken away -/
def deadOk (l : List Oper) (dirty pur : List Nat) : Bool :=
  (List.range l.length).all fun i => (List.range l.length).all fun j => !kills l dirty pur i j || (l.zipIdx.all fun x => !(need x.1).contains j || x.2 == i || (ancs l l.length i).contains x.2)
def alive (l : List Oper) (dirty pur : List Nat) (j : Nat) : Bool := (List.range l.length).all fun i => !kills l dirty pur i j

def stepRel (G : World → World → Prop) (dirty : List Nat) (k : Nat) : World → World → Prop := match dirty.contains k with | true => G | false => fun x y => Below x.heap.size x y

/-- what a region's slot held ahead of it -/
def orig (l : List Oper) (a : Act) (j : Nat) : Value := match (l[j]?).bind (·.dst) with | some d => a.tmps.getD d undef | none => undef
/-- j cannot have come up ahead of k -/
def later (l : List Oper) (k j : Nat) : Bool := decide (j < l.length) && (j == k || (ancs l l.length j).contains k)

/-- no dirty operation can have come up ahead of k -/
def clearFor (l : List Oper) (dirty : List Nat) (k : Nat) : Bool := dirty.all fun i => later l k i

/-- what is owed of each operation -/
def owes (P : Program) (ops : Array Oper) (G : World → World → Prop) (dirty : List Nat) (I : World → Prop) (F : Nat → Value → World → Prop) (a : Act) (w : World) (all : List Oper) : List Oper → Nat → Prop
  | [], _ => True
  | o :: r, k => (∀ (vals : Nat → Value) (w' : World), G w w' → (∀ j ∈ need o, F j (vals j) w') → (∀ j, later all k j = true → vals j = orig all a j) → (clearFor all dirty k = true → I w') → wpList P ops (OpPost (stepRel G dirty k) (F k) (putAll a vals all 0) o.dst w') [o] (putAll a vals all 0) w') ∧ owes P ops G dirty I F a w all r (k + 1)

theorem owes_at {P : Program} {ops : Array Oper} {G : World → World → Prop} {dirty : List Nat} {I : World → Prop} {F : Nat → Value → World → Prop} {a : Act} {w : World} {all : List Oper} : ∀ (l : List Oper) (k : Nat), owes P ops G dirty I F a w all l k → ∀ i o, l[i]? = some o →
    ∀ (vals : Nat → Value) (w' : World), G w w' → (∀ j ∈ need o, F j (vals j) w') → (∀ j, later all (k + i) j = true → vals j = orig all a j) → (clearFor all dirty (k + i) = true → I w') → wpList P ops (OpPost (stepRel G dirty (k + i)) (F (k + i)) (putAll a vals all 0) o.dst w') [o] (putAll a vals all 0) w'
  | [], _, _, i, o, hi => by simp at hi
  | x :: r, k, h, i, o, hi => by
    cases i with
    | zero => simp at hi; subst hi; exact h.1
    | succ i =>
      have := owes_at r (k + 1) h.2 i o (by simpa using hi)
      rw [show k + 1 + i = k + (i + 1) by omega] at this
      exact this

theorem ancs_in {l : List Oper} {D : Nat → Prop} (hD : ∀ i o, l[i]? = some o → D i → ∀ j ∈ fore o, D j) : ∀ n i, D i → ∀ j ∈ ancs l n i, D j
  | 0, _, _, j, hj => by simp [ancs] at hj
  | n + 1, i, hi, j, hj => by
    unfold ancs at hj
    split at hj
    · simp at hj
    · rename_i o ho
      rw [List.mem_append, List.mem_flatMap] at hj
      rcases hj with hj | ⟨m, hm, hj⟩
      · exact hD i o ho hi j hj
      · exact ancs_in hD n m (hD i o ho hi m hm) j hj

theorem wp_region_facts {P : Program} {l : List Oper} {id : Nat} {Q : Exit → Act → World → Prop} {a : Act} {w : World} (hm : P.follows .mixedOrders = true) (hE : edgesBack l = true) (hN : (dsts l).Nodup)
    (G : World → World → Prop) (dirty pur : List Nat) (hdead : deadOk l dirty pur = true) (I : World → Prop) (F : Nat → Value → World → Prop)
    (hG : ∀ x y, Below x.heap.size x y → G x y) (htrans : ∀ x y z, G x y → G y z → G x z) (hpur : ∀ j ∈ pur, ∀ v x y, F j v x → F j v y) (hmono : ∀ j v x y, F j v x → Below x.heap.size x y → F j v y)
    (hI0 : I w) (hImono : ∀ x y, I x → Below x.heap.size x y → I y) (hops : owes P l.toArray G dirty I F a w l l 0) (hend : ∀ (vals : Nat → Value) (w' : World), G w w' → (∀ j, j < l.length → alive l dirty pur j = true → F j (vals j) w') → Q .normal (putAll a vals l 0) w') :
    (Code.region id l.toArray true).wp P Q a w := by
  refine wp_region_any hm ?_
  have edge : ∀ i o, l[i]? = some o → ∀ e ∈ o.after, Region.binds .any e = true → e.on < i := by
    intro i o hi e he hb
    unfold edgesBack at hE
    rw [List.all_eq_true] at hE
    have h1 := hE (o, i) (by rw [List.mem_iff_getElem?]; exact ⟨i, by simp [List.getElem?_zipIdx, hi]⟩)
    simp only [Array.all_eq_true'] at h1
    have h2 := h1 e he
    simpa [hb] using h2
  have hstep : ∀ k x y, stepRel G dirty k x y → G x y := by
    intro k x y h
    unfold stepRel at h
    cases hd : dirty.contains k with
    | true => rw [hd] at h; exact h
    | false => rw [hd] at h; exact hG _ _ h
  have key : ∀ (fuel : Nat) (listed : Array Bool) (vals : Nat → Value) (w' : World), listed.size = l.length → listed.toList.count false ≤ fuel → G w w' →
      (∀ (i : Nat) (o : Oper), l[i]? = some o → listed[i]? = some true → ∀ j ∈ fore o, listed[j]? = some true) →
      (∀ (j : Nat), listed[j]? = some true → (∃ (i : Nat), listed[i]? = some true ∧ kills l dirty pur i j = true) ∨ F j (vals j) w') →
      (∀ (j : Nat), listed[j]? = some false → vals j = orig l a j) →
      ((∃ i ∈ dirty, listed[i]? = some true) ∨ I w') →
      wpAny P .any l.toArray Q fuel listed (putAll a vals l 0) w' := by
    intro fuel
    have hdone : ∀ (listed : Array Bool) (vals : Nat → Value) (w' : World), listed.size = l.length → G w w' → (∀ (j : Nat), listed[j]? = some true → (∃ (i : Nat), listed[i]? = some true ∧ kills l dirty pur i j = true) ∨ F j (vals j) w') → Region.ready .any l.toArray listed = [] → Q .normal (putAll a vals l 0) w' := by
      intro listed vals w' hsz hg hf hr
      have hall : ∀ n, ∀ j, j < n → j < l.length → listed[j]? = some true := by
        intro n
        induction n with
        | zero => intro j hj; omega
        | succ n ih =>
          intro j hj hjl
          by_cases hjn : j < n
          · exact ih j hjn hjl
          · have hj' : j = n := by omega
            subst hj'
            cases hb : listed[j]'(by omega) with
            | true => rw [Array.getElem?_eq_getElem (by omega), hb]
            | false =>
              exfalso
              have hmem : j ∈ Region.ready .any l.toArray listed := by
                unfold Region.ready
                rw [List.mem_filter]
                refine ⟨List.mem_range.2 (by simpa using hjl), ?_⟩
                have hlj : l.toArray[j]? = some l[j] := by simp [List.getElem?_eq_getElem hjl]
                have hgd : listed.getD j true = false := by
                  unfold Array.getD
                  rw [dif_pos (show j < listed.size by omega)]
                  exact hb
                rw [hgd, hlj]
                simp only [Bool.not_false, Bool.true_and, Option.map_some, Option.getD_some]
                rw [Array.all_eq_true']
                intro e he
                cases hbd : Region.binds .any e with
                | false => rfl
                | true =>
                  have hlt := edge j l[j] (List.getElem?_eq_getElem hjl) e he hbd
                  have := ih e.on hlt (by omega)
                  have hlt2 : e.on < listed.size := by omega
                  rw [Array.getElem?_eq_getElem hlt2] at this
                  unfold Array.getD
                  rw [dif_pos hlt2]
                  simp at this
                  simp [this]
              rw [hr] at hmem
              cases hmem
      refine hend vals w' hg (fun j hj ha => ?_)
      rcases hf j (hall l.length j hj hj) with ⟨i, hi, hk⟩ | h
      · exfalso
        unfold alive at ha
        rw [List.all_eq_true] at ha
        have hil : i < l.length := by
          have := (Array.getElem?_eq_some_iff.1 hi).1
          omega
        have := ha i (List.mem_range.2 hil)
        rw [hk] at this
        cases this
      · exact h
    induction fuel with
    | zero =>
      intro listed vals w' hsz hc hg hcl hf hor hini
      have hnone : Region.ready .any l.toArray listed = [] := by
        apply List.eq_nil_iff_forall_not_mem.2
        intro j hj
        unfold Region.ready at hj
        rw [List.mem_filter] at hj
        obtain ⟨h1, h2⟩ := hj
        have hjl : j < l.length := by simpa using h1
        simp only [Bool.and_eq_true, Bool.not_eq_true'] at h2
        have h3 := h2.1
        unfold Array.getD at h3
        rw [dif_pos (show j < listed.size by omega)] at h3
        have h4 : false ∈ listed.toList := by
          rw [Array.mem_toList_iff]
          exact Array.mem_iff_getElem.2 ⟨j, by omega, h3⟩
        have := List.count_pos_iff.2 h4
        omega
      exact ⟨hnone, hdone listed vals w' hsz hg hf hnone⟩
    | succ fuel ih =>
      intro listed vals w' hsz hc hg hcl hf hor hini
      refine ⟨hdone listed vals w' hsz hg hf, fun i hi => ?_⟩
      unfold Region.ready at hi
      rw [List.mem_filter] at hi
      obtain ⟨h1, h2⟩ := hi
      have hil : i < l.length := by simpa using h1
      have hlo : l[i]? = some l[i] := List.getElem?_eq_getElem hil
      have hla : l.toArray[i]? = some l[i] := by simp [hlo]
      rw [hla] at h2
      simp only [Option.map_some, Option.getD_some, Bool.and_eq_true, Bool.not_eq_true', Array.all_eq_true'] at h2
      obtain ⟨h3, h4⟩ := h2
      have hif : listed[i]'(by omega) = false := by
        unfold Array.getD at h3
        rw [dif_pos (show i < listed.size by omega)] at h3
        exact h3
      have hforel : ∀ j ∈ fore l[i], listed[j]? = some true := by
        intro j hj
        unfold fore at hj
        obtain ⟨e, he, rfl⟩ := List.mem_map.1 hj
        rw [List.mem_filter] at he
        have h5 := h4 e (Array.mem_toList_iff.1 he.1)
        simp only [he.2, Bool.not_true, Bool.false_or] at h5
        have hlt := edge i l[i] hlo e (Array.mem_toList_iff.1 he.1) he.2
        unfold Array.getD at h5
        rw [dif_pos (show e.on < listed.size by omega)] at h5
        rw [Array.getElem?_eq_getElem (by omega)]
        exact congrArg some h5
      have hpre : ∀ j ∈ need l[i], F j (vals j) w' := by
        intro j hj
        rcases hf j (hforel j (need_fore hj)) with ⟨d, hd, hk⟩ | h
        · exfalso
          have hdl : d < l.length := by
            have := (Array.getElem?_eq_some_iff.1 hd).1
            omega
          have hjl : j < l.length := by
            have := (Array.getElem?_eq_some_iff.1 (hforel j (need_fore hj))).1
            omega
          unfold deadOk at hdead
          rw [List.all_eq_true] at hdead
          have h6 := hdead d (List.mem_range.2 hdl)
          rw [List.all_eq_true] at h6
          have h7 := h6 j (List.mem_range.2 hjl)
          rw [hk] at h7
          simp only [Bool.not_true, Bool.false_or, List.all_eq_true] at h7
          have h8 := h7 (l[i], i) (by rw [List.mem_iff_getElem?]; exact ⟨i, by simp [List.getElem?_zipIdx, hlo]⟩)
          simp only [Bool.or_eq_true, Bool.not_eq_true', List.contains_eq_mem, decide_eq_false_iff_not, beq_iff_eq, decide_eq_true_eq] at h8
          have hnot : listed[i]? ≠ some true := by
            rw [Array.getElem?_eq_getElem (by omega), hif]
            intro h; cases h
          rcases h8 with (h8 | h8) | h8
          · exact h8 hj
          · subst h8; exact hnot hd
          · exact hnot (ancs_in (D := fun i => listed[i]? = some true) hcl _ _ hd _ h8)
        · exact h
      have hlate : ∀ j, later l (0 + i) j = true → vals j = orig l a j := by
        intro j hj
        unfold later at hj
        simp only [Bool.and_eq_true, decide_eq_true_eq, Bool.or_eq_true, beq_iff_eq, Nat.zero_add] at hj
        refine hor j ?_
        have hjs : j < listed.size := by omega
        rw [Array.getElem?_eq_getElem hjs]
        rcases hj.2 with hji | hji
        · subst hji; rw [hif]
        · cases hb : listed[j] with
          | false => rfl
          | true =>
            exfalso
            have h9 := ancs_in (D := fun i => listed[i]? = some true) hcl l.length j (by rw [Array.getElem?_eq_getElem hjs, hb]) i (by simpa using hji)
            rw [Array.getElem?_eq_getElem (by omega), hif] at h9
            cases h9
      have hclear : clearFor l dirty (0 + i) = true → I w' := by
        intro hcf
        rcases hini with ⟨d, hd, hdl⟩ | h
        · exfalso
          unfold clearFor at hcf
          rw [List.all_eq_true] at hcf
          have h1 := hcf d hd
          unfold later at h1
          simp only [Bool.and_eq_true, decide_eq_true_eq, Bool.or_eq_true, beq_iff_eq, Nat.zero_add] at h1
          rcases h1.2 with h2 | h2
          · subst h2
            rw [Array.getElem?_eq_getElem (by omega), hif] at hdl
            cases hdl
          · have h9 := ancs_in (D := fun i => listed[i]? = some true) hcl l.length d hdl i (by simpa using h2)
            rw [Array.getElem?_eq_getElem (by omega), hif] at h9
            cases h9
        · exact h
      have ho := owes_at l 0 hops i l[i] hlo vals w' hg hpre hlate hclear
      simp only [Nat.zero_add] at ho
      have hcont : ∀ v w'', stepRel G dirty i w' w'' → F i v w'' → wpAny P .any l.toArray Q fuel (listed.setIfInBounds i true) ((putAll a vals l 0).put l[i].dst v) w'' := by
        intro v w'' hg' hf'
        rw [putAll_put v l 0 a i l[i] hlo hN, Nat.zero_add]
        have hset : ∀ j, (listed.setIfInBounds i true)[j]? = some true → j ≠ i → listed[j]? = some true := fun j hj hne => by
          rw [Array.getElem?_setIfInBounds_ne (fun e => hne e.symm)] at hj
          exact hj
        have hset2 : ∀ j, listed[j]? = some true → (listed.setIfInBounds i true)[j]? = some true := fun j hj => by
          by_cases hji : i = j
          · subst hji
            rw [Array.getElem?_setIfInBounds_self, if_pos (by omega)]
          · rw [Array.getElem?_setIfInBounds_ne hji]; exact hj
        have hseti : (listed.setIfInBounds i true)[i]? = some true := by
          rw [Array.getElem?_setIfInBounds_self, if_pos (by omega)]
        refine ih _ _ _ (by simpa using hsz) ?_ (htrans _ _ _ hg (hstep _ _ _ hg')) (fun k o hk hlk j hj => ?_) (fun j hj => ?_) (fun j hj => ?_) ?_
        · have hcs : (listed.setIfInBounds i true).toList.count false + 1 = listed.toList.count false := by
            rw [Array.toList_setIfInBounds]
            have hi' : i < listed.toList.length := by rw [Array.length_toList]; omega
            rw [List.count_set hi']
            have : listed.toList[i] = false := by simpa using hif
            rw [this]
            have hpos : 0 < listed.toList.count false := List.count_pos_iff.2 (this ▸ List.getElem_mem hi')
            rw [if_pos (by rfl), if_neg (by decide)]
            omega
          omega
        · by_cases hki : k = i
          · subst hki
            rw [hlo] at hk
            injection hk with hk
            subst hk
            exact hset2 j (hforel j hj)
          · exact hset2 j (hcl k o hk (hset k hlk hki) j hj)
        · unfold upd
          split
          · rename_i e; subst e; exact .inr hf'
          · rename_i hne
            rcases hf j (hset j hj hne) with ⟨d, hd, hk⟩ | h
            · exact .inl ⟨d, hset2 d hd, hk⟩
            · unfold stepRel at hg'
              cases hdi : dirty.contains i with
              | true =>
                by_cases hp : j ∈ pur
                · exact .inr (hpur j hp _ _ _ h)
                · refine .inl ⟨i, hseti, ?_⟩
                  unfold kills
                  rw [hdi]
                  have h1 : pur.contains j = false := by simpa using hp
                  have h2 : (i != j) = true := by rw [bne_iff_ne]; exact fun e => hne e.symm
                  have h3 : (ancs l l.length j).contains i = false := by
                    simp only [List.contains_eq_mem, decide_eq_false_iff_not]
                    intro hin
                    have := ancs_in (D := fun i => listed[i]? = some true) hcl _ _ (hset j hj hne) _ hin
                    rw [Array.getElem?_eq_getElem (by omega), hif] at this
                    cases this
                  rw [h1, h2, h3]
                  rfl
              | false =>
                rw [hdi] at hg'
                exact .inr (hmono _ _ _ _ h hg')
        · by_cases hji : j = i
          · subst hji
            rw [hseti] at hj
            cases hj
          · rw [Array.getElem?_setIfInBounds_ne (fun e => hji e.symm)] at hj
            simp only [upd, if_neg hji]
            exact hor j hj
        · rcases hini with ⟨d, hd, hdl⟩ | h
          · exact .inl ⟨d, hd, hset2 d hdl⟩
          · unfold stepRel at hg'
            cases hdi : dirty.contains i with
            | true => exact .inl ⟨i, by simpa using hdi, hseti⟩
            | false =>
              rw [hdi] at hg'
              exact .inr (hImono _ _ h hg')
      unfold wpOp
      rw [hla]
      exact Oper.wp_of_OpPost ho hcont
  have h0 : putAll a (orig l a) l 0 = a := putAll_same _ l 0 a (fun j o hj => by rw [Nat.zero_add]; unfold orig; rw [hj]; rfl)
  have h1 := key l.length (Array.replicate l.length false) (orig l a) w.drew (by simp) (by simp) (hG _ _ (Below.refl _ _).drew) (fun i o hi hl => by simp [Array.getElem?_replicate] at hl) (fun j hj => by simp [Array.getElem?_replicate] at hj) (fun _ _ => rfl) (.inr (hImono _ _ hI0 (Below.refl _ _).drew))
  rw [h0] at h1
  simpa using h1

/-- what stays in a region whose dirty operations write from block B on -/
def GB (B : Nat) (x y : World) : Prop := B ≤ x.heap.size → Below B x y
theorem GB.of (B : Nat) : ∀ x y, Below x.heap.size x y → GB B x y := fun _ _ h hB => h.mono hB
theorem GB.trans (B : Nat) : ∀ x y z, GB B x y → GB B y z → GB B x z := fun _ _ _ h1 h2 hB => (h1 hB).trans (h2 (Nat.le_trans hB (h1 hB).size))
theorem GB.grow (B : Nat) : ∀ x y z : World, Below x.heap.size x y → Below y.heap.size y z → Below x.heap.size x z := fun _ _ _ h1 h2 => h1.trans (h2.mono h1.size)
theorem bcellB {B : Nat} {W w1 : World} (hb : Below B W w1) : ∀ b o, b < B → w1.cell? ⟨b, o, none⟩ = W.cell? ⟨b, o, none⟩ := fun b o h => hb.cell (p := ⟨b, o, none⟩) h

end Go.Proofs.Ytmdoimpeacndaaa
