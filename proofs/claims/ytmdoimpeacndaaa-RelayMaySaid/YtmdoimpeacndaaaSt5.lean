/- A region that draws its order, by one fact for each operation's value and world: each operation keeps the facts of those that need not come behind it. No order is walked. -/
import Derived.Test.YtmdoimpeacndaaaSt4
namespace Go.Proofs.Ytmdoimpeacndaaa
open Go.RowKit

/-- what an operation owes besides its own fact -/
abbrev Kp (all : List Oper) (C : World → Prop) (F : Nat → Value → World → Prop) (k : Nat) (x y : World) : Prop := C y ∧ ∀ j v, j < all.length → j ≠ k → (ancs all all.length j).contains k = false → F j v x → F j v y

def owesF (P : Program) (ops : Array Oper) (C : World → Prop) (F : Nat → Value → World → Prop) (a : Act) (all : List Oper) : List Oper → Nat → Prop
  | [], _ => True
  | o :: r, k => (∀ (vals : Nat → Value) (w' : World), C w' → (∀ j ∈ need o, F j (vals j) w') → (∀ j, later all k j = true → vals j = orig all a j) → wpList P ops (OpPost (Kp all C F k) (F k) (putAll a vals all 0) o.dst w') [o] (putAll a vals all 0) w') ∧ owesF P ops C F a all r (k + 1)

theorem owesF_at {P : Program} {ops : Array Oper} {C : World → Prop} {F : Nat → Value → World → Prop} {a : Act} {all : List Oper} : ∀ (l : List Oper) (k : Nat), owesF P ops C F a all l k → ∀ i o, l[i]? = some o →
    ∀ (vals : Nat → Value) (w' : World), C w' → (∀ j ∈ need o, F j (vals j) w') → (∀ j, later all (k + i) j = true → vals j = orig all a j) → wpList P ops (OpPost (Kp all C F (k + i)) (F (k + i)) (putAll a vals all 0) o.dst w') [o] (putAll a vals all 0) w'
  | [], _, _, i, o, hi => by simp at hi
  | x :: r, k, h, i, o, hi => by
    cases i with
    | zero => simp at hi; subst hi; exact h.1
    | succ i =>
      have := owesF_at r (k + 1) h.2 i o (by simpa using hi)
      rw [show k + 1 + i = k + (i + 1) by omega] at this
      exact this

theorem wp_region_F {P : Program} {l : List Oper} {id : Nat} {Q : Exit → Act → World → Prop} {a : Act} {w : World} (hm : P.follows .mixedOrders = true) (hE : edgesBack l = true) (hN : (dsts l).Nodup)
    (C : World → Prop) (F : Nat → Value → World → Prop) (hC : C w.drew) (hops : owesF P l.toArray C F a l l 0)
    (hend : ∀ (vals : Nat → Value) (w' : World), C w' → (∀ j, j < l.length → F j (vals j) w') → Q .normal (putAll a vals l 0) w') :
    (Code.region id l.toArray true).wp P Q a w := by
  refine wp_region_any hm ?_
  have edge : ∀ i o, l[i]? = some o → ∀ e ∈ o.after, Region.binds .any e = true → e.on < i := by
    intro i o hi e he hb
    unfold edgesBack at hE
    rw [List.all_eq_true] at hE
    have h1 := hE (o, i) (by rw [List.mem_iff_getElem?]; exact ⟨i, by simp [List.getElem?_zipIdx, hi]⟩)
    simp only [Array.all_eq_true'] at h1
    have h2 := h1 e he
    simpa [hb] using h2
  have key : ∀ (fuel : Nat) (listed : Array Bool) (vals : Nat → Value) (w' : World), listed.size = l.length → listed.toList.count false ≤ fuel → C w' →
      (∀ (i : Nat) (o : Oper), l[i]? = some o → listed[i]? = some true → ∀ j ∈ fore o, listed[j]? = some true) →
      (∀ (j : Nat), listed[j]? = some true → F j (vals j) w') →
      (∀ (j : Nat), listed[j]? = some false → vals j = orig l a j) →
      wpAny P .any l.toArray Q fuel listed (putAll a vals l 0) w' := by
    intro fuel
    have hdone : ∀ (listed : Array Bool) (vals : Nat → Value) (w' : World), listed.size = l.length → C w' → (∀ (j : Nat), listed[j]? = some true → F j (vals j) w') → Region.ready .any l.toArray listed = [] → Q .normal (putAll a vals l 0) w' := by
      intro listed vals w' hsz hg hf hr
      have hall : ∀ n, ∀ j, j < n → j < l.length → listed[j]? = some true := by
        intro n
        induction n with
        | zero => intro j hj; omega
        | succ n ih =>
          intro j hj hjl
          by_cases hjn : j < n
          · exact ih j hjn hjl
          · have hj' : j = n := by omega
            subst hj'
            cases hb : listed[j]'(by omega) with
            | true => rw [Array.getElem?_eq_getElem (by omega), hb]
            | false =>
              exfalso
              have hmem : j ∈ Region.ready .any l.toArray listed := by
                unfold Region.ready
                rw [List.mem_filter]
                refine ⟨List.mem_range.2 (by simpa using hjl), ?_⟩
                have hlj : l.toArray[j]? = some l[j] := by simp [List.getElem?_eq_getElem hjl]
                have hgd : listed.getD j true = false := by
                  unfold Array.getD
                  rw [dif_pos (show j < listed.size by omega)]
                  exact hb
                rw [hgd, hlj]
                simp only [Bool.not_false, Bool.true_and, Option.map_some, Option.getD_some]
                rw [Array.all_eq_true']
                intro e he
                cases hbd : Region.binds .any e with
                | false => rfl
                | true =>
                  have hlt := edge j l[j] (List.getElem?_eq_getElem hjl) e he hbd
                  have := ih e.on hlt (by omega)
                  have hlt2 : e.on < listed.size := by omega
                  rw [Array.getElem?_eq_getElem hlt2] at this
                  unfold Array.getD
                  rw [dif_pos hlt2]
                  simp at this
                  simp [this]
              rw [hr] at hmem
              cases hmem
      exact hend vals w' hg (fun j hj => hf j (hall l.length j hj hj))
    induction fuel with
    | zero =>
      intro listed vals w' hsz hc hg hcl hf hor
      have hnone : Region.ready .any l.toArray listed = [] := by
        apply List.eq_nil_iff_forall_not_mem.2
        intro j hj
        unfold Region.ready at hj
        rw [List.mem_filter] at hj
        obtain ⟨h1, h2⟩ := hj
        have hjl : j < l.length := by simpa using h1
        simp only [Bool.and_eq_true, Bool.not_eq_true'] at h2
        have h3 := h2.1
        unfold Array.getD at h3
        rw [dif_pos (show j < listed.size by omega)] at h3
        have h4 : false ∈ listed.toList := by
          rw [Array.mem_toList_iff]
          exact Array.mem_iff_getElem.2 ⟨j, by omega, h3⟩
        have := List.count_pos_iff.2 h4
        omega
      exact ⟨hnone, hdone listed vals w' hsz hg hf hnone⟩
    | succ fuel ih =>
      intro listed vals w' hsz hc hg hcl hf hor
      refine ⟨hdone listed vals w' hsz hg hf, fun i hi => ?_⟩
      unfold Region.ready at hi
      rw [List.mem_filter] at hi
      obtain ⟨h1, h2⟩ := hi
      have hil : i < l.length := by simpa using h1
      have hlo : l[i]? = some l[i] := List.getElem?_eq_getElem hil
      have hla : l.toArray[i]? = some l[i] := by simp [hlo]
      rw [hla] at h2
      simp only [Option.map_some, Option.getD_some, Bool.and_eq_true, Bool.not_eq_true', Array.all_eq_true'] at h2
      obtain ⟨h3, h4⟩ := h2
      have hif : listed[i]'(by omega) = false := by
        unfold Array.getD at h3
        rw [dif_pos (show i < listed.size by omega)] at h3
        exact h3
      have hforel : ∀ j ∈ fore l[i], listed[j]? = some true := by
        intro j hj
        unfold fore at hj
        obtain ⟨e, he, rfl⟩ := List.mem_map.1 hj
        rw [List.mem_filter] at he
        have h5 := h4 e (Array.mem_toList_iff.1 he.1)
        simp only [he.2, Bool.not_true, Bool.false_or] at h5
        have hlt := edge i l[i] hlo e (Array.mem_toList_iff.1 he.1) he.2
        unfold Array.getD at h5
        rw [dif_pos (show e.on < listed.size by omega)] at h5
        rw [Array.getElem?_eq_getElem (by omega)]
        exact congrArg some h5
      have hpre : ∀ j ∈ need l[i], F j (vals j) w' := fun j hj => hf j (hforel j (need_fore hj))
      have hlate : ∀ j, later l (0 + i) j = true → vals j = orig l a j := by
        intro j hj
        unfold later at hj
        simp only [Bool.and_eq_true, decide_eq_true_eq, Bool.or_eq_true, beq_iff_eq, Nat.zero_add] at hj
        refine hor j ?_
        have hjs : j < listed.size := by omega
        rw [Array.getElem?_eq_getElem hjs]
        rcases hj.2 with hji | hji
        · subst hji; rw [hif]
        · cases hb : listed[j] with
          | false => rfl
          | true =>
            exfalso
            have h9 := ancs_in (D := fun i => listed[i]? = some true) hcl l.length j (by rw [Array.getElem?_eq_getElem hjs, hb]) i (by simpa using hji)
            rw [Array.getElem?_eq_getElem (by omega), hif] at h9
            cases h9
      have ho := owesF_at l 0 hops i l[i] hlo vals w' hg hpre hlate
      simp only [Nat.zero_add] at ho
      have hcont : ∀ v w'', Kp l C F i w' w'' → F i v w'' → wpAny P .any l.toArray Q fuel (listed.setIfInBounds i true) ((putAll a vals l 0).put l[i].dst v) w'' := by
        intro v w'' hg' hf'
        rw [putAll_put v l 0 a i l[i] hlo hN, Nat.zero_add]
        have hset : ∀ j, (listed.setIfInBounds i true)[j]? = some true → j ≠ i → listed[j]? = some true := fun j hj hne => by
          rw [Array.getElem?_setIfInBounds_ne (fun e => hne e.symm)] at hj
          exact hj
        have hset2 : ∀ j, listed[j]? = some true → (listed.setIfInBounds i true)[j]? = some true := fun j hj => by
          by_cases hji : i = j
          · subst hji
            rw [Array.getElem?_setIfInBounds_self, if_pos (by omega)]
          · rw [Array.getElem?_setIfInBounds_ne hji]; exact hj
        have hseti : (listed.setIfInBounds i true)[i]? = some true := by
          rw [Array.getElem?_setIfInBounds_self, if_pos (by omega)]
        refine ih _ _ _ (by simpa using hsz) ?_ hg'.1 (fun k o hk hlk j hj => ?_) (fun j hj => ?_) (fun j hj => ?_)
        · have hcs : (listed.setIfInBounds i true).toList.count false + 1 = listed.toList.count false := by
            rw [Array.toList_setIfInBounds]
            have hi' : i < listed.toList.length := by rw [Array.length_toList]; omega
            rw [List.count_set hi']
            have : listed.toList[i] = false := by simpa using hif
            rw [this]
            have hpos : 0 < listed.toList.count false := List.count_pos_iff.2 (this ▸ List.getElem_mem hi')
            rw [if_pos (by rfl), if_neg (by decide)]
            omega
          omega
        · by_cases hki : k = i
          · subst hki
            rw [hlo] at hk
            injection hk with hk
            subst hk
            exact hset2 j (hforel j hj)
          · exact hset2 j (hcl k o hk (hset k hlk hki) j hj)
        · unfold upd
          split
          · rename_i e; subst e; exact hf'
          · rename_i hne
            have hlj := hset j hj hne
            refine hg'.2 j _ (by have := (Array.getElem?_eq_some_iff.1 hlj).1; omega) hne ?_ (hf j hlj)
            simp only [List.contains_eq_mem, decide_eq_false_iff_not]
            intro hin
            have := ancs_in (D := fun i => listed[i]? = some true) hcl _ _ hlj _ hin
            rw [Array.getElem?_eq_getElem (by omega), hif] at this
            cases this
        · by_cases hji : j = i
          · subst hji
            rw [hseti] at hj
            cases hj
          · rw [Array.getElem?_setIfInBounds_ne (fun e => hji e.symm)] at hj
            simp only [upd, if_neg hji]
            exact hor j hj
      unfold wpOp
      rw [hla]
      exact Oper.wp_of_OpPost ho hcont
  have h0 : putAll a (orig l a) l 0 = a := putAll_same _ l 0 a (fun j o hj => by rw [Nat.zero_add]; unfold orig; rw [hj]; rfl)
  have h1 := key l.length (Array.replicate l.length false) (orig l a) w.drew (by simp) (by simp) hC (fun i o hi hl => by simp [Array.getElem?_replicate] at hl) (fun j hj => by simp [Array.getElem?_replicate] at hj) (fun j hj => rfl)
  rw [h0] at h1
  simpa using h1

/-- the region's slots and those beside it -/
def regS (vals : Nat → Value) : List Oper → Nat → Slots
  | [], _ => []
  | o :: r, k => match o.dst with
    | some d => (d, vals k) :: regS vals r (k + 1)
    | none => regS vals r (k + 1)

theorem regS_lookup {vals : Nat → Value} : ∀ (l : List Oper) (k t : Nat) (v : Value), (regS vals l k).lookup t = some v → ∃ j o, l[j]? = some o ∧ o.dst = some t ∧ vals (k + j) = v
  | [], _, _, _, h => by simp [regS] at h
  | o :: r, k, t, v, h => by
    unfold regS at h
    split at h
    · rename_i d hd
      rw [lookup_cons] at h
      split at h
      · rename_i e; subst e; injection h with h; subst h; exact ⟨0, o, rfl, hd, rfl⟩
      · obtain ⟨j, o', h1, h2, h3⟩ := regS_lookup r (k + 1) t v h
        exact ⟨j + 1, o', by simpa using h1, h2, by rw [← h3]; congr 1; omega⟩
    · obtain ⟨j, o', h1, h2, h3⟩ := regS_lookup r (k + 1) t v h
      exact ⟨j + 1, o', by simpa using h1, h2, by rw [← h3]; congr 1; omega⟩

theorem putAll_size {vals : Nat → Value} : ∀ (l : List Oper) (k : Nat) (a : Act), (putAll a vals l k).tmps.size = a.tmps.size ∧ (putAll a vals l k).defers = a.defers
  | [], _, _ => ⟨rfl, rfl⟩
  | o :: r, k, a => by
    obtain ⟨h1, h2⟩ := putAll_size (vals := vals) r (k + 1) (a.put o.dst (vals k))
    simp only [putAll]
    rw [h1, h2]
    cases o.dst <;> simp [Act.put]

theorem putAll_out {vals : Nat → Value} : ∀ (l : List Oper) (k : Nat) (a : Act) (t : Nat), t ∉ dsts l → (putAll a vals l k).tmps[t]? = a.tmps[t]?
  | [], _, _, _, _ => rfl
  | o :: r, k, a, t, h => by
    simp only [putAll]
    have hr : t ∉ dsts r := fun hm => h (by unfold dsts at *; cases hd : o.dst <;> simp [hd, hm])
    rw [putAll_out r (k + 1) _ t hr]
    cases hd : o.dst with
    | none => rfl
    | some d =>
      have : d ≠ t := fun e => h (by simp [dsts, hd, e])
      rw [put_tmps, Array.getElem?_setIfInBounds, if_neg this]

theorem putAll_in {vals : Nat → Value} : ∀ (l : List Oper) (k : Nat) (a : Act) (j : Nat) (o : Oper) (t : Nat), (dsts l).Nodup → l[j]? = some o → o.dst = some t → t < a.tmps.size → (putAll a vals l k).tmps[t]? = some (vals (k + j))
  | [], _, _, _, _, _, _, h, _, _ => by simp at h
  | x :: r, k, a, j, o, t, hn, h, hd, ht => by
    simp only [putAll]
    cases j with
    | zero =>
      simp at h; subst h
      have hr : t ∉ dsts r := fun hm => by
        simp [dsts, hd] at hn
        simp [dsts] at hm
        obtain ⟨y, hy1, hy2⟩ := hm
        exact hn.1 y hy1 hy2
      rw [putAll_out r (k + 1) _ t hr, hd, put_tmps, Array.getElem?_setIfInBounds, if_pos rfl, if_pos ht]
      rfl
    | succ j =>
      have hn' : (dsts r).Nodup := by
        cases hx : x.dst <;> simp [dsts, hx] at hn ⊢
        · exact hn
        · exact hn.2
      rw [putAll_in r (k + 1) _ j o t hn' (by simpa using h) hd (by cases hx : x.dst <;> simp [Act.put]; exact ht; exact ht)]
      congr 2; omega

theorem Sl.reg {n : Nat} {S : Slots} {a : Act} (h : Sl n S a) {l : List Oper} (hN : (dsts l).Nodup) (hd : (dsts l).all (decide <| · < n) = true) (vals : Nat → Value) : Sl n (regS vals l 0 ++ S.filter (fun p => !(dsts l).contains p.1)) (putAll a vals l 0) := by
  obtain ⟨h1, h2⟩ := putAll_size (vals := vals) l 0 a
  refine ⟨by rw [h2]; exact h.1, by rw [h1]; exact h.2.1, fun t v hv => ?_⟩
  have key : ∀ (X Y : Slots), (X ++ Y).lookup t = some v → X.lookup t = some v ∨ (X.lookup t = none ∧ Y.lookup t = some v) := by
    intro X
    induction X with
    | nil => intro Y h; exact .inr ⟨rfl, h⟩
    | cons x X ih =>
      intro Y h
      obtain ⟨k, u⟩ := x
      rw [List.cons_append, lookup_cons] at h
      rw [lookup_cons]
      split at h
      · rename_i e; rw [if_pos e]; exact .inl h
      · rename_i e; rw [if_neg e]; exact ih Y h
  rcases key _ _ hv with h3 | ⟨_, h3⟩
  · obtain ⟨j, o, h4, h5, h6⟩ := regS_lookup l 0 t v h3
    have ht : t < n := by
      rw [List.all_eq_true] at hd
      have := hd t (by unfold dsts; rw [List.mem_filterMap]; exact ⟨o, List.mem_of_getElem? h4, h5⟩)
      simpa using this
    rw [putAll_in l 0 a j o t hN h4 h5 (by rw [h.2.1]; exact ht), h6]
  · have hf : ∀ (S : Slots), (S.filter (fun p => !(dsts l).contains p.1)).lookup t = some v → t ∉ dsts l ∧ S.lookup t = some v := by
      intro S
      induction S with
      | nil => intro h; simp at h
      | cons x S ih =>
        obtain ⟨k, u⟩ := x
        intro h
        simp only [List.filter_cons] at h
        rw [lookup_cons]
        split at h
        · rename_i hk
          rw [lookup_cons] at h
          split at h
          · rename_i e; subst e; rw [if_pos rfl]; exact ⟨by simpa using hk, h⟩
          · rename_i e; rw [if_neg e]; exact ih h
        · rename_i hk
          obtain ⟨h5, h6⟩ := ih h
          rw [if_neg (fun e => by subst e; simp at hk; exact h5 hk)]
          exact ⟨h5, h6⟩
    obtain ⟨h4, h5⟩ := hf S h3
    rw [putAll_out l 0 a t h4]
    exact h.2.2 _ _ h5

/-- the region in whatever order, from what is known of the frame -/
theorem f_regionF {P : Program} {l : List Oper} {id : Nat} {Q : Exit → Act → World → Prop} {a : Act} {w : World} {n : Nat} {S : Slots} (hok : Sl n S a) (hm : P.follows .mixedOrders = true) (hE : edgesBack l = true) (hN : (dsts l).Nodup) (hd : (dsts l).all (decide <| · < n) = true)
    (C : World → Prop) (F : Nat → Value → World → Prop) (hC : C w.drew)
    (hops : ∀ fr : (Nat → Value) → Act, (∀ vals, Sl n (regS vals l 0 ++ S.filter (fun p => !(dsts l).contains p.1)) (fr vals)) → (∀ vals, fr vals = putAll a vals l 0) → owesF P l.toArray C F a l l 0)
    (hend : ∀ (vals : Nat → Value) (a' : Act) (w' : World), Sl n (regS vals l 0 ++ S.filter (fun p => !(dsts l).contains p.1)) a' → C w' → (∀ j, j < l.length → F j (vals j) w') → Q .normal a' w') :
    (Code.region id l.toArray true).wp P Q a w :=
  wp_region_F hm hE hN C F hC (hops (fun vals => putAll a vals l 0) (fun vals => hok.reg hN hd vals) (fun _ => rfl)) fun vals w' hc hf => hend vals _ w' (hok.reg hN hd vals) hc hf

section frules
variable {P : Program} (T : Tab P) {ops : Array Oper} {all : List Oper} {C : World → Prop} {F : Nat → Value → World → Prop} {a : Act} {w : World} {o : Oper} {n k : Nat} {S : Slots}

theorem F_val {v : Value} (hS : Sl n S a) (hg : o.guard = none) (hob : Ob P (evS S) o v w) (hC : C w) (hF : F k v w) : wpList P ops (OpPost (Kp all C F k) (F k) a o.dst w) [o] a w :=
  wpList_ob (fun x u hx => hS.ev hx) hob (wanted_none hg _) ⟨v, rfl, ⟨hC, fun _ _ _ _ _ h => h⟩, hF⟩

theorem F_call {f : Nat} {c : Call} {fv : Operand} {caps : Array Value} {vs : List Value} {R : Value → World → Prop} (hS : Sl n S a) (hf : IsFn P f) (hg : o.guard = none) (ho : o.op = .call c) (hcv : c.callee = .value fv) (hfv : evS S fv = some (.func (.func f) #[] caps))
    (hx : c.args.toList.mapM (evS S) = some vs) (hc : Calls P f (vs.toArray ++ caps) w (Ret R)) (h : ∀ v w', R v w' → Kp all C F k w w' ∧ F k v w') : wpList P ops (OpPost (Kp all C F k) (F k) a o.dst w) [o] a w := by
  have e1 : c.args.map a.eval = vs.toArray := by
    apply Array.toList_inj.1
    rw [Array.toList_map, evs_map (fun x u hx => hS.ev hx) _ _ hx]
  exact wpList_call hg (run_callv hf ho hcv (hS.ev hfv) e1) hc fun v w' hr => ⟨v, rfl, (h v w' hr).1, (h v w' hr).2⟩

theorem F_store {t e b off m : Nat} {g : Bool} {p x : Operand} {v : Value} {cs us : List Value} (hS : Sl n S a) (hb : Box w b e cs) (hg : o.guard = none) (ho : o.op = .store t p x) (hd : o.dst = none)
    (hp : evS S p = some (.pointer (some ⟨b, off, none⟩))) (hx : evS S x = some v) (hus : v.cells = us.toArray) (ht : T.sz t = some (m, g)) (hm : us.length = m) (h1 : ∀ u ∈ us, u.oneCell' = true) (hlt : off + us.length ≤ cs.length)
    (h : ∀ w', Turn b w w' → Box w' b e (putCells cs off us) → Kp all C F k w w' ∧ F k undef w') : wpList P ops (OpPost (Kp all C F k) (F k) a o.dst w) [o] a w := by
  obtain ⟨w', hr, hb', htn⟩ := run_storeCells_box (P := P) us 0 off cs w hb (by omega) h1
  obtain ⟨h2, h3⟩ := h w' htn (by simpa using hb')
  refine wpList_skip hg (w' := w') ?_ hd ⟨undef, ?_, h2, h3⟩
  · unfold execOp
    have hsz := (T.hsz ht w).2
    simp [ho, hS.ev hp, hS.ev hx, Instr.storeAt, Instr.sureAddr, storeVar, hsz, hus, hm, hr]
  · rw [hd]; rfl
end frules

/-- a block whose cells are being written here and there: 'offs' may have turned -/
def Wr (w : World) (b : Nat) (t : TypeId) (cs : List Value) (offs : List Nat) : Prop := ∃ ds, Box w b t ds ∧ ds.length = cs.length ∧ ∀ j, j ∉ offs → ds[j]? = cs[j]?

theorem Wr.start {w : World} {b : Nat} {t : TypeId} {cs : List Value} (h : Box w b t cs) (offs : List Nat) : Wr w b t cs offs := ⟨cs, h, rfl, fun _ _ => rfl⟩
theorem Wr.below {w w' : World} {b : Nat} {t : TypeId} {cs : List Value} {offs : List Nat} (h : Wr w b t cs offs) (hb : Below w.heap.size w w') : Wr w' b t cs offs := by
  obtain ⟨ds, h1, h2, h3⟩ := h; exact ⟨ds, h1.below hb, h2, h3⟩
theorem Wr.turn {w w' : World} {b k : Nat} {t : TypeId} {cs : List Value} {offs : List Nat} (h : Wr w b t cs offs) (ht : Turn k w w') (hne : b ≠ k) : Wr w' b t cs offs := by
  obtain ⟨ds, h1, h2, h3⟩ := h; exact ⟨ds, h1.turn ht hne, h2, h3⟩
theorem Wr.put {w' : World} {b : Nat} {t : TypeId} {cs ds : List Value} {offs : List Nat} {off : Nat} {u : Value} (hl : ds.length = cs.length) (h3 : ∀ j, j ∉ offs → ds[j]? = cs[j]?) (hX : Box w' b t (putCells ds off [u])) (ho : off ∈ offs) : Wr w' b t cs offs :=
  ⟨_, hX, by simp [putCells, hl], fun j hj => by
    simp only [putCells]
    rw [List.getElem?_set_ne (fun e : off = j => hj (by rw [← e]; exact ho))]; exact h3 j hj⟩
theorem put_cell {w' : World} {b : Nat} {t : TypeId} {ds : List Value} {off : Nat} {u : Value} (hX : Box w' b t (putCells ds off [u])) (hlt : off < ds.length) : w'.cell? ⟨b, off, none⟩ = some u := by
  refine hX.cell off ?_
  simp only [putCells]
  rw [List.getElem?_set_self hlt]
theorem put_other {w w' : World} {b : Nat} {t : TypeId} {ds : List Value} {off j : Nat} {u v : Value} (h : Box w b t ds) (hX : Box w' b t (putCells ds off [u])) (hne : j ≠ off) (hc : w.cell? ⟨b, j, none⟩ = some v) : w'.cell? ⟨b, j, none⟩ = some v := by
  have h1 : ds[j]? = some v := by
    unfold World.cell? at hc
    simp only [show w.heap[b]? = some (.cells ds.toArray t (0, 0)) from h] at hc
    simpa using hc
  refine hX.cell j ?_
  simp only [putCells]
  rw [List.getElem?_set_ne (fun e => hne e.symm)]; exact h1

def setsL : List Value → List (Nat × Value) → List Value
  | cs, [] => cs
  | cs, (i, v) :: r => setsL (cs.set i v) r

theorem setsL_get : ∀ (r : List (Nat × Value)) (cs : List Value), (setsL cs r).length = cs.length ∧ (∀ j, j ∉ r.map (·.1) → (setsL cs r)[j]? = cs[j]?) ∧ ((r.map (·.1)).Nodup → ∀ p ∈ r, p.1 < cs.length → (setsL cs r)[p.1]? = some p.2)
  | [], cs => ⟨rfl, fun _ _ => rfl, fun _ p hp => by cases hp⟩
  | (i, v) :: r, cs => by
    obtain ⟨h1, h2, h3⟩ := setsL_get r (cs.set i v)
    refine ⟨by simpa [setsL] using h1, fun j hj => ?_, fun hn p hp hlt => ?_⟩
    · simp only [List.map_cons, List.mem_cons, not_or] at hj
      simp only [setsL]
      rw [h2 j hj.2, List.getElem?_set_ne (fun e => hj.1 e.symm)]
    · simp only [List.map_cons, List.nodup_cons] at hn
      simp only [setsL]
      cases hp with
      | head => rw [h2 i hn.1, List.getElem?_set_self hlt]
      | tail _ hp => exact h3 hn.2 p hp (by simpa using hlt)

/-- .. all have been written -/
theorem Wr.done {w : World} {b : Nat} {t : TypeId} {cs : List Value} {offs : List Nat} (h : Wr w b t cs offs) (r : List (Nat × Value)) (hr : r.map (·.1) = offs) (hn : offs.Nodup) (hlt : ∀ p ∈ r, p.1 < cs.length) (hc : ∀ p ∈ r, w.cell? ⟨b, p.1, none⟩ = some p.2) : Box w b t (setsL cs r) := by
  obtain ⟨ds, h1, h2, h3⟩ := h
  obtain ⟨g1, g2, g3⟩ := setsL_get r cs
  have : ds = setsL cs r := by
    apply List.ext_getElem?
    intro j
    by_cases hj : j ∈ offs
    · rw [← hr] at hj
      obtain ⟨p, hp, rfl⟩ := List.mem_map.1 hj
      rw [g3 (by rw [hr]; exact hn) p hp (hlt p hp)]
      have := hc p hp
      unfold World.cell? at this
      simp only [show w.heap[b]? = some (.cells ds.toArray t (0, 0)) from h1] at this
      simpa using this
    · rw [h3 j hj, g2 j (by rw [hr]; exact hj)]
  rw [← this]; exact h1

theorem slRep.lt {α : Type} {R : Rp α} {A : Nat → Prop} {w : World} {ao : Option Addr} {n cap k : Nat} {l : List α} (h : slRep R A w (.slice ao n cap) l) (hk : k < n) : k < l.length := by
  obtain ⟨ao', b, off, cap', hv, _⟩ := h
  injection hv with e1 e2 e3
  omega

end Go.Proofs.Ytmdoimpeacndaaa
