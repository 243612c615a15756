/- Regions as in YQ; a slot that the region assigns later reads as it did ahead of it. No program is named here. -/
import Derived.Test.YtdofpehcojboeaaYQ
namespace Go.Proofs.Ytdofpehcojboeaa
def owesU (ms : List Nat) (P : Program) (ops : Array Oper) (E : List Nat) (rt : Nat → Nat) (F : Nat → Value → Value → Prop) (G : Nat → (Nat → Value) → World → Prop) (a : Act) (all : List Oper) : List Oper → List (Nat × List Nat) → Nat → Prop
 | o :: r, (m, al) :: tb, k => (∀ s, s ∈ al → ∀ (vals : Nat → Value) (w' : World), G s vals w' → (∀ j, m.testBit j = true → F j (vals (rt j)) (vals j)) → (∀ j, (ms.getD j 0).testBit k = true → vals j = orig all a j) → wpList P ops (OpPost (fun _ _ => True) (fun v y => F k (upd vals k v (rt k)) v ∧ G (if E.contains k then s + 2 ^ E.idxOf k else s) (upd vals k v) y) (putAll a vals all 0) o.dst w') [o] (putAll a vals all 0) w') ∧ owesU ms P ops E rt F G a all r tb (k + 1)
 | _, _, _ => True

theorem owesU_at {ms : List Nat} {P : Program} {ops : Array Oper} {E : List Nat} {rt : Nat → Nat} {F : Nat → Value → Value → Prop} {G : Nat → (Nat → Value) → World → Prop} {a : Act} {all : List Oper} : ∀ (l : List Oper) (tb : List (Nat × List Nat)) (k : Nat), owesU ms P ops E rt F G a all l tb k → ∀ i o m al, l[i]? = some o → tb[i]? = some (m, al) →
  ∀ s, s ∈ al → ∀ (vals : Nat → Value) (w' : World), G s vals w' → (∀ j, m.testBit j = true → F j (vals (rt j)) (vals j)) → (∀ j, (ms.getD j 0).testBit (k + i) = true → vals j = orig all a j) → wpList P ops (OpPost (fun _ _ => True) (fun v y => F (k + i) (upd vals (k + i) v (rt (k + i))) v ∧ G (if E.contains (k + i) then s + 2 ^ E.idxOf (k + i) else s) (upd vals (k + i) v) y) (putAll a vals all 0) o.dst w') [o] (putAll a vals all 0) w'
 | [], _, _, _, i, o, _, _, h, _ => by simp at h
 | _ :: _, [], _, _, i, o, _, _, _, h => by simp at h
 | x :: r, (m', al') :: tb, k, h, i, o, m, al, h1, h2 => by
  cases i with
  | zero => simp at h1 h2; obtain ⟨rfl, rfl⟩ := h2; subst h1; exact h.1
  | succ i =>
   have := owesU_at r tb (k + 1) h.2 i o m al (by simpa using h1) (by simpa using h2)
   rw [show k + 1 + i = k + (i + 1) by omega] at this
   exact this

theorem owesU.cons {ms : List Nat} {P : Program} {ops : Array Oper} {E : List Nat} {rt : Nat → Nat} {F : Nat → Value → Value → Prop} {G : Nat → (Nat → Value) → World → Prop} {a : Act} {all : List Oper} {o : Oper} {r : List Oper} {m : Nat} {al : List Nat} {tb : List (Nat × List Nat)} {k : Nat}
  (h1 : ∀ s, s ∈ al → ∀ (vals : Nat → Value) (w' : World), G s vals w' → (∀ j, m.testBit j = true → F j (vals (rt j)) (vals j)) → (∀ j, (ms.getD j 0).testBit k = true → vals j = orig all a j) → WpL P ops (fun v y => F k (upd vals k v (rt k)) v ∧ G (if E.contains k then s + 2 ^ E.idxOf k else s) (upd vals k v) y) o (putAll a vals all 0) w')
  (h2 : owesU ms P ops E rt F G a all r tb (k + 1)) : owesU ms P ops E rt F G a all (o :: r) ((m, al) :: tb) k := ⟨fun s b vals w' c d e => (h1 s b vals w' c d e).h, h2⟩

theorem owesU.nil {ms : List Nat} {P : Program} {ops : Array Oper} {E : List Nat} {rt : Nat → Nat} {F : Nat → Value → Value → Prop} {G : Nat → (Nat → Value) → World → Prop} {a : Act} {all : List Oper} {k : Nat} : owesU ms P ops E rt F G a all [] [] k := trivial

theorem f_regionU {P : Program} {l : List Oper} {id : Nat} {ds : List Deferred} {Q : Exit → Act → World → Prop} {a : Act} {w : World} {n : Nat} {S : Slots} (hok : SlD ds n S a) (hm : P.follows .mixedOrders = true) (hE : edgesBack l = true) (hN : (dsts l).Nodup) (hd : (dsts l).all (decide <| · < n) = true)
  (E : List Nat) (tb : List (Nat × List Nat)) (htb : okTabG l E tb = true) (rt : Nat → Nat) (hrt : ((List.range l.length).all fun k => rt k == k || (tb.getD k (0, [])).1.testBit (rt k)) = true) (F : Nat → Value → Value → Prop) (G : Nat → (Nat → Value) → World → Prop) (hG : ∀ vals, G 0 vals w.drew)
  (hops : ∀ fr : (Nat → Value) → Act, (∀ vals, SlD ds n (regS vals l 0 ++ S.filter (fun p => !(dsts l).contains p.1)) (fr vals)) → (∀ vals, fr vals = putAll a vals l 0) → owesU (tb.map (·.1)) P l.toArray E rt F G a l l tb 0)
  (hend : ∀ (vals : Nat → Value) (a' : Act) (w' : World), SlD ds n (regS vals l 0 ++ S.filter (fun p => !(dsts l).contains p.1)) a' → G (2 ^ E.length - 1) vals w' → (∀ j, j < l.length → F j (vals (rt j)) (vals j)) → Q .normal a' w') :
  (Code.region id l.toArray true).wp P Q a w := by
 unfold okTabG at htb
 simp only [Bool.and_eq_true, beq_iff_eq, decide_eq_true_eq, List.all_eq_true, List.mem_range] at htb
 obtain ⟨⟨⟨h1, h2⟩, h3⟩, h5⟩ := htb
 have hlen : tb.length = l.length := by
  have h6 := congrArg List.length h1
  rw [masks_len] at h6
  simpa using h6.symm
 have hmask : ∀ k, (masks l []).getD k 0 = (tb.map (·.1)).getD k 0 := fun k => by rw [h1]
 have hmask2 : ∀ k, (tb.map (·.1)).getD k 0 = (tb.getD k (0, [])).1 := fun k => by
  rw [List.getD_eq_getElem?_getD, List.getD_eq_getElem?_getD, List.getElem?_map]
  cases tb[k]? <;> rfl
 refine wp_region_L hm hE hN (fun L vals w' => (∀ j, j < l.length → L j = true → F j (vals (rt j)) (vals j)) ∧ G (codeE E L) vals w' ∧ ∀ j, j < l.length → L j = false → vals j = orig l a j) ⟨fun _ _ h => (by cases h), ?_, fun _ _ _ => rfl⟩ (fun i o hi L vals w' hC hLi hf hcl => ?_) (fun L vals w' hC hL => ?_)
 ·have : codeE E (fun _ => false) = 0 := by
   clear h2 h3 h5 h1 hmask hmask2 hops hend hG
   induction E with
   | nil => rfl
   | cons e r ih => simp only [codeE, ih]; rfl
  rw [this]; exact hG _
 ·have hil : i < l.length := (List.getElem?_eq_some_iff.1 hi).1
  have hanc : ∀ (i : Nat) (q : Nat), ((masks l []).getD i 0).testBit q = true → L i = true → L q = true := fun i q h hL =>
   masks_in (D := fun i => L i = true) (fun i o hi h => hcl i o hi h) l [] (fun i o h => by simpa using h) (fun i q h => by simp at h) i q h hL
  have hanc2 : ∀ q, ((masks l []).getD i 0).testBit q = true → L q = true ∧ q < l.length := fun q h => by
   have h6 := masks_in (D := fun k => k = i ∨ L k = true) (fun k o' hk h j hj => by
    rcases h with rfl | h
    ·rw [hi] at hk; injection hk with hk; subst hk; exact .inr (hf j hj)
    ·exact .inr (hcl k o' hk h j hj)) l [] (fun i o h => by simpa using h) (fun i q h => by simp at h) i q h (.inl rfl)
   have h7 := masks_lt hE l [] (fun i o h => by simpa using h) (fun i q h => by simp at h) i q h
   exact ⟨h6.resolve_left (by omega), by omega⟩
  have htb : tb[i]? = some (tb.getD i (0, [])) := by
   rw [List.getD_eq_getElem?_getD, List.getElem?_eq_getElem (by omega)]; rfl
  have hal : codeE E L ∈ (tb.getD i (0, [])).2 := by
   have h6 := h5 i hil (codeE E L) ?_
   ·simpa using h6
   ·unfold alw
    rw [List.mem_filter, List.mem_range, List.all_eq_true]
    refine ⟨codeE_lt E L, fun p hp => ?_⟩
    rw [List.mem_range] at hp
    rw [codeE_bit E L p hp, getD_get _ _ _ hp, ← hmask, ← hmask, Bool.and_eq_true, Bool.and_eq_true]
    refine ⟨⟨?_, ?_⟩, ?_⟩
    ·cases hx : ((masks l []).getD i 0).testBit E[p] with
     | false => rfl
     | true => rw [(hanc2 _ hx).1]; rfl
    ·cases hx : (E[p] == i || ((masks l []).getD E[p] 0).testBit i) with
     | false => rfl
     | true =>
      cases hy : L E[p] with
      | false => rfl
      | true =>
       rw [Bool.or_eq_true, beq_iff_eq] at hx
       rcases hx with hx | hx
       ·rw [hx, hLi] at hy; cases hy
       ·rw [hanc _ _ hx hy] at hLi; cases hLi
    ·cases hy : L E[p] with
     | false => rfl
     | true =>
      rw [Bool.not_true, Bool.false_or, List.all_eq_true]
      intro q hq
      rw [List.mem_range] at hq
      rw [codeE_bit E L q hq, getD_get _ _ _ hq]
      cases hx : ((masks l []).getD E[p] 0).testBit E[q] with
      | false => rfl
      | true => rw [hanc _ _ hx hy]; rfl
  have ho := owesU_at l tb 0 (hops (fun vals => putAll a vals l 0) (fun vals => hok.reg hN hd vals) (fun _ => rfl)) i o _ _ hi htb (codeE E L) hal vals w' hC.2.1 (fun j hj => by
   have hj2 : ((masks l []).getD i 0).testBit j = true := by rw [hmask, hmask2]; exact hj
   exact hC.1 j (hanc2 j hj2).2 (hanc2 j hj2).1) (fun j hj => by
   rw [Nat.zero_add, ← hmask] at hj
   refine hC.2.2 j ?_ ?_
   ·by_cases c : j < l.length
    ·exact c
    ·rw [List.getD_eq_getElem?_getD, List.getElem?_eq_none (by rw [masks_len]; simp; omega)] at hj; simp at hj
   ·cases hx : L j with
    | false => rfl
    | true => rw [hanc _ _ hj hx] at hLi; cases hLi)
  rw [Nat.zero_add] at ho
  refine ⟨_, ho, fun v w'' ⟨hFv, hGv⟩ => ⟨fun j hj hLj => ?_, ?_, fun j hj hLj => ?_⟩⟩
  ·by_cases hne : j = i
   ·subst hne; rw [show upd vals j v j = v from if_pos rfl]; exact hFv
   ·have e1 : upd vals i v j = vals j := if_neg hne
    rw [e1]
    have hLj' : L j = true := by simpa [hne] using hLj
    have h9 := hC.1 j hj hLj'
    rw [List.all_eq_true] at hrt
    have h8 := hrt j (by simpa using hj)
    rw [Bool.or_eq_true, beq_iff_eq, ← hmask2, ← hmask] at h8
    have hrj : rt j ≠ i := fun e => by
     rcases h8 with h8 | h8
     ·exact hne (by rw [← h8]; exact e)
     ·have := hanc j _ h8 hLj'; rw [e, hLi] at this; cases this
    rw [show upd vals i v (rt j) = vals (rt j) from if_neg hrj]; exact h9
  ·have : codeE E (fun j => L j || j == i) = if E.contains i then codeE E L + 2 ^ E.idxOf i else codeE E L := by
    split
    ·rename_i hc; exact codeE_upd h2 (by simpa using hc) hLi
    ·rename_i hc
     refine codeE_same fun x hx => ?_
     have : x ≠ i := fun e => by subst e; exact hc (by simpa using hx)
     simp [this]
   rw [this]; exact hGv
  ·have hne : j ≠ i := fun e => by simp [e] at hLj
   rw [show upd vals i v j = vals j from if_neg hne]
   exact hC.2.2 j hj (by simpa [hne] using hLj)
 ·refine hend vals _ w' (hok.reg hN hd vals) ?_ (fun j hj => hC.1 j hj (hL j hj))
  rw [← codeE_all (E := E) (L := L) fun e he => hL e (h3 e he)]; exact hC.2.1

theorem orig_at {l : List Oper} {ds : List Deferred} {n : Nat} {S : Slots} {a : Act} {j d : Nat} {v : Value} (hok : SlD ds n S a) (hS : S.lookup d = some v) (hd : (l[j]?).bind (·.dst) = some d) : orig l a j = v := by
 have h := hok.2.2 _ _ hS
 unfold orig
 rw [hd]
 simp [Array.getD_eq_getD_getElem?, h]

end Go.Proofs.Ytdofpehcojboeaa
