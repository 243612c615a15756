/- Regions that draw their order, whose effects stand in no one order: a stage is the set of those that are done. No program is named here. -/
import Derived.Test.YtmdoimpeacndaaaYB
namespace Go.Proofs.Ytmdoimpeacndaaa

/-- the set of the effects that are done, as a number: one bit for each, in E's order -/
def codeE : List Nat → (Nat → Bool) → Nat
 | [], _ => 0
 | e :: r, L => (if L e = true then 1 else 0) + 2 * codeE r L

theorem codeE_bit : ∀ (E : List Nat) (L : Nat → Bool) (i : Nat) (h : i < E.length), (codeE E L).testBit i = L E[i]
 | e :: r, L, 0, _ => by
  simp only [codeE, List.getElem_cons_zero, Nat.testBit_zero]
  cases L e
  ·simp
  ·simp only [if_true]; rw [show (1 + 2 * codeE r L) % 2 = 1 by omega]; rfl
 | e :: r, L, i + 1, h => by
  have := codeE_bit r L i (by simpa using h)
  simp only [codeE, List.getElem_cons_succ]
  rw [← this, Nat.testBit_succ]
  congr 1
  split <;> omega

theorem codeE_lt : ∀ (E : List Nat) (L : Nat → Bool), codeE E L < 2 ^ E.length
 | [], _ => by simp [codeE]
 | e :: r, L => by
  have := codeE_lt r L
  simp only [codeE, List.length_cons, Nat.pow_succ]
  split <;> omega

theorem codeE_same {E : List Nat} {L L' : Nat → Bool} (h : ∀ e ∈ E, L' e = L e) : codeE E L' = codeE E L := by
 induction E with
 | nil => rfl
 | cons e r ih => simp only [codeE]; rw [h e (by simp), ih fun x hx => h x (by simp [hx])]

theorem codeE_upd {E : List Nat} {L : Nat → Bool} {k : Nat} (hn : E.Nodup) (hk : k ∈ E) (hL : L k = false) : codeE E (fun j => L j || j == k) = codeE E L + 2 ^ E.idxOf k := by
 induction E with
 | nil => cases hk
 | cons e r ih =>
  rw [List.nodup_cons] at hn
  by_cases he : e = k
  ·subst he
   rw [List.idxOf_cons_self]
   simp only [codeE]
   rw [codeE_same (L := L) (L' := fun j => L j || j == e) fun x hx => by
    have : x ≠ e := fun h => hn.1 (h ▸ hx)
    simp [this]]
   simp [hL]; omega
  ·have hk' : k ∈ r := by simpa [Ne.symm he] using hk
   rw [List.idxOf_cons, show (e == k) = false by simpa using he, cond_false, Nat.pow_succ]
   simp only [codeE]
   have hx : (L e || e == k) = L e := by simp [he]
   rw [ih hn.2 hk']
   simp only [hx]
   omega

theorem codeE_all : ∀ {E : List Nat} {L : Nat → Bool}, (∀ e ∈ E, L e = true) → codeE E L = 2 ^ E.length - 1
 | [], _, _ => rfl
 | e :: r, L, h => by
  have := codeE_all (E := r) (L := L) fun x hx => h x (by simp [hx])
  simp only [codeE, List.length_cons, Nat.pow_succ]
  rw [h e (by simp), this, if_pos rfl]
  have : 0 < 2 ^ r.length := Nat.two_pow_pos _
  omega

/-- the stages at which operation k may come up -/
def alw (E ms : List Nat) (k : Nat) : List Nat := (List.range (2 ^ E.length)).filter fun s => (List.range E.length).all fun p =>
 (!(ms.getD k 0).testBit (E.getD p 0) || s.testBit p) && (!(E.getD p 0 == k || (ms.getD (E.getD p 0) 0).testBit k) || !s.testBit p) && (!s.testBit p || (List.range E.length).all fun q => !(ms.getD (E.getD p 0) 0).testBit (E.getD q 0) || s.testBit q)

def okTabG (l : List Oper) (E : List Nat) (tb : List (Nat × List Nat)) : Bool :=
 masks l [] == tb.map (·.1) && decide E.Nodup && E.all (decide <| · < l.length) && (List.range l.length).all fun k => (alw E (tb.map (·.1)) k).all fun s => (tb.getD k (0, [])).2.contains s

def owesG (P : Program) (ops : Array Oper) (E : List Nat) (rt : Nat → Nat) (F : Nat → Value → Value → Prop) (G : Nat → (Nat → Value) → World → Prop) (a : Act) (all : List Oper) : List Oper → List (Nat × List Nat) → Nat → Prop
 | o :: r, (m, al) :: tb, k => (∀ s, s ∈ al → ∀ (vals : Nat → Value) (w' : World), G s vals w' → (∀ j, m.testBit j = true → F j (vals (rt j)) (vals j)) → wpList P ops (OpPost (fun _ _ => True) (fun v y => F k (upd vals k v (rt k)) v ∧ G (if E.contains k then s + 2 ^ E.idxOf k else s) (upd vals k v) y) (putAll a vals all 0) o.dst w') [o] (putAll a vals all 0) w') ∧ owesG P ops E rt F G a all r tb (k + 1)
 | _, _, _ => True

theorem owesG_at {P : Program} {ops : Array Oper} {E : List Nat} {rt : Nat → Nat} {F : Nat → Value → Value → Prop} {G : Nat → (Nat → Value) → World → Prop} {a : Act} {all : List Oper} : ∀ (l : List Oper) (tb : List (Nat × List Nat)) (k : Nat), owesG P ops E rt F G a all l tb k → ∀ i o m al, l[i]? = some o → tb[i]? = some (m, al) →
  ∀ s, s ∈ al → ∀ (vals : Nat → Value) (w' : World), G s vals w' → (∀ j, m.testBit j = true → F j (vals (rt j)) (vals j)) → wpList P ops (OpPost (fun _ _ => True) (fun v y => F (k + i) (upd vals (k + i) v (rt (k + i))) v ∧ G (if E.contains (k + i) then s + 2 ^ E.idxOf (k + i) else s) (upd vals (k + i) v) y) (putAll a vals all 0) o.dst w') [o] (putAll a vals all 0) w'
 | [], _, _, _, i, o, _, _, h, _ => by simp at h
 | _ :: _, [], _, _, i, o, _, _, _, h => by simp at h
 | x :: r, (m', al') :: tb, k, h, i, o, m, al, h1, h2 => by
  cases i with
  | zero => simp at h1 h2; obtain ⟨rfl, rfl⟩ := h2; subst h1; exact h.1
  | succ i =>
   have := owesG_at r tb (k + 1) h.2 i o m al (by simpa using h1) (by simpa using h2)
   rw [show k + 1 + i = k + (i + 1) by omega] at this
   exact this

theorem owesG.cons {P : Program} {ops : Array Oper} {E : List Nat} {rt : Nat → Nat} {F : Nat → Value → Value → Prop} {G : Nat → (Nat → Value) → World → Prop} {a : Act} {all : List Oper} {o : Oper} {r : List Oper} {m : Nat} {al : List Nat} {tb : List (Nat × List Nat)} {k : Nat}
  (h1 : ∀ s, s ∈ al → ∀ (vals : Nat → Value) (w' : World), G s vals w' → (∀ j, m.testBit j = true → F j (vals (rt j)) (vals j)) → WpL P ops (fun v y => F k (upd vals k v (rt k)) v ∧ G (if E.contains k then s + 2 ^ E.idxOf k else s) (upd vals k v) y) o (putAll a vals all 0) w')
  (h2 : owesG P ops E rt F G a all r tb (k + 1)) : owesG P ops E rt F G a all (o :: r) ((m, al) :: tb) k := ⟨fun s b vals w' c d => (h1 s b vals w' c d).h, h2⟩

theorem owesG.nil {P : Program} {ops : Array Oper} {E : List Nat} {rt : Nat → Nat} {F : Nat → Value → Value → Prop} {G : Nat → (Nat → Value) → World → Prop} {a : Act} {all : List Oper} {k : Nat} : owesG P ops E rt F G a all [] [] k := trivial

theorem masks_len : ∀ (l : List Oper) (acc : List Nat), (masks l acc).length = acc.length + l.length
 | [], acc => by simp [masks]
 | o :: r, acc => by rw [masks, masks_len]; simp; omega

theorem masks_lt {all : List Oper} (hE : edgesBack all = true) : ∀ (l' : List Oper) (acc : List Nat), (∀ i o, l'[i]? = some o → all[acc.length + i]? = some o) → (∀ i q, (acc.getD i 0).testBit q = true → q < i) → ∀ i q, ((masks l' acc).getD i 0).testBit q = true → q < i
 | [], acc, _, ha, i, q, h => ha i q h
 | o :: r, acc, hl, ha, i, q, h => by
  refine masks_lt hE r _ (fun i o' hi => ?_) (fun i q h => ?_) i q h
  ·rw [List.length_append, show acc.length + [(fore o).foldl (fun m j => m ||| ((1 <<< j) ||| acc.getD j 0)) 0].length + i = acc.length + (i + 1) by simp; omega]
   exact hl (i + 1) o' (by simpa using hi)
  ·by_cases h1 : i < acc.length
   ·rw [List.getD_eq_getElem?_getD, List.getElem?_append_left h1, ← List.getD_eq_getElem?_getD] at h
    exact ha i q h
   ·by_cases h2 : i = acc.length
    ·subst h2
     rw [List.getD_eq_getElem?_getD, List.getElem?_append_right (Nat.le_refl _), Nat.sub_self] at h
     simp only [List.getElem?_cons_zero, Option.getD_some] at h
     rcases foldl_bit acc q _ _ h with h3 | ⟨j, h3, h4⟩
     ·simp at h3
     ·have h5 := fore_lt hE _ o (hl 0 o rfl) j h3
      rcases h4 with rfl | h4
      ·exact h5
      ·have := ha j q h4; omega
    ·rw [List.getD_eq_getElem?_getD, List.getElem?_eq_none (by simp; omega)] at h
     simp at h

theorem f_regionG {P : Program} {l : List Oper} {id : Nat} {ds : List Deferred} {Q : Exit → Act → World → Prop} {a : Act} {w : World} {n : Nat} {S : Slots} (hok : SlD ds n S a) (hm : P.follows .mixedOrders = true) (hE : edgesBack l = true) (hN : (dsts l).Nodup) (hd : (dsts l).all (decide <| · < n) = true)
  (E : List Nat) (tb : List (Nat × List Nat)) (htb : okTabG l E tb = true) (rt : Nat → Nat) (hrt : ((List.range l.length).all fun k => rt k == k || (tb.getD k (0, [])).1.testBit (rt k)) = true) (F : Nat → Value → Value → Prop) (G : Nat → (Nat → Value) → World → Prop) (hG : ∀ vals, G 0 vals w.drew)
  (hops : ∀ fr : (Nat → Value) → Act, (∀ vals, SlD ds n (regS vals l 0 ++ S.filter (fun p => !(dsts l).contains p.1)) (fr vals)) → (∀ vals, fr vals = putAll a vals l 0) → owesG P l.toArray E rt F G a l l tb 0)
  (hend : ∀ (vals : Nat → Value) (a' : Act) (w' : World), SlD ds n (regS vals l 0 ++ S.filter (fun p => !(dsts l).contains p.1)) a' → G (2 ^ E.length - 1) vals w' → (∀ j, j < l.length → F j (vals (rt j)) (vals j)) → Q .normal a' w') :
  (Code.region id l.toArray true).wp P Q a w := by
 unfold okTabG at htb
 simp only [Bool.and_eq_true, beq_iff_eq, decide_eq_true_eq, List.all_eq_true, List.mem_range] at htb
 obtain ⟨⟨⟨h1, h2⟩, h3⟩, h5⟩ := htb
 have hlen : tb.length = l.length := by
  have h6 := congrArg List.length h1
  rw [masks_len] at h6
  simpa using h6.symm
 have hmask : ∀ k, (masks l []).getD k 0 = (tb.map (·.1)).getD k 0 := fun k => by rw [h1]
 have hmask2 : ∀ k, (tb.map (·.1)).getD k 0 = (tb.getD k (0, [])).1 := fun k => by
  rw [List.getD_eq_getElem?_getD, List.getD_eq_getElem?_getD, List.getElem?_map]
  cases tb[k]? <;> rfl
 refine wp_region_L hm hE hN (fun L vals w' => (∀ j, j < l.length → L j = true → F j (vals (rt j)) (vals j)) ∧ G (codeE E L) vals w') ⟨fun _ _ h => (by cases h), ?_⟩ (fun i o hi L vals w' hC hLi hf hcl => ?_) (fun L vals w' hC hL => ?_)
 ·have : codeE E (fun _ => false) = 0 := by
   clear h2 h3 h5 h1 hmask hmask2 hops hend hG
   induction E with
   | nil => rfl
   | cons e r ih => simp only [codeE, ih]; rfl
  rw [this]; exact hG _
 ·have hil : i < l.length := (List.getElem?_eq_some_iff.1 hi).1
  have hanc : ∀ (i : Nat) (q : Nat), ((masks l []).getD i 0).testBit q = true → L i = true → L q = true := fun i q h hL =>
   masks_in (D := fun i => L i = true) (fun i o hi h => hcl i o hi h) l [] (fun i o h => by simpa using h) (fun i q h => by simp at h) i q h hL
  have hanc2 : ∀ q, ((masks l []).getD i 0).testBit q = true → L q = true ∧ q < l.length := fun q h => by
   have h6 := masks_in (D := fun k => k = i ∨ L k = true) (fun k o' hk h j hj => by
    rcases h with rfl | h
    ·rw [hi] at hk; injection hk with hk; subst hk; exact .inr (hf j hj)
    ·exact .inr (hcl k o' hk h j hj)) l [] (fun i o h => by simpa using h) (fun i q h => by simp at h) i q h (.inl rfl)
   have h7 := masks_lt hE l [] (fun i o h => by simpa using h) (fun i q h => by simp at h) i q h
   exact ⟨h6.resolve_left (by omega), by omega⟩
  have htb : tb[i]? = some (tb.getD i (0, [])) := by
   rw [List.getD_eq_getElem?_getD, List.getElem?_eq_getElem (by omega)]; rfl
  have hal : codeE E L ∈ (tb.getD i (0, [])).2 := by
   have h6 := h5 i hil (codeE E L) ?_
   ·simpa using h6
   ·unfold alw
    rw [List.mem_filter, List.mem_range, List.all_eq_true]
    refine ⟨codeE_lt E L, fun p hp => ?_⟩
    rw [List.mem_range] at hp
    rw [codeE_bit E L p hp, getD_get _ _ _ hp, ← hmask, ← hmask, Bool.and_eq_true, Bool.and_eq_true]
    refine ⟨⟨?_, ?_⟩, ?_⟩
    ·cases hx : ((masks l []).getD i 0).testBit E[p] with
     | false => rfl
     | true => rw [(hanc2 _ hx).1]; rfl
    ·cases hx : (E[p] == i || ((masks l []).getD E[p] 0).testBit i) with
     | false => rfl
     | true =>
      cases hy : L E[p] with
      | false => rfl
      | true =>
       rw [Bool.or_eq_true, beq_iff_eq] at hx
       rcases hx with hx | hx
       ·rw [hx, hLi] at hy; cases hy
       ·rw [hanc _ _ hx hy] at hLi; cases hLi
    ·cases hy : L E[p] with
     | false => rfl
     | true =>
      rw [Bool.not_true, Bool.false_or, List.all_eq_true]
      intro q hq
      rw [List.mem_range] at hq
      rw [codeE_bit E L q hq, getD_get _ _ _ hq]
      cases hx : ((masks l []).getD E[p] 0).testBit E[q] with
      | false => rfl
      | true => rw [hanc _ _ hx hy]; rfl
  have ho := owesG_at l tb 0 (hops (fun vals => putAll a vals l 0) (fun vals => hok.reg hN hd vals) (fun _ => rfl)) i o _ _ hi htb (codeE E L) hal vals w' hC.2 (fun j hj => by
   have hj2 : ((masks l []).getD i 0).testBit j = true := by rw [hmask, hmask2]; exact hj
   exact hC.1 j (hanc2 j hj2).2 (hanc2 j hj2).1)
  rw [Nat.zero_add] at ho
  refine ⟨_, ho, fun v w'' ⟨hFv, hGv⟩ => ⟨fun j hj hLj => ?_, ?_⟩⟩
  ·by_cases hne : j = i
   ·subst hne; rw [show upd vals j v j = v from if_pos rfl]; exact hFv
   ·have e1 : upd vals i v j = vals j := if_neg hne
    rw [e1]
    have hLj' : L j = true := by simpa [hne] using hLj
    have h9 := hC.1 j hj hLj'
    rw [List.all_eq_true] at hrt
    have h8 := hrt j (by simpa using hj)
    rw [Bool.or_eq_true, beq_iff_eq, ← hmask2, ← hmask] at h8
    have hrj : rt j ≠ i := fun e => by
     rcases h8 with h8 | h8
     ·exact hne (by rw [← h8]; exact e)
     ·have := hanc j _ h8 hLj'; rw [e, hLi] at this; cases this
    rw [show upd vals i v (rt j) = vals (rt j) from if_neg hrj]; exact h9
  ·have : codeE E (fun j => L j || j == i) = if E.contains i then codeE E L + 2 ^ E.idxOf i else codeE E L := by
    split
    ·rename_i hc; exact codeE_upd h2 (by simpa using hc) hLi
    ·rename_i hc
     refine codeE_same fun x hx => ?_
     have : x ≠ i := fun e => by subst e; exact hc (by simpa using hx)
     simp [this]
   rw [this]; exact hGv
 ·refine hend vals _ w' (hok.reg hN hd vals) ?_ (fun j hj => hC.1 j hj (hL j hj))
  rw [← codeE_all (E := E) (L := L) fun e he => hL e (h3 e he)]; exact hC.2

-- jumps back to a label
def WN (P : Program) (X : Code) (l : Nat) (Q : Exit → Act → World → Prop) : Nat → Act → World → Prop
 | 0, _, _ => False
 | n + 1, a, w => X.wp P (Exit.jump l (WN P X l Q n) Q) a w

theorem least_ex {p : Nat → Prop} : ∀ n, p n → ∃ k, p k ∧ ∀ j, p j → k ≤ j := fun n => by
 induction n using Nat.strongRecOn with
 | _ n ih =>
  intro h
  by_cases c : ∃ m, m < n ∧ p m
  ·obtain ⟨m, h1, h2⟩ := c
   exact ih m h1 h2
  ·exact ⟨n, h, fun j hj => Nat.le_of_not_lt fun hlt => c ⟨j, hlt, hj⟩⟩

section
variable {P : Program} {Q : Exit → Act → World → Prop} {a : Act} {w : World}
theorem f_scope {c X : Code} {l : Nat} (hf : findLabel c l = some (.seq .skip X)) (h : c.wp P (Exit.jump l (fun a w => ∃ n, WN P X l Q n a w) Q) a w) : (Code.scope c).wp P Q a w := by
 have sp : ∀ a w, (∃ n, WN P X l Q n a w) → (fun k => WN P X l Q k a w ∧ ∀ j, WN P X l Q j a w → k ≤ j) (Classical.epsilon fun k => WN P X l Q k a w ∧ ∀ j, WN P X l Q j a w → k ≤ j) := fun a w ⟨n, hn⟩ => Classical.epsilon_spec (p := fun k => WN P X l Q k a w ∧ ∀ j, WN P X l Q j a w → k ≤ j) (least_ex (p := fun k => WN P X l Q k a w) n hn)
 refine wp_scope_jumps l (fun a w => ∃ n, WN P X l Q n a w) (fun a w => Classical.epsilon fun k => WN P X l Q k a w ∧ ∀ j, WN P X l Q j a w → k ≤ j) hf h ?_
 intro a w hw
 obtain ⟨h1, h2⟩ := sp a w hw
 generalize (Classical.epsilon fun k => WN P X l Q k a w ∧ ∀ j, WN P X l Q j a w → k ≤ j) = m at h1 h2 ⊢
 cases m with
 | zero => cases h1
 | succ m =>
  refine wp_seq (wp_skip ?_)
  refine wp_mono h1 fun e a2 w2 hq => ?_
  cases e with
  | goto l' =>
   obtain ⟨e1, h3⟩ := hq
   exact ⟨e1, ⟨m, h3⟩, Nat.lt_succ_of_le ((sp a2 w2 ⟨m, h3⟩).2 m h3)⟩
  | _ => exact hq

theorem f_label {X : Code} {l : Nat} {σ R : Type} {body : (σ → Option R) → σ → Option R} {r : R} {m : Nat} {s : σ} (hF : iter body m s = some r) (I : σ → Act → World → Prop) (h0 : I s a w)
  (round : ∀ rec s a w, I s a w → body rec s = some r → X.wp P (Exit.jump l (fun a' w' => ∃ s', I s' a' w' ∧ rec s' = some r) Q) a w) : (Code.seq (.label l) X).wp P (Exit.jump l (fun a w => ∃ n, WN P X l Q n a w) Q) a w := by
 have key : ∀ m s a w, I s a w → iter body m s = some r → WN P X l Q m a w := by
  intro m
  induction m with
  | zero => intro s a w _ h; cases h
  | succ m ih =>
   intro s a w hI h
   refine wp_mono (round (iter body m) s a w hI h) fun e a2 w2 hq => ?_
   cases e with
   | goto l' =>
    obtain ⟨e1, s', h3, h4⟩ := hq
    exact ⟨e1, ih _ _ _ h3 h4⟩
   | _ => exact hq
 cases m with
 | zero => cases hF
 | succ m =>
  refine wp_seq (wp_label ?_)
  refine wp_mono (key (m + 1) s a w h0 hF) fun e a2 w2 hq => ?_
  cases e with
  | goto l' => exact ⟨hq.1, m, hq.2⟩
  | _ => exact hq

theorem p_jump_r {l : Nat} {J : Act → World → Prop} (h : Q .ret a w) : Exit.jump l J Q .ret a w := h

theorem p_jump_g {l : Nat} {J : Act → World → Prop} (h : J a w) : Exit.jump l J Q (.goto l) a w := ⟨rfl, h⟩

end
open Go.RowKit in
theorem At.blw {w w' : World} {b off : Nat} {cl : List Value} (h : At w b off cl) (hb : Below w.heap.size w w') : At w' b off cl := fun j v hv => by
 have h1 := h j v hv
 by_cases hlt : b < w.heap.size
 ·exact (hb.cell (p := ⟨b, off + j, none⟩) hlt).trans h1
 ·unfold World.cell? at h1
  simp only [Array.getElem?_eq_none (Nat.le_of_not_lt hlt)] at h1
  cases h1

theorem Hf.owElG {I0 D : Dm} {w0 : World} {I : Dm} {w : World} {cs : List Ch} {α : Type} {R : Rp α} [Inhabited α] (H : Hf I0 D w0 I w cs) (i : Nat) {e : TypeId} {v : Value} {l : List α} (hi : cs[i]? = some (OwC R e v l)) (z : Int) (hd : ∃ cl, R.rep I w cl default) : ∃ cl, R.rep I w cl (l.getD z.toNat default) ∧ (0 ≤ z ∧ z < (l.length : Int) → At w (blkOf v) (oofOf v + z.toNat * R.n) cl) := by
 by_cases h0 : z.toNat < l.length
 ·obtain ⟨cl, h1, h2⟩ := H.owEl i hi (z := (z.toNat : Int)) (by omega)
  exact ⟨cl, h1, fun _ => h2⟩
 ·obtain ⟨cl, h1⟩ := hd
  refine ⟨cl, ?_, fun h => absurd h (by omega)⟩
  rw [List.getD_eq_getElem?_getD, List.getElem?_eq_none (by omega)]; exact h1

end Go.Proofs.Ytmdoimpeacndaaa
