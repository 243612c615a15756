/- Small texts in one. -/
import Derived.Test.YthmjkcdpbbcdgaaGreatYB
import Derived.WideKeyPair
import Derived.DeepKeys5
import Derived.ChangeKeysEq
import Derived.RangeFuncLeaves
import Derived.RangeFuncSeq
import Derived.TacticsIn
import Derived.Test.YthmjkcdpbbcdgaaGreatW1
import Derived.Laws.IdiomStrings
import Derived.Laws.RangeAny
namespace Go.Proofs.YthmjkcdpbbcdgaaGreat

/-- the set of the effects that are done, as a number: one bit for each, in E's order -/
def codeE : List Nat → (Nat → Bool) → Nat
 | [], _ => 0
 | e :: r, L => (if L e = true then 1 else 0) + 2 * codeE r L

theorem codeE_bit : ∀ (E : List Nat) (L : Nat → Bool) (i : Nat) (h : i < E.length), (codeE E L).testBit i = L E[i]
 | e :: r, L, 0, _ => by
  simp only [codeE, List.getElem_cons_zero, Nat.testBit_zero]
  cases L e
  ·simp
  ·simp only [if_true]; rw [show (1 + 2 * codeE r L) % 2 = 1 by omega]; rfl
 | e :: r, L, i + 1, h => by
  have := codeE_bit r L i (by simpa using h)
  simp only [codeE, List.getElem_cons_succ]
  rw [← this, Nat.testBit_succ]
  congr 1
  split <;> omega

theorem codeE_lt : ∀ (E : List Nat) (L : Nat → Bool), codeE E L < 2 ^ E.length
 | [], _ => by simp [codeE]
 | e :: r, L => by
  have := codeE_lt r L
  simp only [codeE, List.length_cons, Nat.pow_succ]
  split <;> omega

theorem codeE_same {E : List Nat} {L L' : Nat → Bool} (h : ∀ e ∈ E, L' e = L e) : codeE E L' = codeE E L := by
 induction E with
 | nil => rfl
 | cons e r ih => simp only [codeE]; rw [h e (by simp), ih fun x hx => h x (by simp [hx])]

theorem codeE_upd {E : List Nat} {L : Nat → Bool} {k : Nat} (hn : E.Nodup) (hk : k ∈ E) (hL : L k = false) : codeE E (fun j => L j || j == k) = codeE E L + 2 ^ E.idxOf k := by
 induction E with
 | nil => cases hk
 | cons e r ih =>
  rw [List.nodup_cons] at hn
  by_cases he : e = k
  ·subst he
   rw [List.idxOf_cons_self]
   simp only [codeE]
   rw [codeE_same (L := L) (L' := fun j => L j || j == e) fun x hx => by
    have : x ≠ e := fun h => hn.1 (h ▸ hx)
    simp [this]]
   simp [hL]; omega
  ·have hk' : k ∈ r := by simpa [Ne.symm he] using hk
   rw [List.idxOf_cons, show (e == k) = false by simpa using he, cond_false, Nat.pow_succ]
   simp only [codeE]
   have hx : (L e || e == k) = L e := by simp [he]
   rw [ih hn.2 hk']
   simp only [hx]
   omega

theorem codeE_all : ∀ {E : List Nat} {L : Nat → Bool}, (∀ e ∈ E, L e = true) → codeE E L = 2 ^ E.length - 1
 | [], _, _ => rfl
 | e :: r, L, h => by
  have := codeE_all (E := r) (L := L) fun x hx => h x (by simp [hx])
  simp only [codeE, List.length_cons, Nat.pow_succ]
  rw [h e (by simp), this, if_pos rfl]
  have : 0 < 2 ^ r.length := Nat.two_pow_pos _
  omega

/-- the stages at which operation k may come up -/
def alw (E ms : List Nat) (k : Nat) : List Nat := (List.range (2 ^ E.length)).filter fun s => (List.range E.length).all fun p =>
 (!(ms.getD k 0).testBit (E.getD p 0) || s.testBit p) && (!(E.getD p 0 == k || (ms.getD (E.getD p 0) 0).testBit k) || !s.testBit p) && (!s.testBit p || (List.range E.length).all fun q => !(ms.getD (E.getD p 0) 0).testBit (E.getD q 0) || s.testBit q)

def okTabG (l : List Oper) (E : List Nat) (tb : List (Nat × List Nat)) : Bool :=
 masks l [] == tb.map (·.1) && decide E.Nodup && E.all (decide <| · < l.length) && (List.range l.length).all fun k => (alw E (tb.map (·.1)) k).all fun s => (tb.getD k (0, [])).2.contains s

def owesG (P : Program) (ops : Array Oper) (E : List Nat) (rt : Nat → Nat) (F : Nat → Value → Value → Prop) (G : Nat → (Nat → Value) → World → Prop) (a : Act) (all : List Oper) : List Oper → List (Nat × List Nat) → Nat → Prop
 | o :: r, (m, al) :: tb, k => (∀ s, s ∈ al → ∀ (vals : Nat → Value) (w' : World), G s vals w' → (∀ j, m.testBit j = true → F j (vals (rt j)) (vals j)) → wpList P ops (OpPost (fun _ _ => True) (fun v y => F k (upd vals k v (rt k)) v ∧ G (if E.contains k then s + 2 ^ E.idxOf k else s) (upd vals k v) y) (putAll a vals all 0) o.dst w') [o] (putAll a vals all 0) w') ∧ owesG P ops E rt F G a all r tb (k + 1)
 | _, _, _ => True

theorem owesG_at {P : Program} {ops : Array Oper} {E : List Nat} {rt : Nat → Nat} {F : Nat → Value → Value → Prop} {G : Nat → (Nat → Value) → World → Prop} {a : Act} {all : List Oper} : ∀ (l : List Oper) (tb : List (Nat × List Nat)) (k : Nat), owesG P ops E rt F G a all l tb k → ∀ i o m al, l[i]? = some o → tb[i]? = some (m, al) →
  ∀ s, s ∈ al → ∀ (vals : Nat → Value) (w' : World), G s vals w' → (∀ j, m.testBit j = true → F j (vals (rt j)) (vals j)) → wpList P ops (OpPost (fun _ _ => True) (fun v y => F (k + i) (upd vals (k + i) v (rt (k + i))) v ∧ G (if E.contains (k + i) then s + 2 ^ E.idxOf (k + i) else s) (upd vals (k + i) v) y) (putAll a vals all 0) o.dst w') [o] (putAll a vals all 0) w'
 | [], _, _, _, i, o, _, _, h, _ => by simp at h
 | _ :: _, [], _, _, i, o, _, _, _, h => by simp at h
 | x :: r, (m', al') :: tb, k, h, i, o, m, al, h1, h2 => by
  cases i with
  | zero => simp at h1 h2; obtain ⟨rfl, rfl⟩ := h2; subst h1; exact h.1
  | succ i =>
   have := owesG_at r tb (k + 1) h.2 i o m al (by simpa using h1) (by simpa using h2)
   rw [show k + 1 + i = k + (i + 1) by omega] at this
   exact this

theorem owesG.cons {P : Program} {ops : Array Oper} {E : List Nat} {rt : Nat → Nat} {F : Nat → Value → Value → Prop} {G : Nat → (Nat → Value) → World → Prop} {a : Act} {all : List Oper} {o : Oper} {r : List Oper} {m : Nat} {al : List Nat} {tb : List (Nat × List Nat)} {k : Nat}
  (h1 : ∀ s, s ∈ al → ∀ (vals : Nat → Value) (w' : World), G s vals w' → (∀ j, m.testBit j = true → F j (vals (rt j)) (vals j)) → WpL P ops (fun v y => F k (upd vals k v (rt k)) v ∧ G (if E.contains k then s + 2 ^ E.idxOf k else s) (upd vals k v) y) o (putAll a vals all 0) w')
  (h2 : owesG P ops E rt F G a all r tb (k + 1)) : owesG P ops E rt F G a all (o :: r) ((m, al) :: tb) k := ⟨fun s b vals w' c d => (h1 s b vals w' c d).h, h2⟩

theorem owesG.nil {P : Program} {ops : Array Oper} {E : List Nat} {rt : Nat → Nat} {F : Nat → Value → Value → Prop} {G : Nat → (Nat → Value) → World → Prop} {a : Act} {all : List Oper} {k : Nat} : owesG P ops E rt F G a all [] [] k := trivial

theorem masks_len : ∀ (l : List Oper) (acc : List Nat), (masks l acc).length = acc.length + l.length
 | [], acc => by simp [masks]
 | o :: r, acc => by rw [masks, masks_len]; simp; omega

theorem masks_lt {all : List Oper} (hE : edgesBack all = true) : ∀ (l' : List Oper) (acc : List Nat), (∀ i o, l'[i]? = some o → all[acc.length + i]? = some o) → (∀ i q, (acc.getD i 0).testBit q = true → q < i) → ∀ i q, ((masks l' acc).getD i 0).testBit q = true → q < i
 | [], acc, _, ha, i, q, h => ha i q h
 | o :: r, acc, hl, ha, i, q, h => by
  refine masks_lt hE r _ (fun i o' hi => ?_) (fun i q h => ?_) i q h
  ·rw [List.length_append, show acc.length + [(fore o).foldl (fun m j => m ||| ((1 <<< j) ||| acc.getD j 0)) 0].length + i = acc.length + (i + 1) by simp; omega]
   exact hl (i + 1) o' (by simpa using hi)
  ·by_cases h1 : i < acc.length
   ·rw [List.getD_eq_getElem?_getD, List.getElem?_append_left h1, ← List.getD_eq_getElem?_getD] at h
    exact ha i q h
   ·by_cases h2 : i = acc.length
    ·subst h2
     rw [List.getD_eq_getElem?_getD, List.getElem?_append_right (Nat.le_refl _), Nat.sub_self] at h
     simp only [List.getElem?_cons_zero, Option.getD_some] at h
     rcases foldl_bit acc q _ _ h with h3 | ⟨j, h3, h4⟩
     ·simp at h3
     ·have h5 := fore_lt hE _ o (hl 0 o rfl) j h3
      rcases h4 with rfl | h4
      ·exact h5
      ·have := ha j q h4; omega
    ·rw [List.getD_eq_getElem?_getD, List.getElem?_eq_none (by simp; omega)] at h
     simp at h

theorem f_regionG {P : Program} {l : List Oper} {id : Nat} {ds : List Deferred} {Q : Exit → Act → World → Prop} {a : Act} {w : World} {n : Nat} {S : Slots} (hok : SlD ds n S a) (hm : P.follows .mixedOrders = true) (hE : edgesBack l = true) (hN : (dsts l).Nodup) (hd : (dsts l).all (decide <| · < n) = true)
  (E : List Nat) (tb : List (Nat × List Nat)) (htb : okTabG l E tb = true) (rt : Nat → Nat) (hrt : ((List.range l.length).all fun k => rt k == k || (tb.getD k (0, [])).1.testBit (rt k)) = true) (F : Nat → Value → Value → Prop) (G : Nat → (Nat → Value) → World → Prop) (hG : ∀ vals, G 0 vals w.drew)
  (hops : ∀ fr : (Nat → Value) → Act, (∀ vals, SlD ds n (regS vals l 0 ++ S.filter (fun p => !(dsts l).contains p.1)) (fr vals)) → (∀ vals, fr vals = putAll a vals l 0) → owesG P l.toArray E rt F G a l l tb 0)
  (hend : ∀ (vals : Nat → Value) (a' : Act) (w' : World), SlD ds n (regS vals l 0 ++ S.filter (fun p => !(dsts l).contains p.1)) a' → G (2 ^ E.length - 1) vals w' → (∀ j, j < l.length → F j (vals (rt j)) (vals j)) → Q .normal a' w') :
  (Code.region id l.toArray true).wp P Q a w := by
 unfold okTabG at htb
 simp only [Bool.and_eq_true, beq_iff_eq, decide_eq_true_eq, List.all_eq_true, List.mem_range] at htb
 obtain ⟨⟨⟨h1, h2⟩, h3⟩, h5⟩ := htb
 have hlen : tb.length = l.length := by
  have h6 := congrArg List.length h1
  rw [masks_len] at h6
  simpa using h6.symm
 have hmask : ∀ k, (masks l []).getD k 0 = (tb.map (·.1)).getD k 0 := fun k => by rw [h1]
 have hmask2 : ∀ k, (tb.map (·.1)).getD k 0 = (tb.getD k (0, [])).1 := fun k => by
  rw [List.getD_eq_getElem?_getD, List.getD_eq_getElem?_getD, List.getElem?_map]
  cases tb[k]? <;> rfl
 refine wp_region_L hm hE hN (fun L vals w' => (∀ j, j < l.length → L j = true → F j (vals (rt j)) (vals j)) ∧ G (codeE E L) vals w') ⟨fun _ _ h => (by cases h), ?_⟩ (fun i o hi L vals w' hC hLi hf hcl => ?_) (fun L vals w' hC hL => ?_)
 ·have : codeE E (fun _ => false) = 0 := by
   clear h2 h3 h5 h1 hmask hmask2 hops hend hG
   induction E with
   | nil => rfl
   | cons e r ih => simp only [codeE, ih]; rfl
  rw [this]; exact hG _
 ·have hil : i < l.length := (List.getElem?_eq_some_iff.1 hi).1
  have hanc : ∀ (i : Nat) (q : Nat), ((masks l []).getD i 0).testBit q = true → L i = true → L q = true := fun i q h hL =>
   masks_in (D := fun i => L i = true) (fun i o hi h => hcl i o hi h) l [] (fun i o h => by simpa using h) (fun i q h => by simp at h) i q h hL
  have hanc2 : ∀ q, ((masks l []).getD i 0).testBit q = true → L q = true ∧ q < l.length := fun q h => by
   have h6 := masks_in (D := fun k => k = i ∨ L k = true) (fun k o' hk h j hj => by
    rcases h with rfl | h
    ·rw [hi] at hk; injection hk with hk; subst hk; exact .inr (hf j hj)
    ·exact .inr (hcl k o' hk h j hj)) l [] (fun i o h => by simpa using h) (fun i q h => by simp at h) i q h (.inl rfl)
   have h7 := masks_lt hE l [] (fun i o h => by simpa using h) (fun i q h => by simp at h) i q h
   exact ⟨h6.resolve_left (by omega), by omega⟩
  have htb : tb[i]? = some (tb.getD i (0, [])) := by
   rw [List.getD_eq_getElem?_getD, List.getElem?_eq_getElem (by omega)]; rfl
  have hal : codeE E L ∈ (tb.getD i (0, [])).2 := by
   have h6 := h5 i hil (codeE E L) ?_
   ·simpa using h6
   ·unfold alw
    rw [List.mem_filter, List.mem_range, List.all_eq_true]
    refine ⟨codeE_lt E L, fun p hp => ?_⟩
    rw [List.mem_range] at hp
    rw [codeE_bit E L p hp, getD_get _ _ _ hp, ← hmask, ← hmask, Bool.and_eq_true, Bool.and_eq_true]
    refine ⟨⟨?_, ?_⟩, ?_⟩
    ·cases hx : ((masks l []).getD i 0).testBit E[p] with
     | false => rfl
     | true => rw [(hanc2 _ hx).1]; rfl
    ·cases hx : (E[p] == i || ((masks l []).getD E[p] 0).testBit i) with
     | false => rfl
     | true =>
      cases hy : L E[p] with
      | false => rfl
      | true =>
       rw [Bool.or_eq_true, beq_iff_eq] at hx
       rcases hx with hx | hx
       ·rw [hx, hLi] at hy; cases hy
       ·rw [hanc _ _ hx hy] at hLi; cases hLi
    ·cases hy : L E[p] with
     | false => rfl
     | true =>
      rw [Bool.not_true, Bool.false_or, List.all_eq_true]
      intro q hq
      rw [List.mem_range] at hq
      rw [codeE_bit E L q hq, getD_get _ _ _ hq]
      cases hx : ((masks l []).getD E[p] 0).testBit E[q] with
      | false => rfl
      | true => rw [hanc _ _ hx hy]; rfl
  have ho := owesG_at l tb 0 (hops (fun vals => putAll a vals l 0) (fun vals => hok.reg hN hd vals) (fun _ => rfl)) i o _ _ hi htb (codeE E L) hal vals w' hC.2 (fun j hj => by
   have hj2 : ((masks l []).getD i 0).testBit j = true := by rw [hmask, hmask2]; exact hj
   exact hC.1 j (hanc2 j hj2).2 (hanc2 j hj2).1)
  rw [Nat.zero_add] at ho
  refine ⟨_, ho, fun v w'' ⟨hFv, hGv⟩ => ⟨fun j hj hLj => ?_, ?_⟩⟩
  ·by_cases hne : j = i
   ·subst hne; rw [show upd vals j v j = v from if_pos rfl]; exact hFv
   ·have e1 : upd vals i v j = vals j := if_neg hne
    rw [e1]
    have hLj' : L j = true := by simpa [hne] using hLj
    have h9 := hC.1 j hj hLj'
    rw [List.all_eq_true] at hrt
    have h8 := hrt j (by simpa using hj)
    rw [Bool.or_eq_true, beq_iff_eq, ← hmask2, ← hmask] at h8
    have hrj : rt j ≠ i := fun e => by
     rcases h8 with h8 | h8
     ·exact hne (by rw [← h8]; exact e)
     ·have := hanc j _ h8 hLj'; rw [e, hLi] at this; cases this
    rw [show upd vals i v (rt j) = vals (rt j) from if_neg hrj]; exact h9
  ·have : codeE E (fun j => L j || j == i) = if E.contains i then codeE E L + 2 ^ E.idxOf i else codeE E L := by
    split
    ·rename_i hc; exact codeE_upd h2 (by simpa using hc) hLi
    ·rename_i hc
     refine codeE_same fun x hx => ?_
     have : x ≠ i := fun e => by subst e; exact hc (by simpa using hx)
     simp [this]
   rw [this]; exact hGv
 ·refine hend vals _ w' (hok.reg hN hd vals) ?_ (fun j hj => hC.1 j hj (hL j hj))
  rw [← codeE_all (E := E) (L := L) fun e he => hL e (h3 e he)]; exact hC.2

-- jumps back to a label
section
variable {P : Program} {Q : Exit → Act → World → Prop} {a : Act} {w : World}
end
end Go.Proofs.YthmjkcdpbbcdgaaGreat

namespace Go.Proofs.YthmjkcdpbbcdgaaGreat
end Go.Proofs.YthmjkcdpbbcdgaaGreat

namespace Go.Proofs.YthmjkcdpbbcdgaaGreat
open Go.RowKit
open Go.WideMaps (KeyLaw)

section pure
variable {α β : Type} [DecidableEq α]
end pure

/-- how a map's keys and values stand in memory -/
structure MapE (α β : Type) where
 ke : α → Value
 ve : β → Value
 ok : α → Prop
 inj : ∀ a b, ok a → ok b → ke a = ke b → a = b

variable {α β : Type} [DecidableEq α]
section
variable {P : Program} {w : World} {t kt et b clock : Nat} {M : MapE α β} {l : List (α × β)} {es : Array MapEntry}
theorem setBlock_turn (w : World) (b : Nat) (o : Obj) : Turn b w (ChangeMaps.setBlock w b o) := ⟨rfl, rfl, rfl, by simp [ChangeMaps.setBlock], fun k hk => by simp [ChangeMaps.setBlock, Array.getElem?_setIfInBounds, Ne.symm hk]⟩

theorem setBlock_at {w : World} {b : Nat} (o : Obj) (h : b < w.heap.size) : (ChangeMaps.setBlock w b o).heap[b]? = some o := by simp [ChangeMaps.setBlock, Array.getElem?_setIfInBounds, h]

end

section flow
variable {ds : List Deferred} {P : Program} {ops : Array Oper} {Q : Exit → Act → World → Prop} {a : Act} {w : World} {rest : List Oper} {o : Oper} {n : Nat} {S : Slots} {G : List GV}
variable {I0 D : Dm} {w0 : World} {I : Dm} {cs : List Ch}
end flow

end Go.Proofs.YthmjkcdpbbcdgaaGreat

namespace Go.Proofs.YthmjkcdpbbcdgaaGreat
open Go.RowKit

def ObC (b : Nat) (o : Obj) : Ch where
 P _ w fp := (∀ k, fp k ↔ k = b) ∧ w.heap[b]? = some o
 keep := fun {I I' fp w w'} ⟨h1, h2⟩ _ hk => ⟨h1, by
  have hl : b < w.heap.size := (Array.getElem?_eq_some_iff.1 h2).1
  rw [hk.2 b (.inr ((h1 b).2 rfl)) hl]; exact h2⟩
 pur := false
 hpur := fun h => by cases h

section hf
variable {I0 D : Dm} {w0 : World} {I : Dm} {w : World} {cs : List Ch}
end hf

section ins
variable {P : Program} {ops : Array Oper} {Q : Exit → Act → World → Prop} {a : Act} {w : World} {o : Oper} {F : Fence} {m : Nat}
variable {ds : List Deferred} {n : Nat} {S : Slots} {G : List GV}
variable {I0 D : Dm} {w0 : World} {I : Dm} {cs : List Ch} {rest : List Oper}
-- rounds
variable {L fn D0 : Nat} {tm : Array Value} {ps : Array Tmp} {asg bd : Code} {R : Value → World → Prop} {c : Code}
end ins

section range
variable {P : Program} {Q : Exit → Act → World → Prop} {a : Act} {w : World} {n : Nat} {S : Slots} {σ E VT : Type} {I0 D : Dm} {w0 : World} {I : Dm} {cs : List Ch}
end range
end Go.Proofs.YthmjkcdpbbcdgaaGreat

namespace Go.Proofs.YthmjkcdpbbcdgaaGreat
open Go.RowKit
section
variable {ds : List Deferred} {P : Program} (T : Tab P) {ops : Array Oper} {Q : Exit → Act → World → Prop} {a : Act} {w : World} {rest : List Oper} {o : Oper} {n : Nat} {S : Slots} {G : List GV}
variable {I0 D : Dm} {w0 : World} {I : Dm} {cs : List Ch}
end
end Go.Proofs.YthmjkcdpbbcdgaaGreat

namespace Go.Proofs.YthmjkcdpbbcdgaaGreat
open Go.RowKit

section
variable {I0 D : Dm} {w0 : World} {I : Dm} {w : World} {cs : List Ch} {α : Type} {R : Rp α}
section
variable {ds : List Deferred} {P : Program} (T : Tab P) {ops : Array Oper} {Q : Exit → Act → World → Prop} {a : Act} {rest : List Oper} {o : Oper} {n : Nat} {S : Slots} {G : List GV}
end
end

/-- what a callee that answers plain values looks at -/
theorem stB (w : World) : St (fun k => k < w.heap.size) NoD w [] := St.none _ w fun _ h => h

theorem stS {w : World} {cs : List Ch} {α : Type} {R : Rp α} {A : Dm} {v : Value} {l : List α} (hs : slRep R A w v l) (h : St (fun k => k < w.heap.size) NoD w cs) : St (fun k => k < w.heap.size) NoD w (SlC R v l :: cs) := h.cons (f := fun _ => False) ⟨fun _ => id, hs.all⟩ fun _ => id

-- slices of bytes that a string came to
section
variable {I0 D : Dm} {w0 : World} {I : Dm} {w : World} {cs : List Ch} {v : Value} {l : List Int}
section
variable {ds : List Deferred} {P : Program} (T : Tab P) {ops : Array Oper} {Q : Exit → Act → World → Prop} {a : Act} {rest : List Oper} {o : Oper} {n : Nat} {S : Slots} {G : List GV}
end
end
end Go.Proofs.YthmjkcdpbbcdgaaGreat

namespace Go.Proofs.YthmjkcdpbbcdgaaGreat
open Go.RowKit

def nxV (s : ByteArray) (p : Nat) : Value := if p < s.size then .tuple #[.bool true, .int .i64 p, .int .i32 (Utf8.decode s p).1] else .tuple #[.bool false]

def nxP (s : ByteArray) (p : Nat) : Nat := if p < s.size then p + (Utf8.decode s p).2 else p

def runeAt (s : ByteArray) (p : Nat) : Int := (Utf8.decode s p).1

/-- a pointer into the object of block b, or nil -/
def iptV (b : Nat) (o : Option Nat) : Value := .pointer (o.map fun k => ⟨b, k, none⟩)

/-- the number at such a pointer -/
def selI (l : List (Nat × Int)) (o : Option Nat) : Option Int := o.bind fun k => l.lookup k

def AtL (cl : List Value) : List (Nat × Int) → Prop
 | [] => True
 | p :: l => cl[p.1]? = some (.int .i64 p.2) ∧ AtL cl l

/-- what the cells are when v is stored there -/
def StL (cl : List Value) (f : Option Nat → List Value) (v : Value) : List Nat → Prop
 | [] => True
 | k :: l => putCells cl k [v] = f (some k) ∧ k < cl.length ∧ StL cl f v l

theorem AtL.get {cl : List Value} {k : Nat} {y : Int} : ∀ {l : List (Nat × Int)}, AtL cl l → l.lookup k = some y → cl[k]? = some (.int .i64 y)
 | [], _, h => by cases h
 | (j, x) :: l, ⟨h1, h2⟩, h => by
  rw [List.lookup_cons] at h
  split at h
  ·next e => cases h; rw [eq_of_beq e]; exact h1
  ·exact h2.get h

theorem StL.get {cl : List Value} {f : Option Nat → List Value} {v : Value} {k : Nat} : ∀ {l : List Nat}, StL cl f v l → l.contains k = true → putCells cl k [v] = f (some k) ∧ k < cl.length
 | [], _, h => by cases h
 | j :: l, ⟨h1, h2, h3⟩, h => by
  by_cases e : k = j
  ·subst e; exact ⟨h1, h2⟩
  ·exact h3.get (by simpa [List.contains_cons, e] using h)

section ops
variable {P : Program} {T : Tab P} {ev : Operand → Option Value} {o : Oper} {w : World}
theorem Ob_nx0 {s : ByteArray} {p : Nat} {x : Operand} (ho : o.op = .extract x 0) (hx : ev x = some (nxV s p)) : Ob P ev o (.bool (decide (p < s.size))) w := by
 intro ρ hρ
 unfold execOp
 by_cases h : p < s.size <;> simp [ho, hρ _ _ hx, nxV, h, Instr.extract]

theorem Ob_nx2 {s : ByteArray} {p : Nat} {x : Operand} (ho : o.op = .extract x 2) (hx : ev x = some (nxV s p)) (h : p < s.size) : Ob P ev o (.int .i32 (runeAt s p)) w := by
 intro ρ hρ
 unfold execOp
 simp [ho, hρ _ _ hx, nxV, h, Instr.extract, runeAt]

theorem Ob_inil {b : Nat} {q : Option Nat} {x : Operand} (ho : o.op = .nilCheck x) (hx : ev x = some (iptV b q)) (h : q.isSome = true) : Ob P ev o (iptV b q) w := by
 intro ρ hρ
 unfold execOp
 cases q with
 | none => cases h
 | some k => simp [ho, hρ _ _ hx, iptV]

theorem Ob_ieq {b t : Nat} {q : Option Nat} {x y : Operand} {t' : TypeId} {op : BinOp} {v : Bool} (ho : o.op = .binOp op t x y t') (hx : ev x = some (iptV b q)) (hy : ev y = some (.pointer none)) (hv : op = .eql ∧ v = q.isNone ∨ op = .neq ∧ v = !q.isNone)
  {e : TypeId} (ht : P.underlying t = some (.pointer e)) : Ob P ev o (.bool v) w := by
 cases q with
 | none => exact Ob_pnil ho hx hy ht hv
 | some k => exact Ob_pnil ho hx hy ht hv

theorem Ob_iload (T : Tab P) {t : Nat} {x : Operand} {b e : Nat} {q : Option Nat} {y : Int} {l : List (Nat × Int)} {cl : List Value} (ho : o.op = .load t x) (hx : ev x = some (iptV b q)) {n : Nat} (ht : T.sz t = some (n, false)) (hs : selI l q = some y) (hb : Box w b e cl) (hl : AtL cl l) : Ob P ev o (.int .i64 y) w := by
 cases q with
 | none => cases hs
 | some k => exact Ob_load T ho hx ht (hb.cell k (hl.get hs))

end ops
section flow
variable {ds : List Deferred} {P : Program} {T : Tab P} {ops : Array Oper} {Q : Exit → Act → World → Prop} {a : Act} {w : World} {rest : List Oper} {o : Oper} {n : Nat} {S : Slots} {G : List GV}
variable {I0 D : Dm} {w0 : World} {I : Dm} {cs : List Ch}
theorem h_srange (hok : PsD ds ops n S G a) (H : Hf I0 D w0 I w cs) {d t : Nat} {s : ByteArray} {x : Operand} (hg : o.guard = none) (ho : o.op = .range t x) (ht : P.underlying t = some .string) (hx : evS S x = some (.string s)) (hd : o.dst = some d) (hdn : d < n) (hf : gFree ops G d = true)
  (h : ∀ a' w' r, Hf I0 D w0 I w' (ObC r (.stringIter s 0) :: cs) → PsD ds ops n ((d, .pointer (some ⟨r, 0, none⟩)) :: S) G a' → wpList P ops Q rest a' w') : wpList P ops Q (o :: rest) a w := by
 refine wpList_run hg (v := .pointer (some ⟨w.heap.size, 0, none⟩)) (w' := w.alloc (.stringIter s 0)) ?_ ?_
 ·unfold execOp
  simp [ho, hok.sl.ev hx, run_range_string w t s ht, World.iter]
 ·rw [hd]
  exact h _ _ _ (H.new ((Below.refl _ w).alloc (Nat.le_refl _) _) (f := (· = w.heap.size)) (c := ObC w.heap.size (.stringIter s 0)) ⟨fun _ => Iff.rfl, heap_alloc_new w _⟩ fun k hk => by subst hk; simp) (hok.put hdn hf _)

theorem h_snext (hok : PsD ds ops n S G a) (H : Hf I0 D w0 I w cs) (i : Nat) {r p d : Nat} {s : ByteArray} {x : Operand} (hi : cs[i]? = some (ObC r (.stringIter s p))) (hg : o.guard = none) (ho : o.op = .next x true) (hx : evS S x = some (.pointer (some ⟨r, 0, none⟩))) (hd : o.dst = some d) (hdn : d < n) (hf : gFree ops G d = true)
  (h : ∀ a' w', Hf I0 D w0 I w' (ObC r (.stringIter s (nxP s p)) :: cs.eraseIdx i) → PsD ds ops n ((d, nxV s p) :: S) G a' → wpList P ops Q rest a' w') : wpList P ops Q (o :: rest) a w := by
 obtain ⟨f, hc, _⟩ := H.get i hi
 have hlt : r < w.heap.size := (Array.getElem?_eq_some_iff.1 hc.2).1
 by_cases hp : p < s.size
 ·refine wpList_run hg (v := nxV s p) (w' := ChangeMaps.setBlock w r (.stringIter s (nxP s p))) ?_ ?_
  ·unfold execOp
   simp [ho, hok.sl.ev hx, Instr.next, getObj, setObj, Sem.run, hc.2, hp, nxV, nxP, ChangeMaps.setBlock, goInt]
  ·rw [hd]
   have ht := setBlock_turn w r (.stringIter s (nxP s p))
   exact h _ _ (H.turn i hi fun f hf hq => ⟨⟨ht.os, ht.tape, ht.output, Nat.le_of_eq ht.size.symm, fun k _ hk => ht.block k fun e => hk ((hf.1 k).2 e)⟩, f, ⟨hf.1, setBlock_at _ hlt⟩, fun k hk => ⟨.inl hk, by rw [ht.size]; exact (hq k hk).1⟩⟩) (hok.put hdn hf _)
 ·refine wpList_run hg (v := nxV s p) (w' := w) ?_ ?_
  ·unfold execOp
   simp [ho, hok.sl.ev hx, Instr.next, getObj, Sem.run, hc.2, hp, nxV]
  ·rw [hd]
   exact h _ _ (H.turn i hi fun f hf hq => ⟨Frm.refl _ _, f, ⟨hf.1, by rw [nxP, if_neg hp]; exact hf.2⟩, fun k hk => ⟨.inl hk, (hq k hk).1⟩⟩) (hok.put hdn hf _)

theorem h_istore (T : Tab P) (hok : PsD ds ops n S G a) (H : Hf I0 D w0 I w cs) (i : Nat) (f : Option Nat → List Value) (l : List Nat) {t e b : Nat} {g : Bool} {p x : Operand} {q : Option Nat} {v : Value} {cl : List Value} (hi : cs[i]? = some (BxC b e cl)) (hg : o.guard = none) (ho : o.op = .store t p x) (hd : o.dst = none)
  (hp : evS S p = some (iptV b q)) (hx : evS S x = some v) (hus : v.cells = #[v]) (ht : T.sz t = some (1, g)) (h1 : v.oneCell' = true) (hq : q.any l.contains = true) (hl : StL cl f v l)
  (h : ∀ w', Hf I0 D w0 I w' (BxC b e (f q) :: cs.eraseIdx i) → wpList P ops Q rest a w') : wpList P ops Q (o :: rest) a w := by
 cases q with
 | none => cases hq
 | some k => exact h_store T hok H i hi hg ho hd hp hx (us := [v]) hus ht rfl (by simpa using h1) (hl.get hq).2 (hl.get hq).1 h

end flow
end Go.Proofs.YthmjkcdpbbcdgaaGreat

namespace Go.Proofs.YthmjkcdpbbcdgaaGreat
open Go.RowKit
theorem Ob_apix {P : Program} {ev : Operand → Option Value} {o : Oper} {w : World} {t n e m : Nat} {x i : Operand} {b off : Nat} {k : IntKind} {z : Int} (j : Nat) (ho : o.op = .indexAddr t x i) (hx : ev x = some (.pointer (some ⟨b, off, none⟩))) (hi : ev i = some (.int k z)) (hu : P.underlying t = some (.array n e)) (hs : (P.info? e).map (·.size) = some m) (hz : z = (j : Int)) (hj : j < n) :
  Ob P ev o (.pointer (some ⟨b, off + j * m, none⟩)) w := by
 intro ρ hρ
 obtain ⟨inf, hinf, hm⟩ := Option.map_eq_some_iff.1 hs
 subst hz
 unfold execOp
 have h1 : (0 : Int) ≤ (j : Int) ∧ (j : Int) < (n : Int) := by omega
 simp [ho, hρ _ _ hx, hρ _ _ hi, Instr.indexAt, Instr.sureAddr, asIntOf, run_underlying hu, run_sizeOf_of hinf, hj, addr_add, hm]

end Go.Proofs.YthmjkcdpbbcdgaaGreat

