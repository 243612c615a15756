/- Maps: a block that holds one, as a list of pairs, each key once. No program is named here. -/
import Derived.Test.YtmdoimpeacndaaaYB
import Derived.WideKeyPair
import Derived.DeepKeys5
import Derived.ChangeKeysEq
namespace Go.Proofs.Ytmdoimpeacndaaa
open Go.RowKit
open Go.WideMaps (KeyLaw)

theorem PsD.cnv {ds : List Deferred} {ops : Array Oper} {n : Nat} {S : Slots} {G : List GV} {a : Act} (h : PsD ds ops n S G a) {t : Nat} {v v' : Value} (hv : S.lookup t = some v) (e : v = v') : PsD ds ops n ((t, v') :: S) G a := ⟨h.sl.conv hv e, h.gv⟩

section pure
variable {α β : Type} [DecidableEq α]
def mget (l : List (α × β)) (k : α) : Option β := match l with
 | [] => none
 | p :: r => if p.1 = k then some p.2 else mget r k

def mset (l : List (α × β)) (k : α) (v : β) : List (α × β) := match l with
 | [] => [(k, v)]
 | p :: r => if p.1 = k then (k, v) :: r else p :: mset r k v

theorem mget_none : ∀ {l : List (α × β)} {k : α}, (∀ p ∈ l, p.1 ≠ k) → mget l k = none
 | [], _, _ => rfl
 | p :: r, k, h => by unfold mget; rw [if_neg (h p (by simp))]; exact mget_none fun q hq => h q (by simp [hq])

theorem mget_at : ∀ {l : List (α × β)} {k : α} {j : Nat} {v : β}, (l.map Prod.fst).Nodup → l[j]? = some (k, v) → mget l k = some v
 | [], _, _, _, _, h => by simp at h
 | p :: r, k, 0, v, _, h => by
  simp only [List.getElem?_cons_zero, Option.some.injEq] at h
  subst h; unfold mget; rw [if_pos rfl]
 | p :: r, k, j + 1, v, hn, h => by
  rw [List.map_cons, List.nodup_cons] at hn
  rw [List.getElem?_cons_succ] at h
  have hm : (k, v) ∈ r := List.mem_of_getElem? h
  unfold mget
  rw [if_neg fun e => hn.1 (List.mem_map.2 ⟨_, hm, e.symm⟩)]
  exact mget_at hn.2 h

theorem mset_new : ∀ {l : List (α × β)} {k : α} (v : β), (∀ p ∈ l, p.1 ≠ k) → mset l k v = l ++ [(k, v)]
 | [], _, _, _ => rfl
 | p :: r, k, v, h => by unfold mset; rw [if_neg (h p (by simp)), mset_new v fun q hq => h q (by simp [hq])]; rfl

theorem mset_at : ∀ {l : List (α × β)} {k : α} {j : Nat} {u : β} (v : β), (l.map Prod.fst).Nodup → l[j]? = some (k, u) → mset l k v = l.set j (k, v)
 | [], _, _, _, _, _, h => by simp at h
 | p :: r, k, 0, u, v, _, h => by
  simp only [List.getElem?_cons_zero, Option.some.injEq] at h
  subst h; unfold mset; rw [if_pos rfl]; rfl
 | p :: r, k, j + 1, u, v, hn, h => by
  rw [List.map_cons, List.nodup_cons] at hn
  rw [List.getElem?_cons_succ] at h
  have hm : (k, u) ∈ r := List.mem_of_getElem? h
  unfold mset
  rw [if_neg fun e => hn.1 (List.mem_map.2 ⟨_, hm, e.symm⟩), mset_at v hn.2 h]; rfl

theorem mset_keys : ∀ (l : List (α × β)) (k : α) (v : β), (mset l k v).map Prod.fst = if k ∈ l.map Prod.fst then l.map Prod.fst else l.map Prod.fst ++ [k]
 | [], k, v => by simp [mset]
 | p :: r, k, v => by
  unfold mset
  by_cases h : p.1 = k
  ·rw [if_pos h, if_pos (by simp [h])]; simp [h]
  ·rw [if_neg h, List.map_cons, mset_keys r k v]
   by_cases h2 : k ∈ r.map Prod.fst
   ·rw [if_pos h2, if_pos (by rw [List.map_cons]; exact List.mem_cons_of_mem _ h2)]; rfl
   ·have h3 : ¬ k ∈ (p :: r).map Prod.fst := by
     rw [List.map_cons, List.mem_cons]; exact fun e => e.elim (fun e => h e.symm) h2
    rw [if_neg h2, if_neg h3]; rfl

theorem mset_nodup {l : List (α × β)} (k : α) (v : β) (h : (l.map Prod.fst).Nodup) : ((mset l k v).map Prod.fst).Nodup := by
 rw [mset_keys]
 split
 ·exact h
 ·rename_i h2
  rw [List.nodup_append]
  exact ⟨h, by simp, fun a ha b hb e => by simp only [List.mem_singleton] at hb; subst hb; subst e; exact h2 ha⟩

theorem mset_mem {l : List (α × β)} {k : α} {v : β} {p : α × β} (h : p ∈ mset l k v) : p = (k, v) ∨ p ∈ l := by
 induction l with
 | nil => simp [mset] at h; exact .inl h
 | cons q r ih =>
  unfold mset at h
  split at h
  ·rcases List.mem_cons.1 h with h | h
   ·exact .inl h
   ·exact .inr (List.mem_cons_of_mem _ h)
  ·rcases List.mem_cons.1 h with h | h
   ·exact .inr (h ▸ List.mem_cons_self)
   ·exact (ih h).imp id (List.mem_cons_of_mem _)

end pure

theorem modify_set {α : Type} (f : α → α) : ∀ {l : List α} {j : Nat} {a : α}, l[j]? = some a → l.modify j f = l.set j (f a)
 | [], _, _, h => by simp at h
 | x :: r, 0, a, h => by simp at h; simp [h]
 | x :: r, j + 1, a, h => by
  rw [List.getElem?_cons_succ] at h
  rw [List.modify_succ_cons, List.set_cons_succ, modify_set f h]

/-- how a map's keys and values stand in memory -/
structure MapE (α β : Type) where
 ke : α → Value
 ve : β → Value
 ok : α → Prop
 inj : ∀ a b, ok a → ok b → ke a = ke b → a = b

variable {α β : Type} [DecidableEq α]
/-- the stamps of a map's entries differ, and lie below its clock -/
def bornOk (es : Array MapEntry) (clock : Nat) : Prop := (es.toList.map (·.born)).Nodup ∧ ∀ x ∈ es.toList, x.born < clock

theorem bornOk_push {es : Array MapEntry} {clock : Nat} (h : bornOk es clock) (k v : Value) : bornOk (es.push ⟨k, v, clock⟩) (clock + 1) := by
 refine ⟨?_, fun x hx => ?_⟩
 ·rw [Array.toList_push, List.map_append, List.nodup_append]
  refine ⟨h.1, by simp, fun a ha b hb => ?_⟩
  obtain ⟨x, hx, rfl⟩ := List.mem_map.1 ha
  have := h.2 x hx
  simp at hb
  omega
 ·rw [Array.toList_push, List.mem_append] at hx
  rcases hx with hx | hx
  ·have := h.2 x hx; omega
  ·rw [List.mem_singleton] at hx; rw [hx]; exact Nat.lt_succ_self _

theorem bornOk_sub {es es' : Array MapEntry} {clock : Nat} (h : bornOk es clock) (hs : es'.toList.Sublist es.toList) : bornOk es' clock := ⟨h.1.sublist (hs.map _), fun x hx => h.2 x (hs.subset hx)⟩

theorem bornOk_set {es es' : Array MapEntry} {clock : Nat} (h : bornOk es clock) {j : Nat} {e0 e1 : MapEntry} (hj : es.toList[j]? = some e0) (hb : e1.born = e0.born) (hs : es'.toList = es.toList.set j e1) : bornOk es' clock := by
 have hm : es'.toList.map (·.born) = es.toList.map (·.born) := by
  rw [hs, List.map_set, hb]
  have hj2 : (es.toList.map (·.born))[j]? = some e0.born := by rw [List.getElem?_map, hj]; rfl
  refine List.ext_getElem? fun i => ?_
  rw [List.getElem?_set]
  by_cases e : j = i
  ·subst e
   rw [if_pos rfl, if_pos (List.getElem?_eq_some_iff.1 hj2).1, hj2]
  ·rw [if_neg e]
 refine ⟨by rw [hm]; exact h.1, fun x hx => ?_⟩
 have : x.born ∈ es.toList.map (·.born) := by rw [← hm]; exact List.mem_map.2 ⟨x, hx, rfl⟩
 obtain ⟨y, hy, e⟩ := List.mem_map.1 this
 have := h.2 y hy
 omega

def MpC (M : MapE α β) (b : Nat) (l : List (α × β)) : Ch where
 P _ w fp := (∀ k, fp k ↔ k = b) ∧ b < w.heap.size ∧ (l.map Prod.fst).Nodup ∧ (∀ p ∈ l, M.ok p.1) ∧ ∃ es clock, w.heap[b]? = some (.map es clock) ∧ es.toList.map (fun e => (e.key, e.val)) = l.map (fun p => (M.ke p.1, M.ve p.2)) ∧ bornOk es clock
 keep := fun {I I' fp w w'} ⟨h1, h2, h3, h4, es, clock, h5, h6⟩ _ hk =>
  ⟨h1, Nat.lt_of_lt_of_le h2 hk.1, h3, h4, es, clock, by rw [hk.2 b (.inr ((h1 b).2 rfl)) h2]; exact h5, h6⟩
 pur := false
 hpur := fun h => by cases h

section
variable {P : Program} {w : World} {t kt et b clock : Nat} {M : MapE α β} {l : List (α × β)} {es : Array MapEntry}
omit [DecidableEq α] in
theorem pair_of (he : es.toList.map (fun e => (e.key, e.val)) = l.map (fun p => (M.ke p.1, M.ve p.2))) {j : Nat} {e0 : MapEntry} (h : es.toList[j]? = some e0) : ∃ p, l[j]? = some p ∧ e0.key = M.ke p.1 ∧ e0.val = M.ve p.2 := by
 have h1 := congrArg (·[j]?) he
 simp only [List.getElem?_map, h, Option.map_some] at h1
 obtain ⟨p, hp, h2⟩ := Option.map_eq_some_iff.1 h1.symm
 rw [Prod.mk.injEq] at h2
 exact ⟨p, hp, h2.1.symm, h2.2.symm⟩

omit [DecidableEq α] in
theorem entry_of (he : es.toList.map (fun e => (e.key, e.val)) = l.map (fun p => (M.ke p.1, M.ve p.2))) {p : α × β} (h : p ∈ l) : ∃ e ∈ es.toList, e.key = M.ke p.1 := by
 have h1 : (M.ke p.1, M.ve p.2) ∈ es.toList.map (fun e => (e.key, e.val)) := by rw [he]; exact List.mem_map.2 ⟨p, h, rfl⟩
 obtain ⟨e, he, h2⟩ := List.mem_map.1 h1
 rw [Prod.mk.injEq] at h2
 exact ⟨e, he, h2.1⟩

theorem map_find (K : KeyLaw P kt) (hk : ∀ a, M.ok a → ∃ s, keyOf P kt (M.ke a) = some s) (hn : (l.map Prod.fst).Nodup) (hl : ∀ p ∈ l, M.ok p.1) (he : es.toList.map (fun e => (e.key, e.val)) = l.map (fun p => (M.ke p.1, M.ve p.2))) (a : α) (ha : M.ok a) :
  (mget l a = none ∧ (∀ p ∈ l, p.1 ≠ a) ∧ (Instr.findKey kt (M.ke a) es.toList).run P w = .ok none w) ∨ ∃ j e0 v, mget l a = some v ∧ l[j]? = some (a, v) ∧ es.toList[j]? = some e0 ∧ e0.key = M.ke a ∧ e0.val = M.ve v ∧ (Instr.findKey kt (M.ke a) es.toList).run P w = .ok (some (j, M.ve v)) w := by
 obtain ⟨s, hs⟩ := hk a ha
 have hkeys : ∀ e ∈ es.toList, ∃ l, keyOf P kt e.key = some l := fun e hm => by
  obtain ⟨j, hj⟩ := List.getElem?_of_mem hm
  obtain ⟨p, hp, h1, _⟩ := pair_of he hj
  rw [h1]; exact hk _ (hl p (List.mem_of_getElem? hp))
 rcases K.find w hs es.toList hkeys with ⟨h1, h2⟩ | ⟨j, e0, h1, h2, h3⟩
 ·have hne : ∀ p ∈ l, p.1 ≠ a := fun p hp e => by
   obtain ⟨e', h4, h5⟩ := entry_of he hp
   exact h2 e' h4 (by rw [h5, e])
  exact .inl ⟨mget_none hne, hne, h1⟩
 ·obtain ⟨p, hp, h4, h5⟩ := pair_of he h2
  have : p.1 = a := M.inj _ _ (hl p (List.mem_of_getElem? hp)) ha (by rw [← h4, h3])
  obtain ⟨pa, pv⟩ := p
  simp only at this h4 h5
  subst this
  exact .inr ⟨j, e0, pv, mget_at hn hp, hp, h2, h3, h5, by rw [h1, h5]⟩

theorem run_mlook (K : KeyLaw P kt) (hk : ∀ a, M.ok a → ∃ s, keyOf P kt (M.ke a) = some s) (ht : P.underlying t = some (.map kt et)) {z : Value} (hz : ∀ w, (zeroValue et).run P w = .ok z w) {I fp : Dm} (hc : (MpC M b l).P I w fp) (a : α) (ha : M.ok a) (ck : Bool) :
  (Instr.lookup t (.map (some b)) (M.ke a) ck).run P w = .ok (if ck then .tuple #[((mget l a).map M.ve).getD z, .bool (mget l a).isSome] else ((mget l a).map M.ve).getD z) w := by
 obtain ⟨_, _, h3, h4, es, clock, h5, h6, _⟩ := hc
 obtain ⟨s, hs⟩ := hk a ha
 rcases map_find (w := w) K hk h3 h4 h6 a ha with ⟨h7, _, h8⟩ | ⟨j, e0, v, h7, h8, h9, h10, h11, h12⟩
 ·rw [h7]
  cases ck <;> simp [Instr.lookup, run_underlying ht, MapKept.run_getObj_map h5, K.check w _ hs, h8, hz, Result.andThen]
 ·rw [h7]
  cases ck <;> simp [Instr.lookup, run_underlying ht, MapKept.run_getObj_map h5, K.check w _ hs, h12, Result.andThen]

theorem setBlock_turn (w : World) (b : Nat) (o : Obj) : Turn b w (ChangeMaps.setBlock w b o) := ⟨rfl, rfl, rfl, by simp [ChangeMaps.setBlock], fun k hk => by simp [ChangeMaps.setBlock, Array.getElem?_setIfInBounds, Ne.symm hk]⟩

theorem setBlock_at {w : World} {b : Nat} (o : Obj) (h : b < w.heap.size) : (ChangeMaps.setBlock w b o).heap[b]? = some o := by simp [ChangeMaps.setBlock, Array.getElem?_setIfInBounds, h]

theorem run_mset (K : KeyLaw P kt) (hk : ∀ a, M.ok a → ∃ s, keyOf P kt (M.ke a) = some s) (ht : P.underlying t = some (.map kt et)) {I fp : Dm} (hc : (MpC M b l).P I w fp) (a : α) (ha : M.ok a) (v : β) :
  ∃ w', (Instr.mapUpdate t (.map (some b)) (M.ke a) (M.ve v)).run P w = .ok () w' ∧ Turn b w w' ∧ ∀ I', (MpC M b (mset l a v)).P I' w' fp := by
 obtain ⟨h1, h2, h3, h4, es, clock, h5, h6, hB⟩ := hc
 obtain ⟨s, hs⟩ := hk a ha
 have hok : ∀ p ∈ mset l a v, M.ok p.1 := fun p hp => (mset_mem hp).elim (fun e => by rw [e]; exact ha) (h4 p)
 rcases map_find (w := w) K hk h3 h4 h6 a ha with ⟨h7, h8, h9⟩ | ⟨j, e0, u, h7, h8, h9, h10, h11, h12⟩
 ·refine ⟨ChangeMaps.setBlock w b (.map (es.push ⟨M.ke a, M.ve v, clock⟩) (clock + 1)), ?_, setBlock_turn _ _ _, fun I' => ⟨h1, by have := (setBlock_turn w b (.map (es.push ⟨M.ke a, M.ve v, clock⟩) (clock + 1))).size; omega, mset_nodup _ _ h3, hok, _, _, setBlock_at _ h2, ?_, bornOk_push hB _ _⟩⟩
  ·simp [Instr.mapUpdate, run_underlying ht, MapKept.run_getObj_map h5, K.check w false hs, h9, MapKept.run_setObj_map _ h5, Result.andThen, ChangeMaps.setBlock]
  ·rw [mset_new v h8, Array.toList_push, List.map_append, List.map_append, h6]; rfl
 ·have hj : es[j]? = some e0 := by simpa using h9
  refine ⟨ChangeMaps.setBlock w b (.map (es.modify j (fun e' => { e' with key := M.ke a, val := M.ve v })) clock), ?_, setBlock_turn _ _ _, fun I' => ⟨h1, by have := (setBlock_turn w b (.map (es.modify j (fun e' => { e' with key := M.ke a, val := M.ve v })) clock)).size; omega, mset_nodup _ _ h3, hok, _, _, setBlock_at _ h2, ?_, bornOk_set hB h9 (e1 := { e0 with key := M.ke a, val := M.ve v }) rfl (by rw [Array.toList_modify, modify_set _ h9])⟩⟩
  ·simp [Instr.mapUpdate, run_underlying ht, MapKept.run_getObj_map h5, K.check w false hs, h12, hj, h10, K.stays w hs, MapKept.run_setObj_map _ h5, Result.andThen, ChangeMaps.setBlock]
  ·rw [mset_at v h3 h8, Array.toList_modify, modify_set _ h9, List.map_set, List.map_set, h6]

end

/-- what a program says of a map type -/
structure MapF {α β : Type} (P : Program) (t : Nat) (M : MapE α β) (d : β) : Prop where
 ex : ∃ kt et, KeyLaw P kt ∧ (∀ a, M.ok a → ∃ s, keyOf P kt (M.ke a) = some s) ∧ P.underlying t = some (.map kt et) ∧ ∀ w, (zeroValue et).run P w = .ok (M.ve d) w

theorem mlook_v {α : Type} {f : α → Value} (o : Option α) (d : α) : (o.map f).getD (f d) = f (o.getD d) := by cases o <;> rfl

theorem Lit_wfI {x : Int} (h : inI x) : (Lit.int .i64 x).wf = true := by
 obtain ⟨h1, h2⟩ := h
 have e1 : IntKind.i64.min = -9223372036854775808 := rfl
 have e2 : IntKind.i64.max = 9223372036854775807 := rfl
 simp [Lit.wf, e1, e2, h1, h2]

theorem inj_pair {a b : List Int} (ha : a.length = 2) (hb : b.length = 2) (h : a.getD 0 0 = b.getD 0 0 ∧ a.getD 1 0 = b.getD 1 0) : a = b := by
 match a, b, ha, hb with
 | [x, y], [z, t], _, _ => obtain ⟨h1, h2⟩ := h; simp at h1 h2; rw [h1, h2]

theorem run_zero0 {P : Program} {t : Nat} {z : Value} (h : (P.info? t).bind (·.zero) = some z) (w : World) : (zeroValue t).run P w = .ok z w := by
 obtain ⟨i, hi, hz⟩ := Option.bind_eq_some_iff.1 h
 simp [zeroValue, typeInfo, hi, hz]

theorem run_eql_pair {P : Program} {t e : Nat} {q : IntKind} (hu : P.underlying t = some (.array 2 e)) (he : P.underlying e = some (.int q)) (hi : (P.info? e).isSome = true) (h1 : P.cellsOf e = 1) (a b c d : Int) (w : World) :
  (binOp .eql t (.agg #[.int q a, .int q b]) (.agg #[.int q c, .int q d])).run P w = .ok (.bool (a == c && b == d)) w := by
 obtain ⟨i, hi⟩ := Option.isSome_iff_exists.1 hi
 rw [run_eql_struct, show (10000 : Nat) = 9999 + 1 from rfl, run_equalIn_array w 9999 _ _ hu hi]
 simp [Op.eqItems, show List.range 2 = [0, 1] from rfl, part, h1, isAgg, run_underlying he, run_equalIn_int w 9998 e _ _ _ _ he]
 try ((repeat' split) <;> simp_all)

section flow
variable {ds : List Deferred} {P : Program} {ops : Array Oper} {Q : Exit → Act → World → Prop} {a : Act} {w : World} {rest : List Oper} {o : Oper} {n : Nat} {S : Slots} {G : List GV}
variable {I0 D : Dm} {w0 : World} {I : Dm} {cs : List Ch}
omit [DecidableEq α] in
theorem Hf.newmp (H : Hf I0 D w0 I w cs) (M : MapE α β) : Hf I0 D w0 I (w.alloc (.map #[] 0)) (MpC M w.heap.size [] :: cs) :=
 H.new ((Below.refl _ w).alloc (Nat.le_refl _) _) (f := (· = w.heap.size)) (c := MpC M w.heap.size []) ⟨fun _ => Iff.rfl, by simp, List.nodup_nil, fun p hp => by simp at hp, #[], 0, heap_alloc_new w _, rfl, List.nodup_nil, fun x hx => by simp at hx⟩ fun k hk => by subst hk; simp

omit [DecidableEq α] in
theorem h_mkmap (hok : PsD ds ops n S G a) (H : Hf I0 D w0 I w cs) (M : MapE α β) {d t : Nat} (hg : o.guard = none) (ho : o.op = .makeMap t none) (hd : o.dst = some d) (hdn : d < n) (hf : gFree ops G d = true)
  (h : ∀ a' w' b, Hf I0 D w0 I w' (MpC M b [] :: cs) → PsD ds ops n ((d, .map (some b)) :: S) G a' → wpList P ops Q rest a' w') : wpList P ops Q (o :: rest) a w := by
 refine wpList_run hg (v := .map (some w.heap.size)) (w' := w.alloc (.map #[] 0)) ?_ ?_
 ·unfold execOp
  simp [ho, run_makeMap]
 ·rw [hd]
  exact h _ _ _ (H.newmp M) (hok.put hdn hf _)

theorem h_mset (hok : PsD ds ops n S G a) (H : Hf I0 D w0 I w cs) (i : Nat) {M : MapE α β} {t b : Nat} {l : List (α × β)} {m x y : Operand} (k : α) (v : β) {d : β} (F : MapF P t M d)
  (hi : cs[i]? = some (MpC M b l)) (hg : o.guard = none) (ho : o.op = .mapUpdate t m x y) (hd : o.dst = none) (hm : evS S m = some (.map (some b))) (hx : evS S x = some (M.ke k)) (hy : evS S y = some (M.ve v)) (hko : M.ok k)
  (h : ∀ w', Hf I0 D w0 I w' (MpC M b (mset l k v) :: cs.eraseIdx i) → wpList P ops Q rest a w') : wpList P ops Q (o :: rest) a w := by
 obtain ⟨kt, et, K, hk, ht, _⟩ := F.ex
 obtain ⟨f, hc, _⟩ := H.get i hi
 obtain ⟨w', hr, htn, hc'⟩ := run_mset K hk ht hc k hko v
 refine wpList_skip hg (w' := w') ?_ hd (h w' ?_)
 ·unfold execOp
  simp [ho, hok.sl.ev hm, hok.sl.ev hx, hok.sl.ev hy, hr]
 ·exact H.turn i hi fun f hf hq => ⟨⟨htn.os, htn.tape, htn.output, Nat.le_of_eq htn.size.symm, fun k _ hk => htn.block k fun e => hk ((hf.1 k).2 e)⟩, f, by
   obtain ⟨w2, hr2, _, hc2⟩ := run_mset K hk ht hf k hko v
   have e : w' = w2 := by injection hr.symm.trans hr2
   rw [e]; exact hc2 I, fun k hk2 => ⟨.inl hk2, by have := (hq k hk2).1; rw [htn.size]; exact this⟩⟩

theorem Ob_mlook1 {ev : Operand → Option Value} {M : MapE α β} {t b : Nat} {l : List (α × β)} {x y : Operand} {d : β} (k : α) (F : MapF P t M d)
  (H : Hf I0 D w0 I w cs) (i : Nat) (hi : cs[i]? = some (MpC M b l)) (ho : o.op = .lookup t x y false) (hx : ev x = some (.map (some b))) (hy : ev y = some (M.ke k)) (hko : M.ok k) : Ob P ev o (M.ve ((mget l k).getD d)) w := by
 obtain ⟨kt, et, K, hk, ht, hz⟩ := F.ex
 obtain ⟨f, hc, _⟩ := H.get i hi
 intro ρ hρ
 unfold execOp
 simp only [ho, hρ _ _ hx, hρ _ _ hy]
 have := run_mlook (w := w) K hk ht hz hc k hko false
 simp only [mlook_v] at this
 simp [this]

theorem Ob_mlook2 {ev : Operand → Option Value} {M : MapE α β} {t b : Nat} {l : List (α × β)} {x y : Operand} {d : β} (k : α) (F : MapF P t M d)
  (H : Hf I0 D w0 I w cs) (i : Nat) (hi : cs[i]? = some (MpC M b l)) (ho : o.op = .lookup t x y true) (hx : ev x = some (.map (some b))) (hy : ev y = some (M.ke k)) (hko : M.ok k) : Ob P ev o (.tuple #[M.ve ((mget l k).getD d), .bool (mget l k).isSome]) w := by
 obtain ⟨kt, et, K, hk, ht, hz⟩ := F.ex
 obtain ⟨f, hc, _⟩ := H.get i hi
 intro ρ hρ
 unfold execOp
 simp only [ho, hρ _ _ hx, hρ _ _ hy]
 have := run_mlook (w := w) K hk ht hz hc k hko true
 simp only [mlook_v] at this
 simp [this]

end flow

end Go.Proofs.Ytmdoimpeacndaaa
