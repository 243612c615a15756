/- Small texts in one. -/
import Derived.Test.YtglfajjcgbfehaaGreatYB
import Derived.WideKeyPair
import Derived.DeepKeys5
import Derived.ChangeKeysEq
import Derived.RangeFuncLeaves
import Derived.RangeFuncSeq
import Derived.TacticsIn
import Derived.Test.YtglfajjcgbfehaaGreatW1
import Derived.Laws.IdiomStrings
import Derived.Maps.RangeRun
namespace Go.Proofs.YtglfajjcgbfehaaGreat
open Go.RowKit
open Go.WideMaps (KeyLaw)

theorem PsD.cnv {ds : List Deferred} {ops : Array Oper} {n : Nat} {S : Slots} {G : List GV} {a : Act} (h : PsD ds ops n S G a) {t : Nat} {v v' : Value} (hv : S.lookup t = some v) (e : v = v') : PsD ds ops n ((t, v') :: S) G a := ⟨h.sl.conv hv e, h.gv⟩

section pure
variable {α β : Type} [DecidableEq α]
def mget (l : List (α × β)) (k : α) : Option β := match l with
 | [] => none
 | p :: r => if p.1 = k then some p.2 else mget r k

def mset (l : List (α × β)) (k : α) (v : β) : List (α × β) := match l with
 | [] => [(k, v)]
 | p :: r => if p.1 = k then (k, v) :: r else p :: mset r k v

theorem mget_none : ∀ {l : List (α × β)} {k : α}, (∀ p ∈ l, p.1 ≠ k) → mget l k = none
 | [], _, _ => rfl
 | p :: r, k, h => by unfold mget; rw [if_neg (h p (by simp))]; exact mget_none fun q hq => h q (by simp [hq])

theorem mget_at : ∀ {l : List (α × β)} {k : α} {j : Nat} {v : β}, (l.map Prod.fst).Nodup → l[j]? = some (k, v) → mget l k = some v
 | [], _, _, _, _, h => by simp at h
 | p :: r, k, 0, v, _, h => by
  simp only [List.getElem?_cons_zero, Option.some.injEq] at h
  subst h; unfold mget; rw [if_pos rfl]
 | p :: r, k, j + 1, v, hn, h => by
  rw [List.map_cons, List.nodup_cons] at hn
  rw [List.getElem?_cons_succ] at h
  have hm : (k, v) ∈ r := List.mem_of_getElem? h
  unfold mget
  rw [if_neg fun e => hn.1 (List.mem_map.2 ⟨_, hm, e.symm⟩)]
  exact mget_at hn.2 h

theorem mset_new : ∀ {l : List (α × β)} {k : α} (v : β), (∀ p ∈ l, p.1 ≠ k) → mset l k v = l ++ [(k, v)]
 | [], _, _, _ => rfl
 | p :: r, k, v, h => by unfold mset; rw [if_neg (h p (by simp)), mset_new v fun q hq => h q (by simp [hq])]; rfl

theorem mset_at : ∀ {l : List (α × β)} {k : α} {j : Nat} {u : β} (v : β), (l.map Prod.fst).Nodup → l[j]? = some (k, u) → mset l k v = l.set j (k, v)
 | [], _, _, _, _, _, h => by simp at h
 | p :: r, k, 0, u, v, _, h => by
  simp only [List.getElem?_cons_zero, Option.some.injEq] at h
  subst h; unfold mset; rw [if_pos rfl]; rfl
 | p :: r, k, j + 1, u, v, hn, h => by
  rw [List.map_cons, List.nodup_cons] at hn
  rw [List.getElem?_cons_succ] at h
  have hm : (k, u) ∈ r := List.mem_of_getElem? h
  unfold mset
  rw [if_neg fun e => hn.1 (List.mem_map.2 ⟨_, hm, e.symm⟩), mset_at v hn.2 h]; rfl

theorem mset_keys : ∀ (l : List (α × β)) (k : α) (v : β), (mset l k v).map Prod.fst = if k ∈ l.map Prod.fst then l.map Prod.fst else l.map Prod.fst ++ [k]
 | [], k, v => by simp [mset]
 | p :: r, k, v => by
  unfold mset
  by_cases h : p.1 = k
  ·rw [if_pos h, if_pos (by simp [h])]; simp [h]
  ·rw [if_neg h, List.map_cons, mset_keys r k v]
   by_cases h2 : k ∈ r.map Prod.fst
   ·rw [if_pos h2, if_pos (by rw [List.map_cons]; exact List.mem_cons_of_mem _ h2)]; rfl
   ·have h3 : ¬ k ∈ (p :: r).map Prod.fst := by
     rw [List.map_cons, List.mem_cons]; exact fun e => e.elim (fun e => h e.symm) h2
    rw [if_neg h2, if_neg h3]; rfl

theorem mset_nodup {l : List (α × β)} (k : α) (v : β) (h : (l.map Prod.fst).Nodup) : ((mset l k v).map Prod.fst).Nodup := by
 rw [mset_keys]
 split
 ·exact h
 ·rename_i h2
  rw [List.nodup_append]
  exact ⟨h, by simp, fun a ha b hb e => by simp only [List.mem_singleton] at hb; subst hb; subst e; exact h2 ha⟩

theorem mset_mem {l : List (α × β)} {k : α} {v : β} {p : α × β} (h : p ∈ mset l k v) : p = (k, v) ∨ p ∈ l := by
 induction l with
 | nil => simp [mset] at h; exact .inl h
 | cons q r ih =>
  unfold mset at h
  split at h
  ·rcases List.mem_cons.1 h with h | h
   ·exact .inl h
   ·exact .inr (List.mem_cons_of_mem _ h)
  ·rcases List.mem_cons.1 h with h | h
   ·exact .inr (h ▸ List.mem_cons_self)
   ·exact (ih h).imp id (List.mem_cons_of_mem _)

end pure

theorem modify_set {α : Type} (f : α → α) : ∀ {l : List α} {j : Nat} {a : α}, l[j]? = some a → l.modify j f = l.set j (f a)
 | [], _, _, h => by simp at h
 | x :: r, 0, a, h => by simp at h; simp [h]
 | x :: r, j + 1, a, h => by
  rw [List.getElem?_cons_succ] at h
  rw [List.modify_succ_cons, List.set_cons_succ, modify_set f h]

/-- how a map's keys and values stand in memory -/
structure MapE (α β : Type) where
 ke : α → Value
 ve : β → Value
 ok : α → Prop
 inj : ∀ a b, ok a → ok b → ke a = ke b → a = b

variable {α β : Type} [DecidableEq α]
/-- the stamps of a map's entries differ, and lie below its clock -/
def bornOk (es : Array MapEntry) (clock : Nat) : Prop := (es.toList.map (·.born)).Nodup ∧ ∀ x ∈ es.toList, x.born < clock

theorem bornOk_push {es : Array MapEntry} {clock : Nat} (h : bornOk es clock) (k v : Value) : bornOk (es.push ⟨k, v, clock⟩) (clock + 1) := by
 refine ⟨?_, fun x hx => ?_⟩
 ·rw [Array.toList_push, List.map_append, List.nodup_append]
  refine ⟨h.1, by simp, fun a ha b hb => ?_⟩
  obtain ⟨x, hx, rfl⟩ := List.mem_map.1 ha
  have := h.2 x hx
  simp at hb
  omega
 ·rw [Array.toList_push, List.mem_append] at hx
  rcases hx with hx | hx
  ·have := h.2 x hx; omega
  ·rw [List.mem_singleton] at hx; rw [hx]; exact Nat.lt_succ_self _

theorem bornOk_sub {es es' : Array MapEntry} {clock : Nat} (h : bornOk es clock) (hs : es'.toList.Sublist es.toList) : bornOk es' clock := ⟨h.1.sublist (hs.map _), fun x hx => h.2 x (hs.subset hx)⟩

theorem bornOk_set {es es' : Array MapEntry} {clock : Nat} (h : bornOk es clock) {j : Nat} {e0 e1 : MapEntry} (hj : es.toList[j]? = some e0) (hb : e1.born = e0.born) (hs : es'.toList = es.toList.set j e1) : bornOk es' clock := by
 have hm : es'.toList.map (·.born) = es.toList.map (·.born) := by
  rw [hs, List.map_set, hb]
  have hj2 : (es.toList.map (·.born))[j]? = some e0.born := by rw [List.getElem?_map, hj]; rfl
  refine List.ext_getElem? fun i => ?_
  rw [List.getElem?_set]
  by_cases e : j = i
  ·subst e
   rw [if_pos rfl, if_pos (List.getElem?_eq_some_iff.1 hj2).1, hj2]
  ·rw [if_neg e]
 refine ⟨by rw [hm]; exact h.1, fun x hx => ?_⟩
 have : x.born ∈ es.toList.map (·.born) := by rw [← hm]; exact List.mem_map.2 ⟨x, hx, rfl⟩
 obtain ⟨y, hy, e⟩ := List.mem_map.1 this
 have := h.2 y hy
 omega

def MpC (M : MapE α β) (b : Nat) (l : List (α × β)) : Ch where
 P _ w fp := (∀ k, fp k ↔ k = b) ∧ b < w.heap.size ∧ (l.map Prod.fst).Nodup ∧ (∀ p ∈ l, M.ok p.1) ∧ ∃ es clock, w.heap[b]? = some (.map es clock) ∧ es.toList.map (fun e => (e.key, e.val)) = l.map (fun p => (M.ke p.1, M.ve p.2)) ∧ bornOk es clock
 keep := fun {I I' fp w w'} ⟨h1, h2, h3, h4, es, clock, h5, h6⟩ _ hk =>
  ⟨h1, Nat.lt_of_lt_of_le h2 hk.1, h3, h4, es, clock, by rw [hk.2 b (.inr ((h1 b).2 rfl)) h2]; exact h5, h6⟩
 pur := false
 hpur := fun h => by cases h

section
variable {P : Program} {w : World} {t kt et b clock : Nat} {M : MapE α β} {l : List (α × β)} {es : Array MapEntry}
omit [DecidableEq α] in
theorem pair_of (he : es.toList.map (fun e => (e.key, e.val)) = l.map (fun p => (M.ke p.1, M.ve p.2))) {j : Nat} {e0 : MapEntry} (h : es.toList[j]? = some e0) : ∃ p, l[j]? = some p ∧ e0.key = M.ke p.1 ∧ e0.val = M.ve p.2 := by
 have h1 := congrArg (·[j]?) he
 simp only [List.getElem?_map, h, Option.map_some] at h1
 obtain ⟨p, hp, h2⟩ := Option.map_eq_some_iff.1 h1.symm
 rw [Prod.mk.injEq] at h2
 exact ⟨p, hp, h2.1.symm, h2.2.symm⟩

omit [DecidableEq α] in
theorem entry_of (he : es.toList.map (fun e => (e.key, e.val)) = l.map (fun p => (M.ke p.1, M.ve p.2))) {p : α × β} (h : p ∈ l) : ∃ e ∈ es.toList, e.key = M.ke p.1 := by
 have h1 : (M.ke p.1, M.ve p.2) ∈ es.toList.map (fun e => (e.key, e.val)) := by rw [he]; exact List.mem_map.2 ⟨p, h, rfl⟩
 obtain ⟨e, he, h2⟩ := List.mem_map.1 h1
 rw [Prod.mk.injEq] at h2
 exact ⟨e, he, h2.1⟩

theorem map_find (K : KeyLaw P kt) (hk : ∀ a, M.ok a → ∃ s, keyOf P kt (M.ke a) = some s) (hn : (l.map Prod.fst).Nodup) (hl : ∀ p ∈ l, M.ok p.1) (he : es.toList.map (fun e => (e.key, e.val)) = l.map (fun p => (M.ke p.1, M.ve p.2))) (a : α) (ha : M.ok a) :
  (mget l a = none ∧ (∀ p ∈ l, p.1 ≠ a) ∧ (Instr.findKey kt (M.ke a) es.toList).run P w = .ok none w) ∨ ∃ j e0 v, mget l a = some v ∧ l[j]? = some (a, v) ∧ es.toList[j]? = some e0 ∧ e0.key = M.ke a ∧ e0.val = M.ve v ∧ (Instr.findKey kt (M.ke a) es.toList).run P w = .ok (some (j, M.ve v)) w := by
 obtain ⟨s, hs⟩ := hk a ha
 have hkeys : ∀ e ∈ es.toList, ∃ l, keyOf P kt e.key = some l := fun e hm => by
  obtain ⟨j, hj⟩ := List.getElem?_of_mem hm
  obtain ⟨p, hp, h1, _⟩ := pair_of he hj
  rw [h1]; exact hk _ (hl p (List.mem_of_getElem? hp))
 rcases K.find w hs es.toList hkeys with ⟨h1, h2⟩ | ⟨j, e0, h1, h2, h3⟩
 ·have hne : ∀ p ∈ l, p.1 ≠ a := fun p hp e => by
   obtain ⟨e', h4, h5⟩ := entry_of he hp
   exact h2 e' h4 (by rw [h5, e])
  exact .inl ⟨mget_none hne, hne, h1⟩
 ·obtain ⟨p, hp, h4, h5⟩ := pair_of he h2
  have : p.1 = a := M.inj _ _ (hl p (List.mem_of_getElem? hp)) ha (by rw [← h4, h3])
  obtain ⟨pa, pv⟩ := p
  simp only at this h4 h5
  subst this
  exact .inr ⟨j, e0, pv, mget_at hn hp, hp, h2, h3, h5, by rw [h1, h5]⟩

theorem run_mlook (K : KeyLaw P kt) (hk : ∀ a, M.ok a → ∃ s, keyOf P kt (M.ke a) = some s) (ht : P.underlying t = some (.map kt et)) {z : Value} (hz : ∀ w, (zeroValue et).run P w = .ok z w) {I fp : Dm} (hc : (MpC M b l).P I w fp) (a : α) (ha : M.ok a) (ck : Bool) :
  (Instr.lookup t (.map (some b)) (M.ke a) ck).run P w = .ok (if ck then .tuple #[((mget l a).map M.ve).getD z, .bool (mget l a).isSome] else ((mget l a).map M.ve).getD z) w := by
 obtain ⟨_, _, h3, h4, es, clock, h5, h6, _⟩ := hc
 obtain ⟨s, hs⟩ := hk a ha
 rcases map_find (w := w) K hk h3 h4 h6 a ha with ⟨h7, _, h8⟩ | ⟨j, e0, v, h7, h8, h9, h10, h11, h12⟩
 ·rw [h7]
  cases ck <;> simp [Instr.lookup, run_underlying ht, MapKept.run_getObj_map h5, K.check w _ hs, h8, hz, Result.andThen]
 ·rw [h7]
  cases ck <;> simp [Instr.lookup, run_underlying ht, MapKept.run_getObj_map h5, K.check w _ hs, h12, Result.andThen]

theorem setBlock_turn (w : World) (b : Nat) (o : Obj) : Turn b w (ChangeMaps.setBlock w b o) := ⟨rfl, rfl, rfl, by simp [ChangeMaps.setBlock], fun k hk => by simp [ChangeMaps.setBlock, Array.getElem?_setIfInBounds, Ne.symm hk]⟩

theorem setBlock_at {w : World} {b : Nat} (o : Obj) (h : b < w.heap.size) : (ChangeMaps.setBlock w b o).heap[b]? = some o := by simp [ChangeMaps.setBlock, Array.getElem?_setIfInBounds, h]

theorem run_mset (K : KeyLaw P kt) (hk : ∀ a, M.ok a → ∃ s, keyOf P kt (M.ke a) = some s) (ht : P.underlying t = some (.map kt et)) {I fp : Dm} (hc : (MpC M b l).P I w fp) (a : α) (ha : M.ok a) (v : β) :
  ∃ w', (Instr.mapUpdate t (.map (some b)) (M.ke a) (M.ve v)).run P w = .ok () w' ∧ Turn b w w' ∧ ∀ I', (MpC M b (mset l a v)).P I' w' fp := by
 obtain ⟨h1, h2, h3, h4, es, clock, h5, h6, hB⟩ := hc
 obtain ⟨s, hs⟩ := hk a ha
 have hok : ∀ p ∈ mset l a v, M.ok p.1 := fun p hp => (mset_mem hp).elim (fun e => by rw [e]; exact ha) (h4 p)
 rcases map_find (w := w) K hk h3 h4 h6 a ha with ⟨h7, h8, h9⟩ | ⟨j, e0, u, h7, h8, h9, h10, h11, h12⟩
 ·refine ⟨ChangeMaps.setBlock w b (.map (es.push ⟨M.ke a, M.ve v, clock⟩) (clock + 1)), ?_, setBlock_turn _ _ _, fun I' => ⟨h1, by have := (setBlock_turn w b (.map (es.push ⟨M.ke a, M.ve v, clock⟩) (clock + 1))).size; omega, mset_nodup _ _ h3, hok, _, _, setBlock_at _ h2, ?_, bornOk_push hB _ _⟩⟩
  ·simp [Instr.mapUpdate, run_underlying ht, MapKept.run_getObj_map h5, K.check w false hs, h9, MapKept.run_setObj_map _ h5, Result.andThen, ChangeMaps.setBlock]
  ·rw [mset_new v h8, Array.toList_push, List.map_append, List.map_append, h6]; rfl
 ·have hj : es[j]? = some e0 := by simpa using h9
  refine ⟨ChangeMaps.setBlock w b (.map (es.modify j (fun e' => { e' with key := M.ke a, val := M.ve v })) clock), ?_, setBlock_turn _ _ _, fun I' => ⟨h1, by have := (setBlock_turn w b (.map (es.modify j (fun e' => { e' with key := M.ke a, val := M.ve v })) clock)).size; omega, mset_nodup _ _ h3, hok, _, _, setBlock_at _ h2, ?_, bornOk_set hB h9 (e1 := { e0 with key := M.ke a, val := M.ve v }) rfl (by rw [Array.toList_modify, modify_set _ h9])⟩⟩
  ·simp [Instr.mapUpdate, run_underlying ht, MapKept.run_getObj_map h5, K.check w false hs, h12, hj, h10, K.stays w hs, MapKept.run_setObj_map _ h5, Result.andThen, ChangeMaps.setBlock]
  ·rw [mset_at v h3 h8, Array.toList_modify, modify_set _ h9, List.map_set, List.map_set, h6]

end

/-- what a program says of a map type -/
structure MapF {α β : Type} (P : Program) (t : Nat) (M : MapE α β) (d : β) : Prop where
 ex : ∃ kt et, KeyLaw P kt ∧ (∀ a, M.ok a → ∃ s, keyOf P kt (M.ke a) = some s) ∧ P.underlying t = some (.map kt et) ∧ ∀ w, (zeroValue et).run P w = .ok (M.ve d) w

theorem mlook_v {α : Type} {f : α → Value} (o : Option α) (d : α) : (o.map f).getD (f d) = f (o.getD d) := by cases o <;> rfl

theorem Lit_wfI {x : Int} (h : inI x) : (Lit.int .i64 x).wf = true := by
 obtain ⟨h1, h2⟩ := h
 have e1 : IntKind.i64.min = -9223372036854775808 := rfl
 have e2 : IntKind.i64.max = 9223372036854775807 := rfl
 simp [Lit.wf, e1, e2, h1, h2]

theorem run_zero0 {P : Program} {t : Nat} {z : Value} (h : (P.info? t).bind (·.zero) = some z) (w : World) : (zeroValue t).run P w = .ok z w := by
 obtain ⟨i, hi, hz⟩ := Option.bind_eq_some_iff.1 h
 simp [zeroValue, typeInfo, hi, hz]

theorem run_eql_pair {P : Program} {t e : Nat} {q : IntKind} (hu : P.underlying t = some (.array 2 e)) (he : P.underlying e = some (.int q)) (hi : (P.info? e).isSome = true) (h1 : P.cellsOf e = 1) (a b c d : Int) (w : World) :
  (binOp .eql t (.agg #[.int q a, .int q b]) (.agg #[.int q c, .int q d])).run P w = .ok (.bool (a == c && b == d)) w := by
 obtain ⟨i, hi⟩ := Option.isSome_iff_exists.1 hi
 rw [run_eql_struct, show (10000 : Nat) = 9999 + 1 from rfl, run_equalIn_array w 9999 _ _ hu hi]
 simp [Op.eqItems, show List.range 2 = [0, 1] from rfl, part, h1, isAgg, run_underlying he, run_equalIn_int w 9998 e _ _ _ _ he]
 try ((repeat' split) <;> simp_all)

theorem run_maxN {P : Program} {k : IntKind} (w : World) : ∀ (vs : List Int) (x : Int), ((vs.map fun z => Value.int k z).foldlM Builtin.max2 (.int k x)).run P w = .ok (.int k (vs.foldl max x)) w
 | [], x => by simp
 | y :: r, x => by
  have h : (Builtin.max2 (.int k x) (.int k y)).run P w = .ok (.int k (max x y)) w := by
   simp [Builtin.max2]; split <;> omega
  rw [List.map_cons, List.foldlM_cons, Sem.run_bind, h]
  exact run_maxN w r (max x y)

theorem Ob_maxN {P : Program} {o : Oper} {w : World} {ev : Operand → Option Value} {k : IntKind} {c : Call} (x : Int) (vs : List Int) (ho : o.op = .call c) (hc : c.callee = .builtin .max) (hx : c.args.toList.mapM ev = some (.int k x :: vs.map fun z => .int k z)) : Ob P ev o (.int k (vs.foldl max x)) w := by
 intro ρ hρ
 have e1 : c.args.map ρ = (Value.int k x :: vs.map fun z => .int k z).toArray := by
  apply Array.toList_inj.1
  rw [Array.toList_map, evs_map (fun x u hx => hρ x u hx) _ _ hx]
 unfold execOp
 have h2 := run_maxN (P := P) (k := k) w vs x
 simp [ho, resolve, hc, e1, invoke, builtin, Builtin.max_, h2]

section flow
variable {ds : List Deferred} {P : Program} {ops : Array Oper} {Q : Exit → Act → World → Prop} {a : Act} {w : World} {rest : List Oper} {o : Oper} {n : Nat} {S : Slots} {G : List GV}
variable {I0 D : Dm} {w0 : World} {I : Dm} {cs : List Ch}
omit [DecidableEq α] in
theorem Hf.newmp (H : Hf I0 D w0 I w cs) (M : MapE α β) : Hf I0 D w0 I (w.alloc (.map #[] 0)) (MpC M w.heap.size [] :: cs) :=
 H.new ((Below.refl _ w).alloc (Nat.le_refl _) _) (f := (· = w.heap.size)) (c := MpC M w.heap.size []) ⟨fun _ => Iff.rfl, by simp, List.nodup_nil, fun p hp => by simp at hp, #[], 0, heap_alloc_new w _, rfl, List.nodup_nil, fun x hx => by simp at hx⟩ fun k hk => by subst hk; simp

omit [DecidableEq α] in
theorem h_mkmap (hok : PsD ds ops n S G a) (H : Hf I0 D w0 I w cs) (M : MapE α β) {d t : Nat} (hg : o.guard = none) (ho : o.op = .makeMap t none) (hd : o.dst = some d) (hdn : d < n) (hf : gFree ops G d = true)
  (h : ∀ a' w' b, Hf I0 D w0 I w' (MpC M b [] :: cs) → PsD ds ops n ((d, .map (some b)) :: S) G a' → wpList P ops Q rest a' w') : wpList P ops Q (o :: rest) a w := by
 refine wpList_run hg (v := .map (some w.heap.size)) (w' := w.alloc (.map #[] 0)) ?_ ?_
 ·unfold execOp
  simp [ho, run_makeMap]
 ·rw [hd]
  exact h _ _ _ (H.newmp M) (hok.put hdn hf _)

theorem h_mset (hok : PsD ds ops n S G a) (H : Hf I0 D w0 I w cs) (i : Nat) {M : MapE α β} {t b : Nat} {l : List (α × β)} {m x y : Operand} (k : α) (v : β) {d : β} (F : MapF P t M d)
  (hi : cs[i]? = some (MpC M b l)) (hg : o.guard = none) (ho : o.op = .mapUpdate t m x y) (hd : o.dst = none) (hm : evS S m = some (.map (some b))) (hx : evS S x = some (M.ke k)) (hy : evS S y = some (M.ve v)) (hko : M.ok k)
  (h : ∀ w', Hf I0 D w0 I w' (MpC M b (mset l k v) :: cs.eraseIdx i) → wpList P ops Q rest a w') : wpList P ops Q (o :: rest) a w := by
 obtain ⟨kt, et, K, hk, ht, _⟩ := F.ex
 obtain ⟨f, hc, _⟩ := H.get i hi
 obtain ⟨w', hr, htn, hc'⟩ := run_mset K hk ht hc k hko v
 refine wpList_skip hg (w' := w') ?_ hd (h w' ?_)
 ·unfold execOp
  simp [ho, hok.sl.ev hm, hok.sl.ev hx, hok.sl.ev hy, hr]
 ·exact H.turn i hi fun f hf hq => ⟨⟨htn.os, htn.tape, htn.output, Nat.le_of_eq htn.size.symm, fun k _ hk => htn.block k fun e => hk ((hf.1 k).2 e)⟩, f, by
   obtain ⟨w2, hr2, _, hc2⟩ := run_mset K hk ht hf k hko v
   have e : w' = w2 := by injection hr.symm.trans hr2
   rw [e]; exact hc2 I, fun k hk2 => ⟨.inl hk2, by have := (hq k hk2).1; rw [htn.size]; exact this⟩⟩

theorem Ob_mlook1 {ev : Operand → Option Value} {M : MapE α β} {t b : Nat} {l : List (α × β)} {x y : Operand} {d : β} (k : α) (F : MapF P t M d)
  (H : Hf I0 D w0 I w cs) (i : Nat) (hi : cs[i]? = some (MpC M b l)) (ho : o.op = .lookup t x y false) (hx : ev x = some (.map (some b))) (hy : ev y = some (M.ke k)) (hko : M.ok k) : Ob P ev o (M.ve ((mget l k).getD d)) w := by
 obtain ⟨kt, et, K, hk, ht, hz⟩ := F.ex
 obtain ⟨f, hc, _⟩ := H.get i hi
 intro ρ hρ
 unfold execOp
 simp only [ho, hρ _ _ hx, hρ _ _ hy]
 have := run_mlook (w := w) K hk ht hz hc k hko false
 simp only [mlook_v] at this
 simp [this]

theorem Ob_mlook2 {ev : Operand → Option Value} {M : MapE α β} {t b : Nat} {l : List (α × β)} {x y : Operand} {d : β} (k : α) (F : MapF P t M d)
  (H : Hf I0 D w0 I w cs) (i : Nat) (hi : cs[i]? = some (MpC M b l)) (ho : o.op = .lookup t x y true) (hx : ev x = some (.map (some b))) (hy : ev y = some (M.ke k)) (hko : M.ok k) : Ob P ev o (.tuple #[M.ve ((mget l k).getD d), .bool (mget l k).isSome]) w := by
 obtain ⟨kt, et, K, hk, ht, hz⟩ := F.ex
 obtain ⟨f, hc, _⟩ := H.get i hi
 intro ρ hρ
 unfold execOp
 simp only [ho, hρ _ _ hx, hρ _ _ hy]
 have := run_mlook (w := w) K hk ht hz hc k hko true
 simp only [mlook_v] at this
 simp [this]

end flow

end Go.Proofs.YtglfajjcgbfehaaGreat

namespace Go.Proofs.YtglfajjcgbfehaaGreat
open Go.RowKit

def lrec (fn : FuncId) (tm : Array Value) (ps : Array Tmp) (asg body : Code) (D0 : Nat) (st : LoopState) (pe : Option Code) : Loop := { state := st, pending := pe, fn := fn, tmps := tm, params := ps, assign := asg, body := body, defers := D0 }

def ObC (b : Nat) (o : Obj) : Ch where
 P _ w fp := (∀ k, fp k ↔ k = b) ∧ w.heap[b]? = some o
 keep := fun {I I' fp w w'} ⟨h1, h2⟩ _ hk => ⟨h1, by
  have hl : b < w.heap.size := (Array.getElem?_eq_some_iff.1 h2).1
  rw [hk.2 b (.inr ((h1 b).2 rfl)) hl]; exact h2⟩
 pur := false
 hpur := fun h => by cases h

abbrev LpC (b : Nat) (r : Loop) : Ch := ObC b (.loop r)

abbrev DfC (b : Nat) : Ch := ObC b (.deferred (some []))

theorem putObj_turn (w : World) (b : Nat) (o : Obj) : Turn b w (w.putObj b o) := ⟨rfl, rfl, rfl, by simp, fun k hk => World.putObj_heap_other hk⟩

section hf
variable {I0 D : Dm} {w0 : World} {I : Dm} {w : World} {cs : List Ch}
theorem Hf.obat (H : Hf I0 D w0 I w cs) (i : Nat) {b : Nat} {o : Obj} (hi : cs[i]? = some (ObC b o)) : w.heap[b]? = some o := by
 obtain ⟨f, hc, _⟩ := H.get i hi
 exact hc.2

theorem Hf.obturn (H : Hf I0 D w0 I w cs) (i : Nat) {b : Nat} {o : Obj} (hi : cs[i]? = some (ObC b o)) (o' : Obj) : Hf I0 D w0 I (w.putObj b o') (ObC b o' :: cs.eraseIdx i) := by
 have htn := putObj_turn w b o'
 refine H.turn i hi fun f hf hq => ⟨⟨htn.os, htn.tape, htn.output, Nat.le_of_eq htn.size.symm, fun k _ hk => htn.block k fun e => hk ((hf.1 k).2 e)⟩, f, ⟨hf.1, World.putObj_heap_same (Array.getElem?_eq_some_iff.1 hf.2).1⟩, fun k hk2 => ⟨.inl hk2, by have := (hq k hk2).1; rw [htn.size]; exact this⟩⟩

theorem Hf.obnew (H : Hf I0 D w0 I w cs) (o : Obj) : Hf I0 D w0 I (w.alloc o) (ObC w.heap.size o :: cs) :=
 H.new ((Below.refl _ w).alloc (Nat.le_refl _) _) (f := (· = w.heap.size)) (c := ObC w.heap.size o) ⟨fun _ => Iff.rfl, heap_alloc_new w _⟩ fun k hk => by subst hk; simp

end hf

/-- the fence in a round -/
abbrev FO (L : Nat) : Fence := Fence.wide.inRound L

def ndB (l : List Oper) : Bool := l.all fun o => match o.op with | .defer _ => false | _ => true

theorem ndB_mem {l : List Oper} (h : ndB l = true) : ∀ o ∈ l, ∀ c, o.op ≠ .defer c := fun o ho c e => by
 have := List.all_eq_true.1 h o ho
 rw [e] at this; cases this

section ins
variable {P : Program} {ops : Array Oper} {Q : Exit → Act → World → Prop} {a : Act} {w : World} {o : Oper} {F : Fence} {m : Nat}
theorem uponIn_of (hro : F = { Fence.wide with round := F.round }) {next next' : Act → World → Prop} (hn : ∀ a w, next a w → next' a w) {r : Result Next} (h : o.upon P a next Q r) : o.uponIn F m P a next' Q r := by
 have hd : F.depth = none := by rw [hro]; rfl
 have hm : F.depth.isSome = true → 1 ≤ m := fun h => by rw [hd] at h; cases h
 have hc : ∀ {f args w R}, Calls P f args w R → CallsIn F (m - 1) P f args w R := fun h => by rw [hro]; exact callsIn_wide.2 h
 cases r with
 | ok x w =>
  cases x with
  | value v => exact hn _ _ h
  | skip => exact hn _ _ h
  | defer d => exact hn _ _ h
  | enter f args =>
   refine ⟨hm, hc (Calls.mono h fun e w' he => ?_)⟩
   cases e with
   | returned v => exact hn _ _ he
   | panicked c => exact he
   | outgrown => exact he
  | row row args =>
   refine ⟨hm, fun c cs _ => ?_⟩
   obtain ⟨v, w', h1, h2⟩ := h c cs
   refine ⟨v, w', hn _ _ h1, ?_⟩
   rw [hro]
   exact stepsIn_wide.2 h2
  | _ => exact h.elim
 | halt x w => cases x with
  | panic v => exact h
  | _ => exact h.elim

theorem wpListIn_app (hro : F = { Fence.wide with round := F.round }) (hQ : ¬ LetsOut Q) (r : List Oper) : ∀ (l : List Oper) (a : Act) (w : World), (∀ o ∈ l, ∀ c, o.op ≠ .defer c) → wpList P ops (Exit.then (fun a w => wpListIn F m P ops Q r a w) Q) l a w → wpListIn F m P ops Q (l ++ r) a w
 | [], a, w, _, h => h
 | o :: l, a, w, hnd, h => by
  have ih := wpListIn_app hro hQ r l
  have hnd' : ∀ o ∈ l, ∀ c, o.op ≠ .defer c := fun x hx => hnd x (by simp [hx])
  have hfn : ∀ f, F.fn f := fun f => by rw [hro]; trivial
  rw [List.cons_append]
  unfold wpList at h
  unfold wpListIn
  split at h
  ·rename_i hw
   rw [if_pos hw]
   rcases h with h | h
   ·refine ⟨fun f _ => hfn f, ?_⟩
    rw [Oper.semAt_eq _ _ _ (hnd o (by simp))]
    have h2 : o.upon P a (wpList P ops (Exit.then (fun a w => wpListIn F m P ops Q r a w) Q) l) Q ((execOp a.eval o).run P w) := h
    exact uponIn_of hro (fun a w hx => ih a w hnd' hx) h2
   ·exact (hQ h.2).elim
  ·rename_i hw
   rw [if_neg hw]
   exact ⟨fun f _ => hfn f, ih _ _ hnd' h⟩

theorem wpListIn_of (hro : F = { Fence.wide with round := F.round }) (hQ : ¬ LetsOut Q) {l : List Oper} (hnd : ndB l = true) (h : wpList P ops Q l a w) : wpListIn F m P ops Q l a w := by
 have := wpListIn_app (F := F) (m := m) (P := P) (ops := ops) (Q := Q) hro hQ [] l a w (ndB_mem hnd) (by
  have e : (Exit.then (fun a w => wpListIn F m P ops Q [] a w) Q) = Q := by funext e a w; cases e <;> rfl
  rw [e]; exact h)
 rwa [List.append_nil] at this

variable {ds : List Deferred} {n : Nat} {S : Slots} {G : List GV}
theorem f_regionI {L : Nat} {id : Nat} {l : List Oper} (hnd : ndB l = true) (hQ : ¬ LetsOut Q) (hok : SlD ds n S a) (h : PsD ds l.toArray n S [] a → wpList P l.toArray Q l a w) : (Code.region id l.toArray false).wpIn (FO L) m P Q a w :=
 wpIn_region_lit (wpListIn_of rfl hQ hnd (h (PsD.start hok)))

/-- a region of an iterator that calls yield: up to that call -/
theorem f_regionY (k : Nat) {id : Nat} {l : List Oper} (hnd : ndB (l.take k) = true) (hQ : ¬ LetsOut Q) (hok : SlD ds n S a) (h : PsD ds l.toArray n S [] a → wpList P l.toArray (Exit.then (fun a w => wpListIn Fence.wide 3 P l.toArray Q (l.drop k) a w) Q) (l.take k) a w) : (Code.region id l.toArray false).wp P Q a w := by
 refine (wpIn_wide (n := 3)).1 (wpIn_region_lit ?_)
 have := wpListIn_app (F := Fence.wide) (m := 3) rfl hQ (l.drop k) (l.take k) a w (ndB_mem hnd) (h (PsD.start hok))
 rwa [List.take_append_drop] at this

theorem s_mid {K : Act → World → Prop} (h : K a w) : wpList P ops (Exit.then K Q) [] a w := h

theorem l_back (hQ : ¬ LetsOut Q) {l : List Oper} (hnd : ndB l = true) (h : wpList P ops Q l a w) : wpListIn Fence.wide m P ops Q l a w := wpListIn_of rfl hQ hnd h

/-- what a call of yield comes to -/
def YieldW (P : Program) (L : Nat) (args : Array Value) (w : World) (R : Value → World → Prop) : Prop := ∀ m, YieldAt Fence.wide m P L args w (Ret R)

theorem run_ylv {ρ : Operand → Value} {L : Nat} {c : Call} {fv : Operand} {args : Array Value} (ho : o.op = .call c) (hc : c.callee = .value fv) (hv : ρ fv = .func (.yield L) #[] #[]) (ha : c.args.map ρ = args) : (execOp ρ o).run P w = (Instr.yield L args).run P w := by
 unfold execOp
 simp [ho, resolve, hc, hv, ha, Deferred.ofValue, invoke]

variable {I0 D : Dm} {w0 : World} {I : Dm} {cs : List Ch} {rest : List Oper}
theorem h_yield (hok : PsD ds ops n S G a) (H : Hf I0 D w0 I w cs) {js : List (Nat × Bool)} {cin rst : List Ch} (hp : pickN js cs = some (cin, rst)) {d L : Nat} {c : Call} {fv : Operand} {v : Value} {R : Dm → Value → World → Prop} (hg : o.guard = none) (ho : o.op = .call c) (hcv : c.callee = .value fv) (hfv : evS S fv = some (.func (.yield L) #[] #[])) (hd : o.dst = some d) (hdn : d < n) (hgf : gFree ops G d = true)
  (hx : c.args.toList.mapM (evS S) = some [v]) (hc : ∀ D1, St I D1 w cin → YieldW P L #[v] w (R D1))
  (h : ∀ vv a' w' D1, R D1 vv w' → (∀ {I' co}, Hf I D1 w I' w' co → Hf I0 D w0 I' w' (co ++ rst)) → PsD ds ops n ((d, vv) :: S) G a' → wpListIn Fence.wide m P ops Q rest a' w') : wpListIn Fence.wide m P ops Q (o :: rest) a w := by
 obtain ⟨D1, h1, h2⟩ := H.call hp
 obtain ⟨fn, tm, asg, bd, hy, hR⟩ := hc D1 h1 (m - 1)
 have e1 : c.args.map a.eval = #[v] := by
  apply Array.toList_inj.1
  rw [Array.toList_map, evs_map (fun x u hx => hok.sl.ev hx) _ _ hx]
 unfold wpListIn
 rw [if_pos (wanted_none hg _)]
 refine ⟨fun _ _ => trivial, ?_⟩
 rw [show (o.semAt Fence.wide.round a.eval) = execOp a.eval o from rfl, run_ylv ho hcv (hok.sl.ev hfv) e1, hy, Oper.uponIn_round]
 refine ⟨fun h => (by cases h), hR.mono fun e w' he => ?_⟩
 cases e with
 | returned vv =>
  show wpListIn Fence.wide m P ops Q rest (a.put o.dst _) w'
  rw [hd]
  exact h _ _ _ D1 he h2 (hok.put hdn hgf _)
 | panicked c => exact he.elim
 | outgrown => exact he.elim

theorem gY_yes (hok : PsD ds ops n S [] a) {i e : Nat} {pol : Bool} {ve : Value} (hg : o.guard = some (i, pol)) (hi : (ops[i]?).bind (·.dst) = some e) (he : S.lookup e = some ve) (hp : wantB ve pol = true)
  (h : wpListIn Fence.wide m P ops Q ({ o with guard := none } :: rest) a w) : wpListIn Fence.wide m P ops Q (o :: rest) a w := by
 have hw := wanted_want (ops := ops) hg hi (hok.sl.2.2 _ _ he)
 unfold wpListIn at h ⊢
 rw [if_pos (wanted_none rfl _)] at h
 rw [hw, hp, if_pos rfl]
 exact h

theorem gY_no (hok : PsD ds ops n S [] a) {d i e : Nat} {pol : Bool} {ve : Value} (hg : o.guard = some (i, pol)) (hi : (ops[i]?).bind (·.dst) = some e) (he : S.lookup e = some ve) (hp : wantB ve pol = false) (hd : o.dst = some d) (hdn : d < n)
  (h : ∀ a', PsD ds ops n ((d, undef) :: S) [] a' → wpListIn Fence.wide m P ops Q rest a' w) : wpListIn Fence.wide m P ops Q (o :: rest) a w := by
 have hw := wanted_want (ops := ops) hg hi (hok.sl.2.2 _ _ he)
 unfold wpListIn
 rw [hw, hp, if_neg (by simp), hd]
 exact ⟨fun _ _ => trivial, h _ (hok.put hdn rfl _)⟩

-- rounds
variable {L fn D0 : Nat} {tm : Array Value} {ps : Array Tmp} {asg bd : Code} {R : Value → World → Prop} {c : Code}
def AsQ (P : Program) (L m : Nat) (body : Code) (R : Value → World → Prop) : Exit → Act → World → Prop :=
 Exit.then (fun a₁ w₁ => ∃ w₂, (Instr.beginRound L).run P w₁ = .ok () w₂ ∧ body.wpIn (FO L) m P (roundPost P L (Ret R)) a₁ w₂) (fun _ _ _ => False)

theorem p_begin (H : Hf I0 D w0 I w cs) (i : Nat) (hi : cs[i]? = some (LpC L (lrec fn tm ps asg bd D0 .ready none))) (h : ∀ w2, Hf I0 D w0 I w2 (LpC L (lrec fn tm ps asg bd D0 .busy none) :: cs.eraseIdx i) → c.wpIn (FO L) m P (roundPost P L (Ret R)) a w2) : AsQ P L m c R .normal a w :=
 ⟨_, run_beginRound (H.obat i hi) rfl, h _ (H.obturn i hi _)⟩

theorem y_norm (H : Hf I0 D w0 I w cs) (i : Nat) (hi : cs[i]? = some (LpC L (lrec fn tm ps asg bd D0 .busy none))) (h : ∀ w2, Hf I0 D w0 I w2 (LpC L (lrec fn tm ps asg bd D0 .ready none) :: cs.eraseIdx i) → R (.bool true) w2) : roundPost P L (Ret R) .normal a w :=
 ⟨_, _, run_endRound none (H.obat i hi), h _ (H.obturn i hi _)⟩

end ins

section range
variable {P : Program} {Q : Exit → Act → World → Prop} {a : Act} {w : World} {n : Nat} {S : Slots} {σ E VT : Type} {I0 D : Dm} {w0 : World} {I : Dm} {cs : List Ch}
/-- the loop's record, the rounds' deferred calls and the caller's state, between rounds: (goes on, state) -/
def YC (L D0 fn : Nat) (tm : Array Value) (ps : Array Tmp) (asg bd c0 : Code) (KC : σ → Ch) (x : Bool × σ) : Ch :=
 ExC fun (_ : Unit) => [LpC L (lrec fn tm ps asg bd D0 (if x.1 = true then .ready else .done) (if x.1 = true then none else some c0)), KC x.2, DfC D0]

/-- what an iterator is told of yield -/
def YieldOk (P : Program) (L : Nat) (Y : Bool × σ → Ch) (enc : E → VT → Value) (ech : E → VT → List Ch) (y : E → σ → Option (Bool × σ)) : Prop :=
 ∀ {I D : Dm} {w : World} (e : E) (v : VT) (x rr : Bool × σ), x.1 = true → y e x.2 = some rr → St I D w (ech e v ++ [Y x]) → YieldW P L #[enc e v] w (fun vv w' => vv = .bool rr.1 ∧ ∃ I', Hf I D w I' w' [Y rr])

theorem pickN_rep : ∀ A B : List Ch, pickN (List.replicate A.length (0, false)) (A ++ B) = some (A, B)
 | [], B => rfl
 | c :: A, B => by
  rw [List.length_cons, List.replicate_succ]
  show (match pickN (List.replicate A.length (0, false)) (A ++ B) with | some p => some (c :: p.1, p.2) | none => none) = _
  rw [pickN_rep A B]

theorem Hf.callA {A B : List Ch} (H : Hf I0 D w0 I w (A ++ B)) : ∃ D1, St I D1 w A ∧ ∀ {I' w' co}, Hf I D1 w I' w' co → Hf I0 D w0 I' w' (co ++ B) := H.call (pickN_rep A B)

theorem Hf.back (H : Hf I0 D w0 I w cs) (js : List (Nat × Bool)) {cin rst : List Ch} (hp : pickN js cs = some (cin, rst)) : Hf I0 D w0 I w (rst ++ cin) := by
 obtain ⟨fp, h1, h2⟩ := H.star
 obtain ⟨f, g, h3, h4, h5, h6⟩ := h1.pick hp
 exact ⟨H.frm, H.imm, H.imm2, fp, (Star.app h4 h3 fun k x y => h5 k y x).iff fun k => (h6 k).trans or_comm, h2⟩

theorem zip1 (t : Tmp) (v : Value) (tm : Array Value) : ((#[t] : Array Tmp).zip #[v]).foldl (fun tmps (t, a) => tmps.setIfInBounds t a) tm = tm.setIfInBounds t v := by simp

theorem Hf.front {A B : List Ch} {c : Ch} (H : Hf I0 D w0 I w (A ++ c :: B)) : Hf I0 D w0 I w (c :: (A ++ B)) := by
 have hp : pickN [(A.length, false)] (A ++ c :: B) = some ([c], A ++ B) := by
  have h1 : (A ++ c :: B)[A.length]? = some c := by simp
  have h2 : (A ++ c :: B).eraseIdx A.length = A ++ B := by
   rw [List.eraseIdx_append_of_length_le (Nat.le_refl _), Nat.sub_self]; rfl
  simp [pickN, h1, h2]
 exact Hf.back (H.back _ hp) _ (pickN_rep _ _)

theorem Hf.tl {c : Ch} (H : Hf I0 D w0 I w (c :: cs)) : Hf I0 D w0 I w cs := (H.back [(0, false)] rfl).sub _ (pickN_rep cs [c])

theorem yieldOk_of {L D0 fn t : Nat} {tm : Array Value} {asg bd c0 : Code} {KC : σ → Ch} {enc : E → VT → Value} {ech : E → VT → List Ch} {y : E → σ → Option (Bool × σ)} (htm : Sl n S { tmps := tm, defers := [] }) (ht : t < n)
  (hround : ∀ {m : Nat} {I D : Dm} {w : World} (L D0 fn : Nat) (tm : Array Value) (e : E) (v : VT) (s : σ) (rr : Bool × σ) (a1 : Act), y e s = some rr → Sl n ((t, enc e v) :: S) a1 → Hf I D w I w (LpC L (lrec fn tm #[t] asg bd D0 .ready none) :: KC s :: ech e v) →
   asg.wpIn (FO L) m P (AsQ P L m bd (fun vv w' => vv = .bool rr.1 ∧ ∃ I', Hf I D w I' w' [LpC L (lrec fn tm #[t] asg bd D0 (if rr.1 = true then .ready else .done) (if rr.1 = true then none else some c0)), KC rr.2])) a1 w) :
  YieldOk P L (YC L D0 fn tm #[t] asg bd c0 KC) enc ech y := by
 intro I D w e v x rr hx hy H m
 obtain ⟨b, s⟩ := x
 simp only at hx hy
 subst hx
 have H1 : Hf I D w I w (YC L D0 fn tm #[t] asg bd c0 KC (true, s) :: ech e v) := by
  obtain ⟨D1, h1, h2⟩ := H.hf.callA
  exact Hf.back (h2 h1.hf) (List.replicate (ech e v).length (0, false)) (pickN_rep _ _)
 obtain ⟨_, H2⟩ := H1.openX 0 rfl
 have H3 : Hf I D w I w ((LpC L (lrec fn tm #[t] asg bd D0 .ready none) :: KC s :: ech e v) ++ [DfC D0]) := Hf.back (cs := LpC L (lrec fn tm #[t] asg bd D0 .ready none) :: KC s :: DfC D0 :: ech e v) H2 [(2, false)] rfl
 obtain ⟨D1, h1, h2⟩ := H3.callA
 have hl : w.heap[L]? = some (.loop (lrec fn tm #[t] asg bd D0 .ready none)) := H3.obat 0 rfl
 refine ⟨fn, _, asg, bd, run_yield hl rfl, roundIn_of_wpIn trivial ?_⟩
 have hz : ((lrec fn tm #[t] asg bd D0 .ready none).params.zip #[enc e v]).foldl (fun tmps (t, a) => tmps.setIfInBounds t a) (lrec fn tm #[t] asg bd D0 .ready none).tmps = tm.setIfInBounds t (enc e v) := zip1 _ _ _
 rw [hz]
 refine wpIn_mono (hround L D0 fn tm e v s rr _ hy (htm.put ht _) h1.hf) ?_
 rintro ex a' w' hq
 cases ex with
 | normal =>
  obtain ⟨w2, hb, hbd⟩ := hq
  refine ⟨w2, hb, wpIn_mono hbd ?_⟩
  have fin : ∀ {vv w'}, (vv = Value.bool rr.1 ∧ ∃ I', Hf I D1 w I' w' [LpC L (lrec fn tm #[t] asg bd D0 (if rr.1 = true then .ready else .done) (if rr.1 = true then none else some c0)), KC rr.2]) → (vv = .bool rr.1 ∧ ∃ I', Hf I D w I' w' [YC L D0 fn tm #[t] asg bd c0 KC rr]) := by
   rintro vv w' ⟨h3, I', h4⟩
   exact ⟨h3, I', (h2 h4).shutX () [(0, false), (0, false), (0, false)] rfl⟩
  rintro ex2 a2 w3 h
  cases ex2 with
  | normal => obtain ⟨v, w4, k1, k2⟩ := h; exact ⟨v, w4, k1, fin k2⟩
  | ret => obtain ⟨v, w4, k1, k2⟩ := h; exact ⟨v, w4, k1, fin k2⟩
  | exit id => obtain ⟨v, w4, k1, k2⟩ := h; exact ⟨v, w4, k1, fin k2⟩
  | goto id => obtain ⟨v, w4, k1, k2⟩ := h; exact ⟨v, w4, k1, fin k2⟩
  | panic c => exact h.elim
  | outgrown => exact h.elim
 | exit id => exact hq.elim
 | goto t => exact hq.elim
 | ret => exact hq.elim
 | panic c => exact hq.elim
 | outgrown => exact hq.elim

theorem f_rangeFunc {g : Operand} {t gf : Nat} {caps : Array Value} {asg bd c0 : Code} {KC : σ → Ch} {enc : E → VT → Value} {ech : E → VT → List Ch} {y : E → σ → Option (Bool × σ)} {s0 : σ} {rr : Bool × σ} (hok : Sl n S a) (H : Hf I0 D w0 I w cs) {js : List (Nat × Bool)} {cit rst : List Ch} (hp : pickN js cs = some (KC s0 :: cit, rst)) (co : List Ch)
  (hfn : IsFn P gf) (hg : evS S g = some (.func (.func gf) #[] caps)) (ht : t < n)
  (hround : ∀ {m : Nat} {I D : Dm} {w : World} (L D0 fn : Nat) (tm : Array Value) (e : E) (v : VT) (s : σ) (rr : Bool × σ) (a1 : Act), y e s = some rr → Sl n ((t, enc e v) :: S) a1 → Hf I D w I w (LpC L (lrec fn tm #[t] asg bd D0 .ready none) :: KC s :: ech e v) →
   asg.wpIn (FO L) m P (AsQ P L m bd (fun vv w' => vv = .bool rr.1 ∧ ∃ I', Hf I D w I' w' [LpC L (lrec fn tm #[t] asg bd D0 (if rr.1 = true then .ready else .done) (if rr.1 = true then none else some c0)), KC rr.2])) a1 w)
  (hit : ∀ {D1 : Dm} {w1 : World} (L : Nat) (Y : Bool × σ → Ch), YieldOk P L Y enc ech y → St I D1 w1 (cit ++ [Y (true, s0)]) → Calls P gf (#[.func (.yield L) #[] #[]] ++ caps) w1 (Ret fun _ w' => ∃ I', Hf I D1 w1 I' w' (co ++ [Y rr])))
  (hnext : ∀ (D0 : Nat) (a' : Act) (w' : World) (I' : Dm), SlD [{ target := .collected D0, args := #[] }] n S a' → Hf I0 D w0 I' w' (DfC D0 :: KC rr.2 :: (co ++ rst)) → (rr.1 = true → Q .normal a' w') ∧ (rr.1 = false → c0.wp P Q a' w')) :
  (Code.rangeFunc g #[t] asg bd).wp P Q a w := by
 refine (wpIn_wide (n := 3)).1 (wpIn_rangeFunc fun fn _ => ?_)
 obtain ⟨cl, h1, h2⟩ := hfn
 have hev := hok.ev hg
 obtain ⟨W1, hW1⟩ : ∃ W1, (w.alloc (.deferred (some []))).alloc (.loop (lrec fn a.tmps #[t] asg bd w.heap.size .ready none)) = W1 := ⟨_, rfl⟩
 have H2 : Hf I0 D w0 I W1 (LpC (w.heap.size + 1) (lrec fn a.tmps #[t] asg bd w.heap.size .ready none) :: DfC w.heap.size :: cs) := by
  have h := (H.obnew (.deferred (some []))).obnew (.loop (lrec fn a.tmps #[t] asg bd w.heap.size .ready none))
  rw [World.size_alloc, hW1] at h
  exact h
 have hrun : (Instr.enterLoop fn a.tmps #[t] asg bd Fence.wide.round).run P w = .ok (w.heap.size + 1, [{ target := .collected w.heap.size, args := #[] }]) W1 := by
  rw [← hW1]; exact run_enterLoop_outer _ _ _ _ _
 refine ⟨w.heap.size + 1, [{ target := .collected w.heap.size, args := #[] }], W1, { target := .fn (.func gf) caps, args := #[.func (.yield (w.heap.size + 1)) #[] #[]] }, W1, gf, #[.func (.yield (w.heap.size + 1)) #[] #[]] ++ caps, W1, hrun, ?_, fun _ _ => trivial, ?_, fun h => (by cases h), callsIn_wide.2 ?_⟩
 ·simp only [resolve, hev]
  simp [go_sem]
 ·obtain ⟨h2, h3⟩ := h2
  have h2' : cl.name ≠ "runtime.NumGoroutine" := by simpa using h2
  have h3' : ¬ cl.body = none := by intro e; rw [e] at h3; cases h3
  simp [invoke, callFunc, h1, h2', h3']
 ·have H3 : Hf I0 D w0 I W1 ((LpC (w.heap.size + 1) (lrec fn a.tmps #[t] asg bd w.heap.size .ready none) :: DfC w.heap.size :: (KC s0 :: cit)) ++ rst) := by
   have k1 := H2.back [(0, false), (0, false)] rfl
   obtain ⟨D1, k2, k3⟩ := k1.callA
   obtain ⟨D2, k4, k5⟩ := k2.hf.call hp
   have k6 := k3 (k5 k4.hf)
   have k7 := Hf.back k6 _ (pickN_rep _ _)
   simpa using k7
  obtain ⟨D1, k1, k2⟩ := H3.callA
  have k3 : Hf I D1 W1 I W1 (YC (w.heap.size + 1) w.heap.size fn a.tmps #[t] asg bd c0 KC (true, s0) :: cit) := k1.hf.shutX () [(0, false), (1, false), (0, false)] rfl
  have k4 := Hf.back k3 [(0, false)] rfl
  obtain ⟨D3, k5, k6⟩ := Hf.callA (B := []) (by simpa using k4)
  have hyo : YieldOk P (w.heap.size + 1) (YC (w.heap.size + 1) w.heap.size fn a.tmps #[t] asg bd c0 KC) enc ech y := yieldOk_of (L := w.heap.size + 1) (D0 := w.heap.size) (fn := fn) (c0 := c0) (tm := a.tmps) (enc := enc) (ech := ech) ⟨rfl, hok.2⟩ ht hround
  refine (hit (w.heap.size + 1) _ hyo k5).mono fun e w' he => ?_
  cases e with
  | returned vv =>
   obtain ⟨I', k7⟩ := he
   have k8 := k2 (k6 k7)
   have k9 : Hf I0 D w0 I' w' (YC (w.heap.size + 1) w.heap.size fn a.tmps #[t] asg bd c0 KC rr :: (co ++ rst)) := by
    have q1 : Hf I0 D w0 I' w' (co ++ (YC (w.heap.size + 1) w.heap.size fn a.tmps #[t] asg bd c0 KC rr :: rst)) := by simpa using k8
    exact q1.front
   obtain ⟨_, k10⟩ := k9.openX 0 rfl
   have hl := k10.obat 0 rfl
   have k11 := k10.obturn 0 rfl (.loop { lrec fn a.tmps #[t] asg bd w.heap.size (if rr.1 = true then .ready else .done) (if rr.1 = true then none else some c0) with state := .exhausted })
   have k12 := Hf.front (A := [KC rr.2]) (c := DfC w.heap.size) (Hf.tl k11)
   obtain ⟨g1, g2⟩ := hnext w.heap.size { tmps := a.tmps, defers := [{ target := .collected w.heap.size, args := #[] }] ++ a.defers } _ I' ⟨by rw [hok.1]; rfl, hok.2⟩ k12
   obtain ⟨b, s2⟩ := rr
   cases b with
   | true => exact ⟨none, _, run_endLoop hl (fun h => by cases h), g1 rfl⟩
   | false => exact ⟨some c0, _, run_endLoop hl (fun h => by cases h), wpIn_wide.2 (g2 rfl)⟩
  | panicked c => exact he.elim
  | outgrown => exact he.elim

theorem f_enterM {f : FuncId} {fn : Func} {c : Code} {args : List Value} {R : Ending → World → Prop} (m : Nat) (hf : P.funcs[f]? = some fn) (hm : fn.ntmps = m) (hb : fn.body = some c) (hle : args.length ≤ m)
  (h : ∀ a, Sl m (args.zipIdx.map fun p => (p.2, p.1)) a → c.wp P (bodyPostM Fence.wide 3 P fn R) a w) : Calls P f args.toArray w R :=
 (callsIn_wide (n := 3)).1 (callsIn_of_wp_marks hf hb trivial ((wpIn_wide (n := 3)).2 (h _ (by rw [hm]; exact enter_sl args m hle))))

theorem f_retM0 {fn : Func} {R : Value → World → Prop} {v : Value} (hd : Sl n S a) (hr : (results fn a.tmps).run P w = .ok v w) (h : R v w) : bodyPostM Fence.wide 3 P fn (Ret R) .ret a w := by
 show LeavesInM _ _ _ _ _ _ a.defers _ _
 rw [hd.1]; exact ⟨v, hr, h⟩

theorem leave_M {fn : Func} {R : Value → World → Prop} {D0 : Nat} (hd : SlD [{ target := .collected D0, args := #[] }] n S a) (H : Hf I0 D w0 I w cs) (i : Nat) (hi : cs[i]? = some (DfC D0))
  (h : ∀ w', Hf I0 D w0 I w' (ObC D0 (.deferred none) :: cs.eraseIdx i) → ∃ v, (results fn a.tmps).run P w' = .ok v w' ∧ R v w') : LeavesInM Fence.wide 3 P fn a.tmps (Ret R) a.defers .returning w := by
 rw [hd.1]
 refine ⟨by simp, .inl ⟨D0, _, rfl, run_takeDeferred (H.obat i hi), ?_⟩⟩
 exact h _ (H.obturn i hi _)

theorem f_retM {fn : Func} {R : Value → World → Prop} {D0 : Nat} (hd : SlD [{ target := .collected D0, args := #[] }] n S a) (H : Hf I0 D w0 I w cs) (i : Nat) (hi : cs[i]? = some (DfC D0))
  (h : ∀ w', Hf I0 D w0 I w' (ObC D0 (.deferred none) :: cs.eraseIdx i) → ∃ v, (results fn a.tmps).run P w' = .ok v w' ∧ R v w') : bodyPostM Fence.wide 3 P fn (Ret R) .ret a w := leave_M hd H i hi h

end range
end Go.Proofs.YtglfajjcgbfehaaGreat

namespace Go.Proofs.YtglfajjcgbfehaaGreat
open Go.RowKit
section
variable {ds : List Deferred} {P : Program} (T : Tab P) {ops : Array Oper} {Q : Exit → Act → World → Prop} {a : Act} {w : World} {rest : List Oper} {o : Oper} {n : Nat} {S : Slots} {G : List GV}
variable {I0 D : Dm} {w0 : World} {I : Dm} {cs : List Ch}
theorem h_setv {α : Type} {R : Rp α} (hok : PsD ds ops n S G a) (H : Hf I0 D w0 I w cs) (i : Nat) {t e : TypeId} {p x : Operand} {l : List α} {v0 v : Value} {d : α} {z : Int} (c : Nat) (y : α) (hi : cs[i]? = some (OwC R e v0 l)) (hF : R.Flat)
  (hz : 0 ≤ z ∧ z < (l.length : Int)) (hg : o.guard = none) (ho : o.op = .store t p x) (hd : o.dst = none) (m : Nat) (hp : evS S p = some (.pointer (some ⟨blkOf v0, oofOf v0 + z.toNat * m + c, none⟩))) (hx : evS S x = some v) (h1 : v.oneCell' = true) (ht : T.sz t = some (1, false)) (hm : R.n = m) (hc : c < m)
  (hy : ∀ cl, R.rep NoA w cl (l.getD z.toNat d) → R.rep NoA w (cl.set c v) y)
  (h : ∀ w', Hf I0 D w0 I w' (OwC R e v0 (l.set z.toNat y) :: cs.eraseIdx i) → wpList P ops Q rest a w') : wpList P ops Q (o :: rest) a w := by
 obtain ⟨ao, cap, rfl, hcl, hcm⟩ := H.owshape i hi
 have hk : z.toNat < l.length := by omega
 have hl : (l.set z.toNat y).length = l.length := List.length_set
 have hb : blkOf (.slice ao l.length cap) = bOf ao := by cases ao <;> rfl
 have hb2 : oofOf (.slice ao l.length cap) = oOf ao := by cases ao <;> rfl
 rw [hb, hb2] at hp
 refine h_set T hok H i z.toNat c y hi hF hg ho hd hp hx h1 ht m hm rfl hk hc (fun cl hcl => hy cl ?_) fun w' H' => h w' ?_
 ·rw [List.getD_eq_getElem?_getD, List.getElem?_eq_getElem hk]; exact hcl
 ·rw [hl] at H'; exact H'

end
end Go.Proofs.YtglfajjcgbfehaaGreat

namespace Go.Proofs.YtglfajjcgbfehaaGreat

/-- the set of the effects that are done, as a number: one bit for each, in E's order -/
def codeE : List Nat → (Nat → Bool) → Nat
 | [], _ => 0
 | e :: r, L => (if L e = true then 1 else 0) + 2 * codeE r L

theorem codeE_bit : ∀ (E : List Nat) (L : Nat → Bool) (i : Nat) (h : i < E.length), (codeE E L).testBit i = L E[i]
 | e :: r, L, 0, _ => by
  simp only [codeE, List.getElem_cons_zero, Nat.testBit_zero]
  cases L e
  ·simp
  ·simp only [if_true]; rw [show (1 + 2 * codeE r L) % 2 = 1 by omega]; rfl
 | e :: r, L, i + 1, h => by
  have := codeE_bit r L i (by simpa using h)
  simp only [codeE, List.getElem_cons_succ]
  rw [← this, Nat.testBit_succ]
  congr 1
  split <;> omega

theorem codeE_lt : ∀ (E : List Nat) (L : Nat → Bool), codeE E L < 2 ^ E.length
 | [], _ => by simp [codeE]
 | e :: r, L => by
  have := codeE_lt r L
  simp only [codeE, List.length_cons, Nat.pow_succ]
  split <;> omega

theorem codeE_same {E : List Nat} {L L' : Nat → Bool} (h : ∀ e ∈ E, L' e = L e) : codeE E L' = codeE E L := by
 induction E with
 | nil => rfl
 | cons e r ih => simp only [codeE]; rw [h e (by simp), ih fun x hx => h x (by simp [hx])]

theorem codeE_upd {E : List Nat} {L : Nat → Bool} {k : Nat} (hn : E.Nodup) (hk : k ∈ E) (hL : L k = false) : codeE E (fun j => L j || j == k) = codeE E L + 2 ^ E.idxOf k := by
 induction E with
 | nil => cases hk
 | cons e r ih =>
  rw [List.nodup_cons] at hn
  by_cases he : e = k
  ·subst he
   rw [List.idxOf_cons_self]
   simp only [codeE]
   rw [codeE_same (L := L) (L' := fun j => L j || j == e) fun x hx => by
    have : x ≠ e := fun h => hn.1 (h ▸ hx)
    simp [this]]
   simp [hL]; omega
  ·have hk' : k ∈ r := by simpa [Ne.symm he] using hk
   rw [List.idxOf_cons, show (e == k) = false by simpa using he, cond_false, Nat.pow_succ]
   simp only [codeE]
   have hx : (L e || e == k) = L e := by simp [he]
   rw [ih hn.2 hk']
   simp only [hx]
   omega

theorem codeE_all : ∀ {E : List Nat} {L : Nat → Bool}, (∀ e ∈ E, L e = true) → codeE E L = 2 ^ E.length - 1
 | [], _, _ => rfl
 | e :: r, L, h => by
  have := codeE_all (E := r) (L := L) fun x hx => h x (by simp [hx])
  simp only [codeE, List.length_cons, Nat.pow_succ]
  rw [h e (by simp), this, if_pos rfl]
  have : 0 < 2 ^ r.length := Nat.two_pow_pos _
  omega

/-- the stages at which operation k may come up -/
def alw (E ms : List Nat) (k : Nat) : List Nat := (List.range (2 ^ E.length)).filter fun s => (List.range E.length).all fun p =>
 (!(ms.getD k 0).testBit (E.getD p 0) || s.testBit p) && (!(E.getD p 0 == k || (ms.getD (E.getD p 0) 0).testBit k) || !s.testBit p) && (!s.testBit p || (List.range E.length).all fun q => !(ms.getD (E.getD p 0) 0).testBit (E.getD q 0) || s.testBit q)

def okTabG (l : List Oper) (E : List Nat) (tb : List (Nat × List Nat)) : Bool :=
 masks l [] == tb.map (·.1) && decide E.Nodup && E.all (decide <| · < l.length) && (List.range l.length).all fun k => (alw E (tb.map (·.1)) k).all fun s => (tb.getD k (0, [])).2.contains s

def owesG (P : Program) (ops : Array Oper) (E : List Nat) (rt : Nat → Nat) (F : Nat → Value → Value → Prop) (G : Nat → (Nat → Value) → World → Prop) (a : Act) (all : List Oper) : List Oper → List (Nat × List Nat) → Nat → Prop
 | o :: r, (m, al) :: tb, k => (∀ s, s ∈ al → ∀ (vals : Nat → Value) (w' : World), G s vals w' → (∀ j, m.testBit j = true → F j (vals (rt j)) (vals j)) → wpList P ops (OpPost (fun _ _ => True) (fun v y => F k (upd vals k v (rt k)) v ∧ G (if E.contains k then s + 2 ^ E.idxOf k else s) (upd vals k v) y) (putAll a vals all 0) o.dst w') [o] (putAll a vals all 0) w') ∧ owesG P ops E rt F G a all r tb (k + 1)
 | _, _, _ => True

theorem owesG_at {P : Program} {ops : Array Oper} {E : List Nat} {rt : Nat → Nat} {F : Nat → Value → Value → Prop} {G : Nat → (Nat → Value) → World → Prop} {a : Act} {all : List Oper} : ∀ (l : List Oper) (tb : List (Nat × List Nat)) (k : Nat), owesG P ops E rt F G a all l tb k → ∀ i o m al, l[i]? = some o → tb[i]? = some (m, al) →
  ∀ s, s ∈ al → ∀ (vals : Nat → Value) (w' : World), G s vals w' → (∀ j, m.testBit j = true → F j (vals (rt j)) (vals j)) → wpList P ops (OpPost (fun _ _ => True) (fun v y => F (k + i) (upd vals (k + i) v (rt (k + i))) v ∧ G (if E.contains (k + i) then s + 2 ^ E.idxOf (k + i) else s) (upd vals (k + i) v) y) (putAll a vals all 0) o.dst w') [o] (putAll a vals all 0) w'
 | [], _, _, _, i, o, _, _, h, _ => by simp at h
 | _ :: _, [], _, _, i, o, _, _, _, h => by simp at h
 | x :: r, (m', al') :: tb, k, h, i, o, m, al, h1, h2 => by
  cases i with
  | zero => simp at h1 h2; obtain ⟨rfl, rfl⟩ := h2; subst h1; exact h.1
  | succ i =>
   have := owesG_at r tb (k + 1) h.2 i o m al (by simpa using h1) (by simpa using h2)
   rw [show k + 1 + i = k + (i + 1) by omega] at this
   exact this

theorem owesG.cons {P : Program} {ops : Array Oper} {E : List Nat} {rt : Nat → Nat} {F : Nat → Value → Value → Prop} {G : Nat → (Nat → Value) → World → Prop} {a : Act} {all : List Oper} {o : Oper} {r : List Oper} {m : Nat} {al : List Nat} {tb : List (Nat × List Nat)} {k : Nat}
  (h1 : ∀ s, s ∈ al → ∀ (vals : Nat → Value) (w' : World), G s vals w' → (∀ j, m.testBit j = true → F j (vals (rt j)) (vals j)) → WpL P ops (fun v y => F k (upd vals k v (rt k)) v ∧ G (if E.contains k then s + 2 ^ E.idxOf k else s) (upd vals k v) y) o (putAll a vals all 0) w')
  (h2 : owesG P ops E rt F G a all r tb (k + 1)) : owesG P ops E rt F G a all (o :: r) ((m, al) :: tb) k := ⟨fun s b vals w' c d => (h1 s b vals w' c d).h, h2⟩

theorem owesG.nil {P : Program} {ops : Array Oper} {E : List Nat} {rt : Nat → Nat} {F : Nat → Value → Value → Prop} {G : Nat → (Nat → Value) → World → Prop} {a : Act} {all : List Oper} {k : Nat} : owesG P ops E rt F G a all [] [] k := trivial

theorem masks_len : ∀ (l : List Oper) (acc : List Nat), (masks l acc).length = acc.length + l.length
 | [], acc => by simp [masks]
 | o :: r, acc => by rw [masks, masks_len]; simp; omega

theorem masks_lt {all : List Oper} (hE : edgesBack all = true) : ∀ (l' : List Oper) (acc : List Nat), (∀ i o, l'[i]? = some o → all[acc.length + i]? = some o) → (∀ i q, (acc.getD i 0).testBit q = true → q < i) → ∀ i q, ((masks l' acc).getD i 0).testBit q = true → q < i
 | [], acc, _, ha, i, q, h => ha i q h
 | o :: r, acc, hl, ha, i, q, h => by
  refine masks_lt hE r _ (fun i o' hi => ?_) (fun i q h => ?_) i q h
  ·rw [List.length_append, show acc.length + [(fore o).foldl (fun m j => m ||| ((1 <<< j) ||| acc.getD j 0)) 0].length + i = acc.length + (i + 1) by simp; omega]
   exact hl (i + 1) o' (by simpa using hi)
  ·by_cases h1 : i < acc.length
   ·rw [List.getD_eq_getElem?_getD, List.getElem?_append_left h1, ← List.getD_eq_getElem?_getD] at h
    exact ha i q h
   ·by_cases h2 : i = acc.length
    ·subst h2
     rw [List.getD_eq_getElem?_getD, List.getElem?_append_right (Nat.le_refl _), Nat.sub_self] at h
     simp only [List.getElem?_cons_zero, Option.getD_some] at h
     rcases foldl_bit acc q _ _ h with h3 | ⟨j, h3, h4⟩
     ·simp at h3
     ·have h5 := fore_lt hE _ o (hl 0 o rfl) j h3
      rcases h4 with rfl | h4
      ·exact h5
      ·have := ha j q h4; omega
    ·rw [List.getD_eq_getElem?_getD, List.getElem?_eq_none (by simp; omega)] at h
     simp at h

theorem f_regionG {P : Program} {l : List Oper} {id : Nat} {ds : List Deferred} {Q : Exit → Act → World → Prop} {a : Act} {w : World} {n : Nat} {S : Slots} (hok : SlD ds n S a) (hm : P.follows .mixedOrders = true) (hE : edgesBack l = true) (hN : (dsts l).Nodup) (hd : (dsts l).all (decide <| · < n) = true)
  (E : List Nat) (tb : List (Nat × List Nat)) (htb : okTabG l E tb = true) (rt : Nat → Nat) (hrt : ((List.range l.length).all fun k => rt k == k || (tb.getD k (0, [])).1.testBit (rt k)) = true) (F : Nat → Value → Value → Prop) (G : Nat → (Nat → Value) → World → Prop) (hG : ∀ vals, G 0 vals w.drew)
  (hops : ∀ fr : (Nat → Value) → Act, (∀ vals, SlD ds n (regS vals l 0 ++ S.filter (fun p => !(dsts l).contains p.1)) (fr vals)) → (∀ vals, fr vals = putAll a vals l 0) → owesG P l.toArray E rt F G a l l tb 0)
  (hend : ∀ (vals : Nat → Value) (a' : Act) (w' : World), SlD ds n (regS vals l 0 ++ S.filter (fun p => !(dsts l).contains p.1)) a' → G (2 ^ E.length - 1) vals w' → (∀ j, j < l.length → F j (vals (rt j)) (vals j)) → Q .normal a' w') :
  (Code.region id l.toArray true).wp P Q a w := by
 unfold okTabG at htb
 simp only [Bool.and_eq_true, beq_iff_eq, decide_eq_true_eq, List.all_eq_true, List.mem_range] at htb
 obtain ⟨⟨⟨h1, h2⟩, h3⟩, h5⟩ := htb
 have hlen : tb.length = l.length := by
  have h6 := congrArg List.length h1
  rw [masks_len] at h6
  simpa using h6.symm
 have hmask : ∀ k, (masks l []).getD k 0 = (tb.map (·.1)).getD k 0 := fun k => by rw [h1]
 have hmask2 : ∀ k, (tb.map (·.1)).getD k 0 = (tb.getD k (0, [])).1 := fun k => by
  rw [List.getD_eq_getElem?_getD, List.getD_eq_getElem?_getD, List.getElem?_map]
  cases tb[k]? <;> rfl
 refine wp_region_L hm hE hN (fun L vals w' => (∀ j, j < l.length → L j = true → F j (vals (rt j)) (vals j)) ∧ G (codeE E L) vals w') ⟨fun _ _ h => (by cases h), ?_⟩ (fun i o hi L vals w' hC hLi hf hcl => ?_) (fun L vals w' hC hL => ?_)
 ·have : codeE E (fun _ => false) = 0 := by
   clear h2 h3 h5 h1 hmask hmask2 hops hend hG
   induction E with
   | nil => rfl
   | cons e r ih => simp only [codeE, ih]; rfl
  rw [this]; exact hG _
 ·have hil : i < l.length := (List.getElem?_eq_some_iff.1 hi).1
  have hanc : ∀ (i : Nat) (q : Nat), ((masks l []).getD i 0).testBit q = true → L i = true → L q = true := fun i q h hL =>
   masks_in (D := fun i => L i = true) (fun i o hi h => hcl i o hi h) l [] (fun i o h => by simpa using h) (fun i q h => by simp at h) i q h hL
  have hanc2 : ∀ q, ((masks l []).getD i 0).testBit q = true → L q = true ∧ q < l.length := fun q h => by
   have h6 := masks_in (D := fun k => k = i ∨ L k = true) (fun k o' hk h j hj => by
    rcases h with rfl | h
    ·rw [hi] at hk; injection hk with hk; subst hk; exact .inr (hf j hj)
    ·exact .inr (hcl k o' hk h j hj)) l [] (fun i o h => by simpa using h) (fun i q h => by simp at h) i q h (.inl rfl)
   have h7 := masks_lt hE l [] (fun i o h => by simpa using h) (fun i q h => by simp at h) i q h
   exact ⟨h6.resolve_left (by omega), by omega⟩
  have htb : tb[i]? = some (tb.getD i (0, [])) := by
   rw [List.getD_eq_getElem?_getD, List.getElem?_eq_getElem (by omega)]; rfl
  have hal : codeE E L ∈ (tb.getD i (0, [])).2 := by
   have h6 := h5 i hil (codeE E L) ?_
   ·simpa using h6
   ·unfold alw
    rw [List.mem_filter, List.mem_range, List.all_eq_true]
    refine ⟨codeE_lt E L, fun p hp => ?_⟩
    rw [List.mem_range] at hp
    rw [codeE_bit E L p hp, getD_get _ _ _ hp, ← hmask, ← hmask, Bool.and_eq_true, Bool.and_eq_true]
    refine ⟨⟨?_, ?_⟩, ?_⟩
    ·cases hx : ((masks l []).getD i 0).testBit E[p] with
     | false => rfl
     | true => rw [(hanc2 _ hx).1]; rfl
    ·cases hx : (E[p] == i || ((masks l []).getD E[p] 0).testBit i) with
     | false => rfl
     | true =>
      cases hy : L E[p] with
      | false => rfl
      | true =>
       rw [Bool.or_eq_true, beq_iff_eq] at hx
       rcases hx with hx | hx
       ·rw [hx, hLi] at hy; cases hy
       ·rw [hanc _ _ hx hy] at hLi; cases hLi
    ·cases hy : L E[p] with
     | false => rfl
     | true =>
      rw [Bool.not_true, Bool.false_or, List.all_eq_true]
      intro q hq
      rw [List.mem_range] at hq
      rw [codeE_bit E L q hq, getD_get _ _ _ hq]
      cases hx : ((masks l []).getD E[p] 0).testBit E[q] with
      | false => rfl
      | true => rw [hanc _ _ hx hy]; rfl
  have ho := owesG_at l tb 0 (hops (fun vals => putAll a vals l 0) (fun vals => hok.reg hN hd vals) (fun _ => rfl)) i o _ _ hi htb (codeE E L) hal vals w' hC.2 (fun j hj => by
   have hj2 : ((masks l []).getD i 0).testBit j = true := by rw [hmask, hmask2]; exact hj
   exact hC.1 j (hanc2 j hj2).2 (hanc2 j hj2).1)
  rw [Nat.zero_add] at ho
  refine ⟨_, ho, fun v w'' ⟨hFv, hGv⟩ => ⟨fun j hj hLj => ?_, ?_⟩⟩
  ·by_cases hne : j = i
   ·subst hne; rw [show upd vals j v j = v from if_pos rfl]; exact hFv
   ·have e1 : upd vals i v j = vals j := if_neg hne
    rw [e1]
    have hLj' : L j = true := by simpa [hne] using hLj
    have h9 := hC.1 j hj hLj'
    rw [List.all_eq_true] at hrt
    have h8 := hrt j (by simpa using hj)
    rw [Bool.or_eq_true, beq_iff_eq, ← hmask2, ← hmask] at h8
    have hrj : rt j ≠ i := fun e => by
     rcases h8 with h8 | h8
     ·exact hne (by rw [← h8]; exact e)
     ·have := hanc j _ h8 hLj'; rw [e, hLi] at this; cases this
    rw [show upd vals i v (rt j) = vals (rt j) from if_neg hrj]; exact h9
  ·have : codeE E (fun j => L j || j == i) = if E.contains i then codeE E L + 2 ^ E.idxOf i else codeE E L := by
    split
    ·rename_i hc; exact codeE_upd h2 (by simpa using hc) hLi
    ·rename_i hc
     refine codeE_same fun x hx => ?_
     have : x ≠ i := fun e => by subst e; exact hc (by simpa using hx)
     simp [this]
   rw [this]; exact hGv
 ·refine hend vals _ w' (hok.reg hN hd vals) ?_ (fun j hj => hC.1 j hj (hL j hj))
  rw [← codeE_all (E := E) (L := L) fun e he => hL e (h3 e he)]; exact hC.2

/-- a slice, or none where no slice is -/
def slG (v : Value) : Value := match v with
 | .slice a n c => .slice a n c
 | _ => .slice none 0 0

-- jumps back to a label
def WN (P : Program) (X : Code) (l : Nat) (Q : Exit → Act → World → Prop) : Nat → Act → World → Prop
 | 0, _, _ => False
 | n + 1, a, w => X.wp P (Exit.jump l (WN P X l Q n) Q) a w

theorem least_ex {p : Nat → Prop} : ∀ n, p n → ∃ k, p k ∧ ∀ j, p j → k ≤ j := fun n => by
 induction n using Nat.strongRecOn with
 | _ n ih =>
  intro h
  by_cases c : ∃ m, m < n ∧ p m
  ·obtain ⟨m, h1, h2⟩ := c
   exact ih m h1 h2
  ·exact ⟨n, h, fun j hj => Nat.le_of_not_lt fun hlt => c ⟨j, hlt, hj⟩⟩

section
variable {P : Program} {Q : Exit → Act → World → Prop} {a : Act} {w : World}
theorem f_scope {c X : Code} {l : Nat} (hf : findLabel c l = some (.seq .skip X)) (h : c.wp P (Exit.jump l (fun a w => ∃ n, WN P X l Q n a w) Q) a w) : (Code.scope c).wp P Q a w := by
 have sp : ∀ a w, (∃ n, WN P X l Q n a w) → (fun k => WN P X l Q k a w ∧ ∀ j, WN P X l Q j a w → k ≤ j) (Classical.epsilon fun k => WN P X l Q k a w ∧ ∀ j, WN P X l Q j a w → k ≤ j) := fun a w ⟨n, hn⟩ => Classical.epsilon_spec (p := fun k => WN P X l Q k a w ∧ ∀ j, WN P X l Q j a w → k ≤ j) (least_ex (p := fun k => WN P X l Q k a w) n hn)
 refine wp_scope_jumps l (fun a w => ∃ n, WN P X l Q n a w) (fun a w => Classical.epsilon fun k => WN P X l Q k a w ∧ ∀ j, WN P X l Q j a w → k ≤ j) hf h ?_
 intro a w hw
 obtain ⟨h1, h2⟩ := sp a w hw
 generalize (Classical.epsilon fun k => WN P X l Q k a w ∧ ∀ j, WN P X l Q j a w → k ≤ j) = m at h1 h2 ⊢
 cases m with
 | zero => cases h1
 | succ m =>
  refine wp_seq (wp_skip ?_)
  refine wp_mono h1 fun e a2 w2 hq => ?_
  cases e with
  | goto l' =>
   obtain ⟨e1, h3⟩ := hq
   exact ⟨e1, ⟨m, h3⟩, Nat.lt_succ_of_le ((sp a2 w2 ⟨m, h3⟩).2 m h3)⟩
  | _ => exact hq

theorem f_label {X : Code} {l : Nat} {σ R : Type} {body : (σ → Option R) → σ → Option R} {r : R} {m : Nat} {s : σ} (hF : iter body m s = some r) (I : σ → Act → World → Prop) (h0 : I s a w)
  (round : ∀ rec s a w, I s a w → body rec s = some r → X.wp P (Exit.jump l (fun a' w' => ∃ s', I s' a' w' ∧ rec s' = some r) Q) a w) : (Code.seq (.label l) X).wp P (Exit.jump l (fun a w => ∃ n, WN P X l Q n a w) Q) a w := by
 have key : ∀ m s a w, I s a w → iter body m s = some r → WN P X l Q m a w := by
  intro m
  induction m with
  | zero => intro s a w _ h; cases h
  | succ m ih =>
   intro s a w hI h
   refine wp_mono (round (iter body m) s a w hI h) fun e a2 w2 hq => ?_
   cases e with
   | goto l' =>
    obtain ⟨e1, s', h3, h4⟩ := hq
    exact ⟨e1, ih _ _ _ h3 h4⟩
   | _ => exact hq
 cases m with
 | zero => cases hF
 | succ m =>
  refine wp_seq (wp_label ?_)
  refine wp_mono (key (m + 1) s a w h0 hF) fun e a2 w2 hq => ?_
  cases e with
  | goto l' => exact ⟨hq.1, m, hq.2⟩
  | _ => exact hq

theorem p_jump_r {l : Nat} {J : Act → World → Prop} (h : Q .ret a w) : Exit.jump l J Q .ret a w := h

theorem p_jump_g {l : Nat} {J : Act → World → Prop} (h : J a w) : Exit.jump l J Q (.goto l) a w := ⟨rfl, h⟩

end
open Go.RowKit in
theorem At.blw {w w' : World} {b off : Nat} {cl : List Value} (h : At w b off cl) (hb : Below w.heap.size w w') : At w' b off cl := fun j v hv => by
 have h1 := h j v hv
 by_cases hlt : b < w.heap.size
 ·exact (hb.cell (p := ⟨b, off + j, none⟩) hlt).trans h1
 ·unfold World.cell? at h1
  simp only [Array.getElem?_eq_none (Nat.le_of_not_lt hlt)] at h1
  cases h1

theorem Hf.owElG {I0 D : Dm} {w0 : World} {I : Dm} {w : World} {cs : List Ch} {α : Type} {R : Rp α} [Inhabited α] (H : Hf I0 D w0 I w cs) (i : Nat) {e : TypeId} {v : Value} {l : List α} (hi : cs[i]? = some (OwC R e v l)) (z : Int) (hd : ∃ cl, R.rep I w cl default) : ∃ cl, R.rep I w cl (l.getD z.toNat default) ∧ (0 ≤ z ∧ z < (l.length : Int) → At w (blkOf v) (oofOf v + z.toNat * R.n) cl) := by
 by_cases h0 : z.toNat < l.length
 ·obtain ⟨cl, h1, h2⟩ := H.owEl i hi (z := (z.toNat : Int)) (by omega)
  exact ⟨cl, h1, fun _ => h2⟩
 ·obtain ⟨cl, h1⟩ := hd
  refine ⟨cl, ?_, fun h => absurd h (by omega)⟩
  rw [List.getD_eq_getElem?_getD, List.getElem?_eq_none (by omega)]; exact h1

end Go.Proofs.YtglfajjcgbfehaaGreat

namespace Go.Proofs.YtglfajjcgbfehaaGreat
end Go.Proofs.YtglfajjcgbfehaaGreat

namespace Go.Proofs.YtglfajjcgbfehaaGreat
open Go.RowKit

/-- rows of cells that read as a list -/
def RpsC {α : Type} (R : Rp α) (css : List (List Value)) (l : List α) : Ch where
 P I w fp := (∀ k, ¬ fp k) ∧ css.length = l.length ∧ ∀ i (h1 : i < css.length) (h2 : i < l.length), R.rep I w css[i] l[i]
 keep := fun ⟨h1, h2, h3⟩ hI hk => ⟨h1, h2, fun i a b => R.mono (h3 i a b) hI (hk.sub fun _ h => .inl h)⟩
 pur := true
 hpur := fun _ _ _ _ h => h.1

theorem Ow.ofRawI {α : Type} {R : Rp α} {A : Nat → Prop} {base : Nat} {e : TypeId} {w : World} {v : Value} {l : List α} {css : List (List Value)} (h : Ow (Rraw R.n) A base e w v css) (hl : css.length = l.length)
  (hr : ∀ i (h1 : i < css.length) (h2 : i < l.length), R.rep A w css[i] l[i]) (hg : ∀ g, v.ownBlock = some g → ¬ A g) : Ow R A base e w v l := by
 rcases h with ⟨ao, rfl, rfl⟩ | ⟨g, cap, css', rfl, hown, hl', hr'⟩
 ·have : l = [] := List.eq_nil_of_length_eq_zero (by simpa using hl.symm)
  subst this
  exact Ow.nil _ _ _ _ _ _
 ·have hcc : css' = css := by
   apply List.ext_getElem hl'
   intro i h1 h2
   exact (hr' i h1 h2).1
  subst hcc
  refine .inr ⟨g, cap, css', by rw [hl], ?_, hl, fun i h1 h2 => R.mono (hr i h1 h2) (fun k hk => ⟨hk, fun e => hg g rfl (e ▸ hk)⟩) (Keep.refl _ _)⟩
  rw [← hl]; exact hown

section
variable {I0 D : Dm} {w0 : World} {I : Dm} {w : World} {cs : List Ch} {α : Type} {R : Rp α}
theorem Hf.rps (H : Hf I0 D w0 I w cs) (j : Nat) {css : List (List Value)} {l : List α} (hj : cs[j]? = some (RpsC R css l)) : css.length = l.length ∧ ∀ i (h1 : i < css.length) (h2 : i < l.length), R.rep I w css[i] l[i] := (H.get j hj).choose_spec.1.2

theorem Hf.erase (H : Hf I0 D w0 I w cs) (i : Nat) {c : Ch} (h : cs[i]? = some c) : Hf I0 D w0 I w (cs.eraseIdx i) := by
 obtain ⟨fp, h1, h2⟩ := H.star
 obtain ⟨f, g, _, h4, _, h6⟩ := h1.take h
 exact ⟨H.frm, H.imm, H.imm2, g, h4, fun k hk => h2 k ((h6 k).2 (.inr hk))⟩

theorem Hf.rwOpen (H : Hf I0 D w0 I w cs) (i : Nat) {e : TypeId} {v : Value} {l : List α} (hi : cs[i]? = some (OwC R e v l)) : ∃ css, css.length = l.length ∧ Hf I0 D w0 I w (RpsC R css l :: OwC (Rraw R.n) e v css :: cs.eraseIdx i) := by
 obtain ⟨css, h1, h2, h3⟩ := Ow.toRaw (H.ow i hi)
 refine ⟨css, h1, (H.as i hi (c' := OwC (Rraw R.n) e v css) fun f hf hk => ⟨f, ⟨hf.1, hf.2.1, h3.keepO (fun _ h => h.elim) (Keep.refl _ _) fun _ _ _ => rfl⟩, fun _ h => h⟩).add (f := fun _ => False) (c := RpsC R css l) ⟨fun _ => id, h1, h2⟩ fun _ => id⟩

theorem Hf.rwShut (H : Hf I0 D w0 I w cs) (i j : Nat) {m : Nat} {e : TypeId} {v : Value} {css : List (List Value)} {l : List α} (hi : cs[i]? = some (OwC (Rraw m) e v css)) (hj : cs[j]? = some (RpsC R css l)) (hm : R.n = m) : Hf I0 D w0 I w (OwC R e v l :: cs.eraseIdx i) := by
 subst hm
 obtain ⟨h1, h2⟩ := H.rps j hj
 exact H.as i hi fun f hf hk => ⟨f, ⟨hf.1, hf.2.1, Ow.ofRawI hf.2.2 h1 h2 fun g hg => (hk g ((hf.1 g).2 hg)).2⟩, fun _ h => h⟩

theorem Hf.rwAt (H : Hf I0 D w0 I w cs) (i : Nat) {m : Nat} {e : TypeId} {v : Value} {css : List (List Value)} {n : Nat} (hi : cs[i]? = some (OwC (Rraw m) e v css)) (hn : css.length = n) {z : Int} (hz : 0 ≤ z ∧ z < (n : Int)) {cl : List Value} (hcl : css.getD z.toNat [] = cl) : At w (blkOf v) (oofOf v + z.toNat * m) cl := by
 subst hn
 obtain ⟨cl', h1, h2⟩ := H.owEl i hi hz
 have : cl' = cl := h1.1.trans hcl
 subst this
 exact h2

section
variable {ds : List Deferred} {P : Program} (T : Tab P) {ops : Array Oper} {Q : Exit → Act → World → Prop} {a : Act} {rest : List Oper} {o : Oper} {n : Nat} {S : Slots} {G : List GV}
theorem h_setR (hok : PsD ds ops n S G a) (H : Hf I0 D w0 I w cs) (i : Nat) {t e : TypeId} {p x : Operand} {l : List α} {v0 v : Value} {d : α} {z : Int} (c : Nat) (y : α) (hi : cs[i]? = some (OwC R e v0 l))
  (hz : 0 ≤ z ∧ z < (l.length : Int)) (hg : o.guard = none) (ho : o.op = .store t p x) (hd : o.dst = none) (m : Nat) (hp : evS S p = some (.pointer (some ⟨blkOf v0, oofOf v0 + z.toNat * m + c, none⟩))) (hx : evS S x = some v) (h1 : v.oneCell' = true) (ht : T.sz t = some (1, false)) (hm : R.n = m) (hc : c < m)
  (hy : ∀ cl, R.rep I w cl (l.getD z.toNat d) → R.rep I w (cl.set c v) y)
  (h : ∀ w', Hf I0 D w0 I w' (OwC R e v0 (l.set z.toNat y) :: cs.eraseIdx i) → wpList P ops Q rest a w') : wpList P ops Q (o :: rest) a w := by
 have hk : z.toNat < l.length := by omega
 obtain ⟨css, hl, H1⟩ := H.rwOpen i hi
 obtain ⟨_, h2⟩ := H1.rps 0 rfl
 have hkc : z.toNat < css.length := by omega
 have e1 : css.getD z.toNat [] = css[z.toNat] := getD_get _ _ _ hkc
 have r0 : R.rep I w ((css.getD z.toNat []).set c v) y := hy _ (by rw [getD_get _ _ _ hk, e1]; exact h2 _ hkc hk)
 have H2 := H1.add (f := fun _ => False) (c := RpsC R [(css.getD z.toNat []).set c v] [y]) ⟨fun _ => id, rfl, fun i a b => by
  have : i = 0 := Nat.lt_one_iff.1 b
  subst this; exact r0⟩ fun _ => id
 refine h_setv T hok H2 2 (z := z) (d := []) c ((css.getD z.toNat []).set c v) rfl (Rraw.isFlat _) ⟨hz.1, by omega⟩ hg ho hd m hp hx h1 ht hm hc (fun cl hcl => ?_) fun w' H3 => h w' ?_
 ·refine ⟨by rw [hcl.1], by rw [List.length_set]; exact hcl.2.1, fun u hu => ?_⟩
  rcases List.mem_or_eq_of_mem_set hu with hu | rfl
  ·exact hcl.2.2 u hu
  ·exact h1
 ·have H4 : Hf I0 D w0 I w' (OwC (Rraw R.n) e v0 (css.set z.toNat ((css.getD z.toNat []).set c v)) :: RpsC R [(css.getD z.toNat []).set c v] [y] :: RpsC R css l :: cs.eraseIdx i) := H3
  obtain ⟨_, g1⟩ := H4.rps 1 rfl
  obtain ⟨_, g2⟩ := H4.rps 2 rfl
  have g3 : R.rep I w' ((css.getD z.toNat []).set c v) y := g1 0 (by simp) (by simp)
  have H5 := H4.add (f := fun _ => False) (c := RpsC R (css.set z.toNat ((css.getD z.toNat []).set c v)) (l.set z.toNat y)) ⟨fun _ => id, by rw [List.length_set, List.length_set]; exact hl, fun i a b => by
   rw [List.length_set] at a b
   rw [List.getElem_set, List.getElem_set]
   by_cases q : z.toNat = i
   ·rw [if_pos q, if_pos q]; exact g3
   ·rw [if_neg q, if_neg q]; exact g2 i a b⟩ fun _ => id
  exact (((H5.rwShut 1 0 rfl rfl rfl).erase 1 rfl).erase 1 rfl).erase 1 rfl

end
end

/-- what a callee that answers plain values looks at -/
theorem stB (w : World) : St (fun k => k < w.heap.size) NoD w [] := St.none _ w fun _ h => h

theorem stS {w : World} {cs : List Ch} {α : Type} {R : Rp α} {A : Dm} {v : Value} {l : List α} (hs : slRep R A w v l) (h : St (fun k => k < w.heap.size) NoD w cs) : St (fun k => k < w.heap.size) NoD w (SlC R v l :: cs) := h.cons (f := fun _ => False) ⟨fun _ => id, hs.all⟩ fun _ => id

-- slices of bytes that a string came to
section
variable {I0 D : Dm} {w0 : World} {I : Dm} {w : World} {cs : List Ch} {v : Value} {l : List Int}
section
variable {ds : List Deferred} {P : Program} (T : Tab P) {ops : Array Oper} {Q : Exit → Act → World → Prop} {a : Act} {rest : List Oper} {o : Oper} {n : Nat} {S : Slots} {G : List GV}
end
end
end Go.Proofs.YtglfajjcgbfehaaGreat

namespace Go.Proofs.YtglfajjcgbfehaaGreat
open Go.RowKit
open Go.WideMaps (KeyLaw)

theorem keyOf_two {P : Program} {k e : TypeId} {fs : Array Field} (hu : P.underlying k = some (.struct fs)) (hkt : P.keyType k = true) (hc : P.cellsOf k = 2) (hce : P.cellsOf e = 1) (hnm : fs.all (·.name != "_") = true) (hf : fs.toList.map (fun f => (f.type, f.offset)) = [(e, 0), (e, 1)])
  (he : P.underlying e = some (.int .i64)) (hsz : ∃ m, P.types.size = m + 1) {a b : Int} (wa : (Lit.int .i64 a).wf = true) (wb : (Lit.int .i64 b).wf = true) : ∃ s, keyOf P k (.agg #[.int .i64 a, .int .i64 b]) = some s := by
 obtain ⟨m, hm⟩ := hsz
 unfold keyOf
 simp only [hu]
 rw [if_pos (by simp [hkt, Value.formed, hu, hc]), hm]
 unfold Program.keyLits
 simp only [hu, Value.cells]
 rw [if_pos ⟨by rw [hc]; rfl, hnm⟩]
 have h2 : ∃ f0 f1, fs.toList = [f0, f1] ∧ f0.type = e ∧ f0.offset = 0 ∧ f1.type = e ∧ f1.offset = 1 := by
  match h : fs.toList with
  | [] => rw [h] at hf; cases hf
  | [x] => rw [h] at hf; simp at hf
  | [x, y] => rw [h] at hf; simp at hf; exact ⟨x, y, rfl, hf.1.1, hf.1.2, hf.2.1, hf.2.2⟩
  | x :: y :: z :: r => rw [h] at hf; simp at hf
 obtain ⟨f0, f1, h3, h4, h5, h6, h7⟩ := h2
 rw [h3, List.mapM_cons, List.mapM_cons, List.mapM_nil]
 simp [h4, h5, h6, h7, hce, Program.keyLits, he, wa, wb]

section
variable {α β : Type} [DecidableEq α]
def mdel (l : List (α × β)) (k : α) : List (α × β) := match l with
 | [] => []
 | p :: r => if p.1 = k then r else p :: mdel r k

theorem mdel_none : ∀ {l : List (α × β)} {k : α}, (∀ p ∈ l, p.1 ≠ k) → mdel l k = l
 | [], _, _ => rfl
 | p :: r, k, h => by unfold mdel; rw [if_neg (h p (by simp)), mdel_none fun q hq => h q (by simp [hq])]

theorem mdel_at : ∀ {l : List (α × β)} {k : α} {j : Nat} {u : β}, (l.map Prod.fst).Nodup → l[j]? = some (k, u) → mdel l k = l.eraseIdx j
 | [], _, _, _, _, h => by simp at h
 | p :: r, k, 0, u, _, h => by
  simp only [List.getElem?_cons_zero, Option.some.injEq] at h
  subst h; unfold mdel; rw [if_pos rfl]; rfl
 | p :: r, k, j + 1, u, hn, h => by
  rw [List.map_cons, List.nodup_cons] at hn
  rw [List.getElem?_cons_succ] at h
  have hm : (k, u) ∈ r := List.mem_of_getElem? h
  unfold mdel
  rw [if_neg fun e => hn.1 (List.mem_map.2 ⟨_, hm, e.symm⟩), mdel_at hn.2 h]; rfl

theorem eraseIdx_map' {γ δ : Type} (f : γ → δ) : ∀ (l : List γ) (j : Nat), (l.eraseIdx j).map f = (l.map f).eraseIdx j
 | [], _ => rfl
 | _ :: _, 0 => rfl
 | x :: l, j + 1 => by simp only [List.eraseIdx_cons_succ, List.map_cons, eraseIdx_map' f l j]

theorem mdel_sub (k : α) : ∀ l : List (α × β), (mdel l k).Sublist l
 | [] => .slnil
 | p :: r => by
  unfold mdel
  split
  ·exact List.sublist_cons_self p r
  ·exact (mdel_sub k r).cons_cons p

theorem run_mdel {P : Program} {w : World} {t kt et ty b : Nat} {M : MapE α β} {l : List (α × β)} (K : KeyLaw P kt) (hk : ∀ a, M.ok a → ∃ s, keyOf P kt (M.ke a) = some s) (ht : P.underlying t = some (.map kt et)) {I fp : Dm} (hc : (MpC M b l).P I w fp) (a : α) (ha : M.ok a) :
  ∃ w', (Builtin.delete_ #[t, kt] ty #[.map (some b), M.ke a]).run P w = .ok (.tuple #[]) w' ∧ Turn b w w' ∧ ∀ I', (MpC M b (mdel l a)).P I' w' fp := by
 obtain ⟨h1, h2, h3, h4, es, clock, h5, h6, hB⟩ := hc
 obtain ⟨s, hs⟩ := hk a ha
 have hok : ∀ p ∈ mdel l a, M.ok p.1 := fun p hp => h4 p ((mdel_sub a l).subset hp)
 have hnd : ((mdel l a).map Prod.fst).Nodup := h3.sublist ((mdel_sub a l).map Prod.fst)
 rcases map_find (w := w) K hk h3 h4 h6 a ha with ⟨h7, h8, h9⟩ | ⟨j, e0, u, h7, h8, h9, h10, h11, h12⟩
 ·refine ⟨ChangeMaps.setBlock w b (.map es clock), ?_, setBlock_turn _ _ _, fun I' => ⟨h1, by have := (setBlock_turn w b (.map es clock)).size; omega, hnd, hok, _, _, setBlock_at _ h2, ?_, hB⟩⟩
  ·simp [Builtin.delete_, run_underlying ht, MapKept.run_getObj_map h5, K.check w _ hs, h9, MapKept.run_setObj_map _ h5, Result.andThen, ChangeMaps.setBlock]
  ·rw [mdel_none h8]; exact h6
 ·have hjl : j < es.toList.length := (List.getElem?_eq_some_iff.1 h9).1
  have hjs : j < es.size := by simpa using hjl
  have hsub : (es.eraseIdxIfInBounds j).toList = es.toList.eraseIdx j := by
   unfold Array.eraseIdxIfInBounds
   rw [dif_pos hjs]
   simp
  refine ⟨ChangeMaps.setBlock w b (.map (es.eraseIdxIfInBounds j) clock), ?_, setBlock_turn _ _ _, fun I' => ⟨h1, by have := (setBlock_turn w b (.map (es.eraseIdxIfInBounds j) clock)).size; omega, hnd, hok, _, _, setBlock_at _ h2, ?_, bornOk_sub hB (by rw [hsub]; exact List.eraseIdx_sublist ..)⟩⟩
  ·simp [Builtin.delete_, run_underlying ht, MapKept.run_getObj_map h5, K.check w _ hs, h12, MapKept.run_setObj_map _ h5, Result.andThen, ChangeMaps.setBlock]
  ·rw [hsub, mdel_at h3 h8, eraseIdx_map', h6, eraseIdx_map']

/-- what a program says of a map type, by its key's type -/
structure MapK (P : Program) (t kt : Nat) (M : MapE α β) : Prop where
 ex : ∃ et, KeyLaw P kt ∧ (∀ a, M.ok a → ∃ s, keyOf P kt (M.ke a) = some s) ∧ P.underlying t = some (.map kt et)

omit [DecidableEq α] in
theorem MapF.keyed {P : Program} {t kt et : Nat} {M : MapE α β} {d : β} (F : MapF P t M d) (ht : P.underlying t = some (.map kt et)) : ∃ et, KeyLaw P kt ∧ (∀ a, M.ok a → ∃ s, keyOf P kt (M.ke a) = some s) ∧ P.underlying t = some (.map kt et) := by
 obtain ⟨kt', et', K, hk, ht', _⟩ := F.ex
 rw [ht] at ht'
 injection ht' with ht'
 injection ht' with e1 e2
 subst e1
 exact ⟨et, K, hk, ht⟩

/-- a map, or none -/
def PmC (M : MapE α β) (v : Value) (o : Option (List (α × β))) : Ch := match o with
 | none => PfC (v = .map none)
 | some x => ExC fun (b : Nat) => [PfC (v = .map (some b)), MpC M b x]

end
section
variable {α β : Type} [DecidableEq α] {I0 D : Dm} {w0 : World} {I : Dm} {w : World} {cs : List Ch} {M : MapE α β}
omit [DecidableEq α] in
theorem Hf.optMN (H : Hf I0 D w0 I w cs) (i : Nat) {v : Value} {o : Option (List (α × β))} (h : cs[i]? = some (PmC M v o)) (ho : o = none) : v = .map none ∧ Hf I0 D w0 I w (cs.eraseIdx i) := by
 subst ho
 exact ⟨H.pf i h, H.drop1 i h⟩

omit [DecidableEq α] in
theorem Hf.optMS (H : Hf I0 D w0 I w cs) (i : Nat) {v : Value} {o : Option (List (α × β))} {x : List (α × β)} (h : cs[i]? = some (PmC M v o)) (ho : o = some x) : ∃ b, v = .map (some b) ∧ Hf I0 D w0 I w (MpC M b x :: cs.eraseIdx i) := by
 subst ho
 obtain ⟨b, H2⟩ := H.openX i h
 exact ⟨b, H2.pf 0 rfl, H2.drop1 0 rfl⟩

omit [DecidableEq α] in
theorem Hf.optMI (H : Hf I0 D w0 I w cs) (i : Nat) {v : Value} {o : Option (List (α × β))} (h : cs[i]? = some (PmC M v o)) : ∃ p, v = .map p ∧ p.isNone = o.isNone := by
 cases o with
 | none => exact ⟨none, H.pf i h, rfl⟩
 | some x =>
  obtain ⟨b, H2⟩ := H.openX i h
  exact ⟨_, H2.pf 0 rfl, rfl⟩

omit [DecidableEq α] in
theorem Hf.mkMS (H : Hf I0 D w0 I w cs) (i : Nat) {b : Nat} {x : List (α × β)} (h : cs[i]? = some (MpC M b x)) : Hf I0 D w0 I w (PmC M (.map (some b)) (some x) :: cs.eraseIdx i) := by
 have H1 := H.add (f := fun _ => False) (c := PfC (Value.map (some b) = .map (some b))) ⟨fun _ => id, rfl⟩ fun _ => id
 have hp : pickN [(i, false)] cs = some ([MpC M b x], cs.eraseIdx i) := by simp [pickN, h]
 exact Hf.shutX (f := fun (b' : Nat) => [PfC (Value.map (some b) = .map (some b')), MpC M b' x]) b H1 [(0, false), (i, false)] (by simp [pickN, hp, h])

end
theorem run_equalIn_map {P : Program} {t kt et : Nat} (d : Nat) (ht : P.underlying t = some (.map kt et)) (p : Option Nat) (w : World) : (Op.equalIn (d + 1) t (.map p) (.map none)).run P w = .ok p.isNone w := by
 cases p <;> simp [Op.equalIn, run_underlying ht]

theorem Ob_pmap {P : Program} {ev : Operand → Option Value} {o : Oper} {w : World} {x y : Operand} {t t2 kt et : Nat} {v : Value} {q : Bool} {op : BinOp} {c : Bool} (ho : o.op = .binOp op t x y t2) (hx : ev x = some v) (hy : ev y = some (.map none)) (ht : P.underlying t = some (.map kt et)) (hv : ∃ p, v = .map p ∧ p.isNone = q) (hc : (op = .eql ∧ c = q) ∨ (op = .neq ∧ c = !q)) : Ob P ev o (.bool c) w := by
 obtain ⟨p, rfl, rfl⟩ := hv
 intro ρ hρ
 have h1 : (Op.equalIn Op.maxDepth t (.map p) (.map none)).run P w = .ok p.isNone w := run_equalIn_map 9999 ht p w
 unfold execOp
 rcases hc with ⟨rfl, rfl⟩ | ⟨rfl, rfl⟩
 ·simp [ho, hρ _ _ hx, hρ _ _ hy, eqGuard, binOp, Op.equal, h1, Result.andThen]
 ·simp [ho, hρ _ _ hx, hρ _ _ hy, eqGuard, binOp, Op.equal, h1, Result.andThen]

section flow
variable {ds : List Deferred} {P : Program} {ops : Array Oper} {Q : Exit → Act → World → Prop} {a : Act} {w : World} {rest : List Oper} {o : Oper} {n : Nat} {S : Slots} {G : List GV}
variable {I0 D : Dm} {w0 : World} {I : Dm} {cs : List Ch} {α β : Type} [DecidableEq α]
theorem h_mdel (hok : PsD ds ops n S G a) (H : Hf I0 D w0 I w cs) (i : Nat) {M : MapE α β} {t kt b : Nat} {l : List (α × β)} {m x : Operand} (k : α) (F : MapK P t kt M)
  (hi : cs[i]? = some (MpC M b l)) (hg : o.guard = none) (ho : o.op = .call { callee := .builtin .delete, args := #[m, x], argTypes := #[t, kt] }) (hd : o.dst = none) (hm : evS S m = some (.map (some b))) (hx : evS S x = some (M.ke k)) (hko : M.ok k)
  (h : ∀ w', Hf I0 D w0 I w' (MpC M b (mdel l k) :: cs.eraseIdx i) → wpList P ops Q rest a w') : wpList P ops Q (o :: rest) a w := by
 obtain ⟨et, K, hk, ht⟩ := F.ex
 obtain ⟨f, hc, _⟩ := H.get i hi
 obtain ⟨w', hr, htn, hc'⟩ := run_mdel (ty := o.type) K hk ht hc k hko
 refine wpList_run hg (v := .tuple #[]) (w' := w') ?_ ?_
 ·unfold execOp
  simp [ho, hok.sl.ev hm, hok.sl.ev hx, hr, resolve, invoke, builtin, Result.andThen]
 ·rw [hd]
  refine h w' ?_
  exact H.turn i hi fun f hf hq => ⟨⟨htn.os, htn.tape, htn.output, Nat.le_of_eq htn.size.symm, fun k _ hk => htn.block k fun e => hk ((hf.1 k).2 e)⟩, f, by
   obtain ⟨w2, hr2, _, hc2⟩ := run_mdel (ty := o.type) K hk ht hf k hko
   have e : w' = w2 := by injection hr.symm.trans hr2
   rw [e]; exact hc2 I, fun k hk2 => ⟨.inl hk2, by have := (hq k hk2).1; rw [htn.size]; exact this⟩⟩

end flow
-- parts of owned slices
theorem slRep2.any {α : Type} {R : Rp α} {A0 A : Dm} {w : World} {v : Value} {l : List α} (h : slRep2 R A0 A w v l) : slRep R (fun _ => True) w v l := by
 obtain ⟨ao, b, off, cap, hv, hc, hm, hb, hx⟩ := h
 refine ⟨ao, b, off, cap, hv, hc, hm, fun h0 => ⟨(hb h0).1, trivial, (hb h0).2.2⟩, fun i hi => ?_⟩
 obtain ⟨cs, h1, h2⟩ := hx i hi
 exact ⟨cs, R.mono h1 (fun _ _ => trivial) (Keep.refl _ _), h2⟩

theorem slRep2.elG {α : Type} [Inhabited α] {R : Rp α} {A0 A : Dm} {w : World} {v : Value} {l : List α} (h : slRep2 R A0 A w v l) (z : Int) (hd : ∃ cl, R.rep A w cl default) : ∃ cl, R.rep A w cl (l.getD z.toNat default) ∧ (0 ≤ z ∧ z < (l.length : Int) → At w (blkOf v) (oofOf v + z.toNat * R.n) cl) := by
 by_cases h0 : z.toNat < l.length
 ·obtain ⟨ao, b, off, cap, rfl, hc, hm, hb, hx⟩ := h
  obtain ⟨cs, h1, h2⟩ := hx z.toNat h0
  obtain ⟨rfl, _, _⟩ := hb (by omega)
  refine ⟨cs, by rw [getD_get _ _ _ h0]; exact h1, fun _ j u hj => ?_⟩
  obtain ⟨hjl, rfl⟩ := List.getElem?_eq_some_iff.1 hj
  exact h2 j hjl
 ·obtain ⟨cl, h1⟩ := hd
  refine ⟨cl, ?_, fun h => absurd h (by omega)⟩
  rw [List.getD_eq_getElem?_getD, List.getElem?_eq_none (by omega)]; exact h1

end Go.Proofs.YtglfajjcgbfehaaGreat

namespace Go.Proofs.YtglfajjcgbfehaaGreat
open Go.RowKit

section
variable {α β : Type} {I0 D : Dm} {w0 : World} {I : Dm} {w : World} {cs : List Ch} {M : MapE α β}
/-- a map's block, its entries told -/
theorem Hf.mopen (H : Hf I0 D w0 I w cs) (i : Nat) {b : Nat} {l : List (α × β)} (h : cs[i]? = some (MpC M b l)) : ∃ es clock, Hf I0 D w0 I w (ObC b (.map es clock) :: cs.eraseIdx i) ∧ (l.map Prod.fst).Nodup ∧ (∀ p ∈ l, M.ok p.1) ∧ es.toList.map (fun e => (e.key, e.val)) = l.map (fun p => (M.ke p.1, M.ve p.2)) ∧ bornOk es clock := by
 obtain ⟨f, ⟨h1, h2, h3, h4, es, clock, h5, h6, h7⟩, _⟩ := H.get i h
 refine ⟨es, clock, H.turn i h fun f hf hq => ⟨Frm.refl _ _, f, ⟨hf.1, h5⟩, fun k hk => ⟨.inl hk, (hq k hk).1⟩⟩, h3, h4, h6, h7⟩

theorem Hf.mshut (H : Hf I0 D w0 I w cs) (i : Nat) {b clock : Nat} {es : Array MapEntry} {l : List (α × β)} (h : cs[i]? = some (ObC b (.map es clock))) (h3 : (l.map Prod.fst).Nodup) (h4 : ∀ p ∈ l, M.ok p.1) (h6 : es.toList.map (fun e => (e.key, e.val)) = l.map (fun p => (M.ke p.1, M.ve p.2))) (h7 : bornOk es clock) : Hf I0 D w0 I w (MpC M b l :: cs.eraseIdx i) :=
 H.turn i h fun f hf hq => ⟨Frm.refl _ _, f, ⟨hf.1, (hq b ((hf.1 b).2 rfl)).1, h3, h4, es, clock, hf.2, h6, h7⟩, fun k hk => ⟨.inl hk, (hq k hk).1⟩⟩

end
section flow
variable {ds : List Deferred} {P : Program} {ops : Array Oper} {Q : Exit → Act → World → Prop} {a : Act} {w : World} {rest : List Oper} {o : Oper} {n : Nat} {S : Slots} {G : List GV}
variable {I0 D : Dm} {w0 : World} {I : Dm} {cs : List Ch}
theorem h_range (hok : PsD ds ops n S G a) (H : Hf I0 D w0 I w cs) (i : Nat) {b clock d t kt et : Nat} {es : Array MapEntry} {x : Operand} (hi : cs[i]? = some (ObC b (.map es clock))) (hg : o.guard = none) (ho : o.op = .range t x) (ht : P.underlying t = some (.map kt et)) (hx : evS S x = some (.map (some b))) (hd : o.dst = some d) (hdn : d < n) (hf : gFree ops G d = true)
  (h : ∀ a' w' r, Hf I0 D w0 I w' (ObC r (.mapIter (some b) clock #[] clock) :: cs) → PsD ds ops n ((d, .pointer (some ⟨r, 0, none⟩)) :: S) G a' → wpList P ops Q rest a' w') : wpList P ops Q (o :: rest) a w := by
 obtain ⟨f, hc, _⟩ := H.get i hi
 refine wpList_run hg (v := .pointer (some ⟨w.heap.size, 0, none⟩)) (w' := w.alloc (.mapIter (some b) clock #[] clock)) ?_ ?_
 ·unfold execOp
  simp [ho, hok.sl.ev hx, run_range_map w t kt et b es clock ht hc.2]
 ·rw [hd]
  exact h _ _ _ (H.new ((Below.refl _ w).alloc (Nat.le_refl _) _) (f := (· = w.heap.size)) (c := ObC w.heap.size (.mapIter (some b) clock #[] clock)) ⟨fun _ => Iff.rfl, heap_alloc_new w _⟩ fun k hk => by subst hk; simp) (hok.put hdn hf _)

theorem h_next (hok : PsD ds ops n S G a) (H : Hf I0 D w0 I w cs) (i j : Nat) {b r clock since c0 d : Nat} {seen : Array Nat} {es : Array MapEntry} {x : Operand} (hi : cs[i]? = some (ObC r (.mapIter (some b) since seen c0))) (hj : cs[j]? = some (ObC b (.map es clock))) (hold : ∀ x ∈ es.toList, x.born < since) (hsc : since ≤ c0)
  (hg : o.guard = none) (ho : o.op = .next x false) (hx : evS S x = some (.pointer (some ⟨r, 0, none⟩))) (hd : o.dst = some d) (hdn : d < n) (hf : gFree ops G d = true)
  (h1 : (leftOf es seen).size = 0 → ∀ a', PsD ds ops n ((d, .tuple #[.bool false]) :: S) G a' → wpList P ops Q rest a' w)
  (h2 : ∀ e ∈ (leftOf es seen).toList, ∀ a' w', Hf I0 D w0 I w' (ObC r (.mapIter (some b) since (seen.push e.born) clock) :: cs.eraseIdx i) → PsD ds ops n ((d, .tuple #[.bool true, e.key, e.val]) :: S) G a' → wpList P ops Q rest a' w') : wpList P ops Q (o :: rest) a w := by
 obtain ⟨f1, hc1, _⟩ := H.get i hi
 obtain ⟨f2, hc2, _⟩ := H.get j hj
 rcases run_next_at (P := P) w o.type r b since c0 seen es clock hc1.2 hc2.2 hold hsc with ⟨q1, q2⟩ | ⟨e, q1, w1, q2, q3⟩
 ·refine wpList_run hg (v := .tuple #[.bool false]) (w' := w) ?_ ?_
  ·unfold execOp
   simp [ho, hok.sl.ev hx, q2]
  ·rw [hd]
   exact h1 q1 _ (hok.put hdn hf _)
 ·refine wpList_run hg (v := .tuple #[.bool true, e.key, e.val]) (w' := ChangeMaps.setBlock w1 r (.mapIter (some b) since (seen.push e.born) clock)) ?_ ?_
  ·unfold execOp
   simp [ho, hok.sl.ev hx, q3]
  ·rw [hd]
   have ht := setBlock_turn w1 r (.mapIter (some b) since (seen.push e.born) clock)
   have hw : w1.os = w.os ∧ w1.tape = w.tape ∧ w1.output = w.output ∧ w1.heap = w.heap := by rcases q2 with rfl | rfl <;> exact ⟨rfl, rfl, rfl, rfl⟩
   have hlt : r < w1.heap.size := by rw [hw.2.2.2]; exact (Array.getElem?_eq_some_iff.1 hc1.2).1
   refine h2 e q1 _ _ (H.turn i hi fun f hf hq => ⟨⟨ht.os.trans hw.1, ht.tape.trans hw.2.1, ht.output.trans hw.2.2.1, Nat.le_of_eq (by rw [ht.size, hw.2.2.2]), fun k _ hk => by rw [ht.block k fun e => hk ((hf.1 k).2 e), hw.2.2.2]⟩, f, ⟨hf.1, setBlock_at _ hlt⟩, fun k hk => ⟨.inl hk, by rw [ht.size, hw.2.2.2]; exact (hq k hk).1⟩⟩) (hok.put hdn hf _)

theorem Ob_entry {ev : Operand → Option Value} (H : Hf I0 D w0 I w cs) (i j : Nat) {b r clock since : Nat} {seen : Array Nat} {es : Array MapEntry} {e : MapEntry} {x : Operand} (hi : cs[i]? = some (ObC r (.mapIter (some b) since (seen.push e.born) clock))) (hj : cs[j]? = some (ObC b (.map es clock))) (he : e ∈ es.toList) (hB : bornOk es clock)
  (ho : o.op = .entry x) (hx : ev x = some (.pointer (some ⟨r, 0, none⟩))) : Ob P ev o (.tuple #[e.key, e.val]) w := by
 obtain ⟨f1, hc1, _⟩ := H.get i hi
 obtain ⟨f2, hc2, _⟩ := H.get j hj
 intro ρ hρ
 unfold execOp
 simp [ho, hρ _ _ hx, run_entry_at w r b since seen es clock e hc1.2 hc2.2 he hB.1]

theorem Ob_entryK {ev : Operand → Option Value} (H : Hf I0 D w0 I w cs) (i j : Nat) {b r clock since : Nat} {seen : Array Nat} {es : Array MapEntry} {e : MapEntry} {x : Operand} {kv : Value} (hi : cs[i]? = some (ObC r (.mapIter (some b) since (seen.push e.born) clock))) (hj : cs[j]? = some (ObC b (.map es clock))) (he : e ∈ es.toList) (hB : bornOk es clock) (ek : e.key = kv)
  (ho : o.op = .entry x) (hx : ev x = some (.pointer (some ⟨r, 0, none⟩))) : Ob P ev o (.tuple #[kv, e.val]) w := by
 rw [← ek]; exact Ob_entry H i j hi hj he hB ho hx

end flow
-- what is left
section
variable {α β : Type} {M : MapE α β}
/-- the entries that were not handed out -/
def restL (es : Array MapEntry) (seen : Array Nat) (l : List (α × β)) : List (α × β) := ((es.toList.zip l).filter (fun q => !seen.contains q.1.born)).map (·.2)

theorem restL_start (es : Array MapEntry) (l : List (α × β)) (h : es.toList.length = l.length) : restL es #[] l = l := by
 unfold restL
 rw [List.filter_eq_self.2 (fun _ _ => by simp), List.map_snd_zip (by omega)]

theorem restL_end {es : Array MapEntry} {seen : Array Nat} (l : List (α × β)) (h : (leftOf es seen).size = 0) : restL es seen l = [] := by
 have h1 : ∀ e ∈ es.toList, seen.contains e.born = true := fun e he => by
  have h2 : leftOf es seen = #[] := Array.eq_empty_of_size_eq_zero h
  unfold leftOf at h2
  rw [Array.filter_eq_empty_iff] at h2
  have := h2 e (Array.mem_toList_iff.1 he)
  simpa using this
 unfold restL
 rw [List.filter_eq_nil_iff.2 fun q hq => by rw [h1 q.1 (List.of_mem_zip hq).1]; decide]; rfl

theorem rest_next : ∀ {el : List MapEntry} {l : List (α × β)} {seen : Array Nat} {e : MapEntry}, el.map (fun e => (e.key, e.val)) = l.map (fun p => (M.ke p.1, M.ve p.2)) → (el.map (·.born)).Nodup → e ∈ el → seen.contains e.born = false →
  ∃ p ∈ l, e.key = M.ke p.1 ∧ e.val = M.ve p.2 ∧ (((el.zip l).filter (fun q => !seen.contains q.1.born)).map (·.2)).Perm (p :: ((el.zip l).filter (fun q => !(seen.push e.born).contains q.1.born)).map (·.2))
 | [], _, _, _, _, _, h, _ => by cases h
 | x :: el, [], _, _, h, _, _, _ => by simp at h
 | x :: el, p :: l, seen, e, h, hn, he, hs => by
  rw [List.map_cons, List.map_cons, List.cons.injEq, Prod.mk.injEq] at h
  rw [List.map_cons, List.nodup_cons] at hn
  rw [List.zip_cons_cons, List.filter_cons, List.filter_cons]
  rcases List.mem_cons.1 he with rfl | he
  ·refine ⟨p, List.mem_cons_self .., h.1.1, h.1.2, ?_⟩
   have same : ((el.zip l).filter (fun q => !(seen.push e.born).contains q.1.born)) = ((el.zip l).filter (fun q => !seen.contains q.1.born)) := by
    refine List.filter_congr fun q hq => ?_
    have : q.1.born ≠ e.born := fun z => hn.1 (by rw [← z]; exact List.mem_map.2 ⟨q.1, (List.of_mem_zip hq).1, rfl⟩)
    rw [contains_push, beq_eq_false_iff_ne.2 this, Bool.or_false]
   rw [if_pos (by rw [hs]; rfl), if_neg (by rw [contains_push, beq_self_eq_true, Bool.or_true]; decide), same]
   exact List.Perm.refl _
  ·obtain ⟨p2, h1, h2, h3, h4⟩ := rest_next h.2 hn.2 he hs
   refine ⟨p2, List.mem_cons_of_mem _ h1, h2, h3, ?_⟩
   have hne : x.born ≠ e.born := fun z => hn.1 (by rw [z]; exact List.mem_map.2 ⟨e, he, rfl⟩)
   have hc : (seen.push e.born).contains x.born = seen.contains x.born := by rw [contains_push, beq_eq_false_iff_ne.2 hne, Bool.or_false]
   rw [hc]
   by_cases c : seen.contains x.born = true
   ·rw [c, if_neg (by decide), if_neg (by decide)]; exact h4
   ·rw [show seen.contains x.born = false from by simpa using c, show (!false) = true from rfl, if_pos rfl, if_pos rfl, List.map_cons, List.map_cons]
    exact (h4.cons p).trans (List.Perm.swap p2 p _)

end
end Go.Proofs.YtglfajjcgbfehaaGreat

namespace Go.Proofs.YtglfajjcgbfehaaGreat
open Go.RowKit

section rv
variable {P : Program} (T : Tab P) {ops : Array Oper} {Q : Exit → Act → World → Prop} {a : Act} {w : World} {rest : List Oper} {o : Oper} {n : Nat} {S : Slots} {G : List GV} {ds : List Deferred}
variable {I0 D : Dm} {w0 : World} {I : Dm} {cs : List Ch}
end rv
end Go.Proofs.YtglfajjcgbfehaaGreat

