/- A range over a map: its iterator as a chunk. No program is named here. -/
import Derived.Test.YtmmdghdindoclaaYMD
import Derived.Test.YtmmdghdindoclaaYR
import Derived.Maps.RangeRun
namespace Go.Proofs.Ytmmdghdindoclaa
open Go.RowKit

section
variable {α β : Type} {I0 D : Dm} {w0 : World} {I : Dm} {w : World} {cs : List Ch} {M : MapE α β}
/-- a map's block, its entries told -/
theorem Hf.mopen (H : Hf I0 D w0 I w cs) (i : Nat) {b : Nat} {l : List (α × β)} (h : cs[i]? = some (MpC M b l)) : ∃ es clock, Hf I0 D w0 I w (ObC b (.map es clock) :: cs.eraseIdx i) ∧ (l.map Prod.fst).Nodup ∧ (∀ p ∈ l, M.ok p.1) ∧ es.toList.map (fun e => (e.key, e.val)) = l.map (fun p => (M.ke p.1, M.ve p.2)) ∧ bornOk es clock := by
 obtain ⟨f, ⟨h1, h2, h3, h4, es, clock, h5, h6, h7⟩, _⟩ := H.get i h
 refine ⟨es, clock, H.turn i h fun f hf hq => ⟨Frm.refl _ _, f, ⟨hf.1, h5⟩, fun k hk => ⟨.inl hk, (hq k hk).1⟩⟩, h3, h4, h6, h7⟩

theorem Hf.mshut (H : Hf I0 D w0 I w cs) (i : Nat) {b clock : Nat} {es : Array MapEntry} {l : List (α × β)} (h : cs[i]? = some (ObC b (.map es clock))) (h3 : (l.map Prod.fst).Nodup) (h4 : ∀ p ∈ l, M.ok p.1) (h6 : es.toList.map (fun e => (e.key, e.val)) = l.map (fun p => (M.ke p.1, M.ve p.2))) (h7 : bornOk es clock) : Hf I0 D w0 I w (MpC M b l :: cs.eraseIdx i) :=
 H.turn i h fun f hf hq => ⟨Frm.refl _ _, f, ⟨hf.1, (hq b ((hf.1 b).2 rfl)).1, h3, h4, es, clock, hf.2, h6, h7⟩, fun k hk => ⟨.inl hk, (hq k hk).1⟩⟩

end
section flow
variable {ds : List Deferred} {P : Program} {ops : Array Oper} {Q : Exit → Act → World → Prop} {a : Act} {w : World} {rest : List Oper} {o : Oper} {n : Nat} {S : Slots} {G : List GV}
variable {I0 D : Dm} {w0 : World} {I : Dm} {cs : List Ch}
theorem h_range (hok : PsD ds ops n S G a) (H : Hf I0 D w0 I w cs) (i : Nat) {b clock d t kt et : Nat} {es : Array MapEntry} {x : Operand} (hi : cs[i]? = some (ObC b (.map es clock))) (hg : o.guard = none) (ho : o.op = .range t x) (ht : P.underlying t = some (.map kt et)) (hx : evS S x = some (.map (some b))) (hd : o.dst = some d) (hdn : d < n) (hf : gFree ops G d = true)
  (h : ∀ a' w' r, Hf I0 D w0 I w' (ObC r (.mapIter (some b) clock #[] clock) :: cs) → PsD ds ops n ((d, .pointer (some ⟨r, 0, none⟩)) :: S) G a' → wpList P ops Q rest a' w') : wpList P ops Q (o :: rest) a w := by
 obtain ⟨f, hc, _⟩ := H.get i hi
 refine wpList_run hg (v := .pointer (some ⟨w.heap.size, 0, none⟩)) (w' := w.alloc (.mapIter (some b) clock #[] clock)) ?_ ?_
 ·unfold execOp
  simp [ho, hok.sl.ev hx, run_range_map w t kt et b es clock ht hc.2]
 ·rw [hd]
  exact h _ _ _ (H.new ((Below.refl _ w).alloc (Nat.le_refl _) _) (f := (· = w.heap.size)) (c := ObC w.heap.size (.mapIter (some b) clock #[] clock)) ⟨fun _ => Iff.rfl, heap_alloc_new w _⟩ fun k hk => by subst hk; simp) (hok.put hdn hf _)

theorem h_next (hok : PsD ds ops n S G a) (H : Hf I0 D w0 I w cs) (i j : Nat) {b r clock since c0 d : Nat} {seen : Array Nat} {es : Array MapEntry} {x : Operand} (hi : cs[i]? = some (ObC r (.mapIter (some b) since seen c0))) (hj : cs[j]? = some (ObC b (.map es clock))) (hold : ∀ x ∈ es.toList, x.born < since) (hsc : since ≤ c0)
  (hg : o.guard = none) (ho : o.op = .next x false) (hx : evS S x = some (.pointer (some ⟨r, 0, none⟩))) (hd : o.dst = some d) (hdn : d < n) (hf : gFree ops G d = true)
  (h1 : (leftOf es seen).size = 0 → ∀ a', PsD ds ops n ((d, .tuple #[.bool false]) :: S) G a' → wpList P ops Q rest a' w)
  (h2 : ∀ e ∈ (leftOf es seen).toList, ∀ a' w', Hf I0 D w0 I w' (ObC r (.mapIter (some b) since (seen.push e.born) clock) :: cs.eraseIdx i) → PsD ds ops n ((d, .tuple #[.bool true, e.key, e.val]) :: S) G a' → wpList P ops Q rest a' w') : wpList P ops Q (o :: rest) a w := by
 obtain ⟨f1, hc1, _⟩ := H.get i hi
 obtain ⟨f2, hc2, _⟩ := H.get j hj
 rcases run_next_at (P := P) w o.type r b since c0 seen es clock hc1.2 hc2.2 hold hsc with ⟨q1, q2⟩ | ⟨e, q1, w1, q2, q3⟩
 ·refine wpList_run hg (v := .tuple #[.bool false]) (w' := w) ?_ ?_
  ·unfold execOp
   simp [ho, hok.sl.ev hx, q2]
  ·rw [hd]
   exact h1 q1 _ (hok.put hdn hf _)
 ·refine wpList_run hg (v := .tuple #[.bool true, e.key, e.val]) (w' := ChangeMaps.setBlock w1 r (.mapIter (some b) since (seen.push e.born) clock)) ?_ ?_
  ·unfold execOp
   simp [ho, hok.sl.ev hx, q3]
  ·rw [hd]
   have ht := setBlock_turn w1 r (.mapIter (some b) since (seen.push e.born) clock)
   have hw : w1.os = w.os ∧ w1.tape = w.tape ∧ w1.output = w.output ∧ w1.heap = w.heap := by rcases q2 with rfl | rfl <;> exact ⟨rfl, rfl, rfl, rfl⟩
   have hlt : r < w1.heap.size := by rw [hw.2.2.2]; exact (Array.getElem?_eq_some_iff.1 hc1.2).1
   refine h2 e q1 _ _ (H.turn i hi fun f hf hq => ⟨⟨ht.os.trans hw.1, ht.tape.trans hw.2.1, ht.output.trans hw.2.2.1, Nat.le_of_eq (by rw [ht.size, hw.2.2.2]), fun k _ hk => by rw [ht.block k fun e => hk ((hf.1 k).2 e), hw.2.2.2]⟩, f, ⟨hf.1, setBlock_at _ hlt⟩, fun k hk => ⟨.inl hk, by rw [ht.size, hw.2.2.2]; exact (hq k hk).1⟩⟩) (hok.put hdn hf _)

theorem Ob_entry {ev : Operand → Option Value} (H : Hf I0 D w0 I w cs) (i j : Nat) {b r clock since : Nat} {seen : Array Nat} {es : Array MapEntry} {e : MapEntry} {x : Operand} (hi : cs[i]? = some (ObC r (.mapIter (some b) since (seen.push e.born) clock))) (hj : cs[j]? = some (ObC b (.map es clock))) (he : e ∈ es.toList) (hB : bornOk es clock)
  (ho : o.op = .entry x) (hx : ev x = some (.pointer (some ⟨r, 0, none⟩))) : Ob P ev o (.tuple #[e.key, e.val]) w := by
 obtain ⟨f1, hc1, _⟩ := H.get i hi
 obtain ⟨f2, hc2, _⟩ := H.get j hj
 intro ρ hρ
 unfold execOp
 simp [ho, hρ _ _ hx, run_entry_at w r b since seen es clock e hc1.2 hc2.2 he hB.1]

theorem Ob_entryK {ev : Operand → Option Value} (H : Hf I0 D w0 I w cs) (i j : Nat) {b r clock since : Nat} {seen : Array Nat} {es : Array MapEntry} {e : MapEntry} {x : Operand} {kv : Value} (hi : cs[i]? = some (ObC r (.mapIter (some b) since (seen.push e.born) clock))) (hj : cs[j]? = some (ObC b (.map es clock))) (he : e ∈ es.toList) (hB : bornOk es clock) (ek : e.key = kv)
  (ho : o.op = .entry x) (hx : ev x = some (.pointer (some ⟨r, 0, none⟩))) : Ob P ev o (.tuple #[kv, e.val]) w := by
 rw [← ek]; exact Ob_entry H i j hi hj he hB ho hx

end flow
-- what is left
section
variable {α β : Type} {M : MapE α β}
/-- the entries that were not handed out -/
def restL (es : Array MapEntry) (seen : Array Nat) (l : List (α × β)) : List (α × β) := ((es.toList.zip l).filter (fun q => !seen.contains q.1.born)).map (·.2)

theorem restL_start (es : Array MapEntry) (l : List (α × β)) (h : es.toList.length = l.length) : restL es #[] l = l := by
 unfold restL
 rw [List.filter_eq_self.2 (fun _ _ => by simp), List.map_snd_zip (by omega)]

theorem restL_end {es : Array MapEntry} {seen : Array Nat} (l : List (α × β)) (h : (leftOf es seen).size = 0) : restL es seen l = [] := by
 have h1 : ∀ e ∈ es.toList, seen.contains e.born = true := fun e he => by
  have h2 : leftOf es seen = #[] := Array.eq_empty_of_size_eq_zero h
  unfold leftOf at h2
  rw [Array.filter_eq_empty_iff] at h2
  have := h2 e (Array.mem_toList_iff.1 he)
  simpa using this
 unfold restL
 rw [List.filter_eq_nil_iff.2 fun q hq => by rw [h1 q.1 (List.of_mem_zip hq).1]; decide]; rfl

theorem rest_next : ∀ {el : List MapEntry} {l : List (α × β)} {seen : Array Nat} {e : MapEntry}, el.map (fun e => (e.key, e.val)) = l.map (fun p => (M.ke p.1, M.ve p.2)) → (el.map (·.born)).Nodup → e ∈ el → seen.contains e.born = false →
  ∃ p ∈ l, e.key = M.ke p.1 ∧ e.val = M.ve p.2 ∧ (((el.zip l).filter (fun q => !seen.contains q.1.born)).map (·.2)).Perm (p :: ((el.zip l).filter (fun q => !(seen.push e.born).contains q.1.born)).map (·.2))
 | [], _, _, _, _, _, h, _ => by cases h
 | x :: el, [], _, _, h, _, _, _ => by simp at h
 | x :: el, p :: l, seen, e, h, hn, he, hs => by
  rw [List.map_cons, List.map_cons, List.cons.injEq, Prod.mk.injEq] at h
  rw [List.map_cons, List.nodup_cons] at hn
  rw [List.zip_cons_cons, List.filter_cons, List.filter_cons]
  rcases List.mem_cons.1 he with rfl | he
  ·refine ⟨p, List.mem_cons_self .., h.1.1, h.1.2, ?_⟩
   have same : ((el.zip l).filter (fun q => !(seen.push e.born).contains q.1.born)) = ((el.zip l).filter (fun q => !seen.contains q.1.born)) := by
    refine List.filter_congr fun q hq => ?_
    have : q.1.born ≠ e.born := fun z => hn.1 (by rw [← z]; exact List.mem_map.2 ⟨q.1, (List.of_mem_zip hq).1, rfl⟩)
    rw [contains_push, beq_eq_false_iff_ne.2 this, Bool.or_false]
   rw [if_pos (by rw [hs]; rfl), if_neg (by rw [contains_push, beq_self_eq_true, Bool.or_true]; decide), same]
   exact List.Perm.refl _
  ·obtain ⟨p2, h1, h2, h3, h4⟩ := rest_next h.2 hn.2 he hs
   refine ⟨p2, List.mem_cons_of_mem _ h1, h2, h3, ?_⟩
   have hne : x.born ≠ e.born := fun z => hn.1 (by rw [z]; exact List.mem_map.2 ⟨e, he, rfl⟩)
   have hc : (seen.push e.born).contains x.born = seen.contains x.born := by rw [contains_push, beq_eq_false_iff_ne.2 hne, Bool.or_false]
   rw [hc]
   by_cases c : seen.contains x.born = true
   ·rw [c, if_neg (by decide), if_neg (by decide)]; exact h4
   ·rw [show seen.contains x.born = false from by simpa using c, show (!false) = true from rfl, if_pos rfl, if_pos rfl, List.map_cons, List.map_cons]
    exact (h4.cons p).trans (List.Perm.swap p2 p _)

end
end Go.Proofs.Ytmmdghdindoclaa
