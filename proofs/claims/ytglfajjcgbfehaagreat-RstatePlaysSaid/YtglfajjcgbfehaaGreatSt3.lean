/- Steps of a walk by rules: regions all of whose operations come to one value each in every later world (reads, calls that answer plain values): one walk in the order of the text serves every order. No program is named here. -/
import Derived.Test.YtglfajjcgbfehaaGreatSt2
import Derived.Deep.Quiet
namespace Go.Proofs.YtglfajjcgbfehaaGreat
open Go.RowKit
variable {ds : List Deferred}

section quiet
variable {P : Program} (T : Tab P) {ops : Array Oper} {C : World → Prop} {Q : Act → Prop} {a : Act} {rest : List Oper} {o : Oper} {n : Nat} {S : Slots} {G : List GV}

/-- later worlds -/
def Lt (w w' : World) : Prop := Below w.heap.size w w'

theorem wpQuiet_ob {ev : Operand → Option Value} {v : Value} (hev : ∀ x u, ev x = some u → a.eval x = u) (hob : ∀ w, C w → Ob P ev o v w) (hw : Region.wanted o (yielded ops a.tmps) = true) (h : wpQuiet P ops C Q rest (a.put o.dst v)) : wpQuiet P ops C Q (o :: rest) a := by
 unfold wpQuiet
 rw [if_pos hw]
 refine ⟨v, fun w hc => ?_, h⟩
 unfold Oper.quietAt
 rw [hob w hc a.eval hev]
 exact ⟨rfl, rfl⟩

theorem q_ob (hok : PsD ds ops n S G a) {d : Nat} {v : Value} (hg : o.guard = none) (hd : o.dst = some d) (hdn : d < n) (hf : gFree ops G d = true) (hob : ∀ w, C w → Ob P (evS S) o v w)
  (h : ∀ a', PsD ds ops n ((d, v) :: S) G a' → wpQuiet P ops C Q rest a') : wpQuiet P ops C Q (o :: rest) a :=
 wpQuiet_ob (fun x u hx => hok.sl.ev hx) hob (wanted_none hg _) (by rw [hd]; exact h _ (hok.put hdn hf v))

theorem q_run {S' : Slots} : ∀ (l : List Oper) (S : Slots) (a : Act), PsD ds ops n S G a → dstsOk ops n G l = true → cvals T l S = some S' → (∀ a', PsD ds ops n S' G a' → wpQuiet P ops C Q rest a') → wpQuiet P ops C Q (l ++ rest) a
 | [], S, a, hok, _, hv, h => by
  simp only [cvals, Option.some.injEq] at hv
  subst hv
  exact h a hok
 | o :: r, S, a, hok, hl, hv, h => by
  unfold dstsOk at hl
  simp only [List.all_cons, Bool.and_eq_true] at hl
  unfold cvals at hv
  split at hv
  ·rename_i d v hg hd hc
   rw [hd] at hl
   simp only [Bool.and_eq_true, decide_eq_true_eq] at hl
   exact q_ob hok hg hd hl.1.1 hl.1.2 (fun w _ => cval_ob T _ _ _ hc w) fun a' ha' => q_run r _ a' ha' hl.2 hv h
  ·cases hv

theorem q_runk (hok : PsD ds ops n S G a) (k : Nat) {l : List Oper} {S' : Slots} (hl : dstsOk ops n G (l.take k) = true) (hv : cvals T (l.take k) S = some S') (h : ∀ a', PsD ds ops n S' G a' → wpQuiet P ops C Q (l.drop k) a') : wpQuiet P ops C Q l a := by
 have := q_run (rest := l.drop k) T (l.take k) S a hok hl hv h
 rwa [List.take_append_drop] at this

/-- a call that answers one plain value -/
theorem wpQuiet_call {w0 : World} {f : Nat} {c : Call} {fv : Operand} {caps : Array Value} {vs : List Value} {v : Value} {ev : Operand → Option Value} (hev : ∀ x u, ev x = some u → a.eval x = u) (hf : IsFn P f) (ho : o.op = .call c) (hcv : c.callee = .value fv) (hfv : ev fv = some (.func (.func f) #[] caps))
  (hx : c.args.toList.mapM ev = some vs) (hc : ∀ w, Lt w0 w → Calls P f (vs.toArray ++ caps) w (Ret fun r w' => r = v ∧ Below w.heap.size w w')) (hw : Region.wanted o (yielded ops a.tmps) = true)
  (h : wpQuiet P ops (Lt w0) Q rest (a.put o.dst v)) : wpQuiet P ops (Lt w0) Q (o :: rest) a := by
 unfold wpQuiet
 rw [if_pos hw]
 refine ⟨v, fun w hlt => ?_, h⟩
 unfold Oper.quietAt
 have e1 : c.args.map a.eval = vs.toArray := by
  apply Array.toList_inj.1
  rw [Array.toList_map, evs_map hev _ _ hx]
 rw [run_callv hf ho hcv (hev _ _ hfv) e1]
 refine ⟨rfl, (hc w hlt).mono fun e w' he => ?_⟩
 cases e with
 | returned r => exact ⟨by rw [he.1], Below.trans hlt (he.2.mono hlt.size)⟩
 | panicked c => exact he.elim
 | outgrown => exact he.elim

theorem q_call {w0 : World} (hok : PsD ds ops n S G a) {d f : Nat} {c : Call} {fv : Operand} {caps : Array Value} {vs : List Value} {v : Value} (hf : IsFn P f) (hg : o.guard = none) (ho : o.op = .call c) (hcv : c.callee = .value fv) (hfv : evS S fv = some (.func (.func f) #[] caps)) (hd : o.dst = some d) (hdn : d < n) (hgf : gFree ops G d = true)
  (hx : c.args.toList.mapM (evS S) = some vs) (hc : ∀ w, Lt w0 w → Calls P f (vs.toArray ++ caps) w (Ret fun r w' => r = v ∧ Below w.heap.size w w'))
  (h : ∀ a', PsD ds ops n ((d, v) :: S) G a' → wpQuiet P ops (Lt w0) Q rest a') : wpQuiet P ops (Lt w0) Q (o :: rest) a :=
 wpQuiet_call (fun x u hx => hok.sl.ev hx) hf ho hcv hfv hx hc (wanted_none hg _) (by rw [hd]; exact h _ (hok.put hdn hgf v))

theorem q_end {w0 : World} {Q : Exit → Act → World → Prop} (hok : PsD ds ops n S G a) (ts : List Nat) {S' : Slots} (e : pickS S ts = some S') (h : ∀ w', Below w0.heap.size w0 w' → SlD ds n S' a → Q .normal a w') : wpQuiet P ops (Lt w0) (fun a' => ∀ w', Lt w0 w' → Q .normal a' w') [] a :=
 fun w' hw => h w' hw (hok.sl.sub e)

end quiet

section
variable {P : Program} {Q : Exit → Act → World → Prop} {a : Act} {w : World} {n : Nat} {S : Slots}
theorem f_quietd {id : Nat} {l : List Oper} (hm : P.follows .mixedOrders = true) (hB : Region.lexB .any l.toArray = true) (hok : SlD ds n S a) (h : PsD ds l.toArray n S [] a → wpQuiet P l.toArray (Lt w) (fun a' => ∀ w', Lt w w' → Q .normal a' w') l a) : (Code.region id l.toArray true).wp P Q a w :=
 Go.wp_region_quiet hm hB ((Below.refl _ w).drew) (h (PsD.start hok))

end

section
variable {P : Program} {ops : Array Oper} {Q : Exit → Act → World → Prop} {a : Act} {w : World} {rest : List Oper} {o : Oper} {n : Nat} {S : Slots} {G : List GV}
end
end Go.Proofs.YtglfajjcgbfehaaGreat
