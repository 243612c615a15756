/- Steps of a walk by rules: regions all of whose operations come to one value each in every later world (reads, calls that answer plain values): one walk in the order of the text serves every order. No program is named here. -/
import Derived.Test.YtmdoimpeacndaaaSt2
import Derived.Deep.Quiet
namespace Go.Proofs.Ytmdoimpeacndaaa
open Go.RowKit

section quiet
variable {P : Program} (T : Tab P) {ops : Array Oper} {C : World → Prop} {Q : Act → Prop} {a : Act} {rest : List Oper} {o : Oper} {n : Nat} {S : Slots} {G : List GV}

/-- later worlds -/
def Lt (w w' : World) : Prop := Below w.heap.size w w'

theorem wpQuiet_ob {ev : Operand → Option Value} {v : Value} (hev : ∀ x u, ev x = some u → a.eval x = u) (hob : ∀ w, C w → Ob P ev o v w) (hw : Region.wanted o (yielded ops a.tmps) = true) (h : wpQuiet P ops C Q rest (a.put o.dst v)) : wpQuiet P ops C Q (o :: rest) a := by
  unfold wpQuiet
  rw [if_pos hw]
  refine ⟨v, fun w hc => ?_, h⟩
  unfold Oper.quietAt
  rw [hob w hc a.eval hev]
  exact ⟨rfl, rfl⟩

theorem q_ob (hok : Ps ops n S G a) {d : Nat} {v : Value} (hg : o.guard = none) (hd : o.dst = some d) (hdn : d < n) (hf : gFree ops G d = true) (hob : ∀ w, C w → Ob P (evS S) o v w)
    (h : ∀ a', Ps ops n ((d, v) :: S) G a' → wpQuiet P ops C Q rest a') : wpQuiet P ops C Q (o :: rest) a :=
  wpQuiet_ob (fun x u hx => hok.sl.ev hx) hob (wanted_none hg _) (by rw [hd]; exact h _ (hok.put hdn hf v))

theorem q_gob (hok : Ps ops n S G a) {d i e : Nat} {pol c : Bool} {v : Value} (hg : o.guard = some (i, pol)) (hi : (ops[i]?).bind (·.dst) = some e) (hc : S.lookup e = some (.bool c)) (hd : o.dst = some d) (hdn : d < n)
    (hf : gFree ops G d = true) (hde : d ≠ e) (hnew : S.lookup d = none) (hob : c = pol → ∀ w, C w → Ob P (evG S G i pol) o v w)
    (h : ∀ a', Ps ops n S (⟨d, i, pol, c, v⟩ :: G) a' → wpQuiet P ops C Q rest a') : wpQuiet P ops C Q (o :: rest) a := by
  have hcell := hok.sl.2.2 _ _ hc
  have hy := yielded_of (ops := ops) hi hcell
  have hput : ∀ u, (a.put (some d) u).tmps[e]? = some (.bool c) := fun u => by
    rw [put_tmps, Array.getElem?_setIfInBounds, if_neg hde]; exact hcell
  by_cases hcp : c = pol
  · refine wpQuiet_ob (evG_ev hok hi hc hcp) (hob hcp) (by simp [Region.wanted, hg, hy, hcp]) ?_
    rw [hd]
    refine h _ ⟨hok.sl.new hnew v, fun q hq => ?_⟩
    cases hq with
    | head => exact ⟨⟨e, hi, hput v⟩, fun _ => by
        show (a.put (some d) v).tmps[d]? = _
        rw [put_tmps, Array.getElem?_setIfInBounds, if_pos rfl, if_pos (by rw [hok.sl.2.1]; exact hdn)]⟩
    | tail _ hq => exact GV.put hok.gv hf v q hq
  · unfold wpQuiet
    have hnw : Region.wanted o (yielded ops a.tmps) = false := by simp [Region.wanted, hg, hy]; simpa using hcp
    rw [hnw, if_neg (by simp), hd]
    refine h _ ⟨hok.sl.new hnew undef, fun q hq => ?_⟩
    cases hq with
    | head => exact ⟨⟨e, hi, hput undef⟩, fun hx => absurd hx hcp⟩
    | tail _ hq => exact GV.put hok.gv hf undef q hq

theorem q_pick (hok : Ps ops n S G a) {d i e t : Nat} {c b r : Bool} {y z : Operand} (hg : o.guard = none) (ho : o.op = .pick (.tmp e) y z) (hc : S.lookup e = some (.bool c)) (hd : o.dst = some d) (hdn : d < n) (hf : gFree ops G d = true)
    (hv : (if c then a.eval y else a.eval z) = .bool r) (h : ∀ a', Ps ops n ((d, .bool r) :: S) G a' → wpQuiet P ops C Q rest a') : wpQuiet P ops C Q (o :: rest) a := by
  have hcv : a.eval (.tmp e) = .bool c := hok.sl.ev (x := .tmp e) hc
  unfold wpQuiet
  rw [if_pos (wanted_none hg _)]
  refine ⟨.bool r, fun w _ => ?_, by rw [hd]; exact h _ (hok.put hdn hf _)⟩
  unfold Oper.quietAt
  rw [run_pick ho hcv, hv]
  exact ⟨rfl, rfl⟩

theorem q_and (hok : Ps ops n S G a) {d i e t : Nat} {c b : Bool} {x y : Operand} (hg : o.guard = none) (ho : o.op = .pick x y (.const (.bool false))) (hx : x = .tmp e) (hi : (ops[i]?).bind (·.dst) = some e) (hc : S.lookup e = some (.bool c)) (hz : y = .tmp t)
    (hd : o.dst = some d) (hdn : d < n) (hf : gFree ops G d = true) (hb : evG S G i true (.tmp t) = some (.bool b))
    (h : ∀ a', Ps ops n ((d, .bool (c && b)) :: S) G a' → wpQuiet P ops C Q rest a') : wpQuiet P ops C Q (o :: rest) a := by
  subst hx; subst hz
  refine q_pick hok (i := i) (t := t) (b := b) hg ho hc hd hdn hf ?_ h
  cases c with
  | false => rfl
  | true => simpa using evG_ev hok hi hc rfl _ _ hb

theorem q_run {S' : Slots} : ∀ (l : List Oper) (S : Slots) (a : Act), Ps ops n S G a → dstsOk ops n G l = true → cvals T l S = some S' → (∀ a', Ps ops n S' G a' → wpQuiet P ops C Q rest a') → wpQuiet P ops C Q (l ++ rest) a
  | [], S, a, hok, _, hv, h => by
    simp only [cvals, Option.some.injEq] at hv
    subst hv
    exact h a hok
  | o :: r, S, a, hok, hl, hv, h => by
    unfold dstsOk at hl
    simp only [List.all_cons, Bool.and_eq_true] at hl
    unfold cvals at hv
    split at hv
    · rename_i d v hg hd hc
      rw [hd] at hl
      simp only [Bool.and_eq_true, decide_eq_true_eq] at hl
      exact q_ob hok hg hd hl.1.1 hl.1.2 (fun w _ => cval_ob T _ _ _ hc w) fun a' ha' => q_run r _ a' ha' hl.2 hv h
    · cases hv

theorem q_runk (hok : Ps ops n S G a) (k : Nat) {l : List Oper} {S' : Slots} (hl : dstsOk ops n G (l.take k) = true) (hv : cvals T (l.take k) S = some S') (h : ∀ a', Ps ops n S' G a' → wpQuiet P ops C Q (l.drop k) a') : wpQuiet P ops C Q l a := by
  have := q_run (rest := l.drop k) T (l.take k) S a hok hl hv h
  rwa [List.take_append_drop] at this

/-- a call that answers one plain value -/
theorem wpQuiet_call {w0 : World} {f : Nat} {c : Call} {fv : Operand} {caps : Array Value} {vs : List Value} {v : Value} {ev : Operand → Option Value} (hev : ∀ x u, ev x = some u → a.eval x = u) (hf : IsFn P f) (ho : o.op = .call c) (hcv : c.callee = .value fv) (hfv : ev fv = some (.func (.func f) #[] caps))
    (hx : c.args.toList.mapM ev = some vs) (hc : ∀ w, Lt w0 w → Calls P f (vs.toArray ++ caps) w (Ret fun r w' => r = v ∧ Below w.heap.size w w')) (hw : Region.wanted o (yielded ops a.tmps) = true)
    (h : wpQuiet P ops (Lt w0) Q rest (a.put o.dst v)) : wpQuiet P ops (Lt w0) Q (o :: rest) a := by
  unfold wpQuiet
  rw [if_pos hw]
  refine ⟨v, fun w hlt => ?_, h⟩
  unfold Oper.quietAt
  have e1 : c.args.map a.eval = vs.toArray := by
    apply Array.toList_inj.1
    rw [Array.toList_map, evs_map hev _ _ hx]
  rw [run_callv hf ho hcv (hev _ _ hfv) e1]
  refine ⟨rfl, (hc w hlt).mono fun e w' he => ?_⟩
  cases e with
  | returned r => exact ⟨by rw [he.1], Below.trans hlt (he.2.mono hlt.size)⟩
  | panicked c => exact he.elim
  | outgrown => exact he.elim

theorem q_call {w0 : World} (hok : Ps ops n S G a) {d f : Nat} {c : Call} {fv : Operand} {caps : Array Value} {vs : List Value} {v : Value} (hf : IsFn P f) (hg : o.guard = none) (ho : o.op = .call c) (hcv : c.callee = .value fv) (hfv : evS S fv = some (.func (.func f) #[] caps)) (hd : o.dst = some d) (hdn : d < n) (hgf : gFree ops G d = true)
    (hx : c.args.toList.mapM (evS S) = some vs) (hc : ∀ w, Lt w0 w → Calls P f (vs.toArray ++ caps) w (Ret fun r w' => r = v ∧ Below w.heap.size w w'))
    (h : ∀ a', Ps ops n ((d, v) :: S) G a' → wpQuiet P ops (Lt w0) Q rest a') : wpQuiet P ops (Lt w0) Q (o :: rest) a :=
  wpQuiet_call (fun x u hx => hok.sl.ev hx) hf ho hcv hfv hx hc (wanted_none hg _) (by rw [hd]; exact h _ (hok.put hdn hgf v))

theorem q_gcall {w0 : World} (hok : Ps ops n S G a) {d i e f : Nat} {pol b : Bool} {c : Call} {fv : Operand} {caps : Array Value} {vs : List Value} {v : Value} (hf : IsFn P f) (hg : o.guard = some (i, pol)) (hi : (ops[i]?).bind (·.dst) = some e) (hb : S.lookup e = some (.bool b)) (ho : o.op = .call c) (hcv : c.callee = .value fv) (hfv : evG S G i pol fv = some (.func (.func f) #[] caps)) (hd : o.dst = some d) (hdn : d < n) (hgf : gFree ops G d = true)
    (hde : d ≠ e) (hnew : S.lookup d = none) (hx : c.args.toList.mapM (evG S G i pol) = some vs) (hc : b = pol → ∀ w, Lt w0 w → Calls P f (vs.toArray ++ caps) w (Ret fun r w' => r = v ∧ Below w.heap.size w w'))
    (h : ∀ a', Ps ops n S (⟨d, i, pol, b, v⟩ :: G) a' → wpQuiet P ops (Lt w0) Q rest a') : wpQuiet P ops (Lt w0) Q (o :: rest) a := by
  have hcell := hok.sl.2.2 _ _ hb
  have hy := yielded_of (ops := ops) hi hcell
  have hput : ∀ u, (a.put (some d) u).tmps[e]? = some (.bool b) := fun u => by
    rw [put_tmps, Array.getElem?_setIfInBounds, if_neg hde]; exact hcell
  by_cases hcp : b = pol
  · refine wpQuiet_call (evG_ev hok hi hb hcp) hf ho hcv hfv hx (hc hcp) (by simp [Region.wanted, hg, hy, hcp]) ?_
    rw [hd]
    refine h _ ⟨hok.sl.new hnew v, fun q hq => ?_⟩
    cases hq with
    | head => exact ⟨⟨e, hi, hput v⟩, fun _ => by
        show (a.put (some d) v).tmps[d]? = _
        rw [put_tmps, Array.getElem?_setIfInBounds, if_pos rfl, if_pos (by rw [hok.sl.2.1]; exact hdn)]⟩
    | tail _ hq => exact GV.put hok.gv hgf v q hq
  · unfold wpQuiet
    have hnw : Region.wanted o (yielded ops a.tmps) = false := by simp [Region.wanted, hg, hy]; simpa using hcp
    rw [hnw, if_neg (by simp), hd]
    refine h _ ⟨hok.sl.new hnew undef, fun q hq => ?_⟩
    cases hq with
    | head => exact ⟨⟨e, hi, hput undef⟩, fun hx => absurd hx hcp⟩
    | tail _ hq => exact GV.put hok.gv hgf undef q hq

theorem q_end {w0 : World} {Q : Exit → Act → World → Prop} (hok : Ps ops n S G a) (ts : List Nat) {S' : Slots} (e : pickS S ts = some S') (h : ∀ w', Below w0.heap.size w0 w' → Sl n S' a → Q .normal a w') : wpQuiet P ops (Lt w0) (fun a' => ∀ w', Lt w0 w' → Q .normal a' w') [] a :=
  fun w' hw => h w' hw (hok.sl.sub e)

/-- .. of regions in order, too -/
theorem wpList_of_quiet {Q : Exit → Act → World → Prop} : ∀ (l : List Oper) (a : Act) (w : World), C w → wpQuiet P ops C (fun a' => ∀ w', C w' → Q .normal a' w') l a → wpList P ops Q l a w
  | [], a, w, hc, h => h w hc
  | o :: l, a, w, hc, h => by
    unfold wpQuiet at h
    unfold wpList
    split at h
    · rename_i hw
      rw [if_pos hw]
      left
      obtain ⟨v, hq, hk⟩ := h
      have hq := hq w hc
      unfold Oper.quietAt at hq
      unfold Oper.wp
      generalize (execOp a.eval o).run P w = r at hq ⊢
      unfold Oper.quietUpon at hq
      split at hq
      · obtain ⟨rfl, rfl⟩ := hq
        exact wpList_of_quiet l _ _ hc hk
      · obtain ⟨rfl, rfl⟩ := hq
        exact wpList_of_quiet l _ _ hc hk
      · obtain ⟨rfl, hq⟩ := hq
        rw [Oper.upon_enter]
        refine hq.mono fun e w' he => ?_
        obtain ⟨rfl, hc'⟩ := he
        exact wpList_of_quiet l _ _ hc' hk
      · exact hq.elim
    · rename_i hw
      rw [if_neg hw]
      exact wpList_of_quiet l _ _ hc h

end quiet

section
variable {P : Program} {Q : Exit → Act → World → Prop} {a : Act} {w : World} {n : Nat} {S : Slots}
theorem f_quiet {id : Nat} {l : List Oper} (hok : Sl n S a) (h : Ps l.toArray n S [] a → wpQuiet P l.toArray (Lt w) (fun a' => ∀ w', Lt w w' → Q .normal a' w') l a) : (Code.region id l.toArray false).wp P Q a w :=
  wp_region_list (wpList_of_quiet _ _ _ (Below.refl _ _) (h (Ps.start hok)))

theorem f_quietd {id : Nat} {l : List Oper} (hm : P.follows .mixedOrders = true) (hB : Region.lexB .any l.toArray = true) (hok : Sl n S a) (h : Ps l.toArray n S [] a → wpQuiet P l.toArray (Lt w) (fun a' => ∀ w', Lt w w' → Q .normal a' w') l a) : (Code.region id l.toArray true).wp P Q a w :=
  Go.wp_region_quiet hm hB ((Below.refl _ w).drew) (h (Ps.start hok))

end

section
variable {P : Program} {ops : Array Oper} {Q : Exit → Act → World → Prop} {a : Act} {w : World} {rest : List Oper} {o : Oper} {n : Nat} {S : Slots} {G : List GV}
end
end Go.Proofs.Ytmdoimpeacndaaa
