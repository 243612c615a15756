/- Functions that defer one closure; closures that recover. No program is named here. -/
import Derived.Test.YthmjkcdpbbcdgaaW1
import Derived.Defers
import Derived.Recover
import Derived.Laws.Pointers
namespace Go.Proofs.Ythmjkcdpbbcdgaa
open Go.RowKit
variable {ds : List Deferred}

section
variable {P : Program} {ev : Operand → Option Value} {o : Oper} {w : World}
theorem Ob_pn {t t2 : Nat} {x y : Operand} {p q : Option Addr} {op : BinOp} {c : Bool} (ho : o.op = .binOp op t x y t2) (hx : ev x = some (.pointer p)) (hy : ev y = some (.pointer q)) (hq : q = none) {e : TypeId} (ht0 : P.underlying t = some (.pointer e)) (hc : (op = .eql ∧ c = p.isNone) ∨ (op = .neq ∧ c = !p.isNone)) : Ob P ev o (.bool c) w := by
 intro ρ hρ
 subst hq
 have ht : P.underlying t = some (.pointer (P.pointee t)) := by unfold Program.pointee; rw [ht0]
 unfold execOp
 rcases hc with ⟨rfl, rfl⟩ | ⟨rfl, rfl⟩
 ·simp [ho, hρ _ _ hx, hρ _ _ hy, run_eql_pointer_nil w t p ht, eqGuard]
 ·simp [ho, hρ _ _ hx, hρ _ _ hy, run_neq_pointer_nil w t p ht, eqGuard]

end

section
variable {P : Program} {Q : Exit → Act → World → Prop} {a : Act} {w : World} {n : Nat} {S : Slots}

theorem f_enterD {f : FuncId} {fn : Func} {c : Code} {args : List Value} {R : Ending → World → Prop} (m : Nat) (hf : P.funcs[f]? = some fn) (hm : fn.ntmps = m) (hb : fn.body = some c) (hle : args.length ≤ m)
  (h : ∀ a, Sl m (args.zipIdx.map fun p => (p.2, p.1)) a → c.wp P (bodyPostD P fn R) a w) : Calls P f args.toArray w R := by
 exact calls_of_wp_defers hf hb (h _ (by rw [hm]; exact enter_sl args m hle))

/-- the end of a function that has laid nothing yet -/
theorem f_retD0 {fn : Func} {R : Value → World → Prop} {v : Value} (hd : Sl n S a) (hr : (results fn a.tmps).run P w = .ok v w) (h : R v w) : bodyPostD P fn (Ret R) .ret a w := by
 show Leaves P fn a.tmps (Ret R) a.defers .returning w
 rw [hd.1]
 exact ⟨v, hr, h⟩

/-- .. and with one deferred closure -/
theorem f_retD1 {fn : Func} {R : Value → World → Prop} {g : Nat} {caps : Array Value} {args : List Value} (hd : SlD [⟨.fn (.func g) caps, args.toArray⟩] n S a)
  (hi : (invoke (.fn (.func g) caps) args.toArray).run P w = .ok (.enter g (args.toArray ++ caps)) w)
  (hc : CallsD P g (args.toArray ++ caps) .returning w fun e u' w' => (∃ x, e = .returned x) ∧ u' = .returning ∧ ∃ v, (results fn a.tmps).run P w' = .ok v w' ∧ R v w') : bodyPostD P fn (Ret R) .ret a w := by
 show Leaves P fn a.tmps (Ret R) a.defers .returning w
 rw [hd.1]
 refine ⟨by simp, .func g, caps, g, args.toArray ++ caps, rfl, hi, hc.mono fun e u' w' h => ?_⟩
 obtain ⟨⟨x, rfl⟩, rfl, v, h1, h2⟩ := h
 exact ⟨v, h1, h2⟩

/-- a panic that the deferred closure recovers -/
theorem f_panD1 {fn : Func} {R : Value → World → Prop} {g : Nat} {caps : Array Value} {args : List Value} {x : Value} (hd : SlD [⟨.fn (.func g) caps, args.toArray⟩] n S a)
  (hi : (invoke (.fn (.func g) caps) args.toArray).run P w = .ok (.enter g (args.toArray ++ caps)) w)
  (hc : CallsD P g (args.toArray ++ caps) (.panicking [{ v := x, recovered := false }]) w fun e u' w' => (∃ y, e = .returned y) ∧ u' = .panicking [{ v := x, recovered := true }] ∧ ∃ v, (results fn a.tmps).run P w' = .ok v w' ∧ R v w') : bodyPostD P fn (Ret R) (.panic [{ v := x, recovered := false }]) a w := by
 show Leaves P fn a.tmps (Ret R) a.defers (.panicking [{ v := x, recovered := false }]) w
 rw [hd.1]
 refine ⟨by simp, .func g, caps, g, args.toArray ++ caps, rfl, hi, hc.mono fun e u' w' h => ?_⟩
 obtain ⟨⟨y, rfl⟩, rfl, v, h1, h2⟩ := h
 exact ⟨v, h1, h2⟩

theorem run_invoke {f : Nat} (hf : IsFn P f) (caps args : Array Value) : (invoke (.fn (.func f) caps) args).run P w = .ok (.enter f (args ++ caps)) w := by
 obtain ⟨fn, h1, h2, h3⟩ := hf
 have h2' : fn.name ≠ "runtime.NumGoroutine" := by simpa using h2
 have h3' : ¬ fn.body = none := by intro e; rw [e] at h3; cases h3
 simp [invoke, callFunc, h1, h2', h3']

end

section
variable {P : Program} {ops : Array Oper} {Q : Exit → Act → World → Prop} {a : Act} {w : World} {rest : List Oper} {o : Oper} {n : Nat} {S : Slots} {G : List GV}

/-- a call that returns or panics -/
def RetP (R : Value → World → Prop) (X : List PanicEntry → World → Prop) : Ending → World → Prop
 | .returned v, w => R v w
 | .panicked c, w => X c w
 | .outgrown, _ => False

theorem s_callP (hok : PsD ds ops n S G a) {d f : Nat} {c : Call} {fv : Operand} {caps : Array Value} {vs : List Value} {R : Value → World → Prop} {X : List PanicEntry → World → Prop} (hf : IsFn P f) (hg : o.guard = none) (ho : o.op = .call c) (hcv : c.callee = .value fv) (hfv : evS S fv = some (.func (.func f) #[] caps)) (hd : o.dst = some d) (hdn : d < n) (hgf : gFree ops G d = true)
  (hx : c.args.toList.mapM (evS S) = some vs) (hc : Calls P f (vs.toArray ++ caps) w (RetP R X))
  (h : ∀ v a' w', R v w' → PsD ds ops n ((d, v) :: S) G a' → wpList P ops Q rest a' w') (hp : ∀ c w', X c w' → Q (.panic c) a w') : wpList P ops Q (o :: rest) a w := by
 have e1 : c.args.map a.eval = vs.toArray := by
  apply Array.toList_inj.1
  rw [Array.toList_map, evs_map (fun x u hx => hok.sl.ev hx) _ _ hx]
 unfold wpList
 rw [if_pos (wanted_none hg _)]
 left
 unfold Oper.wp
 rw [run_callv hf ho hcv (hok.sl.ev hfv) e1, Oper.upon_enter]
 refine hc.mono fun e w he => ?_
 cases e with
 | returned v => rw [hd]; exact h _ _ _ he (hok.put hdn hgf v)
 | panicked c => exact hp _ _ he
 | outgrown => exact he.elim

theorem h_callP {I0 D : Dm} {w0 : World} {I : Dm} {cs : List Ch} (hok : PsD ds ops n S G a) (H : Hf I0 D w0 I w cs) {js : List (Nat × Bool)} {cin rst : List Ch} (hp : pickN js cs = some (cin, rst)) {d f : Nat} {c : Call} {fv : Operand} {caps : Array Value} {vs : List Value} {R : Dm → Value → World → Prop} {X : Dm → List PanicEntry → World → Prop} (hf : IsFn P f) (hg : o.guard = none) (ho : o.op = .call c) (hcv : c.callee = .value fv) (hfv : evS S fv = some (.func (.func f) #[] caps)) (hd : o.dst = some d) (hdn : d < n) (hgf : gFree ops G d = true)
  (hx : c.args.toList.mapM (evS S) = some vs) (hc : ∀ D1, St I D1 w cin → Calls P f (vs.toArray ++ caps) w (RetP (R D1) (X D1)))
  (h : ∀ v a' w' D1, R D1 v w' → (∀ {I' co}, Hf I D1 w I' w' co → Hf I0 D w0 I' w' (co ++ rst)) → PsD ds ops n ((d, v) :: S) G a' → wpList P ops Q rest a' w')
  (hpn : ∀ c w' D1, X D1 c w' → (∀ {I' co}, Hf I D1 w I' w' co → Hf I0 D w0 I' w' (co ++ rst)) → Q (.panic c) a w') : wpList P ops Q (o :: rest) a w := by
 obtain ⟨D1, h1, h2⟩ := H.call hp
 exact s_callP hok hf hg ho hcv hfv hd hdn hgf hx (hc D1 h1) (fun v a' w' hr => h v a' w' D1 hr h2) fun c w' hr => hpn c w' D1 hr h2

theorem Ob_mkif {ev : Operand → Option Value} {t : Nat} {x : Operand} {v : Value} {k : IntKind} (ho : o.op = .makeInterface t x) (hx : ev x = some v) (hu : P.underlying t = some (.int k)) : Ob P ev o (.iface t v) w := by
 intro ρ hρ
 unfold execOp
 simp [ho, hρ _ _ hx, Instr.makeInterface, run_underlying hu]

theorem Ob_tayes {ev : Operand → Option Value} {tx t : Nat} {x : Operand} {v : Value} {k : IntKind} (ho : o.op = .typeAssert x tx t true) (hx : ev x = some (.iface t v)) (hu : P.underlying t = some (.int k)) : Ob P ev o (.tuple #[v, .bool true]) w := by
 intro ρ hρ
 unfold execOp
 simp [ho, hρ _ _ hx, Instr.typeAssert, run_underlying hu]

theorem Ob_tanil {ev : Operand → Option Value} {tx t : Nat} {x : Operand} {z : Value} {k : IntKind} (ho : o.op = .typeAssert x tx t true) (hx : ev x = some .nilIface) (hu : P.underlying t = some (.int k)) (hz : ∀ w, (zeroValue t).run P w = .ok z w) : Ob P ev o (.tuple #[z, .bool false]) w := by
 intro ρ hρ
 unfold execOp
 simp [ho, hρ _ _ hx, Instr.typeAssert, run_underlying hu, hz]

/-- a closure is deferred -/
theorem s_defer (hok : PsD [] ops n S [] a) {g : Nat} {c : Call} {fv : Operand} {caps : Array Value} {vs : List Value} (hg : o.guard = none) (hd : o.dst = none) (ho : o.op = .defer c) (hcv : c.callee = .value fv) (hfv : evS S fv = some (.func (.func g) #[] caps)) (hx : c.args.toList.mapM (evS S) = some vs)
  (h : ∀ a', PsD [⟨.fn (.func g) caps, vs.toArray⟩] ops n S [] a' → wpList P ops Q rest a' w) : wpList P ops Q (o :: rest) a w := by
 have e1 : c.args.map a.eval = vs.toArray := by
  apply Array.toList_inj.1
  rw [Array.toList_map, evs_map (fun x u hx => hok.sl.ev hx) _ _ hx]
 have hr : (execOp a.eval o).run P w = .ok (.defer ⟨.fn (.func g) caps, vs.toArray⟩) w := by
  unfold execOp
  simp [ho, resolve, hcv, hok.sl.ev hfv, e1, Deferred.ofValue]
 unfold wpList
 rw [if_pos (wanted_none hg _)]
 left
 unfold Oper.wp
 rw [hr, Oper.upon_defer, hd]
 exact h _ ⟨⟨by show _ :: a.defers = _; rw [hok.sl.1], hok.sl.2⟩, fun q hq => by cases hq⟩

/-- panic(..) of an error of its own -/
theorem s_panic (hok : PsD ds ops n S G a) {x : Operand} {t : Nat} {v : Value} (hg : o.guard = none) (ho : o.op = .panic x) (hx : evS S x = some (.iface t v)) (h : Q (.panic [{ v := .iface t v, recovered := false }]) a w) : wpList P ops Q (o :: rest) a w := by
 have hr : (execOp a.eval o).run P w = .halt (.panic (.iface t v)) w := by
  unfold execOp
  simp [ho, hok.sl.ev hx, Instr.panic]
 unfold wpList
 rw [if_pos (wanted_none hg _)]
 left
 unfold Oper.wp
 rw [hr, Oper.upon_panic]
 exact h

theorem p_then_p {K : Act → World → Prop} {c : List PanicEntry} (h : Q (.panic c) a w) : Exit.then K Q (.panic c) a w := h

theorem f_retP {fn : Func} {R : Value → World → Prop} {X : List PanicEntry → World → Prop} {v : Value} (hd : Sl n S a) (hr : (results fn a.tmps).run P w = .ok v w) (h : R v w) : bodyPost P fn (RetP R X) .ret a w := ⟨hd.1, v, hr, h⟩

theorem f_fallP {fn : Func} {R : Value → World → Prop} {X : List PanicEntry → World → Prop} {v : Value} (hd : Sl n S a) (hr : (results fn a.tmps).run P w = .ok v w) (h : R v w) : bodyPost P fn (RetP R X) .normal a w := ⟨hd.1, v, hr, h⟩

theorem f_panP {fn : Func} {R : Value → World → Prop} {X : List PanicEntry → World → Prop} {c : List PanicEntry} (hd : PsD [] ops n S G a) (h : X c w) : bodyPost P fn (RetP R X) (.panic c) a w := ⟨hd.sl.1, h⟩

theorem wpS_region_draw {Q : Exit → Act → List Frame → World → Prop} {cs : List Frame} {id : Nat} (h : ∀ t, wpOpsS P ops Q (Region.schedule (P.follows .mixedOrders) ops t) a cs { w with drawn := w.drawn + 1 }) : (Code.region id ops true).wpS P Q a cs w :=
 fun b k hb hr => let ⟨e, a', cs', w', q, r⟩ := wp_opsS _ a cs _ (h _) b k hb hr; ⟨e, a', cs', w', q, .of_steps (.one step_region_draw) r⟩

end

end Go.Proofs.Ythmjkcdpbbcdgaa
