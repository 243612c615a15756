/- A deferred closure that hands what it recovers to a method of what it captured. No program is named here. -/
import Derived.Test.YthmjkcdpbbcdgaaW2
namespace Go.Proofs.Ythmjkcdpbbcdgaa
open Go.RowKit

def rdyR (ops : Array Oper) (listed : Array Bool) : List Nat := (List.range ops.size).filter fun i =>
 !listed.getD i true && ((ops[i]?).map (·.after.all fun e => !Region.binds .any e || listed.getD e.on false)).getD false

theorem sched3 {ops : Array Oper} (hs : ops.size = 3) (r0 : rdyR ops #[false, false, false] = [0, 1]) (r1 : rdyR ops #[true, false, false] = [1]) (r2 : rdyR ops #[false, true, false] = [0]) (r3 : rdyR ops #[true, true, false] = [2]) (t : Nat) :
  Region.linearise .any ops t = [0, 1, 2] ∨ Region.linearise .any ops t = [1, 0, 2] := by
 have g3 : ∀ t acc, Region.linearise.go .any ops 1 t #[true, true, false] acc = (2 :: acc).reverse := fun t acc => by
  show (match (rdyR ops #[true, true, false])[t % (rdyR ops #[true, true, false]).length]? with | some i => _ | none => _) = _
  rw [r3]; simp [Region.linearise.go, Nat.mod_one]
 have gA : ∀ t acc, Region.linearise.go .any ops 2 t #[true, false, false] acc = (2 :: 1 :: acc).reverse := fun t acc => by
  show (match (rdyR ops #[true, false, false])[t % (rdyR ops #[true, false, false]).length]? with | some i => Region.linearise.go .any ops 1 (t / (rdyR ops #[true, false, false]).length) (#[true, false, false].setIfInBounds i true) (i :: acc) | none => _) = _
  rw [r1]; simp [Nat.mod_one, g3]
 have gB : ∀ t acc, Region.linearise.go .any ops 2 t #[false, true, false] acc = (2 :: 0 :: acc).reverse := fun t acc => by
  show (match (rdyR ops #[false, true, false])[t % (rdyR ops #[false, true, false]).length]? with | some i => Region.linearise.go .any ops 1 (t / (rdyR ops #[false, true, false]).length) (#[false, true, false].setIfInBounds i true) (i :: acc) | none => _) = _
  rw [r2]; simp [Nat.mod_one, g3]
 unfold Region.linearise
 rw [hs]
 show (match (rdyR ops #[false, false, false])[t % (rdyR ops #[false, false, false]).length]? with | some i => Region.linearise.go .any ops 2 (t / (rdyR ops #[false, false, false]).length) (#[false, false, false].setIfInBounds i true) (i :: []) | none => _) = _ ∨ (match (rdyR ops #[false, false, false])[t % (rdyR ops #[false, false, false]).length]? with | some i => Region.linearise.go .any ops 2 (t / (rdyR ops #[false, false, false]).length) (#[false, false, false].setIfInBounds i true) (i :: []) | none => _) = _
 rw [r0]
 rcases Nat.mod_two_eq_zero_or_one t with h | h
 ·left; simp [h, gA]
 ·right; simp [h, gB]

section
variable {P : Program} {ops : Array Oper} {Q : Exit → Act → List Frame → World → Prop} {a : Act} {w : World} {cs : List Frame} {i : Nat} {rest : List Nat} {o : Oper}
theorem wS_val (hi : ops[i]? = some o) (hg : o.guard = none) {v : Value} {w' : World} (hr : (execOp a.eval o).run P w = .ok (.value v) w') (h : wpOpsS P ops Q rest (a.put o.dst v) cs w') : wpOpsS P ops Q (i :: rest) a cs w := by
 simp only [wpOpsS, hi, wanted_none hg, if_true, hr]
 exact h

theorem wS_rec (hi : ops[i]? = some o) (hg : o.guard = none) {v : Value} {cs' : List Frame} (hr : (execOp a.eval o).run P w = .ok .recover w) (hc : recoverD cs = some (v, cs')) (h : wpOpsS P ops Q rest (a.put o.dst v) cs' w) : wpOpsS P ops Q (i :: rest) a cs w := by
 simp only [wpOpsS, hi, wanted_none hg, if_true, hr, hc]
 exact h

theorem wS_rec0 (hi : ops[i]? = some o) (hg : o.guard = none) (hr : (execOp a.eval o).run P w = .ok .recover w) (hc : recoverD cs = none) (h : wpOpsS P ops Q rest (a.put o.dst .nilIface) cs w) : wpOpsS P ops Q (i :: rest) a cs w := by
 simp only [wpOpsS, hi, wanted_none hg, if_true, hr, hc]
 exact h

theorem wS_call (hi : ops[i]? = some o) (hg : o.guard = none) {f : Nat} {vs : Array Value} {R : Value → World → Prop} (hr : (execOp a.eval o).run P w = .ok (.enter f vs) w) (hc : Calls P f vs w (Ret R)) (h : ∀ v w', R v w' → wpOpsS P ops Q rest (a.put o.dst v) cs w') : wpOpsS P ops Q (i :: rest) a cs w := by
 simp only [wpOpsS, hi, wanted_none hg, if_true, hr]
 rw [Oper.upon_enter]
 refine hc.mono fun e w he => ?_
 cases e with
 | returned v => exact h _ _ he
 | panicked c => exact he.elim
 | outgrown => exact he.elim

theorem run_recover {ρ : Operand → Value} (ho : o.op = .call { callee := .builtin .recover, args := #[], argTypes := #[] }) : (execOp ρ o).run P w = .ok .recover w := by
 unfold execOp
 simp [ho, resolve, invoke, builtin]

theorem run_load {ρ : Operand → Value} {t : Nat} {x : Operand} {p : Addr} {v : Value} (T : Tab P) (ho : o.op = .load t x) (hx : ρ x = .pointer (some p)) (ht : T.sz t = some (1, false)) (hc : w.cell? ⟨p.block, p.off, none⟩ = some v) (hp : p.spot = none) : (execOp ρ o).run P w = .ok (.value v) w := by
 obtain ⟨b, off, sp⟩ := p
 subst hp
 exact Ob_load T (ev := fun y => some (ρ y)) ho (by rw [hx]) ht hc ρ (fun y u hy => by injection hy)

/-- the closure's body: load what is captured, recover, call -/
theorem clo3 (T : Tab P) {g fs : Nat} {fn : Func} {id tp : Nat} {o0 o1 o2 : Oper} {c : Call} {p : Value} {B : Nat} {x : Value} {u u' : FrameMode} {R : Ending → FrameMode → World → Prop} {Rc : Value → World → Prop}
  (hf : P.funcs[g]? = some fn) (hb : fn.body = some (.region id #[o0, o1, o2] true)) (hn : fn.ntmps = 4) (hres : fn.results = #[]) (hm : P.follows .mixedOrders = true) (hfs : IsFn P fs)
  (r0 : rdyR #[o0, o1, o2] #[false, false, false] = [0, 1]) (r1 : rdyR #[o0, o1, o2] #[true, false, false] = [1]) (r2 : rdyR #[o0, o1, o2] #[false, true, false] = [0]) (r3 : rdyR #[o0, o1, o2] #[true, true, false] = [2])
  (h0 : o0.op = .load tp (.tmp 0)) (d0 : o0.dst = some 1) (g0 : o0.guard = none) (h1 : o1.op = .call { callee := .builtin .recover, args := #[], argTypes := #[] }) (d1 : o1.dst = some 2) (g1 : o1.guard = none)
  (h2 : o2.op = .call c) (hcv : c.callee = .value (.func fs)) (hca : c.args = #[.tmp 1, .tmp 2]) (d2 : o2.dst = some 3) (g2 : o2.guard = none) (ht : T.sz tp = some (1, false)) {w : World}
  (hcell : w.cell? ⟨B, 0, none⟩ = some p)
  (hrec : ∀ (c0 : Frame) (cs : List Frame), c0.mode = u → (∃ v, recoverD (c0 :: cs) = some (v, { c0 with mode := u' } :: cs) ∧ v = x) ∨ (recoverD (c0 :: cs) = none ∧ u' = u ∧ x = .nilIface))
  (hc : Calls P fs #[p, x] w.drew (Ret Rc)) (hR : ∀ v w', Rc v w' → R (.returned (.tuple #[])) u' w') : CallsD P g #[.pointer (some ⟨B, 0, none⟩)] u w R := by
 refine callsD_of_wpS hf hb fun c0 cs hu => ?_
 refine wpS_region_draw fun t => ?_
 have hcell' : ({ w with drawn := w.drawn + 1 } : World).cell? ⟨B, 0, none⟩ = some p := hcell
 have hc' : Calls P fs #[p, x] { w with drawn := w.drawn + 1 } (Ret Rc) := hc
 have hsch := sched3 (ops := #[o0, o1, o2]) rfl r0 r1 r2 r3 t
 have e : Region.schedule (P.follows .mixedOrders) #[o0, o1, o2] t = Region.linearise .any #[o0, o1, o2] t := by simp [Region.schedule, hm]
 rw [e, hn]
 obtain ⟨fnS, q1, q2, q3⟩ := hfs
 have fin : ∀ (a : Act) v w', a.defers = [] → Rc v w' → bodyPostS P fn c0 cs R .normal a ({ c0 with mode := u' } :: cs) w' := fun a v w' hd hr => by
  refine ⟨hd, u', rfl, .tuple #[], ?_, hR v w' hr⟩
  simp [results, hres]
 have call : ∀ (a : Act), a.tmps.size = 4 → a.tmps[1]? = some p → a.tmps[2]? = some x → (execOp a.eval o2).run P { w with drawn := w.drawn + 1 } = .ok (.enter fs #[p, x]) { w with drawn := w.drawn + 1 } := fun a hs e1 e2 => by
  have := run_callv (P := P) (w := { w with drawn := w.drawn + 1 }) (ρ := a.eval) (o := o2) (f := fs) ⟨fnS, q1, q2, q3⟩ (c := c) (fv := .func fs) (caps := #[]) (args := #[p, x]) h2 hcv rfl (by rw [hca]; simp [Act.eval, Array.getD_eq_getD_getElem?, e1, e2])
  simpa using this
 have hput : ∀ (a : Act) (d : Nat) (v : Value), (a.put (some d) v).tmps = a.tmps.setIfInBounds d v := fun _ _ _ => rfl
 have hpd : ∀ (a : Act) (d : Nat) (v : Value), (a.put (some d) v).defers = a.defers := fun _ _ _ => rfl
 have s0 : (#[Value.pointer (some ⟨B, 0, none⟩)] ++ Array.replicate (4 - #[Value.pointer (some ⟨B, 0, none⟩)].size) undef) = #[.pointer (some ⟨B, 0, none⟩), undef, undef, undef] := rfl
 rw [s0]
 have recv : ∀ (a : Act), wpOpsS P #[o0, o1, o2] (bodyPostS P fn c0 cs R) [2] (a.put (some 2) x) ({ c0 with mode := u' } :: cs) { w with drawn := w.drawn + 1 } → wpOpsS P #[o0, o1, o2] (bodyPostS P fn c0 cs R) [1, 2] a (c0 :: cs) { w with drawn := w.drawn + 1 } := fun a h => by
  rcases hrec c0 cs hu with ⟨v, hv, rfl⟩ | ⟨hv, hu', rfl⟩
  ·exact wS_rec (o := o1) rfl g1 (run_recover h1) hv (by rw [d1]; exact h)
  ·have : ({ c0 with mode := u' } : Frame) = c0 := by rw [hu', ← hu]
   rw [this] at h
   exact wS_rec0 (o := o1) rfl g1 (run_recover h1) hv (by rw [d1]; exact h)
 have recv2 : ∀ (a : Act), wpOpsS P #[o0, o1, o2] (bodyPostS P fn c0 cs R) [0, 2] (a.put (some 2) x) ({ c0 with mode := u' } :: cs) { w with drawn := w.drawn + 1 } → wpOpsS P #[o0, o1, o2] (bodyPostS P fn c0 cs R) [1, 0, 2] a (c0 :: cs) { w with drawn := w.drawn + 1 } := fun a h => by
  rcases hrec c0 cs hu with ⟨v, hv, rfl⟩ | ⟨hv, hu', rfl⟩
  ·exact wS_rec (o := o1) rfl g1 (run_recover h1) hv (by rw [d1]; exact h)
  ·have : ({ c0 with mode := u' } : Frame) = c0 := by rw [hu', ← hu]
   rw [this] at h
   exact wS_rec0 (o := o1) rfl g1 (run_recover h1) hv (by rw [d1]; exact h)
 have last : ∀ (a : Act) (cs' : List Frame), cs' = { c0 with mode := u' } :: cs → a.defers = [] → a.tmps.size = 4 → a.tmps[1]? = some p → a.tmps[2]? = some x → wpOpsS P #[o0, o1, o2] (bodyPostS P fn c0 cs R) [2] a cs' { w with drawn := w.drawn + 1 } := fun a cs' hcs hd hs e1 e2 => by
  subst hcs
  exact wS_call (o := o2) rfl g2 (call a hs e1 e2) hc' fun v w' hr => by rw [d2]; exact fin _ v w' hd hr
 rcases hsch with hs | hs
 ·rw [hs]
  refine wS_val (o := o0) rfl g0 (run_load T h0 (p := ⟨B, 0, none⟩) rfl ht hcell' rfl) ?_
  rw [d0]
  refine recv _ (last _ _ rfl rfl rfl ?_ ?_) <;> rfl
 ·rw [hs]
  refine recv2 _ ?_
  refine wS_val (o := o0) rfl g0 (run_load T h0 (p := ⟨B, 0, none⟩) rfl ht hcell' rfl) ?_
  rw [d0]
  refine last _ _ rfl rfl rfl ?_ ?_ <;> rfl

end

end Go.Proofs.Ythmjkcdpbbcdgaa
