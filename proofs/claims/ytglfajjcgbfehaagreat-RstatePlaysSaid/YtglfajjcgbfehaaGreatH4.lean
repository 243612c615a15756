/- Operations under guards, one within the other: a slot under a guard holds its value where the guard held. No program is named here. -/
import Derived.Test.YtglfajjcgbfehaaGreatH3
namespace Go.Proofs.YtglfajjcgbfehaaGreat
open Go.RowKit
variable {ds : List Deferred}

/-- is an operation wanted whose guard's slot holds v? -/
def wantB (v : Value) (pol : Bool) : Bool := match v with | .bool b => b == pol | _ => false

theorem wantB_t (c : Bool) : wantB (.bool c) true = c := by cases c <;> rfl

theorem wantB_f (c : Bool) : wantB (.bool c) false = !c := by cases c <;> rfl

theorem wantB_cf (p c : Bool) : wantB (cond p (.bool c) undef) false = (p && !c) := by cases p <;> cases c <;> rfl

theorem cond_t {p : Bool} {v u : Value} (h : p = true) : cond p v u = v := by rw [h]; rfl

theorem pick_or (c b : Bool) : (if c then Value.bool true else cond (!c) (.bool b) undef) = .bool (c || b) := by cases c <;> rfl

theorem pick_and (c b : Bool) : (if c then cond c (Value.bool b) undef else .bool false) = .bool (c && b) := by cases c <;> rfl

theorem pick_orp {p : Bool} (c b : Bool) (h : p = true) : (if c then Value.bool true else cond (p && !c) (.bool b) undef) = .bool (c || b) := by subst h; cases c <;> rfl

section
variable {P : Program} {ops : Array Oper} {Q : Exit → Act → World → Prop} {C : World → Prop} {Qq : Act → Prop} {a : Act} {w : World} {rest : List Oper} {o : Oper} {n : Nat} {S : Slots}

theorem Ob_pick {ev : Operand → Option Value} {x y z : Operand} {c : Bool} {vy vz v : Value} (ho : o.op = .pick x y z) (hx : ev x = some (.bool c)) (hy : ev y = some vy) (hz : ev z = some vz) (hv : (if c then vy else vz) = v) : Ob P ev o v w := by
 intro ρ hρ
 unfold execOp
 simp only [ho, hρ _ _ hx, hρ _ _ hy, hρ _ _ hz]
 cases c <;> simp at hv <;> subst hv <;> simp [asBool]

theorem wanted_want {i e : Nat} {pol : Bool} {ve : Value} (hg : o.guard = some (i, pol)) (hi : (ops[i]?).bind (·.dst) = some e) (he : a.tmps[e]? = some ve) : Region.wanted o (yielded ops a.tmps) = wantB ve pol := by
 simp only [Region.wanted, hg]
 unfold yielded
 rw [hi]
 simp only [Option.bind_some, he]
 unfold wantB
 split <;> simp_all

theorem g_ob (hok : PsD ds ops n S [] a) {d i e : Nat} {pol p : Bool} {v ve : Value} {S' : Slots} (hg : o.guard = some (i, pol)) (hi : (ops[i]?).bind (·.dst) = some e) (he : S.lookup e = some ve) (hp : wantB ve pol = p) (hd : o.dst = some d) (hdn : d < n)
  (hS : p = true → SlD ds n S a → SlD ds n S' a) (hob : p = true → Ob P (evS S') o v w) (h : ∀ a', PsD ds ops n ((d, cond p v undef) :: S) [] a' → wpList P ops Q rest a' w) : wpList P ops Q (o :: rest) a w := by
 have hw := wanted_want (ops := ops) hg hi (hok.sl.2.2 _ _ he)
 unfold wpList
 rw [hw, hp]
 cases p with
 | true =>
  rw [if_pos rfl]
  left
  unfold Oper.wp
  have hS' := hS rfl hok.sl
  rw [hob rfl a.eval (fun x u hx => hS'.ev hx), Oper.upon_value, hd]
  exact h _ (hok.put hdn rfl _)
 | false =>
  rw [if_neg (by simp), hd]
  exact h _ (hok.put hdn rfl _)

theorem gq_ob (hok : PsD ds ops n S [] a) {d i e : Nat} {pol p : Bool} {v ve : Value} {S' : Slots} (hg : o.guard = some (i, pol)) (hi : (ops[i]?).bind (·.dst) = some e) (he : S.lookup e = some ve) (hp : wantB ve pol = p) (hd : o.dst = some d) (hdn : d < n)
  (hS : p = true → SlD ds n S a → SlD ds n S' a) (hob : p = true → ∀ w, C w → Ob P (evS S') o v w) (h : ∀ a', PsD ds ops n ((d, cond p v undef) :: S) [] a' → wpQuiet P ops C Qq rest a') : wpQuiet P ops C Qq (o :: rest) a := by
 have hw := wanted_want (ops := ops) hg hi (hok.sl.2.2 _ _ he)
 cases p with
 | true =>
  have hS' := hS rfl hok.sl
  refine wpQuiet_ob (fun x u hx => hS'.ev hx) (hob rfl) (by rw [hw, hp]) ?_
  rw [hd]
  exact h _ (hok.put hdn rfl _)
 | false =>
  unfold wpQuiet
  rw [hw, hp, if_neg (by simp), hd]
  exact h _ (hok.put hdn rfl _)

/-- a call under a guard, in a region whose operations leave what was as it was -/
theorem gq_call {w0 : World} (hok : PsD ds ops n S [] a) {d i e f : Nat} {pol p : Bool} {v ve : Value} {S' : Slots} {c : Call} {fv : Operand} {caps : Array Value} {vs : List Value} (hf : IsFn P f) (hg : o.guard = some (i, pol)) (hi : (ops[i]?).bind (·.dst) = some e) (he : S.lookup e = some ve) (hp : wantB ve pol = p) (hd : o.dst = some d) (hdn : d < n)
  (hS : p = true → SlD ds n S a → SlD ds n S' a) (ho : o.op = .call c) (hcv : c.callee = .value fv) (hfv : evS S' fv = some (.func (.func f) #[] caps)) (hx : c.args.toList.mapM (evS S') = some vs)
  (hc : p = true → ∀ w, Lt w0 w → Calls P f (vs.toArray ++ caps) w (Ret fun r w' => r = v ∧ Below w.heap.size w w')) (h : ∀ a', PsD ds ops n ((d, cond p v undef) :: S) [] a' → wpQuiet P ops (Lt w0) Qq rest a') : wpQuiet P ops (Lt w0) Qq (o :: rest) a := by
 have hw := wanted_want (ops := ops) hg hi (hok.sl.2.2 _ _ he)
 cases p with
 | true =>
  have hS' := hS rfl hok.sl
  refine wpQuiet_call (fun x u hx => hS'.ev hx) hf ho hcv hfv hx (hc rfl) (by rw [hw, hp]) ?_
  rw [hd]
  exact h _ (hok.put hdn rfl _)
 | false =>
  unfold wpQuiet
  rw [hw, hp, if_neg (by simp), hd]
  exact h _ (hok.put hdn rfl _)

/-- .. in a region in order -/
theorem g_call (hok : PsD ds ops n S [] a) {d i e f : Nat} {pol p : Bool} {v ve : Value} {S' : Slots} {c : Call} {fv : Operand} {caps : Array Value} {vs : List Value} (hf : IsFn P f) (hg : o.guard = some (i, pol)) (hi : (ops[i]?).bind (·.dst) = some e) (he : S.lookup e = some ve) (hp : wantB ve pol = p) (hd : o.dst = some d) (hdn : d < n)
  (hS : p = true → SlD ds n S a → SlD ds n S' a) (ho : o.op = .call c) (hcv : c.callee = .value fv) (hfv : evS S' fv = some (.func (.func f) #[] caps)) (hx : c.args.toList.mapM (evS S') = some vs)
  (hc : p = true → Calls P f (vs.toArray ++ caps) w (Ret fun r w' => r = v ∧ Below w.heap.size w w')) (h : ∀ a' w', Below w.heap.size w w' → PsD ds ops n ((d, cond p v undef) :: S) [] a' → wpList P ops Q rest a' w') : wpList P ops Q (o :: rest) a w := by
 have hw := wanted_want (ops := ops) hg hi (hok.sl.2.2 _ _ he)
 unfold wpList
 rw [hw, hp]
 cases p with
 | true =>
  have hS' := hS rfl hok.sl
  rw [if_pos rfl]
  left
  have e1 : c.args.map a.eval = vs.toArray := by
   apply Array.toList_inj.1
   rw [Array.toList_map, evs_map (fun x u hx => hS'.ev hx) _ _ hx]
  unfold Oper.wp
  rw [run_callv hf ho hcv (hS'.ev hfv) e1, Oper.upon_enter]
  refine (hc rfl).mono fun ed w' he => ?_
  cases ed with
  | returned r =>
   obtain ⟨rfl, hbl⟩ := he
   show wpList P ops Q rest (a.put o.dst _) w'
   rw [hd]
   exact h _ _ hbl (hok.put hdn rfl _)
  | panicked c => exact he.elim
  | outgrown => exact he.elim
 | false =>
  rw [if_neg (by simp), hd]
  exact h _ _ (Below.refl _ _) (hok.put hdn rfl _)

/-- .. that turns the world where the guard held -/
theorem g_if (hok : PsD ds ops n S [] a) {d i e : Nat} {pol p : Bool} {ve : Value} (hg : o.guard = some (i, pol)) (hi : (ops[i]?).bind (·.dst) = some e) (he : S.lookup e = some ve) (hp : wantB ve pol = p) (hd : o.dst = some d) (hdn : d < n)
  (hyes : p = true → wpList P ops Q ({ o with guard := none } :: rest) a w) (hno : p = false → ∀ a', PsD ds ops n ((d, undef) :: S) [] a' → wpList P ops Q rest a' w) : wpList P ops Q (o :: rest) a w := by
 have hw := wanted_want (ops := ops) hg hi (hok.sl.2.2 _ _ he)
 cases p with
 | true =>
  have h := hyes rfl
  unfold wpList at h ⊢
  rw [if_pos (wanted_none rfl _)] at h
  rw [hw, hp, if_pos rfl]
  exact h
 | false =>
  unfold wpList
  rw [hw, hp, if_neg (by simp), hd]
  exact hno rfl _ (hok.put hdn rfl _)

end

end Go.Proofs.YtglfajjcgbfehaaGreat
