/- Walks of functions by what they compute: the plain function's checks, loops and joints; slices as opaque values. No program is named here. -/
import Derived.Test.YtlgejpompnbfoaaQS
import Derived.Laws.Pointers
namespace Go.Proofs.Ytlgejpompnbfoaa
open Go.RowKit
variable {ds : List Deferred}

/-- a check -/
def chk {β : Type} (p : Prop) [Decidable p] (k : Option β) : Option β := if p then k else none

theorem chk_in {β : Type} {p : Prop} [Decidable p] {k : Option β} {r : β} (h : chk p k = some r) : p ∧ k = some r := by
 unfold chk at h
 split at h
 ·exact ⟨by assumption, h⟩
 ·cases h

theorem bnd_in {α β : Type} {x : Option α} {k : α → Option β} {r : β} (h : x.bind k = some r) : ∃ y, x = some y ∧ k y = some r := by
 cases x with
 | none => cases h
 | some y => exact ⟨y, rfl, h⟩

theorem some_in {β : Type} {x r : β} (h : some x = some r) : x = r := Option.some.inj h

/-- .. under a guard -/
def gif {α : Type} (p : Bool) (x : Option α) (d : α) : Option α := if p = true then x else some d

theorem gif_in {α : Type} {p : Bool} {x : Option α} {d y : α} (h : gif p x d = some y) (hp : p = true) : x = some y := by unfold gif at h; rwa [if_pos hp] at h

section flow
variable {P : Program} {Q : Exit → Act → World → Prop} {a : Act} {w : World} {n : Nat} {S : Slots}

end flow

-- numbers
def inI (x : Int) : Prop := -9223372036854775808 ≤ x ∧ x ≤ 9223372036854775807

def inU (x : Int) : Prop := 0 ≤ x ∧ x ≤ 18446744073709551615

def inB (x : Int) : Prop := 0 ≤ x ∧ x ≤ 255

def inH (x : Int) : Prop := 0 ≤ x ∧ x ≤ 65535

instance (x : Int) : Decidable (inI x) := inferInstanceAs (Decidable (_ ∧ _))

instance (x : Int) : Decidable (inU x) := inferInstanceAs (Decidable (_ ∧ _))

instance (x : Int) : Decidable (inB x) := inferInstanceAs (Decidable (_ ∧ _))

instance (x : Int) : Decidable (inH x) := inferInstanceAs (Decidable (_ ∧ _))

-- slices as opaque values
section obs
variable {P : Program} (T : Tab P) {ev : Operand → Option Value} {o : Oper} {w : World}

end obs

section els
variable {α : Type} [Inhabited α] {R : Rp α} {A : Nat → Prop} {w : World} {v : Value} {l : List α} {z : Int}

end els

section hf
variable {I0 D : Dm} {w0 : World} {I : Dm} {w : World} {cs : List Ch} {α : Type} {R : Rp α}

end hf

section rules
variable {P : Program} (T : Tab P) {ops : Array Oper} {Q : Exit → Act → World → Prop} {a : Act} {w : World} {rest : List Oper} {o : Oper} {n : Nat} {S : Slots} {G : List GV}
variable {I0 D : Dm} {w0 : World} {I : Dm} {cs : List Ch}

end rules

-- readings
instance : Inhabited ByteArray := ⟨ByteArray.empty⟩

section obs2
variable {P : Program} (T : Tab P) {ev : Operand → Option Value} {o : Oper} {w : World}
end obs2

section parts
variable {I0 D : Dm} {w0 : World} {I : Dm} {w : World} {cs : List Ch} {α : Type} {R : Rp α}
end parts

theorem plainC {P : Program} {f : Nat} {args : Array Value} {I : Dm} {w : World} {x : Value} {cs : List Ch} (h : Calls P f args w (Ret fun v w' => v = x ∧ ∃ I', Hf I NoD w I' w' cs)) : Calls P f args w (Ret fun r w' => r = x ∧ Below w.heap.size w w') :=
 Ret.mono h fun _ _ h => ⟨h.1, h.2.choose_spec.below fun _ h => h⟩

section rules3
variable {P : Program} (T : Tab P) {ops : Array Oper} {Q : Exit → Act → World → Prop} {a : Act} {w : World} {rest : List Oper} {o : Oper} {n : Nat} {S : Slots}
variable {I0 D : Dm} {w0 : World} {I : Dm} {cs : List Ch}
/-- a call under a guard that turns the world -/
theorem h_gcall (hok : PsD ds ops n S [] a) (H : Hf I0 D w0 I w cs) {js : List (Nat × Bool)} {cin rst : List Ch} (hp0 : pickN js cs = some (cin, rst)) {d i e f : Nat} {pol p : Bool} {v ve : Value} {S' : Slots} {c : Call} {fv : Operand} {caps : Array Value} {vs : List Value} (co : Bool → List Ch) (hf : IsFn P f)
  (hg : o.guard = some (i, pol)) (hi : (ops[i]?).bind (·.dst) = some e) (he : S.lookup e = some ve) (hp : wantB ve pol = p) (hd : o.dst = some d) (hdn : d < n)
  (hS : p = true → SlD ds n S a → SlD ds n S' a) (ho : o.op = .call c) (hcv : c.callee = .value fv) (hfv : evS S' fv = some (.func (.func f) #[] caps)) (hx : c.args.toList.mapM (evS S') = some vs)
  (hc : p = true → ∀ D1, St I D1 w cin → Calls P f (vs.toArray ++ caps) w (Ret fun r w' => r = v ∧ ∃ I', Hf I D1 w I' w' (co true))) (hno : p = false → Hf I0 D w0 I w (co false ++ rst))
  (h : ∀ a' w' I2, Hf I0 D w0 I2 w' (co p ++ rst) → PsD ds ops n ((d, cond p v undef) :: S) [] a' → wpList P ops Q rest a' w') : wpList P ops Q (o :: rest) a w := by
 have hw := wanted_want (ops := ops) hg hi (hok.sl.2.2 _ _ he)
 unfold wpList
 rw [hw, hp]
 cases p with
 | true =>
  have hS' := hS rfl hok.sl
  rw [if_pos rfl]
  left
  have e1 : c.args.map a.eval = vs.toArray := by
   apply Array.toList_inj.1
   rw [Array.toList_map, evs_map (fun x u hx => hS'.ev hx) _ _ hx]
  unfold Oper.wp
  rw [run_callv hf ho hcv (hS'.ev hfv) e1, Oper.upon_enter]
  obtain ⟨D1, h1, h2⟩ := H.call hp0
  refine (hc rfl D1 h1).mono fun ed w' he => ?_
  cases ed with
  | returned r =>
   obtain ⟨rfl, I', K⟩ := he
   show wpList P ops Q rest (a.put o.dst _) w'
   rw [hd]
   exact h _ _ _ (h2 K) (hok.put hdn rfl _)
  | panicked c => exact he.elim
  | outgrown => exact he.elim
 | false =>
  rw [if_neg (by simp), hd]
  exact h _ _ _ (hno rfl) (hok.put hdn rfl _)

end rules3

-- pointers that may be nil
section opt
variable {I0 D : Dm} {w0 : World} {I : Dm} {w : World} {cs : List Ch} {α : Type} {K : Nat → α → Ch}
end opt
-- a drawn region whose facts may name the value of one operation ahead
section lrules2
variable {P : Program} (T : Tab P) {ops : Array Oper} {Fv : Value → World → Prop} {a : Act} {w : World} {o : Oper} {n : Nat} {S : Slots}
variable {I0 D : Dm} {w0 : World} {I : Dm} {cs : List Ch}
end lrules2

end Go.Proofs.Ytlgejpompnbfoaa
