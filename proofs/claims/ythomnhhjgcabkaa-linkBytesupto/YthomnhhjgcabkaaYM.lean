/- Maps: a block that holds one, as a list of pairs, each key once. No program is named here. -/
import Derived.Test.YthomnhhjgcabkaaYB
import Derived.WideKeyPair
import Derived.DeepKeys5
import Derived.ChangeKeysEq
namespace Go.Proofs.Ythomnhhjgcabkaa
open Go.RowKit
open Go.WideMaps (KeyLaw)

section pure
variable {α β : Type} [DecidableEq α]
end pure

/-- how a map's keys and values stand in memory -/
structure MapE (α β : Type) where
 ke : α → Value
 ve : β → Value
 ok : α → Prop
 inj : ∀ a b, ok a → ok b → ke a = ke b → a = b

variable {α β : Type} [DecidableEq α]
section
variable {P : Program} {w : World} {t kt et b clock : Nat} {M : MapE α β} {l : List (α × β)} {es : Array MapEntry}
end

theorem run_maxN {P : Program} {k : IntKind} (w : World) : ∀ (vs : List Int) (x : Int), ((vs.map fun z => Value.int k z).foldlM Builtin.max2 (.int k x)).run P w = .ok (.int k (vs.foldl max x)) w
 | [], x => by simp
 | y :: r, x => by
  have h : (Builtin.max2 (.int k x) (.int k y)).run P w = .ok (.int k (max x y)) w := by
   simp [Builtin.max2]; split <;> omega
  rw [List.map_cons, List.foldlM_cons, Sem.run_bind, h]
  exact run_maxN w r (max x y)

theorem Ob_maxN {P : Program} {o : Oper} {w : World} {ev : Operand → Option Value} {k : IntKind} {c : Call} (x : Int) (vs : List Int) (ho : o.op = .call c) (hc : c.callee = .builtin .max) (hx : c.args.toList.mapM ev = some (.int k x :: vs.map fun z => .int k z)) : Ob P ev o (.int k (vs.foldl max x)) w := by
 intro ρ hρ
 have e1 : c.args.map ρ = (Value.int k x :: vs.map fun z => .int k z).toArray := by
  apply Array.toList_inj.1
  rw [Array.toList_map, evs_map (fun x u hx => hρ x u hx) _ _ hx]
 unfold execOp
 have h2 := run_maxN (P := P) (k := k) w vs x
 simp [ho, resolve, hc, e1, invoke, builtin, Builtin.max_, h2]

section flow
variable {ds : List Deferred} {P : Program} {ops : Array Oper} {Q : Exit → Act → World → Prop} {a : Act} {w : World} {rest : List Oper} {o : Oper} {n : Nat} {S : Slots} {G : List GV}
variable {I0 D : Dm} {w0 : World} {I : Dm} {cs : List Ch}
end flow

end Go.Proofs.Ythomnhhjgcabkaa
