/- Functions that defer one closure; closures that recover. No program is named here. -/
import Derived.Test.YtodgamombdaoiaaW1
import Derived.Defers
import Derived.Recover
import Derived.Laws.Pointers
namespace Go.Proofs.Ytodgamombdaoiaa
open Go.RowKit
variable {ds : List Deferred}

section
variable {P : Program} {ev : Operand → Option Value} {o : Oper} {w : World}
theorem Ob_pn {t t2 : Nat} {x y : Operand} {p q : Option Addr} {op : BinOp} {c : Bool} (ho : o.op = .binOp op t x y t2) (hx : ev x = some (.pointer p)) (hy : ev y = some (.pointer q)) (hq : q = none) {e : TypeId} (ht0 : P.underlying t = some (.pointer e)) (hc : (op = .eql ∧ c = p.isNone) ∨ (op = .neq ∧ c = !p.isNone)) : Ob P ev o (.bool c) w := by
 intro ρ hρ
 subst hq
 have ht : P.underlying t = some (.pointer (P.pointee t)) := by unfold Program.pointee; rw [ht0]
 unfold execOp
 rcases hc with ⟨rfl, rfl⟩ | ⟨rfl, rfl⟩
 ·simp [ho, hρ _ _ hx, hρ _ _ hy, run_eql_pointer_nil w t p ht, eqGuard]
 ·simp [ho, hρ _ _ hx, hρ _ _ hy, run_neq_pointer_nil w t p ht, eqGuard]

end

section
variable {P : Program} {Q : Exit → Act → World → Prop} {a : Act} {w : World} {n : Nat} {S : Slots}

end

section
variable {P : Program} {ops : Array Oper} {Q : Exit → Act → World → Prop} {a : Act} {w : World} {rest : List Oper} {o : Oper} {n : Nat} {S : Slots} {G : List GV}

end

end Go.Proofs.Ytodgamombdaoiaa
