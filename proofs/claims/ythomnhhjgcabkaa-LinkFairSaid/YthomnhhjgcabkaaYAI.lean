/- Pointers to arrays. No program is named here. -/
import Derived.Test.YthomnhhjgcabkaaYB
namespace Go.Proofs.Ythomnhhjgcabkaa
open Go.RowKit
theorem Ob_apix {P : Program} {ev : Operand → Option Value} {o : Oper} {w : World} {t n e m : Nat} {x i : Operand} {b off : Nat} {k : IntKind} {z : Int} (j : Nat) (ho : o.op = .indexAddr t x i) (hx : ev x = some (.pointer (some ⟨b, off, none⟩))) (hi : ev i = some (.int k z)) (hu : P.underlying t = some (.array n e)) (hs : (P.info? e).map (·.size) = some m) (hz : z = (j : Int)) (hj : j < n) :
  Ob P ev o (.pointer (some ⟨b, off + j * m, none⟩)) w := by
 intro ρ hρ
 obtain ⟨inf, hinf, hm⟩ := Option.map_eq_some_iff.1 hs
 subst hz
 unfold execOp
 have h1 : (0 : Int) ≤ (j : Int) ∧ (j : Int) < (n : Int) := by omega
 simp [ho, hρ _ _ hx, hρ _ _ hi, Instr.indexAt, Instr.sureAddr, asIntOf, run_underlying hu, run_sizeOf_of hinf, hj, addr_add, hm]

end Go.Proofs.Ythomnhhjgcabkaa
