/- Pointers to arrays. No program is named here. -/
import Derived.Test.YtghkhndlpfmpfaaYB
namespace Go.Proofs.Ytghkhndlpfmpfaa
open Go.RowKit
theorem Ob_apix {P : Program} {ev : Operand → Option Value} {o : Oper} {w : World} {t n e m : Nat} {x i : Operand} {b off : Nat} {k : IntKind} {z : Int} (j : Nat) (ho : o.op = .indexAddr t x i) (hx : ev x = some (.pointer (some ⟨b, off, none⟩))) (hi : ev i = some (.int k z)) (hu : P.underlying t = some (.array n e)) (hs : (P.info? e).map (·.size) = some m) (hz : z = (j : Int)) (hj : j < n) :
  Ob P ev o (.pointer (some ⟨b, off + j * m, none⟩)) w := by
 intro ρ hρ
 obtain ⟨inf, hinf, hm⟩ := Option.map_eq_some_iff.1 hs
 subst hz
 unfold execOp
 have h1 : (0 : Int) ≤ (j : Int) ∧ (j : Int) < (n : Int) := by omega
 simp [ho, hρ _ _ hx, hρ _ _ hi, Instr.indexAt, Instr.sureAddr, asIntOf, run_underlying hu, run_sizeOf_of hinf, hj, addr_add, hm]

theorem run_resultsCC {P : Program} {ds : List Deferred} {n : Nat} {S : Slots} {a : Act} {w : World} {fn : Func} {t ty b t2 ty2 b2 : Nat} {v x : Value} (hr : fn.results = #[.cell t ty, .cell t2 ty2]) (hok : SlD ds n S a) (hv : S.lookup t = some (.pointer (some ⟨b, 0, none⟩))) (hl : (loadVar ty ⟨b, 0, none⟩).run P w = .ok v w) (hv2 : S.lookup t2 = some (.pointer (some ⟨b2, 0, none⟩))) (hl2 : (loadVar ty2 ⟨b2, 0, none⟩).run P w = .ok x w) : (results fn a.tmps).run P w = .ok (.tuple #[v, x]) w := by
 have h1 := hok.2.2 _ _ hv
 have h2 := hok.2.2 _ _ hv2
 simp [results, hr, h1, h2, asAddr, hl, hl2]

/-- an element of an array's value -/
theorem Ob_aixv {P : Program} (T : Tab P) {ev : Operand → Option Value} {o : Oper} {w : World} (j : Nat) {t n e : Nat} {x i : Operand} {cells : Array Value} {k : IntKind} {z : Int} {v : Value} (ho : o.op = .index t x i) (hx : ev x = some (.agg cells)) (hi : ev i = some (.int k z)) (hu : P.underlying t = some (.array n e)) (ht : T.sz e = some (1, false)) (hz : z = (j : Int)) (hj : j < n) (hc : cells[j]? = some v) : Ob P ev o v w := by
 intro ρ hρ
 subst hz
 unfold execOp
 obtain ⟨h1, h2⟩ := T.hsz ht w
 have h3 : (0 : Int) ≤ (j : Int) ∧ (j : Int) < (n : Int) := by omega
 simp only [ho, hρ _ _ hx, hρ _ _ hi, Instr.index, asIntOf, Sem.run_bind, Sem.run_pure, Result.andThen_ok, run_underlying hu, h2, h3.1, h3.2, and_self, if_true, part, h1, Nat.mul_one, Int.toNat_natCast]
 simp [hc]

end Go.Proofs.Ytghkhndlpfmpfaa
