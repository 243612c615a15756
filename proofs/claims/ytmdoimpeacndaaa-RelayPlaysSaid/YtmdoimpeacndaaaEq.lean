/- Equality of structs, as the model has it, is equality of the plain data. -/
import Derived.Test.YtmdoimpeacndaaaSt3
import Derived.Test.YtmdoimpeacndaaaData
import Derived.Test.YtmdoimpeacndaaaProg
namespace Go.Proofs.Ytmdoimpeacndaaa
open Go.RowKit

theorem fieldsOf_of {P : Program} {t : Nat} {fs : Array Field} (h : P.underlying t = some (.struct fs)) : P.fieldsOf t = fs := by simp [Program.fieldsOf, h]

theorem beqS (x y : ByteArray) : (x.toList == y.toList) = decide (x = y) := seqB_eq x y

theorem run_eqGuard_agg {P : Program} {t : Nat} (h : P.eqGuardType P.depth t = false) (op : BinOp) (x y : Operand) (a b : Array Value) (w : World) : (eqGuard op t x y (.agg a) (.agg b)).run P w = .ok () w := by
  unfold eqGuard
  cases op <;> simp [h]

theorem neq_DOp (x y : DOp) (w : World) : (binOp .neq 116 (.agg (cDOp x).toArray) (.agg (cDOp y).toArray)).run Try.prog w = .ok (.bool (!decide (x = y))) w := by
  have h1 := run_equalIn_struct (P := Try.prog) w 9999 116 (cDOp x).toArray (cDOp y).toArray (by rw [fieldsOf_of Try.underlying116]; exact Try.underlying116) (by kernel_rfl)
  rw [run_neq_struct, h1, fieldsOf_of Try.underlying116]
  simp [Op.eqFields, part, isAgg, cDOp, beqS, run_underlying Try.underlying9, run_equalIn_string w 9998 9 _ _ Try.underlying9, run_underlying Try.underlying4, run_equalIn_bool' w 9998 4 _ _ Try.underlying4]
  obtain ⟨a0, a1, a2⟩ := x; obtain ⟨b0, b1, b2⟩ := y
  simp only [DOp.mk.injEq]
  by_cases q0 : a0 = b0 <;> by_cases q1 : a1 = b1 <;> by_cases q2 : a2 = b2 <;> simp [q0, q1, q2]

theorem eqg_DOp (op : BinOp) (x y : Operand) (a b : Array Value) (w : World) : (eqGuard op 116 x y (.agg a) (.agg b)).run Try.prog w = .ok () w := run_eqGuard_agg (by kernel_rfl) op x y a b w

theorem neq_DMember (x y : DMember) (w : World) : (binOp .neq 101 (.agg (cDMember x).toArray) (.agg (cDMember y).toArray)).run Try.prog w = .ok (.bool (!decide (x = y))) w := by
  have h1 := run_equalIn_struct (P := Try.prog) w 9999 101 (cDMember x).toArray (cDMember y).toArray (by rw [fieldsOf_of Try.underlying101]; exact Try.underlying101) (by kernel_rfl)
  rw [run_neq_struct, h1, fieldsOf_of Try.underlying101]
  simp [Op.eqFields, part, isAgg, cDMember, beqS, run_underlying Try.underlying3, run_equalIn_int w 9998 3 _ _ _ _ Try.underlying3]
  obtain ⟨a0, a1⟩ := x; obtain ⟨b0, b1⟩ := y
  simp only [DMember.mk.injEq]
  by_cases q0 : a0 = b0 <;> by_cases q1 : a1 = b1 <;> simp [q0, q1]

theorem eqg_DMember (op : BinOp) (x y : Operand) (a b : Array Value) (w : World) : (eqGuard op 101 x y (.agg a) (.agg b)).run Try.prog w = .ok () w := run_eqGuard_agg (by kernel_rfl) op x y a b w

theorem neq_DPair (x y : DPair) (w : World) : (binOp .neq 104 (.agg (cDPair x).toArray) (.agg (cDPair y).toArray)).run Try.prog w = .ok (.bool (!decide (x = y))) w := by
  have h1 := run_equalIn_struct (P := Try.prog) w 9999 104 (cDPair x).toArray (cDPair y).toArray (by rw [fieldsOf_of Try.underlying104]; exact Try.underlying104) (by kernel_rfl)
  rw [run_neq_struct, h1, fieldsOf_of Try.underlying104]
  simp [Op.eqFields, part, isAgg, cDPair, beqS, run_underlying Try.underlying9, run_equalIn_string w 9998 9 _ _ Try.underlying9]
  obtain ⟨a0, a1⟩ := x; obtain ⟨b0, b1⟩ := y
  simp only [DPair.mk.injEq]
  by_cases q0 : a0 = b0 <;> by_cases q1 : a1 = b1 <;> simp [q0, q1]

theorem eqg_DPair (op : BinOp) (x y : Operand) (a b : Array Value) (w : World) : (eqGuard op 104 x y (.agg a) (.agg b)).run Try.prog w = .ok () w := run_eqGuard_agg (by kernel_rfl) op x y a b w

theorem eql_DPin (x y : DPin) (w : World) : (binOp .eql 78 (.agg (cDPin x).toArray) (.agg (cDPin y).toArray)).run Try.prog w = .ok (.bool (decide (x = y))) w := by
  have h1 := run_equalIn_struct (P := Try.prog) w 9999 78 (cDPin x).toArray (cDPin y).toArray (by rw [fieldsOf_of Try.underlying78]; exact Try.underlying78) (by kernel_rfl)
  rw [run_eql_struct, h1, fieldsOf_of Try.underlying78]
  simp [Op.eqFields, part, isAgg, cDPin, beqS, run_underlying Try.underlying3, run_equalIn_int w 9998 3 _ _ _ _ Try.underlying3, run_underlying Try.underlying24, run_equalIn_int w 9998 24 _ _ _ _ Try.underlying24]
  obtain ⟨a0, a1, a2⟩ := x; obtain ⟨b0, b1, b2⟩ := y
  simp only [DPin.mk.injEq]
  by_cases q0 : a0 = b0 <;> by_cases q1 : a1 = b1 <;> by_cases q2 : a2 = b2 <;> simp [q0, q1, q2] <;> omega

theorem eqg_DPin (op : BinOp) (x y : Operand) (a b : Array Value) (w : World) : (eqGuard op 78 x y (.agg a) (.agg b)).run Try.prog w = .ok () w := run_eqGuard_agg (by kernel_rfl) op x y a b w

theorem eql_DAnswer (x y : DAnswer) (w : World) : (binOp .eql 80 (.agg (cDAnswer x).toArray) (.agg (cDAnswer y).toArray)).run Try.prog w = .ok (.bool (decide (x = y))) w := by
  have h1 := run_equalIn_struct (P := Try.prog) w 9999 80 (cDAnswer x).toArray (cDAnswer y).toArray (by rw [fieldsOf_of Try.underlying80]; exact Try.underlying80) (by kernel_rfl)
  rw [run_eql_struct, h1, fieldsOf_of Try.underlying80]
  simp [Op.eqFields, part, isAgg, cDAnswer, beqS, run_underlying Try.underlying3, run_equalIn_int w 9998 3 _ _ _ _ Try.underlying3, run_underlying Try.underlying27, run_equalIn_int w 9998 27 _ _ _ _ Try.underlying27]
  obtain ⟨a0, a1, a2, a3⟩ := x; obtain ⟨b0, b1, b2, b3⟩ := y
  simp only [DAnswer.mk.injEq]
  by_cases q0 : a0 = b0 <;> by_cases q1 : a1 = b1 <;> by_cases q2 : a2 = b2 <;> by_cases q3 : a3 = b3 <;> simp [q0, q1, q2, q3]

theorem eqg_DAnswer (op : BinOp) (x y : Operand) (a b : Array Value) (w : World) : (eqGuard op 80 x y (.agg a) (.agg b)).run Try.prog w = .ok () w := run_eqGuard_agg (by kernel_rfl) op x y a b w

end Go.Proofs.Ytmdoimpeacndaaa
