/- Configurations: read out of bytes. -/
import Derived.Test.YtnkieaolhbmfpaaYConf
namespace Go.Proofs.Ytnkieaolhbmfpaa
open Go.RowKit
theorem eql_EMember (x y : EMember) (w : World) : (binOp .eql 29 (.agg (cEMember x).toArray) (.agg (cEMember y).toArray)).run Try.prog w = .ok (.bool (eqEMember x y)) w := by
  have h1 := run_equalIn_struct (P := Try.prog) w 9999 29 (cEMember x).toArray (cEMember y).toArray (by rw [fieldsOf_of Try.underlying29]; exact Try.underlying29) (by kernel_rfl)
  rw [run_eql_struct, h1, fieldsOf_of Try.underlying29]
  simp [Op.eqFields, part, isAgg, cEMember, beqS, eqEMember, seqB_eq, run_underlying Try.underlying3, run_equalIn_int w 9998 3 _ _ _ _ Try.underlying3]
  try ((repeat' split) <;> simp_all)

theorem eqg_EMember (op : BinOp) (x y : Operand) (a b : Array Value) (w : World) : (eqGuard op 29 x y (.agg a) (.agg b)).run Try.prog w = .ok () w := run_eqGuard_agg (by kernel_rfl) op x y a b w

end Go.Proofs.Ytnkieaolhbmfpaa
