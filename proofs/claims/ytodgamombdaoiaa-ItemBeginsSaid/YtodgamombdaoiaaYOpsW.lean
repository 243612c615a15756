/- Operations and entries: read out of bytes, there and back; the same. -/
import Derived.Test.YtodgamombdaoiaaYOpsV
namespace Go.Proofs.Ytodgamombdaoiaa

-- there and back
-- the same
-- entries
theorem item_Check (e : EEntry) : F_item_Check e = some (batchCheck e.batch) := by unfold F_item_Check; rw [ops_Check]; rfl

theorem ref08_Check (e : EEntry) : F_ref08_Check e = some (batchCheck e.batch) := by unfold F_ref08_Check; rw [ref06_Check]; rfl

end Go.Proofs.Ytodgamombdaoiaa
