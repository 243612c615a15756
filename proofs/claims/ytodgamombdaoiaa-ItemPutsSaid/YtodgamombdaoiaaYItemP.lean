/- Lists of entries: whether they are right, how many have timestamps, the last one; the laws of layer 8. -/
import Derived.Test.YtodgamombdaoiaaYItem1
import Derived.Test.YtodgamombdaoiaaYOpsW
namespace Go.Proofs.Ytodgamombdaoiaa

theorem awake08 : F_law08_awake = some true := by kernel_rfl

def tw (a b : EEntry) : Bool := (a.batch.client == b.batch.client) && (a.batch.req == b.batch.req)

theorem tw_self (a : EEntry) : tw a a = true := by simp [tw]

theorem ref08_Twins (a b : EEntry) : F_ref08_Twins a b = some (tw a b) := rfl

theorem item_Twins (a b : EEntry) : F_item_Twins a b = some (tw a b) := rfl

theorem pure_ItemPuts (a b : EEntry) (ha : bdEEntry a) (hb : bdEEntry b) : F_law08_ItemPuts a b = some true := by
 unfold F_law08_ItemPuts
 rw [awake08]
 split
 ·rfl
 obtain ⟨p, h1, h2, h3, _, _⟩ := entryPut_both a ha.ts
 have hl := ha.batch.ops.1
 rw [h1, h2, Option.bind_some, Option.bind_some, seqB_iff.2 rfl, beq_self_eq_true, Bool.and_self, gif_true, gif_true, item_Check, ref08_Check, Option.bind_some, Option.bind_some, beq_self_eq_true, Bool.and_self, gif_true, gif_true,
  item_Same a b hl, ref08_Same a b hl, Option.bind_some, Option.bind_some, beq_self_eq_true, Bool.and_self, gif_true, gif_true, item_Twins, ref08_Twins, Option.bind_some, Option.bind_some, beq_self_eq_true, Bool.and_self, gif_true, item_Same a a hl, sameEntry_self, Option.bind_some, Bool.and_self, gif_true, item_Twins, tw_self, Option.bind_some, Bool.and_self, gif_true]
 rfl

-- lists
-- a beginning
end Go.Proofs.Ytodgamombdaoiaa
