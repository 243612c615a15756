/- Messages: their own parts, and whether two are the same. -/
import Derived.Test.YtaknkbbjimielaaYMsP
namespace Go.Proofs.Ytaknkbbjimielaa

-- their own parts
-- the same
structure bdS (a : EMsg) : Prop where
 c : a.conf.members.length ≤ bdM
 o : a.batch.ops.length ≤ bdM
 e : a.entries.length ≤ bdM
 eo : ∀ k, k < a.entries.length → (a.entries.getD k default).batch.ops.length ≤ bdM
 s : a.stamps.length ≤ bdM
 p : a.pairs.length ≤ bdM

end Go.Proofs.Ytaknkbbjimielaa
