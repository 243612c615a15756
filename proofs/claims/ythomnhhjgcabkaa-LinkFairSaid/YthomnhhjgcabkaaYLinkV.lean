/- Links: what a step may be. -/
import Derived.Test.YthomnhhjgcabkaaYLinkP2
import Derived.Test.YthomnhhjgcabkaaYLinkG
namespace Go.Proofs.Ythomnhhjgcabkaa

structure bdElaw22_Step (x : Elaw22_Step) : Prop where
 k : inI x.k
 n : inB x.n
 again : bdT x.again

end Go.Proofs.Ythomnhhjgcabkaa
