/- WireReads: the plain law. -/
import Derived.Test.YtlgejpompnbfoaaYW4
import Derived.Test.YtlgejpompnbfoaaYWP
namespace Go.Proofs.Ytlgejpompnbfoaa
structure bdElaw02_Part (x : Elaw02_Part) : Prop where
 k : inI x.k
 n : inI x.n
 b : inU x.b
 s : bdStr x.s
 f : bdT x.f

theorem awake02 : F_law02_awake = some true := by kernel_rfl

end Go.Proofs.Ytlgejpompnbfoaa
