/- Plain functions: how their loops are told. No program is named here. -/
import Derived.Test.YtlgejpompnbfoaaYB
import Derived.Test.YtlgejpompnbfoaaBd
namespace Go.Proofs.Ytlgejpompnbfoaa

theorem chk_t {β : Type} {p : Prop} [Decidable p] {k : Option β} (h : p) : chk p k = k := if_pos h

end Go.Proofs.Ytlgejpompnbfoaa
