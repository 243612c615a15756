/- Plain functions: how their loops are told. No program is named here. -/
import Derived.Test.YtglfajjcgbfehaaYB
import Derived.Test.YtglfajjcgbfehaaBd
namespace Go.Proofs.Ytglfajjcgbfehaa

theorem chk_t {β : Type} {p : Prop} [Decidable p] {k : Option β} (h : p) : chk p k = k := if_pos h

theorem gif_true {α : Type} {x : Option α} {d : α} : gif true x d = x := rfl

end Go.Proofs.Ytglfajjcgbfehaa
