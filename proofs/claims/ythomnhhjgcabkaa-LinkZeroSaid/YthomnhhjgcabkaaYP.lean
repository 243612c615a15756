/- Plain functions: how their loops are told. No program is named here. -/
import Derived.Test.YthomnhhjgcabkaaYB
import Derived.Test.YthomnhhjgcabkaaBd
namespace Go.Proofs.Ythomnhhjgcabkaa

theorem gif_true {α : Type} {x : Option α} {d : α} : gif true x d = x := rfl

end Go.Proofs.Ythomnhhjgcabkaa
