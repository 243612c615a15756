/- Links that nobody made. -/
import Derived.Test.YthomnhhjgcabkaaYLinkE
import Derived.Test.YthomnhhjgcabkaaYLinkP
namespace Go.Proofs.Ythomnhhjgcabkaa

theorem pure_LinkZero (s : ESeg) (t : ByteArray) (_ : bdESeg s) (_ : bdStr t) : F_law22_LinkZero s t = some true := by
 unfold F_law22_LinkZero
 rw [awake22]
 have h1 : F_link_Link_In_nil s = some ([], 8) := rfl
 have h2 : F_link_Link_In default s = some ([], 8, default) := rfl
 have h3 : F_link_Link_Send_nil t = some 8 := rfl
 have h4 : F_link_Link_Send default t = some (8, default) := rfl
 rw [h1, Option.bind_some, h2, Option.bind_some]
 dsimp only
 rw [show ((8 : Int) == 8 && (8 : Int) == 8) = true from rfl, gif_true, h3, Option.bind_some, show (true && (8 : Int) == 8) = true from rfl, gif_true, h4, Option.bind_some]
 rfl

end Go.Proofs.Ythomnhhjgcabkaa
