/- Many versions: the document's store. -/
import Derived.Test.YtglfajjcgbfehaaYMv1
import Derived.Test.YtglfajjcgbfehaaYRv
namespace Go.Proofs.Ytglfajjcgbfehaa
open Go.RowKit
structure Eref16_Row where
 k : ByteArray
 l : List ECell

instance : Inhabited Eref16_Row := ⟨⟨ByteArray.empty, []⟩⟩

structure Eref16_Store where
 l : List Eref16_Row
 last : Int

instance : Inhabited Eref16_Store := ⟨⟨[], 0⟩⟩

end Go.Proofs.Ytglfajjcgbfehaa
