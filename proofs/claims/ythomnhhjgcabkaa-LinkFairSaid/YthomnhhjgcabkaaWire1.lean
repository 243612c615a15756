/- The walks of the reference of 'wire': what writes and what reads parts of a message. -/
import Derived.Test.YthomnhhjgcabkaaVarnum
namespace Go.Proofs.Ythomnhhjgcabkaa
open Go.RowKit

structure DWriterR where
 s : ByteArray
 e : Int

instance : Inhabited DWriterR := ⟨⟨ByteArray.empty, 0⟩⟩

instance : DecidableEq DWriterR := fun x y => by cases x; cases y; simp only [DWriterR.mk.injEq]; infer_instance

structure DReaderR where
 s : ByteArray
 at_ : Int
 e : Int

instance : Inhabited DReaderR := ⟨⟨ByteArray.empty, 0, 0⟩⟩

instance : DecidableEq DReaderR := fun x y => by cases x; cases y; simp only [DReaderR.mk.injEq]; infer_instance

structure DReader where
 s : ByteArray
 at_ : Int
 e : Int
 made : Bool

instance : Inhabited DReader := ⟨⟨ByteArray.empty, 0, 0, false⟩⟩

instance : DecidableEq DReader := fun x y => by cases x; cases y; simp only [DReader.mk.injEq]; infer_instance

-- what is written: the text so far, the first error
-- what is read: the text, the place, the first error
/-- a reading is sound -/
def rdOk (r : DReaderR) : Prop := 0 ≤ r.at_ ∧ r.at_ ≤ (r.s.size : Int) ∧ r.s.size ≤ maxLen ∧ 0 ≤ r.e ∧ r.e ≤ 21

-- (no (*catena/catenaref02.Reader).Left in this seat)

end Go.Proofs.Ythomnhhjgcabkaa
