/- Numbers as bytes, writers and readers: their contracts as plain functions. -/
import Derived.Test.YthomnhhjgcabkaaYB
import Derived.Test.YthomnhhjgcabkaaWire3
namespace Go.Proofs.Ythomnhhjgcabkaa
open Go.RowKit
structure Eref02_Writer where
 s : ByteArray
 e : Int

instance : Inhabited Eref02_Writer := ⟨⟨ByteArray.empty, 0⟩⟩

structure Eref02_Reader where
 s : ByteArray
 at_ : Int
 e : Int

instance : Inhabited Eref02_Reader := ⟨⟨ByteArray.empty, 0, 0⟩⟩

structure Ewire_Reader where
 s : ByteArray
 at_ : Int
 e : Int
 made : Bool

instance : Inhabited Ewire_Reader := ⟨⟨ByteArray.empty, 0, 0, false⟩⟩

structure Ewire_Writer where
 s : ByteArray
 e : Int

instance : Inhabited Ewire_Writer := ⟨⟨ByteArray.empty, 0⟩⟩

instance (r : DReaderR) : Decidable (rdOk r) := inferInstanceAs (Decidable (0 ≤ r.at_ ∧ r.at_ ≤ (r.s.size : Int) ∧ r.s.size ≤ maxLen ∧ 0 ≤ r.e ∧ r.e ≤ 21))

def wFits (x : DWriterR) (n : Nat) : Prop := x.e = 0 → x.s.size + n ≤ 140737488355328

instance (x : DWriterR) (n : Nat) : Decidable (wFits x n) := inferInstanceAs (Decidable (_ → _))

-- the document's writer
-- the program's writer
-- readers
end Go.Proofs.Ythomnhhjgcabkaa
