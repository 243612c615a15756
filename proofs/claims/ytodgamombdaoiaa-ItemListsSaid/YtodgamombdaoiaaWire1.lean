/- The walks of the reference of 'wire': what writes and what reads parts of a message. -/
import Derived.Test.YtodgamombdaoiaaVarnum
namespace Go.Proofs.Ytodgamombdaoiaa
open Go.RowKit

structure DWriterR where
 s : ByteArray
 e : Int

instance : Inhabited DWriterR := ⟨⟨ByteArray.empty, 0⟩⟩

instance : DecidableEq DWriterR := fun x y => by cases x; cases y; simp only [DWriterR.mk.injEq]; infer_instance

structure DReaderR where
 s : ByteArray
 at_ : Int
 e : Int

instance : Inhabited DReaderR := ⟨⟨ByteArray.empty, 0, 0⟩⟩

instance : DecidableEq DReaderR := fun x y => by cases x; cases y; simp only [DReaderR.mk.injEq]; infer_instance

structure DReader where
 s : ByteArray
 at_ : Int
 e : Int
 made : Bool

instance : Inhabited DReader := ⟨⟨ByteArray.empty, 0, 0, false⟩⟩

instance : DecidableEq DReader := fun x y => by cases x; cases y; simp only [DReader.mk.injEq]; infer_instance

-- what is written: the text so far, the first error
def wPut (w : DWriterR) (t : ByteArray) : DWriterR := if w.e = 0 then { w with s := w.s ++ t } else w

def wNum (w : DWriterR) (n : Int) : DWriterR := if w.e = 0 ∧ n < 0 then { w with e := 5 } else wPut w (vput n.toNat)

def wText (w : DWriterR) (t : ByteArray) : DWriterR := wPut w (vput t.size ++ t)

def wFlag (w : DWriterR) (b : Bool) : DWriterR := wPut w (vput (if b then 1 else 0))

def wDone (w : DWriterR) : ByteArray := if w.e = 0 then w.s else ByteArray.empty

theorem vput_le (n : Nat) : (vput n).size ≤ 9 := by
 have := needsN_le n
 rw [vput_size]; split <;> omega

-- what is read: the text, the place, the first error
/-- a reading is sound -/
def rdOk (r : DReaderR) : Prop := 0 ≤ r.at_ ∧ r.at_ ≤ (r.s.size : Int) ∧ r.s.size ≤ maxLen ∧ 0 ≤ r.e ∧ r.e ≤ 21

-- (no (*catena/catenaref02.Reader).Left in this seat)

end Go.Proofs.Ytodgamombdaoiaa
