/- The program's data as plain data. No program is named here. -/
import Derived.Test.YtglfajjcgbfehaaGreatBase
namespace Go.Proofs.YtglfajjcgbfehaaGreat
open Go.RowKit
structure DOp where
 key : ByteArray
 val : ByteArray
 del : Bool

instance : Inhabited DOp := ⟨⟨ByteArray.empty, ByteArray.empty, false⟩⟩

instance : DecidableEq DOp := fun x y => by cases x; cases y; simp only [DOp.mk.injEq]; infer_instance

structure DBatch where
 client : Int
 req : Int
 ops : List DOp

instance : Inhabited DBatch := ⟨⟨0, 0, []⟩⟩

instance : DecidableEq DBatch := fun x y => by cases x; cases y; simp only [DBatch.mk.injEq]; infer_instance

structure DEntry where
 batch : DBatch
 ts : Nat

instance : Inhabited DEntry := ⟨⟨default, 0⟩⟩

instance : DecidableEq DEntry := fun x y => by cases x; cases y; simp only [DEntry.mk.injEq]; infer_instance

structure DMember where
 id : Int
 serial : Int

instance : Inhabited DMember := ⟨⟨0, 0⟩⟩

instance : DecidableEq DMember := fun x y => by cases x; cases y; simp only [DMember.mk.injEq]; infer_instance

structure DConf where
 epoch : Int
 members : List DMember
 floor : Nat

instance : Inhabited DConf := ⟨⟨0, [], 0⟩⟩

instance : DecidableEq DConf := fun x y => by cases x; cases y; simp only [DConf.mk.injEq]; infer_instance

structure DPair where
 key : ByteArray
 val : ByteArray

instance : Inhabited DPair := ⟨⟨ByteArray.empty, ByteArray.empty⟩⟩

instance : DecidableEq DPair := fun x y => by cases x; cases y; simp only [DPair.mk.injEq]; infer_instance

structure DPin where
 id : Int
 at_ : Nat
 left : Int

instance : Inhabited DPin := ⟨⟨0, 0, 0⟩⟩

instance : DecidableEq DPin := fun x y => by cases x; cases y; simp only [DPin.mk.injEq]; infer_instance

structure DAnswer where
 client : Int
 req : Int
 e : Int
 pin : Int

instance : Inhabited DAnswer := ⟨⟨0, 0, 0, 0⟩⟩

instance : DecidableEq DAnswer := fun x y => by cases x; cases y; simp only [DAnswer.mk.injEq]; infer_instance

structure DMsg where
 k : Int
 epoch : Int
 req : Int
 serial : Int
 flag : Bool
 at_ : Nat
 last : Nat
 n : Int
 m : Int
 p : Int
 e : Int
 key : ByteArray
 to_ : ByteArray
 conf : DConf
 batch : DBatch
 entries : List DEntry
 stamps : List Nat
 pairs : List DPair

instance : Inhabited DMsg := ⟨⟨0, 0, 0, 0, false, 0, 0, 0, 0, 0, 0, ByteArray.empty, ByteArray.empty, default, default, [], [], []⟩⟩

instance : DecidableEq DMsg := fun x y => by cases x; cases y; simp only [DMsg.mk.injEq]; infer_instance

structure DNote where
 k : Int
 n : Int
 at_ : Nat
 conf : DConf
 legit : List Int
 entry : DEntry
 pin : DPin
 said : DAnswer

instance : Inhabited DNote := ⟨⟨0, 0, 0, default, [], default, default, default⟩⟩

instance : DecidableEq DNote := fun x y => by cases x; cases y; simp only [DNote.mk.injEq]; infer_instance

end Go.Proofs.YtglfajjcgbfehaaGreat
