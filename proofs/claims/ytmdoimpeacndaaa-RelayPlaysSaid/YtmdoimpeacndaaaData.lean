/- The program's data as plain data. No program is named here. -/
import Derived.Test.YtmdoimpeacndaaaBase
namespace Go.Proofs.Ytmdoimpeacndaaa
open Go.RowKit
structure DOp where
  key : ByteArray
  val : ByteArray
  del : Bool

instance : Inhabited DOp := ⟨⟨ByteArray.empty, ByteArray.empty, false⟩⟩

instance : DecidableEq DOp := fun x y => by cases x; cases y; simp only [DOp.mk.injEq]; infer_instance

def okDOp (x : DOp) : Prop := x.key.size ≤ maxLen ∧ x.val.size ≤ maxLen

def cDOp (x : DOp) : List Value := [.string x.key, .string x.val, .bool x.del]

def RDOp : Rp DOp := Rp.flat 3 okDOp (fun x => cDOp x) (fun _ => rfl) (fun x c hc => by simp only [cDOp, List.mem_cons, List.not_mem_nil, or_false] at hc; rcases hc with rfl | rfl | rfl <;> rfl)

structure DBatch where
  client : Int
  req : Int
  ops : List DOp

instance : Inhabited DBatch := ⟨⟨0, 0, []⟩⟩

instance : DecidableEq DBatch := fun x y => by cases x; cases y; simp only [DBatch.mk.injEq]; infer_instance

def okDBatch (x : DBatch) : Prop := i64ok x.client ∧ i64ok x.req

def cDBatch (x : DBatch) (v0 : Value) : List Value := [.int .i64 x.client, .int .i64 x.req, v0]

def RDBatch : Rp DBatch where
  n := 3
  rep A w cs x := ∃ v0 : Value, cs = cDBatch x v0 ∧ slRep RDOp A w v0 x.ops ∧ okDBatch x
  len := fun ⟨v0, h, _⟩ => by rw [h]; rfl
  one := fun ⟨v0, h, s0, _⟩ c hc => by
    rw [h] at hc
    simp only [cDBatch, List.mem_cons, List.not_mem_nil, or_false] at hc
    rcases hc with rfl | rfl | rfl
    · rfl
    · rfl
    · exact s0.one
  mono := fun ⟨v0, h, s0, ok⟩ hA hk => ⟨v0, h, s0.mono hA hk, ok⟩
  bound := fun ⟨v0, h, s0, ok⟩ => ⟨v0, h, s0.bound, ok⟩

structure DEntry where
  batch : DBatch
  ts : Nat

instance : Inhabited DEntry := ⟨⟨default, 0⟩⟩

instance : DecidableEq DEntry := fun x y => by cases x; cases y; simp only [DEntry.mk.injEq]; infer_instance

def okDEntry (x : DEntry) : Prop := okDBatch x.batch ∧ x.ts < 18446744073709551616

def cDEntry (x : DEntry) (v0 : Value) : List Value := [.int .i64 x.batch.client, .int .i64 x.batch.req, v0, .int .u64 x.ts]

def RDEntry : Rp DEntry where
  n := 4
  rep A w cs x := ∃ v0 : Value, cs = cDEntry x v0 ∧ slRep RDOp A w v0 x.batch.ops ∧ okDEntry x
  len := fun ⟨v0, h, _⟩ => by rw [h]; rfl
  one := fun ⟨v0, h, s0, _⟩ c hc => by
    rw [h] at hc
    simp only [cDEntry, List.mem_cons, List.not_mem_nil, or_false] at hc
    rcases hc with rfl | rfl | rfl | rfl
    · rfl
    · rfl
    · exact s0.one
    · rfl
  mono := fun ⟨v0, h, s0, ok⟩ hA hk => ⟨v0, h, s0.mono hA hk, ok⟩
  bound := fun ⟨v0, h, s0, ok⟩ => ⟨v0, h, s0.bound, ok⟩

structure DMember where
  id : Int
  serial : Int

instance : Inhabited DMember := ⟨⟨0, 0⟩⟩

instance : DecidableEq DMember := fun x y => by cases x; cases y; simp only [DMember.mk.injEq]; infer_instance

def okDMember (x : DMember) : Prop := i64ok x.id ∧ i64ok x.serial

def cDMember (x : DMember) : List Value := [.int .i64 x.id, .int .i64 x.serial]

def RDMember : Rp DMember := Rp.flat 2 okDMember (fun x => cDMember x) (fun _ => rfl) (fun x c hc => by simp only [cDMember, List.mem_cons, List.not_mem_nil, or_false] at hc; rcases hc with rfl | rfl <;> rfl)

structure DConf where
  epoch : Int
  members : List DMember
  floor : Nat

instance : Inhabited DConf := ⟨⟨0, [], 0⟩⟩

instance : DecidableEq DConf := fun x y => by cases x; cases y; simp only [DConf.mk.injEq]; infer_instance

def okDConf (x : DConf) : Prop := i64ok x.epoch ∧ x.floor < 18446744073709551616

def cDConf (x : DConf) (v0 : Value) : List Value := [.int .i64 x.epoch, v0, .int .u64 x.floor]

def RDConf : Rp DConf where
  n := 3
  rep A w cs x := ∃ v0 : Value, cs = cDConf x v0 ∧ slRep RDMember A w v0 x.members ∧ okDConf x
  len := fun ⟨v0, h, _⟩ => by rw [h]; rfl
  one := fun ⟨v0, h, s0, _⟩ c hc => by
    rw [h] at hc
    simp only [cDConf, List.mem_cons, List.not_mem_nil, or_false] at hc
    rcases hc with rfl | rfl | rfl
    · rfl
    · exact s0.one
    · rfl
  mono := fun ⟨v0, h, s0, ok⟩ hA hk => ⟨v0, h, s0.mono hA hk, ok⟩
  bound := fun ⟨v0, h, s0, ok⟩ => ⟨v0, h, s0.bound, ok⟩

structure DPair where
  key : ByteArray
  val : ByteArray

instance : Inhabited DPair := ⟨⟨ByteArray.empty, ByteArray.empty⟩⟩

instance : DecidableEq DPair := fun x y => by cases x; cases y; simp only [DPair.mk.injEq]; infer_instance

def okDPair (x : DPair) : Prop := x.key.size ≤ maxLen ∧ x.val.size ≤ maxLen

def cDPair (x : DPair) : List Value := [.string x.key, .string x.val]

def RDPair : Rp DPair := Rp.flat 2 okDPair (fun x => cDPair x) (fun _ => rfl) (fun x c hc => by simp only [cDPair, List.mem_cons, List.not_mem_nil, or_false] at hc; rcases hc with rfl | rfl <;> rfl)

structure DPin where
  id : Int
  at_ : Nat
  left : Int

instance : Inhabited DPin := ⟨⟨0, 0, 0⟩⟩

instance : DecidableEq DPin := fun x y => by cases x; cases y; simp only [DPin.mk.injEq]; infer_instance

def okDPin (x : DPin) : Prop := i64ok x.id ∧ x.at_ < 18446744073709551616 ∧ i64ok x.left

def cDPin (x : DPin) : List Value := [.int .i64 x.id, .int .u64 x.at_, .int .i64 x.left]

structure DAnswer where
  client : Int
  req : Int
  e : Int
  pin : Int

instance : Inhabited DAnswer := ⟨⟨0, 0, 0, 0⟩⟩

instance : DecidableEq DAnswer := fun x y => by cases x; cases y; simp only [DAnswer.mk.injEq]; infer_instance

def okDAnswer (x : DAnswer) : Prop := i64ok x.client ∧ i64ok x.req ∧ i64ok x.e ∧ i64ok x.pin

def cDAnswer (x : DAnswer) : List Value := [.int .i64 x.client, .int .i64 x.req, .int .i64 x.e, .int .i64 x.pin]

structure DMsg where
  k : Int
  epoch : Int
  req : Int
  serial : Int
  flag : Bool
  at_ : Nat
  last : Nat
  n : Int
  m : Int
  p : Int
  e : Int
  key : ByteArray
  to_ : ByteArray
  conf : DConf
  batch : DBatch
  entries : List DEntry
  stamps : List Nat
  pairs : List DPair

instance : Inhabited DMsg := ⟨⟨0, 0, 0, 0, false, 0, 0, 0, 0, 0, 0, ByteArray.empty, ByteArray.empty, default, default, [], [], []⟩⟩

instance : DecidableEq DMsg := fun x y => by cases x; cases y; simp only [DMsg.mk.injEq]; infer_instance

def okDMsg (x : DMsg) : Prop := i64ok x.k ∧ i64ok x.epoch ∧ i64ok x.req ∧ i64ok x.serial ∧ x.at_ < 18446744073709551616 ∧ x.last < 18446744073709551616 ∧ i64ok x.n ∧ i64ok x.m ∧ i64ok x.p ∧ i64ok x.e ∧ x.key.size ≤ maxLen ∧ x.to_.size ≤ maxLen ∧ okDConf x.conf ∧ okDBatch x.batch

def cDMsg (x : DMsg) (v0 : Value) (v1 : Value) (v2 : Value) (v3 : Value) (v4 : Value) : List Value := [.int .i64 x.k, .int .i64 x.epoch, .int .i64 x.req, .int .i64 x.serial, .bool x.flag, .int .u64 x.at_, .int .u64 x.last, .int .i64 x.n, .int .i64 x.m, .int .i64 x.p, .int .i64 x.e, .string x.key, .string x.to_, .int .i64 x.conf.epoch, v0, .int .u64 x.conf.floor, .int .i64 x.batch.client, .int .i64 x.batch.req, v1, v2, v3, v4]

def RDMsg : Rp DMsg where
  n := 22
  rep A w cs x := ∃ v0 v1 v2 v3 v4 : Value, cs = cDMsg x v0 v1 v2 v3 v4 ∧ slRep RDMember A w v0 x.conf.members ∧ slRep RDOp A w v1 x.batch.ops ∧ slRep RDEntry A w v2 x.entries ∧ slRep RU A w v3 x.stamps ∧ slRep RDPair A w v4 x.pairs ∧ okDMsg x
  len := fun ⟨v0, v1, v2, v3, v4, h, _⟩ => by rw [h]; rfl
  one := fun ⟨v0, v1, v2, v3, v4, h, s0, s1, s2, s3, s4, _⟩ c hc => by
    rw [h] at hc
    simp only [cDMsg, List.mem_cons, List.not_mem_nil, or_false] at hc
    rcases hc with rfl | rfl | rfl | rfl | rfl | rfl | rfl | rfl | rfl | rfl | rfl | rfl | rfl | rfl | rfl | rfl | rfl | rfl | rfl | rfl | rfl | rfl
    · rfl
    · rfl
    · rfl
    · rfl
    · rfl
    · rfl
    · rfl
    · rfl
    · rfl
    · rfl
    · rfl
    · rfl
    · rfl
    · rfl
    · exact s0.one
    · rfl
    · rfl
    · rfl
    · exact s1.one
    · exact s2.one
    · exact s3.one
    · exact s4.one
  mono := fun ⟨v0, v1, v2, v3, v4, h, s0, s1, s2, s3, s4, ok⟩ hA hk => ⟨v0, v1, v2, v3, v4, h, s0.mono hA hk, s1.mono hA hk, s2.mono hA hk, s3.mono hA hk, s4.mono hA hk, ok⟩
  bound := fun ⟨v0, v1, v2, v3, v4, h, s0, s1, s2, s3, s4, ok⟩ => ⟨v0, v1, v2, v3, v4, h, s0.bound, s1.bound, s2.bound, s3.bound, s4.bound, ok⟩

structure DNote where
  k : Int
  n : Int
  at_ : Nat
  conf : DConf
  legit : List Int
  entry : DEntry
  pin : DPin
  said : DAnswer

instance : Inhabited DNote := ⟨⟨0, 0, 0, default, [], default, default, default⟩⟩

instance : DecidableEq DNote := fun x y => by cases x; cases y; simp only [DNote.mk.injEq]; infer_instance

def okDNote (x : DNote) : Prop := i64ok x.k ∧ i64ok x.n ∧ x.at_ < 18446744073709551616 ∧ okDConf x.conf ∧ okDEntry x.entry ∧ okDPin x.pin ∧ okDAnswer x.said

def cDNote (x : DNote) (v0 : Value) (v1 : Value) (v2 : Value) : List Value := [.int .i64 x.k, .int .i64 x.n, .int .u64 x.at_, .int .i64 x.conf.epoch, v0, .int .u64 x.conf.floor, v1, .int .i64 x.entry.batch.client, .int .i64 x.entry.batch.req, v2, .int .u64 x.entry.ts, .int .i64 x.pin.id, .int .u64 x.pin.at_, .int .i64 x.pin.left, .int .i64 x.said.client, .int .i64 x.said.req, .int .i64 x.said.e, .int .i64 x.said.pin]

def RDNote : Rp DNote where
  n := 18
  rep A w cs x := ∃ v0 v1 v2 : Value, cs = cDNote x v0 v1 v2 ∧ slRep RDMember A w v0 x.conf.members ∧ slRep RI A w v1 x.legit ∧ slRep RDOp A w v2 x.entry.batch.ops ∧ okDNote x
  len := fun ⟨v0, v1, v2, h, _⟩ => by rw [h]; rfl
  one := fun ⟨v0, v1, v2, h, s0, s1, s2, _⟩ c hc => by
    rw [h] at hc
    simp only [cDNote, List.mem_cons, List.not_mem_nil, or_false] at hc
    rcases hc with rfl | rfl | rfl | rfl | rfl | rfl | rfl | rfl | rfl | rfl | rfl | rfl | rfl | rfl | rfl | rfl | rfl | rfl
    · rfl
    · rfl
    · rfl
    · rfl
    · exact s0.one
    · rfl
    · exact s1.one
    · rfl
    · rfl
    · exact s2.one
    · rfl
    · rfl
    · rfl
    · rfl
    · rfl
    · rfl
    · rfl
    · rfl
  mono := fun ⟨v0, v1, v2, h, s0, s1, s2, ok⟩ hA hk => ⟨v0, v1, v2, h, s0.mono hA hk, s1.mono hA hk, s2.mono hA hk, ok⟩
  bound := fun ⟨v0, v1, v2, h, s0, s1, s2, ok⟩ => ⟨v0, v1, v2, h, s0.bound, s1.bound, s2.bound, ok⟩

end Go.Proofs.Ytmdoimpeacndaaa
