/- The walks of the reference of 'wire': what writes and what reads parts of a message. -/
import Derived.Test.YthmjkcdpbbcdgaaVarnum
namespace Go.Proofs.Ythmjkcdpbbcdgaa
open Go.RowKit

structure DWriterR where
 s : ByteArray
 e : Int

instance : Inhabited DWriterR := ⟨⟨ByteArray.empty, 0⟩⟩

instance : DecidableEq DWriterR := fun x y => by cases x; cases y; simp only [DWriterR.mk.injEq]; infer_instance

structure DReaderR where
 s : ByteArray
 at_ : Int
 e : Int

instance : Inhabited DReaderR := ⟨⟨ByteArray.empty, 0, 0⟩⟩

instance : DecidableEq DReaderR := fun x y => by cases x; cases y; simp only [DReaderR.mk.injEq]; infer_instance

structure DReader where
 s : ByteArray
 at_ : Int
 e : Int
 made : Bool

instance : Inhabited DReader := ⟨⟨ByteArray.empty, 0, 0, false⟩⟩

instance : DecidableEq DReader := fun x y => by cases x; cases y; simp only [DReader.mk.injEq]; infer_instance

def cDReader (x : DReader) : List Value := [.string x.s, .int .i64 x.at_, .int .i64 x.e, .bool x.made]

-- what is written: the text so far, the first error
def wPut (w : DWriterR) (t : ByteArray) : DWriterR := if w.e = 0 then { w with s := w.s ++ t } else w

def wNum (w : DWriterR) (n : Int) : DWriterR := if w.e = 0 ∧ n < 0 then { w with e := 5 } else wPut w (vput n.toNat)

def wText (w : DWriterR) (t : ByteArray) : DWriterR := wPut w (vput t.size ++ t)

def wFlag (w : DWriterR) (b : Bool) : DWriterR := wPut w (vput (if b then 1 else 0))

def wDone (w : DWriterR) : ByteArray := if w.e = 0 then w.s else ByteArray.empty

theorem vput_le (n : Nat) : (vput n).size ≤ 9 := by
 have := needsN_le n
 rw [vput_size]; split <;> omega

theorem wPut_yes {w : DWriterR} (h : w.e = 0) (t : ByteArray) : wPut w t = { w with s := w.s ++ t } := if_pos h

-- (no (*catena/catenaref02.Writer).Big in this seat)

-- (no (*catena/catenaref02.Writer).Num in this seat)

-- (no (*catena/catenaref02.Writer).Text in this seat)

-- (no (*catena/catenaref02.Writer).Flag in this seat)

-- (no (*catena/catenaref02.Writer).Done in this seat)

-- what is read: the text, the place, the first error
def rBig (r : DReaderR) : DReaderR := if r.e ≠ 0 then r else if (vget r.s r.at_).2.2 ≠ 0 then { r with e := (vget r.s r.at_).2.2 } else { r with at_ := (vget r.s r.at_).2.1 }

def rBigV (r : DReaderR) : Nat := if r.e ≠ 0 then 0 else if (vget r.s r.at_).2.2 ≠ 0 then 0 else (vget r.s r.at_).1

/-- a reading is sound -/
def rdOk (r : DReaderR) : Prop := 0 ≤ r.at_ ∧ r.at_ ≤ (r.s.size : Int) ∧ r.s.size ≤ maxLen ∧ 0 ≤ r.e ∧ r.e ≤ 21

theorem vget_at {s : ByteArray} {a : Int} (h0 : (vget s a).2.2 = 0) : a < (vget s a).2.1 ∧ (vget s a).2.1 ≤ (s.size : Int) ∧ 0 ≤ a := by
 unfold vget at *
 split at h0
 ·simp at h0
 ·rename_i h1
  rw [if_neg h1]
  split at h0
  ·simp at h0
  ·rename_i h2
   rw [if_neg h2]
   split at h0
   ·rename_i h3
    rw [if_pos h3]; dsimp only; omega
   ·rename_i h3
    rw [if_neg h3]
    split at h0
    ·simp at h0
    ·rename_i h4
     rw [if_neg h4]
     split at h0
     ·simp at h0
     ·rename_i h5
      rw [if_neg h5]; dsimp only; omega

theorem vget_lt (s : ByteArray) (a : Int) : (vget s a).1 < 18446744073709551616 := by
 unfold vget
 have hb := byteAt_lt s a.toNat
 have hv := beV_lt8 s (a.toNat + 1) (byteAt s a.toNat - 247) (by omega)
 (repeat' split) <;> (dsimp only; omega)

theorem vget_e (s : ByteArray) (a : Int) : 0 ≤ (vget s a).2.2 ∧ (vget s a).2.2 ≤ 4 := by
 unfold vget
 (repeat' split) <;> (dsimp only; omega)

theorem rBig_ok {r : DReaderR} (h : rdOk r) : rdOk (rBig r) := by
 unfold rBig
 split
 ·exact h
 ·have := vget_e r.s r.at_
  split
  ·exact ⟨h.1, h.2.1, h.2.2.1, by show 0 ≤ (vget r.s r.at_).2.2; omega, by show (vget r.s r.at_).2.2 ≤ 21; omega⟩
  ·rename_i h1 h2
   obtain ⟨a1, a2, a3⟩ := vget_at (Decidable.not_not.1 h2)
   exact ⟨by show 0 ≤ (vget r.s r.at_).2.1; omega, a2, h.2.2⟩

-- (no (*catena/catenaref02.Reader).Big in this seat)

theorem rBigV_lt (r : DReaderR) : rBigV r < 18446744073709551616 := by
 have := vget_lt r.s r.at_
 unfold rBigV; (repeat' split) <;> omega

theorem rBigV_e {r : DReaderR} (h : (rBig r).e ≠ 0) : rBigV r = 0 := by
 unfold rBig at h; unfold rBigV
 split at h
 ·rename_i h1; rw [if_pos h1]
 ·rename_i h1; rw [if_neg h1]
  split at h
  ·rename_i h2; rw [if_pos h2]
  ·rename_i h2; exact absurd h (fun hh => hh (Decidable.not_not.1 h1))

def rNum (r : DReaderR) (most : Int) : DReaderR := if (rBig r).e = 0 ∧ (most < 0 ∨ most < (rBigV r : Int)) then { rBig r with e := 5 } else rBig r

def rNumV (r : DReaderR) (most : Int) : Int := if (rNum r most).e ≠ 0 then 0 else (rBigV r : Int)

-- (no (*catena/catenaref02.Reader).Num in this seat)

theorem rNum_ok {r : DReaderR} {most : Int} (h : rdOk r) : rdOk (rNum r most) := by
 unfold rNum
 split
 ·have := rBig_ok h; exact ⟨this.1, this.2.1, this.2.2.1, by show (0 : Int) ≤ 5; decide, by show (5 : Int) ≤ 21; decide⟩
 ·exact rBig_ok h

def rText (r : DReaderR) (most : Int) : DReaderR :=
 if (rBig r).e ≠ 0 then rBig r
 else if most < 0 ∨ most < (rBigV r : Int) then { rBig r with e := 3 }
 else if ((rBig r).s.size : Int) - (rBig r).at_ < (rBigV r : Int) then { rBig r with e := 2 }
 else { rBig r with at_ := (rBig r).at_ + (rBigV r : Int) }

def rTextV (r : DReaderR) (most : Int) : ByteArray := if (rText r most).e ≠ 0 then ByteArray.empty else (rBig r).s.extract (rBig r).at_.toNat ((rBig r).at_.toNat + rBigV r)

theorem rText_err {r : DReaderR} {most : Int} (h : (rBig r).e ≠ 0) : rText r most = rBig r := if_pos h

theorem rText_long {r : DReaderR} {most : Int} (h : (rBig r).e = 0) (h2 : most < 0 ∨ most < (rBigV r : Int)) : rText r most = { rBig r with e := 3 } := (if_neg fun x => x h).trans (if_pos h2)

theorem rText_short {r : DReaderR} {most : Int} (h : (rBig r).e = 0) (h2 : ¬ (most < 0 ∨ most < (rBigV r : Int))) (h3 : ((rBig r).s.size : Int) - (rBig r).at_ < (rBigV r : Int)) : rText r most = { rBig r with e := 2 } := (if_neg fun x => x h).trans ((if_neg h2).trans (if_pos h3))

theorem rText_fine {r : DReaderR} {most : Int} (h : (rBig r).e = 0) (h2 : ¬ (most < 0 ∨ most < (rBigV r : Int))) (h3 : ¬ ((rBig r).s.size : Int) - (rBig r).at_ < (rBigV r : Int)) : rText r most = { rBig r with at_ := (rBig r).at_ + (rBigV r : Int) } := (if_neg fun x => x h).trans ((if_neg h2).trans (if_neg h3))

theorem rTextV_no {r : DReaderR} {most : Int} (h : (rText r most).e ≠ 0) : rTextV r most = ByteArray.empty := if_pos h

theorem rTextV_yes {r : DReaderR} {most : Int} (h : (rText r most).e = 0) : rTextV r most = (rBig r).s.extract (rBig r).at_.toNat ((rBig r).at_.toNat + rBigV r) := if_neg fun x => x h

-- (no (*catena/catenaref02.Reader).Text in this seat)

def rFlag (r : DReaderR) : DReaderR :=
 if r.e ≠ 0 then r else if r.at_ = (r.s.size : Int) then { r with e := 2 } else if 1 < byteAt r.s r.at_.toNat then { r with e := 4 } else { r with at_ := r.at_ + 1 }

def rFlagV (r : DReaderR) : Bool := if (rFlag r).e ≠ 0 then false else decide (byteAt r.s r.at_.toNat = 1)

theorem rFlag_err {r : DReaderR} (h : r.e ≠ 0) : rFlag r = r := if_pos h

theorem rFlag_short {r : DReaderR} (h : r.e = 0) (h2 : r.at_ = (r.s.size : Int)) : rFlag r = { r with e := 2 } := (if_neg fun x => x h).trans (if_pos h2)

theorem rFlag_form {r : DReaderR} (h : r.e = 0) (h2 : r.at_ ≠ (r.s.size : Int)) (h3 : 1 < byteAt r.s r.at_.toNat) : rFlag r = { r with e := 4 } := (if_neg fun x => x h).trans ((if_neg h2).trans (if_pos h3))

theorem rFlag_fine {r : DReaderR} (h : r.e = 0) (h2 : r.at_ ≠ (r.s.size : Int)) (h3 : ¬ 1 < byteAt r.s r.at_.toNat) : rFlag r = { r with at_ := r.at_ + 1 } := (if_neg fun x => x h).trans ((if_neg h2).trans (if_neg h3))

theorem rFlagV_no {r : DReaderR} (h : (rFlag r).e ≠ 0) : rFlagV r = false := if_pos h

theorem rFlagV_yes {r : DReaderR} (h : (rFlag r).e = 0) : rFlagV r = decide (byteAt r.s r.at_.toNat = 1) := if_neg fun x => x h

-- (no (*catena/catenaref02.Reader).Flag in this seat)

def rLeft (r : DReaderR) : Int := if r.e ≠ 0 then 0 else (r.s.size : Int) - r.at_

def rEnd (r : DReaderR) : Int := if r.e = 0 ∧ r.at_ < (r.s.size : Int) then 4 else r.e

-- (no (*catena/catenaref02.Reader).Left in this seat)

-- (no (*catena/catenaref02.Reader).End in this seat)

end Go.Proofs.Ythmjkcdpbbcdgaa
