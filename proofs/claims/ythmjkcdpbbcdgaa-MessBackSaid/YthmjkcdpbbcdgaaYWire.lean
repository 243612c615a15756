/- Numbers as bytes, writers and readers: their contracts as plain functions. -/
import Derived.Test.YthmjkcdpbbcdgaaYB
import Derived.Test.YthmjkcdpbbcdgaaWire3
namespace Go.Proofs.Ythmjkcdpbbcdgaa
open Go.RowKit
structure Eref02_Writer where
 s : ByteArray
 e : Int

instance : Inhabited Eref02_Writer := ⟨⟨ByteArray.empty, 0⟩⟩

structure Eref02_Reader where
 s : ByteArray
 at_ : Int
 e : Int

instance : Inhabited Eref02_Reader := ⟨⟨ByteArray.empty, 0, 0⟩⟩

structure Ewire_Reader where
 s : ByteArray
 at_ : Int
 e : Int
 made : Bool

instance : Inhabited Ewire_Reader := ⟨⟨ByteArray.empty, 0, 0, false⟩⟩

def cEwire_Reader (x : Ewire_Reader) : List Value := [.string x.s, .int .i64 x.at_, .int .i64 x.e, .bool x.made]

structure Ewire_Writer where
 s : ByteArray
 e : Int

instance : Inhabited Ewire_Writer := ⟨⟨ByteArray.empty, 0⟩⟩

def OEwire_Writer (b : Nat) (x : Ewire_Writer) : Ch := (WSt.live b x.s x.e).ch

def toWw (x : Ewire_Writer) : DWriterR := ⟨x.s, x.e⟩

def ofWw (x : DWriterR) : Ewire_Writer := ⟨x.s, x.e⟩

def toRw (x : Ewire_Reader) : DReaderR := ⟨x.s, x.at_, x.e⟩

def ofRw (x : DReaderR) : Ewire_Reader := ⟨x.s, x.at_, x.e, true⟩

instance (r : DReaderR) : Decidable (rdOk r) := inferInstanceAs (Decidable (0 ≤ r.at_ ∧ r.at_ ≤ (r.s.size : Int) ∧ r.s.size ≤ maxLen ∧ 0 ≤ r.e ∧ r.e ≤ 21))

theorem live_put (b : Nat) (x : DWriterR) (t : ByteArray) : (WSt.live b x.s x.e).put t = .live b (wPut x t).s (wPut x t).e := by
 unfold WSt.put wPut; by_cases h : x.e = 0 <;> simp [h]

theorem live_num (b : Nat) (x : DWriterR) (n : Int) : (WSt.live b x.s x.e).num n = .live b (wNum x n).s (wNum x n).e := by
 unfold WSt.num wNum
 by_cases h : x.e = 0 ∧ n < 0
 ·simp [h]
 ·simp only [h, if_false]; exact live_put b x _

theorem live_text (b : Nat) (x : DWriterR) (t : ByteArray) : (WSt.live b x.s x.e).text t = .live b (wText x t).s (wText x t).e := by
 unfold WSt.text wText
 rw [live_put, live_put]
 by_cases h : x.e = 0 <;> simp [wPut, h, ByteArray.append_assoc]

theorem live_flag (b : Nat) (x : DWriterR) (f : Bool) : (WSt.live b x.s x.e).flag f = .live b (wFlag x f).s (wFlag x f).e := live_put b x _

def wFits (x : DWriterR) (n : Nat) : Prop := x.e = 0 → x.s.size + n ≤ 140737488355328

instance (x : DWriterR) (n : Nat) : Decidable (wFits x n) := inferInstanceAs (Decidable (_ → _))

-- the document's writer
-- the program's writer
def F_wire_New : Option Ewire_Writer := some default

theorem c_wire_New {I D : Dm} {w : World} {rr : Ewire_Writer} (hF : F_wire_New = some rr) (H : St I D w []) :
  Calls Try.prog 13 #[] w (Ret fun vv w' => ∃ g1 : Nat, vv = .pointer (some ⟨g1, 0, none⟩) ∧ ∃ I', Hf I D w I' w' [OEwire_Writer g1 rr]) := by
 obtain rfl := some_in hF
 exact c_wNew w H

def F_wire_Writer_Num (x : Ewire_Writer) (n0 : Int) : Option Ewire_Writer := chk (inI n0 ∧ wFits (toWw x) 9) (some (ofWw (wNum (toWw x) n0)))

theorem c_wire_Writer_Num {I D : Dm} {b : Nat} {x : Ewire_Writer} {n0 : Int} {w : World} {rr : Ewire_Writer} (hF : F_wire_Writer_Num x n0 = some rr) (H : St I D w [OEwire_Writer b x]) :
  Calls Try.prog 14 #[.pointer (some ⟨b, 0, none⟩), .int .i64 n0] w (Ret fun vv w' => vv = .pointer (some ⟨b, 0, none⟩) ∧ ∃ I', Hf I D w I' w' [OEwire_Writer b rr]) := by
 obtain ⟨⟨h1, h2⟩, hF⟩ := chk_in hF; obtain rfl := some_in hF
 have hv := vput_le n0.toNat
 have := c_wNum (.live b x.s x.e) n0 w H h1 (fun h => by have := h2 h; show x.s.size + _ ≤ _; unfold toWw at this; dsimp only at this; omega)
 rw [show (WSt.live b x.s x.e) = .live b (toWw x).s (toWw x).e from rfl, live_num] at this
 exact this

def F_wire_Writer_Big (x : Ewire_Writer) (n0 : Int) : Option Ewire_Writer := chk (inU n0 ∧ wFits (toWw x) 9) (some (ofWw (wPut (toWw x) (vput n0.toNat))))

theorem c_wire_Writer_Big {I D : Dm} {b : Nat} {x : Ewire_Writer} {n0 : Int} {w : World} {rr : Ewire_Writer} (hF : F_wire_Writer_Big x n0 = some rr) (H : St I D w [OEwire_Writer b x]) :
  Calls Try.prog 37 #[.pointer (some ⟨b, 0, none⟩), .int .u64 n0] w (Ret fun vv w' => vv = .pointer (some ⟨b, 0, none⟩) ∧ ∃ I', Hf I D w I' w' [OEwire_Writer b rr]) := by
 obtain ⟨⟨h1, h2⟩, hF⟩ := chk_in hF; obtain rfl := some_in hF
 unfold inU at h1
 have hv := vput_le n0.toNat
 have e : n0 = ((n0.toNat : Nat) : Int) := by omega
 have := c_wBig (.live b x.s x.e) n0.toNat w H (by omega) (fun h => by have := h2 h; show x.s.size + _ ≤ _; unfold toWw at this; dsimp only at this; omega)
 rw [show (WSt.live b x.s x.e) = .live b (toWw x).s (toWw x).e from rfl, live_put, ← e] at this
 exact this

def F_wire_Writer_Text (x : Ewire_Writer) (s0 : ByteArray) : Option Ewire_Writer := chk (s0.size ≤ maxLen ∧ wFits (toWw x) (9 + s0.size)) (some (ofWw (wText (toWw x) s0)))

theorem c_wire_Writer_Text {I D : Dm} {b : Nat} {x : Ewire_Writer} {s0 : ByteArray} {w : World} {rr : Ewire_Writer} (hF : F_wire_Writer_Text x s0 = some rr) (H : St I D w [OEwire_Writer b x]) :
  Calls Try.prog 36 #[.pointer (some ⟨b, 0, none⟩), .string s0] w (Ret fun vv w' => vv = .pointer (some ⟨b, 0, none⟩) ∧ ∃ I', Hf I D w I' w' [OEwire_Writer b rr]) := by
 obtain ⟨⟨h1, h2⟩, hF⟩ := chk_in hF; obtain rfl := some_in hF
 have hv := vput_le s0.size
 have := c_wText (.live b x.s x.e) s0 w H h1 (fun h => by have := h2 h; show x.s.size + _ ≤ _; unfold toWw at this; dsimp only at this; omega)
 rw [show (WSt.live b x.s x.e) = .live b (toWw x).s (toWw x).e from rfl, live_text] at this
 exact this

def F_wire_Writer_Flag (x : Ewire_Writer) (f : Bool) : Option Ewire_Writer := chk (wFits (toWw x) 1) (some (ofWw (wFlag (toWw x) f)))

theorem c_wire_Writer_Flag {I D : Dm} {b : Nat} {x : Ewire_Writer} {f : Bool} {w : World} {rr : Ewire_Writer} (hF : F_wire_Writer_Flag x f = some rr) (H : St I D w [OEwire_Writer b x]) :
  Calls Try.prog 68 #[.pointer (some ⟨b, 0, none⟩), .bool f] w (Ret fun vv w' => vv = .pointer (some ⟨b, 0, none⟩) ∧ ∃ I', Hf I D w I' w' [OEwire_Writer b rr]) := by
 obtain ⟨h2, hF⟩ := chk_in hF; obtain rfl := some_in hF
 have := c_wFlag (.live b x.s x.e) f w H (fun h => by have := h2 h; exact this)
 rw [show (WSt.live b x.s x.e) = .live b (toWw x).s (toWw x).e from rfl, live_flag] at this
 exact this

def F_wire_Writer_Done (x : Ewire_Writer) : Option (ByteArray × Int) := some (wDone (toWw x), x.e)

theorem c_wire_Writer_Done {I D : Dm} {b : Nat} {x : Ewire_Writer} {w : World} {rr : ByteArray × Int} (hF : F_wire_Writer_Done x = some rr) (H : St I D w [OEwire_Writer b x]) :
  Calls Try.prog 16 #[.pointer (some ⟨b, 0, none⟩)] w (Ret fun vv w' => vv = .tuple #[.string rr.1, .int .i64 rr.2] ∧ ∃ I', Hf I D w I' w' []) := by
 obtain rfl := some_in hF
 exact c_wDone (.live b x.s x.e) w H

-- readers
def F_wire_Open (s0 : ByteArray) : Option Ewire_Reader := chk (s0.size ≤ maxLen) (some ⟨s0, 0, 0, true⟩)

theorem c_wire_Open {I D : Dm} {s0 : ByteArray} {w : World} {rr : Ewire_Reader} (hF : F_wire_Open s0 = some rr) (H : St I D w []) :
  Calls Try.prog 17 #[.string s0] w (Ret fun vv w' => ∃ g1 : Nat, vv = .pointer (some ⟨g1, 0, none⟩) ∧ ∃ I', Hf I D w I' w' [BxC g1 85 (cEwire_Reader rr)]) := by
 obtain ⟨h1, hF⟩ := chk_in hF; obtain rfl := some_in hF
 exact c_w_Open s0 w h1 H

def F_wire_Reader_Num (x : Ewire_Reader) (most : Int) : Option (Int × Ewire_Reader) := chk ((x.made = true ∧ rdOk (toRw x)) ∧ (inI most)) (some (rNumV (toRw x) most, ofRw (rNum (toRw x) most)))

theorem c_wire_Reader_Num {I D : Dm} {b : Nat} {x : Ewire_Reader} {most : Int} {w : World} {rr : Int × Ewire_Reader} (hF : F_wire_Reader_Num x most = some rr) (H : St I D w [BxC b 85 (cEwire_Reader x)]) :
  Calls Try.prog 18 #[.pointer (some ⟨b, 0, none⟩), .int .i64 most] w (Ret fun vv w' => vv = .int .i64 rr.1 ∧ ∃ I', Hf I D w I' w' [BxC b 85 (cEwire_Reader rr.2)]) := by
 obtain ⟨⟨h1, h2⟩, hF⟩ := chk_in hF; obtain rfl := some_in hF
 exact c_w_Num b ⟨x.s, x.at_, x.e, x.made⟩ most w h2 H h1

def F_wire_Reader_Big (x : Ewire_Reader) : Option (Int × Ewire_Reader) := chk (x.made = true ∧ rdOk (toRw x)) (some (((rBigV (toRw x) : Nat) : Int), ofRw (rBig (toRw x))))

theorem c_wire_Reader_Big {I D : Dm} {b : Nat} {x : Ewire_Reader} {w : World} {rr : Int × Ewire_Reader} (hF : F_wire_Reader_Big x = some rr) (H : St I D w [BxC b 85 (cEwire_Reader x)]) :
  Calls Try.prog 51 #[.pointer (some ⟨b, 0, none⟩)] w (Ret fun vv w' => vv = .int .u64 rr.1 ∧ ∃ I', Hf I D w I' w' [BxC b 85 (cEwire_Reader rr.2)]) := by
 obtain ⟨h1, hF⟩ := chk_in hF; obtain rfl := some_in hF
 exact c_w_Big b ⟨x.s, x.at_, x.e, x.made⟩ w H h1

def F_wire_Reader_Text (x : Ewire_Reader) (most : Int) : Option (ByteArray × Ewire_Reader) := chk ((x.made = true ∧ rdOk (toRw x)) ∧ (inI most)) (some (rTextV (toRw x) most, ofRw (rText (toRw x) most)))

theorem c_wire_Reader_Text {I D : Dm} {b : Nat} {x : Ewire_Reader} {most : Int} {w : World} {rr : ByteArray × Ewire_Reader} (hF : F_wire_Reader_Text x most = some rr) (H : St I D w [BxC b 85 (cEwire_Reader x)]) :
  Calls Try.prog 72 #[.pointer (some ⟨b, 0, none⟩), .int .i64 most] w (Ret fun vv w' => vv = .string rr.1 ∧ ∃ I', Hf I D w I' w' [BxC b 85 (cEwire_Reader rr.2)]) := by
 obtain ⟨⟨h1, h2⟩, hF⟩ := chk_in hF; obtain rfl := some_in hF
 exact c_w_Text b ⟨x.s, x.at_, x.e, x.made⟩ most w h2 H h1

def F_wire_Reader_Flag (x : Ewire_Reader) : Option (Bool × Ewire_Reader) := chk (x.made = true ∧ rdOk (toRw x)) (some (rFlagV (toRw x), ofRw (rFlag (toRw x))))

theorem c_wire_Reader_Flag {I D : Dm} {b : Nat} {x : Ewire_Reader} {w : World} {rr : Bool × Ewire_Reader} (hF : F_wire_Reader_Flag x = some rr) (H : St I D w [BxC b 85 (cEwire_Reader x)]) :
  Calls Try.prog 73 #[.pointer (some ⟨b, 0, none⟩)] w (Ret fun vv w' => vv = .bool rr.1 ∧ ∃ I', Hf I D w I' w' [BxC b 85 (cEwire_Reader rr.2)]) := by
 obtain ⟨h1, hF⟩ := chk_in hF; obtain rfl := some_in hF
 exact c_w_Flag b ⟨x.s, x.at_, x.e, x.made⟩ w H h1

def F_wire_Reader_End (x : Ewire_Reader) : Option (Int) := chk (x.made = true ∧ rdOk (toRw x)) (some (rEnd (toRw x)))

theorem c_wire_Reader_End {I D : Dm} {b : Nat} {x : Ewire_Reader} {w : World} {rr : Int} (hF : F_wire_Reader_End x = some rr) (H : St I D w [BxC b 85 (cEwire_Reader x)]) :
  Calls Try.prog 22 #[.pointer (some ⟨b, 0, none⟩)] w (Ret fun vv w' => vv = .int .i64 rr ∧ ∃ I', Hf I D w I' w' [BxC b 85 (cEwire_Reader x)]) := by
 obtain ⟨h1, hF⟩ := chk_in hF; obtain rfl := some_in hF
 exact c_w_End b ⟨x.s, x.at_, x.e, x.made⟩ w H h1

def F_wire_Reader_Err (x : Ewire_Reader) : Option (Int) := chk (x.made = true) (some (x.e))

theorem c_wire_Reader_Err {I D : Dm} {b : Nat} {x : Ewire_Reader} {w : World} {rr : Int} (hF : F_wire_Reader_Err x = some rr) (H : St I D w [BxC b 85 (cEwire_Reader x)]) :
  Calls Try.prog 19 #[.pointer (some ⟨b, 0, none⟩)] w (Ret fun vv w' => vv = .int .i64 rr ∧ ∃ I', Hf I D w I' w' [BxC b 85 (cEwire_Reader x)]) := by
 obtain ⟨h1, hF⟩ := chk_in hF; obtain rfl := some_in hF
 exact c_w_Err b ⟨x.s, x.at_, x.e, x.made⟩ w H h1

end Go.Proofs.Ythmjkcdpbbcdgaa
