/- Writers and readers of the program and the document: what their plain functions come to. -/
import Derived.Test.YtlgejpompnbfoaaYWire
import Derived.Test.YtlgejpompnbfoaaYV
namespace Go.Proofs.Ytlgejpompnbfoaa

theorem wW_num {x : Ewire_Writer} {l : List Nat} {z : Int} (h : Wt (toWw x) l) (hz : 0 ≤ z) (hi : inI z) (hl : l.length + 9 ≤ 140737488355328) : ∃ y, F_wire_Writer_Num x z = some y ∧ Wt (toWw y) (l ++ vputL z.toNat) :=
 ⟨_, chk_t ⟨hi, fun _ => by rw [h.size]; exact hl⟩, h.num' hz⟩

theorem wW_big {x : Ewire_Writer} {l : List Nat} {z : Int} (h : Wt (toWw x) l) (hi : inU z) (hl : l.length + 9 ≤ 140737488355328) : ∃ y, F_wire_Writer_Big x z = some y ∧ Wt (toWw y) (l ++ vputL z.toNat) :=
 ⟨_, chk_t ⟨hi, fun _ => by rw [h.size]; exact hl⟩, by have := h.put (vput z.toNat); rw [bL_vput] at this; exact this⟩

theorem wW_text {x : Ewire_Writer} {l : List Nat} (t : ByteArray) (h : Wt (toWw x) l) (hl : l.length + (9 + t.size) ≤ 140737488355328) : ∃ y, F_wire_Writer_Text x t = some y ∧ Wt (toWw y) (l ++ (vputL t.size ++ bL t)) :=
 ⟨_, chk_t ⟨by unfold maxLen; omega, fun _ => by rw [h.size]; exact hl⟩, h.text t⟩

theorem wW_flag {x : Ewire_Writer} {l : List Nat} (b : Bool) (h : Wt (toWw x) l) (hl : l.length + 1 ≤ 140737488355328) : ∃ y, F_wire_Writer_Flag x b = some y ∧ Wt (toWw y) (l ++ [if b then 1 else 0]) :=
 ⟨_, chk_t (fun _ => by rw [h.size]; exact hl), h.flag b⟩

theorem wW_done {x : Ewire_Writer} {l : List Nat} (h : Wt (toWw x) l) : ∃ s, F_wire_Writer_Done x = some (s, 0) ∧ bL s = l := ⟨_, by rw [F_wire_Writer_Done, show x.e = 0 from h.1], h.done⟩

theorem wR_open (s : ByteArray) (h : s.size ≤ maxLen) : F_wire_Open s = some (ofRw ⟨s, 0, 0⟩) := chk_t h

theorem wR_num {r : DReaderR} (h : rdOk r) {most : Int} (hm : inI most) : F_wire_Reader_Num (ofRw r) most = some (rNumV r most, ofRw (rNum r most)) := chk_t ⟨⟨rfl, h⟩, hm⟩

theorem wR_big {r : DReaderR} (h : rdOk r) : F_wire_Reader_Big (ofRw r) = some ((rBigV r : Int), ofRw (rBig r)) := chk_t ⟨rfl, h⟩

theorem wR_text {r : DReaderR} (h : rdOk r) {most : Int} (hm : inI most) : F_wire_Reader_Text (ofRw r) most = some (rTextV r most, ofRw (rText r most)) := chk_t ⟨⟨rfl, h⟩, hm⟩

theorem wR_flag {r : DReaderR} (h : rdOk r) : F_wire_Reader_Flag (ofRw r) = some (rFlagV r, ofRw (rFlag r)) := chk_t ⟨rfl, h⟩

theorem wR_left {r : DReaderR} (h : rdOk r) : F_wire_Reader_Left (ofRw r) = some (rLeft r) := chk_t ⟨rfl, h⟩

theorem wR_err {r : DReaderR} : F_wire_Reader_Err (ofRw r) = some r.e := chk_t rfl

-- loops that read and write lists
section lists
variable {α R : Type} {f : DReaderR → α × DReaderR}
end lists
end Go.Proofs.Ytlgejpompnbfoaa
