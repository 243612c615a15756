/- Writers and readers of the program and the document: what their plain functions come to. -/
import Derived.Test.YtnkieaolhbmfpaaYWire
import Derived.Test.YtnkieaolhbmfpaaYV
namespace Go.Proofs.Ytnkieaolhbmfpaa

theorem Wt.w0 : Wt (toWw default) [] := ⟨rfl, rfl⟩

theorem Wt.r0 : Wt (toW2 default) [] := ⟨rfl, rfl⟩

theorem wW_num {x : Ewire_Writer} {l : List Nat} {z : Int} (h : Wt (toWw x) l) (hz : 0 ≤ z) (hi : inI z) (hl : l.length + 9 ≤ 140737488355328) : ∃ y, F_wire_Writer_Num x z = some y ∧ Wt (toWw y) (l ++ vputL z.toNat) :=
  ⟨_, chk_t ⟨hi, fun _ => by rw [h.size]; exact hl⟩, h.num' hz⟩

theorem wW_big {x : Ewire_Writer} {l : List Nat} {z : Int} (h : Wt (toWw x) l) (hi : inU z) (hl : l.length + 9 ≤ 140737488355328) : ∃ y, F_wire_Writer_Big x z = some y ∧ Wt (toWw y) (l ++ vputL z.toNat) :=
  ⟨_, chk_t ⟨hi, fun _ => by rw [h.size]; exact hl⟩, by have := h.put (vput z.toNat); rw [bL_vput] at this; exact this⟩

theorem wW_done {x : Ewire_Writer} {l : List Nat} (h : Wt (toWw x) l) : ∃ s, F_wire_Writer_Done x = some (s, 0) ∧ bL s = l := ⟨_, by rw [F_wire_Writer_Done, show x.e = 0 from h.1], h.done⟩

theorem w2_num {x : Eref02_Writer} {l : List Nat} {z : Int} (h : Wt (toW2 x) l) (hz : 0 ≤ z) (hi : inI z) (hl : l.length + 9 ≤ 140737488355328) : ∃ y, F_ref02_Writer_Num x z = some y ∧ Wt (toW2 y) (l ++ vputL z.toNat) :=
  ⟨_, chk_t ⟨hi, by have := h.size; unfold maxLen; change x.s.size = _ at this; omega⟩, h.num' hz⟩

theorem w2_big {x : Eref02_Writer} {l : List Nat} {z : Int} (h : Wt (toW2 x) l) (hi : inU z) (hl : l.length + 9 ≤ 140737488355328) : ∃ y, F_ref02_Writer_Big x z = some y ∧ Wt (toW2 y) (l ++ vputL z.toNat) :=
  ⟨_, chk_t ⟨hi, by have := h.size; unfold maxLen; change x.s.size = _ at this; omega⟩, by have := h.put (vput z.toNat); rw [bL_vput] at this; exact this⟩

theorem w2_done {x : Eref02_Writer} {l : List Nat} (h : Wt (toW2 x) l) : ∃ s, F_ref02_Writer_Done x = some (s, 0) ∧ bL s = l := ⟨_, by rw [F_ref02_Writer_Done, show x.e = 0 from h.1], h.done⟩

theorem wR_open (s : ByteArray) (h : s.size ≤ maxLen) : F_wire_Open s = some (ofRw ⟨s, 0, 0⟩) := chk_t h

theorem wR_num {r : DReaderR} (h : rdOk r) {most : Int} (hm : inI most) : F_wire_Reader_Num (ofRw r) most = some (rNumV r most, ofRw (rNum r most)) := chk_t ⟨⟨rfl, h⟩, hm⟩

theorem wR_big {r : DReaderR} (h : rdOk r) : F_wire_Reader_Big (ofRw r) = some ((rBigV r : Int), ofRw (rBig r)) := chk_t ⟨rfl, h⟩

theorem wR_end {r : DReaderR} (h : rdOk r) : F_wire_Reader_End (ofRw r) = some (rEnd r) := chk_t ⟨rfl, h⟩

theorem rNumV_nat (r : DReaderR) (most : Int) : ∃ n : Nat, rNumV r most = n := by
  unfold rNumV; split
  · exact ⟨0, rfl⟩
  · exact ⟨_, rfl⟩

theorem rNumV_le {r : DReaderR} {most : Int} (hm : 0 ≤ most) : 0 ≤ rNumV r most ∧ rNumV r most ≤ most := by
  by_cases h : (rNum r most).e = 0
  · obtain ⟨_, _, h2, _, h3⟩ := rNum_of h
    omega
  · unfold rNumV; rw [if_pos h]; omega

theorem start_ok (s : ByteArray) (h : s.size ≤ maxLen) : rdOk ⟨s, 0, 0⟩ := ⟨Int.le_refl _, Int.natCast_nonneg _, h, Int.le_refl _, by show (0 : Int) ≤ 21; decide⟩

end Go.Proofs.Ytnkieaolhbmfpaa
