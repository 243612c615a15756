/- Writers and readers of the program and the document: what their plain functions come to. -/
import Derived.Test.YtnkieaolhbmfpaaYWire
import Derived.Test.YtnkieaolhbmfpaaYV
namespace Go.Proofs.Ytnkieaolhbmfpaa

theorem wR_open (s : ByteArray) (h : s.size ≤ maxLen) : F_wire_Open s = some (ofRw ⟨s, 0, 0⟩) := chk_t h

theorem wR_num {r : DReaderR} (h : rdOk r) {most : Int} (hm : inI most) : F_wire_Reader_Num (ofRw r) most = some (rNumV r most, ofRw (rNum r most)) := chk_t ⟨⟨rfl, h⟩, hm⟩

theorem wR_big {r : DReaderR} (h : rdOk r) : F_wire_Reader_Big (ofRw r) = some ((rBigV r : Int), ofRw (rBig r)) := chk_t ⟨rfl, h⟩

theorem wR_end {r : DReaderR} (h : rdOk r) : F_wire_Reader_End (ofRw r) = some (rEnd r) := chk_t ⟨rfl, h⟩

theorem r2_num {r : DReaderR} (h : rdOk r) {most : Int} (hm : inI most) : F_ref02_Reader_Num (ofR2 r) most = some (rNumV r most, ofR2 (rNum r most)) := chk_t ⟨h, hm⟩

theorem r2_big {r : DReaderR} (h : rdOk r) : F_ref02_Reader_Big (ofR2 r) = some ((rBigV r : Int), ofR2 (rBig r)) := chk_t h

theorem r2_end {r : DReaderR} (h : rdOk r) : F_ref02_Reader_End (ofR2 r) = some (rEnd r) := chk_t h

theorem rNumV_nat (r : DReaderR) (most : Int) : ∃ n : Nat, rNumV r most = n := by
  unfold rNumV; split
  · exact ⟨0, rfl⟩
  · exact ⟨_, rfl⟩

theorem rNumV_le {r : DReaderR} {most : Int} (hm : 0 ≤ most) : 0 ≤ rNumV r most ∧ rNumV r most ≤ most := by
  by_cases h : (rNum r most).e = 0
  · obtain ⟨_, _, h2, _, h3⟩ := rNum_of h
    omega
  · unfold rNumV; rw [if_pos h]; omega

theorem start_ok (s : ByteArray) (h : s.size ≤ maxLen) : rdOk ⟨s, 0, 0⟩ := ⟨Int.le_refl _, Int.natCast_nonneg _, h, Int.le_refl _, by show (0 : Int) ≤ 21; decide⟩

end Go.Proofs.Ytnkieaolhbmfpaa
