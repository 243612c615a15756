/- Writers and readers of the program and the document: what their plain functions come to. -/
import Derived.Test.YtlgejpompnbfoaaYWire
import Derived.Test.YtlgejpompnbfoaaYV
namespace Go.Proofs.Ytlgejpompnbfoaa

theorem wR_open (s : ByteArray) (h : s.size ≤ maxLen) : F_wire_Open s = some (ofRw ⟨s, 0, 0⟩) := chk_t h

theorem wR_num {r : DReaderR} (h : rdOk r) {most : Int} (hm : inI most) : F_wire_Reader_Num (ofRw r) most = some (rNumV r most, ofRw (rNum r most)) := chk_t ⟨⟨rfl, h⟩, hm⟩

theorem wR_big {r : DReaderR} (h : rdOk r) : F_wire_Reader_Big (ofRw r) = some ((rBigV r : Int), ofRw (rBig r)) := chk_t ⟨rfl, h⟩

theorem wR_text {r : DReaderR} (h : rdOk r) {most : Int} (hm : inI most) : F_wire_Reader_Text (ofRw r) most = some (rTextV r most, ofRw (rText r most)) := chk_t ⟨⟨rfl, h⟩, hm⟩

theorem wR_flag {r : DReaderR} (h : rdOk r) : F_wire_Reader_Flag (ofRw r) = some (rFlagV r, ofRw (rFlag r)) := chk_t ⟨rfl, h⟩

theorem wR_end {r : DReaderR} (h : rdOk r) : F_wire_Reader_End (ofRw r) = some (rEnd r) := chk_t ⟨rfl, h⟩

theorem wR_left {r : DReaderR} (h : rdOk r) : F_wire_Reader_Left (ofRw r) = some (rLeft r) := chk_t ⟨rfl, h⟩

theorem wR_err {r : DReaderR} : F_wire_Reader_Err (ofRw r) = some r.e := chk_t rfl

theorem r2_num {r : DReaderR} (h : rdOk r) {most : Int} (hm : inI most) : F_ref02_Reader_Num (ofR2 r) most = some (rNumV r most, ofR2 (rNum r most)) := chk_t ⟨h, hm⟩

theorem r2_big {r : DReaderR} (h : rdOk r) : F_ref02_Reader_Big (ofR2 r) = some ((rBigV r : Int), ofR2 (rBig r)) := chk_t h

theorem r2_text {r : DReaderR} (h : rdOk r) {most : Int} (hm : inI most) : F_ref02_Reader_Text (ofR2 r) most = some (rTextV r most, ofR2 (rText r most)) := chk_t ⟨h, hm⟩

theorem r2_flag {r : DReaderR} (h : rdOk r) : F_ref02_Reader_Flag (ofR2 r) = some (rFlagV r, ofR2 (rFlag r)) := chk_t h

theorem r2_end {r : DReaderR} (h : rdOk r) : F_ref02_Reader_End (ofR2 r) = some (rEnd r) := chk_t h

theorem r2_left {r : DReaderR} (h : rdOk r) : F_ref02_Reader_Left (ofR2 r) = some (rLeft r) := chk_t h

theorem start_ok (s : ByteArray) (h : s.size ≤ maxLen) : rdOk ⟨s, 0, 0⟩ := ⟨Int.le_refl _, Int.natCast_nonneg _, h, Int.le_refl _, by show (0 : Int) ≤ 21; decide⟩

end Go.Proofs.Ytlgejpompnbfoaa
