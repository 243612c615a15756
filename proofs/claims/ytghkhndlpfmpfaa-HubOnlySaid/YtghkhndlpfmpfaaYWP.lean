/- Writers and readers of the program and the document: what their plain functions come to. -/
import Derived.Test.YtghkhndlpfmpfaaYWire
import Derived.Test.YtghkhndlpfmpfaaYV
namespace Go.Proofs.Ytghkhndlpfmpfaa

theorem wR_open (s : ByteArray) (h : s.size ≤ maxLen) : F_wire_Open s = some (ofRw ⟨s, 0, 0⟩) := chk_t h

theorem wR_num {r : DReaderR} (h : rdOk r) {most : Int} (hm : inI most) : F_wire_Reader_Num (ofRw r) most = some (rNumV r most, ofRw (rNum r most)) := chk_t ⟨⟨rfl, h⟩, hm⟩

theorem wR_text {r : DReaderR} (h : rdOk r) {most : Int} (hm : inI most) : F_wire_Reader_Text (ofRw r) most = some (rTextV r most, ofRw (rText r most)) := chk_t ⟨⟨rfl, h⟩, hm⟩

theorem wR_flag {r : DReaderR} (h : rdOk r) : F_wire_Reader_Flag (ofRw r) = some (rFlagV r, ofRw (rFlag r)) := chk_t ⟨rfl, h⟩

theorem wR_end {r : DReaderR} (h : rdOk r) : F_wire_Reader_End (ofRw r) = some (rEnd r) := chk_t ⟨rfl, h⟩

theorem start_ok (s : ByteArray) (h : s.size ≤ maxLen) : rdOk ⟨s, 0, 0⟩ := ⟨Int.le_refl _, Int.natCast_nonneg _, h, Int.le_refl _, by show (0 : Int) ≤ 21; decide⟩

-- loops that read and write lists
section lists
variable {α R : Type} {f : DReaderR → α × DReaderR}
end lists
theorem rText_ok {r : DReaderR} {most : Int} (h : rdOk r) : rdOk (rText r most) := by
 have h1 := rBig_ok h
 unfold rText
 split; · exact h1
 split; · exact ⟨h1.1, h1.2.1, h1.2.2.1, (by decide : (0 : Int) ≤ 3), (by decide : (3 : Int) ≤ 21)⟩
 split; · exact ⟨h1.1, h1.2.1, h1.2.2.1, (by decide : (0 : Int) ≤ 2), (by decide : (2 : Int) ≤ 21)⟩
 obtain ⟨a, b, c, d, e⟩ := h1
 exact ⟨by show 0 ≤ (rBig r).at_ + (rBigV r : Int); omega, by show (rBig r).at_ + (rBigV r : Int) ≤ ((rBig r).s.size : Int); omega, c, d, e⟩

theorem rFlag_ok {r : DReaderR} (h : rdOk r) : rdOk (rFlag r) := by
 obtain ⟨a, b, c, d, e⟩ := h
 unfold rFlag
 split; · exact ⟨a, b, c, d, e⟩
 split; · exact ⟨a, b, c, (by decide : (0 : Int) ≤ 2), (by decide : (2 : Int) ≤ 21)⟩
 split; · exact ⟨a, b, c, (by decide : (0 : Int) ≤ 4), (by decide : (4 : Int) ≤ 21)⟩
 exact ⟨by show 0 ≤ r.at_ + 1; omega, by show r.at_ + 1 ≤ (r.s.size : Int); omega, c, d, e⟩

end Go.Proofs.Ytghkhndlpfmpfaa
