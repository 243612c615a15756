/- Writers and readers of the program and the document: what their plain functions come to. -/
import Derived.Test.YtnkieaolhbmfpaaYWire
import Derived.Test.YtnkieaolhbmfpaaYV
namespace Go.Proofs.Ytnkieaolhbmfpaa

theorem Wt.w0 : Wt (toWw default) [] := ⟨rfl, rfl⟩

theorem Wt.r0 : Wt (toW2 default) [] := ⟨rfl, rfl⟩

theorem wW_num {x : Ewire_Writer} {l : List Nat} {z : Int} (h : Wt (toWw x) l) (hz : 0 ≤ z) (hi : inI z) (hl : l.length + 9 ≤ 140737488355328) : ∃ y, F_wire_Writer_Num x z = some y ∧ Wt (toWw y) (l ++ vputL z.toNat) :=
  ⟨_, chk_t ⟨hi, fun _ => by rw [h.size]; exact hl⟩, h.num' hz⟩

theorem wW_big {x : Ewire_Writer} {l : List Nat} {z : Int} (h : Wt (toWw x) l) (hi : inU z) (hl : l.length + 9 ≤ 140737488355328) : ∃ y, F_wire_Writer_Big x z = some y ∧ Wt (toWw y) (l ++ vputL z.toNat) :=
  ⟨_, chk_t ⟨hi, fun _ => by rw [h.size]; exact hl⟩, by have := h.put (vput z.toNat); rw [bL_vput] at this; exact this⟩

theorem wW_done {x : Ewire_Writer} {l : List Nat} (h : Wt (toWw x) l) : ∃ s, F_wire_Writer_Done x = some (s, 0) ∧ bL s = l := ⟨_, by rw [F_wire_Writer_Done, show x.e = 0 from h.1], h.done⟩

theorem w2_num {x : Eref02_Writer} {l : List Nat} {z : Int} (h : Wt (toW2 x) l) (hz : 0 ≤ z) (hi : inI z) (hl : l.length + 9 ≤ 140737488355328) : ∃ y, F_ref02_Writer_Num x z = some y ∧ Wt (toW2 y) (l ++ vputL z.toNat) :=
  ⟨_, chk_t ⟨hi, by have := h.size; unfold maxLen; change x.s.size = _ at this; omega⟩, h.num' hz⟩

theorem w2_big {x : Eref02_Writer} {l : List Nat} {z : Int} (h : Wt (toW2 x) l) (hi : inU z) (hl : l.length + 9 ≤ 140737488355328) : ∃ y, F_ref02_Writer_Big x z = some y ∧ Wt (toW2 y) (l ++ vputL z.toNat) :=
  ⟨_, chk_t ⟨hi, by have := h.size; unfold maxLen; change x.s.size = _ at this; omega⟩, by have := h.put (vput z.toNat); rw [bL_vput] at this; exact this⟩

theorem w2_done {x : Eref02_Writer} {l : List Nat} (h : Wt (toW2 x) l) : ∃ s, F_ref02_Writer_Done x = some (s, 0) ∧ bL s = l := ⟨_, by rw [F_ref02_Writer_Done, show x.e = 0 from h.1], h.done⟩

end Go.Proofs.Ytnkieaolhbmfpaa
