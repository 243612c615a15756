/- Writers and readers of the program and the document: what their plain functions come to. -/
import Derived.Test.YthmjkcdpbbcdgaaGreatYWire
import Derived.Test.YthmjkcdpbbcdgaaGreatYV
namespace Go.Proofs.YthmjkcdpbbcdgaaGreat

theorem Wt.w0 : Wt (toWw default) [] := ⟨rfl, rfl⟩

theorem Wt.r0 : Wt (toW2 default) [] := ⟨rfl, rfl⟩

theorem wW_num {x : Ewire_Writer} {l : List Nat} {z : Int} (h : Wt (toWw x) l) (hz : 0 ≤ z) (hi : inI z) (hl : l.length + 9 ≤ 140737488355328) : ∃ y, F_wire_Writer_Num x z = some y ∧ Wt (toWw y) (l ++ vputL z.toNat) :=
 ⟨_, chk_t ⟨hi, fun _ => by rw [h.size]; exact hl⟩, h.num' hz⟩

theorem wW_big {x : Ewire_Writer} {l : List Nat} {z : Int} (h : Wt (toWw x) l) (hi : inU z) (hl : l.length + 9 ≤ 140737488355328) : ∃ y, F_wire_Writer_Big x z = some y ∧ Wt (toWw y) (l ++ vputL z.toNat) :=
 ⟨_, chk_t ⟨hi, fun _ => by rw [h.size]; exact hl⟩, by have := h.put (vput z.toNat); rw [bL_vput] at this; exact this⟩

theorem wW_text {x : Ewire_Writer} {l : List Nat} (t : ByteArray) (h : Wt (toWw x) l) (hl : l.length + (9 + t.size) ≤ 140737488355328) : ∃ y, F_wire_Writer_Text x t = some y ∧ Wt (toWw y) (l ++ (vputL t.size ++ bL t)) :=
 ⟨_, chk_t ⟨by unfold maxLen; omega, fun _ => by rw [h.size]; exact hl⟩, h.text t⟩

theorem wW_flag {x : Ewire_Writer} {l : List Nat} (b : Bool) (h : Wt (toWw x) l) (hl : l.length + 1 ≤ 140737488355328) : ∃ y, F_wire_Writer_Flag x b = some y ∧ Wt (toWw y) (l ++ [if b then 1 else 0]) :=
 ⟨_, chk_t (fun _ => by rw [h.size]; exact hl), h.flag b⟩

theorem wW_done {x : Ewire_Writer} {l : List Nat} (h : Wt (toWw x) l) : ∃ s, F_wire_Writer_Done x = some (s, 0) ∧ bL s = l := ⟨_, by rw [F_wire_Writer_Done, show x.e = 0 from h.1], h.done⟩

theorem w2_num {x : Eref02_Writer} {l : List Nat} {z : Int} (h : Wt (toW2 x) l) (hz : 0 ≤ z) (hi : inI z) (hl : l.length + 9 ≤ 140737488355328) : ∃ y, F_ref02_Writer_Num x z = some y ∧ Wt (toW2 y) (l ++ vputL z.toNat) :=
 ⟨_, chk_t ⟨hi, by have := h.size; unfold maxLen; change x.s.size = _ at this; omega⟩, h.num' hz⟩

theorem w2_big {x : Eref02_Writer} {l : List Nat} {z : Int} (h : Wt (toW2 x) l) (hi : inU z) (hl : l.length + 9 ≤ 140737488355328) : ∃ y, F_ref02_Writer_Big x z = some y ∧ Wt (toW2 y) (l ++ vputL z.toNat) :=
 ⟨_, chk_t ⟨hi, by have := h.size; unfold maxLen; change x.s.size = _ at this; omega⟩, by have := h.put (vput z.toNat); rw [bL_vput] at this; exact this⟩

theorem w2_text {x : Eref02_Writer} {l : List Nat} (t : ByteArray) (h : Wt (toW2 x) l) (hl : l.length + (9 + t.size) ≤ 140737488355328) : ∃ y, F_ref02_Writer_Text x t = some y ∧ Wt (toW2 y) (l ++ (vputL t.size ++ bL t)) :=
 ⟨_, chk_t ⟨by unfold maxLen; omega, by have := h.size; unfold maxLen; change x.s.size = _ at this; omega⟩, h.text t⟩

theorem w2_flag {x : Eref02_Writer} {l : List Nat} (b : Bool) (h : Wt (toW2 x) l) (hl : l.length + 9 ≤ 140737488355328) : ∃ y, F_ref02_Writer_Flag x b = some y ∧ Wt (toW2 y) (l ++ [if b then 1 else 0]) :=
 ⟨_, chk_t (by have := h.size; unfold maxLen; change x.s.size = _ at this; omega), h.flag b⟩

theorem w2_done {x : Eref02_Writer} {l : List Nat} (h : Wt (toW2 x) l) : ∃ s, F_ref02_Writer_Done x = some (s, 0) ∧ bL s = l := ⟨_, by rw [F_ref02_Writer_Done, show x.e = 0 from h.1], h.done⟩

-- loops that read and write lists
section lists
variable {α R : Type} {f : DReaderR → α × DReaderR}
theorem wWloop {body : (Int × Ewire_Writer → Option R) → Int × Ewire_Writer → Option R} [Inhabited α] (l : List α) (hl : l.length ≤ bdM) (B : α → List Nat) (pre : List Nat) (out : Option R)
  (h1 : ∀ rc (k : Nat) (y : Ewire_Writer), k < l.length → Wt (toWw y) (pre ++ (l.take k).flatMap B) → ∃ y', Wt (toWw y') ((pre ++ (l.take k).flatMap B) ++ B (l.getD k default)) ∧ body rc ((k : Int), y) = rc ((k : Int) + 1, y'))
  (h2 : ∀ rc (y : Ewire_Writer), Wt (toWw y) (pre ++ l.flatMap B) → body rc ((l.length : Int), y) = out) (y : Ewire_Writer) (hy : Wt (toWw y) pre) : iter body FU (0, y) = out := by
 refine iter_up2 (σ := Ewire_Writer) l.length (fun _ _ => out) (fun k y => Wt (toWw y) (pre ++ (l.take k).flatMap B)) hl (by simpa using hy) fun rc k y hk hy hrc => ?_
 by_cases hk1 : k < l.length
 ·obtain ⟨y', h3, h4⟩ := h1 rc k y hk1 hy
  rw [h4]
  refine hrc y' hk1 ?_
  rw [take_snoc (d := default) hk1, List.flatMap_append, ← List.append_assoc]
  simpa using h3
 ·have : k = l.length := by omega
  subst this
  exact h2 rc y (by rw [List.take_length] at hy; exact hy)

theorem w2loop {body : (Int × ByteArray × Int → Option R) → Int × ByteArray × Int → Option R} [Inhabited α] (l : List α) (hl : l.length ≤ bdM) (B : α → List Nat) (pre : List Nat) (out : Option R)
  (h1 : ∀ rc (k : Nat) (y : Eref02_Writer), k < l.length → Wt (toW2 y) (pre ++ (l.take k).flatMap B) → ∃ y' : Eref02_Writer, Wt (toW2 y') ((pre ++ (l.take k).flatMap B) ++ B (l.getD k default)) ∧ body rc ((k : Int), y.s, y.e) = rc ((k : Int) + 1, y'.s, y'.e))
  (h2 : ∀ rc (y : Eref02_Writer), Wt (toW2 y) (pre ++ l.flatMap B) → body rc ((l.length : Int), y.s, y.e) = out) (y : Eref02_Writer) (hy : Wt (toW2 y) pre) : iter body FU (0, y.s, y.e) = out := by
 refine iter_up2 (σ := ByteArray × Int) l.length (fun _ _ => out) (fun k y => Wt ⟨y.1, y.2⟩ (pre ++ (l.take k).flatMap B)) hl (s0 := (y.s, y.e)) (by simpa [toW2] using hy) fun rc k y hk hy hrc => ?_
 obtain ⟨ys, ye⟩ := y
 by_cases hk1 : k < l.length
 ·obtain ⟨y', h3, h4⟩ := h1 rc k ⟨ys, ye⟩ hk1 hy
  refine h4.trans (hrc (y'.s, y'.e) hk1 ?_)
  rw [take_snoc (d := default) hk1, List.flatMap_append, ← List.append_assoc]
  have e : [l.getD k default].flatMap B = B (l.getD k default) := by simp
  rw [e]; exact h3
 ·have : k = l.length := by omega
  subst this
  exact h2 rc ⟨ys, ye⟩ (by rw [List.take_length] at hy; exact hy)

end lists
end Go.Proofs.YthmjkcdpbbcdgaaGreat
