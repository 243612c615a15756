/- Regions that draw their order, whose effects stand in no one order: a stage is the set of those that are done. No program is named here. -/
import Derived.Test.YtmmdghdindoclaaYB
namespace Go.Proofs.Ytmmdghdindoclaa

/-- a slice, or none where no slice is -/
def slG (v : Value) : Value := match v with
 | .slice a n c => .slice a n c
 | _ => .slice none 0 0

-- jumps back to a label
section
variable {P : Program} {Q : Exit → Act → World → Prop} {a : Act} {w : World}
end
open Go.RowKit in
theorem At.blw {w w' : World} {b off : Nat} {cl : List Value} (h : At w b off cl) (hb : Below w.heap.size w w') : At w' b off cl := fun j v hv => by
 have h1 := h j v hv
 by_cases hlt : b < w.heap.size
 ·exact (hb.cell (p := ⟨b, off + j, none⟩) hlt).trans h1
 ·unfold World.cell? at h1
  simp only [Array.getElem?_eq_none (Nat.le_of_not_lt hlt)] at h1
  cases h1

theorem Hf.owElG {I0 D : Dm} {w0 : World} {I : Dm} {w : World} {cs : List Ch} {α : Type} {R : Rp α} [Inhabited α] (H : Hf I0 D w0 I w cs) (i : Nat) {e : TypeId} {v : Value} {l : List α} (hi : cs[i]? = some (OwC R e v l)) (z : Int) (hd : ∃ cl, R.rep I w cl default) : ∃ cl, R.rep I w cl (l.getD z.toNat default) ∧ (0 ≤ z ∧ z < (l.length : Int) → At w (blkOf v) (oofOf v + z.toNat * R.n) cl) := by
 by_cases h0 : z.toNat < l.length
 ·obtain ⟨cl, h1, h2⟩ := H.owEl i hi (z := (z.toNat : Int)) (by omega)
  exact ⟨cl, h1, fun _ => h2⟩
 ·obtain ⟨cl, h1⟩ := hd
  refine ⟨cl, ?_, fun h => absurd h (by omega)⟩
  rw [List.getD_eq_getElem?_getD, List.getElem?_eq_none (by omega)]; exact h1

end Go.Proofs.Ytmmdghdindoclaa
