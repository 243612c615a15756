/- What a reading's bulk bounds: openings with a weight (for the second form, '..UptoSaid'). -/
import Derived.Test.YthomnhhjgcabkaaRows
import Derived.Test.YthomnhhjgcabkaaYO
import Derived.JoinedCond
import Derived.Deep.CondSized
namespace Go.Proofs.Ythomnhhjgcabkaa
open Go.RowKit Go.ChangeShapes Go.WideShapes Go.ChangeAt Go.Deep

theorem bulk_part {H : Type} {d : DataW H} {l : List (DataW H)} (h : d ∈ l) : Rows.uptoBulk d ≤ Rows.uptoBulkAll l := by
 induction l with
 | nil => cases h
 | cons x r ih =>
  simp only [Rows.uptoBulkAll]
  cases List.mem_cons.1 h with
  | inl e => subst e; omega
  | inr e => have := ih e; omega

theorem bulk_small {H : Type} {l : List (DataW H)} (hk : Rows.uptoSmall H l = true) : Rows.uptoBulkAll l ≤ 1048576 := of_decide_eq_true hk

/-- an opening that tells a weight too: it is at most the reading's bulk -/
def OpensU {α : Type} (P : Program) (T : TypeId) (R : Rp α) (B : α → Prop) (wt : α → Nat) : Prop :=
 ∀ {H : Type} {enc : TypeId × Value → H} {w : World} {base : Nat} {spare : Nat → Bool} {held : Bool} {fuel : Nat} {cs : List Value} {x : DataW H × List MemPlace}, DataW.trod enc P w base spare held fuel T cs = some x → ∃ y, R.rep AnyA w cs y ∧ (WB P T x.1 → B y) ∧ wt y ≤ Rows.uptoBulk x.1

theorem opensU_string {P : Program} {t : TypeId} (ht : P.underlying t = some .string) : OpensU P t NS bdStr ByteArray.size := fun h => by
 obtain ⟨y, h1, h2⟩ := opens_string ht h
 obtain ⟨a, e1, e2, q⟩ := DataW.trod_string ht h
 have e3 := h1.1
 rw [e1] at e3
 simp only [List.cons.injEq, and_true, Value.string.injEq] at e3
 subst e3
 refine ⟨a, ⟨e1, trivial⟩, h2, ?_⟩
 subst e2
 have : a.data.toList.length = a.size := by rw [Array.length_toList]; rfl
 simp only [Rows.uptoBulk]; omega

theorem struct_partsU {H : Type} {enc : TypeId × Value → H} {P : Program} {w : World} {base : Nat} {spare : Nat → Bool} {held : Bool} {t : TypeId} {fs : Array Field} {fuel : Nat} {cs : List Value} {x : DataW H × List MemPlace}
  (ht : P.underlying t = some (.struct fs)) (h : DataW.trod enc P w base spare held fuel t cs = some x) :
  cs.length = P.cellsOf t ∧ ∃ n, ∀ (j : Nat) (f : Field), fs[j]? = some f → ∃ y : DataW H × List MemPlace, DataW.trod enc P w base spare held n f.type ((cs.drop f.offset).take (P.cellsOf f.type)) = some y ∧ (WB P t x.1 → WB P f.type y.1) ∧ Rows.uptoBulk y.1 ≤ Rows.uptoBulk x.1 := by
 obtain ⟨ys, n, _, rfl, hlen, hyl, hf⟩ := DataW.trod_struct ht h
 refine ⟨hlen, n, fun j f hj => ?_⟩
 have hjl : j < fs.size := (Array.getElem?_eq_some_iff.1 hj).1
 have h1 := hf j f hj
 rw [List.getElem?_eq_getElem (by omega)] at h1
 refine ⟨_, h1, fun hw q hq => hw q ?_, ?_⟩
 ·simp only [DataW.weights, ht]
  exact DataW.weights_mem_each (j := j) (by simp [hj]) (by simp [List.getElem?_eq_getElem (show j < ys.length by omega)]) q hq
 ·simp only [Rows.uptoBulk]
  exact Nat.le_succ_of_le (bulk_part (List.mem_map.2 ⟨_, List.getElem_mem (by omega), rfl⟩))

section
variable {H : Type} {enc : TypeId × Value → H} {P : Program} {w : World} {base base0 : Nat} {spare : Nat → Bool} {held : Bool} {r : Reach} {v : Value} {d : DataW H} {p : List MemPlace}
end

end Go.Proofs.Ythomnhhjgcabkaa
