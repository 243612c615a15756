/- Ranges over functions: a loop's record and its rounds as chunks; the rules of walks in rounds. No program is named here. -/
import Derived.Test.YtmmdghdindoclaaYM
import Derived.RangeFuncLeaves
import Derived.RangeFuncSeq
import Derived.TacticsIn
namespace Go.Proofs.Ytmmdghdindoclaa
open Go.RowKit

def ObC (b : Nat) (o : Obj) : Ch where
 P _ w fp := (∀ k, fp k ↔ k = b) ∧ w.heap[b]? = some o
 keep := fun {I I' fp w w'} ⟨h1, h2⟩ _ hk => ⟨h1, by
  have hl : b < w.heap.size := (Array.getElem?_eq_some_iff.1 h2).1
  rw [hk.2 b (.inr ((h1 b).2 rfl)) hl]; exact h2⟩
 pur := false
 hpur := fun h => by cases h

section hf
variable {I0 D : Dm} {w0 : World} {I : Dm} {w : World} {cs : List Ch}
end hf

section ins
variable {P : Program} {ops : Array Oper} {Q : Exit → Act → World → Prop} {a : Act} {w : World} {o : Oper} {F : Fence} {m : Nat}
variable {ds : List Deferred} {n : Nat} {S : Slots} {G : List GV}
variable {I0 D : Dm} {w0 : World} {I : Dm} {cs : List Ch} {rest : List Oper}
-- rounds
variable {L fn D0 : Nat} {tm : Array Value} {ps : Array Tmp} {asg bd : Code} {R : Value → World → Prop} {c : Code}
end ins

section range
variable {P : Program} {Q : Exit → Act → World → Prop} {a : Act} {w : World} {n : Nat} {S : Slots} {σ E VT : Type} {I0 D : Dm} {w0 : World} {I : Dm} {cs : List Ch}
end range
end Go.Proofs.Ytmmdghdindoclaa
