/- A region that draws its order, by one fact for each operation's value: each operation is shown once, from the facts of those that must come ahead of it; no order is walked. -/
import Derived.Test.YtfcdghlgcnjkoaaBase
import Derived.Orders
namespace Go.Proofs.Ytfcdghlgcnjkoaa
open Go.RowKit

/-- every edge that binds leads back -/
def edgesBack (l : List Oper) : Bool := l.zipIdx.all fun x => x.1.after.all fun e => !Region.binds .any e || decide (e.on < x.2)

/-- the direct forerunners of an operation -/
def fore (o : Oper) : List Nat := (o.after.toList.filter fun e => Region.binds .any e).map (·.on)

/-- the forerunners of an operation, and theirs -/
def ancs (l : List Oper) : Nat → Nat → List Nat
 | 0, _ => []
 | n + 1, i => match l[i]? with
  | none => []
  | some o => fore o ++ (fore o).flatMap (ancs l n)

/-- j cannot have come up ahead of k -/
def later (l : List Oper) (k j : Nat) : Bool := decide (j < l.length) && (j == k || (ancs l l.length j).contains k)

theorem ancs_in {l : List Oper} {D : Nat → Prop} (hD : ∀ i o, l[i]? = some o → D i → ∀ j ∈ fore o, D j) : ∀ n i, D i → ∀ j ∈ ancs l n i, D j
 | 0, _, _, j, hj => by simp [ancs] at hj
 | n + 1, i, hi, j, hj => by
  unfold ancs at hj
  split at hj
  ·simp at hj
  ·rename_i o ho
   rw [List.mem_append, List.mem_flatMap] at hj
   rcases hj with hj | ⟨m, hm, hj⟩
   ·exact hD i o ho hi j hj
   ·exact ancs_in hD n m (hD i o ho hi m hm) j hj

end Go.Proofs.Ytfcdghlgcnjkoaa
