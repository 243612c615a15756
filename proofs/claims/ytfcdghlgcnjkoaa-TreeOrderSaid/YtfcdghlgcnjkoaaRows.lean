/-
  No cell of these rows narrows 'for every input' (looked for: loops, veiled, ifaces, maps, wideKeys, modest, calm, conditions, laid).
  DERIVED. THE GIVEN ROWS OF THIS SEAT. 4 by the template 'for every input the law returns true; each argument reads behind the call as it read before'; 0 by the template 'total and deterministic' (their statements: YtfcdghlgcnjkoaaTotals.lean).
  GIVEN WITH THE SEED: the statements are not yours to turn. If you find one false, say at which input.
  Laid BY PROGRAM, IN A SANDBOX (cutbox-rows.mjs): the forced cells as the released guide's own fill.sh prints them over the translation e3fef0f8894dad57… (all of the seat's roots in one cut). By AI agents, Wed Nov 11 2026. No macro, syntax, notation, axiom, sorry.
-/
import Derived.Test.YtfcdghlgcnjkoaaChecked
import GoSem.Claim
import GoSem.ClaimJoined
import GoSem.ClaimMapViews
import Derived.JoinedTies
import Derived.KernelRfl
namespace Go.Proofs.Ytfcdghlgcnjkoaa
/- THE CELL 'sum', in the pinned program and in every row, IS THE sha256 OF THE DUMP (.gsa) THAT YtfcdghlgcnjkoaaProg.lean LOADS. Nothing in Lean hashes anything: it is a label: what it is worth is what the hold of that sum in a sandbox is worth. -/
noncomputable def Try.pinned : Pinned := { name := "ytfcdghlgcnjkoaa", sum := "e3fef0f8894dad5758539732aa07d7c1b832df927a82b30a8a5d40804663e968", checked := Try.checked }
namespace Rows
def none {H : Type} : Left H := { results := [], args := [] }

/-- 'catenalaw15.TreeOrder': WHATEVER THE INPUT: true; the input reads as it did. -/
def treeOrderSpec : ChangeSpec := { name := "treeOrder", fn := fun _ => fun
  | [d1, d2, d3] => { results := [.lit (.bool true)], args := [d1, d2, d3] }
  | _ => none }
def treeOrderRow : OpenClaim := { program := "ytfcdghlgcnjkoaa", sum := "e3fef0f8894dad5758539732aa07d7c1b832df927a82b30a8a5d40804663e968", func := "catena/catenalaw15.TreeOrder", spec := "treeOrder", unfollowed := true, recurses := true, apart := false }
def TreeOrderSaid : Prop := treeOrderRow.holds Try.pinned (OpenSpec.ofChange treeOrderSpec)

/-- ITS FALSE NEIGHBOUR: 'it returns false'. Refute it at one input. -/
def treeOrderWrong : ChangeSpec := { name := "treeOrder", fn := fun _ => fun
  | [d1, d2, d3] => { results := [.lit (.bool false)], args := [d1, d2, d3] }
  | _ => none }
def TreeOrderWrongFalsely : Prop := treeOrderRow.holds Try.pinned (OpenSpec.ofChange treeOrderWrong)

/-- 'catenalaw15.TreePlays': WHATEVER THE INPUT: true; the input reads as it did. -/
def treePlaysSpec : ChangeSpec := { name := "treePlays", fn := fun _ => fun
  | [d] => { results := [.lit (.bool true)], args := [d] }
  | _ => none }
def treePlaysRow : OpenClaim := { program := "ytfcdghlgcnjkoaa", sum := "e3fef0f8894dad5758539732aa07d7c1b832df927a82b30a8a5d40804663e968", func := "catena/catenalaw15.TreePlays", spec := "treePlays", unfollowed := true, recurses := true, apart := false }
def TreePlaysSaid : Prop := treePlaysRow.holds Try.pinned (OpenSpec.ofChange treePlaysSpec)

/-- ITS FALSE NEIGHBOUR: 'it returns false'. Refute it at one input. -/
def treePlaysWrong : ChangeSpec := { name := "treePlays", fn := fun _ => fun
  | [d] => { results := [.lit (.bool false)], args := [d] }
  | _ => none }
def TreePlaysWrongFalsely : Prop := treePlaysRow.holds Try.pinned (OpenSpec.ofChange treePlaysWrong)

/-- 'catenalaw15.TreeFlat': WHATEVER THE INPUT: true; the input reads as it did. -/
def treeFlatSpec : ChangeSpec := { name := "treeFlat", fn := fun _ => fun
  | [d1, d2] => { results := [.lit (.bool true)], args := [d1, d2] }
  | _ => none }
def treeFlatRow : OpenClaim := { program := "ytfcdghlgcnjkoaa", sum := "e3fef0f8894dad5758539732aa07d7c1b832df927a82b30a8a5d40804663e968", func := "catena/catenalaw15.TreeFlat", spec := "treeFlat", unfollowed := true, recurses := true, apart := false }
def TreeFlatSaid : Prop := treeFlatRow.holds Try.pinned (OpenSpec.ofChange treeFlatSpec)

/-- ITS FALSE NEIGHBOUR: 'it returns false'. Refute it at one input. -/
def treeFlatWrong : ChangeSpec := { name := "treeFlat", fn := fun _ => fun
  | [d1, d2] => { results := [.lit (.bool false)], args := [d1, d2] }
  | _ => none }
def TreeFlatWrongFalsely : Prop := treeFlatRow.holds Try.pinned (OpenSpec.ofChange treeFlatWrong)

/-- 'catenalaw15.TreeZero': WHATEVER THE INPUT: true; the input reads as it did. -/
def treeZeroSpec : ChangeSpec := { name := "treeZero", fn := fun _ => fun
  | [d1, d2] => { results := [.lit (.bool true)], args := [d1, d2] }
  | _ => none }
def treeZeroRow : OpenClaim := { program := "ytfcdghlgcnjkoaa", sum := "e3fef0f8894dad5758539732aa07d7c1b832df927a82b30a8a5d40804663e968", func := "catena/catenalaw15.TreeZero", spec := "treeZero", unfollowed := true, recurses := true, apart := false }
def TreeZeroSaid : Prop := treeZeroRow.holds Try.pinned (OpenSpec.ofChange treeZeroSpec)

/-- ITS FALSE NEIGHBOUR: 'it returns false'. Refute it at one input. -/
def treeZeroWrong : ChangeSpec := { name := "treeZero", fn := fun _ => fun
  | [d1, d2] => { results := [.lit (.bool false)], args := [d1, d2] }
  | _ => none }
def TreeZeroWrongFalsely : Prop := treeZeroRow.holds Try.pinned (OpenSpec.ofChange treeZeroWrong)

/- THE SECOND FORM. 'bulk': how many values and letters a reading holds, each counted each time it is reached (what is shared counts as often as it is met; a slice's spare places count too). A statement '..UptoSaid' is the law's where the arguments, and the package variables that the reading takes, are together of bulk at most 1048576: NARROWER than '..Said'. Prove '..Said' where nothing that the law and all that it calls make is longer than what came in: it says more and counts as full. Else prove '..UptoSaid'. A law counts once. -/
mutual
def uptoBulk {H : Type} : DataW H → Nat
  | .lit (.string bytes) => bytes.length + 1
  | .lit _ => 1
  | .nil => 1
  | .ptr d => uptoBulk d + 1
  | .slice elems spare => uptoBulkAll elems + uptoBulkAll spare + 1
  | .agg parts => uptoBulkAll parts + 1
  | .iface _ d => uptoBulk d + 1
  | .map entries => uptoBulkEntries entries + 1
  | .held _ => 1
def uptoBulkAll {H : Type} : List (DataW H) → Nat
  | [] => 0
  | d :: r => uptoBulk d + uptoBulkAll r
def uptoBulkEntries {H : Type} : List (Lit × DataW H) → Nat
  | [] => 0
  | x :: r => uptoBulkEntry x + uptoBulkEntries r
def uptoBulkEntry {H : Type} : Lit × DataW H → Nat
  | (.string bytes, d) => bytes.length + uptoBulk d + 1
  | (_, d) => uptoBulk d + 1
 end
def uptoSmall : (H : Type) → List (DataW H) → Bool := fun _ ds => decide (uptoBulkAll ds ≤ 1048576)
def OpenSpec.upto (s : _root_.Go.ChangeSpec) : _root_.Go.OpenSpec := { _root_.Go.OpenSpec.ofChange s with cond := some uptoSmall }

/-- 'catenalaw15.TreeOrder', WHERE WHAT IT READS IS OF BULK AT MOST 1048576: true; the input reads as it did. -/
def treeOrderUptoRow : OpenClaim := { program := "ytfcdghlgcnjkoaa", sum := "e3fef0f8894dad5758539732aa07d7c1b832df927a82b30a8a5d40804663e968", func := "catena/catenalaw15.TreeOrder", spec := "treeOrder", unfollowed := true, recurses := true, apart := false, narrowed := true }
def TreeOrderUptoSaid : Prop := treeOrderUptoRow.holds Try.pinned (OpenSpec.upto treeOrderSpec)

/-- 'catenalaw15.TreePlays', WHERE WHAT IT READS IS OF BULK AT MOST 1048576: true; the input reads as it did. -/
def treePlaysUptoRow : OpenClaim := { program := "ytfcdghlgcnjkoaa", sum := "e3fef0f8894dad5758539732aa07d7c1b832df927a82b30a8a5d40804663e968", func := "catena/catenalaw15.TreePlays", spec := "treePlays", unfollowed := true, recurses := true, apart := false, narrowed := true }
def TreePlaysUptoSaid : Prop := treePlaysUptoRow.holds Try.pinned (OpenSpec.upto treePlaysSpec)

/-- 'catenalaw15.TreeFlat', WHERE WHAT IT READS IS OF BULK AT MOST 1048576: true; the input reads as it did. -/
def treeFlatUptoRow : OpenClaim := { program := "ytfcdghlgcnjkoaa", sum := "e3fef0f8894dad5758539732aa07d7c1b832df927a82b30a8a5d40804663e968", func := "catena/catenalaw15.TreeFlat", spec := "treeFlat", unfollowed := true, recurses := true, apart := false, narrowed := true }
def TreeFlatUptoSaid : Prop := treeFlatUptoRow.holds Try.pinned (OpenSpec.upto treeFlatSpec)

/-- 'catenalaw15.TreeZero', WHERE WHAT IT READS IS OF BULK AT MOST 1048576: true; the input reads as it did. -/
def treeZeroUptoRow : OpenClaim := { program := "ytfcdghlgcnjkoaa", sum := "e3fef0f8894dad5758539732aa07d7c1b832df927a82b30a8a5d40804663e968", func := "catena/catenalaw15.TreeZero", spec := "treeZero", unfollowed := true, recurses := true, apart := false, narrowed := true }
def TreeZeroUptoSaid : Prop := treeZeroUptoRow.holds Try.pinned (OpenSpec.upto treeZeroSpec)

end Rows
end Go.Proofs.Ytfcdghlgcnjkoaa
