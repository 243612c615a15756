/-
  No cell of these rows narrows 'for every input' (looked for: loops, veiled, ifaces, maps, wideKeys, modest, calm, conditions, laid).
  DERIVED. THE GIVEN ROWS OF THIS SEAT. 4 by the template 'for every input the law returns true; each argument reads behind the call as it read before'; 0 by the template 'total and deterministic' (their statements: YtodgamombdaoiaaTotals.lean).
  GIVEN WITH THE SEED: the statements are not yours to turn. If you find one false, say at which input.
  Laid BY PROGRAM, IN A SANDBOX (cutbox-rows.mjs): the forced cells as the released guide's own fill.sh prints them over the translation d579a533f113c7bb… (all of the seat's roots in one cut). By AI agents, Wed Nov 11 2026. No macro, syntax, notation, axiom, sorry.
-/
import Derived.Test.YtodgamombdaoiaaChecked
import GoSem.Claim
import GoSem.ClaimJoined
import GoSem.ClaimMapViews
import Derived.JoinedTies
import Derived.KernelRfl
namespace Go.Proofs.Ytodgamombdaoiaa
/- THE CELL 'sum', in the pinned program and in every row, IS THE sha256 OF THE DUMP (.gsa) THAT YtodgamombdaoiaaProg.lean LOADS. Nothing in Lean hashes anything: it is a label: what it is worth is what the hold of that sum in a sandbox is worth. -/
noncomputable def Try.pinned : Pinned := { name := "ytodgamombdaoiaa", sum := "d579a533f113c7bb33b2ce949efd89cbda66a8ceac1455404e7a7afc9b116fed", checked := Try.checked }
namespace Rows
def none {H : Type} : Left H := { results := [], args := [] }

/-- 'catenalaw08.ItemLists': WHATEVER THE INPUT: true; the input reads as it did. -/
def itemListsSpec : ChangeSpec := { name := "itemLists", fn := fun _ => fun
  | [d] => { results := [.lit (.bool true)], args := [d] }
  | _ => none }
def itemListsRow : OpenClaim := { program := "ytodgamombdaoiaa", sum := "d579a533f113c7bb33b2ce949efd89cbda66a8ceac1455404e7a7afc9b116fed", func := "catena/catenalaw08.ItemLists", spec := "itemLists", inPlace := ["internal/abi.NoEscape"], plainKeys := false, apart := false }
def ItemListsSaid : Prop := itemListsRow.holds Try.pinned (OpenSpec.ofChange itemListsSpec)

/-- ITS FALSE NEIGHBOUR: 'it returns false'. Refute it at one input. -/
def itemListsWrong : ChangeSpec := { name := "itemLists", fn := fun _ => fun
  | [d] => { results := [.lit (.bool false)], args := [d] }
  | _ => none }
def ItemListsWrongFalsely : Prop := itemListsRow.holds Try.pinned (OpenSpec.ofChange itemListsWrong)

/-- 'catenalaw08.ItemBegins': WHATEVER THE INPUT: true; the input reads as it did. -/
def itemBeginsSpec : ChangeSpec := { name := "itemBegins", fn := fun _ => fun
  | [d1, d2] => { results := [.lit (.bool true)], args := [d1, d2] }
  | _ => none }
def itemBeginsRow : OpenClaim := { program := "ytodgamombdaoiaa", sum := "d579a533f113c7bb33b2ce949efd89cbda66a8ceac1455404e7a7afc9b116fed", func := "catena/catenalaw08.ItemBegins", spec := "itemBegins", inPlace := ["internal/abi.NoEscape"], plainKeys := false, apart := false }
def ItemBeginsSaid : Prop := itemBeginsRow.holds Try.pinned (OpenSpec.ofChange itemBeginsSpec)

/-- ITS FALSE NEIGHBOUR: 'it returns false'. Refute it at one input. -/
def itemBeginsWrong : ChangeSpec := { name := "itemBegins", fn := fun _ => fun
  | [d1, d2] => { results := [.lit (.bool false)], args := [d1, d2] }
  | _ => none }
def ItemBeginsWrongFalsely : Prop := itemBeginsRow.holds Try.pinned (OpenSpec.ofChange itemBeginsWrong)

/-- 'catenalaw08.ItemPuts': WHATEVER THE INPUT: true; the input reads as it did. -/
def itemPutsSpec : ChangeSpec := { name := "itemPuts", fn := fun _ => fun
  | [d1, d2] => { results := [.lit (.bool true)], args := [d1, d2] }
  | _ => none }
def itemPutsRow : OpenClaim := { program := "ytodgamombdaoiaa", sum := "d579a533f113c7bb33b2ce949efd89cbda66a8ceac1455404e7a7afc9b116fed", func := "catena/catenalaw08.ItemPuts", spec := "itemPuts", inPlace := ["internal/abi.NoEscape"], plainKeys := false, apart := false }
def ItemPutsSaid : Prop := itemPutsRow.holds Try.pinned (OpenSpec.ofChange itemPutsSpec)

/-- ITS FALSE NEIGHBOUR: 'it returns false'. Refute it at one input. -/
def itemPutsWrong : ChangeSpec := { name := "itemPuts", fn := fun _ => fun
  | [d1, d2] => { results := [.lit (.bool false)], args := [d1, d2] }
  | _ => none }
def ItemPutsWrongFalsely : Prop := itemPutsRow.holds Try.pinned (OpenSpec.ofChange itemPutsWrong)

/-- 'catenalaw08.ItemReads': WHATEVER THE INPUT: true; the input reads as it did. -/
def itemReadsSpec : ChangeSpec := { name := "itemReads", fn := fun _ => fun
  | [d1, d2] => { results := [.lit (.bool true)], args := [d1, d2] }
  | _ => none }
def itemReadsRow : OpenClaim := { program := "ytodgamombdaoiaa", sum := "d579a533f113c7bb33b2ce949efd89cbda66a8ceac1455404e7a7afc9b116fed", func := "catena/catenalaw08.ItemReads", spec := "itemReads", inPlace := ["internal/abi.NoEscape"], unfollowed := true, recurses := true, plainKeys := false, apart := false }
def ItemReadsSaid : Prop := itemReadsRow.holds Try.pinned (OpenSpec.ofChange itemReadsSpec)

/-- ITS FALSE NEIGHBOUR: 'it returns false'. Refute it at one input. -/
def itemReadsWrong : ChangeSpec := { name := "itemReads", fn := fun _ => fun
  | [d1, d2] => { results := [.lit (.bool false)], args := [d1, d2] }
  | _ => none }
def ItemReadsWrongFalsely : Prop := itemReadsRow.holds Try.pinned (OpenSpec.ofChange itemReadsWrong)

/- THE SECOND FORM. 'bulk': how many values and letters a reading holds, each counted each time it is reached (what is shared counts as often as it is met; a slice's spare places count too). A statement '..UptoSaid' is the law's where the arguments, and the package variables that the reading takes, are together of bulk at most 1048576: NARROWER than '..Said'. Prove '..Said' where nothing that the law and all that it calls make is longer than what came in: it says more and counts as full. Else prove '..UptoSaid'. A law counts once. -/
mutual
def uptoBulk {H : Type} : DataW H → Nat
  | .lit (.string bytes) => bytes.length + 1
  | .lit _ => 1
  | .nil => 1
  | .ptr d => uptoBulk d + 1
  | .slice elems spare => uptoBulkAll elems + uptoBulkAll spare + 1
  | .agg parts => uptoBulkAll parts + 1
  | .iface _ d => uptoBulk d + 1
  | .map entries => uptoBulkEntries entries + 1
  | .held _ => 1
def uptoBulkAll {H : Type} : List (DataW H) → Nat
  | [] => 0
  | d :: r => uptoBulk d + uptoBulkAll r
def uptoBulkEntries {H : Type} : List (Lit × DataW H) → Nat
  | [] => 0
  | x :: r => uptoBulkEntry x + uptoBulkEntries r
def uptoBulkEntry {H : Type} : Lit × DataW H → Nat
  | (.string bytes, d) => bytes.length + uptoBulk d + 1
  | (_, d) => uptoBulk d + 1
 end
def uptoSmall : (H : Type) → List (DataW H) → Bool := fun _ ds => decide (uptoBulkAll ds ≤ 1048576)
def OpenSpec.upto (s : _root_.Go.ChangeSpec) : _root_.Go.OpenSpec := { _root_.Go.OpenSpec.ofChange s with cond := some uptoSmall }

/-- 'catenalaw08.ItemLists', WHERE WHAT IT READS IS OF BULK AT MOST 1048576: true; the input reads as it did. -/
def itemListsUptoRow : OpenClaim := { program := "ytodgamombdaoiaa", sum := "d579a533f113c7bb33b2ce949efd89cbda66a8ceac1455404e7a7afc9b116fed", func := "catena/catenalaw08.ItemLists", spec := "itemLists", inPlace := ["internal/abi.NoEscape"], plainKeys := false, apart := false, narrowed := true }
def ItemListsUptoSaid : Prop := itemListsUptoRow.holds Try.pinned (OpenSpec.upto itemListsSpec)

/-- 'catenalaw08.ItemBegins', WHERE WHAT IT READS IS OF BULK AT MOST 1048576: true; the input reads as it did. -/
def itemBeginsUptoRow : OpenClaim := { program := "ytodgamombdaoiaa", sum := "d579a533f113c7bb33b2ce949efd89cbda66a8ceac1455404e7a7afc9b116fed", func := "catena/catenalaw08.ItemBegins", spec := "itemBegins", inPlace := ["internal/abi.NoEscape"], plainKeys := false, apart := false, narrowed := true }
def ItemBeginsUptoSaid : Prop := itemBeginsUptoRow.holds Try.pinned (OpenSpec.upto itemBeginsSpec)

/-- 'catenalaw08.ItemPuts', WHERE WHAT IT READS IS OF BULK AT MOST 1048576: true; the input reads as it did. -/
def itemPutsUptoRow : OpenClaim := { program := "ytodgamombdaoiaa", sum := "d579a533f113c7bb33b2ce949efd89cbda66a8ceac1455404e7a7afc9b116fed", func := "catena/catenalaw08.ItemPuts", spec := "itemPuts", inPlace := ["internal/abi.NoEscape"], plainKeys := false, apart := false, narrowed := true }
def ItemPutsUptoSaid : Prop := itemPutsUptoRow.holds Try.pinned (OpenSpec.upto itemPutsSpec)

/-- 'catenalaw08.ItemReads', WHERE WHAT IT READS IS OF BULK AT MOST 1048576: true; the input reads as it did. -/
def itemReadsUptoRow : OpenClaim := { program := "ytodgamombdaoiaa", sum := "d579a533f113c7bb33b2ce949efd89cbda66a8ceac1455404e7a7afc9b116fed", func := "catena/catenalaw08.ItemReads", spec := "itemReads", inPlace := ["internal/abi.NoEscape"], unfollowed := true, recurses := true, plainKeys := false, apart := false, narrowed := true }
def ItemReadsUptoSaid : Prop := itemReadsUptoRow.holds Try.pinned (OpenSpec.upto itemReadsSpec)

end Rows
end Go.Proofs.Ytodgamombdaoiaa
