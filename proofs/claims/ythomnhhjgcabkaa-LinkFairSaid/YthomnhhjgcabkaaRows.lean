/-
  No cell of these rows narrows 'for every input' (looked for: loops, veiled, ifaces, maps, wideKeys, modest, calm, conditions, laid).
  DERIVED. THE GIVEN ROWS OF THIS SEAT. 5 by the template 'for every input the law returns true; each argument reads behind the call as it read before'; 0 by the template 'total and deterministic' (their statements: YthomnhhjgcabkaaTotals.lean).
  GIVEN WITH THE SEED: the statements are not yours to turn. If you find one false, say at which input.
  Laid BY PROGRAM, IN A SANDBOX (cutbox-rows.mjs): the forced cells as the released guide's own fill.sh prints them over the translation f34f8e3dd2ed7066… (all of the seat's roots in one cut). By AI agents, Wed Nov 11 2026. No macro, syntax, notation, axiom, sorry.
-/
import Derived.Test.YthomnhhjgcabkaaChecked
import GoSem.Claim
import GoSem.ClaimJoined
import GoSem.ClaimMapViews
import Derived.JoinedTies
import Derived.KernelRfl
namespace Go.Proofs.Ythomnhhjgcabkaa
/- THE CELL 'sum', in the pinned program and in every row, IS THE sha256 OF THE DUMP (.gsa) THAT YthomnhhjgcabkaaProg.lean LOADS. Nothing in Lean hashes anything: it is a label: what it is worth is what the hold of that sum in a sandbox is worth. -/
noncomputable def Try.pinned : Pinned := { name := "ythomnhhjgcabkaa", sum := "f34f8e3dd2ed7066fe1fa9a16777aa925bfb7e08802e9eb67f7ab13f3202cd0c", checked := Try.checked }
namespace Rows
def none {H : Type} : Left H := { results := [], args := [] }

/-- 'catenalaw22.LinkPlays': WHATEVER THE INPUT: true; the input reads as it did. -/
def linkPlaysSpec : ChangeSpec := { name := "linkPlays", fn := fun _ => fun
  | [d1, d2] => { results := [.lit (.bool true)], args := [d1, d2] }
  | _ => none }
def linkPlaysRow : OpenClaim := { program := "ythomnhhjgcabkaa", sum := "f34f8e3dd2ed7066fe1fa9a16777aa925bfb7e08802e9eb67f7ab13f3202cd0c", func := "catena/catenalaw22.LinkPlays", spec := "linkPlays", unfollowed := true, recurses := true, apart := false }
def LinkPlaysSaid : Prop := linkPlaysRow.holds Try.pinned (OpenSpec.ofChange linkPlaysSpec)

/-- ITS FALSE NEIGHBOUR: 'it returns false'. Refute it at one input. -/
def linkPlaysWrong : ChangeSpec := { name := "linkPlays", fn := fun _ => fun
  | [d1, d2] => { results := [.lit (.bool false)], args := [d1, d2] }
  | _ => none }
def LinkPlaysWrongFalsely : Prop := linkPlaysRow.holds Try.pinned (OpenSpec.ofChange linkPlaysWrong)

/-- 'catenalaw22.LinkOnce': WHATEVER THE INPUT: true; the input reads as it did. -/
def linkOnceSpec : ChangeSpec := { name := "linkOnce", fn := fun _ => fun
  | [d] => { results := [.lit (.bool true)], args := [d] }
  | _ => none }
def linkOnceRow : OpenClaim := { program := "ythomnhhjgcabkaa", sum := "f34f8e3dd2ed7066fe1fa9a16777aa925bfb7e08802e9eb67f7ab13f3202cd0c", func := "catena/catenalaw22.LinkOnce", spec := "linkOnce", unfollowed := true, recurses := true, apart := false }
def LinkOnceSaid : Prop := linkOnceRow.holds Try.pinned (OpenSpec.ofChange linkOnceSpec)

/-- ITS FALSE NEIGHBOUR: 'it returns false'. Refute it at one input. -/
def linkOnceWrong : ChangeSpec := { name := "linkOnce", fn := fun _ => fun
  | [d] => { results := [.lit (.bool false)], args := [d] }
  | _ => none }
def LinkOnceWrongFalsely : Prop := linkOnceRow.holds Try.pinned (OpenSpec.ofChange linkOnceWrong)

/-- 'catenalaw22.LinkFair': WHATEVER THE INPUT: true; the input reads as it did. -/
def linkFairSpec : ChangeSpec := { name := "linkFair", fn := fun _ => fun
  | [d] => { results := [.lit (.bool true)], args := [d] }
  | _ => none }
def linkFairRow : OpenClaim := { program := "ythomnhhjgcabkaa", sum := "f34f8e3dd2ed7066fe1fa9a16777aa925bfb7e08802e9eb67f7ab13f3202cd0c", func := "catena/catenalaw22.LinkFair", spec := "linkFair", unfollowed := true, recurses := true, apart := false }
def LinkFairSaid : Prop := linkFairRow.holds Try.pinned (OpenSpec.ofChange linkFairSpec)

/-- ITS FALSE NEIGHBOUR: 'it returns false'. Refute it at one input. -/
def linkFairWrong : ChangeSpec := { name := "linkFair", fn := fun _ => fun
  | [d] => { results := [.lit (.bool false)], args := [d] }
  | _ => none }
def LinkFairWrongFalsely : Prop := linkFairRow.holds Try.pinned (OpenSpec.ofChange linkFairWrong)

/-- 'catenalaw22.LinkZero': WHATEVER THE INPUT: true; the input reads as it did. -/
def linkZeroSpec : ChangeSpec := { name := "linkZero", fn := fun _ => fun
  | [d1, d2] => { results := [.lit (.bool true)], args := [d1, d2] }
  | _ => none }
def linkZeroRow : OpenClaim := { program := "ythomnhhjgcabkaa", sum := "f34f8e3dd2ed7066fe1fa9a16777aa925bfb7e08802e9eb67f7ab13f3202cd0c", func := "catena/catenalaw22.LinkZero", spec := "linkZero", unfollowed := true, recurses := true, apart := false }
def LinkZeroSaid : Prop := linkZeroRow.holds Try.pinned (OpenSpec.ofChange linkZeroSpec)

/-- ITS FALSE NEIGHBOUR: 'it returns false'. Refute it at one input. -/
def linkZeroWrong : ChangeSpec := { name := "linkZero", fn := fun _ => fun
  | [d1, d2] => { results := [.lit (.bool false)], args := [d1, d2] }
  | _ => none }
def LinkZeroWrongFalsely : Prop := linkZeroRow.holds Try.pinned (OpenSpec.ofChange linkZeroWrong)

/-- 'catenalaw22.LinkBytes': WHATEVER THE INPUT: true; the input reads as it did. -/
def linkBytesSpec : ChangeSpec := { name := "linkBytes", fn := fun _ => fun
  | [d1, d2] => { results := [.lit (.bool true)], args := [d1, d2] }
  | _ => none }
def linkBytesRow : OpenClaim := { program := "ythomnhhjgcabkaa", sum := "f34f8e3dd2ed7066fe1fa9a16777aa925bfb7e08802e9eb67f7ab13f3202cd0c", func := "catena/catenalaw22.LinkBytes", spec := "linkBytes", inPlace := ["internal/abi.NoEscape"], unfollowed := true, recurses := true, apart := false }
def LinkBytesSaid : Prop := linkBytesRow.holds Try.pinned (OpenSpec.ofChange linkBytesSpec)

/-- ITS FALSE NEIGHBOUR: 'it returns false'. Refute it at one input. -/
def linkBytesWrong : ChangeSpec := { name := "linkBytes", fn := fun _ => fun
  | [d1, d2] => { results := [.lit (.bool false)], args := [d1, d2] }
  | _ => none }
def LinkBytesWrongFalsely : Prop := linkBytesRow.holds Try.pinned (OpenSpec.ofChange linkBytesWrong)

/- THE SECOND FORM. 'bulk': how many values and letters a reading holds, each counted each time it is reached (what is shared counts as often as it is met; a slice's spare places count too). A statement '..UptoSaid' is the law's where the arguments, and the package variables that the reading takes, are together of bulk at most 1048576: NARROWER than '..Said'. Prove '..Said' where nothing that the law and all that it calls make is longer than what came in: it says more and counts as full. Else prove '..UptoSaid'. A law counts once. -/
mutual
def uptoBulk {H : Type} : DataW H → Nat
  | .lit (.string bytes) => bytes.length + 1
  | .lit _ => 1
  | .nil => 1
  | .ptr d => uptoBulk d + 1
  | .slice elems spare => uptoBulkAll elems + uptoBulkAll spare + 1
  | .agg parts => uptoBulkAll parts + 1
  | .iface _ d => uptoBulk d + 1
  | .map entries => uptoBulkEntries entries + 1
  | .held _ => 1
def uptoBulkAll {H : Type} : List (DataW H) → Nat
  | [] => 0
  | d :: r => uptoBulk d + uptoBulkAll r
def uptoBulkEntries {H : Type} : List (Lit × DataW H) → Nat
  | [] => 0
  | x :: r => uptoBulkEntry x + uptoBulkEntries r
def uptoBulkEntry {H : Type} : Lit × DataW H → Nat
  | (.string bytes, d) => bytes.length + uptoBulk d + 1
  | (_, d) => uptoBulk d + 1
 end
def uptoSmall : (H : Type) → List (DataW H) → Bool := fun _ ds => decide (uptoBulkAll ds ≤ 1048576)
def OpenSpec.upto (s : _root_.Go.ChangeSpec) : _root_.Go.OpenSpec := { _root_.Go.OpenSpec.ofChange s with cond := some uptoSmall }

/-- 'catenalaw22.LinkPlays', WHERE WHAT IT READS IS OF BULK AT MOST 1048576: true; the input reads as it did. -/
def linkPlaysUptoRow : OpenClaim := { program := "ythomnhhjgcabkaa", sum := "f34f8e3dd2ed7066fe1fa9a16777aa925bfb7e08802e9eb67f7ab13f3202cd0c", func := "catena/catenalaw22.LinkPlays", spec := "linkPlays", unfollowed := true, recurses := true, apart := false, narrowed := true }
def LinkPlaysUptoSaid : Prop := linkPlaysUptoRow.holds Try.pinned (OpenSpec.upto linkPlaysSpec)

/-- 'catenalaw22.LinkOnce', WHERE WHAT IT READS IS OF BULK AT MOST 1048576: true; the input reads as it did. -/
def linkOnceUptoRow : OpenClaim := { program := "ythomnhhjgcabkaa", sum := "f34f8e3dd2ed7066fe1fa9a16777aa925bfb7e08802e9eb67f7ab13f3202cd0c", func := "catena/catenalaw22.LinkOnce", spec := "linkOnce", unfollowed := true, recurses := true, apart := false, narrowed := true }
def LinkOnceUptoSaid : Prop := linkOnceUptoRow.holds Try.pinned (OpenSpec.upto linkOnceSpec)

/-- 'catenalaw22.LinkFair', WHERE WHAT IT READS IS OF BULK AT MOST 1048576: true; the input reads as it did. -/
def linkFairUptoRow : OpenClaim := { program := "ythomnhhjgcabkaa", sum := "f34f8e3dd2ed7066fe1fa9a16777aa925bfb7e08802e9eb67f7ab13f3202cd0c", func := "catena/catenalaw22.LinkFair", spec := "linkFair", unfollowed := true, recurses := true, apart := false, narrowed := true }
def LinkFairUptoSaid : Prop := linkFairUptoRow.holds Try.pinned (OpenSpec.upto linkFairSpec)

/-- 'catenalaw22.LinkZero', WHERE WHAT IT READS IS OF BULK AT MOST 1048576: true; the input reads as it did. -/
def linkZeroUptoRow : OpenClaim := { program := "ythomnhhjgcabkaa", sum := "f34f8e3dd2ed7066fe1fa9a16777aa925bfb7e08802e9eb67f7ab13f3202cd0c", func := "catena/catenalaw22.LinkZero", spec := "linkZero", unfollowed := true, recurses := true, apart := false, narrowed := true }
def LinkZeroUptoSaid : Prop := linkZeroUptoRow.holds Try.pinned (OpenSpec.upto linkZeroSpec)

/-- 'catenalaw22.LinkBytes', WHERE WHAT IT READS IS OF BULK AT MOST 1048576: true; the input reads as it did. -/
def linkBytesUptoRow : OpenClaim := { program := "ythomnhhjgcabkaa", sum := "f34f8e3dd2ed7066fe1fa9a16777aa925bfb7e08802e9eb67f7ab13f3202cd0c", func := "catena/catenalaw22.LinkBytes", spec := "linkBytes", inPlace := ["internal/abi.NoEscape"], unfollowed := true, recurses := true, apart := false, narrowed := true }
def LinkBytesUptoSaid : Prop := linkBytesUptoRow.holds Try.pinned (OpenSpec.upto linkBytesSpec)

end Rows
end Go.Proofs.Ythomnhhjgcabkaa
