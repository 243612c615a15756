/-
  No cell of these rows narrows 'for every input' (looked for: loops, veiled, ifaces, maps, wideKeys, modest, calm, conditions, laid).
  DERIVED. THE GIVEN ROWS OF THIS SEAT. 4 by the template 'for every input the law returns true; each argument reads behind the call as it read before'; 0 by the template 'total and deterministic' (their statements: YtnkieaolhbmfpaaTotals.lean).
  GIVEN WITH THE SEED: the statements are not yours to turn. If you find one false, say at which input.
  Laid BY PROGRAM, IN A SANDBOX (cutbox-rows.mjs): the forced cells as the released guide's own fill.sh prints them over the translation 020767de7e40aa5f… (all of the seat's roots in one cut). By AI agents, Wed Nov 11 2026. No macro, syntax, notation, axiom, sorry.
-/
import Derived.Test.YtnkieaolhbmfpaaChecked
import GoSem.Claim
import GoSem.ClaimJoined
import GoSem.ClaimMapViews
import Derived.JoinedTies
import Derived.KernelRfl
namespace Go.Proofs.Ytnkieaolhbmfpaa
/- THE CELL 'sum', in the pinned program and in every row, IS THE sha256 OF THE DUMP (.gsa) THAT YtnkieaolhbmfpaaProg.lean LOADS. Nothing in Lean hashes anything: it is a label: what it is worth is what the hold of that sum in a sandbox is worth. -/
noncomputable def Try.pinned : Pinned := { name := "ytnkieaolhbmfpaa", sum := "020767de7e40aa5f65eb42a00f456d0a93e614a4aa47dfaa4f435d5505dc5b3a", checked := Try.checked }
namespace Rows
def none {H : Type} : Left H := { results := [], args := [] }

/-- 'catenalaw07.ConfChain': WHATEVER THE INPUT: true; the input reads as it did. -/
def confChainSpec : ChangeSpec := { name := "confChain", fn := fun _ => fun
  | [d] => { results := [.lit (.bool true)], args := [d] }
  | _ => none }
def confChainRow : OpenClaim := { program := "ytnkieaolhbmfpaa", sum := "020767de7e40aa5f65eb42a00f456d0a93e614a4aa47dfaa4f435d5505dc5b3a", func := "catena/catenalaw07.ConfChain", spec := "confChain", inPlace := ["internal/abi.NoEscape"], unfollowed := true, recurses := true, apart := false }
def ConfChainSaid : Prop := confChainRow.holds Try.pinned (OpenSpec.ofChange confChainSpec)

/-- ITS FALSE NEIGHBOUR: 'it returns false'. Refute it at one input. -/
def confChainWrong : ChangeSpec := { name := "confChain", fn := fun _ => fun
  | [d] => { results := [.lit (.bool false)], args := [d] }
  | _ => none }
def ConfChainWrongFalsely : Prop := confChainRow.holds Try.pinned (OpenSpec.ofChange confChainWrong)

/-- 'catenalaw07.ConfPuts': WHATEVER THE INPUT: true; the input reads as it did. -/
def confPutsSpec : ChangeSpec := { name := "confPuts", fn := fun _ => fun
  | [d1, d2, d3] => { results := [.lit (.bool true)], args := [d1, d2, d3] }
  | _ => none }
def confPutsRow : OpenClaim := { program := "ytnkieaolhbmfpaa", sum := "020767de7e40aa5f65eb42a00f456d0a93e614a4aa47dfaa4f435d5505dc5b3a", func := "catena/catenalaw07.ConfPuts", spec := "confPuts", inPlace := ["internal/abi.NoEscape"], unfollowed := true, recurses := true, apart := false }
def ConfPutsSaid : Prop := confPutsRow.holds Try.pinned (OpenSpec.ofChange confPutsSpec)

/-- ITS FALSE NEIGHBOUR: 'it returns false'. Refute it at one input. -/
def confPutsWrong : ChangeSpec := { name := "confPuts", fn := fun _ => fun
  | [d1, d2, d3] => { results := [.lit (.bool false)], args := [d1, d2, d3] }
  | _ => none }
def ConfPutsWrongFalsely : Prop := confPutsRow.holds Try.pinned (OpenSpec.ofChange confPutsWrong)

/-- 'catenalaw07.ConfReads': WHATEVER THE INPUT: true; the input reads as it did. -/
def confReadsSpec : ChangeSpec := { name := "confReads", fn := fun _ => fun
  | [d] => { results := [.lit (.bool true)], args := [d] }
  | _ => none }
def confReadsRow : OpenClaim := { program := "ytnkieaolhbmfpaa", sum := "020767de7e40aa5f65eb42a00f456d0a93e614a4aa47dfaa4f435d5505dc5b3a", func := "catena/catenalaw07.ConfReads", spec := "confReads", inPlace := ["internal/abi.NoEscape"], unfollowed := true, recurses := true, apart := false }
def ConfReadsSaid : Prop := confReadsRow.holds Try.pinned (OpenSpec.ofChange confReadsSpec)

/-- ITS FALSE NEIGHBOUR: 'it returns false'. Refute it at one input. -/
def confReadsWrong : ChangeSpec := { name := "confReads", fn := fun _ => fun
  | [d] => { results := [.lit (.bool false)], args := [d] }
  | _ => none }
def ConfReadsWrongFalsely : Prop := confReadsRow.holds Try.pinned (OpenSpec.ofChange confReadsWrong)

/-- 'catenalaw07.ConfBack': WHATEVER THE INPUT: true; the input reads as it did. -/
def confBackSpec : ChangeSpec := { name := "confBack", fn := fun _ => fun
  | [d1, d2] => { results := [.lit (.bool true)], args := [d1, d2] }
  | _ => none }
def confBackRow : OpenClaim := { program := "ytnkieaolhbmfpaa", sum := "020767de7e40aa5f65eb42a00f456d0a93e614a4aa47dfaa4f435d5505dc5b3a", func := "catena/catenalaw07.ConfBack", spec := "confBack", inPlace := ["internal/abi.NoEscape"], unfollowed := true, recurses := true, apart := false }
def ConfBackSaid : Prop := confBackRow.holds Try.pinned (OpenSpec.ofChange confBackSpec)

/-- ITS FALSE NEIGHBOUR: 'it returns false'. Refute it at one input. -/
def confBackWrong : ChangeSpec := { name := "confBack", fn := fun _ => fun
  | [d1, d2] => { results := [.lit (.bool false)], args := [d1, d2] }
  | _ => none }
def ConfBackWrongFalsely : Prop := confBackRow.holds Try.pinned (OpenSpec.ofChange confBackWrong)

/- THE SECOND FORM. 'bulk': how many values and letters a reading holds, each counted each time it is reached (what is shared counts as often as it is met; a slice's spare places count too). A statement '..UptoSaid' is the law's where the arguments, and the package variables that the reading takes, are together of bulk at most 1048576: NARROWER than '..Said'. Prove '..Said' where nothing that the law and all that it calls make is longer than what came in: it says more and counts as full. Else prove '..UptoSaid'. A law counts once. -/
mutual
def uptoBulk {H : Type} : DataW H → Nat
  | .lit (.string bytes) => bytes.length + 1
  | .lit _ => 1
  | .nil => 1
  | .ptr d => uptoBulk d + 1
  | .slice elems spare => uptoBulkAll elems + uptoBulkAll spare + 1
  | .agg parts => uptoBulkAll parts + 1
  | .iface _ d => uptoBulk d + 1
  | .map entries => uptoBulkEntries entries + 1
  | .held _ => 1
def uptoBulkAll {H : Type} : List (DataW H) → Nat
  | [] => 0
  | d :: r => uptoBulk d + uptoBulkAll r
def uptoBulkEntries {H : Type} : List (Lit × DataW H) → Nat
  | [] => 0
  | x :: r => uptoBulkEntry x + uptoBulkEntries r
def uptoBulkEntry {H : Type} : Lit × DataW H → Nat
  | (.string bytes, d) => bytes.length + uptoBulk d + 1
  | (_, d) => uptoBulk d + 1
 end
def uptoSmall : (H : Type) → List (DataW H) → Bool := fun _ ds => decide (uptoBulkAll ds ≤ 1048576)
def OpenSpec.upto (s : _root_.Go.ChangeSpec) : _root_.Go.OpenSpec := { _root_.Go.OpenSpec.ofChange s with cond := some uptoSmall }

/-- 'catenalaw07.ConfChain', WHERE WHAT IT READS IS OF BULK AT MOST 1048576: true; the input reads as it did. -/
def confChainUptoRow : OpenClaim := { program := "ytnkieaolhbmfpaa", sum := "020767de7e40aa5f65eb42a00f456d0a93e614a4aa47dfaa4f435d5505dc5b3a", func := "catena/catenalaw07.ConfChain", spec := "confChain", inPlace := ["internal/abi.NoEscape"], unfollowed := true, recurses := true, apart := false, narrowed := true }
def ConfChainUptoSaid : Prop := confChainUptoRow.holds Try.pinned (OpenSpec.upto confChainSpec)

/-- 'catenalaw07.ConfPuts', WHERE WHAT IT READS IS OF BULK AT MOST 1048576: true; the input reads as it did. -/
def confPutsUptoRow : OpenClaim := { program := "ytnkieaolhbmfpaa", sum := "020767de7e40aa5f65eb42a00f456d0a93e614a4aa47dfaa4f435d5505dc5b3a", func := "catena/catenalaw07.ConfPuts", spec := "confPuts", inPlace := ["internal/abi.NoEscape"], unfollowed := true, recurses := true, apart := false, narrowed := true }
def ConfPutsUptoSaid : Prop := confPutsUptoRow.holds Try.pinned (OpenSpec.upto confPutsSpec)

/-- 'catenalaw07.ConfReads', WHERE WHAT IT READS IS OF BULK AT MOST 1048576: true; the input reads as it did. -/
def confReadsUptoRow : OpenClaim := { program := "ytnkieaolhbmfpaa", sum := "020767de7e40aa5f65eb42a00f456d0a93e614a4aa47dfaa4f435d5505dc5b3a", func := "catena/catenalaw07.ConfReads", spec := "confReads", inPlace := ["internal/abi.NoEscape"], unfollowed := true, recurses := true, apart := false, narrowed := true }
def ConfReadsUptoSaid : Prop := confReadsUptoRow.holds Try.pinned (OpenSpec.upto confReadsSpec)

/-- 'catenalaw07.ConfBack', WHERE WHAT IT READS IS OF BULK AT MOST 1048576: true; the input reads as it did. -/
def confBackUptoRow : OpenClaim := { program := "ytnkieaolhbmfpaa", sum := "020767de7e40aa5f65eb42a00f456d0a93e614a4aa47dfaa4f435d5505dc5b3a", func := "catena/catenalaw07.ConfBack", spec := "confBack", inPlace := ["internal/abi.NoEscape"], unfollowed := true, recurses := true, apart := false, narrowed := true }
def ConfBackUptoSaid : Prop := confBackUptoRow.holds Try.pinned (OpenSpec.upto confBackSpec)

end Rows
end Go.Proofs.Ytnkieaolhbmfpaa
