/- A region that draws its order, some of whose operations turn the world, these one behind the other: by the stage that it has come to. Every other operation is shown at each stage at which it may come up. No program is named here. -/
import Derived.Test.YtfcdghlgcnjkoaaH2
import Derived.LoopN
namespace Go.Proofs.Ytfcdghlgcnjkoaa
open Go.RowKit
variable {ds : List Deferred}

theorem run_convi {P : Program} {s d : Nat} {k k2 : IntKind} (hs : P.underlying s = some (.int k)) (hd : P.underlying d = some (.int k2)) (x y : Int) (h : k2.wrap x = y) (w : World) : (convert s d (.int k x)).run P w = .ok (.int k2 y) w := by
 subst h
 simp [convert, run_underlying hs, run_underlying hd, Conv.intToInt]

/-- parts of a value -/
def aoOf : Value → Option Addr | .slice a _ _ => a | _ => none

def capOf : Value → Nat | .slice _ _ c => c | _ => 0

def blkOf : Value → Nat | .pointer (some a) => a.block | .slice (some a) _ _ => a.block | _ => 0

section lrules
variable {P : Program} (T : Tab P) {ops : Array Oper} {Fv : Value → World → Prop} {a : Act} {w : World} {o : Oper} {n : Nat} {S : Slots}
variable {I0 D : Dm} {w0 : World} {I : Dm} {cs : List Ch}

end lrules

end Go.Proofs.Ytfcdghlgcnjkoaa
