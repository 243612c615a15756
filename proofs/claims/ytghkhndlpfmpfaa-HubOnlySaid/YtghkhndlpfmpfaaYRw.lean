/- Elements of owned slices with parts: stores into them, looks at them in regions of any order; slices of bytes that a string came to. No program is named here. -/
import Derived.Test.YtghkhndlpfmpfaaYQU
import Derived.Test.YtghkhndlpfmpfaaYS
import Derived.Laws.IdiomStrings
namespace Go.Proofs.Ytghkhndlpfmpfaa
open Go.RowKit

section
variable {I0 D : Dm} {w0 : World} {I : Dm} {w : World} {cs : List Ch} {α : Type} {R : Rp α}
section
variable {ds : List Deferred} {P : Program} (T : Tab P) {ops : Array Oper} {Q : Exit → Act → World → Prop} {a : Act} {rest : List Oper} {o : Oper} {n : Nat} {S : Slots} {G : List GV}
end
end

/-- what a callee that answers plain values looks at -/
theorem stB (w : World) : St (fun k => k < w.heap.size) NoD w [] := St.none _ w fun _ h => h

theorem stS {w : World} {cs : List Ch} {α : Type} {R : Rp α} {A : Dm} {v : Value} {l : List α} (hs : slRep R A w v l) (h : St (fun k => k < w.heap.size) NoD w cs) : St (fun k => k < w.heap.size) NoD w (SlC R v l :: cs) := h.cons (f := fun _ => False) ⟨fun _ => id, hs.all⟩ fun _ => id

-- slices of bytes that a string came to
section
variable {I0 D : Dm} {w0 : World} {I : Dm} {w : World} {cs : List Ch} {v : Value} {l : List Int}
section
variable {ds : List Deferred} {P : Program} (T : Tab P) {ops : Array Oper} {Q : Exit → Act → World → Prop} {a : Act} {rest : List Oper} {o : Oper} {n : Nat} {S : Slots} {G : List GV}
end
end
end Go.Proofs.Ytghkhndlpfmpfaa
