/- A law's arguments opened for the plain functions: readings without ranges, the ranges beside them. No program is named here. -/
import Derived.Test.YtglfajjcgbfehaaGreatOpen3
import Derived.Test.YtglfajjcgbfehaaGreatYB
namespace Go.Proofs.YtglfajjcgbfehaaGreat
open Go.RowKit Go.ChangeShapes Go.WideShapes Go.ChangeAt Go.Deep

section
variable {P : Program} {t : TypeId}
theorem opensN_i64 (ht : P.underlying t = some (.int .i64)) : OpensB P t Ni64 inI := fun h => by
 obtain ⟨a, rfl, _, wa⟩ := DataW.trod_int ht h
 simp only [Lit.wf, Bool.and_eq_true, decide_eq_true_eq] at wa
 exact ⟨a, ⟨rfl, trivial⟩, fun _ => wa⟩

theorem opensN_u64 (ht : P.underlying t = some (.int .u64)) : OpensB P t Nu64 inU := fun h => by
 obtain ⟨a, rfl, _, wa⟩ := DataW.trod_int ht h
 simp only [Lit.wf, Bool.and_eq_true, decide_eq_true_eq] at wa
 exact ⟨a, ⟨rfl, trivial⟩, fun _ => wa⟩

theorem opensN_string (ht : P.underlying t = some .string) : OpensB P t NS bdStr := fun h => by
 obtain ⟨y, h1, h2⟩ := opens_string ht h
 exact ⟨y, ⟨h1.1, trivial⟩, h2⟩

theorem opensN_bool (ht : P.underlying t = some .bool) : OpensB P t NBo bdT := fun h => by
 obtain ⟨a, rfl, _⟩ := DataW.trod_bool ht h
 exact ⟨a, ⟨rfl, trivial⟩, fun _ => trivial⟩

end
section
variable {H : Type} {enc : TypeId × Value → H} {P : Program} {w : World} {base base0 : Nat} {spare : Nat → Bool} {held : Bool} {r : Reach} {v : Value} {d : DataW H} {p : List MemPlace} {t : TypeId}
end
/-- no memory of the walk's own: all that stands may be read -/
theorem St.base (w : World) : St (fun k => k < w.heap.size) NoD w [] := St.none _ w fun _ h => h

theorem St.sl {w : World} {cs : List Ch} {α : Type} {R : Rp α} {v : Value} {l : List α} (hs : slRep R AnyA w v l) (h : St (fun k => k < w.heap.size) NoD w cs) : St (fun k => k < w.heap.size) NoD w (SlC R v l :: cs) :=
 h.cons (f := fun _ => False) ⟨fun _ => id, hs.all⟩ fun _ => id

end Go.Proofs.YtglfajjcgbfehaaGreat
