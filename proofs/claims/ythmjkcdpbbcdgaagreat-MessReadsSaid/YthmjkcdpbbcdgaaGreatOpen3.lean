/- Arguments opened, by a program's print: structs of structs, arrays, leaves. No program is named here. -/
import Derived.Test.YthmjkcdpbbcdgaaGreatOpen
import Derived.Test.YthmjkcdpbbcdgaaGreatSt2
import Derived.Test.YthmjkcdpbbcdgaaGreatBd
import Derived.SizedLaws
namespace Go.Proofs.YthmjkcdpbbcdgaaGreat
open Go.RowKit Go.ChangeShapes Go.WideShapes Go.ChangeAt Go.Deep

/-- all that a reading weighs is within the machine's reach -/
def WB {H : Type} (P : Program) (T : TypeId) (x : DataW H) : Prop := ∀ n ∈ x.weights P T, n ≤ reachBytes

theorem wb_of {H : Type} {P : Program} {ts : List TypeId} {ds : List (DataW H)} (h : (DataW.weightsEach P ts ds).all (· ≤ reachBytes) = true) {j : Nat} {t : TypeId} {d : DataW H} (ht : ts[j]? = some t) (hd : ds[j]? = some d) : WB P t d :=
 fun n hn => by simpa using List.all_eq_true.1 h n (DataW.weights_mem_each ht hd n hn)

/-- Whatever the form reads at type T reads by R; within the machine's reach it is bounded by B. -/
def OpensB {α : Type} (P : Program) (T : TypeId) (R : Rp α) (B : α → Prop) : Prop :=
 ∀ {H : Type} {enc : TypeId × Value → H} {w : World} {base : Nat} {spare : Nat → Bool} {held : Bool} {fuel : Nat} {cs : List Value} {x : DataW H × List MemPlace}, DataW.trod enc P w base spare held fuel T cs = some x → ∃ y, R.rep AnyA w cs y ∧ (WB P T x.1 → B y)

section
variable {P : Program} {t : TypeId}
theorem opens_string (ht : P.underlying t = some .string) : OpensB P t RS bdStr := fun h => by
 obtain ⟨a, rfl, rfl, q⟩ := DataW.trod_string ht h
 refine ⟨a, ⟨rfl, q⟩, fun hw => ?_⟩
 have h1 := hw a.data.toList.length (by simp [DataW.weights])
 have h2 : a.data.toList.length = a.size := by rw [Array.length_toList]; rfl
 have h3 : reachBytes < 2 ^ 47 := reachBytes_lt
 rw [h2] at h1
 show a.size ≤ bdM
 unfold bdM; omega

end

section
variable {H : Type} {enc : TypeId × Value → H} {P : Program} {w : World} {base base0 : Nat} {spare : Nat → Bool} {held : Bool} {r : Reach} {v : Value} {d : DataW H} {p : List MemPlace}
theorem arg_stringB {t : TypeId} (ht : P.underlying t = some .string) (hv : Value.okWide P w r base0 t v) (h : DataW.Trod enc P w base spare held t v d p) (hw : WB P t d) : ∃ s : ByteArray, v = .string s ∧ s.size ≤ maxLen ∧ bdStr s := by
 obtain ⟨s, rfl, hs⟩ := arg_string ht hv h
 obtain ⟨fuel, hf⟩ := h
 obtain ⟨y, ⟨h1, h2⟩, h3⟩ := opens_string ht hf
 simp only [Value.cells, List.cons.injEq, and_true, Value.string.injEq] at h1
 subst h1
 exact ⟨s, rfl, hs, h3 hw⟩

end

theorem Calls.row {P : Program} {f : Nat} {args : Array Value} {w : World} (h : Calls P f args w (Ret fun r w' => r = .bool true ∧ Below w.heap.size w w')) : Calls P f args w fun e w' => e = .returned (.bool true) ∧ Below w.heap.size w w' :=
 h.mono fun e w' he => by
  cases e with
  | returned v => exact ⟨congrArg _ he.1, he.2⟩
  | _ => exact he.elim

end Go.Proofs.YthmjkcdpbbcdgaaGreat
