/- Arguments opened, by a program's print: structs of structs, arrays, leaves. No program is named here. -/
import Derived.Test.YtmdoimpeacndaaaOpen
import Derived.Test.YtmdoimpeacndaaaSt2
namespace Go.Proofs.Ytmdoimpeacndaaa
open Go.RowKit Go.ChangeShapes Go.WideShapes Go.ChangeAt Go.Deep

theorem part_eq {cs X Y : List Value} {o k p : Nat} (h : (cs.drop o).take k = X) (hp : o + X.length = p) (h2 : cs.drop p = Y) : cs.drop o = X ++ Y := by
  subst hp; subst h2
  by_cases hk : k ≤ (cs.drop o).length
  · have hl : X.length = k := by rw [← h, List.length_take]; omega
    rw [hl, ← h, ← List.drop_drop, List.take_append_drop]
  · have e : X = cs.drop o := by rw [← h]; exact List.take_of_length_le (by omega)
    rw [e, ← List.drop_drop, List.drop_length, List.append_nil]
theorem part_end {cs : List Value} {n m : Nat} (h : cs.length = n) (hm : n = m) : cs.drop m = [] := List.drop_eq_nil_of_le (by omega)
theorem arr_of {cs : Array Value} {l : List Value} (h : cs.toList = l) : cs = l.toArray := by subst h; simp

theorem struct_parts {H : Type} {enc : TypeId × Value → H} {P : Program} {w : World} {base : Nat} {spare : Nat → Bool} {held : Bool} {t : TypeId} {fs : Array Field} {fuel : Nat} {cs : List Value} {x : DataW H × List MemPlace}
    (ht : P.underlying t = some (.struct fs)) (h : DataW.trod enc P w base spare held fuel t cs = some x) :
    cs.length = P.cellsOf t ∧ ∃ n, ∀ (j : Nat) (f : Field), fs[j]? = some f → ∃ y : DataW H × List MemPlace, DataW.trod enc P w base spare held n f.type ((cs.drop f.offset).take (P.cellsOf f.type)) = some y := by
  obtain ⟨ys, n, _, _, hlen, hyl, hf⟩ := DataW.trod_struct ht h
  refine ⟨hlen, n, fun j f hj => ?_⟩
  have hjl : j < fs.size := (Array.getElem?_eq_some_iff.1 hj).1
  have h1 := hf j f hj
  rw [List.getElem?_eq_getElem (by omega)] at h1
  exact ⟨_, h1⟩
theorem array_parts {H : Type} {enc : TypeId × Value → H} {P : Program} {w : World} {base : Nat} {spare : Nat → Bool} {held : Bool} {t e : TypeId} {n k : Nat} {fuel : Nat} {cs : List Value} {x : DataW H × List MemPlace}
    (ht : P.underlying t = some (.array n e)) (hk : P.cellsOf e = k) (h : DataW.trod enc P w base spare held fuel t cs = some x) :
    cs.length = P.cellsOf t ∧ ∃ m, ∀ (j : Nat), j < n → ∃ y : DataW H × List MemPlace, DataW.trod enc P w base spare held m e ((cs.drop (j * k)).take k) = some y := by
  obtain ⟨ys, m, _, _, hlen, hyl, hf⟩ := DataW.trod_array ht h
  refine ⟨hlen, m, fun j hj => ?_⟩
  have h1 := hf j hj
  rw [List.getElem?_eq_getElem (by omega), hk] at h1
  exact ⟨_, h1⟩

section
variable {P : Program} {t : TypeId}
theorem opens_i64 (ht : P.underlying t = some (.int .i64)) : Opens P t RI := fun h => by
  obtain ⟨a, rfl, _, wa⟩ := DataW.trod_int ht h
  exact ⟨a, rfl, i64_ok wa⟩
theorem opens_u64 (ht : P.underlying t = some (.int .u64)) : Opens P t RU := fun h => by
  obtain ⟨a, rfl, _, wa⟩ := DataW.trod_int ht h
  obtain ⟨n, rfl, hn⟩ := u64_nat wa
  exact ⟨n, rfl, hn⟩
theorem opens_u8 (ht : P.underlying t = some (.int .u8)) : Opens P t RB8 := fun h => by
  obtain ⟨a, rfl, _, wa⟩ := DataW.trod_int ht h
  simp only [Lit.wf, Bool.and_eq_true, decide_eq_true_eq] at wa
  obtain ⟨h1, h2⟩ : (0 : Int) ≤ a ∧ a ≤ 255 := ⟨wa.1, wa.2⟩
  refine ⟨a.toNat, ?_, ?_⟩
  · show [Value.int .u8 a] = [Value.int .u8 (a.toNat : Int)]
    rw [show ((a.toNat : Nat) : Int) = a by omega]
  · show a.toNat < 256
    omega
theorem opens_string (ht : P.underlying t = some .string) : Opens P t RS := fun h => by
  obtain ⟨a, rfl, _, q⟩ := DataW.trod_string ht h
  exact ⟨a, rfl, q⟩
theorem opens_bool (ht : P.underlying t = some .bool) : Opens P t RBo := fun h => by
  obtain ⟨a, rfl, _⟩ := DataW.trod_bool ht h
  exact ⟨a, rfl, trivial⟩
end

section
variable {H : Type} {enc : TypeId × Value → H} {P : Program} {w : World} {base base0 : Nat} {spare : Nat → Bool} {held : Bool} {r : Reach} {v : Value} {d : DataW H} {p : List MemPlace}
theorem arg_array {t e : TypeId} {n k : Nat} (ht : P.underlying t = some (.array n e)) (hk : P.cellsOf e = k) (hv : Value.okWide P w r base0 t v) (h : DataW.Trod enc P w base spare held t v d p) :
    ∃ (cs : Array Value) (m : Nat), v = .agg cs ∧ cs.toList.length = P.cellsOf t ∧ ∀ j, j < n → ∃ y : DataW H × List MemPlace, DataW.trod enc P w base spare held m e ((cs.toList.drop (j * k)).take k) = some y := by
  simp only [Value.okWide, ht] at hv
  obtain ⟨cs, rfl, _⟩ := hv
  obtain ⟨fuel, hf⟩ := h
  obtain ⟨h1, m, h2⟩ := array_parts ht hk (by simpa [Value.cells] using hf)
  exact ⟨cs, m, rfl, h1, h2⟩
end

theorem Calls.row {P : Program} {f : Nat} {args : Array Value} {w : World} (h : Calls P f args w (Ret fun r w' => r = .bool true ∧ Below w.heap.size w w')) : Calls P f args w fun e w' => e = .returned (.bool true) ∧ Below w.heap.size w w' :=
  h.mono fun e w' he => by
    cases e with
    | returned v => exact ⟨congrArg _ he.1, he.2⟩
    | _ => exact he.elim

end Go.Proofs.Ytmdoimpeacndaaa
