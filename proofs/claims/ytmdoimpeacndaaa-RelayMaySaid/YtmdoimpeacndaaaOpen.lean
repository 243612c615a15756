/- Arguments opened: from the form's own reading of an argument to ours. No program is named here. -/
import Derived.Test.YtmdoimpeacndaaaBase
import Derived.OpenShut
import Derived.ShutString
import Derived.ChangeOld
import Derived.Deep.Fields
namespace Go.Proofs.Ytmdoimpeacndaaa
open Go.RowKit Go.ChangeShapes Go.WideShapes Go.ChangeAt Go.Deep



theorem u64_nat {x : Int} (h : (Lit.int .u64 x).wf = true) : ∃ n : Nat, x = n ∧ n < 18446744073709551616 := by
  obtain ⟨h1, h2⟩ := bounds_u64 h
  exact ⟨x.toNat, by omega, by omega⟩
theorem i64_ok {x : Int} (h : (Lit.int .i64 x).wf = true) : i64ok x := by
  simp only [Lit.wf, Bool.and_eq_true, decide_eq_true_eq] at h
  exact ⟨h.1, h.2⟩

/-- Whatever the form reads at type T reads by R. -/
def Opens {α : Type} (P : Program) (T : TypeId) (R : Rp α) : Prop :=
  ∀ {H : Type} {enc : TypeId × Value → H} {w : World} {base : Nat} {spare : Nat → Bool} {held : Bool} {fuel : Nat} {cs : List Value} {x : DataW H × List MemPlace}, DataW.trod enc P w base spare held fuel T cs = some x → ∃ y, R.rep AnyA w cs y

theorem opens_slice {α : Type} [Inhabited α] {P : Program} {t e : TypeId} {R : Rp α} (ht : P.underlying t = some (.slice e)) (hc : P.cellsOf e = R.n) (hn : 0 < R.n) (hE : Opens P e R) : Opens P t (RSl R) := by
  intro H enc w base spare held fuel cs x h
  rcases open_slice ht h with ⟨rfl, _⟩ | ⟨a, len, cap, m, n, D, Pl, rfl, hb, hl, hm, hmm, rfl, hx⟩
  · exact ⟨[], _, rfl, slRep.nil R _ _ none 0 (Nat.zero_le _)⟩
  · have hlm : len ≤ m := by rw [hmm]; split <;> omega
    have each : ∀ i, i < len → ∃ q : List Value × α, R.rep AnyA w q.1 q.2 ∧ q.1.length = R.n ∧ ∀ j, j < R.n → w.cell? (a.add (i * R.n + j)) = q.1[j]? := by
      intro i hi
      obtain ⟨cs', h1, h2⟩ := hx i (by omega)
      obtain ⟨y, hy⟩ := hE h2
      rw [hc] at h1
      obtain ⟨_, h3, h4⟩ := World.cells?_some h1
      refine ⟨(cs', y), hy, h3, fun j hj => ?_⟩
      rw [← h4 j hj, add_add]
    obtain ⟨q, hq⟩ := choose_lt each
    have hlen : ((List.range len).map fun i => (q i).2).length = len := by simp
    refine ⟨(List.range len).map fun i => (q i).2, _, rfl, some a, a.block, a.off, cap, by rw [hlen], by rw [hlen]; exact hl, hm, fun h0 => ?_, fun i hi => ?_⟩
    · rw [hlen] at h0
      obtain ⟨_, h3, h4⟩ := hq 0 h0
      have h5 := h4 0 hn
      have h6 : w.cell? (a.add 0) = some ((q 0).1[0]'(by omega)) := by
        rw [List.getElem?_eq_getElem (by omega)] at h5
        simpa using h5
      have h7 : a.add 0 = a := by simp [Addr.add]
      rw [h7] at h6
      have h8 := World.cell?_spot h6
      refine ⟨?_, trivial, World.block_lt_of_cell? _ _ h6⟩
      obtain ⟨b, o, s⟩ := a
      simp at h8
      rw [h8]
    · rw [hlen] at hi
      obtain ⟨h2, h3, h4⟩ := hq i hi
      refine ⟨(q i).1, by simpa using h2, fun j hj => ?_⟩
      have h5 := h4 j (by omega)
      rw [List.getElem?_eq_getElem hj] at h5
      have h6 := World.cell?_spot h5
      have h7 : a.add (i * R.n + j) = ⟨a.block, a.off + i * R.n + j, none⟩ := by
        obtain ⟨b, o, s⟩ := a
        unfold Addr.add at h6 ⊢
        split
        · rename_i hz
          rw [if_pos hz] at h6
          simp at h6
          simp only [h6]
          (try congr 1) <;> (try omega)
        · simp [Nat.add_assoc]
      rw [h7] at h5
      exact h5

/-- the fields of a struct of one-cell fields, each by its own reading -/
theorem struct_fields {H : Type} {enc : TypeId × Value → H} {P : Program} {w : World} {base : Nat} {spare : Nat → Bool} {held : Bool} {t : TypeId} {fs : Array Field} {fuel : Nat} {cs : List Value} {x : DataW H × List MemPlace}
    (ht : P.underlying t = some (.struct fs)) (hone : oneCellFields P fs = true) (hC : P.cellsOf t = fs.size) (h : DataW.trod enc P w base spare held fuel t cs = some x) :
    cs.length = fs.size ∧ ∃ n, ∀ (j : Nat) (f : Field), fs[j]? = some f → ∃ (v : Value) (y : DataW H × List MemPlace), cs[j]? = some v ∧ DataW.trod enc P w base spare held n f.type [v] = some y := by
  obtain ⟨ys, n, _, _, hlen, hyl, hf⟩ := DataW.trod_struct ht h
  rw [hC] at hlen
  refine ⟨hlen, n, fun j f hj => ?_⟩
  obtain ⟨ho, hk⟩ := hone_of hone j f hj
  have hjl : j < fs.size := (Array.getElem?_eq_some_iff.1 hj).1
  have h1 := hf j f hj
  rw [ho, hk] at h1
  have hone' : (cs.drop j).take 1 = [cs[j]'(by omega)] := by
    rw [List.drop_eq_getElem_cons (by omega)]
    rfl
  rw [hone', List.getElem?_eq_getElem (by omega)] at h1
  exact ⟨_, _, List.getElem?_eq_getElem (by omega), h1⟩

section
variable {H : Type} {enc : TypeId × Value → H} {P : Program} {w : World} {base base0 : Nat} {spare : Nat → Bool} {held : Bool} {r : Reach} {v : Value} {d : DataW H} {p : List MemPlace}

theorem arg_slice {α : Type} {R : Rp α} {t e : TypeId} (ht : P.underlying t = some (.slice e)) (ho : Opens P t (RSl R)) (hv : Value.okWide P w r base0 t v) (h : DataW.Trod enc P w base spare held t v d p) : ∃ l, slRep R AnyA w v l := by
  obtain ⟨a, len, cap, rfl⟩ := okWide_slice ht hv
  obtain ⟨fuel, hf⟩ := h
  obtain ⟨y, v, h1, h2⟩ := ho hf
  simp [Value.cells] at h1
  subst h1
  exact ⟨y, h2⟩

theorem arg_struct {α : Type} {R : Rp α} {t : TypeId} {fs : Array Field} (ht : P.underlying t = some (.struct fs)) (ho : Opens P t R) (hv : Value.okWide P w r base0 t v) (h : DataW.Trod enc P w base spare held t v d p) : ∃ cs x, v = .agg cs ∧ R.rep AnyA w cs.toList x := by
  obtain ⟨cs, rfl, _⟩ := okWide_struct ht hv
  obtain ⟨fuel, hf⟩ := h
  obtain ⟨y, h2⟩ := ho hf
  exact ⟨cs, y, rfl, by simpa [Value.cells] using h2⟩

theorem arg_u64 {t : TypeId} (ht : P.underlying t = some (.int .u64)) (hv : Value.okWide P w r base0 t v) (h : DataW.Trod enc P w base spare held t v d p) : ∃ n : Nat, v = .int .u64 n ∧ n < 18446744073709551616 := by
  obtain ⟨x, rfl, _, _, wx⟩ := open_int ht hv h
  obtain ⟨h1, h2⟩ : (0 : Int) ≤ x ∧ x ≤ 18446744073709551615 := by
    simpa [Lit.wf, IntKind.min, IntKind.max, IntKind.signed, IntKind.bits] using wx
  exact ⟨x.toNat, by congr 1; omega, by omega⟩
end

section
variable {H : Type} {enc : TypeId × Value → H} {P : Program} {w : World} {base base0 : Nat} {spare : Nat → Bool} {held : Bool} {r : Reach} {v : Value} {d : DataW H} {p : List MemPlace}
theorem arg_i64 {t : TypeId} (ht : P.underlying t = some (.int .i64)) (hv : Value.okWide P w r base0 t v) (h : DataW.Trod enc P w base spare held t v d p) : ∃ n : Int, v = .int .i64 n ∧ i64ok n := by
  obtain ⟨x, rfl, _, _, wx⟩ := open_int ht hv h
  exact ⟨x, rfl, i64_ok wx⟩
theorem arg_u8 {t : TypeId} (ht : P.underlying t = some (.int .u8)) (hv : Value.okWide P w r base0 t v) (h : DataW.Trod enc P w base spare held t v d p) : ∃ n : Nat, v = .int .u8 n ∧ n < 256 := by
  obtain ⟨x, rfl, _, _, wx⟩ := open_int ht hv h
  simp only [Lit.wf, Bool.and_eq_true, decide_eq_true_eq] at wx
  obtain ⟨h1, h2⟩ : (0 : Int) ≤ x ∧ x ≤ 255 := ⟨wx.1, wx.2⟩
  exact ⟨x.toNat, by congr 1; omega, by omega⟩
theorem arg_bool {t : TypeId} (ht : P.underlying t = some .bool) (hv : Value.okWide P w r base0 t v) (h : DataW.Trod enc P w base spare held t v d p) : ∃ b : Bool, v = .bool b := by
  obtain ⟨x, rfl, _, _⟩ := open_bool ht hv h
  exact ⟨x, rfl⟩
theorem arg_string {t : TypeId} (ht : P.underlying t = some .string) (hv : Value.okWide P w r base0 t v) (h : DataW.Trod enc P w base spare held t v d p) : ∃ s : ByteArray, v = .string s ∧ s.size ≤ maxLen := by
  obtain ⟨s, rfl, _, _, hs⟩ := Go.ChangeMaps.open_string ht hv h
  exact ⟨s, rfl, hs⟩
end

end Go.Proofs.Ytmdoimpeacndaaa
