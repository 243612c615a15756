/- What a reading's bulk bounds: openings with a weight (for the second form, '..UptoSaid'). -/
import Derived.Test.YtlgejpompnbfoaaRows
import Derived.Test.YtlgejpompnbfoaaYO
import Derived.JoinedCond
import Derived.Deep.CondSized
namespace Go.Proofs.Ytlgejpompnbfoaa
open Go.RowKit Go.ChangeShapes Go.WideShapes Go.ChangeAt Go.Deep

theorem bulk_part {H : Type} {d : DataW H} {l : List (DataW H)} (h : d ∈ l) : Rows.uptoBulk d ≤ Rows.uptoBulkAll l := by
 induction l with
 | nil => cases h
 | cons x r ih =>
  simp only [Rows.uptoBulkAll]
  cases List.mem_cons.1 h with
  | inl e => subst e; omega
  | inr e => have := ih e; omega

theorem bulk_small {H : Type} {l : List (DataW H)} (hk : Rows.uptoSmall H l = true) : Rows.uptoBulkAll l ≤ 1048576 := of_decide_eq_true hk

theorem bulk_sum {H : Type} {D : Nat → DataW H} {f : Nat → Nat} : ∀ l : List Nat, (∀ i ∈ l, f i ≤ Rows.uptoBulk (D i)) → (l.map f).sum ≤ Rows.uptoBulkAll (l.map D)
 | [], _ => Nat.zero_le _
 | i :: l, h => by
  have h1 := h i (by simp)
  have h2 := bulk_sum l fun j hj => h j (by simp [hj])
  simp only [List.map_cons, List.sum_cons, Rows.uptoBulkAll]
  omega

/-- an opening that tells a weight too: it is at most the reading's bulk -/
def OpensU {α : Type} (P : Program) (T : TypeId) (R : Rp α) (B : α → Prop) (wt : α → Nat) : Prop :=
 ∀ {H : Type} {enc : TypeId × Value → H} {w : World} {base : Nat} {spare : Nat → Bool} {held : Bool} {fuel : Nat} {cs : List Value} {x : DataW H × List MemPlace}, DataW.trod enc P w base spare held fuel T cs = some x → ∃ y, R.rep AnyA w cs y ∧ (WB P T x.1 → B y) ∧ wt y ≤ Rows.uptoBulk x.1

theorem opensU_string {P : Program} {t : TypeId} (ht : P.underlying t = some .string) : OpensU P t NS bdStr ByteArray.size := fun h => by
 obtain ⟨y, h1, h2⟩ := opens_string ht h
 obtain ⟨a, e1, e2, q⟩ := DataW.trod_string ht h
 have e3 := h1.1
 rw [e1] at e3
 simp only [List.cons.injEq, and_true, Value.string.injEq] at e3
 subst e3
 refine ⟨a, ⟨e1, trivial⟩, h2, ?_⟩
 subst e2
 have : a.data.toList.length = a.size := by rw [Array.length_toList]; rfl
 simp only [Rows.uptoBulk]; omega

theorem struct_partsU {H : Type} {enc : TypeId × Value → H} {P : Program} {w : World} {base : Nat} {spare : Nat → Bool} {held : Bool} {t : TypeId} {fs : Array Field} {fuel : Nat} {cs : List Value} {x : DataW H × List MemPlace}
  (ht : P.underlying t = some (.struct fs)) (h : DataW.trod enc P w base spare held fuel t cs = some x) :
  cs.length = P.cellsOf t ∧ ∃ n, ∀ (j : Nat) (f : Field), fs[j]? = some f → ∃ y : DataW H × List MemPlace, DataW.trod enc P w base spare held n f.type ((cs.drop f.offset).take (P.cellsOf f.type)) = some y ∧ (WB P t x.1 → WB P f.type y.1) ∧ Rows.uptoBulk y.1 ≤ Rows.uptoBulk x.1 := by
 obtain ⟨ys, n, _, rfl, hlen, hyl, hf⟩ := DataW.trod_struct ht h
 refine ⟨hlen, n, fun j f hj => ?_⟩
 have hjl : j < fs.size := (Array.getElem?_eq_some_iff.1 hj).1
 have h1 := hf j f hj
 rw [List.getElem?_eq_getElem (by omega)] at h1
 refine ⟨_, h1, fun hw q hq => hw q ?_, ?_⟩
 ·simp only [DataW.weights, ht]
  exact DataW.weights_mem_each (j := j) (by simp [hj]) (by simp [List.getElem?_eq_getElem (show j < ys.length by omega)]) q hq
 ·simp only [Rows.uptoBulk]
  exact Nat.le_succ_of_le (bulk_part (List.mem_map.2 ⟨_, List.getElem_mem (by omega), rfl⟩))

theorem opensU_slice {α : Type} [Inhabited α] {P : Program} {t e : TypeId} {R : Rp α} {B : α → Prop} {wt : α → Nat} (ht : P.underlying t = some (.slice e)) (hc : P.cellsOf e = R.n) (hn : 0 < R.n) (hbt : 0 < P.bytesOf e) (hE : OpensU P e R B wt) : OpensU P t (RSl R) (bdSl B) (fun l => (l.map wt).sum) := by
 intro H enc w base spare held fuel cs x h
 rcases open_slice ht h with ⟨rfl, _⟩ | ⟨a, len, cap, m, n, D, Pl, rfl, hb, hl, hm, hmm, rfl, hx⟩
 ·exact ⟨[], ⟨_, rfl, slRep.nil R _ _ none 0 (Nat.zero_le _)⟩, fun _ => ⟨Nat.zero_le _, fun k hk => by simp at hk⟩, Nat.zero_le _⟩
 ·have hlm : len ≤ m := by rw [hmm]; split <;> omega
  have each : ∀ i, i < len → ∃ q : List Value × α, R.rep AnyA w q.1 q.2 ∧ q.1.length = R.n ∧ (∀ j, j < R.n → w.cell? (a.add (i * R.n + j)) = q.1[j]?) ∧ (WB P e (D i) → B q.2) ∧ wt q.2 ≤ Rows.uptoBulk (D i) := by
   intro i hi
   obtain ⟨cs', h1, h2⟩ := hx i (by omega)
   obtain ⟨y, hy, hby, hwy⟩ := hE h2
   rw [hc] at h1
   obtain ⟨_, h3, h4⟩ := World.cells?_some h1
   refine ⟨(cs', y), hy, h3, fun j hj => ?_, hby, hwy⟩
   rw [← h4 j hj, add_add]
  obtain ⟨q, hq⟩ := choose_lt each
  have hlen : ((List.range len).map fun i => (q i).2).length = len := by simp
  refine ⟨(List.range len).map fun i => (q i).2, ⟨_, rfl, some a, a.block, a.off, cap, by rw [hlen], by rw [hlen]; exact hl, hm, fun h0 => ?_, fun i hi => ?_⟩, fun hw => ⟨?_, fun k hk => ?_⟩, ?_⟩
  ·rw [hlen] at h0
   obtain ⟨_, h3, h4, _⟩ := hq 0 h0
   have h5 := h4 0 hn
   have h6 : w.cell? (a.add 0) = some ((q 0).1[0]'(by omega)) := by
    rw [List.getElem?_eq_getElem (by omega)] at h5
    simpa using h5
   have h7 : a.add 0 = a := by simp [Addr.add]
   rw [h7] at h6
   have h8 := World.cell?_spot h6
   refine ⟨?_, trivial, World.block_lt_of_cell? _ _ h6⟩
   obtain ⟨b, o, s⟩ := a
   simp at h8
   rw [h8]
  ·rw [hlen] at hi
   obtain ⟨h2, h3, h4, _⟩ := hq i hi
   refine ⟨(q i).1, by simpa using h2, fun j hj => ?_⟩
   have h5 := h4 j (by omega)
   rw [List.getElem?_eq_getElem hj] at h5
   have h6 := World.cell?_spot h5
   have h7 : a.add (i * R.n + j) = ⟨a.block, a.off + i * R.n + j, none⟩ := by
    obtain ⟨b, o, s⟩ := a
    unfold Addr.add at h6 ⊢
    split
    ·rename_i hz
     rw [if_pos hz] at h6
     simp at h6
     simp only [h6]
     (try congr 1) <;> (try omega)
    ·simp [Nat.add_assoc]
   rw [h7] at h5
   exact h5
  ·have h1 := hw ((((List.range len).map D).length + ((List.range (m - len)).map fun j => D (len + j)).length) * P.bytesOf e) (by simp [DataW.weights, ht])
   rw [List.length_map, List.length_range] at h1
   rw [hlen]
   have h2 : len * 1 ≤ (len + ((List.range (m - len)).map fun j => D (len + j)).length) * P.bytesOf e := Nat.mul_le_mul (by omega) hbt
   have h3 : reachBytes < 2 ^ 47 := reachBytes_lt
   unfold bdM; omega
  ·rw [hlen] at hk
   have e1 : ((List.range len).map fun i => (q i).2).getD k default = (q k).2 := by
    rw [List.getD_eq_getElem?_getD, List.getElem?_map, List.getElem?_range hk]; rfl
   rw [e1]
   refine (hq k hk).2.2.2.1 fun z hz => hw z ?_
   simp only [DataW.weights, ht, List.mem_cons, List.mem_append]
   exact .inr (.inl (weights_mem_all (List.mem_map.2 ⟨k, List.mem_range.2 hk, rfl⟩) z hz))
  ·show (((List.range len).map fun i => (q i).2).map wt).sum ≤ _
   rw [List.map_map]
   have := bulk_sum (D := D) (f := fun i => wt (q i).2) (List.range len) fun i hi => (hq i (List.mem_range.1 hi)).2.2.2.2
   simp only [Rows.uptoBulk]
   exact Nat.le_trans this (by omega)

section
variable {H : Type} {enc : TypeId × Value → H} {P : Program} {w : World} {base base0 : Nat} {spare : Nat → Bool} {held : Bool} {r : Reach} {v : Value} {d : DataW H} {p : List MemPlace}
theorem arg_sliceU {α : Type} {R : Rp α} {B : List α → Prop} {wt : List α → Nat} {t e : TypeId} (ht : P.underlying t = some (.slice e)) (ho : OpensU P t (RSl R) B wt) (hv : Value.okWide P w r base0 t v) (h : DataW.Trod enc P w base spare held t v d p) (hw : WB P t d) : ∃ l, slRep R AnyA w v l ∧ B l ∧ wt l ≤ Rows.uptoBulk d := by
 obtain ⟨a, len, cap, rfl⟩ := okWide_slice ht hv
 obtain ⟨fuel, hf⟩ := h
 obtain ⟨y, ⟨v, h1, h2⟩, h3, h4⟩ := ho hf
 simp [Value.cells] at h1
 subst h1
 exact ⟨y, h2, h3 hw, h4⟩

theorem arg_stringU {t : TypeId} (ht : P.underlying t = some .string) (hv : Value.okWide P w r base0 t v) (h : DataW.Trod enc P w base spare held t v d p) (hw : WB P t d) : ∃ s : ByteArray, v = .string s ∧ bdStr s ∧ s.size ≤ Rows.uptoBulk d := by
 obtain ⟨s, rfl, hs⟩ := arg_string ht hv h
 obtain ⟨fuel, hf⟩ := h
 obtain ⟨y, ⟨h1, h2⟩, h3, h4⟩ := opensU_string ht hf
 simp only [Value.cells, List.cons.injEq, and_true, Value.string.injEq] at h1
 subst h1
 exact ⟨s, rfl, h3 hw, h4⟩

end

end Go.Proofs.Ytlgejpompnbfoaa
