/- Arguments opened, by a program's print: structs of structs, arrays, leaves. No program is named here. -/
import Derived.Test.YtglfajjcgbfehaaGreatOpen
import Derived.Test.YtglfajjcgbfehaaGreatSt2
import Derived.Test.YtglfajjcgbfehaaGreatBd
import Derived.SizedLaws
namespace Go.Proofs.YtglfajjcgbfehaaGreat
open Go.RowKit Go.ChangeShapes Go.WideShapes Go.ChangeAt Go.Deep

theorem part_eq {cs X Y : List Value} {o k p : Nat} (h : (cs.drop o).take k = X) (hp : o + X.length = p) (h2 : cs.drop p = Y) : cs.drop o = X ++ Y := by
 subst hp; subst h2
 by_cases hk : k ≤ (cs.drop o).length
 ·have hl : X.length = k := by rw [← h, List.length_take]; omega
  rw [hl, ← h, ← List.drop_drop, List.take_append_drop]
 ·have e : X = cs.drop o := by rw [← h]; exact List.take_of_length_le (by omega)
  rw [e, ← List.drop_drop, List.drop_length, List.append_nil]

theorem part_end {cs : List Value} {n m : Nat} (h : cs.length = n) (hm : n = m) : cs.drop m = [] := List.drop_eq_nil_of_le (by omega)

/-- all that a reading weighs is within the machine's reach -/
def WB {H : Type} (P : Program) (T : TypeId) (x : DataW H) : Prop := ∀ n ∈ x.weights P T, n ≤ reachBytes

theorem wb_of {H : Type} {P : Program} {ts : List TypeId} {ds : List (DataW H)} (h : (DataW.weightsEach P ts ds).all (· ≤ reachBytes) = true) {j : Nat} {t : TypeId} {d : DataW H} (ht : ts[j]? = some t) (hd : ds[j]? = some d) : WB P t d :=
 fun n hn => by simpa using List.all_eq_true.1 h n (DataW.weights_mem_each ht hd n hn)

theorem weights_mem_all {H : Type} {P : Program} {e : TypeId} : ∀ {ds : List (DataW H)} {d : DataW H}, d ∈ ds → ∀ n ∈ d.weights P e, n ∈ DataW.weightsAll P e ds
 | d0 :: ds, d, hd, n, hn => by
  simp only [DataW.weightsAll, List.mem_append]
  rcases List.mem_cons.1 hd with rfl | hd
  ·exact .inl hn
  ·exact .inr (weights_mem_all hd n hn)
 | [], _, hd, _, _ => by simp at hd

/-- Whatever the form reads at type T reads by R; within the machine's reach it is bounded by B. -/
def OpensB {α : Type} (P : Program) (T : TypeId) (R : Rp α) (B : α → Prop) : Prop :=
 ∀ {H : Type} {enc : TypeId × Value → H} {w : World} {base : Nat} {spare : Nat → Bool} {held : Bool} {fuel : Nat} {cs : List Value} {x : DataW H × List MemPlace}, DataW.trod enc P w base spare held fuel T cs = some x → ∃ y, R.rep AnyA w cs y ∧ (WB P T x.1 → B y)

theorem struct_parts {H : Type} {enc : TypeId × Value → H} {P : Program} {w : World} {base : Nat} {spare : Nat → Bool} {held : Bool} {t : TypeId} {fs : Array Field} {fuel : Nat} {cs : List Value} {x : DataW H × List MemPlace}
  (ht : P.underlying t = some (.struct fs)) (h : DataW.trod enc P w base spare held fuel t cs = some x) :
  cs.length = P.cellsOf t ∧ ∃ n, ∀ (j : Nat) (f : Field), fs[j]? = some f → ∃ y : DataW H × List MemPlace, DataW.trod enc P w base spare held n f.type ((cs.drop f.offset).take (P.cellsOf f.type)) = some y ∧ (WB P t x.1 → WB P f.type y.1) := by
 obtain ⟨ys, n, _, rfl, hlen, hyl, hf⟩ := DataW.trod_struct ht h
 refine ⟨hlen, n, fun j f hj => ?_⟩
 have hjl : j < fs.size := (Array.getElem?_eq_some_iff.1 hj).1
 have h1 := hf j f hj
 rw [List.getElem?_eq_getElem (by omega)] at h1
 refine ⟨_, h1, fun hw q hq => hw q ?_⟩
 simp only [DataW.weights, ht]
 exact DataW.weights_mem_each (j := j) (by simp [hj]) (by simp [List.getElem?_eq_getElem (show j < ys.length by omega)]) q hq

section
variable {P : Program} {t : TypeId}
theorem opens_string (ht : P.underlying t = some .string) : OpensB P t RS bdStr := fun h => by
 obtain ⟨a, rfl, rfl, q⟩ := DataW.trod_string ht h
 refine ⟨a, ⟨rfl, q⟩, fun hw => ?_⟩
 have h1 := hw a.data.toList.length (by simp [DataW.weights])
 have h2 : a.data.toList.length = a.size := by rw [Array.length_toList]; rfl
 have h3 : reachBytes < 2 ^ 47 := reachBytes_lt
 rw [h2] at h1
 show a.size ≤ bdM
 unfold bdM; omega

end

theorem opens_sliceB {α : Type} [Inhabited α] {P : Program} {t e : TypeId} {R : Rp α} {B : α → Prop} (ht : P.underlying t = some (.slice e)) (hc : P.cellsOf e = R.n) (hn : 0 < R.n) (hbt : 0 < P.bytesOf e) (hE : OpensB P e R B) : OpensB P t (RSl R) (bdSl B) := by
 intro H enc w base spare held fuel cs x h
 rcases open_slice ht h with ⟨rfl, _⟩ | ⟨a, len, cap, m, n, D, Pl, rfl, hb, hl, hm, hmm, rfl, hx⟩
 ·exact ⟨[], ⟨_, rfl, slRep.nil R _ _ none 0 (Nat.zero_le _)⟩, fun _ => ⟨Nat.zero_le _, fun k hk => by simp at hk⟩⟩
 ·have hlm : len ≤ m := by rw [hmm]; split <;> omega
  have each : ∀ i, i < len → ∃ q : List Value × α, R.rep AnyA w q.1 q.2 ∧ q.1.length = R.n ∧ (∀ j, j < R.n → w.cell? (a.add (i * R.n + j)) = q.1[j]?) ∧ (WB P e (D i) → B q.2) := by
   intro i hi
   obtain ⟨cs', h1, h2⟩ := hx i (by omega)
   obtain ⟨y, hy, hby⟩ := hE h2
   rw [hc] at h1
   obtain ⟨_, h3, h4⟩ := World.cells?_some h1
   refine ⟨(cs', y), hy, h3, fun j hj => ?_, hby⟩
   rw [← h4 j hj, add_add]
  obtain ⟨q, hq⟩ := choose_lt each
  have hlen : ((List.range len).map fun i => (q i).2).length = len := by simp
  refine ⟨(List.range len).map fun i => (q i).2, ⟨_, rfl, some a, a.block, a.off, cap, by rw [hlen], by rw [hlen]; exact hl, hm, fun h0 => ?_, fun i hi => ?_⟩, fun hw => ⟨?_, fun k hk => ?_⟩⟩
  ·rw [hlen] at h0
   obtain ⟨_, h3, h4, _⟩ := hq 0 h0
   have h5 := h4 0 hn
   have h6 : w.cell? (a.add 0) = some ((q 0).1[0]'(by omega)) := by
    rw [List.getElem?_eq_getElem (by omega)] at h5
    simpa using h5
   have h7 : a.add 0 = a := by simp [Addr.add]
   rw [h7] at h6
   have h8 := World.cell?_spot h6
   refine ⟨?_, trivial, World.block_lt_of_cell? _ _ h6⟩
   obtain ⟨b, o, s⟩ := a
   simp at h8
   rw [h8]
  ·rw [hlen] at hi
   obtain ⟨h2, h3, h4, _⟩ := hq i hi
   refine ⟨(q i).1, by simpa using h2, fun j hj => ?_⟩
   have h5 := h4 j (by omega)
   rw [List.getElem?_eq_getElem hj] at h5
   have h6 := World.cell?_spot h5
   have h7 : a.add (i * R.n + j) = ⟨a.block, a.off + i * R.n + j, none⟩ := by
    obtain ⟨b, o, s⟩ := a
    unfold Addr.add at h6 ⊢
    split
    ·rename_i hz
     rw [if_pos hz] at h6
     simp at h6
     simp only [h6]
     (try congr 1) <;> (try omega)
    ·simp [Nat.add_assoc]
   rw [h7] at h5
   exact h5
  ·have h1 := hw ((((List.range len).map D).length + ((List.range (m - len)).map fun j => D (len + j)).length) * P.bytesOf e) (by simp [DataW.weights, ht])
   rw [List.length_map, List.length_range] at h1
   rw [hlen]
   have h2 : len * 1 ≤ (len + ((List.range (m - len)).map fun j => D (len + j)).length) * P.bytesOf e := Nat.mul_le_mul (by omega) hbt
   have h3 : reachBytes < 2 ^ 47 := reachBytes_lt
   unfold bdM; omega
  ·rw [hlen] at hk
   have e1 : ((List.range len).map fun i => (q i).2).getD k default = (q k).2 := by
    rw [List.getD_eq_getElem?_getD, List.getElem?_map, List.getElem?_range hk]; rfl
   rw [e1]
   refine (hq k hk).2.2.2 fun z hz => hw z ?_
   simp only [DataW.weights, ht, List.mem_cons, List.mem_append]
   exact .inr (.inl (weights_mem_all (List.mem_map.2 ⟨k, List.mem_range.2 hk, rfl⟩) z hz))

section
variable {H : Type} {enc : TypeId × Value → H} {P : Program} {w : World} {base base0 : Nat} {spare : Nat → Bool} {held : Bool} {r : Reach} {v : Value} {d : DataW H} {p : List MemPlace}
theorem arg_sliceB {α : Type} {R : Rp α} {B : List α → Prop} {t e : TypeId} (ht : P.underlying t = some (.slice e)) (ho : OpensB P t (RSl R) B) (hv : Value.okWide P w r base0 t v) (h : DataW.Trod enc P w base spare held t v d p) (hw : WB P t d) : ∃ l, slRep R AnyA w v l ∧ B l := by
 obtain ⟨a, len, cap, rfl⟩ := okWide_slice ht hv
 obtain ⟨fuel, hf⟩ := h
 obtain ⟨y, ⟨v, h1, h2⟩, h3⟩ := ho hf
 simp [Value.cells] at h1
 subst h1
 exact ⟨y, h2, h3 hw⟩

end

theorem Calls.row {P : Program} {f : Nat} {args : Array Value} {w : World} (h : Calls P f args w (Ret fun r w' => r = .bool true ∧ Below w.heap.size w w')) : Calls P f args w fun e w' => e = .returned (.bool true) ∧ Below w.heap.size w w' :=
 h.mono fun e w' he => by
  cases e with
  | returned v => exact ⟨congrArg _ he.1, he.2⟩
  | _ => exact he.elim

end Go.Proofs.YtglfajjcgbfehaaGreat
