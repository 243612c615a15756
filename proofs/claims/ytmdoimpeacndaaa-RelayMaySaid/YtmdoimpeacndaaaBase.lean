/- How Go data lie in memory as plain data: readings of cells, slices, owned slices; laws of append and of frames. No program is named here. -/
import Derived.WalkKit
import Derived.ProofKit
import Derived.LoopTactic
import Derived.Lib.Hide
import Derived.Deep.Slices
import Derived.Carry
import Derived.WalkLawsBesides
import Derived.WalkSpells
import Derived.Outline
import Derived.Deep.DeepCutAuto
namespace Go.Proofs.Ytmdoimpeacndaaa
open Go.RowKit

theorem ret_val {a b : Value} (h : a = b) : Ending.returned a = .returned b := by rw [h]
theorem ret_bool {a b : Bool} (h : a = b) : Ending.returned (.bool a) = .returned (.bool b) := by rw [h]
theorem ret_int {k : IntKind} {a b : Int} (h : a = b) : Ending.returned (.int k a) = .returned (.int k b) := by rw [h]
theorem bcell {W w1 : World} (hb : Below W.heap.size W w1) : ∀ b o, b < W.heap.size → w1.cell? ⟨b, o, none⟩ = W.cell? ⟨b, o, none⟩ := fun b o h => hb.cell (p := ⟨b, o, none⟩) h

theorem ret_pair {α β : Type} {f : α → Value} {g : β → Value} {a : α} {b : β} (x : α × β) (h : x = (a, b)) : Ending.returned (.tuple #[f a, g b]) = .returned (.tuple #[f x.1, g x.2]) := by rw [h]

/-- what an int holds -/
def i64ok (x : Int) : Prop := -9223372036854775808 ≤ x ∧ x ≤ 9223372036854775807

def AnyA : Nat → Prop := fun _ => True

/-- Blocks that are there stay as they are where 'A' says so. -/
def Keep (A : Nat → Prop) (w w' : World) : Prop := w.heap.size ≤ w'.heap.size ∧ ∀ k, A k → k < w.heap.size → w'.heap[k]? = w.heap[k]?

theorem Keep.of_below {A : Nat → Prop} {B : Nat} {w w' : World} (h : Below B w w') (hA : ∀ k, A k → k < w.heap.size → k < B) : Keep A w w' := ⟨h.size, fun k ha hk => h.block k (hA k ha hk)⟩
theorem Keep.below {A : Nat → Prop} {w w' : World} (h : Below w.heap.size w w') : Keep A w w' := ⟨h.size, fun k _ hk => h.block k hk⟩
theorem Keep.refl (A : Nat → Prop) (w : World) : Keep A w w := ⟨Nat.le_refl _, fun _ _ _ => rfl⟩
theorem Keep.grown {A : Nat → Prop} {w w' : World} {row : Option Nat} (h : w.grownBy w' row) (hA : ∀ k, row = some k → ¬ A k) : Keep A w w' :=
  ⟨h.size, fun k ha hk => h.block k hk (fun e => hA k e.symm ha)⟩

/-- How the cells of a Go type read as a plain value: 'A' holds of every block that the reading passes through. -/
structure Rp (α : Type) where
  n : Nat
  rep : (Nat → Prop) → World → List Value → α → Prop
  len : ∀ {A w cs x}, rep A w cs x → cs.length = n
  one : ∀ {A w cs x}, rep A w cs x → ∀ c ∈ cs, c.oneCell' = true
  mono : ∀ {A A' : Nat → Prop} {w w' cs x}, rep A w cs x → (∀ k, A k → A' k) → Keep A w w' → rep A' w' cs x
  bound : ∀ {A w cs x}, rep A w cs x → rep (fun k => A k ∧ k < w.heap.size) w cs x

/-- A reading that passes through no block. -/
def Rp.Flat {α : Type} (R : Rp α) : Prop := ∀ (A A' : Nat → Prop) (w w' : World) (cs : List Value) (x : α), R.rep A w cs x → R.rep A' w' cs x

/-- A flat reading by the list of cells. -/
def Rp.flat {α : Type} (n : Nat) (ok : α → Prop) (enc : α → List Value) (hl : ∀ x, (enc x).length = n) (h1 : ∀ x, ∀ c ∈ enc x, c.oneCell' = true) : Rp α where
  n := n
  rep _ _ cs x := cs = enc x ∧ ok x
  len := fun h => by rw [h.1, hl]
  one := fun h => by rw [h.1]; exact h1 _
  mono := fun h _ _ => h
  bound := fun h => h

theorem Rp.flat_flat {α : Type} (n : Nat) (ok : α → Prop) (enc : α → List Value) (hl h1) : (Rp.flat n ok enc hl h1).Flat := fun _ _ _ _ _ _ h => h

/-- A slice's value reads as a list. -/
def slRep {α : Type} (R : Rp α) (A : Nat → Prop) (w : World) (v : Value) (l : List α) : Prop :=
  ∃ (ao : Option Addr) (b off cap : Nat), v = .slice ao l.length cap ∧ l.length ≤ cap ∧ cap ≤ maxLen ∧ (0 < l.length → ao = some ⟨b, off, none⟩ ∧ A b ∧ b < w.heap.size) ∧
    ∀ i (h : i < l.length), ∃ cs, R.rep A w cs l[i] ∧ ∀ j (hj : j < cs.length), w.cell? ⟨b, off + i * R.n + j, none⟩ = some cs[j]

theorem slRep.mono {α : Type} {R : Rp α} {A A' : Nat → Prop} {w w' : World} {v : Value} {l : List α} (h : slRep R A w v l) (hA : ∀ k, A k → A' k) (hk : Keep A w w') : slRep R A' w' v l := by
  obtain ⟨ao, b, off, cap, hv, hc, hm, hb, hx⟩ := h
  refine ⟨ao, b, off, cap, hv, hc, hm, fun h0 => ?_, fun i hi => ?_⟩
  · obtain ⟨h1, h2, h3⟩ := hb h0
    exact ⟨h1, hA _ h2, Nat.lt_of_lt_of_le h3 hk.1⟩
  · obtain ⟨cs, hr, hcs⟩ := hx i hi
    obtain ⟨_, h2, h3⟩ := hb (by omega)
    refine ⟨cs, R.mono hr hA hk, fun j hj => ?_⟩
    rw [World.cell?_of_block (w := w) (hk.2 b h2 h3)]
    exact hcs j hj

theorem slRep.bound {α : Type} {R : Rp α} {A : Nat → Prop} {w : World} {v : Value} {l : List α} (h : slRep R A w v l) : slRep R (fun k => A k ∧ k < w.heap.size) w v l := by
  obtain ⟨ao, b, off, cap, hv, hc, hm, hb, hx⟩ := h
  refine ⟨ao, b, off, cap, hv, hc, hm, fun h0 => ?_, fun i hi => ?_⟩
  · obtain ⟨h1, h2, h3⟩ := hb h0
    exact ⟨h1, ⟨h2, h3⟩, h3⟩
  · obtain ⟨cs, hr, hcs⟩ := hx i hi
    exact ⟨cs, R.bound hr, hcs⟩

theorem slRep.one {α : Type} {R : Rp α} {A : Nat → Prop} {w : World} {v : Value} {l : List α} (h : slRep R A w v l) : v.oneCell' = true := by
  obtain ⟨ao, b, off, cap, rfl, _⟩ := h; rfl

/-- A slice as the one cell of a field or an element. -/
def RSl {α : Type} (R : Rp α) : Rp (List α) where
  n := 1
  rep A w cs l := ∃ v, cs = [v] ∧ slRep R A w v l
  len := fun ⟨_, h, _⟩ => by rw [h]; rfl
  one := fun ⟨v, h, hs⟩ c hc => by
    obtain ⟨ao, b, off, cap, rfl, _⟩ := hs
    rw [h] at hc
    simp only [List.mem_singleton] at hc
    rw [hc]; rfl
  mono := fun ⟨v, h, hs⟩ hA hk => ⟨v, h, hs.mono hA hk⟩
  bound := fun ⟨v, h, hs⟩ => ⟨v, h, hs.bound⟩

theorem slRep.below {α : Type} {R : Rp α} {A : Nat → Prop} {w w' : World} {v : Value} {l : List α} (h : slRep R A w v l) (hb : Below w.heap.size w w') : slRep R A w' v l := h.mono (fun _ h => h) (Keep.below hb)

theorem slRep.len_le {α : Type} {R : Rp α} {A : Nat → Prop} {w : World} {v : Value} {l : List α} (h : slRep R A w v l) : l.length ≤ maxLen := by
  obtain ⟨ao, b, off, cap, rfl, hc, hm, _⟩ := h
  exact Nat.le_trans hc hm

theorem slRep.oks {α : Type} {R : Rp α} {A : Nat → Prop} {w : World} {v : Value} {l : List α} (h : slRep R A w v l) {ok : α → Prop} (f : ∀ x cs A w, R.rep A w cs x → ok x) : ∀ x ∈ l, ok x := by
  obtain ⟨ao, b, off, cap, hv, hc, hm, hb, hx⟩ := h
  intro x hm
  obtain ⟨i, hi, rfl⟩ := List.getElem_of_mem hm
  obtain ⟨cs, hr, _⟩ := hx i hi
  exact f _ _ _ _ hr

/-- The nil slice, and any slice of no room. -/
theorem slRep.nil {α : Type} (R : Rp α) (A : Nat → Prop) (w : World) (ao : Option Addr) (cap : Nat) (hc : cap ≤ maxLen) : slRep R A w (.slice ao 0 cap) [] :=
  ⟨ao, 0, 0, cap, rfl, Nat.zero_le _, hc, fun h => absurd h (Nat.lt_irrefl _), fun i h => absurd h (Nat.not_lt_zero i)⟩

/-- A part of a slice. -/
theorem slRep.part {α : Type} {R : Rp α} {A : Nat → Prop} {w : World} {ao : Option Addr} {n cap : Nat} {l : List α} (h : slRep R A w (.slice ao n cap) l) (i j : Nat) (hij : i ≤ j) (hj : j ≤ l.length) :
    slRep R A w (.slice (if cap = i then ao else ao.map (·.add (i * R.n))) (j - i) (cap - i)) ((l.take j).drop i) := by
  obtain ⟨ao', b, off, cap', hv, hc, hm, hb, hx⟩ := h
  injection hv with e1 e2 e3
  subst e1; subst e2; subst e3
  have hlen : ((l.take j).drop i).length = j - i := by rw [List.length_drop, List.length_take]; omega
  refine ⟨_, b, off + i * R.n, cap - i, by rw [hlen], by rw [hlen]; omega, by omega, fun h0 => ?_, fun k hk => ?_⟩
  · rw [hlen] at h0
    obtain ⟨h1, h2, h3⟩ := hb (by omega)
    refine ⟨?_, h2, h3⟩
    rw [if_neg (by omega), h1]
    simp only [Option.map_some, Addr.add]
    split
    · rename_i h; simp [h]
    · rfl
  · rw [hlen] at hk
    obtain ⟨cs, hr, hcs⟩ := hx (i + k) (by omega)
    refine ⟨cs, ?_, fun q hq => ?_⟩
    · have : ((l.take j).drop i)[k]'(by rw [hlen]; exact hk) = l[i + k]'(by omega) := by simp
      rw [this]; exact hr
    · have := hcs q hq
      rw [Nat.add_mul] at this
      rw [show off + i * R.n + k * R.n + q = off + (i * R.n + k * R.n) + q by omega]
      exact this

/-- the address of a part, as the model has it -/
def subA (ao : Option Addr) (cap i n : Nat) : Option Addr := if cap = i then ao else ao.map (·.add (i * n))

theorem slRep.sub {α : Type} {R : Rp α} {A : Nat → Prop} {w : World} {ao : Option Addr} {n cap : Nat} {l : List α} (h : slRep R A w (.slice ao n cap) l) (k i j : Nat) (hk : R.n = k) (hij : i ≤ j) (hj : j ≤ l.length) :
    slRep R A w (.slice (subA ao cap i k) (j - i) (cap - i)) ((l.take j).drop i) := by
  subst hk
  exact h.part i j hij hj

/-- s[i:], s[:j], s[i:j] by one equation each, the address behind a name -/
theorem run_sub_from {P : Program} {t e : TypeId} {k : Nat} (ht : P.underlying t = some (.slice e)) (hs : (P.info? e).map (·.size) = some k) (ao : Option Addr) (len cap i : Nat) (x : Int) (hx : x = i) (hi : i ≤ len) (hc : len ≤ cap) (w : World) :
    (Instr.slice t (.slice ao len cap) (some (.int .i64 x)) none none).run P w = .ok (.slice (subA ao cap i k) (len - i) (cap - i)) w := by
  subst hx
  obtain ⟨info, hi1, hi2⟩ := Option.map_eq_some_iff.1 hs
  simp [Instr.slice, run_underlying ht, Instr.sliceBounds, Instr.sliceBound, asIntOf, sizeOf, typeInfo, hi1, hi2, subA, hi]

theorem run_sub_to {P : Program} {t e : TypeId} {k : Nat} (ht : P.underlying t = some (.slice e)) (hs : (P.info? e).map (·.size) = some k) (ao : Option Addr) (len cap j : Nat) (x : Int) (hx : x = j) (hj : j ≤ cap) (w : World) :
    (Instr.slice t (.slice ao len cap) none (some (.int .i64 x)) none).run P w = .ok (.slice (subA ao cap 0 k) j cap) w := by
  subst hx
  obtain ⟨info, hi1, hi2⟩ := Option.map_eq_some_iff.1 hs
  simp [Instr.slice, run_underlying ht, Instr.sliceBounds, Instr.sliceBound, asIntOf, sizeOf, typeInfo, hi1, hi2, subA, hj]

theorem run_sub_of {P : Program} {t e : TypeId} {k : Nat} (ht : P.underlying t = some (.slice e)) (hs : (P.info? e).map (·.size) = some k) (ao : Option Addr) (len cap i j : Nat) (x y : Int) (hx : x = i) (hy : y = j) (hi : i ≤ j) (hj : j ≤ cap) (w : World) :
    (Instr.slice t (.slice ao len cap) (some (.int .i64 x)) (some (.int .i64 y)) none).run P w = .ok (.slice (subA ao cap i k) (j - i) (cap - i)) w := by
  subst hx
  subst hy
  obtain ⟨info, hi1, hi2⟩ := Option.map_eq_some_iff.1 hs
  simp [Instr.slice, run_underlying ht, Instr.sliceBounds, Instr.sliceBound, asIntOf, sizeOf, typeInfo, hi1, hi2, hi, hj, subA]

/-- Cells of rows of one width, by the place. -/
theorem flat_get {css : List (List Value)} {n : Nat} (hn : 0 < n) (h : ∀ cs ∈ css, cs.length = n) : ∀ j, css.flatten[j]? = (css[j / n]?).bind (·[j % n]?) := by
  induction css with
  | nil => intro j; simp
  | cons c css ih =>
    intro j
    have hc : c.length = n := h c (by simp)
    have ih' := ih (fun cs hcs => h cs (by simp [hcs]))
    rw [List.flatten_cons]
    by_cases hj : j < n
    · rw [List.getElem?_append_left (by omega), Nat.div_eq_of_lt hj, Nat.mod_eq_of_lt hj]
      rfl
    · rw [List.getElem?_append_right (by omega), hc, ih' (j - n)]
      have e1 : j / n = (j - n) / n + 1 := by
        have := Nat.div_eq_sub_div hn (show n ≤ j by omega)
        exact this
      have e2 : j % n = (j - n) % n := by
        exact Nat.mod_eq_sub_mod (by omega)
      rw [e1, e2, List.getElem?_cons_succ]

theorem flat_len {css : List (List Value)} {n : Nat} (h : ∀ cs ∈ css, cs.length = n) : css.flatten.length = css.length * n := by
  induction css with
  | nil => simp
  | cons c css ih =>
    rw [List.flatten_cons, List.length_append, h c (by simp), ih (fun cs hcs => h cs (by simp [hcs])), List.length_cons, Nat.add_mul]
    omega

/-- The rows of a slice, chosen. -/
theorem slRep.rows {α : Type} {R : Rp α} {A : Nat → Prop} {w : World} {ao : Option Addr} {m cap : Nat} {l : List α} (h : slRep R A w (.slice ao m cap) l) :
    ∃ css : List (List Value), m = l.length ∧ css.length = l.length ∧ (∀ i (h1 : i < css.length) (h2 : i < l.length), R.rep A w css[i] l[i]) ∧
      (0 < l.length → ∃ b off, ao = some ⟨b, off, none⟩ ∧ A b ∧ b < w.heap.size ∧ (0 < R.n → ∀ j v, css.flatten[j]? = some v → w.cell? ((⟨b, off, none⟩ : Addr).add j) = some v)) := by
  obtain ⟨ao', b, off, cap', hv, hc, hm, hb, hx⟩ := h
  injection hv with e1 e2 e3
  subst e1; subst e2; subst e3
  obtain ⟨f, hf⟩ := Go.Deep.choose_lt (n := l.length) (α := List Value) (p := fun i cs => ∃ hi : i < l.length, R.rep A w cs l[i] ∧ ∀ j (hj : j < cs.length), w.cell? ⟨b, off + i * R.n + j, none⟩ = some cs[j]) (fun i hi => by
    obtain ⟨cs, h1, h2⟩ := hx i hi
    exact ⟨cs, hi, h1, h2⟩)
  refine ⟨(List.range l.length).map f, rfl, by simp, fun i h1 h2 => ?_, fun h0 => ?_⟩
  · obtain ⟨_, h3, _⟩ := hf i h2
    simpa using h3
  · obtain ⟨h1, h2, h3⟩ := hb h0
    refine ⟨b, off, h1, h2, h3, fun hn j v hj => ?_⟩
    have hall : ∀ cs ∈ (List.range l.length).map f, cs.length = R.n := by
      intro cs hcs
      obtain ⟨i, hi, rfl⟩ := List.mem_map.1 hcs
      obtain ⟨_, h4, _⟩ := hf i (List.mem_range.1 hi)
      exact R.len h4
    rw [flat_get hn hall] at hj
    obtain ⟨cs, hcs, hjv⟩ := Option.bind_eq_some_iff.1 hj
    rw [List.getElem?_map] at hcs
    obtain ⟨i, hi, rfl⟩ := Option.map_eq_some_iff.1 hcs
    have hi2 : i = j / R.n ∧ j / R.n < l.length := by
      have h5 := List.getElem?_eq_some_iff.1 hi
      obtain ⟨h6, h7⟩ := h5
      simp at h6 h7
      exact ⟨h7.symm, h6⟩
    obtain ⟨rfl, hlt⟩ := hi2
    obtain ⟨_, _, h8⟩ := hf _ hlt
    obtain ⟨h9, h10⟩ := List.getElem?_eq_some_iff.1 hjv
    have h11 := h8 _ h9
    rw [h10] at h11
    have hadd : (⟨b, off, none⟩ : Addr).add j = ⟨b, off + (j / R.n) * R.n + j % R.n, none⟩ := by
      have e : (j / R.n) * R.n + j % R.n = j := by rw [Nat.mul_comm]; exact Nat.div_add_mod j R.n
      rw [Nat.add_assoc, e]
      unfold Addr.add
      split
      · simp
      · rfl
    rw [hadd]
    exact h11

/-- A slice over a block that has just been made of the rows of its elements. -/
theorem slRep.made {α : Type} {R : Rp α} {A : Nat → Prop} {w : World} {e : TypeId} {cs : List Value} {l : List α} (n c : Nat) (css : List (List Value)) (hcs : cs = css.flatten) (hn : n = l.length) (hc : n ≤ c) (hm : c ≤ maxLen) (hlen : css.length = l.length) (hA : A w.heap.size)
    (hr : ∀ i (h1 : i < css.length) (h2 : i < l.length), R.rep A w css[i] l[i]) : slRep R A (w.alloc (.cells cs.toArray e)) (.slice (some ⟨w.heap.size, 0, none⟩) n c) l := by
  subst hn
  subst hcs
  refine ⟨_, w.heap.size, 0, c, rfl, hc, hm, fun _ => ⟨rfl, hA, by simp⟩, fun i hi => ?_⟩
  refine ⟨css[i]'(by omega), R.mono (hr i (by omega) hi) (fun _ h => h) (Keep.below ((Below.refl _ _).alloc (Nat.le_refl _) _)), fun j hj => ?_⟩
  have hall : ∀ x ∈ css, x.length = R.n := by
    intro x hx
    obtain ⟨q, hq, rfl⟩ := List.getElem_of_mem hx
    exact R.len (hr q hq (by omega))
  have hci := hall _ (List.getElem_mem (show i < css.length by omega))
  have hn : 0 < R.n := by omega
  have hj' : j < R.n := by omega
  rw [World.cell?_alloc_at _ _ _ _ rfl]
  show css.flatten.toArray[0 + i * R.n + j]? = _
  rw [Nat.zero_add, List.getElem?_toArray, flat_get hn hall, Nat.mul_comm, Nat.mul_add_div hn, Nat.div_eq_of_lt hj', Nat.mul_add_mod, Nat.mod_eq_of_lt hj', Nat.add_zero, List.getElem?_eq_getElem (by omega)]
  simp

theorem slRep.made1 {α : Type} {R : Rp α} {A : Nat → Prop} {w : World} {e : TypeId} {cs : List Value} {x : α} (hA : A w.heap.size) (hr : R.rep A w cs x) : slRep R A (w.alloc (.cells cs.toArray e)) (.slice (some ⟨w.heap.size, 0, none⟩) 1 1) [x] :=
  slRep.made 1 1 [cs] (by simp) rfl (Nat.le_refl _) (by decide) rfl hA (fun i h1 h2 => by
    have : i = 0 := by simp at h1; omega
    subst this
    exact hr)

/-- AN OWNED SLICE: nothing that it may write was there below 'base'; its elements' readings stay clear of its own block. -/
def Ow {α : Type} (R : Rp α) (A : Nat → Prop) (base : Nat) (e : TypeId) (w : World) (v : Value) (l : List α) : Prop :=
  (∃ ao, v = .slice ao 0 0 ∧ l = []) ∨
  ∃ (g cap : Nat) (css : List (List Value)), v = .slice (some ⟨g, 0, none⟩) l.length cap ∧ w.ownsRow base e R.n v l.length css.flatten ∧ css.length = l.length ∧
    ∀ i (h1 : i < css.length) (h2 : i < l.length), R.rep (fun k => A k ∧ k ≠ g) w css[i] l[i]

theorem Ow.nil {α : Type} (R : Rp α) (A : Nat → Prop) (base : Nat) (e : TypeId) (w : World) (ao : Option Addr) : Ow R A base e w (.slice ao 0 0) [] := .inl ⟨ao, rfl, rfl⟩

/-- An owned slice reads as its list. -/
theorem Ow.sl {α : Type} {R : Rp α} {A : Nat → Prop} {base : Nat} {e : TypeId} {w : World} {v : Value} {l : List α} (h : Ow R A base e w v l) {A' : Nat → Prop} (hA : ∀ k, A k → A' k) (hb : ∀ k, base ≤ k → A' k) : slRep R A' w v l := by
  rcases h with ⟨ao, rfl, rfl⟩ | ⟨g, cap, css, rfl, hown, hl, hr⟩
  · exact slRep.nil R A' w ao 0 (Nat.zero_le _)
  · have hlen : ∀ cs ∈ css, cs.length = R.n := by
      intro cs hcs
      obtain ⟨i, hi, rfl⟩ := List.getElem_of_mem hcs
      exact R.len (hr i hi (by omega))
    have hcell := hown.cells (g := g) rfl
    rcases hown.2 with ⟨h1, _⟩ | ⟨g', cap', cur, hv, hbase, hg, hnc, hcm, hcs, htake⟩
    · injection h1 with h1; cases h1
    · injection hv with e1 e2 e3
      injection e1 with e1
      injection e1 with e1
      subst e1; subst e3
      refine ⟨_, g, 0, cap, rfl, hnc, hcm, fun _ => ⟨rfl, hb _ hbase, (Array.getElem?_eq_some_iff.1 hg).1⟩, fun i hi => ⟨css[i]'(by omega), R.mono (hr i (by omega) hi) (fun k hk => hA k hk.1) (Keep.refl _ _), fun j hj => ?_⟩⟩
      have hci := hlen (css[i]'(by omega)) (List.getElem_mem _)
      have hn : 0 < R.n := by omega
      have hj' : j < R.n := by omega
      have hget : css.flatten[i * R.n + j]? = some (css[i]'(by omega))[j] := by
        rw [flat_get hn hlen, Nat.mul_comm, Nat.mul_add_div hn, Nat.div_eq_of_lt hj', Nat.mul_add_mod, Nat.mod_eq_of_lt hj', Nat.add_zero, List.getElem?_eq_getElem (by omega)]
        simp
      have := hcell _ _ hget
      have hadd : (⟨g, 0, none⟩ : Addr).add (i * R.n + j) = ⟨g, 0 + i * R.n + j, none⟩ := by
        unfold Addr.add
        split
        · simp
        · simp
      rw [hadd] at this
      exact this

/-- .. behind what leaves its block and its elements' blocks alone. -/
theorem Ow.mono {α : Type} {R : Rp α} {A A' : Nat → Prop} {base base' : Nat} {e : TypeId} {w w' : World} {v : Value} {l : List α} (h : Ow R A base e w v l) (hA : ∀ k, A k → A' k) (hb : base' ≤ base) (hk : Keep A w w') (hk2 : Keep (fun k => base ≤ k) w w') : Ow R A' base' e w' v l := by
  rcases h with ⟨ao, rfl, rfl⟩ | ⟨g, cap, css, rfl, hown, hl, hr⟩
  · exact Ow.nil _ _ _ _ _ _
  · refine .inr ⟨g, cap, css, rfl, ⟨hown.1, ?_⟩, hl, fun i h1 h2 => R.mono (hr i h1 h2) (fun k hk => ⟨hA k hk.1, hk.2⟩) ⟨hk.1, fun k ha hlt => hk.2 k ha.1 hlt⟩⟩
    rcases hown.2 with h1 | ⟨g', cap', cur, hv, hbase, hg, rest⟩
    · exact .inl h1
    · exact .inr ⟨g', cap', cur, hv, Nat.le_trans hb hbase, (hk2.2 g' hbase (Array.getElem?_eq_some_iff.1 hg).1).trans hg, rest⟩

theorem Ow.below {α : Type} {R : Rp α} {A : Nat → Prop} {base : Nat} {e : TypeId} {w w' : World} {v : Value} {l : List α} (h : Ow R A base e w v l) (hb : Below w.heap.size w w') : Ow R A base e w' v l :=
  h.mono (fun _ h => h) (Nat.le_refl _) (Keep.below hb) (Keep.below hb)

theorem Ow.flat {α : Type} {R : Rp α} (hF : R.Flat) {A A' : Nat → Prop} {base : Nat} {e : TypeId} {w : World} {v : Value} {l : List α} (h : Ow R A base e w v l) : Ow R A' base e w v l := by
  rcases h with h | ⟨g, cap, css, h1, h2, h3, h4⟩
  · exact .inl h
  · exact .inr ⟨g, cap, css, h1, h2, h3, fun i a b => hF _ _ _ _ _ _ (h4 i a b)⟩

theorem Ow.len_le {α : Type} {R : Rp α} {A : Nat → Prop} {base : Nat} {e : TypeId} {w : World} {v : Value} {l : List α} (h : Ow R A base e w v l) : ∃ ao cap, v = .slice ao l.length cap ∧ l.length ≤ cap ∧ cap ≤ maxLen := by
  rcases h with ⟨ao, rfl, rfl⟩ | ⟨g, cap, css, rfl, hown, hl, hr⟩
  · exact ⟨ao, 0, rfl, Nat.le_refl _, Nat.zero_le _⟩
  · rcases hown.2 with ⟨h1, _⟩ | ⟨g', cap', cur, hv, hbase, hg, hnc, hcm, _⟩
    · injection h1 with h1; cases h1
    · injection hv with e1 e2 e3
      subst e3
      exact ⟨_, cap, rfl, hnc, hcm⟩

/-- What is known of an element's type where slices of it are appended to. -/
structure Elem (P : Program) (t e : TypeId) (n bytes : Nat) : Prop where
  sl : P.underlying t = some (.slice e)
  info : ∃ i z, P.info? e = some i ∧ i.zero = some z ∧ i.size = n ∧ i.bytes = bytes ∧ z.cells.size = n
  pos : 0 < n

/-- of what was there only rows of elements of type e have turned -/
def OnlyOf (e : TypeId) (w w' : World) : Prop := ∀ k, k < w.heap.size → (∀ cur, w.heap[k]? ≠ some (.cells cur e (0, 0))) → w'.heap[k]? = w.heap[k]?

/-- what an append leaves as it was -/
structure AppFrame (e : TypeId) (v : Value) (w w' : World) : Prop where
  blk : ∀ k, k < w.heap.size → v.ownBlock ≠ some k → w'.heap[k]? = w.heap[k]?
  typ : OnlyOf e w w'

/-- append: whatever its second operand reads as is behind what the owned slice held. -/
theorem run_app {P : Program} {α : Type} {R : Rp α} {A : Nat → Prop} {base : Nat} {t e : TypeId} {n bytes : Nat} {w : World} {v x : Value} {l l2 : List α} (ty : TypeId) (E : Elem P t e n bytes) (hn : R.n = n)
    (h : Ow R A base e w v l) {A2 : Nat → Prop} (hx : slRep R A2 w x l2) (hx2 : ∀ cs y, R.rep A2 w cs y → R.rep (fun k => A k ∧ v.ownBlock ≠ some k) w cs y)
    (h63 : l.length + l2.length ≤ maxLen) (hbytes : (l.length + l2.length) * bytes ≤ 140737488355328) (hbase : base ≤ w.heap.size) :
    ∃ v' w', (Builtin.append_ #[t, t] ty #[v, x]).run P w = .ok v' w' ∧ Ow R A base e w' v' (l ++ l2) ∧ Below base w w' ∧ AppFrame e v w w' := by
  obtain ⟨ht, ⟨i, z, hi, hz, hsz, hby, hzs⟩, hpos⟩ := E
  subst hn
  obtain ⟨ao, b0, o0, cap, rfl, _⟩ := id hx
  obtain ⟨css, _, hcl, hrep, hsrc⟩ := hx.rows
  have hlen : ∀ cs ∈ css, cs.length = R.n := by
    intro cs hcs
    obtain ⟨i, hi, rfl⟩ := List.getElem_of_mem hcs
    exact R.len (hrep i hi (by omega))
  have hone : ∀ u ∈ css.flatten, u.oneCell' = true := by
    intro u hu
    obtain ⟨cs, hcs, huc⟩ := List.mem_flatten.1 hu
    obtain ⟨i, hi, rfl⟩ := List.getElem_of_mem hcs
    exact R.one (hrep i hi (by omega)) u huc
  have hfl := flat_len hlen
  rw [hcl] at hfl
  by_cases h0 : l2.length = 0
  · have hl2 : l2 = [] := List.eq_nil_of_length_eq_zero h0
    subst hl2
    refine ⟨v, w, ?_, by simpa using h, Below.refl _ _, ⟨fun _ _ _ => rfl, fun _ _ _ => rfl⟩⟩
    obtain ⟨ao', cap', rfl, hlc, _⟩ := h.len_le
    cases ao <;> cases ao' <;> simp [Builtin.append_, run_underlying ht, sizeOf, typeInfo, hi, Builtin.lenOf, Builtin.firstCells, loadCells, loadCellsFrom, storeCells, hlc]
  · obtain ⟨b, off, rfl, hAb, hblt, hcells⟩ := hsrc (by omega)
    have hnews := hcells hpos
    rcases h with ⟨ao', rfl, rfl⟩ | ⟨g, gcap, css1, rfl, hown, hl1, hr1⟩
    · simp only [List.length_nil, Nat.zero_add] at h63 hbytes
      have h63' : ((l2.length : Nat) : Int) ≤ 9223372036854775807 := by simp only [maxLen] at h63; omega
      have hnew : ∀ (old : Nat) (base0 : base ≤ w.heap.size),
          Ow R A base e (w.drew.alloc (.cells (css.flatten.toArray ++ Builtin.zeroCells z.cells (grownCap w l2.length 0 e - l2.length)) e)) (.slice (some ⟨w.heap.size, 0, none⟩) l2.length (grownCap w l2.length 0 e)) ([] ++ l2) := by
        intro _ _
        have hge := grownCap_ge w l2.length 0 e
        refine .inr ⟨w.heap.size, grownCap w l2.length 0 e, css, by simp, ⟨by simpa using hfl, .inr ⟨w.heap.size, _, _, rfl, hbase, heap_alloc_new w.drew _, by simpa using hge, grownCap_le_maxLen w l2.length 0 e h63, ?_, ?_⟩⟩, by simpa using hcl, fun i h1 h2 => ?_⟩
        · simp only [Array.size_append, List.size_toArray, size_zeroCells, hzs, hfl, ← Nat.add_mul]
          congr 1
          omega
        · simp only [Array.toList_append, List.nil_append]
          rw [← hfl]
          exact List.take_left
        · have h3 := R.bound (hx2 _ _ (hrep i h1 (by simpa using h2)))
          have h4 := R.mono h3 (A' := fun k => A k ∧ k ≠ w.heap.size) (fun k hk => ⟨hk.1.1, by omega⟩) (Keep.below (w' := w.drew.alloc (.cells (css.flatten.toArray ++ Builtin.zeroCells z.cells (grownCap w l2.length 0 e - l2.length)) e)) ((Below.refl _ w).drew.alloc (Nat.le_refl _) _))
          simpa using h4
      have hbel : Below base w (w.drew.alloc (.cells (css.flatten.toArray ++ Builtin.zeroCells z.cells (grownCap w l2.length 0 e - l2.length)) e)) := (Below.refl _ w).drew.alloc hbase _
      have hblk : ∀ k, k < w.heap.size → (w.drew.alloc (.cells (css.flatten.toArray ++ Builtin.zeroCells z.cells (grownCap w l2.length 0 e - l2.length)) e)).heap[k]? = w.heap[k]? := fun k hk => Below.heap_alloc _ _ _ hk
      cases ao' with
      | none =>
        have hr := run_append_nil (P := P) w t ty e i z ht hi hz ⟨b, off, none⟩ l2.length cap css.flatten (by rw [hsz]; exact hfl) hnews (by omega) h63' (by rw [hby]; omega)
        exact ⟨_, _, hr, hnew 0 hbase, hbel, ⟨fun k hk _ => hblk k hk, fun k hk _ => hblk k hk⟩⟩
      | some ad =>
        have hr := run_append_grow (P := P) w t ty e i z ht hi hz ad 0 0 [] (by simp) (by simp) ⟨b, off, none⟩ l2.length cap css.flatten (by rw [hsz]; exact hfl) hnews (by omega) (by simpa using h63') (by rw [hby, Nat.zero_add]; exact growslice_fits (by omega) hbytes)
        simp only [Nat.zero_add, Array.empty_append] at hr
        exact ⟨_, _, hr, hnew 0 hbase, hbel, ⟨fun k hk _ => hblk k hk, fun k hk _ => hblk k hk⟩⟩
    · have hown' := hown
      obtain ⟨v', w', hr, h2, h3, _⟩ := run_append_own (P := P) w base t ty e i z R.n bytes ht hi hz hsz hby hzs hpos _ l.length css1.flatten hown ⟨b, off, none⟩ l2.length cap css.flatten hfl hnews hone h63 hbytes hbase
      have hgb := (hown'.lt g rfl)
      refine ⟨v', w', hr, ?_, (Below.refl _ w).grown h3 hbase (fun k hk => by simp [Value.ownBlock] at hk; omega), ⟨fun k hk hne => h3.block k hk (fun e => hne e.symm), fun k hk hne => h3.block k hk (fun e1 => ?_)⟩⟩
      rotate_left
      · simp [Value.ownBlock] at e1
        subst e1
        rcases hown'.2 with ⟨h6, _⟩ | ⟨g2, cap2, cur2, hv2, _, hg2, _⟩
        · injection h6 with h6; cases h6
        · injection hv2 with e1 _ _
          injection e1 with e1
          injection e1 with e1
          subst e1
          exact hne cur2 hg2
      have hxl := h2.1
      rcases h2.2 with ⟨_, h5⟩ | ⟨g', cap', cur, hv', hb', hg', hnc', hcm', hcs', htk'⟩
      · exact absurd (show l2.length = 0 by omega) h0
      · have hlen2 : (l ++ l2).length = l.length + l2.length := List.length_append
        refine .inr ⟨g', cap', css1 ++ css, by rw [hv', hlen2], ?_, by rw [List.length_append, hl1, hcl, hlen2], fun q h1 h2 => ?_⟩
        · rw [hlen2, List.flatten_append]
          exact ⟨hxl, .inr ⟨g', cap', cur, hv', hb', hg', hnc', hcm', hcs', htk'⟩⟩
        · -- where is the new block: the old one, or one that was not there
          have hwhere : g' = g ∨ w.heap.size ≤ g' := by
            by_cases hlt : g' < w.heap.size
            · left
              by_cases hroom : l.length + l2.length ≤ gcap
              · obtain ⟨_, h6⟩ := hown'
                rcases h6 with ⟨h7, _⟩ | ⟨g2, cap2, cur2, hv2, _, hg2, _, _, hcs2, _⟩
                · injection h7 with h7; cases h7
                · injection hv2 with e1 e2 e3
                  injection e1 with e1
                  injection e1 with e1
                  subst e1; subst e3
                  have hfit : l.length * i.size + css.flatten.length ≤ cur2.size := by rw [hfl, hsz, hcs2, ← Nat.add_mul]; exact Nat.mul_le_mul_right _ hroom
                  have hr2 := run_append_room (P := P) w t ty e i ht hi g l.length gcap cur2 hg2 ⟨b, off, none⟩ l2.length cap css.flatten (by rw [hsz]; exact hfl) hnews hone hroom hfit
                  rw [hr2] at hr
                  injection hr with hr3 hr4
                  rw [hv'] at hr3
                  injection hr3 with hr5
                  injection hr5 with hr5
                  injection hr5 with hr5
                  exact hr5.symm
              · have holds := hown'.cells (g := g) rfl
                have hr2 := run_append_grow (P := P) w t ty e i z ht hi hz ⟨g, 0, none⟩ l.length gcap css1.flatten (by rw [hown'.1, hsz]) holds ⟨b, off, none⟩ l2.length cap css.flatten (by rw [hsz]; exact hfl) hnews (by omega) (by simp only [maxLen] at h63; omega) (by rw [hby]; exact growslice_fits (by omega) hbytes)
                rw [hr2] at hr
                injection hr with hr3 hr4
                rw [hv'] at hr3
                injection hr3 with hr5
                injection hr5 with hr5
                injection hr5 with hr5
                omega
            · right; omega
          have hkeep : Keep (fun k => k ≠ g) w w' := ⟨h3.size, fun k hk hlt => h3.block k hlt (fun e => hk (by simp [Value.ownBlock] at e; exact e))⟩
          by_cases hi1 : q < l.length
          · have h6 := R.bound (hr1 q (by omega) hi1)
            have e1 : (css1 ++ css)[q] = css1[q]'(by omega) := List.getElem_append_left (by omega)
            have e2 : (l ++ l2)[q] = l[q] := List.getElem_append_left hi1
            rw [e1, e2]
            refine R.mono h6 (fun k hk => ⟨hk.1.1, ?_⟩) ⟨hkeep.1, fun k hk hlt => hkeep.2 k hk.1.2 hlt⟩
            rcases hwhere with rfl | hw
            · exact hk.1.2
            · omega
          · have h6 := R.bound (hx2 _ _ <| hrep (q - l.length) (by rw [List.length_append] at h1; omega) (by rw [hlen2] at h2; omega))
            have e1 : (css1 ++ css)[q] = css[q - l.length]'(by rw [List.length_append] at h1; omega) := by rw [List.getElem_append_right (by omega)]; simp only [hl1]
            have e2 : (l ++ l2)[q] = l2[q - l.length]'(by rw [hlen2] at h2; omega) := List.getElem_append_right (by omega)
            rw [e1, e2]
            have hne : ∀ k, (A k ∧ (Value.slice (some ⟨g, 0, none⟩) l.length gcap).ownBlock ≠ some k) ∧ k < w.heap.size → k ≠ g := fun k hk e => hk.1.2 (by simp [Value.ownBlock, e])
            refine R.mono h6 (fun k hk => ⟨hk.1.1, ?_⟩) ⟨hkeep.1, fun k hk hlt => hkeep.2 k (hne k hk) hlt⟩
            rcases hwhere with rfl | hw
            · exact hne k hk
            · omega

/-- the premise on the new elements: of a flat reading; of one that keeps clear of the owned block -/
theorem Rp.Flat.off {α : Type} {R : Rp α} (h : R.Flat) {A A2 : Nat → Prop} {w : World} {v : Value} : ∀ cs y, R.rep A2 w cs y → R.rep (fun k => A k ∧ v.ownBlock ≠ some k) w cs y := fun _ _ hr => h _ _ _ _ _ _ hr
theorem Rp.off {α : Type} {R : Rp α} {A A2 : Nat → Prop} {w : World} {v : Value} (hA : ∀ k, k < w.heap.size → A2 k → A k ∧ v.ownBlock ≠ some k) : ∀ cs y, R.rep A2 w cs y → R.rep (fun k => A k ∧ v.ownBlock ≠ some k) w cs y :=
  fun _ _ hr => R.mono (R.bound hr) (fun k hk => hA k hk.2 hk.1) (Keep.refl _ _)

/-- .. of a reading that was there before the owned block -/
theorem Rp.offNew {α : Type} {R : Rp α} {A : Nat → Prop} {w : World} (B n c : Nat) : ∀ cs y, R.rep (fun k => A k ∧ k < B) w cs y → R.rep (fun k => A k ∧ (Value.slice (some ⟨B, 0, none⟩) n c).ownBlock ≠ some k) w cs y :=
  fun _ _ hr => R.mono hr (fun k hk => ⟨hk.1, fun e => by simp [Value.ownBlock] at e; omega⟩) (Keep.refl _ _)

/-- the property that a flat owned slice needs of other blocks: none -/
def NoA : Nat → Prop := fun _ => False

theorem Ow.slF {α : Type} {R : Rp α} (hF : R.Flat) {A A' : Nat → Prop} {base : Nat} {e : TypeId} {w : World} {v : Value} {l : List α} (h : Ow R A base e w v l) (hb : ∀ k, base ≤ k → A' k) : slRep R A' w v l :=
  Ow.sl (h.flat hF (A' := NoA)) (fun _ h => h.elim) hb

/-- .. for the walk. -/
theorem wpList_app {P : Program} {ops : Array Oper} {rest : List Oper} {o : Oper} {a : Act} {w : World} {Q : Exit → Act → World → Prop} (hgd : o.guard = none) (s x : Operand) (t : TypeId)
    (ho : o.op = .call { callee := .builtin .append, args := #[s, x], argTypes := #[t, t] })
    {α : Type} (R : Rp α) (A : Nat → Prop) (base : Nat) {e : TypeId} {n bytes : Nat} (E : Elem P t e n bytes) (hn : R.n = n) (vs vx : Value) (l l2 : List α) (hs : a.eval s = vs) (hx : a.eval x = vx)
    (hown : Ow R A base e w vs l) (A2 : Nat → Prop) (hsrc : slRep R A2 w vx l2) (hx2 : ∀ cs y, R.rep A2 w cs y → R.rep (fun k => A k ∧ vs.ownBlock ≠ some k) w cs y)
    (h63 : l.length + l2.length ≤ maxLen) (hbytes : (l.length + l2.length) * bytes ≤ 140737488355328) (hbase : base ≤ w.heap.size)
    (h : ∀ v' w', Ow R A base e w' v' (l ++ l2) → Below base w w' → AppFrame e vs w w' → wpList P ops Q rest (a.put o.dst v') w') : wpList P ops Q (o :: rest) a w := by
  obtain ⟨v', w', hr, h2, h3, h4⟩ := run_app (P := P) o.type E hn hown hsrc hx2 h63 hbytes hbase
  refine wpList_plain hgd fun K hK => ?_
  unfold Oper.wp execOp
  simp only [ho, resolve, invoke, builtin, Sem.run_bind, Sem.run_pure, Result.andThen_ok, List.map_toArray, List.map_cons, List.map_nil, hs, hx, hr]
  exact hK _ _ (h v' w' h2 h3 h4)

theorem Ow.shape {α : Type} {R : Rp α} {A : Nat → Prop} {base : Nat} {e : TypeId} {w : World} {v : Value} {l : List α} (h : Ow R A base e w v l) (hp : 0 < l.length) : ∃ g cap, v = .slice (some ⟨g, 0, none⟩) l.length cap ∧ base ≤ g ∧ g < w.heap.size ∧ l.length ≤ cap ∧ cap ≤ maxLen := by
  rcases h with ⟨ao, rfl, rfl⟩ | ⟨g, cap, css, rfl, hown, hl, hr⟩
  · simp at hp
  · rcases hown.2 with ⟨h1, _⟩ | ⟨g', cap', cur, hv, hbase, hg, hnc, hcm, _⟩
    · injection h1 with h1; cases h1
    · injection hv with e1 e2 e3
      injection e1 with e1
      injection e1 with e1
      subst e1; subst e3
      exact ⟨g, cap, rfl, hbase, (Array.getElem?_eq_some_iff.1 hg).1, hnc, hcm⟩

theorem flat_set {css : List (List Value)} {n : Nat} (hn : 0 < n) (h : ∀ cs ∈ css, cs.length = n) (i j : Nat) (hi : i < css.length) (hj : j < n) (u : Value) : css.flatten.set (i * n + j) u = (css.set i (css[i].set j u)).flatten := by
  have h2 : ∀ cs ∈ css.set i (css[i].set j u), cs.length = n := by
    intro cs hcs
    rcases List.mem_or_eq_of_mem_set hcs with h3 | h3
    · exact h cs h3
    · rw [h3, List.length_set]; exact h _ (List.getElem_mem _)
  have hci := h _ (List.getElem_mem hi)
  apply List.ext_getElem?
  intro q
  rw [List.getElem?_set, flat_get hn h, flat_get hn h2, List.getElem?_set, flat_len h]
  have hlt : i * n + j < css.length * n := by
    have : (i + 1) * n ≤ css.length * n := Nat.mul_le_mul_right _ hi
    rw [Nat.add_mul] at this
    omega
  by_cases hq : i * n + j = q
  · subst hq
    have e1 : (i * n + j) / n = i := by rw [Nat.mul_comm, Nat.mul_add_div hn, Nat.div_eq_of_lt hj, Nat.add_zero]
    have e2 : (i * n + j) % n = j := by rw [Nat.mul_comm, Nat.mul_add_mod, Nat.mod_eq_of_lt hj]
    rw [if_pos rfl, if_pos hlt, e1, e2, if_pos rfl, if_pos hi]
    simp [hci, hj]
  · rw [if_neg hq]
    by_cases hi2 : i = q / n
    · rw [if_pos hi2, if_pos hi]
      have : css[q / n]? = some css[i] := by rw [← hi2, List.getElem?_eq_getElem hi]
      rw [this]
      simp only [Option.bind_some]
      rw [List.getElem?_set, if_neg]
      intro hj2
      apply hq
      have := Nat.div_add_mod q n
      rw [hi2, hj2, Nat.mul_comm]
      exact this
    · rw [if_neg hi2]

/-- one cell of an owned slice's element is written -/
theorem Ow.cell {α : Type} {R : Rp α} (hF : R.Flat) {A : Nat → Prop} {base : Nat} {e : TypeId} {w : World} {g n cap : Nat} {l : List α} (h : Ow R A base e w (.slice (some ⟨g, 0, none⟩) n cap) l) (i j : Nat) (hi : i < l.length) (hj : j < R.n) (u : Value) (x : α)
    (hx : ∀ cs, R.rep NoA w cs l[i] → R.rep NoA w (cs.set j u) x) : Ow R A base e (w.setCell ⟨g, i * R.n + j, none⟩ u) (.slice (some ⟨g, 0, none⟩) n cap) (l.set i x) ∧ Below base w (w.setCell ⟨g, i * R.n + j, none⟩ u) ∧ OnlyOf e w (w.setCell ⟨g, i * R.n + j, none⟩ u) := by
  rcases h with ⟨ao, h1, rfl⟩ | ⟨g', cap', css, hv, hown, hl, hr⟩
  · simp at hi
  · injection hv with e1 e2 e3
    injection e1 with e1
    injection e1 with e1
    subst e1; subst e2; subst e3
    have hlen : ∀ cs ∈ css, cs.length = R.n := by
      intro cs hcs
      obtain ⟨q, hq, rfl⟩ := List.getElem_of_mem hcs
      exact R.len (hr q hq (by omega))
    obtain ⟨h1, h2⟩ := hown.stored (i * R.n + j) u
    have hgb := hown.lt g rfl
    rw [flat_set (by omega) hlen i j (by omega) hj] at h1
    refine ⟨.inr ⟨g, cap, css.set i (css[i].set j u), by rw [List.length_set], by rw [List.length_set]; exact h1, by simpa using hl, fun q hq1 hq2 => ?_⟩, (Below.refl _ w).setCell (p := ⟨g, i * R.n + j, none⟩) hgb.1 u, fun k hk hne => ?_⟩
    · by_cases hqi : i = q
      · subst hqi
        simp only [List.getElem_set_self]
        exact hF _ _ _ _ _ _ (hx _ (hF _ _ _ _ _ _ (hr i (by omega) hi)))
      · simp only [List.getElem_set_ne hqi]
        exact hF _ _ _ _ _ _ (hr q (by simpa using hq1) (by simpa using hq2))
    · refine h2.block k hk (fun e1 => ?_)
      injection e1 with e1
      subst e1
      rcases hown.2 with ⟨h6, _⟩ | ⟨g2, cap2, cur2, hv2, _, hg2, _⟩
      · injection h6 with h6; cases h6
      · injection hv2 with e1 _ _
        injection e1 with e1
        injection e1 with e1
        subst e1
        exact hne cur2 hg2

/-- a row of cells by itself -/
def Rraw (n : Nat) : Rp (List Value) where
  n := n
  rep _ _ cs x := cs = x ∧ x.length = n ∧ ∀ c ∈ x, c.oneCell' = true
  len := fun h => by rw [h.1]; exact h.2.1
  one := fun h => by rw [h.1]; exact h.2.2
  mono := fun h _ _ => h
  bound := fun h => h
theorem Rraw.isFlat (n : Nat) : (Rraw n).Flat := fun _ _ _ _ _ _ h => h

theorem Ow.toRaw {α : Type} {R : Rp α} {A : Nat → Prop} {base : Nat} {e : TypeId} {w : World} {v : Value} {l : List α} (h : Ow R A base e w v l) : ∃ css : List (List Value), css.length = l.length ∧ (∀ i (h1 : i < css.length) (h2 : i < l.length), R.rep A w css[i] l[i]) ∧ Ow (Rraw R.n) NoA base e w v css := by
  rcases h with ⟨ao, rfl, rfl⟩ | ⟨g, cap, css, rfl, hown, hl, hr⟩
  · exact ⟨[], rfl, fun i h => by simp at h, Ow.nil _ _ _ _ _ _⟩
  · refine ⟨css, hl, fun i h1 h2 => R.mono (hr i h1 h2) (fun k hk => hk.1) (Keep.refl _ _), .inr ⟨g, cap, css, by rw [hl], ?_, rfl, fun i h1 h2 => ⟨rfl, R.len (hr i h1 (by omega)), R.one (hr i h1 (by omega))⟩⟩⟩
    rw [hl]; exact hown

theorem Ow.ofRaw {α : Type} {R : Rp α} (hF : R.Flat) {base : Nat} {e : TypeId} {w : World} {v : Value} {l : List α} {css : List (List Value)} (h : Ow (Rraw R.n) NoA base e w v css) (hl : css.length = l.length) (hr : ∀ i (h1 : i < css.length) (h2 : i < l.length), R.rep NoA w css[i] l[i]) : Ow R NoA base e w v l := by
  rcases h with ⟨ao, rfl, rfl⟩ | ⟨g, cap, css', rfl, hown, hl', hr'⟩
  · have : l = [] := List.eq_nil_of_length_eq_zero (by simpa using hl.symm)
    subst this
    exact Ow.nil _ _ _ _ _ _
  · have hcc : css' = css := by
      apply List.ext_getElem hl'
      intro i h1 h2
      exact (hr' i h1 h2).1
    subst hcc
    refine .inr ⟨g, cap, css', by rw [hl], ?_, hl, fun i h1 h2 => hF _ _ _ _ _ _ (hr i h1 h2)⟩
    rw [← hl]; exact hown

theorem OnlyOf.trans {e : TypeId} {x y z : World} (h1 : OnlyOf e x y) (h2 : OnlyOf e y z) (hs : x.heap.size ≤ y.heap.size) : OnlyOf e x z := fun k hk hne => by
  have h3 := h1 k hk hne
  rw [h2 k (by omega) (by rw [h3]; exact hne), h3]

theorem Ow.frozen {α : Type} {R : Rp α} {A : Nat → Prop} {base : Nat} {e : TypeId} {w : World} {g n cap : Nat} {l : List α} (h : Ow R A base e w (.slice (some ⟨g, 0, none⟩) n cap) l) (hp : 0 < l.length) (j : Nat) : w.frozen? ⟨g, j, none⟩ = false := by
  rcases h with ⟨ao, h1, rfl⟩ | ⟨g', cap', css, hv, hown, hl, hr⟩
  · simp at hp
  · injection hv with e1 e2 e3
    injection e1 with e1
    injection e1 with e1
    subst e1; subst e2; subst e3
    exact hown.frozenAt j

/-- a whole element of three cells is written -/
theorem Ow.set3 {α : Type} {R : Rp α} (hF : R.Flat) (hn : R.n = 3) {base : Nat} {e : TypeId} {w : World} {g n cap : Nat} {l : List α} (h : Ow R NoA base e w (.slice (some ⟨g, 0, none⟩) n cap) l) (i : Nat) (hi : i < l.length) (a b c : Value) (x : α) (hx : R.rep NoA w [a, b, c] x) :
    Ow R NoA base e (((w.setCell ⟨g, i * 3, none⟩ a).setCell ⟨g, i * 3 + 1, none⟩ b).setCell ⟨g, i * 3 + 2, none⟩ c) (.slice (some ⟨g, 0, none⟩) n cap) (l.set i x) ∧ Below base w (((w.setCell ⟨g, i * 3, none⟩ a).setCell ⟨g, i * 3 + 1, none⟩ b).setCell ⟨g, i * 3 + 2, none⟩ c) ∧ OnlyOf e w (((w.setCell ⟨g, i * 3, none⟩ a).setCell ⟨g, i * 3 + 1, none⟩ b).setCell ⟨g, i * 3 + 2, none⟩ c) := by
  have h1c := R.one hx
  obtain ⟨css, hcl, hcr, hraw⟩ := h.toRaw
  rw [hn] at hraw
  have hraw' : Ow (Rraw 3) NoA base e w (.slice (some ⟨g, 0, none⟩) n cap) css := hraw
  have hraw0 : ∃ c0 c1 c2, css[i]'(by omega) = [c0, c1, c2] := by
    have := R.len (hcr i (by omega) hi)
    rw [hn] at this
    match css[i]'(by omega), this with
    | [c0, c1, c2], _ => exact ⟨c0, c1, c2, rfl⟩
  obtain ⟨c0, c1, c2, hc⟩ := hraw0
  have step : ∀ (w : World) (css : List (List Value)) (j : Nat) (u : Value) (d0 d1 d2 : Value) (hi : i < css.length), Ow (Rraw 3) NoA base e w (.slice (some ⟨g, 0, none⟩) n cap) css → css[i] = [d0, d1, d2] → j < 3 → u.oneCell' = true →
      Ow (Rraw 3) NoA base e (w.setCell ⟨g, i * 3 + j, none⟩ u) (.slice (some ⟨g, 0, none⟩) n cap) (css.set i ([d0, d1, d2].set j u)) ∧ Below base w (w.setCell ⟨g, i * 3 + j, none⟩ u) ∧ OnlyOf e w (w.setCell ⟨g, i * 3 + j, none⟩ u) := by
    intro w css j u d0 d1 d2 hi h hd hj hu
    have := Ow.cell (Rraw.isFlat 3) h i j hi hj u ([d0, d1, d2].set j u) (fun cs hcs => by
      rw [hd] at hcs
      obtain ⟨rfl, h1, h2⟩ := hcs
      refine ⟨rfl, by rw [List.length_set]; exact h1, fun c hc => ?_⟩
      rcases List.mem_or_eq_of_mem_set hc with h3 | h3
      · exact h2 c h3
      · rw [h3]; exact hu)
    exact this
  obtain ⟨s1, b1, t1⟩ := step w css 0 a c0 c1 c2 (by omega) hraw' hc (by omega) (h1c a (by simp))
  obtain ⟨s2, b2, t2⟩ := step _ _ 1 b a c1 c2 (by simp; omega) s1 (by simp) (by omega) (h1c b (by simp))
  obtain ⟨s3, b3, t3⟩ := step _ _ 2 c a b c2 (by simp; omega) s2 (by simp) (by omega) (h1c c (by simp))
  refine ⟨Ow.ofRaw hF (css := css.set i [a, b, c]) ?_ (by simpa using hcl) (fun q h1 h2 => ?_), (b1.trans b2).trans b3, (t1.trans t2 b1.size).trans t3 (b1.trans b2).size⟩
  · rw [hn]
    simpa using s3
  · by_cases hq : i = q
    · subst hq
      simp only [List.getElem_set_self]
      exact hF _ _ _ _ _ _ hx
    · simp only [List.getElem_set_ne hq]
      exact hF _ _ _ _ _ _ (hcr q (by simpa using h1) (by simpa using h2))

theorem subA_zero (ao : Option Addr) (cap n : Nat) : subA ao cap 0 n = ao := by
  unfold subA
  split
  · rfl
  · cases ao <;> simp [Addr.add]

/-- the beginning of an owned slice is owned -/
theorem Ow.take {α : Type} {R : Rp α} {A : Nat → Prop} {base : Nat} {e : TypeId} {w : World} {g n cap : Nat} {l : List α} (h : Ow R A base e w (.slice (some ⟨g, 0, none⟩) n cap) l) (k : Nat) (hk : k ≤ l.length) : Ow R A base e w (.slice (some ⟨g, 0, none⟩) k cap) (l.take k) := by
  rcases h with ⟨ao, h1, rfl⟩ | ⟨g', cap', css, hv, hown, hl, hr⟩
  · injection h1 with e1 e2 e3
    subst e2; subst e3
    have : k = 0 := by simpa using hk
    subst this
    exact Ow.nil _ _ _ _ _ _
  · injection hv with e1 e2 e3
    injection e1 with e1
    injection e1 with e1
    subst e1; subst e2; subst e3
    have hlen : ∀ cs ∈ css, cs.length = R.n := by
      intro cs hcs
      obtain ⟨q, hq, rfl⟩ := List.getElem_of_mem hcs
      exact R.len (hr q hq (by omega))
    have hkl : (l.take k).length = k := by rw [List.length_take]; omega
    have hfl : ∀ (css : List (List Value)) (k n : Nat), (∀ cs ∈ css, cs.length = n) → k ≤ css.length → (css.take k).flatten = css.flatten.take (k * n) := by
      intro css
      induction css with
      | nil => intro k n _ hk; simp
      | cons c css ih =>
        intro k n hc hk
        cases k with
        | zero => simp
        | succ k =>
          have hcl := hc c (by simp)
          rw [List.take_succ_cons, List.flatten_cons, List.flatten_cons, ih k n (fun cs h => hc cs (by simp [h])) (by simpa using hk), Nat.add_mul, Nat.one_mul, Nat.add_comm (k * n) n, ← hcl]
          rw [List.take_append, List.take_of_length_le (show c.length ≤ c.length + k * c.length by omega)]
          congr 1
          simp
    refine .inr ⟨g, cap, css.take k, by rw [hkl], ⟨by rw [flat_len (n := R.n) (fun cs hcs => hlen cs (List.mem_of_mem_take hcs)), hkl, List.length_take]; congr 1; omega, ?_⟩, by rw [List.length_take, hkl]; omega, fun i h1 h2 => ?_⟩
    · rcases hown.2 with ⟨h1, _⟩ | ⟨g2, cap2, cur, hv, hbase, hg, hnc, hcm, hcs, htk⟩
      · injection h1 with h1; cases h1
      · injection hv with e1 e2 e3
        injection e1 with e1
        injection e1 with e1
        subst e1; subst e3
        refine .inr ⟨g, cap, cur, by rw [hkl], hbase, hg, by omega, hcm, hcs, ?_⟩
        rw [hkl, hfl css k R.n hlen (by omega), ← htk, List.take_take]
        congr 1
        exact (Nat.min_eq_left (Nat.mul_le_mul_right _ hk)).symm
    · have := hr i (by rw [List.length_take] at h1; omega) (by rw [hkl] at h2; omega)
      simpa using this

/-- an append for which there is room stays where it is -/
theorem run_app_room {P : Program} {α : Type} {R : Rp α} {A : Nat → Prop} {base : Nat} {t e : TypeId} {n bytes : Nat} {w : World} {x : Value} {g m cap : Nat} {l l2 : List α} (ty : TypeId) (E : Elem P t e n bytes) (hn : R.n = n)
    (h : Ow R A base e w (.slice (some ⟨g, 0, none⟩) m cap) l) {A2 : Nat → Prop} (hx : slRep R A2 w x l2) (hroom : l.length + l2.length ≤ cap) {v' : Value} {w' : World} (hr : (Builtin.append_ #[t, t] ty #[.slice (some ⟨g, 0, none⟩) m cap, x]).run P w = .ok v' w') : v' = .slice (some ⟨g, 0, none⟩) (l.length + l2.length) cap := by
  obtain ⟨ht, ⟨i, z, hi, hz, hsz, hby, hzs⟩, hpos⟩ := E
  subst hn
  obtain ⟨ao, b0, o0, cap2, rfl, _⟩ := id hx
  obtain ⟨css, _, hcl, hrep, hsrc⟩ := hx.rows
  have hlen : ∀ cs ∈ css, cs.length = R.n := by
    intro cs hcs
    obtain ⟨q, hq, rfl⟩ := List.getElem_of_mem hcs
    exact R.len (hrep q hq (by omega))
  have hone : ∀ u ∈ css.flatten, u.oneCell' = true := by
    intro u hu
    obtain ⟨cs, hcs, huc⟩ := List.mem_flatten.1 hu
    obtain ⟨q, hq, rfl⟩ := List.getElem_of_mem hcs
    exact R.one (hrep q hq (by omega)) u huc
  have hfl := flat_len hlen
  rw [hcl] at hfl
  have hm : m = l.length := by
    obtain ⟨_, _, h1, _⟩ := h.len_le
    injection h1
  subst hm
  by_cases h0 : l2.length = 0
  · have hl2 : l2 = [] := List.eq_nil_of_length_eq_zero h0
    subst hl2
    simp only [List.length_nil, Nat.add_zero] at hroom
    have : (Builtin.append_ #[t, t] ty #[.slice (some ⟨g, 0, none⟩) l.length cap, .slice ao 0 cap2]).run P w = .ok (.slice (some ⟨g, 0, none⟩) l.length cap) w := by
      cases ao <;> simp [Builtin.append_, run_underlying ht, sizeOf, typeInfo, hi, Builtin.lenOf, Builtin.firstCells, loadCells, loadCellsFrom, storeCells, hroom]
    simp only [List.length_nil] at hr
    rw [this] at hr
    injection hr with hr _
    rw [← hr]; simp
  · obtain ⟨b, off, rfl, hAb, hblt, hcells⟩ := hsrc (by omega)
    have hnews := hcells hpos
    rcases h with ⟨ao', h1, rfl⟩ | ⟨g', gcap, css1, hv, hown, hl1, hr1⟩
    · injection h1 with _ _ e3
      subst e3
      simp at hroom
      exact absurd (by simpa using congrArg List.length hroom) h0
    · injection hv with e1 e2 e3
      injection e1 with e1
      injection e1 with e1
      subst e1; subst e3
      rcases hown.2 with ⟨h7, _⟩ | ⟨g2, cap3, cur2, hv2, _, hg2, _, _, hcs2, _⟩
      · injection h7 with h7; cases h7
      · injection hv2 with e1 e2 e3
        injection e1 with e1
        injection e1 with e1
        subst e1; subst e3
        have hfit : l.length * i.size + css.flatten.length ≤ cur2.size := by rw [hfl, hsz, hcs2, ← Nat.add_mul]; exact Nat.mul_le_mul_right _ hroom
        have hr2 := run_append_room (P := P) w t ty e i ht hi g l.length cap cur2 hg2 ⟨b, off, none⟩ l2.length cap2 css.flatten (by rw [hsz]; exact hfl) hnews hone hroom hfit
        rw [hr2] at hr
        injection hr with hr3 _
        exact hr3.symm

theorem wpList_app_room {P : Program} {ops : Array Oper} {rest : List Oper} {o : Oper} {a : Act} {w : World} {Q : Exit → Act → World → Prop} (hgd : o.guard = none) (s x : Operand) (t : TypeId)
    (ho : o.op = .call { callee := .builtin .append, args := #[s, x], argTypes := #[t, t] })
    {α : Type} (R : Rp α) (A : Nat → Prop) (base : Nat) {e : TypeId} {n bytes : Nat} (E : Elem P t e n bytes) (hn : R.n = n) (g m cap : Nat) (vx : Value) (l l2 : List α) (hs : a.eval s = .slice (some ⟨g, 0, none⟩) m cap) (hx : a.eval x = vx)
    (hown : Ow R A base e w (.slice (some ⟨g, 0, none⟩) m cap) l) (A2 : Nat → Prop) (hsrc : slRep R A2 w vx l2) (hx2 : ∀ cs y, R.rep A2 w cs y → R.rep (fun k => A k ∧ (Value.slice (some ⟨g, 0, none⟩) m cap).ownBlock ≠ some k) w cs y)
    (hroom : l.length + l2.length ≤ cap) (h63 : l.length + l2.length ≤ maxLen) (hbytes : (l.length + l2.length) * bytes ≤ 140737488355328) (hbase : base ≤ w.heap.size)
    (h : ∀ w', Ow R A base e w' (.slice (some ⟨g, 0, none⟩) (l.length + l2.length) cap) (l ++ l2) → Below base w w' → AppFrame e (.slice (some ⟨g, 0, none⟩) m cap) w w' → wpList P ops Q rest (a.put o.dst (.slice (some ⟨g, 0, none⟩) (l.length + l2.length) cap)) w') : wpList P ops Q (o :: rest) a w := by
  obtain ⟨v', w', hr, h2, h3, h4⟩ := run_app (P := P) o.type E hn hown hsrc hx2 h63 hbytes hbase
  obtain rfl := run_app_room o.type E hn hown hsrc hroom hr
  refine wpList_plain hgd fun K hK => ?_
  unfold Oper.wp execOp
  simp only [ho, resolve, invoke, builtin, Sem.run_bind, Sem.run_pure, Result.andThen_ok, List.map_toArray, List.map_cons, List.map_nil, hs, hx, hr]
  exact hK _ _ (h w' h2 h3 h4)

/-- a cell behind an owned slice's end is written -/
theorem Ow.tail {α : Type} {R : Rp α} {A : Nat → Prop} {base : Nat} {e : TypeId} {w : World} {g n cap : Nat} {l : List α} (hF : R.Flat) (h : Ow R A base e w (.slice (some ⟨g, 0, none⟩) n cap) l) (hb : base ≤ g) (p : Nat) (hp : l.length * R.n ≤ p) (u : Value) :
    Ow R A base e (w.setCell ⟨g, p, none⟩ u) (.slice (some ⟨g, 0, none⟩) n cap) l ∧ Below base w (w.setCell ⟨g, p, none⟩ u) := by
  refine ⟨?_, (Below.refl _ w).setCell (p := ⟨g, p, none⟩) hb u⟩
  rcases h with ⟨ao, h1, rfl⟩ | ⟨g', cap', css, hv, hown, hl, hr⟩
  · injection h1 with _ e2 e3
    subst e2; subst e3
    exact Ow.nil _ _ _ _ _ _
  · injection hv with e1 e2 e3
    injection e1 with e1
    injection e1 with e1
    subst e1; subst e2; subst e3
    obtain ⟨h1, h2⟩ := hown.stored p u
    rw [List.set_eq_of_length_le (by rw [hown.1]; exact hp)] at h1
    exact .inr ⟨g, cap, css, rfl, h1, hl, fun i a b => hF _ _ _ _ _ _ (hr i a b)⟩

theorem zeroCells_one {z : Array Value} (h : ∀ c ∈ z, c.oneCell' = true) (n : Nat) : ∀ c ∈ (Builtin.zeroCells z n).toList, c.oneCell' = true := by
  intro c hc
  simp only [Builtin.zeroCells, Array.toList_map, List.mem_map] at hc
  obtain ⟨i, hi, rfl⟩ := hc
  have hpos : 0 < z.size := by
    rw [Array.mem_toList_iff, Array.mem_range] at hi
    exact Nat.pos_of_ne_zero (fun h0 => by rw [h0, Nat.mul_zero] at hi; omega)
  have hlt := Nat.mod_lt i hpos
  rw [getElem!_pos z (i % z.size) hlt]
  exact h _ (Array.getElem_mem hlt)

/-- clear of what lies behind an owned slice's end -/
theorem run_clear {P : Program} {α : Type} {R : Rp α} (hF : R.Flat) {A : Nat → Prop} {base : Nat} {t e : TypeId} {n bytes : Nat} {w : World} {g m cap k c : Nat} {l : List α} (ty : TypeId) (E : Elem P t e n bytes) (hn : R.n = n)
    (hone : ∀ i z, P.info? e = some i → i.zero = some z → ∀ c ∈ z.cells, c.oneCell' = true)
    (h : Ow R A base e w (.slice (some ⟨g, 0, none⟩) m cap) l) (hb : base ≤ g) (hc : 0 < cap) (hk : l.length + k ≤ cap) (p : Nat) (hp : p = l.length * n) :
    ∃ w', (Builtin.clear_ #[t] ty #[.slice (some ⟨g, p, none⟩) k c]).run P w = .ok (.tuple #[]) w' ∧ Ow R A base e w' (.slice (some ⟨g, 0, none⟩) m cap) l ∧ Below base w w' ∧ OnlyOf e w w' := by
  obtain ⟨ht, ⟨i, z, hi, hz, hsz, hby, hzs⟩, hpos⟩ := E
  subst hn
  subst hp
  by_cases hk0 : k = 0
  · subst hk0
    refine ⟨w, ?_, h, Below.refl _ _, fun _ _ _ => rfl⟩
    simp [Builtin.clear_, run_underlying ht]
  · rcases h with ⟨ao', h1, rfl⟩ | ⟨g', gcap, css, hv, hown, hl, hr⟩
    · injection h1 with _ _ e3
      omega
    · injection hv with e1 e2 e3
      injection e1 with e1
      injection e1 with e1
      subst e1; subst e2; subst e3
      rcases hown.2 with ⟨h7, _⟩ | ⟨g2, cap3, cur, hv2, hbase, hg2, hnc, hcm, hcs, htk⟩
      · injection h7 with h7; cases h7
      · injection hv2 with e1 e2 e3
        injection e1 with e1
        injection e1 with e1
        subst e1; subst e3
        have hzl : (Builtin.zeroCells z.cells k).toList.length = k * R.n := by rw [Array.length_toList, size_zeroCells, hzs]
        have hfit : l.length * R.n + k * R.n ≤ cur.size := by rw [hcs, ← Nat.add_mul]; exact Nat.mul_le_mul_right _ hk
        have hst := run_storeCells_at P g (l.length * R.n) e (Builtin.zeroCells z.cells k).toList 0 cur w hg2 (by rw [hzl]; simpa using hfit) (zeroCells_one (hone i z hi hz) k)
        simp only [Nat.add_zero] at hst
        have hz0 : (zeroValue e).run P w = .ok z w := by simp [zeroValue, typeInfo, hi, hz]
        generalize hrow : (cur.toList.take (l.length * R.n) ++ (Builtin.zeroCells z.cells k).toList ++ cur.toList.drop (l.length * R.n + (Builtin.zeroCells z.cells k).toList.length)) = row at hst
        have hrl : row.length = cur.size := by
          rw [← hrow]
          simp only [List.length_append, List.length_take, List.length_drop, Array.length_toList, size_zeroCells, hzs]
          omega
        have hrt : row.take (l.length * R.n) = css.flatten := by
          rw [← hrow, List.append_assoc, List.take_append_of_le_length (by rw [List.length_take, show cur.toList.length = cur.size from Array.length_toList]; omega), List.take_take, Nat.min_self]
          exact htk
        refine ⟨w.setRow g row.toArray, ?_, .inr ⟨g, cap, css, rfl, ⟨hown.1, .inr ⟨g, cap, row.toArray, rfl, hbase, setRow_heap w g cur _ e _ hg2, hnc, hcm, by rw [List.size_toArray, hrl]; exact hcs, hrt⟩⟩, hl, fun i a b => hF _ _ _ _ _ _ (hr i a b)⟩, ⟨rfl, rfl, rfl, by simp [World.setRow], fun q hq => setRow_other w g q _ (by omega)⟩, fun q hq hne => ?_⟩
        · obtain ⟨k', rfl⟩ : ∃ k', k = k' + 1 := ⟨k - 1, by omega⟩
          simp [Builtin.clear_, run_underlying ht, hz0, hst]
        · refine setRow_other w g q _ (fun e1 => ?_)
          subst e1
          exact hne cur hg2

/-- ints -/
def RI : Rp Int := Rp.flat 1 i64ok (fun x => [.int .i64 x]) (fun _ => rfl) (fun x c hc => by simp at hc; rw [hc]; rfl)
theorem RI.isFlat : RI.Flat := Rp.flat_flat _ _ _ _ _

/-- unsigned words, strings, bools, bytes -/
def RU : Rp Nat := Rp.flat 1 (fun x => x < 18446744073709551616) (fun x => [.int .u64 x]) (fun _ => rfl) (fun x c hc => by simp at hc; rw [hc]; rfl)
theorem RU.isFlat : RU.Flat := Rp.flat_flat _ _ _ _ _
def RS : Rp ByteArray := Rp.flat 1 (fun x => x.size ≤ maxLen) (fun x => [.string x]) (fun _ => rfl) (fun x c hc => by simp at hc; rw [hc]; rfl)
theorem RS.isFlat : RS.Flat := Rp.flat_flat _ _ _ _ _
def RBo : Rp Bool := Rp.flat 1 (fun _ => True) (fun x => [.bool x]) (fun _ => rfl) (fun x c hc => by simp at hc; rw [hc]; rfl)
theorem RBo.isFlat : RBo.Flat := Rp.flat_flat _ _ _ _ _
def RB8 : Rp Nat := Rp.flat 1 (fun x => x < 256) (fun x => [.int .u8 x]) (fun _ => rfl) (fun x c hc => by simp at hc; rw [hc]; rfl)
theorem RB8.isFlat : RB8.Flat := Rp.flat_flat _ _ _ _ _

/-- An owned slice of a flat reading, behind what turns rows of another element type alone. -/
theorem Ow.other {α : Type} {R : Rp α} (hF : R.Flat) {A : Nat → Prop} {base : Nat} {e e2 : TypeId} {w w' : World} {v : Value} {l : List α} (h : Ow R A base e w v l) (hk : OnlyOf e2 w w') (hne : e ≠ e2) : Ow R A base e w' v l := by
  rcases h with ⟨ao, rfl, rfl⟩ | ⟨g, cap, css, rfl, hown, hl, hr⟩
  · exact Ow.nil _ _ _ _ _ _
  · refine .inr ⟨g, cap, css, rfl, ⟨hown.1, ?_⟩, hl, fun i h1 h2 => hF _ _ _ _ _ _ (hr i h1 h2)⟩
    rcases hown.2 with h1 | ⟨g', cap', cur, hv, hbase, hg, rest⟩
    · exact .inl h1
    · refine .inr ⟨g', cap', cur, hv, hbase, (hk g' (Array.getElem?_eq_some_iff.1 hg).1 (fun c hc => ?_)).trans hg, rest⟩
      rw [hg] at hc
      injection hc with hc
      injection hc with _ hc _
      exact hne hc

end Go.Proofs.Ytmdoimpeacndaaa
