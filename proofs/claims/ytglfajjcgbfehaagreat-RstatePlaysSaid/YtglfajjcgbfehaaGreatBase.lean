/- How Go data lie in memory as plain data: readings of cells, slices, owned slices; laws of append and of frames. No program is named here. -/
import Derived.WalkKit
import Derived.ProofKit
import Derived.LoopTactic
import Derived.Lib.Hide
import Derived.Deep.Slices
import Derived.Carry
import Derived.WalkLawsBesides
import Derived.WalkSpells
import Derived.Outline
import Derived.Deep.DeepCutAuto
namespace Go.Proofs.YtglfajjcgbfehaaGreat
open Go.RowKit

def AnyA : Nat → Prop := fun _ => True

/-- Blocks that are there stay as they are where 'A' says so. -/
def Keep (A : Nat → Prop) (w w' : World) : Prop := w.heap.size ≤ w'.heap.size ∧ ∀ k, A k → k < w.heap.size → w'.heap[k]? = w.heap[k]?

theorem Keep.below {A : Nat → Prop} {w w' : World} (h : Below w.heap.size w w') : Keep A w w' := ⟨h.size, fun k _ hk => h.block k hk⟩

theorem Keep.refl (A : Nat → Prop) (w : World) : Keep A w w := ⟨Nat.le_refl _, fun _ _ _ => rfl⟩

/-- How the cells of a Go type read as a plain value: 'A' holds of every block that the reading passes through. -/
structure Rp (α : Type) where
 n : Nat
 rep : (Nat → Prop) → World → List Value → α → Prop
 len : ∀ {A w cs x}, rep A w cs x → cs.length = n
 one : ∀ {A w cs x}, rep A w cs x → ∀ c ∈ cs, c.oneCell' = true
 mono : ∀ {A A' : Nat → Prop} {w w' cs x}, rep A w cs x → (∀ k, A k → A' k) → Keep A w w' → rep A' w' cs x
 bound : ∀ {A w cs x}, rep A w cs x → rep (fun k => A k ∧ k < w.heap.size) w cs x

/-- A reading that passes through no block. -/
def Rp.Flat {α : Type} (R : Rp α) : Prop := ∀ (A A' : Nat → Prop) (w w' : World) (cs : List Value) (x : α), R.rep A w cs x → R.rep A' w' cs x

/-- A flat reading by the list of cells. -/
def Rp.flat {α : Type} (n : Nat) (ok : α → Prop) (enc : α → List Value) (hl : ∀ x, (enc x).length = n) (h1 : ∀ x, ∀ c ∈ enc x, c.oneCell' = true) : Rp α where
 n := n
 rep _ _ cs x := cs = enc x ∧ ok x
 len := fun h => by rw [h.1, hl]
 one := fun h => by rw [h.1]; exact h1 _
 mono := fun h _ _ => h
 bound := fun h => h

theorem Rp.flat_flat {α : Type} (n : Nat) (ok : α → Prop) (enc : α → List Value) (hl h1) : (Rp.flat n ok enc hl h1).Flat := fun _ _ _ _ _ _ h => h

/-- A slice's value reads as a list. -/
def slRep {α : Type} (R : Rp α) (A : Nat → Prop) (w : World) (v : Value) (l : List α) : Prop :=
 ∃ (ao : Option Addr) (b off cap : Nat), v = .slice ao l.length cap ∧ l.length ≤ cap ∧ cap ≤ maxLen ∧ (0 < l.length → ao = some ⟨b, off, none⟩ ∧ A b ∧ b < w.heap.size) ∧
  ∀ i (h : i < l.length), ∃ cs, R.rep A w cs l[i] ∧ ∀ j (hj : j < cs.length), w.cell? ⟨b, off + i * R.n + j, none⟩ = some cs[j]

theorem slRep.mono {α : Type} {R : Rp α} {A A' : Nat → Prop} {w w' : World} {v : Value} {l : List α} (h : slRep R A w v l) (hA : ∀ k, A k → A' k) (hk : Keep A w w') : slRep R A' w' v l := by
 obtain ⟨ao, b, off, cap, hv, hc, hm, hb, hx⟩ := h
 refine ⟨ao, b, off, cap, hv, hc, hm, fun h0 => ?_, fun i hi => ?_⟩
 ·obtain ⟨h1, h2, h3⟩ := hb h0
  exact ⟨h1, hA _ h2, Nat.lt_of_lt_of_le h3 hk.1⟩
 ·obtain ⟨cs, hr, hcs⟩ := hx i hi
  obtain ⟨_, h2, h3⟩ := hb (by omega)
  refine ⟨cs, R.mono hr hA hk, fun j hj => ?_⟩
  rw [World.cell?_of_block (w := w) (hk.2 b h2 h3)]
  exact hcs j hj

theorem slRep.bound {α : Type} {R : Rp α} {A : Nat → Prop} {w : World} {v : Value} {l : List α} (h : slRep R A w v l) : slRep R (fun k => A k ∧ k < w.heap.size) w v l := by
 obtain ⟨ao, b, off, cap, hv, hc, hm, hb, hx⟩ := h
 refine ⟨ao, b, off, cap, hv, hc, hm, fun h0 => ?_, fun i hi => ?_⟩
 ·obtain ⟨h1, h2, h3⟩ := hb h0
  exact ⟨h1, ⟨h2, h3⟩, h3⟩
 ·obtain ⟨cs, hr, hcs⟩ := hx i hi
  exact ⟨cs, R.bound hr, hcs⟩

theorem slRep.one {α : Type} {R : Rp α} {A : Nat → Prop} {w : World} {v : Value} {l : List α} (h : slRep R A w v l) : v.oneCell' = true := by
 obtain ⟨ao, b, off, cap, rfl, _⟩ := h; rfl

/-- A slice as the one cell of a field or an element. -/
def RSl {α : Type} (R : Rp α) : Rp (List α) where
 n := 1
 rep A w cs l := ∃ v, cs = [v] ∧ slRep R A w v l
 len := fun ⟨_, h, _⟩ => by rw [h]; rfl
 one := fun ⟨v, h, hs⟩ c hc => by
  obtain ⟨ao, b, off, cap, rfl, _⟩ := hs
  rw [h] at hc
  simp only [List.mem_singleton] at hc
  rw [hc]; rfl
 mono := fun ⟨v, h, hs⟩ hA hk => ⟨v, h, hs.mono hA hk⟩
 bound := fun ⟨v, h, hs⟩ => ⟨v, h, hs.bound⟩

/-- The nil slice, and any slice of no room. -/
theorem slRep.nil {α : Type} (R : Rp α) (A : Nat → Prop) (w : World) (ao : Option Addr) (cap : Nat) (hc : cap ≤ maxLen) : slRep R A w (.slice ao 0 cap) [] :=
 ⟨ao, 0, 0, cap, rfl, Nat.zero_le _, hc, fun h => absurd h (Nat.lt_irrefl _), fun i h => absurd h (Nat.not_lt_zero i)⟩

/-- A part of a slice. -/
theorem slRep.part {α : Type} {R : Rp α} {A : Nat → Prop} {w : World} {ao : Option Addr} {n cap : Nat} {l : List α} (h : slRep R A w (.slice ao n cap) l) (i j : Nat) (hij : i ≤ j) (hj : j ≤ l.length) :
  slRep R A w (.slice (if cap = i then ao else ao.map (·.add (i * R.n))) (j - i) (cap - i)) ((l.take j).drop i) := by
 obtain ⟨ao', b, off, cap', hv, hc, hm, hb, hx⟩ := h
 injection hv with e1 e2 e3
 subst e1; subst e2; subst e3
 have hlen : ((l.take j).drop i).length = j - i := by rw [List.length_drop, List.length_take]; omega
 refine ⟨_, b, off + i * R.n, cap - i, by rw [hlen], by rw [hlen]; omega, by omega, fun h0 => ?_, fun k hk => ?_⟩
 ·rw [hlen] at h0
  obtain ⟨h1, h2, h3⟩ := hb (by omega)
  refine ⟨?_, h2, h3⟩
  rw [if_neg (by omega), h1]
  simp only [Option.map_some, Addr.add]
  split
  ·rename_i h; simp [h]
  ·rfl
 ·rw [hlen] at hk
  obtain ⟨cs, hr, hcs⟩ := hx (i + k) (by omega)
  refine ⟨cs, ?_, fun q hq => ?_⟩
  ·have : ((l.take j).drop i)[k]'(by rw [hlen]; exact hk) = l[i + k]'(by omega) := by simp
   rw [this]; exact hr
  ·have := hcs q hq
   rw [Nat.add_mul] at this
   rw [show off + i * R.n + k * R.n + q = off + (i * R.n + k * R.n) + q by omega]
   exact this

/-- the address of a part, as the model has it -/
def subA (ao : Option Addr) (cap i n : Nat) : Option Addr := if cap = i then ao else ao.map (·.add (i * n))

theorem slRep.sub {α : Type} {R : Rp α} {A : Nat → Prop} {w : World} {ao : Option Addr} {n cap : Nat} {l : List α} (h : slRep R A w (.slice ao n cap) l) (k i j : Nat) (hk : R.n = k) (hij : i ≤ j) (hj : j ≤ l.length) :
  slRep R A w (.slice (subA ao cap i k) (j - i) (cap - i)) ((l.take j).drop i) := by
 subst hk
 exact h.part i j hij hj

/-- s[i:], s[:j], s[i:j] by one equation each, the address behind a name -/
theorem run_sub_from {P : Program} {t e : TypeId} {k : Nat} (ht : P.underlying t = some (.slice e)) (hs : (P.info? e).map (·.size) = some k) (ao : Option Addr) (len cap i : Nat) (x : Int) (hx : x = i) (hi : i ≤ len) (hc : len ≤ cap) (w : World) :
  (Instr.slice t (.slice ao len cap) (some (.int .i64 x)) none none).run P w = .ok (.slice (subA ao cap i k) (len - i) (cap - i)) w := by
 subst hx
 obtain ⟨info, hi1, hi2⟩ := Option.map_eq_some_iff.1 hs
 simp [Instr.slice, run_underlying ht, Instr.sliceBounds, Instr.sliceBound, asIntOf, sizeOf, typeInfo, hi1, hi2, subA, hi]

theorem run_sub_to {P : Program} {t e : TypeId} {k : Nat} (ht : P.underlying t = some (.slice e)) (hs : (P.info? e).map (·.size) = some k) (ao : Option Addr) (len cap j : Nat) (x : Int) (hx : x = j) (hj : j ≤ cap) (w : World) :
  (Instr.slice t (.slice ao len cap) none (some (.int .i64 x)) none).run P w = .ok (.slice (subA ao cap 0 k) j cap) w := by
 subst hx
 obtain ⟨info, hi1, hi2⟩ := Option.map_eq_some_iff.1 hs
 simp [Instr.slice, run_underlying ht, Instr.sliceBounds, Instr.sliceBound, asIntOf, sizeOf, typeInfo, hi1, hi2, subA, hj]

/-- Cells of rows of one width, by the place. -/
theorem flat_get {css : List (List Value)} {n : Nat} (hn : 0 < n) (h : ∀ cs ∈ css, cs.length = n) : ∀ j, css.flatten[j]? = (css[j / n]?).bind (·[j % n]?) := by
 induction css with
 | nil => intro j; simp
 | cons c css ih =>
  intro j
  have hc : c.length = n := h c (by simp)
  have ih' := ih (fun cs hcs => h cs (by simp [hcs]))
  rw [List.flatten_cons]
  by_cases hj : j < n
  ·rw [List.getElem?_append_left (by omega), Nat.div_eq_of_lt hj, Nat.mod_eq_of_lt hj]
   rfl
  ·rw [List.getElem?_append_right (by omega), hc, ih' (j - n)]
   have e1 : j / n = (j - n) / n + 1 := by
    have := Nat.div_eq_sub_div hn (show n ≤ j by omega)
    exact this
   have e2 : j % n = (j - n) % n := by
    exact Nat.mod_eq_sub_mod (by omega)
   rw [e1, e2, List.getElem?_cons_succ]

theorem flat_len {css : List (List Value)} {n : Nat} (h : ∀ cs ∈ css, cs.length = n) : css.flatten.length = css.length * n := by
 induction css with
 | nil => simp
 | cons c css ih =>
  rw [List.flatten_cons, List.length_append, h c (by simp), ih (fun cs hcs => h cs (by simp [hcs])), List.length_cons, Nat.add_mul]
  omega

/-- AN OWNED SLICE: nothing that it may write was there below 'base'; its elements' readings stay clear of its own block. -/
def Ow {α : Type} (R : Rp α) (A : Nat → Prop) (base : Nat) (e : TypeId) (w : World) (v : Value) (l : List α) : Prop :=
 (∃ ao, v = .slice ao 0 0 ∧ l = []) ∨
 ∃ (g cap : Nat) (css : List (List Value)), v = .slice (some ⟨g, 0, none⟩) l.length cap ∧ w.ownsRow base e R.n v l.length css.flatten ∧ css.length = l.length ∧
  ∀ i (h1 : i < css.length) (h2 : i < l.length), R.rep (fun k => A k ∧ k ≠ g) w css[i] l[i]

theorem Ow.nil {α : Type} (R : Rp α) (A : Nat → Prop) (base : Nat) (e : TypeId) (w : World) (ao : Option Addr) : Ow R A base e w (.slice ao 0 0) [] := .inl ⟨ao, rfl, rfl⟩

/-- An owned slice reads as its list. -/
theorem Ow.sl {α : Type} {R : Rp α} {A : Nat → Prop} {base : Nat} {e : TypeId} {w : World} {v : Value} {l : List α} (h : Ow R A base e w v l) {A' : Nat → Prop} (hA : ∀ k, A k → A' k) (hb : ∀ k, base ≤ k → A' k) : slRep R A' w v l := by
 rcases h with ⟨ao, rfl, rfl⟩ | ⟨g, cap, css, rfl, hown, hl, hr⟩
 ·exact slRep.nil R A' w ao 0 (Nat.zero_le _)
 ·have hlen : ∀ cs ∈ css, cs.length = R.n := by
   intro cs hcs
   obtain ⟨i, hi, rfl⟩ := List.getElem_of_mem hcs
   exact R.len (hr i hi (by omega))
  have hcell := hown.cells (g := g) rfl
  rcases hown.2 with ⟨h1, _⟩ | ⟨g', cap', cur, hv, hbase, hg, hnc, hcm, hcs, htake⟩
  ·injection h1 with h1; cases h1
  ·injection hv with e1 e2 e3
   injection e1 with e1
   injection e1 with e1
   subst e1; subst e3
   refine ⟨_, g, 0, cap, rfl, hnc, hcm, fun _ => ⟨rfl, hb _ hbase, (Array.getElem?_eq_some_iff.1 hg).1⟩, fun i hi => ⟨css[i]'(by omega), R.mono (hr i (by omega) hi) (fun k hk => hA k hk.1) (Keep.refl _ _), fun j hj => ?_⟩⟩
   have hci := hlen (css[i]'(by omega)) (List.getElem_mem _)
   have hn : 0 < R.n := by omega
   have hj' : j < R.n := by omega
   have hget : css.flatten[i * R.n + j]? = some (css[i]'(by omega))[j] := by
    rw [flat_get hn hlen, Nat.mul_comm, Nat.mul_add_div hn, Nat.div_eq_of_lt hj', Nat.mul_add_mod, Nat.mod_eq_of_lt hj', Nat.add_zero, List.getElem?_eq_getElem (by omega)]
    simp
   have := hcell _ _ hget
   have hadd : (⟨g, 0, none⟩ : Addr).add (i * R.n + j) = ⟨g, 0 + i * R.n + j, none⟩ := by
    unfold Addr.add
    split
    ·simp
    ·simp
   rw [hadd] at this
   exact this

theorem Ow.flat {α : Type} {R : Rp α} (hF : R.Flat) {A A' : Nat → Prop} {base : Nat} {e : TypeId} {w : World} {v : Value} {l : List α} (h : Ow R A base e w v l) : Ow R A' base e w v l := by
 rcases h with h | ⟨g, cap, css, h1, h2, h3, h4⟩
 ·exact .inl h
 ·exact .inr ⟨g, cap, css, h1, h2, h3, fun i a b => hF _ _ _ _ _ _ (h4 i a b)⟩

theorem Ow.len_le {α : Type} {R : Rp α} {A : Nat → Prop} {base : Nat} {e : TypeId} {w : World} {v : Value} {l : List α} (h : Ow R A base e w v l) : ∃ ao cap, v = .slice ao l.length cap ∧ l.length ≤ cap ∧ cap ≤ maxLen := by
 rcases h with ⟨ao, rfl, rfl⟩ | ⟨g, cap, css, rfl, hown, hl, hr⟩
 ·exact ⟨ao, 0, rfl, Nat.le_refl _, Nat.zero_le _⟩
 ·rcases hown.2 with ⟨h1, _⟩ | ⟨g', cap', cur, hv, hbase, hg, hnc, hcm, _⟩
  ·injection h1 with h1; cases h1
  ·injection hv with e1 e2 e3
   subst e3
   exact ⟨_, cap, rfl, hnc, hcm⟩

/-- What is known of an element's type where slices of it are appended to. -/
structure Elem (P : Program) (t e : TypeId) (n bytes : Nat) : Prop where
 sl : P.underlying t = some (.slice e)
 info : ∃ i z, P.info? e = some i ∧ i.zero = some z ∧ i.size = n ∧ i.bytes = bytes ∧ z.cells.size = n
 pos : 0 < n

/-- of what was there only rows of elements of type e have turned -/
def OnlyOf (e : TypeId) (w w' : World) : Prop := ∀ k, k < w.heap.size → (∀ cur, w.heap[k]? ≠ some (.cells cur e (0, 0))) → w'.heap[k]? = w.heap[k]?

/-- what an append leaves as it was -/
structure AppFrame (e : TypeId) (v : Value) (w w' : World) : Prop where
 blk : ∀ k, k < w.heap.size → v.ownBlock ≠ some k → w'.heap[k]? = w.heap[k]?
 typ : OnlyOf e w w'

/-- the property that a flat owned slice needs of other blocks: none -/
def NoA : Nat → Prop := fun _ => False

theorem Ow.slF {α : Type} {R : Rp α} (hF : R.Flat) {A A' : Nat → Prop} {base : Nat} {e : TypeId} {w : World} {v : Value} {l : List α} (h : Ow R A base e w v l) (hb : ∀ k, base ≤ k → A' k) : slRep R A' w v l :=
 Ow.sl (h.flat hF (A' := NoA)) (fun _ h => h.elim) hb

theorem flat_set {css : List (List Value)} {n : Nat} (hn : 0 < n) (h : ∀ cs ∈ css, cs.length = n) (i j : Nat) (hi : i < css.length) (hj : j < n) (u : Value) : css.flatten.set (i * n + j) u = (css.set i (css[i].set j u)).flatten := by
 have h2 : ∀ cs ∈ css.set i (css[i].set j u), cs.length = n := by
  intro cs hcs
  rcases List.mem_or_eq_of_mem_set hcs with h3 | h3
  ·exact h cs h3
  ·rw [h3, List.length_set]; exact h _ (List.getElem_mem _)
 have hci := h _ (List.getElem_mem hi)
 apply List.ext_getElem?
 intro q
 rw [List.getElem?_set, flat_get hn h, flat_get hn h2, List.getElem?_set, flat_len h]
 have hlt : i * n + j < css.length * n := by
  have : (i + 1) * n ≤ css.length * n := Nat.mul_le_mul_right _ hi
  rw [Nat.add_mul] at this
  omega
 by_cases hq : i * n + j = q
 ·subst hq
  have e1 : (i * n + j) / n = i := by rw [Nat.mul_comm, Nat.mul_add_div hn, Nat.div_eq_of_lt hj, Nat.add_zero]
  have e2 : (i * n + j) % n = j := by rw [Nat.mul_comm, Nat.mul_add_mod, Nat.mod_eq_of_lt hj]
  rw [if_pos rfl, if_pos hlt, e1, e2, if_pos rfl, if_pos hi]
  simp [hci, hj]
 ·rw [if_neg hq]
  by_cases hi2 : i = q / n
  ·rw [if_pos hi2, if_pos hi]
   have : css[q / n]? = some css[i] := by rw [← hi2, List.getElem?_eq_getElem hi]
   rw [this]
   simp only [Option.bind_some]
   rw [List.getElem?_set, if_neg]
   intro hj2
   apply hq
   have := Nat.div_add_mod q n
   rw [hi2, hj2, Nat.mul_comm]
   exact this
  ·rw [if_neg hi2]

/-- one cell of an owned slice's element is written -/
theorem Ow.cell {α : Type} {R : Rp α} (hF : R.Flat) {A : Nat → Prop} {base : Nat} {e : TypeId} {w : World} {g n cap : Nat} {l : List α} (h : Ow R A base e w (.slice (some ⟨g, 0, none⟩) n cap) l) (i j : Nat) (hi : i < l.length) (hj : j < R.n) (u : Value) (x : α)
  (hx : ∀ cs, R.rep NoA w cs l[i] → R.rep NoA w (cs.set j u) x) : Ow R A base e (w.setCell ⟨g, i * R.n + j, none⟩ u) (.slice (some ⟨g, 0, none⟩) n cap) (l.set i x) ∧ Below base w (w.setCell ⟨g, i * R.n + j, none⟩ u) ∧ OnlyOf e w (w.setCell ⟨g, i * R.n + j, none⟩ u) := by
 rcases h with ⟨ao, h1, rfl⟩ | ⟨g', cap', css, hv, hown, hl, hr⟩
 ·simp at hi
 ·injection hv with e1 e2 e3
  injection e1 with e1
  injection e1 with e1
  subst e1; subst e2; subst e3
  have hlen : ∀ cs ∈ css, cs.length = R.n := by
   intro cs hcs
   obtain ⟨q, hq, rfl⟩ := List.getElem_of_mem hcs
   exact R.len (hr q hq (by omega))
  obtain ⟨h1, h2⟩ := hown.stored (i * R.n + j) u
  have hgb := hown.lt g rfl
  rw [flat_set (by omega) hlen i j (by omega) hj] at h1
  refine ⟨.inr ⟨g, cap, css.set i (css[i].set j u), by rw [List.length_set], by rw [List.length_set]; exact h1, by simpa using hl, fun q hq1 hq2 => ?_⟩, (Below.refl _ w).setCell (p := ⟨g, i * R.n + j, none⟩) hgb.1 u, fun k hk hne => ?_⟩
  ·by_cases hqi : i = q
   ·subst hqi
    simp only [List.getElem_set_self]
    exact hF _ _ _ _ _ _ (hx _ (hF _ _ _ _ _ _ (hr i (by omega) hi)))
   ·simp only [List.getElem_set_ne hqi]
    exact hF _ _ _ _ _ _ (hr q (by simpa using hq1) (by simpa using hq2))
  ·refine h2.block k hk (fun e1 => ?_)
   injection e1 with e1
   subst e1
   rcases hown.2 with ⟨h6, _⟩ | ⟨g2, cap2, cur2, hv2, _, hg2, _⟩
   ·injection h6 with h6; cases h6
   ·injection hv2 with e1 _ _
    injection e1 with e1
    injection e1 with e1
    subst e1
    exact hne cur2 hg2

/-- a row of cells by itself -/
def Rraw (n : Nat) : Rp (List Value) where
 n := n
 rep _ _ cs x := cs = x ∧ x.length = n ∧ ∀ c ∈ x, c.oneCell' = true
 len := fun h => by rw [h.1]; exact h.2.1
 one := fun h => by rw [h.1]; exact h.2.2
 mono := fun h _ _ => h
 bound := fun h => h

theorem Rraw.isFlat (n : Nat) : (Rraw n).Flat := fun _ _ _ _ _ _ h => h

theorem Ow.toRaw {α : Type} {R : Rp α} {A : Nat → Prop} {base : Nat} {e : TypeId} {w : World} {v : Value} {l : List α} (h : Ow R A base e w v l) : ∃ css : List (List Value), css.length = l.length ∧ (∀ i (h1 : i < css.length) (h2 : i < l.length), R.rep A w css[i] l[i]) ∧ Ow (Rraw R.n) NoA base e w v css := by
 rcases h with ⟨ao, rfl, rfl⟩ | ⟨g, cap, css, rfl, hown, hl, hr⟩
 ·exact ⟨[], rfl, fun i h => by simp at h, Ow.nil _ _ _ _ _ _⟩
 ·refine ⟨css, hl, fun i h1 h2 => R.mono (hr i h1 h2) (fun k hk => hk.1) (Keep.refl _ _), .inr ⟨g, cap, css, by rw [hl], ?_, rfl, fun i h1 h2 => ⟨rfl, R.len (hr i h1 (by omega)), R.one (hr i h1 (by omega))⟩⟩⟩
  rw [hl]; exact hown

theorem Ow.frozen {α : Type} {R : Rp α} {A : Nat → Prop} {base : Nat} {e : TypeId} {w : World} {g n cap : Nat} {l : List α} (h : Ow R A base e w (.slice (some ⟨g, 0, none⟩) n cap) l) (hp : 0 < l.length) (j : Nat) : w.frozen? ⟨g, j, none⟩ = false := by
 rcases h with ⟨ao, h1, rfl⟩ | ⟨g', cap', css, hv, hown, hl, hr⟩
 ·simp at hp
 ·injection hv with e1 e2 e3
  injection e1 with e1
  injection e1 with e1
  subst e1; subst e2; subst e3
  exact hown.frozenAt j

/-- the beginning of an owned slice is owned -/
theorem Ow.take {α : Type} {R : Rp α} {A : Nat → Prop} {base : Nat} {e : TypeId} {w : World} {g n cap : Nat} {l : List α} (h : Ow R A base e w (.slice (some ⟨g, 0, none⟩) n cap) l) (k : Nat) (hk : k ≤ l.length) : Ow R A base e w (.slice (some ⟨g, 0, none⟩) k cap) (l.take k) := by
 rcases h with ⟨ao, h1, rfl⟩ | ⟨g', cap', css, hv, hown, hl, hr⟩
 ·injection h1 with e1 e2 e3
  subst e2; subst e3
  have : k = 0 := by simpa using hk
  subst this
  exact Ow.nil _ _ _ _ _ _
 ·injection hv with e1 e2 e3
  injection e1 with e1
  injection e1 with e1
  subst e1; subst e2; subst e3
  have hlen : ∀ cs ∈ css, cs.length = R.n := by
   intro cs hcs
   obtain ⟨q, hq, rfl⟩ := List.getElem_of_mem hcs
   exact R.len (hr q hq (by omega))
  have hkl : (l.take k).length = k := by rw [List.length_take]; omega
  have hfl : ∀ (css : List (List Value)) (k n : Nat), (∀ cs ∈ css, cs.length = n) → k ≤ css.length → (css.take k).flatten = css.flatten.take (k * n) := by
   intro css
   induction css with
   | nil => intro k n _ hk; simp
   | cons c css ih =>
    intro k n hc hk
    cases k with
    | zero => simp
    | succ k =>
     have hcl := hc c (by simp)
     rw [List.take_succ_cons, List.flatten_cons, List.flatten_cons, ih k n (fun cs h => hc cs (by simp [h])) (by simpa using hk), Nat.add_mul, Nat.one_mul, Nat.add_comm (k * n) n, ← hcl]
     rw [List.take_append, List.take_of_length_le (show c.length ≤ c.length + k * c.length by omega)]
     congr 1
     simp
  refine .inr ⟨g, cap, css.take k, by rw [hkl], ⟨by rw [flat_len (n := R.n) (fun cs hcs => hlen cs (List.mem_of_mem_take hcs)), hkl, List.length_take]; congr 1; omega, ?_⟩, by rw [List.length_take, hkl]; omega, fun i h1 h2 => ?_⟩
  ·rcases hown.2 with ⟨h1, _⟩ | ⟨g2, cap2, cur, hv, hbase, hg, hnc, hcm, hcs, htk⟩
   ·injection h1 with h1; cases h1
   ·injection hv with e1 e2 e3
    injection e1 with e1
    injection e1 with e1
    subst e1; subst e3
    refine .inr ⟨g, cap, cur, by rw [hkl], hbase, hg, by omega, hcm, hcs, ?_⟩
    rw [hkl, hfl css k R.n hlen (by omega), ← htk, List.take_take]
    congr 1
    exact (Nat.min_eq_left (Nat.mul_le_mul_right _ hk)).symm
  ·have := hr i (by rw [List.length_take] at h1; omega) (by rw [hkl] at h2; omega)
   simpa using this

def RS : Rp ByteArray := Rp.flat 1 (fun x => x.size ≤ maxLen) (fun x => [.string x]) (fun _ => rfl) (fun x c hc => by simp at hc; rw [hc]; rfl)

end Go.Proofs.YtglfajjcgbfehaaGreat
