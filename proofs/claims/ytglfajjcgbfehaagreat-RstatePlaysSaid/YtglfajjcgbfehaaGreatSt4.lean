/- Appends once more: the new elements' own array may lie anywhere; where the owned slice's array is behind it. No program is named here. -/
import Derived.Test.YtglfajjcgbfehaaGreatSt3
namespace Go.Proofs.YtglfajjcgbfehaaGreat
open Go.RowKit
variable {ds : List Deferred}

/-- A slice's value reads as a list: its array's block meets A0, its elements' readings pass through blocks that meet A. -/
def slRep2 {α : Type} (R : Rp α) (A0 A : Nat → Prop) (w : World) (v : Value) (l : List α) : Prop :=
 ∃ (ao : Option Addr) (b off cap : Nat), v = .slice ao l.length cap ∧ l.length ≤ cap ∧ cap ≤ maxLen ∧ (0 < l.length → ao = some ⟨b, off, none⟩ ∧ A0 b ∧ b < w.heap.size) ∧
  ∀ i (h : i < l.length), ∃ cs, R.rep A w cs l[i] ∧ ∀ j (hj : j < cs.length), w.cell? ⟨b, off + i * R.n + j, none⟩ = some cs[j]

theorem slRep.two {α : Type} {R : Rp α} {A : Nat → Prop} {w : World} {v : Value} {l : List α} (h : slRep R A w v l) : slRep2 R AnyA A w v l := by
 obtain ⟨ao, b, off, cap, hv, hc, hm, hb, hx⟩ := h
 exact ⟨ao, b, off, cap, hv, hc, hm, fun h0 => ⟨(hb h0).1, trivial, (hb h0).2.2⟩, hx⟩

/-- one element in a block of its own -/
theorem slRep2.box1 {α : Type} {R : Rp α} {A : Nat → Prop} {w : World} {b : Nat} {e : TypeId} {cs : List Value} {x : α} (h : Box w b e cs) (hr : R.rep A w cs x) : slRep2 R AnyA A w (.slice (some ⟨b, 0, none⟩) 1 1) [x] := by
 refine ⟨some ⟨b, 0, none⟩, b, 0, 1, rfl, Nat.le_refl _, by decide, fun _ => ⟨rfl, trivial, h.lt⟩, fun i hi => ⟨cs, ?_, fun j hj => ?_⟩⟩
 ·have : i = 0 := by simp at hi; omega
  subst this; exact hr
 ·have : i = 0 := by simp at hi; omega
  subst this
  rw [Nat.zero_mul]
  exact h.cell (0 + 0 + j) (by rw [Nat.add_zero, Nat.zero_add, List.getElem?_eq_getElem hj])

/-- .. its rows, chosen -/
theorem slRep2.rows {α : Type} {R : Rp α} {A0 A : Nat → Prop} {w : World} {ao : Option Addr} {m cap : Nat} {l : List α} (h : slRep2 R A0 A w (.slice ao m cap) l) :
  ∃ css : List (List Value), m = l.length ∧ css.length = l.length ∧ (∀ i (h1 : i < css.length) (h2 : i < l.length), R.rep A w css[i] l[i]) ∧
   (0 < l.length → ∃ b off, ao = some ⟨b, off, none⟩ ∧ A0 b ∧ b < w.heap.size ∧ (0 < R.n → ∀ j v, css.flatten[j]? = some v → w.cell? ((⟨b, off, none⟩ : Addr).add j) = some v)) := by
 obtain ⟨ao', b, off, cap', hv, hc, hm, hb, hx⟩ := h
 injection hv with e1 e2 e3
 subst e1; subst e2; subst e3
 obtain ⟨f, hf⟩ := Go.Deep.choose_lt (n := l.length) (α := List Value) (p := fun i cs => ∃ hi : i < l.length, R.rep A w cs l[i] ∧ ∀ j (hj : j < cs.length), w.cell? ⟨b, off + i * R.n + j, none⟩ = some cs[j]) (fun i hi => by
  obtain ⟨cs, h1, h2⟩ := hx i hi
  exact ⟨cs, hi, h1, h2⟩)
 refine ⟨(List.range l.length).map f, rfl, by simp, fun i h1 h2 => ?_, fun h0 => ?_⟩
 ·obtain ⟨_, h3, _⟩ := hf i h2
  simpa using h3
 ·obtain ⟨h1, h2, h3⟩ := hb h0
  refine ⟨b, off, h1, h2, h3, fun hn j v hj => ?_⟩
  have hall : ∀ cs ∈ (List.range l.length).map f, cs.length = R.n := by
   intro cs hcs
   obtain ⟨i, hi, rfl⟩ := List.mem_map.1 hcs
   obtain ⟨_, h4, _⟩ := hf i (List.mem_range.1 hi)
   exact R.len h4
  rw [flat_get hn hall] at hj
  obtain ⟨cs, hcs, hjv⟩ := Option.bind_eq_some_iff.1 hj
  rw [List.getElem?_map] at hcs
  obtain ⟨i, hi, rfl⟩ := Option.map_eq_some_iff.1 hcs
  have hi2 : i = j / R.n ∧ j / R.n < l.length := by
   have h5 := List.getElem?_eq_some_iff.1 hi
   obtain ⟨h6, h7⟩ := h5
   simp at h6 h7
   exact ⟨h7.symm, h6⟩
  obtain ⟨rfl, hlt⟩ := hi2
  obtain ⟨_, _, h8⟩ := hf _ hlt
  obtain ⟨h9, h10⟩ := List.getElem?_eq_some_iff.1 hjv
  have h11 := h8 _ h9
  rw [h10] at h11
  have hadd : (⟨b, off, none⟩ : Addr).add j = ⟨b, off + (j / R.n) * R.n + j % R.n, none⟩ := by
   have e : (j / R.n) * R.n + j % R.n = j := by rw [Nat.mul_comm]; exact Nat.div_add_mod j R.n
   rw [Nat.add_assoc, e]
   unfold Addr.add
   split
   ·simp
   ·rfl
  rw [hadd]
  exact h11

/-- append, once more: whatever its second operand reads as is behind what the owned slice held. -/
theorem run_app2 {P : Program} {α : Type} {R : Rp α} {A : Nat → Prop} {base : Nat} {t e : TypeId} {n bytes : Nat} {w : World} {v x : Value} {l l2 : List α} (ty : TypeId) (E : Elem P t e n bytes) (hn : R.n = n)
  (h : Ow R A base e w v l) {A0 A2 : Nat → Prop} (hx : slRep2 R A0 A2 w x l2) (hx2 : ∀ cs y, R.rep A2 w cs y → R.rep (fun k => A k ∧ v.ownBlock ≠ some k) w cs y)
  (h63 : l.length + l2.length ≤ maxLen) (hbytes : (l.length + l2.length) * bytes ≤ 140737488355328) (hbase : base ≤ w.heap.size) :
  ∃ v' w', (Builtin.append_ #[t, t] ty #[v, x]).run P w = .ok v' w' ∧ Ow R A base e w' v' (l ++ l2) ∧ Below base w w' ∧ AppFrame e v w w' := by
 obtain ⟨ht, ⟨i, z, hi, hz, hsz, hby, hzs⟩, hpos⟩ := E
 subst hn
 obtain ⟨ao, b0, o0, cap, rfl, _⟩ := id hx
 obtain ⟨css, _, hcl, hrep, hsrc⟩ := hx.rows
 have hlen : ∀ cs ∈ css, cs.length = R.n := by
  intro cs hcs
  obtain ⟨i, hi, rfl⟩ := List.getElem_of_mem hcs
  exact R.len (hrep i hi (by omega))
 have hone : ∀ u ∈ css.flatten, u.oneCell' = true := by
  intro u hu
  obtain ⟨cs, hcs, huc⟩ := List.mem_flatten.1 hu
  obtain ⟨i, hi, rfl⟩ := List.getElem_of_mem hcs
  exact R.one (hrep i hi (by omega)) u huc
 have hfl := flat_len hlen
 rw [hcl] at hfl
 by_cases h0 : l2.length = 0
 ·have hl2 : l2 = [] := List.eq_nil_of_length_eq_zero h0
  subst hl2
  refine ⟨v, w, ?_, by simpa using h, Below.refl _ _, ⟨fun _ _ _ => rfl, fun _ _ _ => rfl⟩⟩
  obtain ⟨ao', cap', rfl, hlc, _⟩ := h.len_le
  cases ao <;> cases ao' <;> simp [Builtin.append_, run_underlying ht, sizeOf, typeInfo, hi, Builtin.lenOf, Builtin.firstCells, loadCells, loadCellsFrom, storeCells, hlc]
 ·obtain ⟨b, off, rfl, hAb, hblt, hcells⟩ := hsrc (by omega)
  have hnews := hcells hpos
  rcases h with ⟨ao', rfl, rfl⟩ | ⟨g, gcap, css1, rfl, hown, hl1, hr1⟩
  ·simp only [List.length_nil, Nat.zero_add] at h63 hbytes
   have h63' : ((l2.length : Nat) : Int) ≤ 9223372036854775807 := by simp only [maxLen] at h63; omega
   have hnew : ∀ (old : Nat) (base0 : base ≤ w.heap.size),
     Ow R A base e (w.drew.alloc (.cells (css.flatten.toArray ++ Builtin.zeroCells z.cells (grownCap w l2.length 0 e - l2.length)) e)) (.slice (some ⟨w.heap.size, 0, none⟩) l2.length (grownCap w l2.length 0 e)) ([] ++ l2) := by
    intro _ _
    have hge := grownCap_ge w l2.length 0 e
    refine .inr ⟨w.heap.size, grownCap w l2.length 0 e, css, by simp, ⟨by simpa using hfl, .inr ⟨w.heap.size, _, _, rfl, hbase, heap_alloc_new w.drew _, by simpa using hge, grownCap_le_maxLen w l2.length 0 e h63, ?_, ?_⟩⟩, by simpa using hcl, fun i h1 h2 => ?_⟩
    ·simp only [Array.size_append, List.size_toArray, size_zeroCells, hzs, hfl, ← Nat.add_mul]
     congr 1
     omega
    ·simp only [Array.toList_append, List.nil_append]
     rw [← hfl]
     exact List.take_left
    ·have h3 := R.bound (hx2 _ _ (hrep i h1 (by simpa using h2)))
     have h4 := R.mono h3 (A' := fun k => A k ∧ k ≠ w.heap.size) (fun k hk => ⟨hk.1.1, by omega⟩) (Keep.below (w' := w.drew.alloc (.cells (css.flatten.toArray ++ Builtin.zeroCells z.cells (grownCap w l2.length 0 e - l2.length)) e)) ((Below.refl _ w).drew.alloc (Nat.le_refl _) _))
     simpa using h4
   have hbel : Below base w (w.drew.alloc (.cells (css.flatten.toArray ++ Builtin.zeroCells z.cells (grownCap w l2.length 0 e - l2.length)) e)) := (Below.refl _ w).drew.alloc hbase _
   have hblk : ∀ k, k < w.heap.size → (w.drew.alloc (.cells (css.flatten.toArray ++ Builtin.zeroCells z.cells (grownCap w l2.length 0 e - l2.length)) e)).heap[k]? = w.heap[k]? := fun k hk => Below.heap_alloc _ _ _ hk
   cases ao' with
   | none =>
    have hr := run_append_nil (P := P) w t ty e i z ht hi hz ⟨b, off, none⟩ l2.length cap css.flatten (by rw [hsz]; exact hfl) hnews (by omega) h63' (by rw [hby]; omega)
    exact ⟨_, _, hr, hnew 0 hbase, hbel, ⟨fun k hk _ => hblk k hk, fun k hk _ => hblk k hk⟩⟩
   | some ad =>
    have hr := run_append_grow (P := P) w t ty e i z ht hi hz ad 0 0 [] (by simp) (by simp) ⟨b, off, none⟩ l2.length cap css.flatten (by rw [hsz]; exact hfl) hnews (by omega) (by simpa using h63') (by rw [hby, Nat.zero_add]; exact growslice_fits (by omega) hbytes)
    simp only [Nat.zero_add, Array.empty_append] at hr
    exact ⟨_, _, hr, hnew 0 hbase, hbel, ⟨fun k hk _ => hblk k hk, fun k hk _ => hblk k hk⟩⟩
  ·have hown' := hown
   obtain ⟨v', w', hr, h2, h3, _⟩ := run_append_own (P := P) w base t ty e i z R.n bytes ht hi hz hsz hby hzs hpos _ l.length css1.flatten hown ⟨b, off, none⟩ l2.length cap css.flatten hfl hnews hone h63 hbytes hbase
   have hgb := (hown'.lt g rfl)
   refine ⟨v', w', hr, ?_, (Below.refl _ w).grown h3 hbase (fun k hk => by simp [Value.ownBlock] at hk; omega), ⟨fun k hk hne => h3.block k hk (fun e => hne e.symm), fun k hk hne => h3.block k hk (fun e1 => ?_)⟩⟩
   rotate_left
   ·simp [Value.ownBlock] at e1
    subst e1
    rcases hown'.2 with ⟨h6, _⟩ | ⟨g2, cap2, cur2, hv2, _, hg2, _⟩
    ·injection h6 with h6; cases h6
    ·injection hv2 with e1 _ _
     injection e1 with e1
     injection e1 with e1
     subst e1
     exact hne cur2 hg2
   have hxl := h2.1
   rcases h2.2 with ⟨_, h5⟩ | ⟨g', cap', cur, hv', hb', hg', hnc', hcm', hcs', htk'⟩
   ·exact absurd (show l2.length = 0 by omega) h0
   ·have hlen2 : (l ++ l2).length = l.length + l2.length := List.length_append
    refine .inr ⟨g', cap', css1 ++ css, by rw [hv', hlen2], ?_, by rw [List.length_append, hl1, hcl, hlen2], fun q h1 h2 => ?_⟩
    ·rw [hlen2, List.flatten_append]
     exact ⟨hxl, .inr ⟨g', cap', cur, hv', hb', hg', hnc', hcm', hcs', htk'⟩⟩
    ·-- where is the new block: the old one, or one that was not there
     have hwhere : g' = g ∨ w.heap.size ≤ g' := by
      by_cases hlt : g' < w.heap.size
      ·left
       by_cases hroom : l.length + l2.length ≤ gcap
       ·obtain ⟨_, h6⟩ := hown'
        rcases h6 with ⟨h7, _⟩ | ⟨g2, cap2, cur2, hv2, _, hg2, _, _, hcs2, _⟩
        ·injection h7 with h7; cases h7
        ·injection hv2 with e1 e2 e3
         injection e1 with e1
         injection e1 with e1
         subst e1; subst e3
         have hfit : l.length * i.size + css.flatten.length ≤ cur2.size := by rw [hfl, hsz, hcs2, ← Nat.add_mul]; exact Nat.mul_le_mul_right _ hroom
         have hr2 := run_append_room (P := P) w t ty e i ht hi g l.length gcap cur2 hg2 ⟨b, off, none⟩ l2.length cap css.flatten (by rw [hsz]; exact hfl) hnews hone hroom hfit
         rw [hr2] at hr
         injection hr with hr3 hr4
         rw [hv'] at hr3
         injection hr3 with hr5
         injection hr5 with hr5
         injection hr5 with hr5
         exact hr5.symm
       ·have holds := hown'.cells (g := g) rfl
        have hr2 := run_append_grow (P := P) w t ty e i z ht hi hz ⟨g, 0, none⟩ l.length gcap css1.flatten (by rw [hown'.1, hsz]) holds ⟨b, off, none⟩ l2.length cap css.flatten (by rw [hsz]; exact hfl) hnews (by omega) (by simp only [maxLen] at h63; omega) (by rw [hby]; exact growslice_fits (by omega) hbytes)
        rw [hr2] at hr
        injection hr with hr3 hr4
        rw [hv'] at hr3
        injection hr3 with hr5
        injection hr5 with hr5
        injection hr5 with hr5
        omega
      ·right; omega
     have hkeep : Keep (fun k => k ≠ g) w w' := ⟨h3.size, fun k hk hlt => h3.block k hlt (fun e => hk (by simp [Value.ownBlock] at e; exact e))⟩
     by_cases hi1 : q < l.length
     ·have h6 := R.bound (hr1 q (by omega) hi1)
      have e1 : (css1 ++ css)[q] = css1[q]'(by omega) := List.getElem_append_left (by omega)
      have e2 : (l ++ l2)[q] = l[q] := List.getElem_append_left hi1
      rw [e1, e2]
      refine R.mono h6 (fun k hk => ⟨hk.1.1, ?_⟩) ⟨hkeep.1, fun k hk hlt => hkeep.2 k hk.1.2 hlt⟩
      rcases hwhere with rfl | hw
      ·exact hk.1.2
      ·omega
     ·have h6 := R.bound (hx2 _ _ <| hrep (q - l.length) (by rw [List.length_append] at h1; omega) (by rw [hlen2] at h2; omega))
      have e1 : (css1 ++ css)[q] = css[q - l.length]'(by rw [List.length_append] at h1; omega) := by rw [List.getElem_append_right (by omega)]; simp only [hl1]
      have e2 : (l ++ l2)[q] = l2[q - l.length]'(by rw [hlen2] at h2; omega) := List.getElem_append_right (by omega)
      rw [e1, e2]
      have hne : ∀ k, (A k ∧ (Value.slice (some ⟨g, 0, none⟩) l.length gcap).ownBlock ≠ some k) ∧ k < w.heap.size → k ≠ g := fun k hk e => hk.1.2 (by simp [Value.ownBlock, e])
      refine R.mono h6 (fun k hk => ⟨hk.1.1, ?_⟩) ⟨hkeep.1, fun k hk hlt => hkeep.2 k (hne k hk) hlt⟩
      rcases hwhere with rfl | hw
      ·exact hne k hk
      ·omega

theorem run_app_own {P : Program} {α : Type} {R : Rp α} {A : Nat → Prop} {base : Nat} {t e : TypeId} {n bytes : Nat} {w : World} {v x : Value} {l l2 : List α} (ty : TypeId) (E : Elem P t e n bytes) (hn : R.n = n)
  (h : Ow R A base e w v l) {A0 A2 : Nat → Prop} (hx : slRep2 R A0 A2 w x l2) (h63 : l.length + l2.length ≤ maxLen) (hbytes : (l.length + l2.length) * bytes ≤ 140737488355328) {v' : Value} {w' : World}
  (hr : (Builtin.append_ #[t, t] ty #[v, x]).run P w = .ok v' w') : ∀ k, v'.ownBlock = some k → v.ownBlock = some k ∨ (w.heap.size ≤ k ∧ l2 ≠ []) := by
 obtain ⟨ht, ⟨i, z, hi, hz, hsz, hby, hzs⟩, hpos⟩ := E
 subst hn
 obtain ⟨ao, b0, o0, cap, rfl, _⟩ := id hx
 obtain ⟨css, _, hcl, hrep, hsrc⟩ := hx.rows
 have hlen : ∀ cs ∈ css, cs.length = R.n := by
  intro cs hcs
  obtain ⟨i, hi, rfl⟩ := List.getElem_of_mem hcs
  exact R.len (hrep i hi (by omega))
 have hone : ∀ u ∈ css.flatten, u.oneCell' = true := by
  intro u hu
  obtain ⟨cs, hcs, huc⟩ := List.mem_flatten.1 hu
  obtain ⟨i, hi, rfl⟩ := List.getElem_of_mem hcs
  exact R.one (hrep i hi (by omega)) u huc
 have hfl := flat_len hlen
 rw [hcl] at hfl
 intro k hk
 by_cases h0 : l2.length = 0
 ·have hl2 : l2 = [] := List.eq_nil_of_length_eq_zero h0
  subst hl2
  obtain ⟨ao', cap', rfl, hlc, _⟩ := h.len_le
  have hr2 : (Builtin.append_ #[t, t] ty #[.slice ao' l.length cap', .slice ao 0 cap]).run P w = .ok (.slice ao' l.length cap') w := by
   cases ao <;> cases ao' <;> simp [Builtin.append_, run_underlying ht, sizeOf, typeInfo, hi, Builtin.lenOf, Builtin.firstCells, loadCells, loadCellsFrom, storeCells, hlc]
  simp only [List.length_nil] at hr
  rw [hr2] at hr
  injection hr with hr3 _
  rw [← hr3] at hk
  exact .inl hk
 ·obtain ⟨b, off, rfl, hAb, hblt, hcells⟩ := hsrc (by omega)
  have hnews := hcells hpos
  rcases h with ⟨ao', rfl, rfl⟩ | ⟨g, gcap, css1, rfl, hown, hl1, hr1⟩
  ·simp only [List.length_nil, Nat.zero_add] at h63 hbytes
   have h63' : ((l2.length : Nat) : Int) ≤ 9223372036854775807 := by simp only [maxLen] at h63; omega
   refine .inr ⟨?_, fun e => h0 (by rw [e]; rfl)⟩
   cases ao' with
   | none =>
    have hr2 := run_append_nil (P := P) w t ty e i z ht hi hz ⟨b, off, none⟩ l2.length cap css.flatten (by rw [hsz]; exact hfl) hnews (by omega) h63' (by rw [hby]; omega)
    rw [hr2] at hr
    injection hr with hr3 _
    rw [← hr3] at hk
    simp [Value.ownBlock] at hk
    omega
   | some ad =>
    have hr2 := run_append_grow (P := P) w t ty e i z ht hi hz ad 0 0 [] (by simp) (by simp) ⟨b, off, none⟩ l2.length cap css.flatten (by rw [hsz]; exact hfl) hnews (by omega) (by simpa using h63') (by rw [hby, Nat.zero_add]; exact growslice_fits (by omega) hbytes)
    rw [hr2] at hr
    injection hr with hr3 _
    rw [← hr3] at hk
    simp [Value.ownBlock] at hk
    omega
  ·by_cases hroom : l.length + l2.length ≤ gcap
   ·left
    rcases hown.2 with ⟨h7, _⟩ | ⟨g2, cap2, cur2, hv2, _, hg2, _, _, hcs2, _⟩
    ·injection h7 with h7; cases h7
    ·injection hv2 with e1 e2 e3
     injection e1 with e1
     injection e1 with e1
     subst e1; subst e3
     have hfit : l.length * i.size + css.flatten.length ≤ cur2.size := by rw [hfl, hsz, hcs2, ← Nat.add_mul]; exact Nat.mul_le_mul_right _ hroom
     have hr2 := run_append_room (P := P) w t ty e i ht hi g l.length gcap cur2 hg2 ⟨b, off, none⟩ l2.length cap css.flatten (by rw [hsz]; exact hfl) hnews hone hroom hfit
     rw [hr2] at hr
     injection hr with hr3 _
     rw [← hr3] at hk
     exact hk
   ·refine .inr ⟨?_, fun e => h0 (by rw [e]; rfl)⟩
    have holds := hown.cells (g := g) rfl
    have hr2 := run_append_grow (P := P) w t ty e i z ht hi hz ⟨g, 0, none⟩ l.length gcap css1.flatten (by rw [hown.1, hsz]) holds ⟨b, off, none⟩ l2.length cap css.flatten (by rw [hsz]; exact hfl) hnews (by omega) (by simp only [maxLen] at h63; omega) (by rw [hby]; exact growslice_fits (by omega) hbytes)
    rw [hr2] at hr
    injection hr with hr3 _
    rw [← hr3] at hk
    simp [Value.ownBlock] at hk
    omega

theorem Ow.gLt {α : Type} {R : Rp α} {A : Nat → Prop} {base : Nat} {e : TypeId} {w : World} {v : Value} {l : List α} (h : Ow R A base e w v l) (hl : l ≠ []) : ∀ k, v.ownBlock = some k → base ≤ k ∧ k < w.heap.size := by
 intro k hk
 rcases h with ⟨ao, rfl, rfl⟩ | ⟨g, cap, css, rfl, hown, _, _⟩
 ·exact absurd rfl hl
 ·simp [Value.ownBlock] at hk
  subst hk
  exact hown.lt g rfl

theorem zeros_eq (zl : List Value) (m k : Nat) (hm : zl.length = m) : (Array.range (k * m)).map (fun j => zl.toArray[j % zl.toArray.size]!) = (List.replicate k zl).flatten.toArray := by
 subst hm
 have hlen : ((List.replicate k zl).flatten).length = k * zl.length := by simp
 apply Array.ext
 ·simp
 ·intro i h1 h2
  have hi : i < k * zl.length := by simpa using h1
  have hz : 0 < zl.length := by
   rcases Nat.eq_zero_or_pos zl.length with h | h
   ·rw [h, Nat.mul_zero] at hi; omega
   ·exact h
  have hmod : i % zl.length < zl.length := Nat.mod_lt _ hz
  have hdiv : i / zl.length < k := Nat.div_lt_of_lt_mul (by rw [Nat.mul_comm]; exact hi)
  have hg := flat_get (css := List.replicate k zl) hz (fun cs hcs => by rw [List.eq_of_mem_replicate hcs]) i
  rw [List.getElem?_replicate, if_pos hdiv] at hg
  simp only [Option.bind_some, List.getElem?_eq_getElem hmod] at hg
  have hg2 : (List.replicate k zl).flatten[i]? = some ((List.replicate k zl).flatten[i]'(by rw [hlen]; exact hi)) := List.getElem?_eq_getElem _
  rw [hg2] at hg
  injection hg with hg
  simp only [Array.getElem_map, Array.getElem_range, List.getElem_toArray, List.size_toArray]
  rw [hg, getElem!_pos _ _ (by simpa using hmod)]
  simp

theorem run_bslice {P : Program} {t e k : Nat} {vs : List (Nat × Value)} {cs zl : List Value} {z : Value} {m : Nat} (hu : P.underlying t = some (.slice e)) (hi : (P.info? e).map (fun i => (i.zero, i.size)) = some (some z, m)) (hzl : z.cells = zl.toArray) (hm : zl.length = m) (hk : decide (k * m ≤ 16777216) = true)
  (hf : Instr.fill (fun i => some (i * m, m)) (List.replicate k zl).flatten.toArray vs = some cs.toArray) (w : World) :
  (Instr.buildSlice t k vs.toArray).run P w = .ok (.slice (some ⟨w.heap.size, 0, none⟩) k k) (w.alloc (.cells cs.toArray e)) := by
 obtain ⟨i, hi1, hi2⟩ := Option.map_eq_some_iff.1 hi
 simp only [Prod.mk.injEq] at hi2
 obtain ⟨hz, hmm⟩ := hi2
 have hsz := run_sizeOf_of (P := P) hi1
 have hk' : ¬ (k * m > 2 ^ 24) := by have := of_decide_eq_true hk; omega
 have hz0 : ∀ w, (zeroValue e).run P w = .ok z w := fun w => by simp [zeroValue, typeInfo, hi1, hz]
 have hze := zeros_eq zl m k hm
 subst hmm
 simp only [Instr.buildSlice, Sem.run_bind, run_underlying hu, Result.andThen_ok, hsz, if_neg hk']
 by_cases h0 : k * i.size = 0
 ·have e0 : ∀ f : Nat → Value, (Array.range (k * i.size)).map f = #[] := fun f => by rw [h0]; simp
  rw [e0] at hze
  rw [← hze] at hf
  simp only [if_pos h0, Sem.run_bind, Sem.run_pure, Result.andThen_ok, e0, hf]
  simp [newRow]
 ·rw [← hze] at hf
  simp only [if_neg h0, Sem.run_bind, hz0, Result.andThen_ok, Sem.run_pure, hzl, hf]
  simp [newRow]

theorem eqg_sl {P : Program} (op : BinOp) (t : Nat) (x y : Operand) (a b : Option Addr) (n c m d : Nat) (w : World) : (eqGuard op t x y (.slice a n c) (.slice b m d)).run P w = .ok () w := by
 unfold eqGuard; cases op <;> simp

theorem run_eql_slice_nil' {P : Program} {t e : Nat} (hu : P.underlying t = some (.slice e)) (a : Option Addr) (n c : Nat) (w : World) : (binOp .eql t (.slice a n c) (.slice none 0 0)).run P w = .ok (.bool a.isNone) w := Go.Lib.run_eql_slice_nil w _ _ _ _ _ _ _ hu

theorem slRep.isNone {α : Type} {R : Rp α} {A : Nat → Prop} {w : World} {ao : Option Addr} {n cap : Nat} {l : List α} (h : slRep R A w (.slice ao n cap) l) (hn : ao.isNone = true) : l = [] := by
 obtain ⟨ao', b, off, cap', hv, hc, hm, hb, hx⟩ := h
 injection hv with e1 e2 e3
 subst e1
 cases l with
 | nil => rfl
 | cons x l => rw [(hb (by simp)).1] at hn; cases hn

section rules
variable {P : Program} (T : Tab P) {ops : Array Oper} {Q : Exit → Act → World → Prop} {a : Act} {w : World} {rest : List Oper} {o : Oper} {n : Nat} {S : Slots} {G : List GV}

/-- append to a slice of the call's own -/
theorem s_app2 (hok : PsD ds ops n S G a) {d t e m bytes : Nat} {s x : Operand} {α : Type} (R : Rp α) (A : Nat → Prop) (base : Nat) (E : Elem P t e m bytes) (hn : R.n = m) {vs vx : Value} (l l2 : List α) (A0 A2 : Nat → Prop)
  (hg : o.guard = none) (ho : o.op = .call { callee := .builtin .append, args := #[s, x], argTypes := #[t, t] }) (hd : o.dst = some d) (hdn : d < n) (hf : gFree ops G d = true)
  (hs : evS S s = some vs) (hx : evS S x = some vx) (hown : Ow R A base e w vs l) (hsrc : slRep2 R A0 A2 w vx l2) (hx2 : ∀ cs y, R.rep A2 w cs y → R.rep (fun k => A k ∧ vs.ownBlock ≠ some k) w cs y)
  (h63 : l.length + l2.length ≤ maxLen) (hbytes : (l.length + l2.length) * bytes ≤ 140737488355328) (hbase : base ≤ w.heap.size) (hgo : ∀ k, vs.ownBlock = some k → base ≤ k ∧ k < w.heap.size)
  (h : ∀ ao cap a' w', Ow R A base e w' (.slice ao (l ++ l2).length cap) (l ++ l2) → (l ++ l2).length ≤ cap → cap ≤ maxLen → Below base w w' → (∀ k, k < w.heap.size → vs.ownBlock ≠ some k → w'.heap[k]? = w.heap[k]?) → (∀ k, (Value.slice ao (l ++ l2).length cap).ownBlock = some k → vs.ownBlock = some k ∨ w.heap.size ≤ k) → (∀ k, (Value.slice ao (l ++ l2).length cap).ownBlock = some k → base ≤ k ∧ k < w'.heap.size) →
   PsD ds ops n ((d, .slice ao (l ++ l2).length cap) :: S) G a' → wpList P ops Q rest a' w') : wpList P ops Q (o :: rest) a w := by
 obtain ⟨v', w', hr, h2, h3, h4⟩ := run_app2 (P := P) o.type E hn hown hsrc hx2 h63 hbytes hbase
 have h5 := run_app_own (P := P) o.type E hn hown hsrc h63 hbytes hr
 obtain ⟨ao, cap, rfl, hc, hm⟩ := h2.len_le
 have h8 : ∀ k, (Value.slice ao (l ++ l2).length cap).ownBlock = some k → base ≤ k ∧ k < w'.heap.size := fun k hk => by
  rcases h5 k hk with h6 | ⟨h6, h7⟩
  ·exact ⟨(hgo k h6).1, Nat.lt_of_lt_of_le (hgo k h6).2 h3.size⟩
  ·exact h2.gLt (fun e => h7 (List.append_eq_nil_iff.1 e).2) k hk
 refine wpList_run hg (v := .slice ao (l ++ l2).length cap) (w' := w') ?_ (by rw [hd]; exact h ao cap _ w' h2 hc hm h3 h4.blk (fun k hk => (h5 k hk).imp id (·.1)) h8 (hok.put hdn hf _))
 unfold execOp
 simp only [ho, resolve, invoke, builtin, Sem.run_bind, Sem.run_pure, Result.andThen_ok, List.map_toArray, List.map_cons, List.map_nil, hok.sl.ev hs, hok.sl.ev hx, hr]

end rules

/-- a literal of several elements -/
theorem slRep.lit {α : Type} {R : Rp α} {A : Nat → Prop} {w : World} {b : Nat} {e : TypeId} {cs : List Value} {l : List α} (css : List (List Value)) (h : Box w b e cs) (hcs : cs = css.flatten) (hl : css.length = l.length) (hr : ∀ i (h1 : i < css.length) (h2 : i < l.length), R.rep A w css[i] l[i]) (hA : A b) (hm : l.length ≤ maxLen) : slRep R A w (.slice (some ⟨b, 0, none⟩) l.length l.length) l := by
 subst hcs
 refine ⟨some ⟨b, 0, none⟩, b, 0, l.length, rfl, Nat.le_refl _, hm, fun _ => ⟨rfl, hA, h.lt⟩, fun i hi => ⟨css[i]'(by omega), hr i (by omega) hi, fun j hj => ?_⟩⟩
 have hall : ∀ x ∈ css, x.length = R.n := by
  intro x hx
  obtain ⟨q, hq, rfl⟩ := List.getElem_of_mem hx
  exact R.len (hr q hq (by omega))
 have hci := hall _ (List.getElem_mem (show i < css.length by omega))
 have hn : 0 < R.n := by omega
 have hj' : j < R.n := by omega
 refine h.cell (0 + i * R.n + j) ?_
 rw [Nat.zero_add, flat_get hn hall, Nat.mul_comm, Nat.mul_add_div hn, Nat.div_eq_of_lt hj', Nat.mul_add_mod, Nat.mod_eq_of_lt hj', Nat.add_zero, List.getElem?_eq_getElem (by omega)]
 simp

end Go.Proofs.YtglfajjcgbfehaaGreat
