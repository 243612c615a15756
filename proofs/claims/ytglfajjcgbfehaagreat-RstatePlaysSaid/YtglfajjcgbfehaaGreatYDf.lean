/- Stores of whole elements into one's own slice, and its clearing. No program is named here. -/
import Derived.Test.YtglfajjcgbfehaaGreatYRv
namespace Go.Proofs.YtglfajjcgbfehaaGreat
open Go.RowKit

theorem take_put : ∀ (us cs : List Value) (off N : Nat), (putCells cs off us).take N = putCells (cs.take N) off us
 | [], _, _, _ => rfl
 | u :: us, cs, off, N => by
  show (putCells (cs.set off u) (off + 1) us).take N = putCells ((cs.take N).set off u) (off + 1) us
  rw [take_put us, List.take_set]

theorem len_put : ∀ (us cs : List Value) (off : Nat), (putCells cs off us).length = cs.length
 | [], _, _ => rfl
 | u :: us, cs, off => by
  show (putCells (cs.set off u) (off + 1) us).length = _
  rw [len_put us, List.length_set]

theorem flat_put {n : Nat} (hn : 0 < n) : ∀ (us : List Value) (css : List (List Value)) (z j : Nat) (hz : z < css.length), (∀ cs ∈ css, cs.length = n) → j + us.length ≤ n → putCells css.flatten (z * n + j) us = (css.set z (putCells css[z] j us)).flatten
 | [], css, z, j, hz, _, _ => by show css.flatten = (css.set z css[z]).flatten; rw [List.set_getElem_self]
 | u :: us, css, z, j, hz, hl, hj => by
  have hj' : j < n := by simp at hj; omega
  show putCells (css.flatten.set (z * n + j) u) (z * n + j + 1) us = _
  rw [flat_set hn hl z j hz hj']
  have hl2 : ∀ cs ∈ css.set z (css[z].set j u), cs.length = n := fun cs hc => by
   rcases List.mem_or_eq_of_mem_set hc with hc | rfl
   ·exact hl cs hc
   ·rw [List.length_set]; exact hl _ (List.getElem_mem hz)
  have := flat_put hn us (css.set z (css[z].set j u)) z (j + 1) (by rw [List.length_set]; exact hz) hl2 (by simp at hj; omega)
  rw [show z * n + j + 1 = z * n + (j + 1) by omega, this]
  congr 1
  rw [List.set_set]
  congr 1
  rw [List.getElem_set_self]; rfl

theorem Ow.box {α : Type} {R : Rp α} {A : Dm} {base : Nat} {e : TypeId} {w : World} {v : Value} {l : List α} (h : Ow R A base e w v l) (hl : 0 < l.length) :
  ∃ (g cap : Nat) (cs : List Value) (css : List (List Value)), v = .slice (some ⟨g, 0, none⟩) l.length cap ∧ Box w g e cs ∧ base ≤ g ∧ l.length ≤ cap ∧ cap ≤ maxLen ∧ cs.length = cap * R.n ∧ cs.take (l.length * R.n) = css.flatten ∧ css.length = l.length ∧ ∀ i (h1 : i < css.length) (h2 : i < l.length), R.rep (fun k => A k ∧ k ≠ g) w css[i] l[i] := by
 rcases h with ⟨ao, _, rfl⟩ | ⟨g, cap, css, rfl, hown, h3, h4⟩
 ·simp at hl
 ·rcases hown.2 with ⟨h1, _⟩ | ⟨g', cap', cur, hv, hbase, hg, hnc, hcm, hcs, htake⟩
  ·injection h1 with h1; cases h1
  ·injection hv with e1 e2 e3
   injection e1 with e1
   injection e1 with e1
   subst e1; subst e3
   exact ⟨g, cap, cur.toList, css, rfl, by unfold Box; rw [hg], hbase, hnc, hcm, by simpa using hcs, htake, h3, h4⟩

theorem Ow.ofBox {α : Type} {R : Rp α} {A : Dm} {base : Nat} {e : TypeId} {w : World} {l : List α} {g cap : Nat} {cs : List Value} {css : List (List Value)} (hb : Box w g e cs) (h0 : base ≤ g) (h1 : l.length ≤ cap) (h2 : cap ≤ maxLen) (h3 : cs.length = cap * R.n) (h4 : cs.take (l.length * R.n) = css.flatten) (h5 : css.length = l.length)
  (h6 : ∀ i (h1 : i < css.length) (h2 : i < l.length), R.rep (fun k => A k ∧ k ≠ g) w css[i] l[i]) : Ow R A base e w (.slice (some ⟨g, 0, none⟩) l.length cap) l := by
 refine .inr ⟨g, cap, css, rfl, ⟨?_, .inr ⟨g, cap, cs.toArray, rfl, h0, hb, h1, h2, by simpa using h3, by simpa using h4⟩⟩, h5, h6⟩
 rw [← h4, List.length_take, h3]
 exact Nat.min_eq_left (Nat.mul_le_mul_right _ h1)

section
variable {ds : List Deferred} {P : Program} (T : Tab P) {ops : Array Oper} {Q : Exit → Act → World → Prop} {a : Act} {w : World} {rest : List Oper} {o : Oper} {n : Nat} {S : Slots} {G : List GV}
variable {I0 D : Dm} {w0 : World} {I : Dm} {cs : List Ch}
/-- a chunk of one's own slice, behind a change in its block alone -/
theorem Hf.owTurn {α : Type} {R : Rp α} (H : Hf I0 D w0 I w cs) (i : Nat) {e : TypeId} {g cap : Nat} {v : Value} {l l' : List α} (hi : cs[i]? = some (OwC R e v l)) (hv : v.ownBlock = some g) {w' : World} (ht : Turn g w w') (hO : Ow R I 0 e w' (.slice (some ⟨g, 0, none⟩) l'.length cap) l') :
  Hf I0 D w0 I w' (OwC R e (.slice (some ⟨g, 0, none⟩) l'.length cap) l' :: cs.eraseIdx i) :=
 H.turn i hi fun f hf hk => ⟨⟨ht.os, ht.tape, ht.output, Nat.le_of_eq ht.size.symm, fun k _ hk => ht.block k fun e => hk ((hf.1 k).2 (by rw [hv, e]))⟩, f, ⟨fun k => by rw [hf.1 k, hv]; rfl, fun k hk' => by
  have : v.ownBlock = some k := by rw [hv]; exact hk'
  have := hf.2.1 k this
  rw [ht.size]; exact this, hO⟩, fun k hk' => ⟨.inl hk', by rw [ht.size]; exact (hk k hk').1⟩⟩

/-- a store of a whole element -/
theorem h_setE {α : Type} {R : Rp α} (hok : PsD ds ops n S G a) (H : Hf I0 D w0 I w cs) (i : Nat) {t e : TypeId} {p x : Operand} {l : List α} {v0 v : Value} {z : Int} (y : α) (us : List Value) (hi : cs[i]? = some (OwC R e v0 l)) (hF : R.Flat)
  (hz : 0 ≤ z ∧ z < (l.length : Int)) (hg : o.guard = none) (ho : o.op = .store t p x) (hd : o.dst = none) (m : Nat) {gg : Bool} (hp : evS S p = some (.pointer (some ⟨blkOf v0, oofOf v0 + z.toNat * m, none⟩))) (hx : evS S x = some v) (hus : v.cells = us.toArray) (h1 : ∀ u ∈ us, u.oneCell' = true) (ht : T.sz t = some (m, gg)) (hm : R.n = m) (hl : us.length = m) (hm0 : 0 < m)
  (hy : ∀ A w, R.rep A w us y)
  (h : ∀ w', Hf I0 D w0 I w' (OwC R e v0 (l.set z.toNat y) :: cs.eraseIdx i) → wpList P ops Q rest a w') : wpList P ops Q (o :: rest) a w := by
 subst hm
 have hk : z.toNat < l.length := by omega
 obtain ⟨g, cap, cl, css, rfl, hb, h0, hc1, hc2, hcl, htk, hcs, hr⟩ := Ow.box (H.ow i hi) (by omega)
 have hb0 : blkOf (.slice (some ⟨g, 0, none⟩) l.length cap) = g := rfl
 have ho0 : oofOf (.slice (some ⟨g, 0, none⟩) l.length cap) = 0 := rfl
 rw [hb0, ho0, Nat.zero_add] at hp
 have hrow : ∀ r ∈ css, r.length = R.n := fun r hr' => by
  obtain ⟨q, hq, rfl⟩ := List.getElem_of_mem hr'
  exact R.len (hr q hq (by omega))
 have hle : (z.toNat + 1) * R.n ≤ l.length * R.n := Nat.mul_le_mul_right _ hk
 have hle2 : l.length * R.n ≤ cap * R.n := Nat.mul_le_mul_right _ hc1
 have hzr : (z.toNat + 1) * R.n = z.toNat * R.n + R.n := by rw [Nat.add_mul, Nat.one_mul]
 refine s_store T hok hb hg ho hd hp hx hus ht hl h1 (by rw [hl, hcl]; omega) rfl fun w' htn hb' => h w' ?_
 have hput : (putCells cl (z.toNat * R.n) us).take ((l.set z.toNat y).length * R.n) = (css.set z.toNat us).flatten := by
  rw [List.length_set, take_put, htk]
  have := flat_put hm0 us css z.toNat 0 (by omega) hrow (by omega)
  rw [Nat.add_zero] at this
  rw [this, putCells_all (by rw [hl]; exact (hrow _ (List.getElem_mem _)).symm)]
 have hO : Ow R I 0 e w' (.slice (some ⟨g, 0, none⟩) (l.set z.toNat y).length cap) (l.set z.toNat y) :=
  Ow.ofBox hb' h0 (by rw [List.length_set]; exact hc1) hc2 (by rw [len_put]; exact hcl) hput (by rw [List.length_set, List.length_set]; exact hcs) fun q a b => by
   rw [List.getElem_set, List.getElem_set]
   by_cases e : z.toNat = q
   ·rw [if_pos e, if_pos e]; exact hy _ _
   ·rw [if_neg e, if_neg e]
    rw [List.length_set] at a b
    exact hF _ _ _ _ _ _ (hr q a b)
 have := H.owTurn i hi rfl htn hO
 rw [List.length_set] at this
 exact this

theorem zero_cells (zr : List Value) (hm : 0 < zr.length) (k : Nat) : (Builtin.zeroCells zr.toArray k).toList = (List.replicate k zr).flatten := by
 apply List.ext_getElem?
 intro j
 rw [flat_get hm (fun c hc => by rw [List.eq_of_mem_replicate hc])]
 unfold Builtin.zeroCells
 rw [Array.toList_map, List.getElem?_map, Array.toList_range, List.getElem?_replicate]
 have hs : zr.toArray.size = zr.length := by simp
 rw [hs]
 by_cases h : j < k * zr.length
 ·have h2 : j / zr.length < k := (Nat.div_lt_iff_lt_mul hm).2 h
  rw [if_pos h2, List.getElem?_range h]
  have h3 : j % zr.length < zr.length := Nat.mod_lt _ hm
  simp [h3]
 ·have h2 : ¬ j / zr.length < k := fun x => h ((Nat.div_lt_iff_lt_mul hm).1 x)
  rw [if_neg h2, List.getElem?_eq_none (by simpa using Nat.le_of_not_lt h)]; rfl

/-- the last elements are cleared -/
theorem h_clear {α : Type} {R : Rp α} (hok : PsD ds ops n S G a) (H : Hf I0 D w0 I w cs) (i : Nat) {t e el : TypeId} {x : Operand} {l : List α} {v0 zv : Value} {z : Int} (d : α) (zr : List Value) (hi : cs[i]? = some (OwC R e v0 l)) (hF : R.Flat)
  (hz : 0 ≤ z ∧ z ≤ (l.length : Int)) (hg : o.guard = none) (ho : o.op = .call { callee := .builtin .clear, args := #[x], argTypes := #[t] }) (hd : o.dst = none) (m : Nat) (hx : evS S x = some (subV v0 z.toNat l.length m)) (hu : P.underlying t = some (.slice el)) (hzv : ∀ w, (zeroValue el).run P w = .ok zv w) (hzr : zv.cells = zr.toArray)
  (h1 : ∀ u ∈ zr, u.oneCell' = true) (hm : R.n = m) (hl : zr.length = m) (hm0 : 0 < m) (hy : ∀ A w, R.rep A w zr d)
  (h : ∀ w', Hf I0 D w0 I w' (OwC R e v0 (l.take z.toNat ++ List.replicate (l.length - z.toNat) d) :: cs.eraseIdx i) → wpList P ops Q rest a w') : wpList P ops Q (o :: rest) a w := by
 subst hm
 have hlen : (l.take z.toNat ++ List.replicate (l.length - z.toNat) d).length = l.length := by simp; omega
 by_cases hk : z.toNat = l.length
 ·-- nothing to be cleared
  have e0 : l.take z.toNat ++ List.replicate (l.length - z.toNat) d = l := by rw [hk, List.take_length, Nat.sub_self]; simp
  obtain ⟨ao, cap, rfl, _, _⟩ := H.owshape i hi
  have hx' : evS S x = some (.slice (subA ao cap z.toNat R.n) 0 (cap - z.toNat)) := by rw [hx]; unfold subV; rw [hk, Nat.sub_self]
  refine wpList_run hg (v := .tuple #[]) (w' := w) ?_ (by rw [hd]; exact h w (by rw [e0]; exact (H.as i hi fun f hf _ => ⟨f, hf, fun _ h => h⟩)))
  unfold execOp
  simp [ho, hok.sl.ev hx', resolve, invoke, builtin, Builtin.clear_, run_underlying hu, Result.andThen]
  cases subA ao cap z.toNat R.n <;> rfl
 have hk' : z.toNat < l.length := by omega
 obtain ⟨g, cap, cl, css, rfl, hb, h0, hc1, hc2, hcl, htk, hcs, hr⟩ := Ow.box (H.ow i hi) (by omega)
 have hx' : evS S x = some (.slice (some ⟨g, z.toNat * R.n, none⟩) (l.length - z.toNat) (cap - z.toNat)) := by
  rw [hx]; unfold subV subA; dsimp only
  rw [if_neg (by omega)]; simp [Addr.add]; exact fun h => h.symm
 have hrow : ∀ r ∈ css, r.length = R.n := fun r hr' => by
  obtain ⟨q, hq, rfl⟩ := List.getElem_of_mem hr'
  exact R.len (hr q hq (by omega))
 have hle2 : l.length * R.n ≤ cap * R.n := Nat.mul_le_mul_right _ hc1
 have hfl : ∀ (L : List (List Value)), (∀ r ∈ L, r.length = R.n) → L.flatten.length = L.length * R.n := by
  intro L hL
  induction L with
  | nil => simp
  | cons r L ih => rw [List.flatten_cons, List.length_append, ih fun r hr => hL r (List.mem_cons_of_mem _ hr), hL r List.mem_cons_self, List.length_cons, Nat.add_mul, Nat.one_mul, Nat.add_comm]
 have hus : ((List.replicate (l.length - z.toNat) zr).flatten).length = (l.length - z.toNat) * R.n := by
  rw [hfl _ (fun r hr => by rw [List.eq_of_mem_replicate hr]; exact hl), List.length_replicate]
 have hsum : z.toNat * R.n + (l.length - z.toNat) * R.n = l.length * R.n := by rw [← Nat.add_mul]; congr 1; omega
 obtain ⟨w', hr', hb', htn⟩ := run_storeCells_box (P := P) (List.replicate (l.length - z.toNat) zr).flatten 0 (z.toNat * R.n) cl w hb (by rw [hus, hcl]; omega) fun u hu' => by
  obtain ⟨r, hr1, hr2⟩ := List.mem_flatten.1 hu'
  rw [List.eq_of_mem_replicate hr1] at hr2; exact h1 u hr2
 have hput : (putCells cl (z.toNat * R.n) (List.replicate (l.length - z.toNat) zr).flatten).take (l.length * R.n) = (css.take z.toNat ++ List.replicate (l.length - z.toNat) zr).flatten := by
  rw [take_put, htk]
  have hp1 : ((css.take z.toNat).flatten).length = z.toNat * R.n := by
   rw [hfl _ (fun r hr => hrow r (List.mem_of_mem_take hr)), List.length_take]; congr 1; omega
  have hp2 : ((css.drop z.toNat).flatten).length = (l.length - z.toNat) * R.n := by
   rw [hfl _ (fun r hr => hrow r (List.mem_of_mem_drop hr)), List.length_drop, hcs]
  have := putCells_over (List.replicate (l.length - z.toNat) zr).flatten (css.take z.toNat).flatten (css.drop z.toNat).flatten (by rw [hus, hp2])
  rw [hp1, ← List.flatten_append, List.take_append_drop, ← List.flatten_append] at this
  exact this
 have hO : Ow R I 0 e w' (.slice (some ⟨g, 0, none⟩) (l.take z.toNat ++ List.replicate (l.length - z.toNat) d).length cap) (l.take z.toNat ++ List.replicate (l.length - z.toNat) d) :=
  Ow.ofBox (by simpa using hb') h0 (by rw [hlen]; exact hc1) hc2 (by rw [len_put]; exact hcl) (by rw [hlen]; exact hput) (by rw [hlen]; simp; omega) fun q a b => by
   by_cases e : q < z.toNat
   ·have e1 : (css.take z.toNat ++ List.replicate (l.length - z.toNat) zr)[q] = css[q]'(by omega) := by rw [List.getElem_append_left (by simp; omega), List.getElem_take]
    have e2 : (l.take z.toNat ++ List.replicate (l.length - z.toNat) d)[q] = l[q]'(by omega) := by rw [List.getElem_append_left (by simp; omega), List.getElem_take]
    rw [e1, e2]
    exact hF _ _ _ _ _ _ (hr q (by omega) (by omega))
   ·have e1 : (css.take z.toNat ++ List.replicate (l.length - z.toNat) zr)[q] = zr := by rw [List.getElem_append_right (by simp; omega), List.getElem_replicate]
    have e2 : (l.take z.toNat ++ List.replicate (l.length - z.toNat) d)[q] = d := by rw [List.getElem_append_right (by simp; omega), List.getElem_replicate]
    rw [e1, e2]; exact hy _ _
 refine wpList_run hg (v := .tuple #[]) (w' := w') ?_ ?_
 ·unfold execOp
  obtain ⟨q, hq⟩ : ∃ q, l.length - z.toNat = q + 1 := ⟨l.length - z.toNat - 1, by omega⟩
  rw [hq] at hx' hr'
  rw [← zero_cells zr (by omega)] at hr'
  simp [ho, hok.sl.ev hx', resolve, invoke, builtin, Builtin.clear_, run_underlying hu, hzv, hzr, hr', Result.andThen]
 ·rw [hd]
  have := H.owTurn i hi rfl htn hO
  rw [hlen] at this
  exact h w' this

end
end Go.Proofs.YtglfajjcgbfehaaGreat
