/- Elements of owned slices with parts: stores into them, looks at them in regions of any order; slices of bytes that a string came to. No program is named here. -/
import Derived.Test.YtmdoimpeacndaaaYQU
import Derived.Test.YtmdoimpeacndaaaYS
import Derived.Laws.IdiomStrings
namespace Go.Proofs.Ytmdoimpeacndaaa
open Go.RowKit

/-- rows of cells that read as a list -/
def RpsC {α : Type} (R : Rp α) (css : List (List Value)) (l : List α) : Ch where
 P I w fp := (∀ k, ¬ fp k) ∧ css.length = l.length ∧ ∀ i (h1 : i < css.length) (h2 : i < l.length), R.rep I w css[i] l[i]
 keep := fun ⟨h1, h2, h3⟩ hI hk => ⟨h1, h2, fun i a b => R.mono (h3 i a b) hI (hk.sub fun _ h => .inl h)⟩
 pur := true
 hpur := fun _ _ _ _ h => h.1

theorem Ow.ofRawI {α : Type} {R : Rp α} {A : Nat → Prop} {base : Nat} {e : TypeId} {w : World} {v : Value} {l : List α} {css : List (List Value)} (h : Ow (Rraw R.n) A base e w v css) (hl : css.length = l.length)
  (hr : ∀ i (h1 : i < css.length) (h2 : i < l.length), R.rep A w css[i] l[i]) (hg : ∀ g, v.ownBlock = some g → ¬ A g) : Ow R A base e w v l := by
 rcases h with ⟨ao, rfl, rfl⟩ | ⟨g, cap, css', rfl, hown, hl', hr'⟩
 ·have : l = [] := List.eq_nil_of_length_eq_zero (by simpa using hl.symm)
  subst this
  exact Ow.nil _ _ _ _ _ _
 ·have hcc : css' = css := by
   apply List.ext_getElem hl'
   intro i h1 h2
   exact (hr' i h1 h2).1
  subst hcc
  refine .inr ⟨g, cap, css', by rw [hl], ?_, hl, fun i h1 h2 => R.mono (hr i h1 h2) (fun k hk => ⟨hk, fun e => hg g rfl (e ▸ hk)⟩) (Keep.refl _ _)⟩
  rw [← hl]; exact hown

section
variable {I0 D : Dm} {w0 : World} {I : Dm} {w : World} {cs : List Ch} {α : Type} {R : Rp α}
theorem Hf.rps (H : Hf I0 D w0 I w cs) (j : Nat) {css : List (List Value)} {l : List α} (hj : cs[j]? = some (RpsC R css l)) : css.length = l.length ∧ ∀ i (h1 : i < css.length) (h2 : i < l.length), R.rep I w css[i] l[i] := (H.get j hj).choose_spec.1.2

theorem Hf.erase (H : Hf I0 D w0 I w cs) (i : Nat) {c : Ch} (h : cs[i]? = some c) : Hf I0 D w0 I w (cs.eraseIdx i) := by
 obtain ⟨fp, h1, h2⟩ := H.star
 obtain ⟨f, g, _, h4, _, h6⟩ := h1.take h
 exact ⟨H.frm, H.imm, H.imm2, g, h4, fun k hk => h2 k ((h6 k).2 (.inr hk))⟩

theorem Hf.rwOpen (H : Hf I0 D w0 I w cs) (i : Nat) {e : TypeId} {v : Value} {l : List α} (hi : cs[i]? = some (OwC R e v l)) : ∃ css, css.length = l.length ∧ Hf I0 D w0 I w (RpsC R css l :: OwC (Rraw R.n) e v css :: cs.eraseIdx i) := by
 obtain ⟨css, h1, h2, h3⟩ := Ow.toRaw (H.ow i hi)
 refine ⟨css, h1, (H.as i hi (c' := OwC (Rraw R.n) e v css) fun f hf hk => ⟨f, ⟨hf.1, hf.2.1, h3.keepO (fun _ h => h.elim) (Keep.refl _ _) fun _ _ _ => rfl⟩, fun _ h => h⟩).add (f := fun _ => False) (c := RpsC R css l) ⟨fun _ => id, h1, h2⟩ fun _ => id⟩

theorem Hf.rwShut (H : Hf I0 D w0 I w cs) (i j : Nat) {m : Nat} {e : TypeId} {v : Value} {css : List (List Value)} {l : List α} (hi : cs[i]? = some (OwC (Rraw m) e v css)) (hj : cs[j]? = some (RpsC R css l)) (hm : R.n = m) : Hf I0 D w0 I w (OwC R e v l :: cs.eraseIdx i) := by
 subst hm
 obtain ⟨h1, h2⟩ := H.rps j hj
 exact H.as i hi fun f hf hk => ⟨f, ⟨hf.1, hf.2.1, Ow.ofRawI hf.2.2 h1 h2 fun g hg => (hk g ((hf.1 g).2 hg)).2⟩, fun _ h => h⟩

section
variable {ds : List Deferred} {P : Program} (T : Tab P) {ops : Array Oper} {Q : Exit → Act → World → Prop} {a : Act} {rest : List Oper} {o : Oper} {n : Nat} {S : Slots} {G : List GV}
theorem h_setR (hok : PsD ds ops n S G a) (H : Hf I0 D w0 I w cs) (i : Nat) {t e : TypeId} {p x : Operand} {l : List α} {v0 v : Value} {d : α} {z : Int} (c : Nat) (y : α) (hi : cs[i]? = some (OwC R e v0 l))
  (hz : 0 ≤ z ∧ z < (l.length : Int)) (hg : o.guard = none) (ho : o.op = .store t p x) (hd : o.dst = none) (m : Nat) (hp : evS S p = some (.pointer (some ⟨blkOf v0, oofOf v0 + z.toNat * m + c, none⟩))) (hx : evS S x = some v) (h1 : v.oneCell' = true) (ht : T.sz t = some (1, false)) (hm : R.n = m) (hc : c < m)
  (hy : ∀ cl, R.rep I w cl (l.getD z.toNat d) → R.rep I w (cl.set c v) y)
  (h : ∀ w', Hf I0 D w0 I w' (OwC R e v0 (l.set z.toNat y) :: cs.eraseIdx i) → wpList P ops Q rest a w') : wpList P ops Q (o :: rest) a w := by
 have hk : z.toNat < l.length := by omega
 obtain ⟨css, hl, H1⟩ := H.rwOpen i hi
 obtain ⟨_, h2⟩ := H1.rps 0 rfl
 have hkc : z.toNat < css.length := by omega
 have e1 : css.getD z.toNat [] = css[z.toNat] := getD_get _ _ _ hkc
 have r0 : R.rep I w ((css.getD z.toNat []).set c v) y := hy _ (by rw [getD_get _ _ _ hk, e1]; exact h2 _ hkc hk)
 have H2 := H1.add (f := fun _ => False) (c := RpsC R [(css.getD z.toNat []).set c v] [y]) ⟨fun _ => id, rfl, fun i a b => by
  have : i = 0 := Nat.lt_one_iff.1 b
  subst this; exact r0⟩ fun _ => id
 refine h_setv T hok H2 2 (z := z) (d := []) c ((css.getD z.toNat []).set c v) rfl (Rraw.isFlat _) ⟨hz.1, by omega⟩ hg ho hd m hp hx h1 ht hm hc (fun cl hcl => ?_) fun w' H3 => h w' ?_
 ·refine ⟨by rw [hcl.1], by rw [List.length_set]; exact hcl.2.1, fun u hu => ?_⟩
  rcases List.mem_or_eq_of_mem_set hu with hu | rfl
  ·exact hcl.2.2 u hu
  ·exact h1
 ·have H4 : Hf I0 D w0 I w' (OwC (Rraw R.n) e v0 (css.set z.toNat ((css.getD z.toNat []).set c v)) :: RpsC R [(css.getD z.toNat []).set c v] [y] :: RpsC R css l :: cs.eraseIdx i) := H3
  obtain ⟨_, g1⟩ := H4.rps 1 rfl
  obtain ⟨_, g2⟩ := H4.rps 2 rfl
  have g3 : R.rep I w' ((css.getD z.toNat []).set c v) y := g1 0 (by simp) (by simp)
  have H5 := H4.add (f := fun _ => False) (c := RpsC R (css.set z.toNat ((css.getD z.toNat []).set c v)) (l.set z.toNat y)) ⟨fun _ => id, by rw [List.length_set, List.length_set]; exact hl, fun i a b => by
   rw [List.length_set] at a b
   rw [List.getElem_set, List.getElem_set]
   by_cases q : z.toNat = i
   ·rw [if_pos q, if_pos q]; exact g3
   ·rw [if_neg q, if_neg q]; exact g2 i a b⟩ fun _ => id
  exact (((H5.rwShut 1 0 rfl rfl rfl).erase 1 rfl).erase 1 rfl).erase 1 rfl

end
end

/-- what a callee that answers plain values looks at -/
theorem stB (w : World) : St (fun k => k < w.heap.size) NoD w [] := St.none _ w fun _ h => h

theorem stS {w : World} {cs : List Ch} {α : Type} {R : Rp α} {A : Dm} {v : Value} {l : List α} (hs : slRep R A w v l) (h : St (fun k => k < w.heap.size) NoD w cs) : St (fun k => k < w.heap.size) NoD w (SlC R v l :: cs) := h.cons (f := fun _ => False) ⟨fun _ => id, hs.all⟩ fun _ => id

-- slices of bytes that a string came to
section
variable {I0 D : Dm} {w0 : World} {I : Dm} {w : World} {cs : List Ch} {v : Value} {l : List Int}
section
variable {ds : List Deferred} {P : Program} (T : Tab P) {ops : Array Oper} {Q : Exit → Act → World → Prop} {a : Act} {rest : List Oper} {o : Oper} {n : Nat} {S : Slots} {G : List GV}
end
end
end Go.Proofs.Ytmdoimpeacndaaa
