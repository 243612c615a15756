/- Memory as a list of chunks that do not meet: what a walk knows of the world is one fact. No program is named here. -/
import Derived.Test.YtglfajjcgbfehaaGreatSt6
namespace Go.Proofs.YtglfajjcgbfehaaGreat
open Go.RowKit
variable {ds : List Deferred}

abbrev Dm := Nat → Prop

def NoD : Dm := fun _ => False

/-- a chunk: what holds in a world, over a footprint; I: the blocks that never turn -/
structure Ch where
 P : Dm → World → Dm → Prop
 keep : ∀ {I I' fp : Dm} {w w' : World}, P I w fp → (∀ k, I k → I' k) → Keep (fun k => I k ∨ fp k) w w' → P I' w' fp
 pur : Bool
 hpur : pur = true → ∀ {I fp : Dm} {w : World}, P I w fp → ∀ k, ¬ fp k

def Star (I : Dm) (w : World) : List Ch → Dm → Prop
 | [], fp => ∀ k, ¬ fp k
 | c :: cs, fp => ∃ f g : Dm, c.P I w f ∧ Star I w cs g ∧ (∀ k, f k → ¬ g k) ∧ ∀ k, fp k ↔ (f k ∨ g k)

theorem Keep.sub {A A' : Dm} {w w' : World} (h : Keep A w w') (hA : ∀ k, A' k → A k) : Keep A' w w' := ⟨h.1, fun k hk hl => h.2 k (hA k hk) hl⟩

theorem Star.keep {I I' : Dm} {w w' : World} : ∀ {cs : List Ch} {fp : Dm}, Star I w cs fp → (∀ k, I k → I' k) → Keep (fun k => I k ∨ fp k) w w' → Star I' w' cs fp
 | [], _, h, _, _ => h
 | c :: cs, fp, ⟨f, g, h1, h2, h3, h4⟩, hI, hk => ⟨f, g, c.keep h1 hI (hk.sub fun k h => h.imp id fun h => (h4 k).2 (.inl h)), Star.keep h2 hI (hk.sub fun k h => h.imp id fun h => (h4 k).2 (.inr h)), h3, h4⟩

theorem Star.iff {I : Dm} {w : World} : ∀ {cs : List Ch} {fp fp' : Dm}, Star I w cs fp → (∀ k, fp' k ↔ fp k) → Star I w cs fp'
 | [], _, _, h, e => fun k hk => h k ((e k).1 hk)
 | _ :: _, _, _, ⟨f, g, h1, h2, h3, h4⟩, e => ⟨f, g, h1, h2, h3, fun k => (e k).trans (h4 k)⟩

theorem Star.get {I : Dm} {w : World} : ∀ {cs : List Ch} {fp : Dm} {i : Nat} {c : Ch}, Star I w cs fp → cs[i]? = some c → ∃ f, c.P I w f ∧ ∀ k, f k → fp k
 | [], _, _, _, _, h => by simp at h
 | c :: cs, fp, 0, x, ⟨f, g, h1, h2, h3, h4⟩, h => by
  simp at h; subst h; exact ⟨f, h1, fun k hk => (h4 k).2 (.inl hk)⟩
 | c :: cs, fp, i + 1, x, ⟨f, g, h1, h2, h3, h4⟩, h => by
  obtain ⟨f', h5, h6⟩ := Star.get h2 (by simpa using h)
  exact ⟨f', h5, fun k hk => (h4 k).2 (.inr (h6 k hk))⟩

/-- the i-th chunk alone, and the others -/
theorem Star.take {I : Dm} {w : World} : ∀ {cs : List Ch} {fp : Dm} {i : Nat} {c : Ch}, Star I w cs fp → cs[i]? = some c → ∃ f g, c.P I w f ∧ Star I w (cs.eraseIdx i) g ∧ (∀ k, f k → ¬ g k) ∧ ∀ k, fp k ↔ (f k ∨ g k)
 | [], _, _, _, _, h => by simp at h
 | c :: cs, fp, 0, x, ⟨f, g, h1, h2, h3, h4⟩, h => by
  simp at h; subst h; exact ⟨f, g, h1, h2, h3, h4⟩
 | c :: cs, fp, i + 1, x, ⟨f, g, h1, h2, h3, h4⟩, h => by
  obtain ⟨f', g', h5, h6, h7, h8⟩ := Star.take h2 (by simpa using h)
  refine ⟨f', fun k => f k ∨ g' k, h5, ⟨f, g', h1, h6, fun k hf hg => h3 k hf ((h8 k).2 (.inr hg)), fun k => Iff.rfl⟩, fun k hf hg => ?_, fun k => ?_⟩
  ·rcases hg with hg | hg
   ·exact h3 k hg ((h8 k).2 (.inl hf))
   ·exact h7 k hf hg
  ·rw [h4, h8]; constructor
   ·rintro (h | h | h)
    ·exact .inr (.inl h)
    ·exact .inl h
    ·exact .inr (.inr h)
   ·rintro (h | h | h)
    ·exact .inr (.inl h)
    ·exact .inl h
    ·exact .inr (.inr h)

/-- chunks chosen, in their order (a pure one may be copied: true), and the others -/
def pickN : List (Nat × Bool) → List Ch → Option (List Ch × List Ch)
 | [], cs => some ([], cs)
 | (j, cp) :: js, cs => match cs[j]? with
  | none => none
  | some c => match cp with
   | true => match c.pur, pickN js cs with
    | true, some p => some (c :: p.1, p.2)
    | _, _ => none
   | false => match pickN js (cs.eraseIdx j) with
    | some p => some (c :: p.1, p.2)
    | none => none

theorem Star.pick {I : Dm} {w : World} : ∀ {js : List (Nat × Bool)} {cs cin rest : List Ch} {fp : Dm}, Star I w cs fp → pickN js cs = some (cin, rest) → ∃ f g, Star I w cin f ∧ Star I w rest g ∧ (∀ k, f k → ¬ g k) ∧ ∀ k, fp k ↔ (f k ∨ g k)
 | [], cs, cin, rest, fp, h, hp => by
  simp only [pickN, Option.some.injEq, Prod.mk.injEq] at hp
  obtain ⟨rfl, rfl⟩ := hp
  exact ⟨fun _ => False, fp, fun k => id, h, fun k h => h.elim, fun k => by simp⟩
 | (j, cp) :: js, cs, cin, rest, fp, h, hp => by
  unfold pickN at hp
  split at hp
  ·cases hp
  ·rename_i c hc
   split at hp
   ·split at hp
    ·rename_i p hpu hp2
     injection hp with hp; injection hp with e1 e2; subst e1; subst e2
     obtain ⟨f, g, h1, h2, h3, h4⟩ := Star.pick h hp2
     obtain ⟨f', h5, _⟩ := h.get hc
     have h6 := c.hpur hpu h5
     exact ⟨f, g, ⟨f', f, h5, h1, fun k hk => (h6 k hk).elim, fun k => ⟨.inr, fun h => h.elim (fun h => (h6 k h).elim) id⟩⟩, h2, h3, h4⟩
    ·cases hp
   ·split at hp
    ·rename_i p hp2
     injection hp with hp; injection hp with e1 e2; subst e1; subst e2
     obtain ⟨f0, g0, h5, h6, h7, h8⟩ := h.take hc
     obtain ⟨f, g, h1, h2, h3, h4⟩ := Star.pick h6 hp2
     refine ⟨fun k => f0 k ∨ f k, g, ⟨f0, f, h5, h1, fun k a b => h7 k a ((h4 k).2 (.inl b)), fun k => Iff.rfl⟩, h2, fun k a b => ?_, fun k => ?_⟩
     ·rcases a with a | a
      ·exact h7 k a ((h4 k).2 (.inr b))
      ·exact h3 k a b
     ·rw [h8, h4, or_assoc]
    ·cases hp

theorem Star.app {I : Dm} {w : World} : ∀ {c1 c2 : List Ch} {f g : Dm}, Star I w c1 f → Star I w c2 g → (∀ k, f k → ¬ g k) → Star I w (c1 ++ c2) (fun k => f k ∨ g k)
 | [], c2, f, g, h1, h2, h3 => h2.iff fun k => ⟨fun h => h.elim (fun h => (h1 k h).elim) id, .inr⟩
 | c :: c1, c2, f, g, ⟨f1, f2, a, b, d, e⟩, h2, h3 =>
  ⟨f1, fun k => f2 k ∨ g k, a, Star.app b h2 (fun k x => h3 k ((e k).2 (.inr x))), fun k x y => y.elim (d k x) (h3 k ((e k).2 (.inl x))), fun k => by simp only [e, or_assoc]⟩

/-- what has become of the time before: only D has turned, and there is more -/
structure Frm (D : Dm) (w0 w : World) : Prop where
 os : w.os = w0.os
 tape : w.tape = w0.tape
 output : w.output = w0.output
 size : w0.heap.size ≤ w.heap.size
 block : ∀ k, k < w0.heap.size → ¬ D k → w.heap[k]? = w0.heap[k]?

theorem Frm.refl (D : Dm) (w : World) : Frm D w w := ⟨rfl, rfl, rfl, Nat.le_refl _, fun _ _ _ => rfl⟩

theorem Frm.toBelow {D : Dm} {w w' : World} (h : Frm D w w') (hD : ∀ k, ¬ D k) : Below w.heap.size w w' := ⟨h.os, h.tape, h.output, h.size, fun k hk => h.block k hk (hD k)⟩

/-- the memory of a walk: it began in w0 with what lay over D and with I0, which never turns -/
structure Hf (I0 D : Dm) (w0 : World) (I : Dm) (w : World) (cs : List Ch) : Prop where
 frm : Frm D w0 w
 imm : ∀ k, I0 k → I k
 imm2 : ∀ k, I k → k < w.heap.size ∧ (I0 k ∨ D k ∨ w0.heap.size ≤ k)
 star : ∃ fp, Star I w cs fp ∧ ∀ k, fp k → ¬ I k ∧ k < w.heap.size ∧ (D k ∨ w0.heap.size ≤ k)

/-- how a walk begins -/
structure St (I D : Dm) (w : World) (cs : List Ch) : Prop where
 imm : ∀ k, I k → k < w.heap.size
 star : Star I w cs D
 sep : ∀ k, D k → ¬ I k ∧ k < w.heap.size

theorem St.hf {I D : Dm} {w : World} {cs : List Ch} (h : St I D w cs) : Hf I D w I w cs := ⟨Frm.refl _ _, fun _ h => h, fun k hk => ⟨h.imm k hk, .inl hk⟩, D, h.star, fun k hk => ⟨(h.sep k hk).1, (h.sep k hk).2, .inl hk⟩⟩

section
variable {I0 D : Dm} {w0 : World} {I : Dm} {w : World} {cs : List Ch}

theorem Hf.get (H : Hf I0 D w0 I w cs) (i : Nat) {c : Ch} (h : cs[i]? = some c) : ∃ f, c.P I w f ∧ ∀ k, f k → ¬ I k ∧ k < w.heap.size ∧ (D k ∨ w0.heap.size ≤ k) := by
 obtain ⟨fp, h1, h2⟩ := H.star
 obtain ⟨f, h3, h4⟩ := h1.get h
 exact ⟨f, h3, fun k hk => h2 k (h4 k hk)⟩

/-- a call (or any step) takes some chunks and gives others back -/
theorem Hf.call (H : Hf I0 D w0 I w cs) {js : List (Nat × Bool)} {cin rest : List Ch} (hp : pickN js cs = some (cin, rest)) :
  ∃ D1, St I D1 w cin ∧ ∀ {I' w' co}, Hf I D1 w I' w' co → Hf I0 D w0 I' w' (co ++ rest) := by
 obtain ⟨fp, h1, h2⟩ := H.star
 obtain ⟨f, g, h3, h4, h5, h6⟩ := h1.pick hp
 refine ⟨f, ⟨fun k hk => (H.imm2 k hk).1, h3, fun k hk => ⟨(h2 k ((h6 k).2 (.inl hk))).1, (h2 k ((h6 k).2 (.inl hk))).2.1⟩⟩, fun {I' w' co} K => ?_⟩
 obtain ⟨fo, k1, k2⟩ := K.star
 have hkeep : Keep (fun k => I k ∨ g k) w w' := ⟨K.frm.size, fun k hk hl => K.frm.block k hl fun hf => by
  rcases hk with hk | hk
  ·exact (h2 k ((h6 k).2 (.inl hf))).1 hk
  ·exact h5 k hf hk⟩
 refine ⟨⟨K.frm.os.trans H.frm.os, K.frm.tape.trans H.frm.tape, K.frm.output.trans H.frm.output, Nat.le_trans H.frm.size K.frm.size, fun k hk hD => ?_⟩, fun k hk => K.imm k (H.imm k hk), fun k hk => ⟨(K.imm2 k hk).1, ?_⟩, _, k1.app (h4.keep K.imm hkeep) (fun k a b => ?_), fun k hk => ?_⟩
 ·have hlt : k < w.heap.size := Nat.lt_of_lt_of_le hk H.frm.size
  rw [K.frm.block k hlt fun hf => ?_, H.frm.block k hk hD]
  rcases (h2 k ((h6 k).2 (.inl hf))).2.2 with h | h
  ·exact hD h
  ·omega
 ·rcases (K.imm2 k hk).2 with h | h | h
  ·exact (H.imm2 k h).2
  ·exact .inr (h2 k ((h6 k).2 (.inl h))).2.2
  ·exact .inr (.inr (Nat.le_trans H.frm.size h))
 ·rcases (k2 k a).2.2 with h | h
  ·exact h5 k h b
  ·have := (h2 k ((h6 k).2 (.inr b))).2.1; omega
 ·rcases hk with hk | hk
  ·refine ⟨(k2 k hk).1, (k2 k hk).2.1, ?_⟩
   rcases (k2 k hk).2.2 with h | h
   ·exact (h2 k ((h6 k).2 (.inl h))).2.2
   ·exact .inr (Nat.le_trans H.frm.size h)
  ·have h7 := h2 k ((h6 k).2 (.inr hk))
   refine ⟨fun hI' => ?_, Nat.lt_of_lt_of_le h7.2.1 K.frm.size, h7.2.2⟩
   rcases (K.imm2 k hI').2 with h | h | h
   ·exact h7.1 h
   ·exact h5 k h hk
   ·omega

/-- some chunks, in another order; the others are let go -/
theorem Hf.sub (H : Hf I0 D w0 I w cs) (js : List (Nat × Bool)) {cin rest : List Ch} (hp : pickN js cs = some (cin, rest)) : Hf I0 D w0 I w cin := by
 obtain ⟨fp, h1, h2⟩ := H.star
 obtain ⟨f, g, h3, h4, h5, h6⟩ := h1.pick hp
 exact ⟨H.frm, H.imm, H.imm2, f, h3, fun k hk => h2 k ((h6 k).2 (.inl hk))⟩

/-- all memory that was stays as it was -/
theorem Hf.blw (H : Hf I0 D w0 I w cs) {w' : World} (hb : Below w.heap.size w w') : Hf I0 D w0 I w' cs := by
 obtain ⟨fp, h1, h2⟩ := H.star
 refine ⟨⟨hb.os.trans H.frm.os, hb.tape.trans H.frm.tape, hb.output.trans H.frm.output, Nat.le_trans H.frm.size hb.size, fun k hk hD => (hb.block k (Nat.lt_of_lt_of_le hk H.frm.size)).trans (H.frm.block k hk hD)⟩, H.imm, fun k hk => ⟨Nat.lt_of_lt_of_le (H.imm2 k hk).1 hb.size, (H.imm2 k hk).2⟩, fp, h1.keep (fun _ h => h) (Keep.below hb), fun k hk => ⟨(h2 k hk).1, Nat.lt_of_lt_of_le (h2 k hk).2.1 hb.size, (h2 k hk).2.2⟩⟩

/-- one chunk turns -/
theorem Hf.turn (H : Hf I0 D w0 I w cs) (i : Nat) {c c' : Ch} {w' : World} (h : cs[i]? = some c)
  (hs : ∀ f, c.P I w f → (∀ k, f k → k < w.heap.size ∧ ¬ I k) → Frm f w w' ∧ ∃ f', c'.P I w' f' ∧ ∀ k, f' k → (f k ∨ w.heap.size ≤ k) ∧ k < w'.heap.size) : Hf I0 D w0 I w' (c' :: cs.eraseIdx i) := by
 have hp : pickN [(i, false)] cs = some ([c], cs.eraseIdx i) := by simp [pickN, h]
 obtain ⟨D1, h1, h2⟩ := H.call hp
 obtain ⟨f, g, h3, h4, h5, h6⟩ := h1.star
 have hD1 : ∀ k, D1 k ↔ f k := fun k => by rw [h6]; exact ⟨fun h => h.elim id fun h => (h4 k h).elim, .inl⟩
 obtain ⟨hf, f', h7, h8⟩ := hs f h3 (fun k hk => ⟨(h1.sep k ((hD1 k).2 hk)).2, (h1.sep k ((hD1 k).2 hk)).1⟩)
 refine h2 (co := [c']) ⟨⟨hf.os, hf.tape, hf.output, hf.size, fun k hk hD => hf.block k hk fun h => hD ((hD1 k).2 h)⟩, fun _ h => h, fun k hk => ⟨Nat.lt_of_lt_of_le (H.imm2 k hk).1 hf.size, .inl hk⟩, f', ⟨f', fun _ => False, h7, fun _ => id, fun _ _ h => h, fun k => by simp⟩, fun k hk => ⟨fun hI => ?_, (h8 k hk).2, ?_⟩⟩
 ·rcases (h8 k hk).1 with h | h
  ·exact (h1.sep k ((hD1 k).2 h)).1 hI
  ·have := (H.imm2 k hI).1; omega
 ·exact (h8 k hk).1.imp (hD1 k).2 id

/-- a chunk told otherwise -/
theorem Hf.as (H : Hf I0 D w0 I w cs) (i : Nat) {c c' : Ch} (h : cs[i]? = some c) (hs : ∀ f, c.P I w f → (∀ k, f k → k < w.heap.size ∧ ¬ I k) → ∃ f', c'.P I w f' ∧ ∀ k, f' k → f k) : Hf I0 D w0 I w (c' :: cs.eraseIdx i) :=
 H.turn i h fun f hf hk => ⟨Frm.refl _ _, (hs f hf hk).imp fun _ h => ⟨h.1, fun k x => ⟨.inl (h.2 k x), (hk k (h.2 k x)).1⟩⟩⟩

/-- new memory -/
theorem Hf.new (H : Hf I0 D w0 I w cs) {w' : World} (hb : Below w.heap.size w w') {c : Ch} {f : Dm} (hc : c.P I w' f) (hf : ∀ k, f k → w.heap.size ≤ k ∧ k < w'.heap.size) : Hf I0 D w0 I w' (c :: cs) := by
 have H' := H.blw hb
 obtain ⟨fp, h1, h2⟩ := H.star
 have hst : Star I w' cs fp := h1.keep (fun _ h => h) (Keep.below hb)
 refine ⟨H'.frm, H'.imm, H'.imm2, _, ⟨f, fp, hc, hst, fun k a b => ?_, fun k => Iff.rfl⟩, fun k hk => ?_⟩
 ·have := (hf k a).1; have := (h2 k b).2.1; omega
 ·rcases hk with hk | hk
  ·refine ⟨fun hI => ?_, (hf k hk).2, .inr (Nat.le_trans H.frm.size (hf k hk).1)⟩
   have := (H.imm2 k hI).1; have := (hf k hk).1; omega
  ·exact ⟨(h2 k hk).1, Nat.lt_of_lt_of_le (h2 k hk).2.1 hb.size, (h2 k hk).2.2⟩

/-- a pure fact more -/
theorem Hf.add (H : Hf I0 D w0 I w cs) {c : Ch} {f : Dm} (hc : c.P I w f) (hf : ∀ k, ¬ f k) : Hf I0 D w0 I w (c :: cs) :=
 H.new (Below.refl _ _) hc fun k hk => (hf k hk).elim

/-- a chunk never turns any more -/
theorem Hf.freeze (H : Hf I0 D w0 I w cs) (i : Nat) {c c' : Ch} (h : cs[i]? = some c) (hs : ∀ f I', c.P I w f → (∀ k, I' k ↔ (I k ∨ f k)) → ∃ g, c'.P I' w g ∧ ∀ k, ¬ g k) : ∃ I', (∀ k, I k → I' k) ∧ Hf I0 D w0 I' w (c' :: cs.eraseIdx i) := by
 obtain ⟨fp, h1, h2⟩ := H.star
 obtain ⟨f, g, h3, h4, h5, h6⟩ := h1.take h
 obtain ⟨g', h7, h8⟩ := hs f (fun k => I k ∨ f k) h3 (fun k => Iff.rfl)
 refine ⟨fun k => I k ∨ f k, fun k hk => .inl hk, H.frm, fun k hk => .inl (H.imm k hk), fun k hk => ?_, g, ⟨g', g, h7, h4.keep (fun k hk => .inl hk) (Keep.refl _ _), fun k a => (h8 k a).elim, fun k => ⟨.inr, fun h => h.elim (fun h => (h8 k h).elim) id⟩⟩, fun k hk => ⟨fun hI => ?_, (h2 k ((h6 k).2 (.inr hk))).2⟩⟩
 ·rcases hk with hk | hk
  ·exact H.imm2 k hk
  ·exact ⟨(h2 k ((h6 k).2 (.inl hk))).2.1, .inr (h2 k ((h6 k).2 (.inl hk))).2.2⟩
 ·rcases hI with hI | hI
  ·exact (h2 k ((h6 k).2 (.inr hk))).1 hI
  ·exact h5 k hI hk

theorem Hf.below (H : Hf I0 D w0 I w cs) (hD : ∀ k, ¬ D k) : Below w0.heap.size w0 w := H.frm.toBelow hD

theorem Hf.eq (H : Hf I0 D w0 I w cs) {cs' : List Ch} (h : cs = cs') : Hf I0 D w0 I w cs' := h ▸ H

end

/-- no memory of the walk's own at first -/
theorem St.none (I : Dm) (w : World) (hI : ∀ k, I k → k < w.heap.size) : St I NoD w [] := ⟨hI, fun _ h => h, fun _ h => h.elim⟩

-- the chunks

/-- a block of its own -/
def BxC (b : Nat) (t : TypeId) (l : List Value) : Ch where
 P _ w fp := (∀ k, fp k ↔ k = b) ∧ Box w b t l
 keep := fun ⟨h1, h2⟩ _ hk => ⟨h1, h2.keep (hk.2 b (.inr ((h1 b).2 rfl)) h2.lt)⟩
 pur := false
 hpur := fun h => by cases h

/-- a slice that is only read, of blocks that never turn -/
def SlC {α : Type} (R : Rp α) (v : Value) (l : List α) : Ch where
 P I w fp := (∀ k, ¬ fp k) ∧ slRep R I w v l
 keep := fun ⟨h1, h2⟩ hI hk => ⟨h1, h2.mono hI (hk.sub fun _ h => .inl h)⟩
 pur := true
 hpur := fun _ _ _ _ h => h.1

theorem Ow.keepO {α : Type} {R : Rp α} {A A' : Dm} {base : Nat} {e : TypeId} {w w' : World} {v : Value} {l : List α} (h : Ow R A base e w v l) (hA : ∀ k, A k → A' k) (hk : Keep A w w') (hb : ∀ k, v.ownBlock = some k → k < w.heap.size → w'.heap[k]? = w.heap[k]?) : Ow R A' base e w' v l := by
 rcases h with ⟨ao, rfl, rfl⟩ | ⟨g, cap, css, rfl, hown, hl, hr⟩
 ·exact Ow.nil _ _ _ _ _ _
 ·refine .inr ⟨g, cap, css, rfl, ⟨hown.1, ?_⟩, hl, fun i h1 h2 => R.mono (hr i h1 h2) (fun k hk => ⟨hA k hk.1, hk.2⟩) ⟨hk.1, fun k ha hlt => hk.2 k ha.1 hlt⟩⟩
  rcases hown.2 with h1 | ⟨g', cap', cur, hv', hbase, hg, rest⟩
  ·exact .inl h1
  ·have hv2 := hv'
   injection hv' with e1 _ _
   injection e1 with e1
   injection e1 with e1
   subst e1
   exact .inr ⟨g, cap', cur, hv2, hbase, (hb g rfl (Array.getElem?_eq_some_iff.1 hg).1).trans hg, rest⟩

/-- a slice of the walk's own, with all its room -/
def OwC {α : Type} (R : Rp α) (e : TypeId) (v : Value) (l : List α) : Ch where
 P I w fp := (∀ k, fp k ↔ v.ownBlock = some k) ∧ (∀ k, v.ownBlock = some k → k < w.heap.size) ∧ Ow R I 0 e w v l
 keep := fun ⟨h1, h2, h3⟩ hI hk => ⟨h1, fun k h => Nat.lt_of_lt_of_le (h2 k h) hk.1, h3.keepO hI (hk.sub fun _ h => .inl h) fun k h hl => hk.2 k (.inr ((h1 k).2 h)) hl⟩
 pur := false
 hpur := fun h => by cases h

/-- some chunks, of which not all values are told -/
def ExC {α : Type} (f : α → List Ch) : Ch where
 P I w fp := ∃ x, Star I w (f x) fp
 keep := fun ⟨x, h⟩ hI hk => ⟨x, h.keep hI hk⟩
 pur := false
 hpur := fun h => by cases h

/-- a plain fact -/
def PfC (p : Prop) : Ch where
 P _ _ fp := (∀ k, ¬ fp k) ∧ p
 keep := fun h _ _ => h
 pur := true
 hpur := fun _ _ _ _ h => h.1

section
variable {I0 D : Dm} {w0 : World} {I : Dm} {w : World} {cs : List Ch} {α : Type} {R : Rp α}

theorem Hf.bx (H : Hf I0 D w0 I w cs) (i : Nat) {b : Nat} {t : TypeId} {l : List Value} (h : cs[i]? = some (BxC b t l)) : Box w b t l := (H.get i h).choose_spec.1.2

theorem Hf.sl (H : Hf I0 D w0 I w cs) (i : Nat) {v : Value} {l : List α} (h : cs[i]? = some (SlC R v l)) : slRep R I w v l := (H.get i h).choose_spec.1.2

theorem Hf.ow (H : Hf I0 D w0 I w cs) (i : Nat) {e : TypeId} {v : Value} {l : List α} (h : cs[i]? = some (OwC R e v l)) : Ow R I 0 e w v l := (H.get i h).choose_spec.1.2.2

theorem Hf.owlt (H : Hf I0 D w0 I w cs) (i : Nat) {e : TypeId} {v : Value} {l : List α} (h : cs[i]? = some (OwC R e v l)) : ∀ k, v.ownBlock = some k → k < w.heap.size := (H.get i h).choose_spec.1.2.1

theorem Hf.pf (H : Hf I0 D w0 I w cs) (i : Nat) {p : Prop} (h : cs[i]? = some (PfC p)) : p := (H.get i h).choose_spec.1.2

/-- where any block may lie -/
theorem slRep.all {A : Dm} {v : Value} {l : List α} (h : slRep R A w v l) : slRep R (fun k => k < w.heap.size) w v l := h.bound.mono (fun _ h => h.2) (Keep.refl _ _)

theorem Hf.owA (H : Hf I0 D w0 I w cs) (i : Nat) {e : TypeId} {v : Value} {l : List α} (h : cs[i]? = some (OwC R e v l)) : slRep R (fun k => k < w.heap.size) w v l :=
 (Ow.sl (A' := AnyA) (H.ow i h) (fun _ _ => trivial) (fun _ _ => trivial)).all

theorem Hf.owshape (H : Hf I0 D w0 I w cs) (i : Nat) {e : TypeId} {v : Value} {l : List α} (h : cs[i]? = some (OwC R e v l)) : ∃ ao cap, v = .slice ao l.length cap ∧ l.length ≤ cap ∧ cap ≤ maxLen := (H.ow i h).len_le

theorem Hf.slshape (H : Hf I0 D w0 I w cs) (i : Nat) {v : Value} {l : List α} (h : cs[i]? = some (SlC R v l)) : ∃ ao cap, v = .slice ao l.length cap ∧ l.length ≤ cap ∧ cap ≤ maxLen := (H.sl i h).shape

theorem Hf.addsl (H : Hf I0 D w0 I w cs) {v : Value} {l : List α} (h : slRep R I w v l) : Hf I0 D w0 I w (SlC R v l :: cs) := H.add (f := fun _ => False) (c := SlC R v l) ⟨fun _ => id, h⟩ fun _ => id

/-- an element of a slice of the walk's own: its inner parts never turn -/
theorem Hf.eltO [Inhabited α] (H : Hf I0 D w0 I w cs) (i : Nat) {e : TypeId} {ao : Option Addr} {n cap : Nat} {l : List α} (h : cs[i]? = some (OwC R e (.slice ao n cap) l)) (k : Nat) (hk : k < l.length) : ao = some ⟨bOf ao, oOf ao, none⟩ ∧ (True ∧ bOf ao < w.heap.size) ∧ ∃ cl, R.rep I w cl (l.getD k default) ∧ At w (bOf ao) (oOf ao + k * R.n) cl := by
 obtain ⟨css, h1, h2, h3⟩ := Ow.toRaw (H.ow i h)
 have hA : slRep (Rraw R.n) AnyA w (.slice ao n cap) css := h3.sl (fun _ _ => trivial) (fun _ _ => trivial)
 obtain ⟨e1, ⟨_, e2⟩, cl, e3, e4⟩ := elt hA k (by omega)
 have e5 : css.getD k default = cl := e3.1.symm
 have h4 := h2 k (by omega) hk
 rw [← getD_get css k default (by omega), e5] at h4
 exact ⟨e1, ⟨trivial, e2⟩, cl, by rw [getD_get _ _ _ hk]; exact h4, e4⟩

end

end Go.Proofs.YtglfajjcgbfehaaGreat
