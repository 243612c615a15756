/- The log opened: its entries' cells, and what their operations' memory is. -/
import Derived.Test.YtglfajjcgbfehaaGreatYTh
namespace Go.Proofs.YtglfajjcgbfehaaGreat
open Go.RowKit

def whoOf (e : EEntry) : Int × Int := (e.batch.client, e.batch.req)

/-- no two entries are one batch's -/
def whoNd (l : List EEntry) : Prop := (l.map whoOf).Nodup

instance (l : List EEntry) : Decidable (whoNd l) := inferInstanceAs (Decidable (List.Nodup _))

/-- the entries' operations, each in memory of its own; but one (z), if there is one -/
def LbsC (z : Option Nat) (css : List (List Value)) (l : List EEntry) : Ch where
 P _ w fp := css.length = l.length ∧ (∀ k, fp k → k < w.heap.size) ∧ ∃ T : Lb, (∀ k, T k ≠ none → fp k) ∧ ∀ i, i < l.length → z ≠ some i → ∃ u, css.getD i [] = cEEntry (l.getD i default) u ∧ LbE T fp w u (l.getD i default).batch
 keep := fun ⟨h1, h2, T, h3, h4⟩ _ hk => ⟨h1, fun k hk' => Nat.lt_of_lt_of_le (h2 k hk') hk.1, T, h3, fun i a b => by
  obtain ⟨u, g1, g2⟩ := h4 i a b
  exact ⟨u, g1, g2.mono (fun _ h => h) (hk.sub fun _ h => .inr h)⟩⟩
 pur := false
 hpur := fun h => by cases h

theorem LbE.at {T : Lb} {A A' : Dm} {w : World} {u : Value} {e : EBatch} (h : LbE T A w u e) (hA : ∀ k, A k → T k = some (e.client, e.req) → A' k) {T' : Lb} (hT : ∀ k, T k = some (e.client, e.req) → A k → T' k = T k) : LbE T' A' w u e := by
 have hk : ∀ k, u.ownBlock = some k → A' k ∧ k < w.heap.size ∧ T' k = some (e.client, e.req) := fun k hk => by
  obtain ⟨h1, h2, h3⟩ := h.lb k hk
  exact ⟨hA k h1 h3, h2, (hT k h3 h1).trans h3⟩
 exact ⟨Ow.slO (Ow.flatA (A' := NoD) NEOp.isFlat h.ow) (fun k h => h.elim) fun k h => (hk k h).1, h.ow, hk⟩

section
variable {I0 D : Dm} {w0 : World} {I : Dm} {w : World} {cs : List Ch}
theorem Ow.ofRaw0 {α : Type} {R : Rp α} {A A' : Dm} {base : Nat} {e : TypeId} {v : Value} {l : List α} {css : List (List Value)} {m : Nat} (hm : R.n = m) (h : Ow (Rraw m) A base e w v css) (hl : css.length = l.length)
  (hr : ∀ g, v.ownBlock = some g → ∀ i, i < l.length → ∃ h2 : i < l.length, R.rep (fun k => A' k ∧ k ≠ g) w (css.getD i []) l[i]) : Ow R A' base e w v l := by
 subst hm
 rcases h with ⟨ao, rfl, rfl⟩ | ⟨g, cap, css', rfl, hown, hl', hr'⟩
 ·have : l = [] := List.eq_nil_of_length_eq_zero (by simpa using hl.symm)
  subst this
  exact Ow.nil _ _ _ _ _ _
 ·have hcc : css' = css := by
   apply List.ext_getElem hl'
   intro i h1 h2
   exact (hr' i h1 h2).1
  subst hcc
  refine .inr ⟨g, cap, css', by rw [hl], by rw [← hl]; exact hown, hl, fun i h1 h2 => ?_⟩
  obtain ⟨_, h3⟩ := hr g rfl i h2
  rw [getD_get _ _ _ h1] at h3; exact h3

/-- the log is its box, its entries' cells, what their operations' memory is, its map -/
def opnL (b : Nat) (x : Erlog_Log) (p : Value × Value × List (List Value)) : List Ch := [BxC b 101 (cErlog_Log x p.1 p.2.1), OwC (Rraw 4) 44 p.1 p.2.2, LbsC none p.2.2 x.l, PmC M_99 p.2.1 x.at_]

theorem OErlog_Log.opn {b : Nat} {x : Erlog_Log} {F : Dm} (h : (OErlog_Log b x).P I w F) : ∃ p, Star I w (opnL b x p) F := by
 obtain ⟨J, f, T, a1, a2, a3, a4, ⟨v1, v2, T'⟩, f1, g1, b1, ⟨f2, g2, b2, ⟨f3, g3, b3, b4, b5, b6⟩, b7, b8⟩, b9, b10⟩ := h
 have hTT : T'.1 = T := funext fun k => T'.2 k trivial
 obtain ⟨css, c1, c2, c3⟩ := Ow.toRaw b2.2.2
 have n2 : ∀ k, f2 k → f k := fun k h => (b10 k).2 (.inr ((b8 k).2 (.inl h)))
 have n3 : ∀ k, f3 k → f k := fun k h => (b10 k).2 (.inr ((b8 k).2 (.inr ((b6 k).2 (.inl h)))))
 have n1 : ∀ k, f1 k → f k := fun k h => (b10 k).2 (.inl h)
 have e3 : ∀ k, g2 k ↔ f3 k := fun k => by rw [b6]; exact ⟨fun h => h.elim id fun h => (b4 k h).elim, .inl⟩
 have hL : (LbsC none css x.l).P I w J := ⟨c1, a3, T, a4, fun i hi _ => by
  obtain ⟨u, d1, d2⟩ := c2 i (by omega) hi
  refine ⟨u, by rw [getD_get _ _ _ (by omega), getD_get _ _ _ hi]; exact d1, ?_⟩
  rw [getD_get _ _ _ hi]
  rw [hTT] at d2
  exact d2.at (fun k hk ht => a4 k (by rw [ht]; exact Option.some_ne_none _)) fun _ _ _ => rfl⟩
 refine ⟨(v1, v2, css), f1, fun k => f2 k ∨ (J k ∨ f3 k), b1, ⟨f2, fun k => J k ∨ f3 k, ⟨b2.1, b2.2.1, c3.keepO (fun _ h => h.elim) (Keep.refl _ _) fun _ _ _ => rfl⟩, ⟨J, f3, hL, ⟨f3, fun _ => False, PmC.any b3, fun _ => id, fun _ _ h => h, fun k => by simp⟩, fun k h h2 => a2 k h (n3 k h2), fun _ => Iff.rfl⟩, fun k h h2 => ?_, fun _ => Iff.rfl⟩, fun k h h2 => ?_, fun k => ?_⟩
 ·rcases h2 with h2 | h2
  ·exact a2 k h2 (n2 k h)
  ·exact b7 k h ((e3 k).2 h2)
 ·rcases h2 with h2 | h2 | h2
  ·exact b9 k h ((b8 k).2 (.inl h2))
  ·exact a2 k h2 (n1 k h)
  ·exact b9 k h ((b8 k).2 (.inr ((e3 k).2 h2)))
 ·rw [a1, b10, b8, e3]
  constructor
  ·rintro (h | h | h | h)
   ·exact .inr (.inr (.inl h))
   ·exact .inl h
   ·exact .inr (.inl h)
   ·exact .inr (.inr (.inr h))
  ·rintro (h | h | h | h)
   ·exact .inr (.inl h)
   ·exact .inr (.inr (.inl h))
   ·exact .inl h
   ·exact .inr (.inr (.inr h))

theorem OErlog_Log.shu {b : Nat} {x : Erlog_Log} {F : Dm} {p : Value × Value × List (List Value)} (h : Star I w (opnL b x p) F) : (OErlog_Log b x).P I w F := by
 obtain ⟨f1, g1, b1, ⟨f2, g2, b2, ⟨J, g3, ⟨c1, c2, T, c3, c4⟩, ⟨f3, g4, b3, b4, b5, b6⟩, d5, d6⟩, b7, b8⟩, b9, b10⟩ := h
 have e3 : ∀ k, g3 k ↔ f3 k := fun k => by rw [b6]; exact ⟨fun h => h.elim id fun h => (b4 k h).elim, .inl⟩
 have hJ2 : ∀ k, J k → ¬ f2 k := fun k h h2 => b7 k h2 ((d6 k).2 (.inl h))
 refine ⟨J, fun k => f1 k ∨ (f2 k ∨ f3 k), T, fun k => ?_, fun k h h2 => ?_, c2, c3, (p.1, p.2.1, ⟨T, fun _ _ => rfl⟩), f1, fun k => f2 k ∨ f3 k, b1, ⟨f2, f3, ⟨b2.1, b2.2.1, ?_⟩, ⟨f3, fun _ => False, PmC.any b3, fun _ => id, fun _ _ h => h, fun k => by simp⟩, fun k h h2 => b7 k h ((d6 k).2 (.inr ((e3 k).2 h2))), fun _ => Iff.rfl⟩, fun k h h2 => ?_, fun _ => Iff.rfl⟩
 ·rw [b10, b8, d6, e3]
  constructor
  ·rintro (h | h | h | h)
   ·exact .inr (.inl h)
   ·exact .inr (.inr (.inl h))
   ·exact .inl h
   ·exact .inr (.inr (.inr h))
  ·rintro (h | h | h | h)
   ·exact .inr (.inr (.inl h))
   ·exact .inl h
   ·exact .inr (.inl h)
   ·exact .inr (.inr (.inr h))
 ·rcases h2 with h2 | h2 | h2
  ·exact b9 k h2 ((b8 k).2 (.inr ((d6 k).2 (.inl h))))
  ·exact hJ2 k h h2
  ·exact d5 k h ((e3 k).2 h2)
 ·refine Ow.ofRaw0 (R := NEEntryO T) rfl b2.2.2 c1 fun g hg i hi => ⟨hi, ?_⟩
  obtain ⟨u, q1, q2⟩ := c4 i hi (by simp)
  rw [getD_get _ _ _ hi] at q1 q2
  exact ⟨u, q1, q2.at (fun k hk _ => ⟨.inr hk, fun e => hJ2 k hk ((b2.1 k).2 (by rw [hg, e]))⟩) fun _ _ _ => rfl⟩
 ·rcases h2 with h2 | h2
  ·exact b9 k h ((b8 k).2 (.inl h2))
  ·exact b9 k h ((b8 k).2 (.inr ((d6 k).2 (.inr ((e3 k).2 h2)))))

theorem Hf.dOpen (H : Hf I0 D w0 I w cs) (j : Nat) {b : Nat} {x : Erlog_Log} (hj : cs[j]? = some (OErlog_Log b x)) : ∃ p, Hf I0 D w0 I w (opnL b x p ++ cs.eraseIdx j) :=
 (H.as j (c' := ExC (opnL b x)) hj fun f hf _ => ⟨f, OErlog_Log.opn hf, fun _ h => h⟩).openX 0 rfl

theorem Hf.dShut {b : Nat} {x : Erlog_Log} (p : Value × Value × List (List Value)) (H : Hf I0 D w0 I w cs) (js : List (Nat × Bool)) {rst : List Ch} (hp : pickN js cs = some (opnL b x p, rst)) : Hf I0 D w0 I w (OErlog_Log b x :: rst) :=
 (Hf.shutX (f := opnL b x) p H js hp).as 0 (c' := OErlog_Log b x) rfl fun f hf _ => ⟨f, OErlog_Log.shu hf.choose_spec, fun _ h => h⟩

theorem who_ne {l : List EEntry} (h : whoNd l) {i j : Nat} (hi : i < l.length) (hj : j < l.length) (hne : i ≠ j) : whoOf (l.getD i default) ≠ whoOf (l.getD j default) := by
 have hp := List.pairwise_iff_getElem.1 (show List.Pairwise (· ≠ ·) (l.map whoOf) from h)
 rw [getD_get _ _ _ hi, getD_get _ _ _ hj]
 rcases Nat.lt_or_gt_of_ne hne with h1 | h1
 ·have := hp i j (by simpa using hi) (by simpa using hj) h1
  simpa using this
 ·have := hp j i (by simpa using hj) (by simpa using hi) h1
  simpa using this.symm

/-- an entry's cells -/
theorem Hf.lbEl (H : Hf I0 D w0 I w cs) (i j : Nat) {e : TypeId} {v : Value} {css : List (List Value)} {l : List EEntry} (hi : cs[i]? = some (OwC (Rraw 4) e v css)) (hj : cs[j]? = some (LbsC none css l)) {z : Int} (hz : 0 ≤ z ∧ z < (l.length : Int)) :
  ∃ u, css.getD z.toNat [] = cEEntry (l.getD z.toNat default) u ∧ At w (blkOf v) (oofOf v + z.toNat * 4) (cEEntry (l.getD z.toNat default) u) := by
 obtain ⟨f, ⟨h1, h2, T, h3, h4⟩, _⟩ := H.get j hj
 obtain ⟨u, g1, g2⟩ := h4 z.toNat (by omega) (by simp)
 exact ⟨u, g1, H.rwAt i hi h1 hz g1⟩

theorem Hf.dlRep (H : Hf I0 D w0 I w cs) (i j : Nat) {e : TypeId} {v : Value} {css : List (List Value)} {l : List EEntry} (hi : cs[i]? = some (OwC (Rraw 4) e v css)) (hj : cs[j]? = some (LbsC none css l)) : slRep NEEntry (fun k => k < w.heap.size) w v l := by
 obtain ⟨f, ⟨h1, h2, T, h3, h4⟩, _⟩ := H.get j hj
 obtain ⟨ao, b, off, cap, rfl, g2, g3, g4, g5⟩ := H.owA i hi
 refine ⟨ao, b, off, cap, by rw [h1], by omega, g3, fun h => g4 (by omega), fun q hq => ?_⟩
 obtain ⟨cs', d1, d2⟩ := g5 q (by omega)
 obtain ⟨u, e1, e2⟩ := h4 q hq (by simp)
 rw [getD_get _ _ _ (by omega), getD_get _ _ _ hq] at e1
 rw [getD_get _ _ _ hq] at e2
 exact ⟨cs', ⟨u, d1.1.trans e1, e2.sl.all⟩, d2⟩

/-- an entry's operations are taken out -/
theorem Hf.lbOut (H : Hf I0 D w0 I w cs) (j : Nat) {css : List (List Value)} {l : List EEntry} (hj : cs[j]? = some (LbsC none css l)) {z : Nat} (hz : z < l.length) (hn : whoNd l) {u : Value} (hu : css.getD z [] = cEEntry (l.getD z default) u) :
  Hf I0 D w0 I w (OwC NEOp 58 u (l.getD z default).batch.ops :: LbsC (some z) css l :: cs.eraseIdx j) := by
 have H2 := H.as j (c' := ExC fun (_ : Unit) => [OwC NEOp 58 u (l.getD z default).batch.ops, LbsC (some z) css l]) hj fun J ⟨h1, h2, T, h3, h4⟩ _ => by
  obtain ⟨u', g1, g2⟩ := h4 z hz (by simp)
  have hu' : u' = u := by
   have := g1.symm.trans hu
   unfold cEEntry at this
   injection this with _ this; injection this with _ this; injection this
  subst hu'
  refine ⟨J, ⟨(), fun k => u'.ownBlock = some k, fun k => J k ∧ u'.ownBlock ≠ some k, ⟨fun _ => Iff.rfl, fun k hk => (g2.lb k hk).2.1, Ow.flatA NEOp.isFlat g2.ow⟩, ⟨fun k => J k ∧ u'.ownBlock ≠ some k, fun _ => False, ⟨h1, fun k hk => h2 k hk.1, fun k => if u'.ownBlock = some k then none else T k, fun k hk => ?_, fun i hi hne => ?_⟩, fun _ => id, fun _ _ h => h, fun k => by simp⟩, fun k a b => b.2 a, fun k => ?_⟩, fun _ h => h⟩
  ·replace hk : (if u'.ownBlock = some k then none else T k) ≠ none := hk
   by_cases q : u'.ownBlock = some k
   ·rw [if_pos q] at hk; exact absurd rfl hk
   ·rw [if_neg q] at hk; exact ⟨h3 k hk, q⟩
  ·obtain ⟨u2, d1, d2⟩ := h4 i hi (by simp)
   refine ⟨u2, d1, d2.at (fun k hk ht => ⟨hk, fun e => ?_⟩) fun k ht hk => if_neg fun e => ?_⟩
   ·exact who_ne hn hi hz (fun e => hne (by rw [e])) (Option.some.inj (ht.symm.trans (g2.lb k e).2.2))
   ·exact who_ne hn hi hz (fun e => hne (by rw [e])) (Option.some.inj (ht.symm.trans (g2.lb k e).2.2))
  ·constructor
   ·intro h
    by_cases q : u'.ownBlock = some k
    ·exact .inl q
    ·exact .inr ⟨h, q⟩
   ·rintro (h | h)
    ·exact (g2.lb k h).1
    ·exact h.1
 exact (H2.openX 0 rfl).choose_spec

theorem getD_set_s {α : Type} {l : List α} {z : Nat} (hz : z < l.length) (y d : α) : (l.set z y).getD z d = y := by
 rw [List.getD_eq_getElem?_getD, List.getElem?_set_self hz]; rfl

theorem getD_set_n {α : Type} {l : List α} {z i : Nat} (h : i ≠ z) (y d : α) : (l.set z y).getD i d = l.getD i d := by
 rw [List.getD_eq_getElem?_getD, List.getElem?_set_ne (fun e => h e.symm), List.getD_eq_getElem?_getD]

/-- the entry with other operations -/
def withOps (e : EEntry) (ops : List EOp) : EEntry := { e with batch := { e.batch with ops := ops } }

/-- .. and others are laid in -/
theorem Hf.lbIn (H : Hf I0 D w0 I w cs) {css : List (List Value)} {l : List EEntry} {z : Nat} (hz : z < l.length) {u : Value} {ops : List EOp} (js : List (Nat × Bool)) {rst : List Ch} (hp : pickN js cs = some ([OwC NEOp 58 u ops, LbsC (some z) css l], rst)) :
  Hf I0 D w0 I w (LbsC none (css.set z (cEEntry (withOps (l.getD z default) ops) u)) (l.set z (withOps (l.getD z default) ops)) :: rst) := by
 refine (Hf.shutX (f := fun (_ : Unit) => [OwC NEOp 58 u ops, LbsC (some z) css l]) () H js hp).as 0 rfl fun F ⟨_, f, g, h1, ⟨J, g2, ⟨a1, a2, T, a3, a4⟩, a5, a6, a7⟩, h3, h4⟩ _ => ⟨F, ⟨by rw [List.length_set, List.length_set]; exact a1, fun k hk => ?_, fun k => if u.ownBlock = some k then some (whoOf (l.getD z default)) else T k, fun k hk => ?_, fun i hi _ => ?_⟩, fun _ h => h⟩
 ·rcases (h4 k).1 hk with h | h
  ·exact h1.2.1 k ((h1.1 k).1 h)
  ·rcases (a7 k).1 h with h | h
   ·exact a2 k h
   ·exact (a5 k h).elim
 ·replace hk : (if u.ownBlock = some k then some (whoOf (l.getD z default)) else T k) ≠ none := hk
  by_cases q : u.ownBlock = some k
  ·exact (h4 k).2 (.inl ((h1.1 k).2 q))
  ·rw [if_neg q] at hk; exact (h4 k).2 (.inr ((a7 k).2 (.inl (a3 k hk))))
 ·rw [List.length_set] at hi
  by_cases q : i = z
  ·subst q
   refine ⟨u, by rw [getD_set_s (by omega), getD_set_s hi], ?_⟩
   rw [getD_set_s hi]
   have hk : ∀ k, u.ownBlock = some k → F k ∧ k < w.heap.size ∧ (if u.ownBlock = some k then some (whoOf (l.getD i default)) else T k) = some (whoOf (l.getD i default)) := fun k hk => ⟨(h4 k).2 (.inl ((h1.1 k).2 hk)), h1.2.1 k hk, if_pos hk⟩
   exact ⟨Ow.slO (Ow.flatA (A' := NoD) NEOp.isFlat h1.2.2) (fun k h => h.elim) fun k h => (hk k h).1, Ow.flatA NEOp.isFlat h1.2.2, hk⟩
  ·obtain ⟨u2, d1, d2⟩ := a4 i hi (by intro e; injection e with e; exact q e.symm)
   rw [getD_set_n q, getD_set_n q]
   exact ⟨u2, d1, d2.at (fun k hk _ => (h4 k).2 (.inr ((a7 k).2 (.inl hk)))) fun k _ hk => if_neg fun e => h3 k ((h1.1 k).2 e) ((a7 k).2 (.inl hk))⟩

variable {ds : List Deferred} {P : Program} (T : Tab P) {ops : Array Oper} {Q : Exit → Act → World → Prop} {a : Act} {rest : List Oper} {o : Oper} {n : Nat} {S : Slots} {G : List GV}
/-- an entry's operations are stored -/
theorem h_dlStore (hok : PsD ds ops n S G a) (H : Hf I0 D w0 I w cs) {t e : TypeId} {p x : Operand} {css : List (List Value)} {l : List EEntry} {v0 u u' : Value} {z : Int} {os : List EOp} (hz : 0 ≤ z ∧ z < (l.length : Int)) (hu : css.getD z.toNat [] = cEEntry (l.getD z.toNat default) u)
  (js : List (Nat × Bool)) {rst : List Ch} (hpk : pickN js cs = some ([OwC (Rraw 4) e v0 css, OwC NEOp 58 u' os, LbsC (some z.toNat) css l], rst)) (hg : o.guard = none) (ho : o.op = .store t p x) (hd : o.dst = none)
  (hp : evS S p = some (.pointer (some ⟨blkOf v0, oofOf v0 + z.toNat * 4 + 2, none⟩))) (hx : evS S x = some u') (ht : T.sz t = some (1, false))
  (h : ∀ w' css', Hf I0 D w0 I w' (LbsC none css' (l.set z.toNat (withOps (l.getD z.toNat default) os)) :: OwC (Rraw 4) e v0 css' :: rst) → wpList P ops Q rest a w') : wpList P ops Q (o :: rest) a w := by
 have H1 : Hf I0 D w0 I w ([OwC (Rraw 4) e v0 css, OwC NEOp 58 u' os, LbsC (some z.toNat) css l] ++ rst) := by
  obtain ⟨fp, h1, h2⟩ := H.star
  obtain ⟨f, g, h3, h4, h5, h6⟩ := h1.pick hpk
  exact ⟨H.frm, H.imm, H.imm2, _, h3.app h4 h5, fun k hk => h2 k ((h6 k).2 hk)⟩
 have hlen : css.length = l.length := (H1.get 2 rfl).choose_spec.1.1
 obtain ⟨ao, cap, hsl, _, _⟩ := H1.owshape 1 rfl
 have h1u : u'.oneCell' = true := by rw [hsl]; rfl
 refine h_setv T hok H1 0 (z := z) (d := []) 2 (cEEntry (withOps (l.getD z.toNat default) os) u') rfl (Rraw.isFlat _) ⟨hz.1, by omega⟩ hg ho hd 4 hp hx h1u ht rfl (by decide) (fun cl hcl => ?_) fun w' H2 => ?_
 ·have e1 : cl.set 2 u' = cEEntry (withOps (l.getD z.toNat default) os) u' := by rw [hcl.1, hu]; rfl
  refine ⟨e1, rfl, fun q hq => ?_⟩
  rw [← e1] at hq
  rcases List.mem_or_eq_of_mem_set hq with hq | rfl
  ·exact hcl.2.2 q (by rw [← hcl.1]; exact hq)
  ·exact h1u
 ·have H3 : Hf I0 D w0 I w' (OwC (Rraw 4) e v0 (css.set z.toNat (cEEntry (withOps (l.getD z.toNat default) os) u')) :: OwC NEOp 58 u' os :: LbsC (some z.toNat) css l :: rst) := H2
  have H4 := Hf.lbIn H3 (z := z.toNat) (by omega) (u := u') (ops := os) [(1, false), (1, false)] rfl
  exact h w' _ H4

end
end Go.Proofs.YtglfajjcgbfehaaGreat
