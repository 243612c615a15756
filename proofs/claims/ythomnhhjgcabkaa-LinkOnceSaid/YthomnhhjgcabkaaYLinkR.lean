/- Links: from one side to the other: learning, starting anew, telling, plain. -/
import Derived.Test.YthomnhhjgcabkaaYLinkQ
namespace Go.Proofs.Ythomnhhjgcabkaa

section
variable {A A' : Elink_Link} {S rb : Int} {pr : Elink_side} {T : Int} {W : ESeg → Prop} {H : Hs} {M : Ms}
def setM (M : Ms) (b s v : Int) : Ms := fun b' s' => if b' = b ∧ s' = s then v else M b' s'

theorem setM_cases (M : Ms) (b s v b' s' : Int) : (setM M b s v b' s' = v ∧ b' = b ∧ s' = s) ∨ (setM M b s v b' s' = M b' s' ∧ ¬ (b' = b ∧ s' = s)) := by
 unfold setM
 by_cases c : b' = b ∧ s' = s
 ·left; rw [if_pos c]; exact ⟨rfl, c⟩
 ·right; rw [if_neg c]; exact ⟨rfl, c⟩

def setH (H : Hs) (b s : Int) (l : List Int) : Hs := fun b' s' => if b' = b ∧ s' = s then l else H b' s'

theorem setH_cases (H : Hs) (b s : Int) (l : List Int) (b' s' : Int) : (setH H b s l b' s' = l ∧ b' = b ∧ s' = s) ∨ (setH H b s l b' s' = H b' s' ∧ ¬ (b' = b ∧ s' = s)) := by
 unfold setH
 by_cases c : b' = b ∧ s' = s
 ·left; rw [if_pos c]; exact ⟨rfl, c⟩
 ·right; rw [if_neg c]; exact ⟨rfl, c⟩

theorem getD_drop (l : List Int) (k i : Nat) : (l.drop k).getD i 0 = l.getD (k + i) 0 := by simp [List.getD_eq_getElem?_getD]

/-- the first peer is learned -/
theorem Dir.learn0 (h : Dir A S rb pr T W H M) {v : Int} (hp : A.peer.boot = 0) (hv : 0 < v ∧ v ≤ rb) (ok : lkOk A') (e1 : A'.boot = A.boot) (e2 : A'.stream = A.stream) (e3 : A'.q.first = A.q.first) (e4 : A'.q.l = A.q.l) (e5 : A'.peer.boot = v) : Dir A' S rb pr T W H (setM M A.boot A.stream v) := by
 obtain ⟨h1, h2, h3, h4, h5, h6, h7, h8, h9, h10, h11, h12, h12', h13, h14⟩ := h
 have hs1 : A.stream = 1 := by have := h1.str2; have := h1.stream; omega
 have hM : M A.boot A.stream = 0 := by rw [h8, hp]
 refine ⟨ok, by rw [e1, e2, e3, e4]; exact h2, by rw [e1, e2, e3, e4]; exact h3, h4, h5, h6, fun b s hbs => ?_, ?_, fun b s => ?_, fun b s s' q1 q2 q3 => ?_, by rw [e1, e2]; exact h11, h12, h12', ?_, fun s hs => ?_⟩
 ·rw [e1, e2] at hbs
  rcases setM_cases M A.boot A.stream v b s with ⟨_, c⟩ | ⟨c, _⟩
  ·omega
  ·rw [c]; exact h7 b s hbs
 ·rw [e1, e2, e5]; unfold setM; exact if_pos ⟨rfl, rfl⟩
 ·rcases setM_cases M A.boot A.stream v b s with ⟨c, _⟩ | ⟨c, _⟩
  ·rw [c]; exact hv.2
  ·rw [c]; exact h9 b s
 ·rcases setM_cases M A.boot A.stream v b s' with ⟨c, d⟩ | ⟨c, d⟩
  ·omega
  ·rw [c] at q3 ⊢
   rcases setM_cases M A.boot A.stream v b s with ⟨c', d'⟩ | ⟨c', d'⟩
   ·have := (h7 b s' (.inr ⟨d'.1, by omega⟩)).2; omega
   ·rw [c']; exact h10 b s s' q1 q2 q3
 ·rcases h13 with q | ⟨b, s, i, q1, q2, q3, q4, q5⟩
  ·exact .inl q
  ·refine .inr ⟨b, s, i, q1, q2, q3, ?_, q5⟩
   rcases setM_cases M A.boot A.stream v b s with ⟨_, d⟩ | ⟨c, _⟩
   ·rw [d.1, d.2] at q4; omega
   ·rw [c]; exact q4
 ·obtain ⟨a1, a2, a3, a4, a5, a6⟩ := h14 s hs
  refine ⟨a1, a2, by rw [e1, e2]; exact a3, fun q => ?_, ?_, a6⟩
  ·rcases setM_cases M A.boot A.stream v s.boot s.stream with ⟨_, d⟩ | ⟨c, _⟩
   ·omega
   ·rw [c]; exact a4 q
  ·rcases setM_cases M A.boot A.stream v s.boot s.stream with ⟨c, d⟩ | ⟨c, _⟩
   ·left; rw [d.1, d.2, hM] at a5; omega
   ·rw [c]; exact a5

/-- a later peer is learned: all is numbered anew -/
theorem Dir.learn1 (h : Dir A S rb pr T W H M) {v : Int} (hp : 0 < A.peer.boot) (hv : A.peer.boot < v ∧ v ≤ rb) (ok : lkOk A') (e1 : A'.boot = A.boot) (e2 : A'.stream = A.stream + 1) (e3 : A'.q.first = 0) (e4 : A'.q.l = A.q.l) (e5 : A'.peer.boot = v) :
  Dir A' S rb pr T W (setH H A.boot (A.stream + 1) ((H A.boot A.stream).drop A.q.first.toNat)) (setM M A.boot (A.stream + 1) v) := by
 obtain ⟨h1, h2, h3, h4, h5, h6, h7, h8, h9, h10, h11, h12, h12', h13, h14⟩ := h
 have hf := h1.first
 have hst := h1.stream
 have hn := h7 A.boot (A.stream + 1) (.inr ⟨rfl, by omega⟩)
 have gt : ∀ b s i, i < (setH H A.boot (A.stream + 1) ((H A.boot A.stream).drop A.q.first.toNat) b s).length → (i < (H b s).length ∧ (setH H A.boot (A.stream + 1) ((H A.boot A.stream).drop A.q.first.toNat) b s).getD i 0 = (H b s).getD i 0) ∨ (b = A.boot ∧ s = A.stream + 1 ∧ A.q.first.toNat + i < (H A.boot A.stream).length ∧ (setH H A.boot (A.stream + 1) ((H A.boot A.stream).drop A.q.first.toNat) b s).getD i 0 = (H A.boot A.stream).getD (A.q.first.toNat + i) 0) := fun b s i hi => by
  rcases setH_cases H A.boot (A.stream + 1) ((H A.boot A.stream).drop A.q.first.toNat) b s with ⟨c, d1, d2⟩ | ⟨c, _⟩
  ·right; rw [c] at hi ⊢
   rw [List.length_drop] at hi
   exact ⟨d1, d2, by omega, getD_drop _ _ _⟩
  ·left; rw [c] at hi ⊢; exact ⟨hi, rfl⟩
 have old : ∀ b s, ¬ (H b s).length = 0 → setH H A.boot (A.stream + 1) ((H A.boot A.stream).drop A.q.first.toNat) b s = H b s := fun b s hne => by
  rcases setH_cases H A.boot (A.stream + 1) ((H A.boot A.stream).drop A.q.first.toNat) b s with ⟨_, d1, d2⟩ | ⟨c, _⟩
  ·rw [d1, d2, hn.1] at hne; exact absurd rfl hne
  ·exact c
 have hcur : setH H A.boot (A.stream + 1) ((H A.boot A.stream).drop A.q.first.toNat) A.boot (A.stream + 1) = (H A.boot A.stream).drop A.q.first.toNat := by unfold setH; exact if_pos ⟨rfl, rfl⟩
 refine ⟨ok, ?_, fun i hi => ?_, fun b s i j hij hj => ?_, fun b s i hi => ?_, fun b s b' s' i j hb hi hj => ?_, fun b s hbs => ?_, ?_, fun b s => ?_, fun b s s' q1 q2 q3 => ?_, ?_, ?_, h12', ?_, fun s hs => ?_⟩
 ·rw [e1, e2, e3, e4, hcur, List.length_drop]; omega
 ·rw [e4] at hi ⊢
  rw [e1, e2, e3, hcur, getD_drop, h3 i hi]
  congr 2; simp
 ·have hi' : i < (setH H A.boot (A.stream + 1) ((H A.boot A.stream).drop A.q.first.toNat) b s).length := by omega
  rcases gt b s i hi' with ⟨c1, c2⟩ | ⟨d1, d2, c1, c2⟩
  ·rcases gt b s j hj with ⟨f1, f2⟩ | ⟨g1, g2, f1, f2⟩
   ·rw [c2, f2]; exact h4 b s i j hij f1
   ·rw [g1, g2, hn.1] at c1; simp at c1
  ·rcases gt b s j hj with ⟨f1, f2⟩ | ⟨g1, g2, f1, f2⟩
   ·rw [d1, d2, hn.1] at f1; simp at f1
   ·rw [c2, f2]; exact h4 _ _ _ _ (by omega) f1
 ·rcases gt b s i hi with ⟨c1, c2⟩ | ⟨d1, d2, c1, c2⟩
  ·rw [c2]; exact h5 b s i c1
  ·rw [c2]; exact h5 _ _ _ c1
 ·rcases gt b s i hi with ⟨c1, c2⟩ | ⟨d1, d2, c1, c2⟩
  ·rcases gt b' s' j hj with ⟨f1, f2⟩ | ⟨g1, g2, f1, f2⟩
   ·rw [c2, f2]; exact h6 b s b' s' i j hb c1 f1
   ·rw [c2, f2]; exact h6 b s A.boot A.stream i _ (by omega) c1 f1
  ·rcases gt b' s' j hj with ⟨f1, f2⟩ | ⟨g1, g2, f1, f2⟩
   ·rw [c2, f2]; exact h6 A.boot A.stream b' s' _ j (by omega) c1 f1
   ·omega
 ·rw [e1, e2] at hbs
  rcases setH_cases H A.boot (A.stream + 1) ((H A.boot A.stream).drop A.q.first.toNat) b s with ⟨_, c⟩ | ⟨c, _⟩
  ·omega
  rcases setM_cases M A.boot (A.stream + 1) v b s with ⟨_, d⟩ | ⟨d, _⟩
  ·omega
  rw [c, d]; exact h7 b s (by omega)
 ·rw [e1, e2, e5]; unfold setM; exact if_pos ⟨rfl, rfl⟩
 ·rcases setM_cases M A.boot (A.stream + 1) v b s with ⟨c, _⟩ | ⟨c, _⟩
  ·rw [c]; exact hv.2
  ·rw [c]; exact h9 b s
 ·rcases setM_cases M A.boot (A.stream + 1) v b s' with ⟨c, d⟩ | ⟨c, d⟩
  ·rw [c]
   rcases setM_cases M A.boot (A.stream + 1) v b s with ⟨c', d'⟩ | ⟨c', d'⟩
   ·omega
   ·rw [c', d.1]
    by_cases es : s = A.stream
    ·rw [es, h8]; exact hv.1
    ·have := h10 A.boot s A.stream q1 (by omega) (by rw [h8]; exact hp)
     rw [h8] at this; omega
  ·rw [c] at q3 ⊢
   rcases setM_cases M A.boot (A.stream + 1) v b s with ⟨c', d'⟩ | ⟨c', d'⟩
   ·have := (h7 b s' (.inr ⟨d'.1, by omega⟩)).2; omega
   ·rw [c']; exact h10 b s s' q1 q2 q3
 ·rw [e1, e2]; clear h13; omega
 ·refine ⟨h12.1, ?_⟩
  by_cases z : pr.next = 0
  ·exact .inl z
  ·have : pr.next ≤ ((H pr.boot pr.stream).length : Int) := h12.2.resolve_left z
   rw [old _ _ (by omega)]; exact .inr this
 ·rcases h13 with q | ⟨b, s, i, q1, q2, q3, q4, q5⟩
  ·exact .inl q
  ·refine .inr ⟨b, s, i, q1, by rw [old b s (by omega)]; exact q2, by rw [old b s (by omega)]; exact q3, ?_, q5⟩
   rcases setM_cases M A.boot (A.stream + 1) v b s with ⟨_, d⟩ | ⟨c, _⟩
   ·rw [d.1, d.2, hn.1] at q2; simp at q2
   ·rw [c]; exact q4
 ·obtain ⟨a1, a2, a3, a4, a5, a6⟩ := h14 s hs
  have hne : ¬ (s.boot = A.boot ∧ s.stream = A.stream + 1) := by omega
  have hm : setM M A.boot (A.stream + 1) v s.boot s.stream = M s.boot s.stream := by unfold setM; exact if_neg hne
  have hh : setH H A.boot (A.stream + 1) ((H A.boot A.stream).drop A.q.first.toNat) s.boot s.stream = H s.boot s.stream := by unfold setH; exact if_neg hne
  exact ⟨a1, a2, by rw [e1, e2]; omega, by rw [hm]; exact a4, by rw [hm]; exact a5, by rw [hh]; exact a6⟩

/-- the side that sends is started anew -/
theorem Dir.newA (h : Dir A S rb pr T W H M) (ok : lkOk A') (e1 : A'.boot = A.boot + 1) (e2 : A'.stream = 1) (e3 : A'.q.first = 0) (e4 : A'.q.l = []) (e5 : A'.peer.boot = 0) : Dir A' S rb pr T W H M := by
 obtain ⟨h1, h2, h3, h4, h5, h6, h7, h8, h9, h10, h11, h12, h12', h13, h14⟩ := h
 have hn := h7 (A.boot + 1) 1 (.inl (by omega))
 refine ⟨ok, by rw [e1, e2, e3, e4, hn.1]; rfl, fun i hi => by rw [e4] at hi; simp at hi, h4, h5, h6, fun b s hbs => h7 b s (by omega), by rw [e1, e2, e5]; exact hn.2, h9, h10, by clear h13; omega, h12, h12', h13, fun s hs => ?_⟩
 obtain ⟨a1, a2, a3, a4, a5, a6⟩ := h14 s hs
 exact ⟨a1, a2, by omega, a4, a5, a6⟩

/-- the other side is started anew -/
theorem Dir.newB (h : Dir A S rb pr T W H M) : Dir A S (rb + 1) ⟨0, 0, 0⟩ 0 W H M := by
 obtain ⟨h1, h2, h3, h4, h5, h6, h7, h8, h9, h10, h11, h12, h12', h13, h14⟩ := h
 exact ⟨h1, h2, h3, h4, h5, h6, h7, h8, fun b s => by have := h9 b s; omega, h10, .inl rfl, ⟨Int.le_refl _, .inl rfl⟩, by omega, .inl rfl, h14⟩

def learnS (pr : Elink_side) (s : ESeg) : Elink_side := if s.boot > pr.boot then ⟨s.boot, s.stream, 0⟩ else if s.stream > pr.stream then { pr with stream := s.stream, next := 0 } else pr

theorem Dir.learnB (h : Dir A S rb pr T W H M) {s : ESeg} (hs : Sg A H M s) (hb : ¬ s.boot < pr.boot) : Dir A S rb (learnS pr s) T W H M := by
 obtain ⟨h1, h2, h3, h4, h5, h6, h7, h8, h9, h10, h11, h12, h12', h13, h14⟩ := h
 unfold learnS
 by_cases c : s.boot > pr.boot
 ·rw [if_pos c]
  refine ⟨h1, h2, h3, h4, h5, h6, h7, h8, h9, h10, .inr hs.cur, ⟨Int.le_refl _, .inl rfl⟩, h12', ?_, h14⟩
  rcases h13 with q | ⟨b, s', i, q1, q2, q3, q4, q5⟩
  ·exact .inl q
  ·exact .inr ⟨b, s', i, q1, q2, q3, q4, .inl (by show b < s.boot; omega)⟩
 rw [if_neg c]
 by_cases c2 : s.stream > pr.stream
 ·rw [if_pos c2]
  have eb : s.boot = pr.boot := by omega
  refine ⟨h1, h2, h3, h4, h5, h6, h7, h8, h9, h10, ?_, ⟨Int.le_refl _, .inl rfl⟩, h12', ?_, h14⟩
  ·right; show pr.boot < A.boot ∨ pr.boot = A.boot ∧ s.stream ≤ A.stream
   rw [← eb]; exact hs.cur
  rcases h13 with q | ⟨b, s', i, q1, q2, q3, q4, q5⟩
  ·exact .inl q
  ·rcases q5 with q5 | ⟨q5, q6, q7⟩
   ·exact .inr ⟨b, s', i, q1, q2, q3, q4, .inl q5⟩
   ·exfalso
    have t := hs.two (by omega)
    have := h10 b s' s.stream q1 (by omega) (by rw [q5, ← eb]; exact t)
    have := h9 b s.stream
    omega
 ·rw [if_neg c2]
  exact ⟨h1, h2, h3, h4, h5, h6, h7, h8, h9, h10, h11, h12, h12', h13, h14⟩

theorem learnS_at {pr : Elink_side} {s : ESeg} (hb : ¬ s.boot < pr.boot) : (learnS pr s).boot = s.boot := by
 unfold learnS
 by_cases c : s.boot > pr.boot
 ·rw [if_pos c]
 ·rw [if_neg c]
  by_cases c2 : s.stream > pr.stream
  ·rw [if_pos c2]; show pr.boot = s.boot; omega
  ·rw [if_neg c2]; omega

/-- a text is told -/
theorem Dir.accept (h : Dir A S rb pr T W H M) {s : ESeg} (hs : Sg A H M s) (hh : s.has = true) (ha : s.ackBoot = rb) (eb : s.boot = pr.boot) (es : s.stream = pr.stream) (en : s.seq = pr.next) :
  ∃ v, s.body = numS v ∧ T < v ∧ 1 ≤ v ∧ v ≤ S ∧ Dir A S rb { pr with next := pr.next + 1 } v W H M := by
 obtain ⟨t1, t2, t3⟩ := hs.txt hh
 have hrb := h.rbp
 have hM : M s.boot s.stream = rb := by rcases hs.ack with a | a <;> omega
 have hr := h.rng s.boot s.stream s.seq.toNat (by omega)
 refine ⟨_, t3, ?_, hr.1, hr.2, ?_⟩
 ·rcases h.tl with q | ⟨b, s', i, q1, q2, q3, q4, q5⟩
  ·rw [q]; omega
  ·rw [q3]
   rcases q5 with q5 | ⟨q5, q6, q7⟩
   ·exact h.boots b s' s.boot s.stream i _ (by omega) q2 (by omega)
   ·rw [q5, q6, ← eb, ← es]
    exact h.inc _ _ _ _ (by omega) (by omega)
 ·obtain ⟨h1, h2, h3, h4, h5, h6, h7, h8, h9, h10, h11, h12, h12', h13, h14⟩ := h
  refine ⟨h1, h2, h3, h4, h5, h6, h7, h8, h9, h10, h11, ⟨by show 0 ≤ pr.next + 1; omega, .inr ?_⟩, h12', .inr ⟨s.boot, s.stream, s.seq.toNat, hs.str, by omega, rfl, hM, .inr ⟨eb, es, ?_⟩⟩, h14⟩
  ·show pr.next + 1 ≤ ((H pr.boot pr.stream).length : Int)
   rw [← eb, ← es]; omega
  ·show (s.seq.toNat : Int) < pr.next + 1; omega

theorem Dir.out (h : Dir A S rb pr T W H M) (hS : 0 ≤ S ∧ S ≤ 65535) (hn : 0 ≤ A.peer.next ∧ A.peer.next ≤ 65535) (again : Bool) : ∀ s ∈ outsL A again, Sg A H M s := by
 have ok := h.ok
 have l1 := h.len A.boot A.stream
 have hq := h.qlen
 have b1 := ok.boot; have b2 := ok.stream; have b3 := ok.first; have b4 := ok.pboot; have b5 := ok.pstream; have b6 := ok.str2
 have head : Sg A H M (headL A) := by
  refine ⟨decide_eq_true ?_, b2.1, .inr ⟨rfl, Int.le_refl _⟩, fun q => ?_, .inr h.peers.symm, fun q => by cases q⟩
  ·unfold headL; dsimp only; omega
  ·show 0 < M A.boot A.stream
   have q' : 2 ≤ A.stream := q
   rw [h.peers]; omega
 have seg : ∀ i, i < A.q.l.length → Sg A H M (segL A i) := fun i hi => by
  refine ⟨decide_eq_true ?_, b2.1, .inr ⟨rfl, Int.le_refl _⟩, head.two, .inr h.peers.symm, fun _ => ⟨?_, ?_, ?_⟩⟩
  ·unfold segL headL; dsimp only; omega
  ·show 0 ≤ A.q.first + (i : Int); omega
  ·show A.q.first + (i : Int) < ((H A.boot A.stream).length : Int); omega
  ·show A.q.l.getD i default = numS ((H A.boot A.stream).getD (A.q.first + (i : Int)).toNat 0)
   rw [h.qget i hi, show (A.q.first + (i : Int)).toNat = A.q.first.toNat + i by omega]
 intro s hs
 unfold outsL at hs
 split at hs
 ·rw [List.mem_singleton] at hs; rw [hs]; exact head
 ·unfold segsL at hs
  obtain ⟨i, hi, rfl⟩ := List.mem_map.1 hs
  rw [List.mem_range'_1] at hi
  exact seg i (by unfold winL at hi; omega)

end
end Go.Proofs.Ythomnhhjgcabkaa
