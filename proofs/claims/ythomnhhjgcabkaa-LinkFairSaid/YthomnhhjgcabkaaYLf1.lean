/- Links: one way, plain -/
import Derived.Test.YthomnhhjgcabkaaYLinkP2
import Derived.Test.YthomnhhjgcabkaaYLinkG
namespace Go.Proofs.Ythomnhhjgcabkaa

def numS (n : Int) : ByteArray := strI [n.tdiv 256, n.tmod 256]

theorem numS_size (n : Int) : (numS n).size = 2 := rfl

theorem numS_at (n : Int) (h : 0 ≤ n ∧ n ≤ 65535) : (byteAt (numS n) 0 : Int) = n / 256 ∧ (byteAt (numS n) 1 : Int) = n % 256 := by
 have h0 : byteAt (numS n) 0 = (UInt8.ofNat (n.tdiv 256).toNat).toNat := rfl
 have h1 : byteAt (numS n) 1 = (UInt8.ofNat (n.tmod 256).toNat).toNat := rfl
 rw [h0, h1, UInt8.toNat_ofNat', UInt8.toNat_ofNat', Int.tdiv_eq_ediv_of_nonneg h.1, Int.tmod_eq_emod_of_nonneg h.1]
 omega

theorem number_ok {n : Int} (h : 0 ≤ n ∧ n ≤ 65535) : F_law22_number n = some (numS n) := by
 unfold F_law22_number
 rw [Int.tdiv_eq_ediv_of_nonneg h.1, Int.tmod_eq_emod_of_nonneg h.1, chk_t (by unfold inI; omega), chk_t (by unfold inB; omega), chk_t (by unfold inB; omega)]
 unfold numS
 rw [Int.tdiv_eq_ediv_of_nonneg h.1, Int.tmod_eq_emod_of_nonneg h.1]

theorem numbered_ok {n : Int} (h : 0 ≤ n ∧ n ≤ 65535) : F_law22_numbered (numS n) = some n := by
 obtain ⟨h0, h1⟩ := numS_at n h
 unfold F_law22_numbered
 rw [if_neg (by rw [numS_size]; decide)]
 have e0 : (0 : Int).toNat = 0 := rfl
 have e1 : (1 : Int).toNat = 1 := rfl
 rw [e0, e1, h0, h1, chk_t (by rw [numS_size]; decide), chk_t (by unfold inI; omega), chk_t (by unfold inI; omega), chk_t (by rw [numS_size]; decide), chk_t (by unfold inI; omega), chk_t (by unfold inI; omega)]
 congr 1; omega

-- one way
abbrev Hs := Int → Int → List Int

abbrev Ms := Int → Int → Int

/-- a segment that the side A may have sent -/
structure Sg (A : Elink_Link) (H : Hs) (M : Ms) (s : ESeg) : Prop where
 may : mayS s = true
 str : 1 ≤ s.stream
 cur : s.boot < A.boot ∨ s.boot = A.boot ∧ s.stream ≤ A.stream
 two : 2 ≤ s.stream → 0 < M s.boot s.stream
 ack : s.ackBoot = 0 ∨ s.ackBoot = M s.boot s.stream
 txt : s.has = true → 0 ≤ s.seq ∧ s.seq < ((H s.boot s.stream).length : Int) ∧ s.body = numS ((H s.boot s.stream).getD s.seq.toNat 0)

structure Dir (A : Elink_Link) (S rb : Int) (pr : Elink_side) (T : Int) (W : ESeg → Prop) (H : Hs) (M : Ms) : Prop where
 ok : lkOk A
 qlen : ((H A.boot A.stream).length : Int) = A.q.first + (A.q.l.length : Int)
 qget : ∀ i, i < A.q.l.length → A.q.l.getD i default = numS ((H A.boot A.stream).getD (A.q.first.toNat + i) 0)
 inc : ∀ b s i j, i < j → j < (H b s).length → (H b s).getD i 0 < (H b s).getD j 0
 rng : ∀ b s i, i < (H b s).length → 1 ≤ (H b s).getD i 0 ∧ (H b s).getD i 0 ≤ S
 boots : ∀ b s b' s' i j, b < b' → i < (H b s).length → j < (H b' s').length → (H b s).getD i 0 < (H b' s').getD j 0
 fut : ∀ b s, (A.boot < b ∨ b = A.boot ∧ A.stream < s) → H b s = [] ∧ M b s = 0
 peers : M A.boot A.stream = A.peer.boot
 mle : ∀ b s, M b s ≤ rb
 minc : ∀ b s s', 1 ≤ s → s < s' → 0 < M b s' → M b s < M b s'
 pk : pr.boot = 0 ∨ pr.boot < A.boot ∨ pr.boot = A.boot ∧ pr.stream ≤ A.stream
 nx : 0 ≤ pr.next ∧ (pr.next = 0 ∨ pr.next ≤ ((H pr.boot pr.stream).length : Int))
 rbp : 1 ≤ rb
 tl : T = 0 ∨ ∃ b s i, 1 ≤ s ∧ i < (H b s).length ∧ T = (H b s).getD i 0 ∧ M b s = rb ∧ (b < pr.boot ∨ b = pr.boot ∧ s = pr.stream ∧ (i : Int) < pr.next)
 tn : 0 < pr.next → T = (H pr.boot pr.stream).getD (pr.next.toNat - 1) 0
 segs : ∀ s, W s → Sg A H M s

theorem Dir.len {A : Elink_Link} {S rb : Int} {pr : Elink_side} {T : Int} {W : ESeg → Prop} {H : Hs} {M : Ms} (h : Dir A S rb pr T W H M) (b s : Int) : ((H b s).length : Int) ≤ max S 0 := by
 have : ∀ k, k < (H b s).length → (k : Int) + 1 ≤ (H b s).getD k 0 := by
  intro k
  induction k with
  | zero => intro hk; have := h.rng b s 0 hk; omega
  | succ k ih => intro hk; have := ih (by omega); have := h.inc b s k (k + 1) (by omega) hk; omega
 by_cases c : (H b s).length = 0
 ·omega
 ·have h1 := this ((H b s).length - 1) (by omega)
  have h2 := h.rng b s ((H b s).length - 1) (by omega)
  omega

section
variable {A A' : Elink_Link} {S rb : Int} {pr : Elink_side} {T : Int} {W : ESeg → Prop} {H : Hs} {M : Ms}
theorem Dir.congrA (h : Dir A S rb pr T W H M) (ok : lkOk A') (e1 : A'.boot = A.boot) (e2 : A'.stream = A.stream) (e3 : A'.q.first = A.q.first) (e4 : A'.q.l = A.q.l) (e5 : A'.peer.boot = A.peer.boot) : Dir A' S rb pr T W H M := by
 obtain ⟨_, h2, h3, h4, h5, h6, h7, h8, h9, h10, h11, h12, h12', h13, h13', h14⟩ := h
 refine ⟨ok, by rw [e1, e2, e3, e4]; exact h2, by rw [e1, e2, e3, e4]; exact h3, h4, h5, h6, by rw [e1, e2]; exact h7, by rw [e1, e2, e5]; exact h8, h9, h10, by rw [e1, e2]; exact h11, h12, h12', h13, h13', fun s hs => ?_⟩
 obtain ⟨a1, a2, a3, a4, a5, a6⟩ := h14 s hs
 exact ⟨a1, a2, by rw [e1, e2]; exact a3, a4, a5, a6⟩

theorem Dir.mono {W' : ESeg → Prop} (h : Dir A S rb pr T W H M) (hw : ∀ s, W' s → W s ∨ Sg A H M s) : Dir A S rb pr T W' H M := by
 obtain ⟨h1, h2, h3, h4, h5, h6, h7, h8, h9, h10, h11, h12, h12', h13, h13', h14⟩ := h
 exact ⟨h1, h2, h3, h4, h5, h6, h7, h8, h9, h10, h11, h12, h12', h13, h13', fun s hs => (hw s hs).elim (h14 s) id⟩

/-- a text is sent -/
def addH (H : Hs) (b s n : Int) : Hs := fun b' s' => if b' = b ∧ s' = s then H b s ++ [n] else H b' s'

theorem addH_cases (H : Hs) (b s n b' s' : Int) : (addH H b s n b' s' = H b' s' ++ [n] ∧ b' = b ∧ s' = s) ∨ (addH H b s n b' s' = H b' s' ∧ ¬ (b' = b ∧ s' = s)) := by
 unfold addH
 by_cases c : b' = b ∧ s' = s
 ·left; rw [if_pos c, c.1, c.2]; exact ⟨rfl, rfl, rfl⟩
 ·right; rw [if_neg c]; exact ⟨rfl, c⟩

theorem getD_snoc {l : List Int} {n : Int} {i : Nat} (h : i < (l ++ [n]).length) : (i < l.length ∧ (l ++ [n]).getD i 0 = l.getD i 0) ∨ (i = l.length ∧ (l ++ [n]).getD i 0 = n) := by
 rw [List.length_append, List.length_singleton] at h
 by_cases c : i < l.length
 ·left; exact ⟨c, by simp [List.getD_eq_getElem?_getD, List.getElem?_append_left c]⟩
 ·right
  have e : i = l.length := by omega
  subst e
  exact ⟨rfl, by simp [List.getD_eq_getElem?_getD]⟩

theorem addH_get (H : Hs) (b s n b' s' : Int) {i : Nat} (hi : i < (addH H b s n b' s').length) : (i < (H b' s').length ∧ (addH H b s n b' s').getD i 0 = (H b' s').getD i 0) ∨ (b' = b ∧ s' = s ∧ i = (H b s).length ∧ (addH H b s n b' s').getD i 0 = n) := by
 rcases addH_cases H b s n b' s' with ⟨e, e1, e2⟩ | ⟨e, _⟩
 ·subst e1; subst e2
  rw [e] at hi ⊢
  rcases getD_snoc hi with ⟨c1, c2⟩ | ⟨c1, c2⟩
  ·exact .inl ⟨c1, c2⟩
  ·exact .inr ⟨rfl, rfl, c1, c2⟩
 ·rw [e] at hi ⊢
  exact .inl ⟨hi, rfl⟩

theorem addH_old (H : Hs) (b s n b' s' : Int) {i : Nat} (hi : i < (H b' s').length) : i < (addH H b s n b' s').length ∧ (addH H b s n b' s').getD i 0 = (H b' s').getD i 0 := by
 rcases addH_cases H b s n b' s' with ⟨e, _⟩ | ⟨e, _⟩
 ·rw [e]; exact ⟨by rw [List.length_append]; omega, by simp [List.getD_eq_getElem?_getD, List.getElem?_append_left hi]⟩
 ·rw [e]; exact ⟨hi, rfl⟩

theorem Dir.send (h : Dir A S rb pr T W H M) (hS : 0 ≤ S) (ok : lkOk A') (e1 : A'.boot = A.boot) (e2 : A'.stream = A.stream) (e3 : A'.q.first = A.q.first) (e4 : A'.q.l = A.q.l ++ [numS (S + 1)]) (e5 : A'.peer.boot = A.peer.boot) : Dir A' (S + 1) rb pr T W (addH H A.boot A.stream (S + 1)) M := by
 have hf := h.ok.first
 have hcur : addH H A.boot A.stream (S + 1) A.boot A.stream = H A.boot A.stream ++ [S + 1] := by unfold addH; rw [if_pos ⟨rfl, rfl⟩]
 have hq := h.qlen
 refine ⟨ok, ?_, fun i hi => ?_, fun b s i j hij hj => ?_, fun b s i hi => ?_, fun b s b' s' i j hb hi hj => ?_, fun b s hbs => ?_, by rw [e1, e2, e5]; exact h.peers, h.mle, h.minc, by rw [e1, e2]; exact h.pk, ?_, h.rbp, ?_, fun q => ?_, fun s hs => ?_⟩
 ·rw [e1, e2, e3, e4, hcur, List.length_append, List.length_append, List.length_singleton, List.length_singleton]; omega
 ·rw [e4] at hi ⊢
  rw [e1, e2, e3, hcur]
  rw [List.length_append, List.length_singleton] at hi
  by_cases c : i < A.q.l.length
  ·have := h.qget i c
   have hlt : A.q.first.toNat + i < (H A.boot A.stream).length := by omega
   rw [List.getD_eq_getElem?_getD, List.getElem?_append_left c, ← List.getD_eq_getElem?_getD, this, List.getD_eq_getElem?_getD (l := _ ++ _), List.getElem?_append_left hlt, ← List.getD_eq_getElem?_getD]
  ·have ei : i = A.q.l.length := by omega
   subst ei
   have e6 : A.q.first.toNat + A.q.l.length = (H A.boot A.stream).length := by omega
   rw [e6]
   simp [List.getD_eq_getElem?_getD]
 ·rcases addH_get H A.boot A.stream (S + 1) b s hj with ⟨c1, c2⟩ | ⟨c0, c0', c1, c2⟩
  ·have := addH_old H A.boot A.stream (S + 1) b s (i := i) (by omega)
   rw [c2, this.2]; exact h.inc b s i j hij c1
  ·subst c0; subst c0'
   have := addH_old H A.boot A.stream (S + 1) A.boot A.stream (i := i) (by omega)
   rw [c2, this.2]
   have := h.rng A.boot A.stream i (by omega); omega
 ·rcases addH_get H A.boot A.stream (S + 1) b s hi with ⟨c1, c2⟩ | ⟨c0, c0', c1, c2⟩
  ·rw [c2]; have := h.rng b s i c1; omega
  ·rw [c2]; omega
 ·rcases addH_get H A.boot A.stream (S + 1) b s hi with ⟨c1, c2⟩ | ⟨c0, c0', c1, c2⟩
  ·rcases addH_get H A.boot A.stream (S + 1) b' s' hj with ⟨d1, d2⟩ | ⟨d0, d0', d1, d2⟩
   ·rw [c2, d2]; exact h.boots b s b' s' i j hb c1 d1
   ·rw [c2, d2]; have := h.rng b s i c1; omega
  ·exfalso
   rcases addH_get H A.boot A.stream (S + 1) b' s' hj with ⟨d1, d2⟩ | ⟨d0, d0', d1, d2⟩
   ·rw [(h.fut b' s' (.inl (by omega))).1] at d1; simp at d1
   ·omega
 ·rw [e1, e2] at hbs
  have := h.fut b s hbs
  refine ⟨?_, this.2⟩
  unfold addH
  rw [if_neg (by omega)]; exact this.1
 ·refine ⟨h.nx.1, h.nx.2.elim .inl fun q => .inr ?_⟩
  rcases addH_cases H A.boot A.stream (S + 1) pr.boot pr.stream with ⟨e, _⟩ | ⟨e, _⟩
  ·rw [e, List.length_append]; omega
  ·rw [e]; exact q
 ·rcases h.tl with q | ⟨b, s, i, q1, q2, q3, q4, q5⟩
  ·exact .inl q
  ·have := addH_old H A.boot A.stream (S + 1) b s q2
   exact .inr ⟨b, s, i, q1, this.1, by rw [this.2]; exact q3, q4, q5⟩
 ·have hx := h.nx.2.resolve_left (by omega)
  have := addH_old H A.boot A.stream (S + 1) pr.boot pr.stream (i := pr.next.toNat - 1) (by omega)
  rw [this.2]; exact h.tn q
 ·obtain ⟨a1, a2, a3, a4, a5, a6⟩ := h.segs s hs
  refine ⟨a1, a2, by rw [e1, e2]; exact a3, a4, a5, fun hh => ?_⟩
  obtain ⟨b1, b2, b3⟩ := a6 hh
  have := addH_old H A.boot A.stream (S + 1) s.boot s.stream (i := s.seq.toNat) (by omega)
  exact ⟨b1, by omega, by rw [this.2]; exact b3⟩

/-- texts that came are let go -/
theorem Dir.upto (h : Dir A S rb pr T W H M) (n : Int) (ok : lkOk (uptoL A n)) : Dir (uptoL A n) S rb pr T W H M := by
 obtain ⟨h1, h2, h3, h4, h5, h6, h7, h8, h9, h10, h11, h12, h12', h13, h13', h14⟩ := h
 have hk : uptoK A n ≤ A.q.l.length := by unfold uptoK; omega
 have hf := h1.first
 refine ⟨ok, ?_, fun i hi => ?_, h4, h5, h6, h7, h8, h9, h10, h11, h12, h12', h13, h13', fun s hs => ?_⟩
 ·show ((H A.boot A.stream).length : Int) = (A.q.first + (uptoK A n : Int)) + ((A.q.l.drop (uptoK A n)).length : Int)
  rw [List.length_drop, h2]; omega
 ·have hi' : i < (A.q.l.drop (uptoK A n)).length := hi
  rw [List.length_drop] at hi'
  show (A.q.l.drop (uptoK A n)).getD i default = numS ((H A.boot A.stream).getD ((A.q.first + (uptoK A n : Int)).toNat + i) 0)
  have := h3 (uptoK A n + i) (by omega)
  rw [show (A.q.first + (uptoK A n : Int)).toNat + i = A.q.first.toNat + (uptoK A n + i) by omega, ← this]
  simp [List.getD_eq_getElem?_getD]
 ·obtain ⟨a1, a2, a3, a4, a5, a6⟩ := h14 s hs
  exact ⟨a1, a2, a3, a4, a5, a6⟩

end

section
variable {A A' : Elink_Link} {S rb : Int} {pr : Elink_side} {T : Int} {W : ESeg → Prop} {H : Hs} {M : Ms}
def setM (M : Ms) (b s v : Int) : Ms := fun b' s' => if b' = b ∧ s' = s then v else M b' s'

theorem setM_cases (M : Ms) (b s v b' s' : Int) : (setM M b s v b' s' = v ∧ b' = b ∧ s' = s) ∨ (setM M b s v b' s' = M b' s' ∧ ¬ (b' = b ∧ s' = s)) := by
 unfold setM
 by_cases c : b' = b ∧ s' = s
 ·left; rw [if_pos c]; exact ⟨rfl, c⟩
 ·right; rw [if_neg c]; exact ⟨rfl, c⟩

def setH (H : Hs) (b s : Int) (l : List Int) : Hs := fun b' s' => if b' = b ∧ s' = s then l else H b' s'

theorem setH_cases (H : Hs) (b s : Int) (l : List Int) (b' s' : Int) : (setH H b s l b' s' = l ∧ b' = b ∧ s' = s) ∨ (setH H b s l b' s' = H b' s' ∧ ¬ (b' = b ∧ s' = s)) := by
 unfold setH
 by_cases c : b' = b ∧ s' = s
 ·left; rw [if_pos c]; exact ⟨rfl, c⟩
 ·right; rw [if_neg c]; exact ⟨rfl, c⟩

theorem getD_drop (l : List Int) (k i : Nat) : (l.drop k).getD i 0 = l.getD (k + i) 0 := by simp [List.getD_eq_getElem?_getD]

/-- the first peer is learned -/
theorem Dir.learn0 (h : Dir A S rb pr T W H M) {v : Int} (hp : A.peer.boot = 0) (hv : 0 < v ∧ v ≤ rb) (ok : lkOk A') (e1 : A'.boot = A.boot) (e2 : A'.stream = A.stream) (e3 : A'.q.first = A.q.first) (e4 : A'.q.l = A.q.l) (e5 : A'.peer.boot = v) : Dir A' S rb pr T W H (setM M A.boot A.stream v) := by
 obtain ⟨h1, h2, h3, h4, h5, h6, h7, h8, h9, h10, h11, h12, h12', h13, h13', h14⟩ := h
 have hs1 : A.stream = 1 := by have := h1.str2; have := h1.stream; omega
 have hM : M A.boot A.stream = 0 := by rw [h8, hp]
 refine ⟨ok, by rw [e1, e2, e3, e4]; exact h2, by rw [e1, e2, e3, e4]; exact h3, h4, h5, h6, fun b s hbs => ?_, ?_, fun b s => ?_, fun b s s' q1 q2 q3 => ?_, by rw [e1, e2]; exact h11, h12, h12', ?_, h13', fun s hs => ?_⟩
 ·rw [e1, e2] at hbs
  rcases setM_cases M A.boot A.stream v b s with ⟨_, c⟩ | ⟨c, _⟩
  ·omega
  ·rw [c]; exact h7 b s hbs
 ·rw [e1, e2, e5]; unfold setM; exact if_pos ⟨rfl, rfl⟩
 ·rcases setM_cases M A.boot A.stream v b s with ⟨c, _⟩ | ⟨c, _⟩
  ·rw [c]; exact hv.2
  ·rw [c]; exact h9 b s
 ·rcases setM_cases M A.boot A.stream v b s' with ⟨c, d⟩ | ⟨c, d⟩
  ·omega
  ·rw [c] at q3 ⊢
   rcases setM_cases M A.boot A.stream v b s with ⟨c', d'⟩ | ⟨c', d'⟩
   ·have := (h7 b s' (.inr ⟨d'.1, by omega⟩)).2; omega
   ·rw [c']; exact h10 b s s' q1 q2 q3
 ·rcases h13 with q | ⟨b, s, i, q1, q2, q3, q4, q5⟩
  ·exact .inl q
  ·refine .inr ⟨b, s, i, q1, q2, q3, ?_, q5⟩
   rcases setM_cases M A.boot A.stream v b s with ⟨_, d⟩ | ⟨c, _⟩
   ·rw [d.1, d.2] at q4; omega
   ·rw [c]; exact q4
 ·obtain ⟨a1, a2, a3, a4, a5, a6⟩ := h14 s hs
  refine ⟨a1, a2, by rw [e1, e2]; exact a3, fun q => ?_, ?_, a6⟩
  ·rcases setM_cases M A.boot A.stream v s.boot s.stream with ⟨_, d⟩ | ⟨c, _⟩
   ·omega
   ·rw [c]; exact a4 q
  ·rcases setM_cases M A.boot A.stream v s.boot s.stream with ⟨c, d⟩ | ⟨c, _⟩
   ·left; rw [d.1, d.2, hM] at a5; omega
   ·rw [c]; exact a5

/-- a later peer is learned: all is numbered anew -/
theorem Dir.learn1 (h : Dir A S rb pr T W H M) {v : Int} (hp : 0 < A.peer.boot) (hv : A.peer.boot < v ∧ v ≤ rb) (ok : lkOk A') (e1 : A'.boot = A.boot) (e2 : A'.stream = A.stream + 1) (e3 : A'.q.first = 0) (e4 : A'.q.l = A.q.l) (e5 : A'.peer.boot = v) :
  Dir A' S rb pr T W (setH H A.boot (A.stream + 1) ((H A.boot A.stream).drop A.q.first.toNat)) (setM M A.boot (A.stream + 1) v) := by
 obtain ⟨h1, h2, h3, h4, h5, h6, h7, h8, h9, h10, h11, h12, h12', h13, h13', h14⟩ := h
 have hf := h1.first
 have hst := h1.stream
 have hn := h7 A.boot (A.stream + 1) (.inr ⟨rfl, by omega⟩)
 have gt : ∀ b s i, i < (setH H A.boot (A.stream + 1) ((H A.boot A.stream).drop A.q.first.toNat) b s).length → (i < (H b s).length ∧ (setH H A.boot (A.stream + 1) ((H A.boot A.stream).drop A.q.first.toNat) b s).getD i 0 = (H b s).getD i 0) ∨ (b = A.boot ∧ s = A.stream + 1 ∧ A.q.first.toNat + i < (H A.boot A.stream).length ∧ (setH H A.boot (A.stream + 1) ((H A.boot A.stream).drop A.q.first.toNat) b s).getD i 0 = (H A.boot A.stream).getD (A.q.first.toNat + i) 0) := fun b s i hi => by
  rcases setH_cases H A.boot (A.stream + 1) ((H A.boot A.stream).drop A.q.first.toNat) b s with ⟨c, d1, d2⟩ | ⟨c, _⟩
  ·right; rw [c] at hi ⊢
   rw [List.length_drop] at hi
   exact ⟨d1, d2, by omega, getD_drop _ _ _⟩
  ·left; rw [c] at hi ⊢; exact ⟨hi, rfl⟩
 have old : ∀ b s, ¬ (H b s).length = 0 → setH H A.boot (A.stream + 1) ((H A.boot A.stream).drop A.q.first.toNat) b s = H b s := fun b s hne => by
  rcases setH_cases H A.boot (A.stream + 1) ((H A.boot A.stream).drop A.q.first.toNat) b s with ⟨_, d1, d2⟩ | ⟨c, _⟩
  ·rw [d1, d2, hn.1] at hne; exact absurd rfl hne
  ·exact c
 have hcur : setH H A.boot (A.stream + 1) ((H A.boot A.stream).drop A.q.first.toNat) A.boot (A.stream + 1) = (H A.boot A.stream).drop A.q.first.toNat := by unfold setH; exact if_pos ⟨rfl, rfl⟩
 refine ⟨ok, ?_, fun i hi => ?_, fun b s i j hij hj => ?_, fun b s i hi => ?_, fun b s b' s' i j hb hi hj => ?_, fun b s hbs => ?_, ?_, fun b s => ?_, fun b s s' q1 q2 q3 => ?_, ?_, ?_, h12', ?_, fun q => ?_, fun s hs => ?_⟩
 ·rw [e1, e2, e3, e4, hcur, List.length_drop]; omega
 ·rw [e4] at hi ⊢
  rw [e1, e2, e3, hcur, getD_drop, h3 i hi]
  congr 2; simp
 ·have hi' : i < (setH H A.boot (A.stream + 1) ((H A.boot A.stream).drop A.q.first.toNat) b s).length := by omega
  rcases gt b s i hi' with ⟨c1, c2⟩ | ⟨d1, d2, c1, c2⟩
  ·rcases gt b s j hj with ⟨f1, f2⟩ | ⟨g1, g2, f1, f2⟩
   ·rw [c2, f2]; exact h4 b s i j hij f1
   ·rw [g1, g2, hn.1] at c1; simp at c1
  ·rcases gt b s j hj with ⟨f1, f2⟩ | ⟨g1, g2, f1, f2⟩
   ·rw [d1, d2, hn.1] at f1; simp at f1
   ·rw [c2, f2]; exact h4 _ _ _ _ (by omega) f1
 ·rcases gt b s i hi with ⟨c1, c2⟩ | ⟨d1, d2, c1, c2⟩
  ·rw [c2]; exact h5 b s i c1
  ·rw [c2]; exact h5 _ _ _ c1
 ·rcases gt b s i hi with ⟨c1, c2⟩ | ⟨d1, d2, c1, c2⟩
  ·rcases gt b' s' j hj with ⟨f1, f2⟩ | ⟨g1, g2, f1, f2⟩
   ·rw [c2, f2]; exact h6 b s b' s' i j hb c1 f1
   ·rw [c2, f2]; exact h6 b s A.boot A.stream i _ (by omega) c1 f1
  ·rcases gt b' s' j hj with ⟨f1, f2⟩ | ⟨g1, g2, f1, f2⟩
   ·rw [c2, f2]; exact h6 A.boot A.stream b' s' _ j (by omega) c1 f1
   ·omega
 ·rw [e1, e2] at hbs
  rcases setH_cases H A.boot (A.stream + 1) ((H A.boot A.stream).drop A.q.first.toNat) b s with ⟨_, c⟩ | ⟨c, _⟩
  ·omega
  rcases setM_cases M A.boot (A.stream + 1) v b s with ⟨_, d⟩ | ⟨d, _⟩
  ·omega
  rw [c, d]; exact h7 b s (by omega)
 ·rw [e1, e2, e5]; unfold setM; exact if_pos ⟨rfl, rfl⟩
 ·rcases setM_cases M A.boot (A.stream + 1) v b s with ⟨c, _⟩ | ⟨c, _⟩
  ·rw [c]; exact hv.2
  ·rw [c]; exact h9 b s
 ·rcases setM_cases M A.boot (A.stream + 1) v b s' with ⟨c, d⟩ | ⟨c, d⟩
  ·rw [c]
   rcases setM_cases M A.boot (A.stream + 1) v b s with ⟨c', d'⟩ | ⟨c', d'⟩
   ·omega
   ·rw [c', d.1]
    by_cases es : s = A.stream
    ·rw [es, h8]; exact hv.1
    ·have := h10 A.boot s A.stream q1 (by omega) (by rw [h8]; exact hp)
     rw [h8] at this; omega
  ·rw [c] at q3 ⊢
   rcases setM_cases M A.boot (A.stream + 1) v b s with ⟨c', d'⟩ | ⟨c', d'⟩
   ·have := (h7 b s' (.inr ⟨d'.1, by omega⟩)).2; omega
   ·rw [c']; exact h10 b s s' q1 q2 q3
 ·rw [e1, e2]; clear h13; omega
 ·refine ⟨h12.1, ?_⟩
  by_cases z : pr.next = 0
  ·exact .inl z
  ·have : pr.next ≤ ((H pr.boot pr.stream).length : Int) := h12.2.resolve_left z
   rw [old _ _ (by omega)]; exact .inr this
 ·rcases h13 with q | ⟨b, s, i, q1, q2, q3, q4, q5⟩
  ·exact .inl q
  ·refine .inr ⟨b, s, i, q1, by rw [old b s (by omega)]; exact q2, by rw [old b s (by omega)]; exact q3, ?_, q5⟩
   rcases setM_cases M A.boot (A.stream + 1) v b s with ⟨_, d⟩ | ⟨c, _⟩
   ·rw [d.1, d.2, hn.1] at q2; simp at q2
   ·rw [c]; exact q4
 ·have : pr.next ≤ ((H pr.boot pr.stream).length : Int) := h12.2.resolve_left (by clear h13; omega)
  rw [old _ _ (by clear h13; omega)]; exact h13' q
 ·obtain ⟨a1, a2, a3, a4, a5, a6⟩ := h14 s hs
  have hne : ¬ (s.boot = A.boot ∧ s.stream = A.stream + 1) := by omega
  have hm : setM M A.boot (A.stream + 1) v s.boot s.stream = M s.boot s.stream := by unfold setM; exact if_neg hne
  have hh : setH H A.boot (A.stream + 1) ((H A.boot A.stream).drop A.q.first.toNat) s.boot s.stream = H s.boot s.stream := by unfold setH; exact if_neg hne
  exact ⟨a1, a2, by rw [e1, e2]; omega, by rw [hm]; exact a4, by rw [hm]; exact a5, by rw [hh]; exact a6⟩

/-- the side that sends is started anew -/
theorem Dir.newA (h : Dir A S rb pr T W H M) (ok : lkOk A') (e1 : A'.boot = A.boot + 1) (e2 : A'.stream = 1) (e3 : A'.q.first = 0) (e4 : A'.q.l = []) (e5 : A'.peer.boot = 0) : Dir A' S rb pr T W H M := by
 obtain ⟨h1, h2, h3, h4, h5, h6, h7, h8, h9, h10, h11, h12, h12', h13, h13', h14⟩ := h
 have hn := h7 (A.boot + 1) 1 (.inl (by omega))
 refine ⟨ok, by rw [e1, e2, e3, e4, hn.1]; rfl, fun i hi => by rw [e4] at hi; simp at hi, h4, h5, h6, fun b s hbs => h7 b s (by omega), by rw [e1, e2, e5]; exact hn.2, h9, h10, by clear h13; omega, h12, h12', h13, h13', fun s hs => ?_⟩
 obtain ⟨a1, a2, a3, a4, a5, a6⟩ := h14 s hs
 exact ⟨a1, a2, by omega, a4, a5, a6⟩

/-- the other side is started anew -/
theorem Dir.newB (h : Dir A S rb pr T W H M) : Dir A S (rb + 1) ⟨0, 0, 0⟩ 0 W H M := by
 obtain ⟨h1, h2, h3, h4, h5, h6, h7, h8, h9, h10, h11, h12, h12', h13, h13', h14⟩ := h
 exact ⟨h1, h2, h3, h4, h5, h6, h7, h8, fun b s => by have := h9 b s; omega, h10, .inl rfl, ⟨Int.le_refl _, .inl rfl⟩, by clear h13; omega, .inl rfl, fun q => absurd q (Int.lt_irrefl _), h14⟩

def learnS (pr : Elink_side) (s : ESeg) : Elink_side := if s.boot > pr.boot then ⟨s.boot, s.stream, 0⟩ else if s.stream > pr.stream then { pr with stream := s.stream, next := 0 } else pr

theorem Dir.learnB (h : Dir A S rb pr T W H M) {s : ESeg} (hs : Sg A H M s) (hb : ¬ s.boot < pr.boot) : Dir A S rb (learnS pr s) T W H M := by
 obtain ⟨h1, h2, h3, h4, h5, h6, h7, h8, h9, h10, h11, h12, h12', h13, h13', h14⟩ := h
 unfold learnS
 by_cases c : s.boot > pr.boot
 ·rw [if_pos c]
  refine ⟨h1, h2, h3, h4, h5, h6, h7, h8, h9, h10, .inr hs.cur, ⟨Int.le_refl _, .inl rfl⟩, h12', ?_, fun q => absurd q (Int.lt_irrefl _), h14⟩
  rcases h13 with q | ⟨b, s', i, q1, q2, q3, q4, q5⟩
  ·exact .inl q
  ·exact .inr ⟨b, s', i, q1, q2, q3, q4, .inl (by show b < s.boot; omega)⟩
 rw [if_neg c]
 by_cases c2 : s.stream > pr.stream
 ·rw [if_pos c2]
  have eb : s.boot = pr.boot := by omega
  refine ⟨h1, h2, h3, h4, h5, h6, h7, h8, h9, h10, ?_, ⟨Int.le_refl _, .inl rfl⟩, h12', ?_, fun q => absurd q (Int.lt_irrefl _), h14⟩
  ·right; show pr.boot < A.boot ∨ pr.boot = A.boot ∧ s.stream ≤ A.stream
   rw [← eb]; exact hs.cur
  rcases h13 with q | ⟨b, s', i, q1, q2, q3, q4, q5⟩
  ·exact .inl q
  ·rcases q5 with q5 | ⟨q5, q6, q7⟩
   ·exact .inr ⟨b, s', i, q1, q2, q3, q4, .inl q5⟩
   ·exfalso
    have t := hs.two (by omega)
    have := h10 b s' s.stream q1 (by omega) (by rw [q5, ← eb]; exact t)
    have := h9 b s.stream
    omega
 ·rw [if_neg c2]
  exact ⟨h1, h2, h3, h4, h5, h6, h7, h8, h9, h10, h11, h12, h12', h13, h13', h14⟩

theorem learnS_at {pr : Elink_side} {s : ESeg} (hb : ¬ s.boot < pr.boot) : (learnS pr s).boot = s.boot := by
 unfold learnS
 by_cases c : s.boot > pr.boot
 ·rw [if_pos c]
 ·rw [if_neg c]
  by_cases c2 : s.stream > pr.stream
  ·rw [if_pos c2]; show pr.boot = s.boot; omega
  ·rw [if_neg c2]; omega

/-- a text is told -/
theorem Dir.accept (h : Dir A S rb pr T W H M) {s : ESeg} (hs : Sg A H M s) (hh : s.has = true) (ha : s.ackBoot = rb) (eb : s.boot = pr.boot) (es : s.stream = pr.stream) (en : s.seq = pr.next) :
  ∃ v, s.body = numS v ∧ T < v ∧ 1 ≤ v ∧ v ≤ S ∧ Dir A S rb { pr with next := pr.next + 1 } v W H M := by
 obtain ⟨t1, t2, t3⟩ := hs.txt hh
 have hrb := h.rbp
 have hM : M s.boot s.stream = rb := by rcases hs.ack with a | a <;> omega
 have hr := h.rng s.boot s.stream s.seq.toNat (by omega)
 refine ⟨_, t3, ?_, hr.1, hr.2, ?_⟩
 ·rcases h.tl with q | ⟨b, s', i, q1, q2, q3, q4, q5⟩
  ·rw [q]; omega
  ·rw [q3]
   rcases q5 with q5 | ⟨q5, q6, q7⟩
   ·exact h.boots b s' s.boot s.stream i _ (by omega) q2 (by omega)
   ·rw [q5, q6, ← eb, ← es]
    exact h.inc _ _ _ _ (by omega) (by omega)
 ·obtain ⟨h1, h2, h3, h4, h5, h6, h7, h8, h9, h10, h11, h12, h12', h13, h13', h14⟩ := h
  refine ⟨h1, h2, h3, h4, h5, h6, h7, h8, h9, h10, h11, ⟨by show 0 ≤ pr.next + 1; omega, .inr ?_⟩, h12', .inr ⟨s.boot, s.stream, s.seq.toNat, hs.str, by omega, rfl, hM, .inr ⟨eb, es, ?_⟩⟩, fun _ => ?_, h14⟩
  ·show pr.next + 1 ≤ ((H pr.boot pr.stream).length : Int)
   rw [← eb, ← es]; omega
  ·show (s.seq.toNat : Int) < pr.next + 1; omega
  ·show (H s.boot s.stream).getD s.seq.toNat 0 = (H pr.boot pr.stream).getD ((pr.next + 1).toNat - 1) 0
   rw [eb, es, show (pr.next + 1).toNat - 1 = s.seq.toNat by omega]

theorem Dir.out (h : Dir A S rb pr T W H M) (hS : 0 ≤ S ∧ S ≤ 65535) (hn : 0 ≤ A.peer.next ∧ A.peer.next ≤ 65535) (again : Bool) : ∀ s ∈ outsL A again, Sg A H M s := by
 have ok := h.ok
 have l1 := h.len A.boot A.stream
 have hq := h.qlen
 have b1 := ok.boot; have b2 := ok.stream; have b3 := ok.first; have b4 := ok.pboot; have b5 := ok.pstream; have b6 := ok.str2
 have head : Sg A H M (headL A) := by
  refine ⟨decide_eq_true ?_, b2.1, .inr ⟨rfl, Int.le_refl _⟩, fun q => ?_, .inr h.peers.symm, fun q => by cases q⟩
  ·unfold headL; dsimp only; omega
  ·show 0 < M A.boot A.stream
   have q' : 2 ≤ A.stream := q
   rw [h.peers]; omega
 have seg : ∀ i, i < A.q.l.length → Sg A H M (segL A i) := fun i hi => by
  refine ⟨decide_eq_true ?_, b2.1, .inr ⟨rfl, Int.le_refl _⟩, head.two, .inr h.peers.symm, fun _ => ⟨?_, ?_, ?_⟩⟩
  ·unfold segL headL; dsimp only; omega
  ·show 0 ≤ A.q.first + (i : Int); omega
  ·show A.q.first + (i : Int) < ((H A.boot A.stream).length : Int); omega
  ·show A.q.l.getD i default = numS ((H A.boot A.stream).getD (A.q.first + (i : Int)).toNat 0)
   rw [h.qget i hi, show (A.q.first + (i : Int)).toNat = A.q.first.toNat + i by omega]
 intro s hs
 unfold outsL at hs
 split at hs
 ·rw [List.mem_singleton] at hs; rw [hs]; exact head
 ·unfold segsL at hs
  obtain ⟨i, hi, rfl⟩ := List.mem_map.1 hs
  rw [List.mem_range'_1] at hi
  exact seg i (by unfold winL at hi; omega)

end

theorem in_dir {X R : Elink_Link} {SX SR TX TR : Int} {WX WR : ESeg → Prop} {HX HR : Hs} {MX MR : Ms} (d : Dir X SX R.boot R.peer TR WX HX MX) (d' : Dir R SR X.boot X.peer TX WR HR MR) {s : ESeg} (hs : WX s) :
  (inL R s).2.1 = 0 ∧ (inL R s).2.2.boot = R.boot ∧ (∃ HR' MR', Dir (inL R s).2.2 SR X.boot X.peer TX WR HR' MR') ∧
   (((inL R s).1 = [] ∧ Dir X SX R.boot (inL R s).2.2.peer TR WX HX MX) ∨ ∃ v, (inL R s).1 = [numS v] ∧ TR < v ∧ 1 ≤ v ∧ v ≤ SX ∧ Dir X SX R.boot (inL R s).2.2.peer v WX HX MX) := by
 have g := d.segs s hs
 have hm := g.may
 unfold inL
 rw [if_neg (by rw [hm]; decide)]
 by_cases c : s.boot < R.peer.boot
 ·rw [if_pos c]; exact ⟨rfl, rfl, ⟨HR, MR, d'⟩, .inl ⟨rfl, d⟩⟩
 rw [if_neg c]
 have okl := learn_ok d'.ok hm c
 have hxb : s.boot ≤ X.boot := by have := g.cur; omega
 have key : (learnL R s).boot = R.boot ∧ (learnL R s).peer = learnS R.peer s ∧ ∃ HR' MR', Dir (learnL R s) SR X.boot X.peer TX WR HR' MR' := by
  by_cases c1 : s.boot > R.peer.boot
  ·by_cases c2 : R.peer.boot > 0
   ·have e : learnL R s = { R with stream := R.stream + 1, q := { R.q with first := 0, told := 0 }, peer := ⟨s.boot, s.stream, 0⟩ } := by unfold learnL; rw [if_pos c1, if_pos c2]
    refine ⟨by rw [e], by rw [e]; unfold learnS; rw [if_pos c1], _, _, d'.learn1 (A' := learnL R s) (v := s.boot) c2 ⟨c1, hxb⟩ okl (by rw [e]) (by rw [e]) (by rw [e]) (by rw [e]) (by rw [e])⟩
   ·have e : learnL R s = { R with peer := ⟨s.boot, s.stream, 0⟩ } := by unfold learnL; rw [if_pos c1, if_neg c2]
    have hp := d'.ok.pboot
    refine ⟨by rw [e], by rw [e]; unfold learnS; rw [if_pos c1], _, _, d'.learn0 (A' := learnL R s) (v := s.boot) (by omega) ⟨by omega, hxb⟩ okl (by rw [e]) (by rw [e]) (by rw [e]) (by rw [e]) (by rw [e])⟩
  ·by_cases c2 : s.stream > R.peer.stream
   ·have e : learnL R s = { R with peer := { R.peer with stream := s.stream, next := 0 } } := by unfold learnL; rw [if_neg c1, if_pos c2]
    refine ⟨by rw [e], by rw [e]; unfold learnS; rw [if_neg c1, if_pos c2], HR, MR, d'.congrA okl (by rw [e]) (by rw [e]) (by rw [e]) (by rw [e]) (by rw [e])⟩
   ·have e : learnL R s = R := by unfold learnL; rw [if_neg c1, if_neg c2]
    rw [e]
    exact ⟨rfl, by unfold learnS; rw [if_neg c1, if_neg c2], HR, MR, d'⟩
 obtain ⟨lb, lp, HR1, MR1, l1⟩ := key
 have d1 := d.learnB g c
 have key2 : (takeL (learnL R s) s).boot = R.boot ∧ (takeL (learnL R s) s).peer = learnS R.peer s ∧ Dir (takeL (learnL R s) s) SR X.boot X.peer TX WR HR1 MR1 := by
  have ok := take_ok l1.ok hm
  unfold takeL at ok ⊢
  by_cases c1 : s.ackBoot = (learnL R s).boot ∧ s.ackStream = (learnL R s).stream
  ·rw [if_pos c1] at ok ⊢; exact ⟨lb, lp, l1.upto _ ok⟩
  ·rw [if_neg c1]; exact ⟨lb, lp, l1⟩
 obtain ⟨tb, tp, t1⟩ := key2
 generalize takeL (learnL R s) s = R2 at t1 tb tp
 have ok3 := tell_ok t1.ok hm
 unfold tellL at ok3 ⊢
 by_cases c1 : s.has = false
 ·rw [if_pos c1]
  exact ⟨rfl, tb, ⟨_, _, t1⟩, .inl ⟨rfl, by show Dir X SX R.boot R2.peer TR WX HX MX; rw [tp]; exact d1⟩⟩
 rw [if_neg c1] at ok3 ⊢
 by_cases c2 : s.ackBoot = R2.boot ∧ s.stream = R2.peer.stream ∧ s.seq = R2.peer.next
 ·rw [if_pos c2] at ok3 ⊢
  rw [tb, tp] at c2
  obtain ⟨v, v1, v2, v3, v4, v5⟩ := d1.accept g (by simpa using c1) c2.1 (learnS_at c).symm c2.2.1 c2.2.2
  exact ⟨rfl, tb, ⟨_, _, t1.congrA ok3 rfl rfl rfl rfl rfl⟩, .inr ⟨v, by show [s.body] = _; rw [v1], v2, v3, v4, by show Dir X SX R.boot { R2.peer with next := R2.peer.next + 1 } v WX HX MX; rw [tp]; exact v5⟩⟩
 ·rw [if_neg c2] at ok3 ⊢
  exact ⟨rfl, tb, ⟨_, _, t1.congrA ok3 rfl rfl rfl rfl rfl⟩, .inl ⟨rfl, by show Dir X SX R.boot R2.peer TR WX HX MX; rw [tp]; exact d1⟩⟩

-- the pair
def mkP (A B : Elink_Link) (way : List ESeg) (dst : List Int) (S0 S1 T0 T1 : Int) : Elaw22_pair := ⟨[some A, some B], [A.boot, B.boot], way, dst, [S0, S1], [T0, T1], true⟩

def Wy (way : List ESeg) (dst : List Int) (t : Int) : ESeg → Prop := fun s => ∃ i, i < way.length ∧ dst.getD i default = t ∧ way.getD i default = s

structure PI (n : Int) (A B : Elink_Link) (way : List ESeg) (dst : List Int) (S0 S1 T0 T1 : Int) : Prop where
 len : dst.length = way.length
 tos : ∀ i, i < dst.length → dst.getD i default = 0 ∨ dst.getD i default = 1
 wl : way.length ≤ 200
 s0 : 0 ≤ S0 ∧ S0 ≤ n
 s1 : 0 ≤ S1 ∧ S1 ≤ n
 b0 : A.boot ≤ n + 1
 b1 : B.boot ≤ n + 1
 d0 : ∃ H M, Dir A S0 B.boot B.peer T1 (Wy way dst 1) H M
 d1 : ∃ H M, Dir B S1 A.boot A.peer T0 (Wy way dst 0) H M

theorem iter_two {σ R : Type} (body : (σ → Option R) → σ → Option R) : ∃ rc, iter body FU = body (body rc) := ⟨iter body 18446744073709551614, by unfold FU; rfl⟩

section
variable {p : Elaw22_pair} {i : Int} {A B : Elink_Link} {way : List ESeg} {dst : List Int} {S0 S1 T0 T1 : Int} {r : List ByteArray × Int × Elink_Link}
theorem come_l2 (ht : p.to_.getD i.toNat default = 0) : (r.1 = [] → iter (F_law22_pair_come_l2 p i r) FU (0, mkP A B way dst S0 S1 T0 T1) = some (mkP A B way dst S0 S1 T0 T1)) ∧
  ∀ v, r.1 = [numS v] → 0 ≤ v ∧ v ≤ 65535 → T0 < v → v ≤ S1 → iter (F_law22_pair_come_l2 p i r) FU (0, mkP A B way dst S0 S1 T0 T1) = some (mkP A B way dst S0 S1 v T1) := by
 obtain ⟨rc, hrc⟩ := iter_two (F_law22_pair_come_l2 p i r)
 rw [hrc]
 generalize e0 : F_law22_pair_come_l2 p i r rc = rc2
 refine ⟨fun hr => ?_, fun v hr h0 h1 h2 => ?_⟩
 ·unfold F_law22_pair_come_l2
  dsimp only
  rw [hr]; rfl
 ·unfold F_law22_pair_come_l2
  dsimp only
  rw [hr, ht, if_pos (by rfl), chk_t (by rw [List.length_singleton]; decide)]
  show (F_law22_numbered (numS v)).bind _ = _
  rw [numbered_ok h0, Option.bind_some, show ((1 - 0 : Int) == 0) = false from rfl, if_neg (by decide), show ((1 - 0 : Int) == 1) = true from rfl, if_pos rfl, chk_t (fun _ => by unfold inI; omega), chk_t (by unfold inI; omega), ← e0]
  have e1 : (((mkP A B way dst S0 S1 T0 T1).ok && decide (v > (mkP A B way dst S0 S1 T0 T1).told.getD 0 0)) && decide (v ≤ (mkP A B way dst S0 S1 T0 T1).sent.getD 1 0)) = true := by
   show ((true && decide (v > T0)) && decide (v ≤ S1)) = true
   rw [decide_eq_true h1, decide_eq_true h2]; rfl
  rw [e1]
  unfold F_law22_pair_come_l2
  dsimp only
  rw [hr]; rfl

theorem come_l4 (ht : p.to_.getD i.toNat default = 1) : (r.1 = [] → iter (F_law22_pair_come_l4 p i r) FU (0, mkP A B way dst S0 S1 T0 T1) = some (mkP A B way dst S0 S1 T0 T1)) ∧
  ∀ v, r.1 = [numS v] → 0 ≤ v ∧ v ≤ 65535 → T1 < v → v ≤ S0 → iter (F_law22_pair_come_l4 p i r) FU (0, mkP A B way dst S0 S1 T0 T1) = some (mkP A B way dst S0 S1 T0 v) := by
 obtain ⟨rc, hrc⟩ := iter_two (F_law22_pair_come_l4 p i r)
 rw [hrc]
 generalize e0 : F_law22_pair_come_l4 p i r rc = rc2
 refine ⟨fun hr => ?_, fun v hr h0 h1 h2 => ?_⟩
 ·unfold F_law22_pair_come_l4
  dsimp only
  rw [hr]; rfl
 ·unfold F_law22_pair_come_l4
  dsimp only
  rw [hr, ht, if_pos (by rfl), chk_t (by rw [List.length_singleton]; decide)]
  show (F_law22_numbered (numS v)).bind _ = _
  rw [numbered_ok h0, Option.bind_some, show ((1 - 1 : Int) == 0) = true from rfl, if_pos rfl, chk_t (fun _ => by unfold inI; omega), chk_t (by unfold inI; omega), ← e0]
  have e1 : (((mkP A B way dst S0 S1 T0 T1).ok && decide (v > (mkP A B way dst S0 S1 T0 T1).told.getD 1 0)) && decide (v ≤ (mkP A B way dst S0 S1 T0 T1).sent.getD 0 0)) = true := by
   show ((true && decide (v > T1)) && decide (v ≤ S0)) = true
   rw [decide_eq_true h1, decide_eq_true h2]; rfl
  rw [e1]
  unfold F_law22_pair_come_l4
  dsimp only
  rw [hr]; rfl

/-- a segment comes in -/
theorem come_ok {n : Int} (hn : n ≤ 60000) (h : PI n A B way dst S0 S1 T0 T1) {k : Nat} (hk : k < way.length) :
  (dst.getD k default = 1 ∧ ∃ T', F_law22_pair_come (mkP A B way dst S0 S1 T0 T1) (k : Int) = some (mkP A (inL B (way.getD k default)).2.2 way dst S0 S1 T0 T') ∧ PI n A (inL B (way.getD k default)).2.2 way dst S0 S1 T0 T' ∧ (inL B (way.getD k default)).2.2.boot = B.boot ∧ (((inL B (way.getD k default)).1 = [] ∧ T' = T1) ∨ ((inL B (way.getD k default)).1 = [numS T'] ∧ 1 ≤ T'))) ∨
  (dst.getD k default = 0 ∧ ∃ T', F_law22_pair_come (mkP A B way dst S0 S1 T0 T1) (k : Int) = some (mkP (inL A (way.getD k default)).2.2 B way dst S0 S1 T' T1) ∧ PI n (inL A (way.getD k default)).2.2 B way dst S0 S1 T' T1 ∧ (inL A (way.getD k default)).2.2.boot = A.boot ∧ (((inL A (way.getD k default)).1 = [] ∧ T' = T0) ∨ ((inL A (way.getD k default)).1 = [numS T'] ∧ 1 ≤ T'))) := by
 obtain ⟨p1, p2, p3, p4, p5, p6, p7, ⟨H0, M0, d0⟩, ⟨H1, M1, d1⟩⟩ := h
 have hto : (mkP A B way dst S0 S1 T0 T1).to_.getD (k : Int).toNat default = dst.getD k default := rfl
 have hbase : ((0 : Int) ≤ (k : Int) ∧ (k : Int) < ((mkP A B way dst S0 S1 T0 T1).to_.length : Int)) := by
  show (0 : Int) ≤ (k : Int) ∧ (k : Int) < (dst.length : Int); omega
 have hw : ((0 : Int) ≤ (k : Int) ∧ (k : Int) < ((mkP A B way dst S0 S1 T0 T1).way.length : Int)) := by
  show (0 : Int) ≤ (k : Int) ∧ (k : Int) < (way.length : Int); omega
 unfold F_law22_pair_come
 rw [chk_t hbase, hto]
 rcases p2 k (by omega) with t | t
 ·right
  refine ⟨t, ?_⟩
  obtain ⟨q1, q2, ⟨HR, MR, q3⟩, q4⟩ := in_dir d1 d0 (s := way.getD k default) ⟨k, hk, t, rfl⟩
  have hl := come_l2 (p := mkP A B way dst S0 S1 T0 T1) (i := (k : Int)) (A := (inL A (way.getD k default)).2.2) (B := B) (way := way) (dst := dst) (S0 := S0) (S1 := S1) (T0 := T0) (T1 := T1) (r := inL A (way.getD k default)) t
  rw [t, show ((0 : Int) == 0) = true from rfl, if_pos rfl]
  show ∃ T', chk _ ((F_link_Link_In A (way.getD (k : Int).toNat default)).bind _) = _ ∧ _
  rw [chk_t hw, toNat_cast, link_In d0.ok, Option.bind_some]
  have hp : ({ (mkP A B way dst S0 S1 T0 T1) with l := [some (inL A (way.getD k default)).2.2, ((mkP A B way dst S0 S1 T0 T1).l.getD 1 none)], ok := ((mkP A B way dst S0 S1 T0 T1).ok && ((inL A (way.getD k default)).2.1 == 0)) && (decide (((inL A (way.getD k default)).1.length : Int) ≤ 1)) } : Elaw22_pair) = mkP (inL A (way.getD k default)).2.2 B way dst S0 S1 T0 T1 := by
   have e2 : decide (((inL A (way.getD k default)).1.length : Int) ≤ 1) = true := by
    refine decide_eq_true ?_
    rcases q4 with ⟨q, _⟩ | ⟨v, q, _⟩ <;> rw [q] <;> simp
   unfold mkP
   dsimp only
   rw [q1, e2, q2]; rfl
  rw [hp]
  rcases q4 with ⟨q5, q6⟩ | ⟨v, q5, v1, v2, v3, q6⟩
  ·exact ⟨T0, hl.1 q5, ⟨p1, p2, p3, p4, p5, by rw [q2]; exact p6, p7, ⟨_, _, q3⟩, ⟨H1, M1, by rw [q2]; exact q6⟩⟩, q2, .inl ⟨q5, rfl⟩⟩
  ·exact ⟨v, hl.2 v q5 (by omega) v1 v3, ⟨p1, p2, p3, p4, p5, by rw [q2]; exact p6, p7, ⟨_, _, q3⟩, ⟨H1, M1, by rw [q2]; exact q6⟩⟩, q2, .inr ⟨q5, v2⟩⟩
 ·left
  refine ⟨t, ?_⟩
  obtain ⟨q1, q2, ⟨HR, MR, q3⟩, q4⟩ := in_dir d0 d1 (s := way.getD k default) ⟨k, hk, t, rfl⟩
  have hl := come_l4 (p := mkP A B way dst S0 S1 T0 T1) (i := (k : Int)) (A := A) (B := (inL B (way.getD k default)).2.2) (way := way) (dst := dst) (S0 := S0) (S1 := S1) (T0 := T0) (T1 := T1) (r := inL B (way.getD k default)) t
  rw [t, show ((1 : Int) == 0) = false from rfl, if_neg (by decide), show ((1 : Int) == 1) = true from rfl, if_pos rfl]
  show ∃ T', chk _ ((F_link_Link_In B (way.getD (k : Int).toNat default)).bind _) = _ ∧ _
  rw [chk_t hw, toNat_cast, link_In d1.ok, Option.bind_some]
  have hp : ({ (mkP A B way dst S0 S1 T0 T1) with l := [((mkP A B way dst S0 S1 T0 T1).l.getD 0 none), some (inL B (way.getD k default)).2.2], ok := ((mkP A B way dst S0 S1 T0 T1).ok && ((inL B (way.getD k default)).2.1 == 0)) && (decide (((inL B (way.getD k default)).1.length : Int) ≤ 1)) } : Elaw22_pair) = mkP A (inL B (way.getD k default)).2.2 way dst S0 S1 T0 T1 := by
   have e2 : decide (((inL B (way.getD k default)).1.length : Int) ≤ 1) = true := by
    refine decide_eq_true ?_
    rcases q4 with ⟨q, _⟩ | ⟨v, q, _⟩ <;> rw [q] <;> simp
   unfold mkP
   dsimp only
   rw [q1, e2, q2]; rfl
  rw [hp]
  rcases q4 with ⟨q5, q6⟩ | ⟨v, q5, v1, v2, v3, q6⟩
  ·exact ⟨T1, hl.1 q5, ⟨p1, p2, p3, p4, p5, p6, by rw [q2]; exact p7, ⟨H0, M0, by rw [q2]; exact q6⟩, ⟨_, _, q3⟩⟩, q2, .inl ⟨q5, rfl⟩⟩
  ·exact ⟨v, hl.2 v q5 (by omega) v1 v3, ⟨p1, p2, p3, p4, p5, p6, by rw [q2]; exact p7, ⟨H0, M0, by rw [q2]; exact q6⟩, ⟨_, _, q3⟩⟩, q2, .inr ⟨q5, v2⟩⟩

end
end Go.Proofs.Ythomnhhjgcabkaa
