/- Links: from one side to the other, plain: what is told was sent, in its order. -/
import Derived.Test.YthomnhhjgcabkaaYLinkP2
import Derived.Test.YthomnhhjgcabkaaYLinkG
namespace Go.Proofs.Ythomnhhjgcabkaa

def numS (n : Int) : ByteArray := strI [n.tdiv 256, n.tmod 256]

theorem numS_size (n : Int) : (numS n).size = 2 := rfl

theorem numS_at (n : Int) (h : 0 ≤ n ∧ n ≤ 65535) : (byteAt (numS n) 0 : Int) = n / 256 ∧ (byteAt (numS n) 1 : Int) = n % 256 := by
 have h0 : byteAt (numS n) 0 = (UInt8.ofNat (n.tdiv 256).toNat).toNat := rfl
 have h1 : byteAt (numS n) 1 = (UInt8.ofNat (n.tmod 256).toNat).toNat := rfl
 rw [h0, h1, UInt8.toNat_ofNat', UInt8.toNat_ofNat', Int.tdiv_eq_ediv_of_nonneg h.1, Int.tmod_eq_emod_of_nonneg h.1]
 omega

theorem number_ok {n : Int} (h : 0 ≤ n ∧ n ≤ 65535) : F_law22_number n = some (numS n) := by
 unfold F_law22_number
 rw [Int.tdiv_eq_ediv_of_nonneg h.1, Int.tmod_eq_emod_of_nonneg h.1, chk_t (by unfold inI; omega), chk_t (by unfold inB; omega), chk_t (by unfold inB; omega)]
 unfold numS
 rw [Int.tdiv_eq_ediv_of_nonneg h.1, Int.tmod_eq_emod_of_nonneg h.1]

theorem numbered_ok {n : Int} (h : 0 ≤ n ∧ n ≤ 65535) : F_law22_numbered (numS n) = some n := by
 obtain ⟨h0, h1⟩ := numS_at n h
 unfold F_law22_numbered
 rw [if_neg (by rw [numS_size]; decide)]
 have e0 : (0 : Int).toNat = 0 := rfl
 have e1 : (1 : Int).toNat = 1 := rfl
 rw [e0, e1, h0, h1, chk_t (by rw [numS_size]; decide), chk_t (by unfold inI; omega), chk_t (by unfold inI; omega), chk_t (by rw [numS_size]; decide), chk_t (by unfold inI; omega), chk_t (by unfold inI; omega)]
 congr 1; omega

-- one way
abbrev Hs := Int → Int → List Int

abbrev Ms := Int → Int → Int

/-- a segment that the side A may have sent -/
structure Sg (A : Elink_Link) (H : Hs) (M : Ms) (s : ESeg) : Prop where
 may : mayS s = true
 str : 1 ≤ s.stream
 cur : s.boot < A.boot ∨ s.boot = A.boot ∧ s.stream ≤ A.stream
 two : 2 ≤ s.stream → 0 < M s.boot s.stream
 ack : s.ackBoot = 0 ∨ s.ackBoot = M s.boot s.stream
 txt : s.has = true → 0 ≤ s.seq ∧ s.seq < ((H s.boot s.stream).length : Int) ∧ s.body = numS ((H s.boot s.stream).getD s.seq.toNat 0)

structure Dir (A : Elink_Link) (S rb : Int) (pr : Elink_side) (T : Int) (W : ESeg → Prop) (H : Hs) (M : Ms) : Prop where
 ok : lkOk A
 qlen : ((H A.boot A.stream).length : Int) = A.q.first + (A.q.l.length : Int)
 qget : ∀ i, i < A.q.l.length → A.q.l.getD i default = numS ((H A.boot A.stream).getD (A.q.first.toNat + i) 0)
 inc : ∀ b s i j, i < j → j < (H b s).length → (H b s).getD i 0 < (H b s).getD j 0
 rng : ∀ b s i, i < (H b s).length → 1 ≤ (H b s).getD i 0 ∧ (H b s).getD i 0 ≤ S
 boots : ∀ b s b' s' i j, b < b' → i < (H b s).length → j < (H b' s').length → (H b s).getD i 0 < (H b' s').getD j 0
 fut : ∀ b s, (A.boot < b ∨ b = A.boot ∧ A.stream < s) → H b s = [] ∧ M b s = 0
 peers : M A.boot A.stream = A.peer.boot
 mle : ∀ b s, M b s ≤ rb
 minc : ∀ b s s', 1 ≤ s → s < s' → 0 < M b s' → M b s < M b s'
 pk : pr.boot = 0 ∨ pr.boot < A.boot ∨ pr.boot = A.boot ∧ pr.stream ≤ A.stream
 nx : 0 ≤ pr.next ∧ (pr.next = 0 ∨ pr.next ≤ ((H pr.boot pr.stream).length : Int))
 rbp : 1 ≤ rb
 tl : T = 0 ∨ ∃ b s i, 1 ≤ s ∧ i < (H b s).length ∧ T = (H b s).getD i 0 ∧ M b s = rb ∧ (b < pr.boot ∨ b = pr.boot ∧ s = pr.stream ∧ (i : Int) < pr.next)
 segs : ∀ s, W s → Sg A H M s

theorem Dir.len {A : Elink_Link} {S rb : Int} {pr : Elink_side} {T : Int} {W : ESeg → Prop} {H : Hs} {M : Ms} (h : Dir A S rb pr T W H M) (b s : Int) : ((H b s).length : Int) ≤ max S 0 := by
 have : ∀ k, k < (H b s).length → (k : Int) + 1 ≤ (H b s).getD k 0 := by
  intro k
  induction k with
  | zero => intro hk; have := h.rng b s 0 hk; omega
  | succ k ih => intro hk; have := ih (by omega); have := h.inc b s k (k + 1) (by omega) hk; omega
 by_cases c : (H b s).length = 0
 ·omega
 ·have h1 := this ((H b s).length - 1) (by omega)
  have h2 := h.rng b s ((H b s).length - 1) (by omega)
  omega

section
variable {A A' : Elink_Link} {S rb : Int} {pr : Elink_side} {T : Int} {W : ESeg → Prop} {H : Hs} {M : Ms}
theorem Dir.congrA (h : Dir A S rb pr T W H M) (ok : lkOk A') (e1 : A'.boot = A.boot) (e2 : A'.stream = A.stream) (e3 : A'.q.first = A.q.first) (e4 : A'.q.l = A.q.l) (e5 : A'.peer.boot = A.peer.boot) : Dir A' S rb pr T W H M := by
 obtain ⟨_, h2, h3, h4, h5, h6, h7, h8, h9, h10, h11, h12, h12', h13, h14⟩ := h
 refine ⟨ok, by rw [e1, e2, e3, e4]; exact h2, by rw [e1, e2, e3, e4]; exact h3, h4, h5, h6, by rw [e1, e2]; exact h7, by rw [e1, e2, e5]; exact h8, h9, h10, by rw [e1, e2]; exact h11, h12, h12', h13, fun s hs => ?_⟩
 obtain ⟨a1, a2, a3, a4, a5, a6⟩ := h14 s hs
 exact ⟨a1, a2, by rw [e1, e2]; exact a3, a4, a5, a6⟩

theorem Dir.mono {W' : ESeg → Prop} (h : Dir A S rb pr T W H M) (hw : ∀ s, W' s → W s ∨ Sg A H M s) : Dir A S rb pr T W' H M := by
 obtain ⟨h1, h2, h3, h4, h5, h6, h7, h8, h9, h10, h11, h12, h12', h13, h14⟩ := h
 exact ⟨h1, h2, h3, h4, h5, h6, h7, h8, h9, h10, h11, h12, h12', h13, fun s hs => (hw s hs).elim (h14 s) id⟩

/-- a text is sent -/
def addH (H : Hs) (b s n : Int) : Hs := fun b' s' => if b' = b ∧ s' = s then H b s ++ [n] else H b' s'

theorem addH_cases (H : Hs) (b s n b' s' : Int) : (addH H b s n b' s' = H b' s' ++ [n] ∧ b' = b ∧ s' = s) ∨ (addH H b s n b' s' = H b' s' ∧ ¬ (b' = b ∧ s' = s)) := by
 unfold addH
 by_cases c : b' = b ∧ s' = s
 ·left; rw [if_pos c, c.1, c.2]; exact ⟨rfl, rfl, rfl⟩
 ·right; rw [if_neg c]; exact ⟨rfl, c⟩

theorem getD_snoc {l : List Int} {n : Int} {i : Nat} (h : i < (l ++ [n]).length) : (i < l.length ∧ (l ++ [n]).getD i 0 = l.getD i 0) ∨ (i = l.length ∧ (l ++ [n]).getD i 0 = n) := by
 rw [List.length_append, List.length_singleton] at h
 by_cases c : i < l.length
 ·left; exact ⟨c, by simp [List.getD_eq_getElem?_getD, List.getElem?_append_left c]⟩
 ·right
  have e : i = l.length := by omega
  subst e
  exact ⟨rfl, by simp [List.getD_eq_getElem?_getD]⟩

theorem addH_get (H : Hs) (b s n b' s' : Int) {i : Nat} (hi : i < (addH H b s n b' s').length) : (i < (H b' s').length ∧ (addH H b s n b' s').getD i 0 = (H b' s').getD i 0) ∨ (b' = b ∧ s' = s ∧ i = (H b s).length ∧ (addH H b s n b' s').getD i 0 = n) := by
 rcases addH_cases H b s n b' s' with ⟨e, e1, e2⟩ | ⟨e, _⟩
 ·subst e1; subst e2
  rw [e] at hi ⊢
  rcases getD_snoc hi with ⟨c1, c2⟩ | ⟨c1, c2⟩
  ·exact .inl ⟨c1, c2⟩
  ·exact .inr ⟨rfl, rfl, c1, c2⟩
 ·rw [e] at hi ⊢
  exact .inl ⟨hi, rfl⟩

theorem addH_old (H : Hs) (b s n b' s' : Int) {i : Nat} (hi : i < (H b' s').length) : i < (addH H b s n b' s').length ∧ (addH H b s n b' s').getD i 0 = (H b' s').getD i 0 := by
 rcases addH_cases H b s n b' s' with ⟨e, _⟩ | ⟨e, _⟩
 ·rw [e]; exact ⟨by rw [List.length_append]; omega, by simp [List.getD_eq_getElem?_getD, List.getElem?_append_left hi]⟩
 ·rw [e]; exact ⟨hi, rfl⟩

theorem Dir.send (h : Dir A S rb pr T W H M) (hS : 0 ≤ S) (ok : lkOk A') (e1 : A'.boot = A.boot) (e2 : A'.stream = A.stream) (e3 : A'.q.first = A.q.first) (e4 : A'.q.l = A.q.l ++ [numS (S + 1)]) (e5 : A'.peer.boot = A.peer.boot) : Dir A' (S + 1) rb pr T W (addH H A.boot A.stream (S + 1)) M := by
 have hf := h.ok.first
 have hcur : addH H A.boot A.stream (S + 1) A.boot A.stream = H A.boot A.stream ++ [S + 1] := by unfold addH; rw [if_pos ⟨rfl, rfl⟩]
 have hq := h.qlen
 refine ⟨ok, ?_, fun i hi => ?_, fun b s i j hij hj => ?_, fun b s i hi => ?_, fun b s b' s' i j hb hi hj => ?_, fun b s hbs => ?_, by rw [e1, e2, e5]; exact h.peers, h.mle, h.minc, by rw [e1, e2]; exact h.pk, ?_, h.rbp, ?_, fun s hs => ?_⟩
 ·rw [e1, e2, e3, e4, hcur, List.length_append, List.length_append, List.length_singleton, List.length_singleton]; omega
 ·rw [e4] at hi ⊢
  rw [e1, e2, e3, hcur]
  rw [List.length_append, List.length_singleton] at hi
  by_cases c : i < A.q.l.length
  ·have := h.qget i c
   have hlt : A.q.first.toNat + i < (H A.boot A.stream).length := by omega
   rw [List.getD_eq_getElem?_getD, List.getElem?_append_left c, ← List.getD_eq_getElem?_getD, this, List.getD_eq_getElem?_getD (l := _ ++ _), List.getElem?_append_left hlt, ← List.getD_eq_getElem?_getD]
  ·have ei : i = A.q.l.length := by omega
   subst ei
   have e6 : A.q.first.toNat + A.q.l.length = (H A.boot A.stream).length := by omega
   rw [e6]
   simp [List.getD_eq_getElem?_getD]
 ·rcases addH_get H A.boot A.stream (S + 1) b s hj with ⟨c1, c2⟩ | ⟨c0, c0', c1, c2⟩
  ·have := addH_old H A.boot A.stream (S + 1) b s (i := i) (by omega)
   rw [c2, this.2]; exact h.inc b s i j hij c1
  ·subst c0; subst c0'
   have := addH_old H A.boot A.stream (S + 1) A.boot A.stream (i := i) (by omega)
   rw [c2, this.2]
   have := h.rng A.boot A.stream i (by omega); omega
 ·rcases addH_get H A.boot A.stream (S + 1) b s hi with ⟨c1, c2⟩ | ⟨c0, c0', c1, c2⟩
  ·rw [c2]; have := h.rng b s i c1; omega
  ·rw [c2]; omega
 ·rcases addH_get H A.boot A.stream (S + 1) b s hi with ⟨c1, c2⟩ | ⟨c0, c0', c1, c2⟩
  ·rcases addH_get H A.boot A.stream (S + 1) b' s' hj with ⟨d1, d2⟩ | ⟨d0, d0', d1, d2⟩
   ·rw [c2, d2]; exact h.boots b s b' s' i j hb c1 d1
   ·rw [c2, d2]; have := h.rng b s i c1; omega
  ·exfalso
   rcases addH_get H A.boot A.stream (S + 1) b' s' hj with ⟨d1, d2⟩ | ⟨d0, d0', d1, d2⟩
   ·rw [(h.fut b' s' (.inl (by omega))).1] at d1; simp at d1
   ·omega
 ·rw [e1, e2] at hbs
  have := h.fut b s hbs
  refine ⟨?_, this.2⟩
  unfold addH
  rw [if_neg (by omega)]; exact this.1
 ·refine ⟨h.nx.1, h.nx.2.elim .inl fun q => .inr ?_⟩
  rcases addH_cases H A.boot A.stream (S + 1) pr.boot pr.stream with ⟨e, _⟩ | ⟨e, _⟩
  ·rw [e, List.length_append]; omega
  ·rw [e]; exact q
 ·rcases h.tl with q | ⟨b, s, i, q1, q2, q3, q4, q5⟩
  ·exact .inl q
  ·have := addH_old H A.boot A.stream (S + 1) b s q2
   exact .inr ⟨b, s, i, q1, this.1, by rw [this.2]; exact q3, q4, q5⟩
 ·obtain ⟨a1, a2, a3, a4, a5, a6⟩ := h.segs s hs
  refine ⟨a1, a2, by rw [e1, e2]; exact a3, a4, a5, fun hh => ?_⟩
  obtain ⟨b1, b2, b3⟩ := a6 hh
  have := addH_old H A.boot A.stream (S + 1) s.boot s.stream (i := s.seq.toNat) (by omega)
  exact ⟨b1, by omega, by rw [this.2]; exact b3⟩

/-- texts that came are let go -/
theorem Dir.upto (h : Dir A S rb pr T W H M) (n : Int) (ok : lkOk (uptoL A n)) : Dir (uptoL A n) S rb pr T W H M := by
 obtain ⟨h1, h2, h3, h4, h5, h6, h7, h8, h9, h10, h11, h12, h12', h13, h14⟩ := h
 have hk : uptoK A n ≤ A.q.l.length := by unfold uptoK; omega
 have hf := h1.first
 refine ⟨ok, ?_, fun i hi => ?_, h4, h5, h6, h7, h8, h9, h10, h11, h12, h12', h13, fun s hs => ?_⟩
 ·show ((H A.boot A.stream).length : Int) = (A.q.first + (uptoK A n : Int)) + ((A.q.l.drop (uptoK A n)).length : Int)
  rw [List.length_drop, h2]; omega
 ·have hi' : i < (A.q.l.drop (uptoK A n)).length := hi
  rw [List.length_drop] at hi'
  show (A.q.l.drop (uptoK A n)).getD i default = numS ((H A.boot A.stream).getD ((A.q.first + (uptoK A n : Int)).toNat + i) 0)
  have := h3 (uptoK A n + i) (by omega)
  rw [show (A.q.first + (uptoK A n : Int)).toNat + i = A.q.first.toNat + (uptoK A n + i) by omega, ← this]
  simp [List.getD_eq_getElem?_getD]
 ·obtain ⟨a1, a2, a3, a4, a5, a6⟩ := h14 s hs
  exact ⟨a1, a2, a3, a4, a5, a6⟩

end
end Go.Proofs.Ythomnhhjgcabkaa
