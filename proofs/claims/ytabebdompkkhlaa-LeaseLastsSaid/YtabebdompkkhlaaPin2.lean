/- Pins on lists: what a tick, a grant and a renewal keep; how long a pin lasts. No program is named here. -/
import Derived.Test.YtabebdompkkhlaaPin
namespace Go.Proofs.Ytabebdompkkhlaa

theorem pright_iff : ∀ (l : List Pin) (a : Int), prightL a l = true ↔ (∀ p ∈ l, a < p.id ∧ 1 ≤ p.left ∧ p.left ≤ 8) ∧ l.Pairwise (fun p q => p.id < q.id)
  | [], a => by simp [prightL]
  | p :: l, a => by
    simp only [prightL]
    constructor
    · intro h
      split at h
      · cases h
      · rename_i hn
        obtain ⟨h1, h2⟩ := (pright_iff l p.id).1 h
        refine ⟨fun q hq => ?_, List.pairwise_cons.2 ⟨fun q hq => (h1 q hq).1, h2⟩⟩
        rcases List.mem_cons.1 hq with rfl | hq
        · omega
        · have := h1 q hq; omega
    · rintro ⟨h1, h2⟩
      obtain ⟨h3, h4⟩ := List.pairwise_cons.1 h2
      have h5 := h1 p (by simp)
      rw [if_neg (by omega)]
      exact (pright_iff l p.id).2 ⟨fun q hq => ⟨h3 q hq, (h1 q (by simp [hq])).2⟩, h4⟩

theorem may_iff (l : List Pin) : mayL l = true ↔ (∀ p ∈ l, 0 < p.id ∧ 1 ≤ p.left ∧ p.left ≤ 8) ∧ l.Pairwise (fun p q => p.id < q.id) ∧ l.length ≤ 3 := by
  unfold mayL
  rw [Bool.and_eq_true, pright_iff, decide_eq_true_eq, and_assoc]

/-- the pin of a number with so many ticks left -/
def Has (l : List Pin) (id c : Int) : Prop := ∃ a, (⟨id, a, c⟩ : Pin) ∈ l

theorem pair_uniq {l : List Pin} (h : l.Pairwise (fun p q => p.id < q.id)) {p q : Pin} (hp : p ∈ l) (hq : q ∈ l) (he : p.id = q.id) : p = q := by
  induction l with
  | nil => cases hp
  | cons x l ih =>
    obtain ⟨h1, h2⟩ := List.pairwise_cons.1 h
    rcases List.mem_cons.1 hp with hp1 | hp1
    · rcases List.mem_cons.1 hq with hq1 | hq1
      · rw [hp1, hq1]
      · have := h1 q hq1; rw [hp1] at he; omega
    · rcases List.mem_cons.1 hq with hq1 | hq1
      · have := h1 p hp1; rw [hq1] at he; omega
      · exact ih h2 hp1 hq1

theorem tick_may {l : List Pin} (h : mayL l = true) : mayL (tickL l) = true := by
  rw [may_iff] at h ⊢
  obtain ⟨h1, h2, h3⟩ := h
  unfold tickL
  refine ⟨fun p hp => ?_, ?_, ?_⟩
  · obtain ⟨q, hq, rfl⟩ := List.mem_map.1 hp
    obtain ⟨hq1, hq2⟩ := List.mem_filter.1 hq
    have := h1 q hq1
    simp only [decide_eq_true_eq] at hq2
    simp only
    omega
  · rw [List.pairwise_map]
    exact h2.filter _
  · rw [List.length_map]
    exact Nat.le_trans (List.length_filter_le _ _) h3

theorem tick_keeps {l : List Pin} {id c : Int} (h : mayL l = true) (hh : Has l id c) (hc : 1 < c) : Has (tickL l) id (c - 1) ∧ (goneL l).any (· == id) = false := by
  obtain ⟨a, ha⟩ := hh
  refine ⟨⟨a, List.mem_map.2 ⟨_, List.mem_filter.2 ⟨ha, by simpa using hc⟩, rfl⟩⟩, ?_⟩
  rw [List.any_eq_false]
  intro x hx
  obtain ⟨q, hq, rfl⟩ := List.mem_map.1 hx
  obtain ⟨hq1, hq2⟩ := List.mem_filter.1 hq
  intro he
  have he' : q.id = id := by simpa using he
  have := pair_uniq ((may_iff l).1 h).2.1 hq1 ha he'
  subst this
  simp at hq2
  omega

theorem tick_ends {l : List Pin} {id : Int} (h : mayL l = true) (hh : Has l id 1) : (goneL l).any (· == id) = true ∧ ∀ p ∈ tickL l, p.id ≠ id := by
  obtain ⟨a, ha⟩ := hh
  refine ⟨?_, fun p hp he => ?_⟩
  · rw [List.any_eq_true]
    exact ⟨id, List.mem_map.2 ⟨_, List.mem_filter.2 ⟨ha, by simp⟩, rfl⟩, by simp⟩
  · obtain ⟨q, hq, rfl⟩ := List.mem_map.1 hp
    obtain ⟨hq1, hq2⟩ := List.mem_filter.1 hq
    have := pair_uniq ((may_iff l).1 h).2.1 hq1 ha he
    subst this
    simp at hq2

theorem find_none {l : List Pin} {id : Int} (h : ∀ p ∈ l, p.id ≠ id) : ¬ findN l id < l.length := by
  intro hlt
  have h' : List.findIdx (fun p : Pin => p.id == id) l < l.length := hlt
  have := List.findIdx_getElem (w := h')
  exact h _ (List.getElem_mem h') (by simpa using this)

theorem find_some {l : List Pin} {id c : Int} (h : Has l id c) : findN l id < l.length := by
  obtain ⟨a, ha⟩ := h
  exact List.findIdx_lt_length_of_exists ⟨_, ha, by simp⟩

theorem renew_may {l : List Pin} {id : Int} {a : Nat} (h : mayL l = true) (i : Nat) (hi : i < l.length) (hid : l[i].id = id) : mayL (l.set i ⟨id, a, 8⟩) = true ∧ Has (l.set i ⟨id, a, 8⟩) id 8 := by
  rw [may_iff] at h ⊢
  obtain ⟨h1, h2, h3⟩ := h
  refine ⟨⟨fun p hp => ?_, ?_, by simpa using h3⟩, a, List.mem_iff_getElem.2 ⟨i, by simpa using hi, by simp⟩⟩
  · rcases List.mem_or_eq_of_mem_set hp with hp | rfl
    · exact h1 p hp
    · have := h1 l[i] (List.getElem_mem hi)
      simp only
      omega
  · rw [List.pairwise_iff_getElem] at h2 ⊢
    intro x y hx hy hxy
    have hx' : x < l.length := by simpa using hx
    have hy' : y < l.length := by simpa using hy
    have := h2 x y hx' hy' hxy
    have key : ∀ z (hz : z < (l.set i ⟨id, a, 8⟩).length) (hz' : z < l.length), (l.set i ⟨id, a, 8⟩)[z].id = l[z].id := by
      intro z hz hz'
      rw [List.getElem_set]
      split
      · rename_i e; subst e; exact hid.symm
      · rfl
    rw [key x hx hx', key y hy hy']
    exact this

theorem grant_may {l : List Pin} {id : Int} {a : Nat} (h : mayL l = true) (hg : (grantL l id a).2 = 0) : (grantL l id a).1 = l ++ [⟨id, a, 8⟩] ∧ mayL (l ++ [⟨id, a, 8⟩]) = true ∧ Has (l ++ [⟨id, a, 8⟩]) id 8 := by
  unfold grantL at hg ⊢
  split at hg
  · cases hg
  · rename_i h3
    split at hg
    · cases hg
    · rename_i hr
      split at hg
      · cases hg
      · rename_i hb
        rw [if_neg h3, if_neg hr, if_neg hb]
        refine ⟨rfl, ?_, a, by simp⟩
        rw [may_iff] at h ⊢
        obtain ⟨h1, h2, _⟩ := h
        refine ⟨fun p hp => ?_, ?_, by simp; omega⟩
        · rcases List.mem_append.1 hp with hp | hp
          · exact h1 p hp
          · simp only [List.mem_singleton] at hp
            subst hp
            simp only
            omega
        · rw [List.pairwise_append]
          refine ⟨h2, by simp, fun p hp q hq => ?_⟩
          simp only [List.mem_singleton] at hq
          subst hq
          simp only
          obtain ⟨i, hi, rfl⟩ := List.getElem_of_mem hp
          have hpos : 0 < l.length := by omega
          have hl : paheadL l l.length = (l[l.length - 1]'(by omega)).id := by
            obtain ⟨m, hm⟩ : ∃ m, l.length = m + 1 := ⟨l.length - 1, by omega⟩
            simp [paheadL, hm]
          have hlast : (l[l.length - 1]'(by omega)).id < id := by
            have : ¬ id ≤ paheadL l l.length := fun hh => hb ⟨hpos, hh⟩
            rw [hl] at this
            omega
          by_cases he : i = l.length - 1
          · subst he; exact hlast
          · have := (List.pairwise_iff_getElem.1 h2) i (l.length - 1) hi (by omega) (by omega)
            omega

/-- so many ticks -/
def ticks : Nat → List Pin → List Pin
  | 0, l => l
  | n + 1, l => tickL (ticks n l)

theorem ticks_has {l : List Pin} {id : Int} (h : mayL l = true) (hh : Has l id 8) : ∀ n : Nat, n ≤ 7 → mayL (ticks n l) = true ∧ Has (ticks n l) id (8 - n)
  | 0, _ => by simpa [ticks] using ⟨h, hh⟩
  | n + 1, hn => by
    obtain ⟨h1, h2⟩ := ticks_has h hh n (by omega)
    refine ⟨tick_may h1, ?_⟩
    have := (tick_keeps h1 h2 (by omega)).1
    rw [show (8 : Int) - ((n + 1 : Nat) : Int) = 8 - n - 1 by omega]
    exact this

end Go.Proofs.Ytabebdompkkhlaa
