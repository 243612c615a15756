/- The laws of versions on lists: what was, what is pruned. No program in sight. -/
import Derived.Test.YtnebjcdhbjahoaaCell
namespace Go.Proofs.Ytnebjcdhbjahoaa

theorem scan_props (l : List Cell) (t : Nat) : ∀ (n : Nat) (hn : n ≤ l.length), (∀ j (h : j < l.length), scanL l t n ≤ j → j < n → t < l[j].ts) ∧ ∀ (h : 0 < scanL l t n), ¬ t < (l[scanL l t n - 1]'(by have := scan_le l t n; omega)).ts
  | 0, _ => ⟨fun j _ _ h => by omega, fun h => by simp [scanL] at h⟩
  | n + 1, hn => by
    obtain ⟨h1, h2⟩ := scan_props l t n (by omega)
    have hs := scan_step l t n (by omega)
    by_cases ht : t < l[n].ts
    · rw [if_pos ht] at hs
      refine ⟨fun j h ha hb => ?_, fun h => ?_⟩
      · by_cases hj : j = n
        · subst hj; exact ht
        · exact h1 j h (by omega) (by omega)
      · have h3 := h2 (by omega)
        simp only [hs]
        exact h3
    · rw [if_neg ht] at hs
      refine ⟨fun j h ha hb => by omega, fun h => ?_⟩
      simp only [hs]
      exact ht

theorem upto_above (l : List Cell) (t j : Nat) (h : j < l.length) (hj : uptoL l t ≤ j) : t < l[j].ts := (scan_props l t l.length (Nat.le_refl _)).1 j h hj h
theorem upto_last (l : List Cell) (t : Nat) (h : 0 < uptoL l t) : ¬ t < (l[uptoL l t - 1]'(by have := upto_le l t; omega)).ts := (scan_props l t l.length (Nat.le_refl _)).2 h

theorem upto_mono (l : List Cell) {t t' : Nat} (h : t ≤ t') : uptoL l t ≤ uptoL l t' := by
  refine Nat.le_of_not_lt fun hc => ?_
  have h0 : 0 < uptoL l t := by omega
  have h1 := upto_last l t h0
  have h2 := upto_above l t' (uptoL l t - 1) (by have := upto_le l t; omega) (by omega)
  omega

theorem upto_drop (l : List Cell) (t n : Nat) (hn : n ≤ l.length) : uptoL (l.drop n) t = uptoL l t - n := by
  have hle := upto_le l t
  refine upto_of _ _ _ (by simp; omega) (fun j h hj => ?_) (fun h => ?_)
  · have : (l.drop n)[j] = l[n + j]'(by simp at h; omega) := by simp
    rw [this]
    exact upto_above l t (n + j) _ (by omega)
  · have h1 := upto_last l t (by omega)
    have : (l.drop n)[uptoL l t - n - 1]'(by simp; omega) = l[uptoL l t - 1]'(by omega) := by
      simp only [List.getElem_drop]
      congr 1
      omega
    rw [this]
    exact h1

theorem right_weak : ∀ (l : List Cell) (a b : Nat), b ≤ a → rightL a l = true → rightL b l = true
  | [], _, _, _, _ => rfl
  | c :: l, a, b, hab, h => by
    simp only [rightL] at h ⊢
    split at h
    · cases h
    · rw [if_neg (by omega)]; exact h

theorem right_drop : ∀ (n a : Nat) (l : List Cell), rightL a l = true → rightL a (l.drop n) = true
  | 0, _, _, h => by simpa using h
  | n + 1, _, [], h => by simpa using h
  | n + 1, a, c :: l, h => by
    simp only [rightL] at h
    split at h
    · cases h
    · simp only [List.drop_succ_cons]
      exact right_drop n a l (right_weak l _ _ (by omega) h)

theorem right_snoc : ∀ (l : List Cell) (a : Nat) (c : Cell), rightL a l = true → (∀ (h : 0 < l.length), l[l.length - 1].ts < c.ts) → a < c.ts → rightL a (l ++ [c]) = true
  | [], a, c, _, _, ha => by simp [rightL]; omega
  | x :: l, a, c, h, hl, ha => by
    simp only [rightL, List.cons_append] at h ⊢
    split at h
    · cases h
    · rw [if_neg (by assumption)]
      have hxc : x.ts < c.ts := by
        cases l with
        | nil => simpa using hl (by simp)
        | cons y l =>
          obtain ⟨h1, h2⟩ := right_sorted (y :: l) x.ts h
          have h3 := h1 ((y :: l).length - 1) (by simp)
          have h4 := hl (by simp)
          simp at h3 h4
          omega
      refine right_snoc l x.ts c h (fun hp => ?_) hxc
      have := hl (by simp)
      have e : (x :: l)[(x :: l).length - 1] = l[l.length - 1] := by
        obtain ⟨m, hm⟩ : ∃ m, l.length = m + 1 := ⟨l.length - 1, by omega⟩
        simp [hm]
      rw [e] at this
      exact this

theorem put_ok {l : List Cell} {c : Cell} (h : (putL l c).2 = 0) : (putL l c).1 = l ++ [c] ∧ 0 < c.ts ∧ ∀ (hp : 0 < l.length), l[l.length - 1].ts < c.ts := by
  unfold putL at h ⊢
  split at h
  · cases h
  · rename_i hz
    rw [if_neg hz]
    split at h
    · cases h
    · rename_i hb
      rw [if_neg hb]
      refine ⟨rfl, by omega, fun hp => ?_⟩
      have ha : aheadL l l.length = (l[l.length - 1]'(by omega)).ts := by
        obtain ⟨m, hm⟩ : ∃ m, l.length = m + 1 := ⟨l.length - 1, by omega⟩
        simp [aheadL, hm]
      rw [← ha]
      have : ¬ (c.ts ≤ aheadL l l.length) := fun hc => hb ⟨hp, hc⟩
      omega

theorem past_late {l : List Cell} {c : Cell} {t : Nat} (h : c.ts ≤ t) : atL (l ++ [c]) t = if c.del then (ByteArray.empty, false) else (c.val, true) := by
  have hu : uptoL (l ++ [c]) t = l.length + 1 := upto_of _ _ _ (by simp) (fun j hj h1 => by simp at hj; omega) (fun _ => by simp; omega)
  unfold atL
  rw [hu]
  simp

theorem past_early {l : List Cell} {c : Cell} {t : Nat} (h : t < c.ts) : atL (l ++ [c]) t = atL l t := by
  have hle := upto_le l t
  have hu : uptoL (l ++ [c]) t = uptoL l t := by
    refine upto_of _ _ _ (by simp; omega) (fun j hj h1 => ?_) (fun h0 => ?_)
    · by_cases hjl : j < l.length
      · rw [List.getElem_append_left hjl]; exact upto_above l t j hjl h1
      · have : j = l.length := by simp at hj; omega
        subst this
        simpa using h
    · rw [List.getElem_append_left (by omega)]; exact upto_last l t h0
  unfold atL
  rw [hu]
  cases hn : uptoL l t with
  | zero => rfl
  | succ n => simp only [List.getElem?_append_left (show n < l.length by omega)]

theorem prune_le (l : List Cell) (t : Nat) : pruneN l t ≤ uptoL l t := by
  unfold pruneN
  split
  · omega
  · rename_i n hn
    rw [hn]
    split
    · split <;> omega
    · omega

/-- pruned at no later time nothing more goes -/
theorem prune_again (l : List Cell) (h t : Nat) (hth : t ≤ h) : pruneL (pruneL l h) t = pruneL l h := by
  have hle := upto_le l h
  have hpl := prune_le l h
  have hmono := upto_mono (pruneL l h) hth
  have hd : uptoL (pruneL l h) h = uptoL l h - pruneN l h := upto_drop l h _ (by omega)
  suffices hz : pruneN (pruneL l h) t = 0 by rw [pruneL, hz]; rfl
  cases hn : uptoL l h with
  | zero =>
    have : uptoL (pruneL l h) t = 0 := by omega
    unfold pruneN; rw [this]
  | succ n =>
    have hp : pruneN l h = (if (l[n]'(by omega)).del then n + 1 else n) := by
      unfold pruneN; rw [hn]; simp [List.getElem?_eq_getElem (show n < l.length by omega)]
    cases hdel : (l[n]'(by omega)).del with
    | true =>
      rw [hdel] at hp
      have : uptoL (pruneL l h) t = 0 := by simp at hp; omega
      unfold pruneN; rw [this]
    | false =>
      rw [hdel] at hp
      simp at hp
      by_cases h0 : uptoL (pruneL l h) t = 0
      · unfold pruneN; rw [h0]
      · have h1 : uptoL (pruneL l h) t = 1 := by omega
        unfold pruneN
        rw [h1]
        have : (pruneL l h)[0]? = some (l[n]'(by omega)) := by
          unfold pruneL
          rw [hp, List.getElem?_drop]
          simp
        simp only [this, hdel]
        rfl

/-- from that time on a key is what it was -/
theorem prune_at (l : List Cell) (h t : Nat) (hht : h ≤ t) : atL (pruneL l h) t = atL l t := by
  have hle := upto_le l t
  have hlh := upto_le l h
  have hpl := prune_le l h
  have hmono := upto_mono l hht
  have hd : uptoL (pruneL l h) t = uptoL l t - pruneN l h := upto_drop l t _ (by omega)
  cases hn : uptoL l t with
  | zero =>
    have h1 : uptoL (pruneL l h) t = 0 := by omega
    unfold atL; rw [h1, hn]
  | succ p =>
    by_cases hp : pruneN l h ≤ p
    · have h1 : uptoL (pruneL l h) t = p - pruneN l h + 1 := by omega
      unfold atL
      rw [h1, hn]
      have : (pruneL l h)[p - pruneN l h]? = l[p]? := by
        unfold pruneL
        rw [List.getElem?_drop]
        congr 1
        omega
      simp only [this]
    · have h1 : uptoL (pruneL l h) t = 0 := by omega
      have h2 : uptoL l h = p + 1 := by omega
      have h3 : pruneN l h = p + 1 := by omega
      have hdel : (l[p]'(by omega)).del = true := by
        unfold pruneN at h3
        rw [h2] at h3
        simp only [List.getElem?_eq_getElem (show p < l.length by omega)] at h3
        cases hx : (l[p]'(by omega)).del with
        | true => rfl
        | false => rw [hx] at h3; simp at h3
      unfold atL
      rw [h1, hn]
      simp [List.getElem?_eq_getElem (show p < l.length by omega), hdel]

theorem prune_len (l : List Cell) (h : Nat) : (pruneL l h).length ≤ l.length := by unfold pruneL; simp

end Go.Proofs.Ytnebjcdhbjahoaa
