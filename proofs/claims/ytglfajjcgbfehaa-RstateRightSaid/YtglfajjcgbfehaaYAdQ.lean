/- A replica's log: what setting an entry comes to. -/
import Derived.Test.YtglfajjcgbfehaaYAdP
namespace Go.Proofs.Ytglfajjcgbfehaa

-- lists that are right, place by place
structure rightK (L : List EEntry) (k : Nat) : Prop where
 chk : batchCheck (L.getD k default).batch = 0
 tw : ∀ j, j < k → tw (L.getD j default) (L.getD k default) = false
 fol : 0 < k → (L.getD k default).ts ≠ 0 → (L.getD (k - 1) default).ts ≠ 0 ∧ (L.getD (k - 1) default).ts < (L.getD k default).ts

def Rt (L : List EEntry) : Prop := ∀ k, k < L.length → rightK L k

theorem any_false {L : List EEntry} {k : Nat} (hk : k ≤ L.length) (f : EEntry → Bool) : (L.take k).any f = false ↔ ∀ j, j < k → f (L.getD j default) = false := by
 rw [List.any_eq_false]
 constructor
 ·intro h j hj
  have := h (L.getD j default) (by
   rw [getD_lt (by omega)]
   exact List.mem_take_iff_getElem.2 ⟨j, by omega, rfl⟩)
  simpa using this
 ·intro h x hx
  obtain ⟨j, hj, rfl⟩ := List.mem_take_iff_getElem.1 hx
  have := h j (by omega)
  rw [getD_lt (by omega)] at this
  rw [this]; decide

theorem follow_false {L : List EEntry} {k : Nat} (hk : k ≤ L.length) (e : EEntry) : follow (L.take k) e = false ↔ (0 < k → e.ts ≠ 0 → (L.getD (k - 1) default).ts ≠ 0 ∧ (L.getD (k - 1) default).ts < e.ts) := by
 rw [follow_at hk e, show ((k : Int) - 1).toNat = k - 1 by omega]
 simp only [Bool.and_eq_false_iff, decide_eq_false_iff_not, bne_eq_false_iff_eq, Bool.or_eq_false_iff, beq_eq_false_iff_ne]
 constructor
 ·rintro h h0 h1
  rcases h with h | h | ⟨h2, h3⟩
  ·omega
  ·exact absurd h h1
  ·exact ⟨h2, by omega⟩
 ·intro h
  by_cases h0 : 0 < k
  ·by_cases h1 : e.ts = 0
   ·exact .inr (.inl h1)
   ·obtain ⟨h2, h3⟩ := h h0 h1
    exact .inr (.inr ⟨h2, by omega⟩)
  ·exact .inl (by omega)

theorem right_iff' (L : List EEntry) : ∀ n k, L.length - k = n → k ≤ L.length → (rightF (L.take k) (L.drop k) = 0 ↔ ∀ j, k ≤ j → j < L.length → rightK L j)
 | 0, k, h, hk => by
  rw [List.drop_eq_nil_of_le (by omega)]
  exact ⟨fun _ j h1 h2 => by omega, fun _ => rfl⟩
 | n + 1, k, h, hk => by
  have hk2 : k < L.length := by omega
  rw [rightF_at hk2]
  have ih := right_iff' L n (k + 1) (by omega) (by omega)
  constructor
  ·intro h1 j h2 h3
   by_cases c1 : batchCheck (L.getD k default).batch = 0
   ·rw [if_neg (by rw [c1]; decide)] at h1
    by_cases c2 : ((L.take k).any (fun x => tw x (L.getD k default)) || follow (L.take k) (L.getD k default)) = true
    ·rw [if_pos c2] at h1; cases h1
    ·rw [if_neg c2] at h1
     rw [Bool.or_eq_true, not_or] at c2
     by_cases e : j = k
     ·subst e
      exact ⟨c1, (any_false hk _).1 (by simpa using c2.1), (follow_false hk _).1 (by simpa using c2.2)⟩
     ·exact ih.1 h1 j (by omega) h3
   ·rw [if_pos c1] at h1; exact absurd h1 c1
  ·intro h1
   have h2 := h1 k (Nat.le_refl _) hk2
   rw [if_neg (by rw [h2.chk]; decide), if_neg (by rw [(any_false hk _).2 h2.tw, (follow_false hk _).2 h2.fol]; decide)]
   exact ih.2 fun j h3 h4 => h1 j (by omega) h4

theorem right_iff (L : List EEntry) : rightL L = 0 ↔ Rt L := by
 have := right_iff' L L.length 0 (by omega) (Nat.zero_le _)
 rw [List.take_zero, List.drop_zero] at this
 exact this.trans ⟨fun h k hk => h k (Nat.zero_le _) hk, fun h j _ hj => h j hj⟩

-- an entry at a place
def zeroT (e : EEntry) : EEntry := { e with ts := 0 }

def stampT (e : EEntry) (t : Int) : EEntry := { e with ts := t }

def putE (L : List EEntry) (n : Nat) (e : EEntry) : List EEntry :=
 if n < L.length ∧ tw (L.getD n default) e = true then (if (L.getD n default).ts = e.ts then L else L.take n ++ stampT (L.getD n default) e.ts :: (L.drop (n + 1)).map zeroT)
 else L.take n ++ [e]

structure canSet (L : List EEntry) (i : Int) (e : EEntry) : Prop where
 ge : 0 ≤ i
 le : i ≤ (L.length : Int)
 chk : batchCheck e.batch = 0
 lt : i < 100
 tw : ∀ j : Nat, (j : Int) < i → tw (L.getD j default) e = false
 fol : 0 < i → e.ts ≠ 0 → (L.getD (i - 1).toNat default).ts ≠ 0 ∧ (L.getD (i - 1).toNat default).ts < e.ts

def setC (L : List EEntry) (i : Int) (e : EEntry) : Int :=
 if i < 0 ∨ i > (L.length : Int) then 1 else if batchCheck e.batch ≠ 0 then batchCheck e.batch else if i ≥ 100 then 6
 else if (L.take i.toNat).any (fun x => tw x e) = true then 18 else if follow (L.take i.toNat) e = true then 18 else 0

theorem setC_ok {L : List EEntry} {i : Int} {e : EEntry} : setC L i e = 0 ↔ canSet L i e := by
 unfold setC
 constructor
 ·intro h
  split at h; · cases h
  rename_i c1
  split at h; · rename_i c2; exact absurd h c2
  rename_i c2
  split at h; · cases h
  rename_i c3
  split at h; · cases h
  rename_i c4
  split at h; · cases h
  rename_i c5
  have c4' := (any_false (L := L) (k := i.toNat) (by omega) (fun x => tw x e)).1 (by simpa using c4)
  have c5' := (follow_false (L := L) (k := i.toNat) (by omega) e).1 (by simpa using c5)
  refine ⟨by omega, by omega, by simpa using c2, by omega, fun j hj => c4' j (by omega), fun h0 h1 => ?_⟩
  have := c5' (by omega) h1
  rw [show (i - 1).toNat = i.toNat - 1 by omega]; exact this
 ·intro h
  obtain ⟨h1, h2, h3, h4, h5, h6⟩ := h
  rw [if_neg (by omega), if_neg (by rw [h3]; decide), if_neg (by omega), if_neg, if_neg]
  ·rw [(follow_false (L := L) (k := i.toNat) (by omega) e).2 fun h0 h1' => ?_]; · decide
   have := h6 (by omega) h1'
   rw [show (i - 1).toNat = i.toNat - 1 by omega] at this; exact this
  ·rw [(any_false (L := L) (k := i.toNat) (by omega) (fun x => tw x e)).2 fun j hj => h5 j (by omega)]; decide

-- elements of what is put
theorem put_get {L : List EEntry} {n : Nat} {e : EEntry} (hn : n ≤ L.length) (j : Nat) (hj : j < n) : (putE L n e).getD j default = L.getD j default := by
 unfold putE
 have hl : (L.take n).length = n := by rw [List.length_take]; omega
 split
 ·split
  ·rfl
  ·rw [getD_lt (by rw [List.length_append]; omega), List.getElem_append_left (by omega), List.getElem_take]; exact (getD_lt (by omega)).symm
 ·rw [getD_lt (by rw [List.length_append]; omega), List.getElem_append_left (by omega), List.getElem_take]; exact (getD_lt (by omega)).symm

theorem put_len {L : List EEntry} {n : Nat} {e : EEntry} (hn : n ≤ L.length) : n < (putE L n e).length ∧ (putE L n e).length ≤ max L.length (n + 1) := by
 unfold putE
 have hl : (L.take n).length = n := by rw [List.length_take]; omega
 split
 ·rename_i c
  split
  ·omega
  ·rw [List.length_append, List.length_cons, List.length_map, List.length_drop]; omega
 ·rw [List.length_append, List.length_cons, List.length_nil]; omega

theorem put_right {L : List EEntry} {i : Int} {e : EEntry} (hR : Rt L) (h : canSet L i e) : Rt (putE L i.toNat e) := by
 obtain ⟨h1, h2, h3, h4, h5, h6⟩ := h
 have hn : i.toNat ≤ L.length := by omega
 have hi : (i - 1).toNat = i.toNat - 1 := by omega
 rw [hi] at h6
 have hp := put_len (e := e) hn
 -- places ahead
 have ahead : ∀ k, k < i.toNat → rightK (putE L i.toNat e) k := fun k hk => by
  have q := hR k (by omega)
  refine ⟨?_, fun j hj => ?_, fun h0 => ?_⟩
  ·rw [put_get hn k hk]; exact q.chk
  ·rw [put_get hn k hk, put_get hn j (by omega)]; exact q.tw j hj
  ·rw [put_get hn k hk, put_get hn (k - 1) (by omega)]; exact q.fol h0
 intro k hk
 by_cases c : k < i.toNat
 ·exact ahead k c
 by_cases ct : i.toNat < L.length ∧ tw (L.getD i.toNat default) e = true
 ·by_cases cs : (L.getD i.toNat default).ts = e.ts
  ·have : putE L i.toNat e = L := by unfold putE; rw [if_pos ct, if_pos cs]
   rw [this] at hk ⊢; exact hR k hk
  ·have hl : (L.take i.toNat).length = i.toNat := by rw [List.length_take]; omega
   have ep : putE L i.toNat e = L.take i.toNat ++ stampT (L.getD i.toNat default) e.ts :: (L.drop (i.toNat + 1)).map zeroT := by unfold putE; rw [if_pos ct, if_neg cs]
   have e0 : (putE L i.toNat e).getD i.toNat default = stampT (L.getD i.toNat default) e.ts := by
    rw [ep, getD_lt (by rw [List.length_append, List.length_cons]; omega), List.getElem_append_right (by omega)]; simp [hl]
   have e1 : ∀ j, i.toNat < j → j < L.length → (putE L i.toNat e).getD j default = zeroT (L.getD j default) := fun j hj hj2 => by
    rw [ep, getD_lt (by rw [List.length_append, List.length_cons, List.length_map, List.length_drop]; omega), getD_lt hj2, List.getElem_append_right (by omega)]
    simp only [hl]
    obtain ⟨q, rfl⟩ : ∃ q, j = i.toNat + 1 + q := ⟨j - i.toNat - 1, by omega⟩
    simp only [show i.toNat + 1 + q - i.toNat = q + 1 by omega, List.getElem_cons_succ, List.getElem_map, List.getElem_drop]
   have hkl : k < L.length := by rw [ep, List.length_append, List.length_cons, List.length_map, List.length_drop] at hk; omega
   have hb : ∀ j, j < L.length → ((putE L i.toNat e).getD j default).batch = (L.getD j default).batch := fun j hj => by
    by_cases c1 : j < i.toNat
    ·rw [put_get hn j c1]
    ·by_cases c2 : j = i.toNat
     ·rw [c2, e0]; rfl
     ·rw [e1 j (by omega) hj]; rfl
   have q := hR k hkl
   refine ⟨by rw [hb k hkl]; exact q.chk, fun j hj => ?_, fun h0 ht => ?_⟩
   ·have := q.tw j hj
    unfold tw at this ⊢
    rw [hb k hkl, hb j (by omega)]; exact this
   ·by_cases c2 : k = i.toNat
    ·subst c2
     rw [e0] at ht ⊢
     rw [put_get hn _ (by omega)]
     exact h6 (by omega) ht
    ·rw [e1 k (by omega) hkl] at ht
     exact absurd rfl ht
 ·have hl : (L.take i.toNat).length = i.toNat := by rw [List.length_take]; omega
  have ep : putE L i.toNat e = L.take i.toNat ++ [e] := by unfold putE; rw [if_neg ct]
  have hkk : k = i.toNat := by rw [ep, List.length_append, List.length_cons, List.length_nil] at hk; omega
  subst hkk
  have e0 : (putE L i.toNat e).getD i.toNat default = e := by
   rw [ep, getD_lt (by rw [List.length_append, List.length_cons]; omega), List.getElem_append_right (by omega)]; simp [hl]
  refine ⟨by rw [e0]; exact h3, fun j hj => ?_, fun h0 ht => ?_⟩
  ·rw [e0, put_get hn j hj]; exact h5 j (by omega)
  ·rw [e0] at ht ⊢
   rw [put_get hn _ (by omega)]
   exact h6 (by omega) ht

-- the document's
end Go.Proofs.Ytglfajjcgbfehaa
