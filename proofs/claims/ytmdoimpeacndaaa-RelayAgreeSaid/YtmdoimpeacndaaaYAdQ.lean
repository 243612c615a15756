/- A replica's log: what setting an entry comes to. -/
import Derived.Test.YtmdoimpeacndaaaYAdP
namespace Go.Proofs.Ytmdoimpeacndaaa

-- lists that are right, place by place
structure rightK (L : List EEntry) (k : Nat) : Prop where
 chk : batchCheck (L.getD k default).batch = 0
 tw : ∀ j, j < k → tw (L.getD j default) (L.getD k default) = false
 fol : 0 < k → (L.getD k default).ts ≠ 0 → (L.getD (k - 1) default).ts ≠ 0 ∧ (L.getD (k - 1) default).ts < (L.getD k default).ts

def Rt (L : List EEntry) : Prop := ∀ k, k < L.length → rightK L k

theorem any_false {L : List EEntry} {k : Nat} (hk : k ≤ L.length) (f : EEntry → Bool) : (L.take k).any f = false ↔ ∀ j, j < k → f (L.getD j default) = false := by
 rw [List.any_eq_false]
 constructor
 ·intro h j hj
  have := h (L.getD j default) (by
   rw [getD_lt (by omega)]
   exact List.mem_take_iff_getElem.2 ⟨j, by omega, rfl⟩)
  simpa using this
 ·intro h x hx
  obtain ⟨j, hj, rfl⟩ := List.mem_take_iff_getElem.1 hx
  have := h j (by omega)
  rw [getD_lt (by omega)] at this
  rw [this]; decide

theorem follow_false {L : List EEntry} {k : Nat} (hk : k ≤ L.length) (e : EEntry) : follow (L.take k) e = false ↔ (0 < k → e.ts ≠ 0 → (L.getD (k - 1) default).ts ≠ 0 ∧ (L.getD (k - 1) default).ts < e.ts) := by
 rw [follow_at hk e, show ((k : Int) - 1).toNat = k - 1 by omega]
 simp only [Bool.and_eq_false_iff, decide_eq_false_iff_not, bne_eq_false_iff_eq, Bool.or_eq_false_iff, beq_eq_false_iff_ne]
 constructor
 ·rintro h h0 h1
  rcases h with h | h | ⟨h2, h3⟩
  ·omega
  ·exact absurd h h1
  ·exact ⟨h2, by omega⟩
 ·intro h
  by_cases h0 : 0 < k
  ·by_cases h1 : e.ts = 0
   ·exact .inr (.inl h1)
   ·obtain ⟨h2, h3⟩ := h h0 h1
    exact .inr (.inr ⟨h2, by omega⟩)
  ·exact .inl (by omega)

theorem right_iff' (L : List EEntry) : ∀ n k, L.length - k = n → k ≤ L.length → (rightF (L.take k) (L.drop k) = 0 ↔ ∀ j, k ≤ j → j < L.length → rightK L j)
 | 0, k, h, hk => by
  rw [List.drop_eq_nil_of_le (by omega)]
  exact ⟨fun _ j h1 h2 => by omega, fun _ => rfl⟩
 | n + 1, k, h, hk => by
  have hk2 : k < L.length := by omega
  rw [rightF_at hk2]
  have ih := right_iff' L n (k + 1) (by omega) (by omega)
  constructor
  ·intro h1 j h2 h3
   by_cases c1 : batchCheck (L.getD k default).batch = 0
   ·rw [if_neg (by rw [c1]; decide)] at h1
    by_cases c2 : ((L.take k).any (fun x => tw x (L.getD k default)) || follow (L.take k) (L.getD k default)) = true
    ·rw [if_pos c2] at h1; cases h1
    ·rw [if_neg c2] at h1
     rw [Bool.or_eq_true, not_or] at c2
     by_cases e : j = k
     ·subst e
      exact ⟨c1, (any_false hk _).1 (by simpa using c2.1), (follow_false hk _).1 (by simpa using c2.2)⟩
     ·exact ih.1 h1 j (by omega) h3
   ·rw [if_pos c1] at h1; exact absurd h1 c1
  ·intro h1
   have h2 := h1 k (Nat.le_refl _) hk2
   rw [if_neg (by rw [h2.chk]; decide), if_neg (by rw [(any_false hk _).2 h2.tw, (follow_false hk _).2 h2.fol]; decide)]
   exact ih.2 fun j h3 h4 => h1 j (by omega) h4

theorem right_iff (L : List EEntry) : rightL L = 0 ↔ Rt L := by
 have := right_iff' L L.length 0 (by omega) (Nat.zero_le _)
 rw [List.take_zero, List.drop_zero] at this
 exact this.trans ⟨fun h k hk => h k (Nat.zero_le _) hk, fun h j _ hj => h j hj⟩

theorem Rt.ops {L : List EEntry} (h : Rt L) {e : EEntry} (he : e ∈ L) : batchCheck e.batch = 0 ∧ e.batch.ops.length ≤ 4 := by
 obtain ⟨j, hj, rfl⟩ := List.getElem_of_mem he
 have := (h j hj).chk
 rw [getD_lt hj] at this
 exact ⟨this, (batchCheck_ok this).2.2.2.2.1⟩

theorem Copy_eq (L : List EEntry) (hn : L.length ≤ 1000) (h4 : ∀ e ∈ L, e.batch.ops.length ≤ 1000) : F_ref17_Copy L = some L := by
 unfold F_ref17_Copy
 refine iter_rule (fun s : List EEntry × Int => L.length - s.2.toNat) (fun _ => some L) (fun s => 0 ≤ s.2 ∧ s.2 ≤ (L.length : Int) ∧ s.1 = L.take s.2.toNat) ?_ FU _ ⟨by simp, by simp, by simp⟩ (by unfold FU; simp only; omega)
 rintro rc ⟨o, i⟩ ⟨h1, h2, h3⟩ hrc
 simp only at h1 h2 h3 hrc
 obtain ⟨j, rfl⟩ := Int.eq_ofNat_of_zero_le h1
 rw [toNat_cast] at h3
 simp only [F_ref17_Copy_l1, toNat_cast] at *
 by_cases c : j < L.length
 ·have ho := h4 (L.getD j default) (by rw [getD_lt c]; exact List.getElem_mem c)
  have hol : o.length = j := by rw [h3, List.length_take]; omega
  rw [if_pos (decide_eq_true (by omega)), chk_t (by omega), chk_t (by omega), chk_t (by simp only [List.length_nil]; omega), chk_t (by simp only [List.length_cons, List.length_nil]; omega), chk_t (by unfold inI; omega)]
  refine hrc (_, (j : Int) + 1) ⟨by simp only; omega, by simp only; omega, ?_⟩ (by simp only [toNat_cast1]; omega)
  simp only [toNat_cast1]
  rw [take_snoc (d := default) c, h3]; rfl
 ·rw [if_neg (by rw [decide_eq_false (by omega)]; decide), h3, List.take_of_length_le (by omega)]

-- an entry at a place
def zeroT (e : EEntry) : EEntry := { e with ts := 0 }

def stampT (e : EEntry) (t : Int) : EEntry := { e with ts := t }

def putE (L : List EEntry) (n : Nat) (e : EEntry) : List EEntry :=
 if n < L.length ∧ tw (L.getD n default) e = true then (if (L.getD n default).ts = e.ts then L else L.take n ++ stampT (L.getD n default) e.ts :: (L.drop (n + 1)).map zeroT)
 else L.take n ++ [e]

structure canSet (L : List EEntry) (i : Int) (e : EEntry) : Prop where
 ge : 0 ≤ i
 le : i ≤ (L.length : Int)
 chk : batchCheck e.batch = 0
 lt : i < 100
 tw : ∀ j : Nat, (j : Int) < i → tw (L.getD j default) e = false
 fol : 0 < i → e.ts ≠ 0 → (L.getD (i - 1).toNat default).ts ≠ 0 ∧ (L.getD (i - 1).toNat default).ts < e.ts

def setC (L : List EEntry) (i : Int) (e : EEntry) : Int :=
 if i < 0 ∨ i > (L.length : Int) then 1 else if batchCheck e.batch ≠ 0 then batchCheck e.batch else if i ≥ 100 then 6
 else if (L.take i.toNat).any (fun x => tw x e) = true then 18 else if follow (L.take i.toNat) e = true then 18 else 0

theorem setC_ok {L : List EEntry} {i : Int} {e : EEntry} : setC L i e = 0 ↔ canSet L i e := by
 unfold setC
 constructor
 ·intro h
  split at h; · cases h
  rename_i c1
  split at h; · rename_i c2; exact absurd h c2
  rename_i c2
  split at h; · cases h
  rename_i c3
  split at h; · cases h
  rename_i c4
  split at h; · cases h
  rename_i c5
  have c4' := (any_false (L := L) (k := i.toNat) (by omega) (fun x => tw x e)).1 (by simpa using c4)
  have c5' := (follow_false (L := L) (k := i.toNat) (by omega) e).1 (by simpa using c5)
  refine ⟨by omega, by omega, by simpa using c2, by omega, fun j hj => c4' j (by omega), fun h0 h1 => ?_⟩
  have := c5' (by omega) h1
  rw [show (i - 1).toNat = i.toNat - 1 by omega]; exact this
 ·intro h
  obtain ⟨h1, h2, h3, h4, h5, h6⟩ := h
  rw [if_neg (by omega), if_neg (by rw [h3]; decide), if_neg (by omega), if_neg, if_neg]
  ·rw [(follow_false (L := L) (k := i.toNat) (by omega) e).2 fun h0 h1' => ?_]; · decide
   have := h6 (by omega) h1'
   rw [show (i - 1).toNat = i.toNat - 1 by omega] at this; exact this
  ·rw [(any_false (L := L) (k := i.toNat) (by omega) (fun x => tw x e)).2 fun j hj => h5 j (by omega)]; decide

-- elements of what is put
theorem put_get {L : List EEntry} {n : Nat} {e : EEntry} (hn : n ≤ L.length) (j : Nat) (hj : j < n) : (putE L n e).getD j default = L.getD j default := by
 unfold putE
 have hl : (L.take n).length = n := by rw [List.length_take]; omega
 split
 ·split
  ·rfl
  ·rw [getD_lt (by rw [List.length_append]; omega), List.getElem_append_left (by omega), List.getElem_take]; exact (getD_lt (by omega)).symm
 ·rw [getD_lt (by rw [List.length_append]; omega), List.getElem_append_left (by omega), List.getElem_take]; exact (getD_lt (by omega)).symm

theorem put_len {L : List EEntry} {n : Nat} {e : EEntry} (hn : n ≤ L.length) : n < (putE L n e).length ∧ (putE L n e).length ≤ max L.length (n + 1) := by
 unfold putE
 have hl : (L.take n).length = n := by rw [List.length_take]; omega
 split
 ·rename_i c
  split
  ·omega
  ·rw [List.length_append, List.length_cons, List.length_map, List.length_drop]; omega
 ·rw [List.length_append, List.length_cons, List.length_nil]; omega

/-- what stands at the place then -/
theorem put_at {L : List EEntry} {n : Nat} {e : EEntry} (hn : n ≤ L.length) : tw ((putE L n e).getD n default) e = true ∧ ((putE L n e).getD n default).ts = e.ts := by
 have hl : (L.take n).length = n := by rw [List.length_take]; omega
 unfold putE
 split
 ·rename_i c
  split
  ·rename_i d; exact ⟨c.2, d⟩
  ·have : (L.take n ++ stampT (L.getD n default) e.ts :: (L.drop (n + 1)).map zeroT).getD n default = stampT (L.getD n default) e.ts := by
    rw [getD_lt (by rw [List.length_append, List.length_cons]; omega), List.getElem_append_right (by omega)]; simp [hl]
   rw [this]; exact ⟨c.2, rfl⟩
 ·have : (L.take n ++ [e]).getD n default = e := by
   rw [getD_lt (by rw [List.length_append, List.length_cons]; omega), List.getElem_append_right (by omega)]; simp [hl]
  rw [this]; exact ⟨tw_self e, rfl⟩

theorem put_right {L : List EEntry} {i : Int} {e : EEntry} (hR : Rt L) (h : canSet L i e) : Rt (putE L i.toNat e) := by
 obtain ⟨h1, h2, h3, h4, h5, h6⟩ := h
 have hn : i.toNat ≤ L.length := by omega
 have hi : (i - 1).toNat = i.toNat - 1 := by omega
 rw [hi] at h6
 have hp := put_len (e := e) hn
 -- places ahead
 have ahead : ∀ k, k < i.toNat → rightK (putE L i.toNat e) k := fun k hk => by
  have q := hR k (by omega)
  refine ⟨?_, fun j hj => ?_, fun h0 => ?_⟩
  ·rw [put_get hn k hk]; exact q.chk
  ·rw [put_get hn k hk, put_get hn j (by omega)]; exact q.tw j hj
  ·rw [put_get hn k hk, put_get hn (k - 1) (by omega)]; exact q.fol h0
 intro k hk
 by_cases c : k < i.toNat
 ·exact ahead k c
 by_cases ct : i.toNat < L.length ∧ tw (L.getD i.toNat default) e = true
 ·by_cases cs : (L.getD i.toNat default).ts = e.ts
  ·have : putE L i.toNat e = L := by unfold putE; rw [if_pos ct, if_pos cs]
   rw [this] at hk ⊢; exact hR k hk
  ·have hl : (L.take i.toNat).length = i.toNat := by rw [List.length_take]; omega
   have ep : putE L i.toNat e = L.take i.toNat ++ stampT (L.getD i.toNat default) e.ts :: (L.drop (i.toNat + 1)).map zeroT := by unfold putE; rw [if_pos ct, if_neg cs]
   have e0 : (putE L i.toNat e).getD i.toNat default = stampT (L.getD i.toNat default) e.ts := by
    rw [ep, getD_lt (by rw [List.length_append, List.length_cons]; omega), List.getElem_append_right (by omega)]; simp [hl]
   have e1 : ∀ j, i.toNat < j → j < L.length → (putE L i.toNat e).getD j default = zeroT (L.getD j default) := fun j hj hj2 => by
    rw [ep, getD_lt (by rw [List.length_append, List.length_cons, List.length_map, List.length_drop]; omega), getD_lt hj2, List.getElem_append_right (by omega)]
    simp only [hl]
    obtain ⟨q, rfl⟩ : ∃ q, j = i.toNat + 1 + q := ⟨j - i.toNat - 1, by omega⟩
    simp only [show i.toNat + 1 + q - i.toNat = q + 1 by omega, List.getElem_cons_succ, List.getElem_map, List.getElem_drop]
   have hkl : k < L.length := by rw [ep, List.length_append, List.length_cons, List.length_map, List.length_drop] at hk; omega
   have hb : ∀ j, j < L.length → ((putE L i.toNat e).getD j default).batch = (L.getD j default).batch := fun j hj => by
    by_cases c1 : j < i.toNat
    ·rw [put_get hn j c1]
    ·by_cases c2 : j = i.toNat
     ·rw [c2, e0]; rfl
     ·rw [e1 j (by omega) hj]; rfl
   have q := hR k hkl
   refine ⟨by rw [hb k hkl]; exact q.chk, fun j hj => ?_, fun h0 ht => ?_⟩
   ·have := q.tw j hj
    unfold tw at this ⊢
    rw [hb k hkl, hb j (by omega)]; exact this
   ·by_cases c2 : k = i.toNat
    ·subst c2
     rw [e0] at ht ⊢
     rw [put_get hn _ (by omega)]
     exact h6 (by omega) ht
    ·rw [e1 k (by omega) hkl] at ht
     exact absurd rfl ht
 ·have hl : (L.take i.toNat).length = i.toNat := by rw [List.length_take]; omega
  have ep : putE L i.toNat e = L.take i.toNat ++ [e] := by unfold putE; rw [if_neg ct]
  have hkk : k = i.toNat := by rw [ep, List.length_append, List.length_cons, List.length_nil] at hk; omega
  subst hkk
  have e0 : (putE L i.toNat e).getD i.toNat default = e := by
   rw [ep, getD_lt (by rw [List.length_append, List.length_cons]; omega), List.getElem_append_right (by omega)]; simp [hl]
  refine ⟨by rw [e0]; exact h3, fun j hj => ?_, fun h0 ht => ?_⟩
  ·rw [e0, put_get hn j hj]; exact h5 j (by omega)
  ·rw [e0] at ht ⊢
   rw [put_get hn _ (by omega)]
   exact h6 (by omega) ht

-- the document's
theorem ref_Set_l2 {L : List EEntry} {n : Nat} {e : EEntry} (hn : n < L.length) (hl : L.length ≤ 1000) (ht : tw (L.getD n default) e = true) : iter (F_ref17_Log_Set_l2 (n : Int) e) FU (L, (n : Int) + 1) = some (0, ⟨putE L n e⟩) := by
 have hset : ∀ m : List EEntry, n < m.length → m.set n ({ e with batch := ({ client := ((m.getD n default).batch).client, req := ((m.getD n default).batch).req, ops := ((m.getD n default).batch).ops } : EBatch) } : EEntry) = m.set n (stampT (m.getD n default) e.ts) := fun m _ => rfl
 by_cases c : (L.getD n default).ts = e.ts
 ·have hp : putE L n e = L := by unfold putE; rw [if_pos ⟨hn, ht⟩, if_pos c]
  refine iter_rule (fun s : List EEntry × Int => 0) (fun _ => some (0, (⟨putE L n e⟩ : Eref17_Log))) (fun s => s.1 = L ∧ s.2 = (n : Int) + 1) ?_ FU _ ⟨rfl, rfl⟩ (by unfold FU; omega)
  rintro rc ⟨m, k⟩ ⟨h1, h2⟩ _
  simp only at h1 h2
  subst h1; subst h2
  unfold F_ref17_Log_Set_l2
  dsimp only
  rw [chk_t (fun _ => by omega), toNat_cast, if_neg (by rw [c, bne_self_eq_false, Bool.and_false]; decide), chk_t (by omega), hset m hn, hp, ← c]
  congr 3
  refine List.ext_getElem (by rw [List.length_set]) fun j h3 h4 => ?_
  rw [List.getElem_set]
  split
  ·rename_i e1; subst e1; rw [getD_lt hn]; rfl
  ·rfl
 ·have hp : putE L n e = L.take n ++ stampT (L.getD n default) e.ts :: (L.drop (n + 1)).map zeroT := by unfold putE; rw [if_pos ⟨hn, ht⟩, if_neg c]
  refine iter_rule (fun s : List EEntry × Int => L.length - s.2.toNat) (fun _ => some (0, (⟨putE L n e⟩ : Eref17_Log))) (fun s => (n : Int) + 1 ≤ s.2 ∧ s.2 ≤ (L.length : Int) ∧ s.1.length = L.length ∧ ∀ j, j < L.length → s.1.getD j default = if n < j ∧ (j : Int) < s.2 then zeroT (L.getD j default) else L.getD j default) ?_ FU _ ⟨Int.le_refl _, by omega, rfl, fun j hj => by rw [if_neg (by rintro ⟨h1, h2⟩; simp only at h2; omega)]⟩ (by unfold FU; simp only; omega)
  rintro rc ⟨m, k⟩ ⟨h1, h2, h3, h4⟩ hrc
  simp only at h1 h2 h3 h4 hrc
  obtain ⟨q, rfl⟩ := Int.eq_ofNat_of_zero_le (show 0 ≤ k by omega)
  have hmn : m.getD n default = L.getD n default := by rw [h4 n hn, if_neg (by omega)]
  unfold F_ref17_Log_Set_l2
  dsimp only
  rw [chk_t (fun _ => by omega), toNat_cast, toNat_cast, hmn, show ((L.getD n default).ts != e.ts) = true from bne_iff_ne.2 c, Bool.and_true, h3]
  by_cases d : q < L.length
  ·rw [if_pos (decide_eq_true (by omega)), chk_t (by omega), chk_t (by unfold inI; omega)]
   refine hrc (_, (q : Int) + 1) ⟨by simp only; omega, by simp only; omega, by simp only [List.length_set]; exact h3, fun j hj => ?_⟩ (by simp only [toNat_cast1, toNat_cast]; omega)
   simp only
   have hq := h4 q d
   rw [if_neg (by omega)] at hq
   rw [getD_lt (by rw [List.length_set]; omega), List.getElem_set]
   by_cases e1 : q = j
   ·subst e1
    rw [if_pos rfl, if_pos (by omega), hq]; rfl
   ·rw [if_neg e1, ← getD_lt (d := default) (by omega), h4 j hj]
    by_cases e2 : n < j ∧ (j : Int) < (q : Int)
    ·rw [if_pos e2, if_pos (by omega)]
    ·rw [if_neg e2, if_neg (by omega)]
  ·rw [if_neg (by rw [decide_eq_false (by omega)]; decide), chk_t (by omega)]
   have e5 : m.set n ({ e with batch := ({ client := ((L.getD n default).batch).client, req := ((L.getD n default).batch).req, ops := ((L.getD n default).batch).ops } : EBatch) } : EEntry) = putE L n e := by
    show m.set n (stampT (L.getD n default) e.ts) = _
    have hl2 : (L.take n).length = n := by rw [List.length_take]; omega
    rw [hp]
    refine List.ext_getElem (by rw [List.length_set, List.length_append, List.length_cons, List.length_map, List.length_drop]; omega) fun j h5 h6 => ?_
    rw [List.length_set] at h5
    rw [List.getElem_set]
    by_cases e1 : n = j
    ·subst e1
     rw [if_pos rfl, List.getElem_append_right (by omega)]; simp [hl2]
    ·rw [if_neg e1, ← getD_lt (d := default) h5, h4 j (by omega)]
     by_cases e2 : n < j
     ·rw [if_pos (by omega), List.getElem_append_right (by omega), getD_lt (by omega)]
      simp only [hl2]
      obtain ⟨p, rfl⟩ : ∃ p, j = n + 1 + p := ⟨j - n - 1, by omega⟩
      simp only [show n + 1 + p - n = p + 1 by omega, List.getElem_cons_succ, List.getElem_map, List.getElem_drop]
     ·rw [if_neg (by omega), List.getElem_append_left (by omega), List.getElem_take, getD_lt (by omega)]
   rw [e5]

theorem ref_Set {L : List EEntry} (hl : L.length ≤ 1000) (h4 : ∀ e ∈ L, e.batch.ops.length ≤ 1000) (i : Int) (e : EEntry) : F_ref17_Log_Set ⟨L⟩ i e = some (setC L i e, ⟨if setC L i e = 0 then putE L i.toNat e else L⟩) := by
 unfold F_ref17_Log_Set
 by_cases c1 : i < 0 ∨ i > (L.length : Int)
 ·have : setC L i e = 1 := by unfold setC; rw [if_pos c1]
  rw [this, if_pos (by rw [Bool.or_eq_true, decide_eq_true_eq, decide_eq_true_eq]; exact c1)]; rfl
 rw [if_neg (by rw [Bool.or_eq_true, decide_eq_true_eq, decide_eq_true_eq]; exact c1), ref08_Check, Option.bind_some]
 by_cases c2 : batchCheck e.batch = 0
 ·rw [c2, if_neg (by decide)]
  by_cases c3 : i ≥ 100
  ·have : setC L i e = 6 := by unfold setC; rw [if_neg c1, if_neg (by rw [c2]; decide), if_pos c3]
   rw [this, if_pos (decide_eq_true c3)]; rfl
  rw [if_neg (by rw [decide_eq_false c3]; decide)]
  obtain ⟨n, rfl⟩ := Int.eq_ofNat_of_zero_le (show 0 ≤ i by omega)
  have hs : setC L (n : Int) e = if (L.take n).any (fun x => tw x e) = true then 18 else if follow (L.take n) e = true then 18 else 0 := by
   unfold setC; rw [if_neg c1, if_neg (by rw [c2]; decide), if_neg c3, toNat_cast]
  have hop := (batchCheck_ok c2).2.2.2.2.1
  refine iter_up n (fun k => if ((L.take n).drop k).any (fun x => tw x e) = true then some (18, ⟨L⟩) else if follow (L.take n) e = true then some (18, ⟨L⟩) else some (0, ⟨putE L n e⟩)) (by unfold bdM; omega) (fun rc k hk hrc => ?_) |>.trans ?_
  ·simp only [F_ref17_Log_Set_l1, toNat_cast]
   by_cases d : k < n
   ·rw [if_pos (decide_eq_true (by omega)), chk_t (by omega), any_drop (l := L) d (by omega), ref08_Twins, Option.bind_some]
    by_cases t : tw (L.getD k default) e = true
    ·rw [if_pos (by exact t), if_pos (by rw [t]; rfl)]
    ·rw [if_neg (by exact t), chk_t (by unfold inI; omega), hrc d, show tw (L.getD k default) e = false from by simpa using t, Bool.false_or]
   ·obtain rfl : k = n := by omega
    rw [if_neg (by rw [decide_eq_false (by omega)]; decide), List.drop_eq_nil_of_le (by rw [List.length_take]; omega), List.any_nil, if_neg (show ¬ (false = true) by decide)]
    have hf := follow_at (l := L) (k := k) (by omega) e
    have hf' : (((e.ts != 0) && (decide ((k : Int) > 0))) && ((((L.getD ((k : Int) - 1).toNat default).ts) == 0) || (decide ((L.getD ((k : Int) - 1).toNat default).ts ≥ e.ts)))) = follow (L.take k) e := by
     rw [hf]; cases (e.ts != 0) <;> cases decide ((k : Int) > 0) <;> rfl
    have hpos : ∀ {b : Bool}, (((e.ts != 0) && (decide ((k : Int) > 0))) && b) = true → 0 < k := fun {b} h => by
     rw [Bool.and_eq_true, Bool.and_eq_true] at h
     have := of_decide_eq_true h.1.2; omega
    have hpos' : ((e.ts != 0) && (decide ((k : Int) > 0))) = true → 0 < k := fun h => by
     rw [Bool.and_eq_true] at h
     have := of_decide_eq_true h.2; omega
    rw [chk_t (fun h => by have := hpos' h; unfold inI; omega), chk_t (fun h => by have := hpos' h; omega), chk_t (fun h => by have := hpos h; unfold inI; omega), chk_t (fun h => by have := hpos h; omega), hf']
    by_cases f : follow (L.take k) e = true
    ·rw [if_pos f, if_pos f]
    ·rw [if_neg f, if_neg f, chk_t (fun h => by have := of_decide_eq_true h; omega)]
     by_cases g : k < L.length
     ·rw [decide_eq_true (show (k : Int) < (L.length : Int) by omega), gif_true, ref08_Twins, Option.bind_some, Bool.true_and]
      by_cases t : tw (L.getD k default) e = true
      ·rw [if_pos (by exact t), Copy_eq L hl h4, Option.bind_some, chk_t (by unfold inI; omega)]
       exact ref_Set_l2 g hl t
      ·rw [if_neg (by exact t), chk_t (by omega), Copy_eq _ (by rw [List.length_take]; omega) (fun x hx => h4 x (List.mem_of_mem_take hx)), Option.bind_some, Copy_eq _ (by simp) (fun x hx => by rw [List.mem_singleton] at hx; subst hx; omega), Option.bind_some, chk_t (by simp only [List.length_take, List.length_cons, List.length_nil]; omega)]
       unfold putE
       rw [if_neg (fun h => t h.2)]
     ·rw [decide_eq_false (show ¬ (k : Int) < (L.length : Int) by omega), gif_false, Option.bind_some, Bool.false_and, if_neg (by decide), chk_t (by omega), Copy_eq _ (by rw [List.length_take]; omega) (fun x hx => h4 x (List.mem_of_mem_take hx)), Option.bind_some, Copy_eq _ (by simp) (fun x hx => by rw [List.mem_singleton] at hx; subst hx; omega), Option.bind_some, chk_t (by simp only [List.length_take, List.length_cons, List.length_nil]; omega)]
      unfold putE
      rw [if_neg (fun h => g h.1)]
  ·rw [List.drop_zero, hs]
   by_cases a : (L.take n).any (fun x => tw x e) = true
   ·rw [if_pos a, if_pos a]; rfl
   ·rw [if_neg a, if_neg a]
    by_cases f : follow (L.take n) e = true
    ·rw [if_pos f, if_pos f]; rfl
    ·rw [if_neg f, if_neg f]; rfl
 ·have : setC L i e = batchCheck e.batch := by unfold setC; rw [if_neg c1, if_pos c2]
  rw [this, if_pos (by rw [bne_iff_ne]; exact c2), if_neg c2]

end Go.Proofs.Ytmdoimpeacndaaa
