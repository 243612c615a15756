/- What later operations cover goes: plain. -/
import Derived.Test.YtglfajjcgbfehaaYRsR
namespace Go.Proofs.Ytglfajjcgbfehaa

/-- an entry's operations, less what is covered -/
def thinS : List EOp → List (ByteArray × Bool) → Int → List EOp × List (ByteArray × Bool) × Int
 | [], m, g => ([], m, g)
 | o :: r, m, g => if (mget m o.key).getD false = true then thinS r m (g + 1) else (o :: (thinS r (mset m o.key true) g).1, (thinS r (mset m o.key true) g).2)

theorem thinS_sub : ∀ (l : List EOp) (m : List (ByteArray × Bool)) (g : Int), (thinS l m g).1.Sublist l ∧ g ≤ (thinS l m g).2.2 ∧ (thinS l m g).2.2 ≤ g + l.length
 | [], m, g => ⟨List.Sublist.refl _, Int.le_refl _, by simp [thinS]⟩
 | o :: r, m, g => by
  unfold thinS
  by_cases c : (mget m o.key).getD false = true
  ·rw [if_pos c]
   obtain ⟨h1, h2, h3⟩ := thinS_sub r m (g + 1)
   exact ⟨h1.cons o, by omega, by rw [List.length_cons]; omega⟩
  ·rw [if_neg c]
   obtain ⟨h1, h2, h3⟩ := thinS_sub r (mset m o.key true) g
   exact ⟨h1.cons_cons o, h2, by rw [List.length_cons]; show (thinS r (mset m o.key true) g).2.2 ≤ _; omega⟩

theorem thin1_ok {o : EOp} {m : List (ByteArray × Bool)} {g : Int} (hk : o.key.size ≤ maxLen) (h0 : 0 ≤ g) (hg : g < 4611686018427387904) : F_rlog_Thin1 o m g = some (if (mget m o.key).getD false = true then (true, m, g + 1) else (false, mset m o.key true, g)) := by
 unfold F_rlog_Thin1
 rw [chk_t hk]
 by_cases c : (mget m o.key).getD false = true
 ·rw [if_pos c, if_pos c, chk_t (by unfold inI; omega)]
 ·rw [if_neg c, if_neg c, chk_t hk]

theorem thin_index {s : List EOp} (hk : ∀ o ∈ s, o.key.size ≤ maxLen) (hl : s.length ≤ 1000) : ∀ (N k : Nat) (m : List (ByteArray × Bool)) (g : Int), k ≤ s.length → s.length - k < N → 0 ≤ g → g + s.length < 4611686018427387904 →
  ∃ r, iter (F_thin_IndexFunc_l1 s) N ((k : Int), m, g) = some r ∧ ((r.1 = -1 ∧ thinS (s.drop k) m g = (s.drop k, r.2)) ∨ (∃ j : Nat, r.1 = (j : Int) ∧ k ≤ j ∧ j < s.length ∧ g ≤ r.2.2 ∧ r.2.2 ≤ g + 1 ∧ thinS (s.drop k) m g = ((s.drop k).take (j - k) ++ (thinS (s.drop (j + 1)) r.2.1 r.2.2).1, (thinS (s.drop (j + 1)) r.2.1 r.2.2).2)))
 | 0, k, _, _, _, h, _, _ => by omega
 | N + 1, k, m, g, h1, h2, h3, h4 => by
  show ∃ r, F_thin_IndexFunc_l1 s (iter (F_thin_IndexFunc_l1 s) N) ((k : Int), m, g) = some r ∧ _
  have hrec := thin_index hk hl N (k + 1)
  generalize iter (F_thin_IndexFunc_l1 s) N = rc at hrec ⊢
  unfold F_thin_IndexFunc_l1
  dsimp only
  by_cases c : k < s.length
  ·have ho : (s.getD k default).key.size ≤ maxLen := hk _ (by rw [getD_lt c]; exact List.getElem_mem _)
   rw [if_pos (decide_eq_true (by omega)), chk_t (by omega), toNat_cast, thin1_ok ho h3 (by omega), Option.bind_some, drop_cons (d := default) c]
   by_cases q : (mget m (s.getD k default).key).getD false = true
   ·rw [if_pos q]
    dsimp only
    rw [if_pos rfl]
    refine ⟨_, rfl, .inr ⟨k, rfl, Nat.le_refl _, c, by simp only; omega, by simp only; omega, ?_⟩⟩
    rw [thinS, if_pos q, Nat.sub_self]; rfl
   ·rw [if_neg q]
    dsimp only
    rw [if_neg (by decide), chk_t (by unfold inI; omega)]
    obtain ⟨r, e1, e2⟩ := hrec (mset m (s.getD k default).key true) g (by omega) (by omega) h3 h4
    refine ⟨r, e1, ?_⟩
    rw [thinS, if_neg q]
    rcases e2 with ⟨a1, a2⟩ | ⟨j, a1, a2, a3, a4, a5, a6⟩
    ·exact .inl ⟨a1, by rw [a2]⟩
    ·refine .inr ⟨j, a1, by omega, a3, a4, a5, ?_⟩
     rw [a6]
     obtain ⟨p, hp⟩ : ∃ p, j - k = p + 1 := ⟨j - k - 1, by omega⟩
     rw [hp, List.take_succ_cons, show p = j - (k + 1) by omega]; rfl
  ·rw [if_neg (by simp only [decide_eq_true_eq]; omega)]
   exact ⟨_, rfl, .inl ⟨rfl, by rw [List.drop_eq_nil_of_le (by omega)]; rfl⟩⟩

theorem thin_del_loop {s : List EOp} (hk : ∀ o ∈ s, o.key.size ≤ maxLen) (hl : s.length ≤ 1000) : ∀ (N i j : Nat) (S : List EOp) (m : List (ByteArray × Bool)) (g : Int), i < j → j ≤ s.length → s.length - j < N → S.length = s.length → S.drop j = s.drop j → 0 ≤ g → g + s.length < 4611686018427387904 + j →
  iter F_thin_DeleteFunc_l1 N (S, (i : Int), (j : Int), m, g) = some (S.take i ++ (thinS (s.drop j) m g).1, (thinS (s.drop j) m g).2)
 | 0, _, _, _, _, _, _, _, h, _, _, _, _ => by omega
 | N + 1, i, j, S, m, g, h1, h2, h3, h4, h5, h6, h7 => by
  show F_thin_DeleteFunc_l1 (iter F_thin_DeleteFunc_l1 N) (S, (i : Int), (j : Int), m, g) = _
  have hrec := thin_del_loop hk hl N
  generalize iter F_thin_DeleteFunc_l1 N = rc at hrec ⊢
  unfold F_thin_DeleteFunc_l1
  dsimp only
  by_cases c : j < s.length
  ·have e0 : S.getD j default = s.getD j default := by
    have := congrArg (fun l => l.getD 0 default) h5
    simpa [List.getD_eq_getElem?_getD] using this
   have ho : (s.getD j default).key.size ≤ maxLen := hk _ (by rw [getD_lt c]; exact List.getElem_mem _)
   have hd : S.drop (j + 1) = s.drop (j + 1) := by
    have := congrArg (fun l => l.drop 1) h5
    simpa [List.drop_drop] using this
   rw [if_pos (decide_eq_true (by omega)), chk_t (by omega), toNat_cast, e0, thin1_ok ho h6 (by omega), Option.bind_some, drop_cons (d := default) c]
   by_cases q : (mget m (s.getD j default).key).getD false = true
   ·rw [if_pos q]
    dsimp only
    rw [if_neg (by decide), F_thin_DeleteFunc_k2, chk_t (by unfold inI; omega), thinS, if_pos q]
    exact hrec i (j + 1) S m (g + 1) (by omega) (by omega) (by omega) h4 hd (by omega) (by omega)
   ·rw [if_neg q]
    dsimp only
    rw [if_pos (by decide), chk_t (by omega), chk_t (by unfold inI; omega), F_thin_DeleteFunc_k2, chk_t (by unfold inI; omega), toNat_cast, thinS, if_neg q]
    refine (hrec (i + 1) (j + 1) (S.set i (s.getD j default)) (mset m (s.getD j default).key true) g (by omega) (by omega) (by omega) (by rw [List.length_set]; exact h4) ?_ h6 (by omega)).trans ?_
    ·rw [List.drop_set_of_lt (by omega), hd]
    ·have : (S.set i (s.getD j default)).take (i + 1) = S.take i ++ [s.getD j default] := by
      rw [take_snoc (d := default) (by rw [List.length_set]; omega)]
      congr 1
      ·rw [List.take_set_of_le (Nat.le_refl _)]
      ·rw [getD_set_s (by omega)]
     rw [this, List.append_assoc]; rfl
  ·rw [if_neg (by simp only [decide_eq_true_eq]; omega), chk_t (by omega), toNat_cast, chk_t (by simp; omega), List.drop_eq_nil_of_le (by omega)]
   rw [List.take_append_of_le_length (by rw [List.length_take]; omega), List.take_take, Nat.min_self]
   simp [thinS]

theorem thin_del {s : List EOp} (hk : ∀ o ∈ s, o.key.size ≤ maxLen) (hl : s.length ≤ 1000) (m : List (ByteArray × Bool)) (g : Int) (h0 : 0 ≤ g) (hg : g + s.length < 4611686018427387904) : F_thin_DeleteFunc s m g = some (thinS s m g) := by
 unfold F_thin_DeleteFunc F_thin_IndexFunc
 obtain ⟨r, e1, e2⟩ := thin_index hk hl FU 0 m g (Nat.zero_le _) (by unfold FU; omega) h0 hg
 rw [show ((0 : Nat) : Int) = 0 from rfl] at e1
 rw [e1, Option.bind_some]
 rcases e2 with ⟨a1, a2⟩ | ⟨j, a1, a2, a3, a4, a5, a6⟩
 ·rw [if_pos (by rw [a1]; rfl)]
  rw [List.drop_zero] at a2
  rw [a2]
 ·rw [if_neg (by rw [a1, beq_iff_eq]; omega), a1, chk_t (by unfold inI; omega)]
  have := thin_del_loop hk hl FU j (j + 1) s r.2.1 r.2.2 (by omega) (by omega) (by unfold FU; omega) rfl rfl (by omega) (by omega)
  rw [show ((j + 1 : Nat) : Int) = (j : Int) + 1 from rfl] at this
  rw [this]
  rw [List.drop_zero, Nat.sub_zero] at a6
  rw [a6]

end Go.Proofs.Ytglfajjcgbfehaa
